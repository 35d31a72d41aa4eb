/-
  Contracts of the functions that the statement reaches, and plain lemmas on lists, part 2. Conditions: those that each theorem names.
-/
import Derived.Test.YtemhlafdlflilaaGreatDoorHg1
import Derived.Lib.SlKeysI
import Derived.Maps.OwnSet
import Derived.Maps.OwnOps
import Derived.Maps.Ext
import Derived.Conc.SmallLaws
import Derived.Conc.LoneSelect
import Derived.Shelf.SlIterI.Nil
import Derived.Shelf.SortM.Plain
import Derived.Shelf.SortM.SortNone
import Derived.Ground.GgzProg
import Derived.Ground.SlgmProg
import Derived.Shelf.SlicesE.DeleteFunc
import Derived.Ground.SlgfProg
import Derived.Lib.SliceRun
import Derived.Lib.OwnBridge
set_option linter.unusedVariables false
set_option linter.unusedSimpArgs false
namespace Go.Proofs.Hg
open Go Go.RowKit Go.Proofs Go.Shelf
theorem law64 : Maps.Keyed Tryz.prog 2 := Maps.int_keyed Tryz.underlying2
theorem zero64 (w : World) : (zeroValue 3).run Tryz.prog w = .ok (.int .i64 0) w := by kernel_rfl
def ikey (x : Int) : Lit := .int .i64 x
def one : DataW Unit := .lit (.int .i64 1)
/-- A map that holds 1 at just the keys T. -/
structure MapIs (D : DataW Unit) (T : List Int) : Prop where
  tidy : Maps.Tidy D
  has : ∀ x, Maps.has D (ikey x) = decide (x ∈ T)
  at_ : ∀ x ∈ T, ∀ z, D.atKey (ikey x) z = one
  size : Maps.size D = T.length
  up : T.Pairwise (· < ·)
theorem MapIs.empty : MapIs (.map []) [] := ⟨Maps.tidy_empty, fun x => by simp [Maps.has], fun x hx => by simp at hx, rfl, .nil⟩
theorem ikey_ne {x y : Int} (h : x ≠ y) : ikey x ≠ ikey y := fun e => h (by unfold ikey at e; injection e)
theorem MapIs.at0 {D : DataW Unit} {T : List Int} (h : MapIs D T) {x : Int} (hx : x ∉ T) (z : DataW Unit) : D.atKey (ikey x) z = z := Maps.atKey_of_not_has (by rw [h.has]; simpa using hx) z
/-- One more key. -/
def insT (T : List Int) (x : Int) : List Int := T.takeWhile (fun y => decide (y < x)) ++ [x] ++ T.dropWhile (fun y => decide (y < x))
theorem mem_insT {T : List Int} {x y : Int} : y ∈ insT T x ↔ y = x ∨ y ∈ T := by
  have e := List.takeWhile_append_dropWhile (p := fun y => decide (y < x)) (l := T)
  unfold insT
  constructor
  · intro h
    simp only [List.mem_append, List.mem_singleton] at h
    rcases h with (h | h) | h
    · exact .inr (by rw [← e]; exact List.mem_append_left _ h)
    · exact .inl h
    · exact .inr (by rw [← e]; exact List.mem_append_right _ h)
  · rintro (rfl | h)
    · simp
    · rw [← e] at h
      simp only [List.mem_append, List.mem_singleton] at h ⊢
      rcases h with h | h
      · exact .inl (.inl h)
      · exact .inr h
theorem insT_length (T : List Int) (x : Int) : (insT T x).length = T.length + 1 := by
  have e := congrArg List.length (List.takeWhile_append_dropWhile (p := fun y => decide (y < x)) (l := T))
  unfold insT; simp only [List.length_append, List.length_singleton] at e ⊢; omega
theorem takeWhile_lt (T : List Int) (x : Int) : ∀ y ∈ T.takeWhile (fun y => decide (y < x)), y < x := fun y hy => by
  have := List.all_takeWhile (p := fun y => decide (y < x)) (l := T)
  rw [List.all_eq_true] at this
  simpa using this y hy
theorem dropWhile_ge : ∀ (T : List Int) (x : Int), T.Pairwise (· < ·) → ∀ y ∈ T.dropWhile (fun y => decide (y < x)), x ≤ y
  | [], _, _, _, h => by simp at h
  | a :: l, x, hp, y, h => by
    by_cases ha : a < x
    · rw [List.dropWhile_cons_of_pos (by simpa using ha)] at h
      exact dropWhile_ge l x (List.pairwise_cons.1 hp).2 y h
    · rw [List.dropWhile_cons_of_neg (by simpa using ha)] at h
      rcases List.mem_cons.1 h with rfl | h
      · omega
      · have := (List.pairwise_cons.1 hp).1 y h; omega
theorem insT_up {T : List Int} {x : Int} (h : T.Pairwise (· < ·)) (hx : x ∉ T) : (insT T x).Pairwise (· < ·) := by
  have e := List.takeWhile_append_dropWhile (p := fun y => decide (y < x)) (l := T)
  have h1 : (T.takeWhile (fun y => decide (y < x))).Pairwise (· < ·) := h.sublist (List.takeWhile_sublist _)
  have h2 : (T.dropWhile (fun y => decide (y < x))).Pairwise (· < ·) := h.sublist (List.dropWhile_sublist _)
  have g1 := takeWhile_lt T x
  have g2 : ∀ y ∈ T.dropWhile (fun y => decide (y < x)), x < y := fun y hy => by
    have := dropWhile_ge T x h y hy
    have hn : y ≠ x := fun e2 => hx (e2 ▸ (List.dropWhile_sublist _).subset hy)
    omega
  unfold insT
  rw [List.append_assoc, List.pairwise_append]
  refine ⟨h1, List.pairwise_cons.2 ⟨g2, h2⟩, fun a ha b hb => ?_⟩
  have := g1 a ha
  simp only [List.singleton_append, List.mem_cons] at hb
  rcases hb with rfl | hb
  · exact this
  · have := g2 b hb; omega
theorem MapIs.put {D : DataW Unit} {T : List Int} (h : MapIs D T) {x : Int} (hx : x ∉ T) : MapIs (D.put (ikey x) one) (insT T x) := by
  have hD := h.tidy.isMap
  have hk : WideAt.IsKeyLit (ikey x) := by unfold ikey; trivial
  refine ⟨h.tidy.put hk _, fun y => ?_, fun y hy z => ?_, ?_, insT_up h.up hx⟩
  · by_cases e : y = x
    · subst e; rw [Maps.has_put_same hD hk]; simp [mem_insT]
    · rw [Maps.has_put_other (ikey_ne e), h.has]; simp [mem_insT, e]
  · by_cases e : y = x
    · subst e; exact Maps.atKey_put_same hD hk _ _
    · rw [Maps.atKey_put_other (ikey_ne e)]; exact h.at_ y ((mem_insT.1 hy).resolve_left e) z
  · rw [Maps.size_put h.tidy, h.has, insT_length, h.size, if_neg (by simpa using hx)]
theorem MapIs.del {D : DataW Unit} {x : Int} {T : List Int} (h : MapIs D (x :: T)) : MapIs (D.del (ikey x)) T := by
  obtain ⟨hlt, hup⟩ := List.pairwise_cons.1 h.up
  refine ⟨h.tidy.del _, fun y => ?_, fun y hy z => ?_, ?_, hup⟩
  · by_cases e : y = x
    · subst e; rw [Maps.has_del_same, eq_comm, decide_eq_false_iff_not]; intro hm; have := hlt _ hm; omega
    · rw [Maps.has_del_other (ikey_ne e), h.has]; simp [e]
  · have e : y ≠ x := fun e => by subst e; have := hlt _ hy; omega
    rw [Maps.atKey_del_other (ikey_ne e)]; exact h.at_ y (List.mem_cons_of_mem _ hy) z
  · have := Maps.size_del h.tidy (k := ikey x)
    rw [h.has, if_pos (by simp), h.size, List.length_cons] at this
    omega
theorem sort_up {T : List Int} (h : T.Pairwise (· < ·)) : T.mergeSort leI = T := by
  apply List.mergeSort_of_pairwise
  exact h.imp (fun h => by simp only [leI, decide_eq_true_eq]; omega)
theorem MapIs.keys {w : World} {b n : Nat} {R : Value → Option (DataW Unit × List MemPlace)} {D : DataW Unit} {T : List Int} (h : MapIs D T) (ho : w.ownsMap Tryz.prog 2 R b n D) {ss : List Int} (hs : ss.Perm (intKeys D)) : ss.mergeSort leI = T := by
  obtain ⟨es, hD, hpw, _⟩ := ho.entries law64
  obtain ⟨es', hD', hko⟩ := ho.keysOf
  obtain rfl : es = es' := by rw [hD] at hD'; simpa using hD'
  have hT : T.Perm (intKeys D) := by
    rw [hD]
    refine perm_intKeys hpw (fun p hp => by obtain ⟨v, hv⟩ := hko p hp; obtain ⟨x, _, hx, _⟩ := Maps.keyOf_i64 Tryz.underlying2 hv; exact ⟨x, hx⟩) (h.up.imp (fun h => by omega)) (fun x => ?_)
    rw [← hD]
    have := h.has x
    unfold ikey at this
    rw [this]; simp
  rw [mergeSort_of_perm_i (hs.trans hT.symm), sort_up h.up]
def jobC (r : Rule) (chunk at_ : Int) (ch mp : Nat) : Array Value := #[.int .i64 r.id, .int .i64 r.k, .string r.ty, .string r.nm, .string r.fr, .string r.tt, .int .i64 r.n, .int .i64 r.st, .int .i64 chunk, .int .i64 at_, .chan (some ch), .map (some mp)]
/-- A job, as it lies: its block, its channel (empty), its map. -/
structure JobAt (w : World) (p : Nat) (r : Rule) (chunk at_ : Int) (T : List Int) (ch mp : Nat) : Prop where
  blk : Blk w p 88 (jobC r chunk at_ ch mp)
  chan : ∃ s, w.heap[ch]? = some (.chan 4097 #[] false s s false)
  map : ∃ D, w.ownsMap Tryz.prog 2 (plainElem Tryz.prog 3) mp T.length D ∧ MapIs D T
theorem Keep.ownsMap {w w' : World} {F : List Nat} {P : Program} {k : TypeId} {R : Value → Option (DataW Unit × List MemPlace)} {b n : Nat} {D : DataW Unit} (h : w.ownsMap P k R b n D) (hk : Keep F w w') (hn : b ∉ F) : w'.ownsMap P k R b n D := by
  have hlt := h.lt
  obtain ⟨es, clock, hb, r⟩ := h
  exact ⟨es, clock, (hk.block b hlt hn).trans hb, r⟩
theorem JobAt.keep {w w' : World} {F : List Nat} {p : Nat} {r : Rule} {chunk at_ : Int} {T : List Int} {ch mp : Nat} (h : JobAt w p r chunk at_ T ch mp) (hk : Keep F w w') (h1 : p ∉ F) (h2 : ch ∉ F) (h3 : mp ∉ F) : JobAt w' p r chunk at_ T ch mp := by
  obtain ⟨hb, ⟨s, hc⟩, ⟨D, hm, hi⟩⟩ := h
  exact ⟨hb.keep hk h1, ⟨s, (hk.block ch (Array.getElem?_eq_some_iff.1 hc).1 h2).trans hc⟩, ⟨D, Keep.ownsMap hm hk h3, hi⟩⟩
theorem job_made1 (w : World) (r : Rule) (chunk : Int) : JobAt (((w.alloc (Obj.map #[] 0)).alloc (Obj.chan 4097 #[] false 0 0 false)).alloc (Obj.cells (jobC r chunk 1 (w.heap.size + 1) w.heap.size) 88)) (w.heap.size + 2) r chunk 1 [] (w.heap.size + 1) w.heap.size := by
  refine ⟨Blk.new3 w _ _ _ _, ⟨0, ?_⟩, ⟨.map [], ((World.ownsMap_made _ _ _ _).alloc _).alloc _, MapIs.empty⟩⟩
  rw [Below.heap_alloc _ _ _ (by simp)]
  have := heap_alloc_new (w.alloc (Obj.map #[] 0)) (Obj.chan 4097 #[] false 0 0 false)
  simpa using this
theorem job_made2 (w : World) (r : Rule) (chunk : Int) : JobAt (((w.alloc (Obj.chan 4097 #[] false 0 0 false)).alloc (Obj.map #[] 0)).alloc (Obj.cells (jobC r chunk 1 w.heap.size (w.heap.size + 1)) 88)) (w.heap.size + 2) r chunk 1 [] w.heap.size (w.heap.size + 1) := by
  refine ⟨Blk.new3 w _ _ _ _, ⟨0, ?_⟩, ⟨.map [], ?_, MapIs.empty⟩⟩
  · rw [Below.heap_alloc _ _ _ (by simp; omega), Below.heap_alloc _ _ _ (by simp)]
    exact heap_alloc_new w _
  · have := (World.ownsMap_made (H := Unit) (w.alloc (Obj.chan 4097 #[] false 0 0 false)) Tryz.prog 2 (plainElem Tryz.prog 3)).alloc (Obj.cells (jobC r chunk 1 w.heap.size (w.heap.size + 1)) 88)
    simpa using this
theorem bytes64 : ∃ i, Tryz.prog.info? 2 = some i ∧ i.bytes = 8 := by
  have h : (Tryz.prog.info? 2).map (·.bytes) = some 8 := by kernel_rfl
  obtain ⟨i, hi, hb⟩ := Option.map_eq_some_iff.1 h
  exact ⟨i, hi, hb⟩
theorem mkCh (w : World) : (Instr.makeChan 85 (.int .i64 4097)).run Tryz.prog w = .ok (.chan (some w.heap.size)) (w.alloc (.chan 4097 #[] false 0 0 false)) := by
  obtain ⟨i, hi, hb⟩ := bytes64
  simpa using Conc.run_makeChan (P := Tryz.prog) (w := w) Tryz.underlying85 hi .i64 4097 (by omega) (by rw [hb]; omega)
theorem new_form_c (r : Rule) (chunk : Int) (w : World) (hf : formR r = false) : Calls Tryz.prog 13 #[ruleV r, .int .i64 chunk] w fun e w' => e = .returned (.tuple #[.pointer none, .int .i64 11]) ∧ Keep [] w w' := by
  have HK := Lib.hid (Keep.alloc0 w (Obj.cells (encR r).toArray 23))
  have HF := Lib.hid hf
  unfold encR at *
  clear hf
  go_enter Tryz.func13, Tryz.ntmps13
  go_wp2_with fail
  refine (form_c r _).mono ?_
  rintro e w1 ⟨rfl, hk1⟩
  rw [HF.out]
  have hk2 := HK.out.trans0 hk1
  clear hk1
  go_wp2
  go_ret2
  exact ⟨rfl, hk2⟩
theorem new_arg_c (r : Rule) (chunk : Int) (w : World) (hf : formR r = true) (hc : chunk < 1 ∨ 1024 < chunk) : Calls Tryz.prog 13 #[ruleV r, .int .i64 chunk] w fun e w' => e = .returned (.tuple #[.pointer none, .int .i64 1]) ∧ Keep [] w w' := by
  have HK := Lib.hid (Keep.alloc0 w (Obj.cells (encR r).toArray 23))
  have HF := Lib.hid hf
  unfold encR at *
  clear hf
  by_cases hc1 : chunk < 1
  · clear hc
    go_enter Tryz.func13, Tryz.ntmps13
    go_wp2_with fail
    refine (form_c r _).mono ?_
    rintro e w1 ⟨rfl, hk1⟩
    rw [HF.out]
    have hk2 := HK.out.trans0 hk1
    clear hk1
    go_wp2
    go_ret2
    exact ⟨rfl, hk2⟩
  · have hc2 : 1024 < chunk := by omega
    clear hc
    go_enter Tryz.func13, Tryz.ntmps13
    go_wp2_with fail
    refine (form_c r _).mono ?_
    rintro e w1 ⟨rfl, hk1⟩
    rw [HF.out]
    have hk2 := HK.out.trans0 hk1
    clear hk1
    go_wp2
    go_ret2
    exact ⟨rfl, hk2⟩
set_option maxRecDepth 100000 in
set_option maxHeartbeats 1600000 in
theorem jnew_c (r : Rule) (chunk : Int) (w : World) (hf : formR r = true) (hc1 : 1 ≤ chunk) (hc2 : chunk ≤ 1024) : Calls Tryz.prog 13 #[ruleV r, .int .i64 chunk] w fun e w' => ∃ p ch mp, e = .returned (.tuple #[.pointer (some ⟨p, 0, none⟩), .int .i64 0]) ∧ JobAt w' p r chunk 1 [] ch mp ∧ Keep [] w w' ∧ w.heap.size ≤ p ∧ w.heap.size ≤ ch ∧ w.heap.size ≤ mp := by
  have HK := Lib.hid (Keep.alloc0 w (Obj.cells (encR r).toArray 23))
  have HX := Lib.hid (Blk.new w (encR r).toArray 23)
  have HF := Lib.hid hf
  unfold encR at *
  clear hf
  go_enter Tryz.func13, Tryz.ntmps13
  go_wp2_with fail
  generalize w.alloc _ = W at *
  refine (form_c r W).mono ?_
  rintro e w1 ⟨rfl, hk1⟩
  rw [HF.out]
  have hk2 := Lib.hid (HK.out.trans0 hk1)
  have hX := HX.out.keep hk1 (by simp)
  have l1 := hX.lt
  have d0 := hX.cell 0
  have d1 := hX.cell 1
  have d2 := hX.cell 2
  have d3 := hX.cell 3
  have d4 := hX.cell 4
  have d5 := hX.cell 5
  have d6 := hX.cell 6
  have d7 := hX.cell 7
  simp only [List.getElem?_toArray, List.getElem?_cons_succ, List.getElem?_cons_zero] at d0 d1 d2 d3 d4 d5 d6 d7
  have hmm := @run_makeMap Tryz.prog
  have hmc := mkCh
  clear hk1 hX HX
  go_wp2_with fail
  go_region
  all_goals
    go_wp2
    go_ret2
    first
      | exact ⟨w1.heap.size + 2, w1.heap.size + 1, w1.heap.size, rfl, (job_made1 w1 r chunk).keep ((Keep.refl [] _).drew) (by simp) (by simp) (by simp), (((hk2.out.alloc _).alloc _).alloc _).drew, by omega, by omega, by omega⟩
      | exact ⟨w1.heap.size + 2, w1.heap.size, w1.heap.size + 1, rfl, (job_made2 w1 r chunk).keep ((Keep.refl [] _).drew) (by simp) (by simp) (by simp), (((hk2.out.alloc _).alloc _).alloc _).drew, by omega, by omega, by omega⟩
end Go.Proofs.Hg
namespace Go.Proofs.Hg
open Go Go.RowKit Go.Conc
/-! ## A region with a communication, in one goroutine, for the walk -/
section
variable {P : Program} {b : Frame} {k : List Item} {cs : List Frame} {a : Act} {w w' : World} {ops : Array Oper} {i : Nat} {rest : List Nat} {o : Oper} {Q : Exit → Act → World → Prop}
/-- The operations of a region that are still to come, on the machine itself. -/
def WpL (P : Program) (ops : Array Oper) (Q : Exit → Act → World → Prop) (l : List Nat) (a : Act) (w : World) : Prop :=
  ∀ (b : Frame) (k : List Item) (cs : List Frame), ∃ e a' w', Q e a' w' ∧ Arrives P (lone (b.at a (.inRegion ops l :: k)) cs w) b k cs e a' w'
theorem wp_region_L {id : Nat} (h : WpL P ops Q (List.range ops.size) a w) : (Code.region id ops false).wp P Q a w := fun b k cs =>
  let ⟨e, a', w', q, r⟩ := h b k cs; ⟨e, a', w', q, .of_steps (.one step_region) r⟩
theorem WpL.plain {l : List Nat} (h : wpOps P ops Q l a w) : WpL P ops Q l a w := wp_ops l a w h
theorem WpL.end_ (h : Q .normal a w) : WpL P ops Q [] a w := WpL.plain h
theorem WpL.step {v : Value} (ho : ops[i]? = some o) (hs : ∀ (b : Frame) (k : List Item) (cs : List Frame), step P (lone (b.at a (.inRegion ops (i :: rest) :: k)) cs w) = .next (lone ((b.at a (.inRegion ops (i :: rest) :: k)).finish v) cs w'))
    (h : WpL P ops Q rest (a.put o.dst v) w') : WpL P ops Q (i :: rest) a w := fun b k cs => by
  obtain ⟨e, a', w2, q, r⟩ := h b k cs
  refine ⟨e, a', w2, q, .of_steps (.one ?_) r⟩
  rw [hs b k cs, Frame.finish_at, ho]; rfl
theorem WpL.val {v : Value} (ho : ops[i]? = some o) (hw : Region.wanted o (yielded ops a.tmps) = true) (hr : (execOp a.eval o).run P w = .ok (.value v) w')
    (h : WpL P ops Q rest (a.put o.dst v) w') : WpL P ops Q (i :: rest) a w :=
  .step ho (fun b k cs => step_lone_go (by rw [stepG_op ho hw]; simp [stepG.apply, hr])) h
theorem WpL.pure {v : Value} (ho : ops[i]? = some o) (hw : Region.wanted o (yielded ops a.tmps) = true) (hr : (execOp a.eval o).run P w = .ok (.value v) w)
    (h : WpL P ops Q rest (a.put o.dst v) w) : WpL P ops Q (i :: rest) a w := .val ho hw hr h
theorem stepG_comm' {cases : Array CommCase} {blocking : Bool} {shape : CommShape} (ho : ops[i]? = some o) (hw : Region.wanted o (yielded ops a.tmps) = true)
    (hr : (execOp a.eval o).run P w = .ok (.comm cases blocking shape) w') :
    ∃ es, stepG P true (G (b.at a (.inRegion ops (i :: rest) :: k)) cs) w = .comm (G (b.at a (.inRegion ops (i :: rest) :: k)) cs) cases blocking shape w' es := by
  rw [stepG_oper ho hw]
  simp [stepG.apply, hr, G, Frame.at, GStep.after]
theorem WpL.send1 {c cap s r : Nat} {v z : Value} {tm : Bool} (ho : ops[i]? = some o) (hw : Region.wanted o (yielded ops a.tmps) = true) (hr : (execOp a.eval o).run P w = .ok (.comm #[scase c v z] true .send) w')
    (hc : w'.heap[c]? = some (.chan cap #[] false s r tm)) (hroom : 0 < cap) (h : WpL P ops Q rest (a.put o.dst undef) (w'.setChan c cap #[v] false (s + 1) r tm)) : WpL P ops Q (i :: rest) a w :=
  .step ho (fun b k cs => by
    obtain ⟨es, he⟩ := stepG_comm' (b := b) (k := k) (cs := cs) (rest := rest) ho hw hr
    exact step_lone_send_room he hc hroom) h
theorem WpL.send {c cap s r : Nat} {buf : Array Value} {v z : Value} {tm : Bool} (ho : ops[i]? = some o) (hw : Region.wanted o (yielded ops a.tmps) = true) (hr : (execOp a.eval o).run P w = .ok (.comm #[scase c v z] true .send) w')
    (hc : w'.heap[c]? = some (.chan cap buf false s r tm)) (hroom : buf.size < cap) (h : WpL P ops Q rest (a.put o.dst undef) (w'.setChan c cap (buf.push v) false (s + 1) r tm)) : WpL P ops Q (i :: rest) a w :=
  .step ho (fun b k cs => by
    obtain ⟨es, he⟩ := stepG_comm' (b := b) (k := k) (cs := cs) (rest := rest) ho hw hr
    exact step_lone_send_room he hc hroom) h
theorem WpL.selRecv {c cap s r : Nat} {buf : Array Value} {z : Value} {tm closed : Bool} (ho : ops[i]? = some o) (hw : Region.wanted o (yielded ops a.tmps) = true) (hr : (execOp a.eval o).run P w = .ok (.comm #[rcase c z] false .select) w')
    (hc : w'.heap[c]? = some (.chan cap buf closed s r tm)) (hsome : 0 < buf.size) (h : WpL P ops Q rest (a.put o.dst (.tuple #[goInt 0, .bool true, buf.getD 0 undef])) (w'.setChan c cap (buf.extract 1 buf.size) closed s (r + 1) tm)) : WpL P ops Q (i :: rest) a w :=
  .step ho (fun b k cs => by
    obtain ⟨es, he⟩ := stepG_comm' (b := b) (k := k) (cs := cs) (rest := rest) ho hw hr
    exact step_lone_select_recv_buf he hc hsome) h
theorem WpL.selRecv1 {c cap s r : Nat} {v z : Value} {tm closed : Bool} (ho : ops[i]? = some o) (hw : Region.wanted o (yielded ops a.tmps) = true) (hr : (execOp a.eval o).run P w = .ok (.comm #[rcase c z] false .select) w')
    (hc : w'.heap[c]? = some (.chan cap #[v] closed s r tm)) (h : WpL P ops Q rest (a.put o.dst (.tuple #[goInt 0, .bool true, v])) (w'.setChan c cap #[] closed s (r + 1) tm)) : WpL P ops Q (i :: rest) a w :=
  WpL.selRecv ho hw hr hc (by simp) h
theorem WpL.selDefault {c cap s r : Nat} {z : Value} {tm : Bool} (ho : ops[i]? = some o) (hw : Region.wanted o (yielded ops a.tmps) = true) (hr : (execOp a.eval o).run P w = .ok (.comm #[rcase c z] false .select) w')
    (hc : w'.heap[c]? = some (.chan cap #[] false s r tm)) (h : WpL P ops Q rest (a.put o.dst (.tuple #[goInt (-1), .bool false, z])) w') : WpL P ops Q (i :: rest) a w :=
  .step ho (fun b k cs => by
    obtain ⟨es, he⟩ := stepG_comm' (b := b) (k := k) (cs := cs) (rest := rest) ho hw hr
    exact step_lone_select_default he hc) h
end
end Go.Proofs.Hg
namespace Go.Proofs.Hg
open Go Go.RowKit Go.Proofs Go.Shelf Go.Conc Go.ChangeMaps Go.MapKept Go.WideShapes
theorem ownsMap_tight {w : World} {P : Program} {k : TypeId} {R : Value → Option (DataW Unit × List MemPlace)} {b n : Nat} {D : DataW Unit} (h : w.ownsMap P k R b n D) : w.ownsMap P k R b (Maps.size D) D := by
  obtain ⟨es, clock, hb, F, hs, rfl⟩ := h
  refine ⟨es, clock, hb, F, ?_, rfl⟩
  simp [Maps.size, length_sorted]
theorem Keep.setChan {F : List Nat} {w w1 : World} {c cap s r cap' s' r' : Nat} {buf buf' : Array Value} {cl tm cl' tm' : Bool} (h : Keep F w w1) (hc : w1.heap[c]? = some (.chan cap buf cl s r tm)) (hm : c ∈ F ∨ w.heap.size ≤ c) : Keep F w (w1.setChan c cap' buf' cl' s' r' tm') := by
  refine ⟨h.os, h.tape, h.output, by rw [size_setChan]; exact h.size, fun k hk hn => ?_, fun k cs hk => ?_⟩
  · have e : c ≠ k := fun e => hm.elim (fun hm => hn (e ▸ hm)) (fun hm => by omega)
    refine Eq.trans ?_ (h.block k hk hn)
    simp [World.setChan, e]
  · have h1 := h.imm k cs hk
    have e : c ≠ k := fun e => by subst e; rw [hk, hc] at h1; cases h1
    refine Eq.trans ?_ h1
    simp [World.setChan, e]
theorem Keep.mapTurned {F : List Nat} {w w1 w2 : World} {b : Nat} (h : Keep F w w1) (ht : w1.mapTurned w2 b) (hm : b ∈ F ∨ w.heap.size ≤ b) : Keep F w w2 := by
  obtain ⟨es, clock, es', clock', hb, rfl⟩ := ht
  refine ⟨h.os, h.tape, h.output, by simp [setBlock]; exact h.size, fun k hk hn => ?_, fun k cs hk => ?_⟩
  · have e : b ≠ k := fun e => hm.elim (fun hm => hn (e ▸ hm)) (fun hm => by omega)
    refine Eq.trans ?_ (h.block k hk hn)
    simp [setBlock, e]
  · have h1 := h.imm k cs hk
    have e : b ≠ k := fun e => by subst e; rw [hk, hb] at h1; cases h1
    refine Eq.trans ?_ h1
    simp [setBlock, e]
theorem chan_block {w : World} {c cap s r : Nat} {buf : Array Value} {cl tm : Bool} (hc : w.heap[c]? = some (.chan cap buf cl s r tm)) (cap' s' r' : Nat) (buf' : Array Value) (cl' tm' : Bool) : (w.setChan c cap' buf' cl' s' r' tm').heap[c]? = some (.chan cap' buf' cl' s' r' tm') := heap_setChan w c cap' buf' cl' s' r' tm' (Array.getElem?_eq_some_iff.1 hc).1
def numM (v : Value) : Nat := match v with | .int _ _ => 0 | _ => 1
set_option maxRecDepth 100000 in
set_option maxHeartbeats 1600000 in
theorem takes_c (w : World) (p : Nat) (r : Rule) (chunk at_ : Int) (T : List Int) (ch mp s : Nat) (id : Int) (hwf : (Lit.int .i64 id).wf = true) (hl : T.length ≤ 100000) (hx : id ∉ T)
    (hb : Blk w p 88 (jobC r chunk at_ ch mp)) (hc : w.heap[ch]? = some (.chan 4097 #[.int .i64 id] false (s + 1) s false))
    (hm : ∃ D, w.ownsMap Tryz.prog 2 (plainElem Tryz.prog 3) mp T.length D ∧ MapIs D T) :
    Calls Tryz.prog 44 #[.pointer (some ⟨p, 0, none⟩)] w fun e w' => e = .returned (.tuple #[]) ∧ JobAt w' p r chunk at_ (insT T id) ch mp ∧ Keep [ch, mp] w w' := by
  have HB := Lib.hid hb
  have HC := Lib.hid hc
  have HM := Lib.hid hm
  have HX := Lib.hid hx
  have HWF := Lib.hid hwf
  clear hb hc hm hx hwf
  go_enter Tryz.func44, Tryz.ntmps44
  go_wp2_with fail
  go_loopw [2] (fun v wr => (v = undef ∧ wr = w) ∨ (v = .int .i64 id ∧ Hid (JobAt wr p r chunk at_ (insT T id) ch mp) ∧ Hid (Keep [ch, mp] w wr))) (fun v _ => numM v)
  case atStart => exact .inl ⟨rfl, rfl⟩
  case round =>
    rcases hrel with ⟨rfl, rfl⟩ | ⟨rfl, hJ, hK⟩
    · have c10 := HB.out.cell 10
      have c11 := HB.out.cell 11
      simp only [jobC, List.getElem?_toArray, List.getElem?_cons_succ, List.getElem?_cons_zero] at c10 c11
      go_upto_region 1 with (fail)
      refine wp_region_L ?_
      refine WpL.selRecv1 (i := 0) (rest := [1, 2]) (c := ch) (z := .int .i64 0) rfl rfl (by simp [go_sem, execOp, rcase, Act.eval]) HC.out ?_
      refine WpL.pure (v := .int .i64 0) rfl rfl (by simp [go_sem, execOp, Act.eval, goInt]) ?_
      refine WpL.pure (v := .bool true) rfl rfl (by simp [go_sem, execOp, Act.eval]) ?_
      refine WpL.end_ ?_
      walk_nrm
      have hm0 := HM.out
      obtain ⟨D, ho, hi⟩ := hm0
      have hK1 := (Keep.refl [ch, mp] wr).setChan (cap' := 4097) (s' := s + 1) (r' := s + 1) (buf' := #[]) (cl' := false) (tm' := false) HC.out (.inl (by simp))
      have hC1 := chan_block HC.out 4097 (s + 1) (s + 1) #[] false false
      have lch := (Array.getElem?_eq_some_iff.1 HC.out).1
      have hpch : p ≠ ch := fun e => by subst e; have h1 := HB.out; have h2 := HC.out; unfold Blk at h1; rw [h1] at h2; cases h2
      have hmch : mp ≠ ch := fun e => by subst e; obtain ⟨es, clock, h1, _⟩ := ho; have h2 := HC.out; rw [h1] at h2; cases h2
      have hpmp : p ≠ mp := fun e => by subst e; obtain ⟨es, clock, h1, _⟩ := ho; have h2 := HB.out; unfold Blk at h2; rw [h1] at h2; cases h2
      have hB1 := Lib.hid (HB.out.keep (Keep.setChan (F := [ch]) (Keep.refl [ch] wr) (cap' := 4097) (s' := s + 1) (r' := s + 1) (buf' := #[]) (cl' := false) (tm' := false) HC.out (.inl (by simp))) (by simpa using hpch))
      have ho1 : (wr.setChan ch 4097 #[] false (s + 1) (s + 1) false).ownsMap Tryz.prog 2 (plainElem Tryz.prog 3) mp T.length D := Keep.ownsMap ho (Keep.setChan (F := [ch]) (Keep.refl [ch] wr) (cap' := 4097) (s' := s + 1) (r' := s + 1) (buf' := #[]) (cl' := false) (tm' := false) HC.out (.inl (by simp))) (by simpa using hmch)
      have HK1 := Lib.hid hK1
      have HC1 := Lib.hid hC1
      have HO1 := Lib.hid ho1
      have HI := Lib.hid hi
      clear hK1 hC1 ho1 ho c10
      have c11 := hB1.out.cell 11
      simp only [jobC, List.getElem?_toArray, List.getElem?_cons_succ, List.getElem?_cons_zero] at c11
      generalize wr.setChan ch 4097 #[] false (s + 1) (s + 1) false = W1 at *
      go_wp2_with (first
        | (at_lookup; refine wpList_lookup_own_int _ rfl _ _ 86 rfl 2 3 .i64 law64 Tryz.underlying86 Tryz.underlying3 (zero64 _) mp T.length _ rfl HO1.out _ _ rfl (Maps.keyOf_int_mk Tryz.underlying2 HWF.out) ?_; intro c hat hwc; have hc0 : c = 0 := (by have h9 := HI.out.at0 HX.out (.lit (.int .i64 0)); unfold ikey at h9; rw [h9] at hat; injection hat with hat; injection hat with _ hat; exact hat.symm); subst hc0; clear hat)
        | (at_mapUpdate; go_loud (refine wpList_mapUpdate_in _ rfl _ _ _ 86 rfl 2 3 law64 Tryz.underlying86 (plainElem Tryz.prog 3) mp T.length _ rfl HO1.out (by unfold maxLen; omega) _ _ _ rfl rfl (Maps.keyOf_int_mk Tryz.underlying2 HWF.out) one [] (plainElem_int Tryz.underlying3 (by decide)) ?_); intro w3 hown3 hturn3; go_frame))
      have hJ : Hid (JobAt w3 p r chunk at_ (insT T id) ch mp) := by
        have hpt := HI.out.put HX.out
        refine ⟨hB1.out.grown hturn3.grown (by simpa using hpmp), ⟨s + 1, ?_⟩, ⟨_, ?_, hpt⟩⟩
        · exact (hturn3.grown.block ch (Array.getElem?_eq_some_iff.1 HC1.out).1 (by simpa using Ne.symm hmch)).trans HC1.out
        · have := ownsMap_tight hown3
          have e := hpt.size
          unfold ikey at e
          rw [e] at this
          exact this
      have hK3 : Hid (Keep [ch, mp] wr w3) := HK1.out.mapTurned hturn3 (.inl (by simp))
      exact ⟨.inr ⟨rfl, hJ, hK3⟩, by show 0 < 1; omega⟩
    · obtain ⟨s2, hc2⟩ := hJ.out.chan
      have HC2 := Lib.hid hc2
      have c10 := hJ.out.blk.cell 10
      simp only [jobC, List.getElem?_toArray, List.getElem?_cons_succ, List.getElem?_cons_zero] at c10
      clear hc2
      go_upto_region 1 with (fail)
      refine wp_region_L ?_
      refine WpL.selDefault (i := 0) (rest := [1, 2]) (c := ch) (z := .int .i64 0) rfl rfl (by simp [go_sem, execOp, rcase, Act.eval]) HC2.out ?_
      refine WpL.pure (v := .int .i64 (-1)) rfl rfl (by simp [go_sem, execOp, Act.eval, goInt]) ?_
      refine WpL.pure (v := .bool false) rfl rfl (by simp [go_sem, execOp, Act.eval]) ?_
      refine WpL.end_ ?_
      walk_nrm
      go_wp2
      exact bodyPost_ret (v := .tuple #[]) (by simp [results, Tryz.results44, go_sem]) rfl ⟨rfl, hJ.out, hK.out⟩
end Go.Proofs.Hg
namespace Go.Proofs.Hg
open Go Go.RowKit Go.Proofs Go.Shelf Go.Conc Go.ChangeMaps Go.MapKept Go.WideShapes
theorem wpList_clear_map {P : Program} (w : World) {ops : Array Oper} {rest : List Oper} {o : Oper} {a : Act} {Q : Exit → Act → World → Prop}
    (hg : o.guard = none) (m : Operand) (t : TypeId) (hop : o.op = Op.call { callee := Callee.builtin Builtin.clear, args := #[m], argTypes := #[t] })
    (k e : TypeId) (ht : P.underlying t = some (.map k e)) (R : Value → Option (DataW Unit × List MemPlace)) (b n : Nat) (D : DataW Unit) (hm : a.eval m = .map (some b)) (hown : w.ownsMap P k R b n D)
    (hK : ∀ w', w'.ownsMap P k R b 0 (.map []) → w.mapTurned w' b → wpList P ops Q rest (a.put o.dst (.tuple #[])) w') :
    wpList P ops Q (o :: rest) a w := by
  obtain ⟨es, clock, hb, F, hs, hD⟩ := hown
  refine wpList_plain hg fun K' hK' => ?_
  have hrun : ∃ cl, (Builtin.clear_ #[t] o.type #[.map (some b)]).run P w = .ok (.tuple #[]) (setBlock w b (.map #[] cl)) := by
    refine ⟨clock, ?_⟩
    simp [Builtin.clear_, run_underlying ht, MapKept.run_getObj_map hb, MapKept.run_setObj_map _ hb, Result.andThen, setBlock]
  obtain ⟨cl, hrun⟩ := hrun
  unfold Oper.wp
  simp [execOp, hop, resolve, invoke, builtin, hm, hrun, Result.andThen]
  exact hK' _ _ (hK _ ⟨#[], cl, heap_setBlock_same hb _, ⟨by simp, stamped_empty cl, by simp⟩, Nat.le_refl _, rfl⟩ ⟨es, clock, #[], cl, hb, rfl⟩)
def touch1 (st : Int × List Int) (id : Int) : Int × List Int :=
  if st.1 ≤ id then st else if id ∈ st.2 then st else if st.2.length = 4096 then (1, []) else (st.1, insT st.2 id)
def touchS (at_ : Int) (T : List Int) (ids : List Int) : Int × List Int := ids.foldl touch1 (at_, T)
theorem touch1_len {st : Int × List Int} {id : Int} (h : st.2.length ≤ 4096) : (touch1 st id).2.length ≤ 4096 := by
  unfold touch1
  split
  · exact h
  · split
    · exact h
    · split
      · simp
      · show (insT st.2 id).length ≤ 4096
        rw [insT_length]; omega
theorem touchS_take (at_ : Int) (T : List Int) (ids : List Int) (k : Nat) (hk : k < ids.length) : touchS at_ T (ids.take (k + 1)) = touch1 (touchS at_ T (ids.take k)) ids[k] := by
  unfold touchS
  rw [List.take_add_one, List.getElem?_eq_getElem hk, List.foldl_append]; rfl
theorem touchS_len {at_ : Int} {T ids : List Int} (h : T.length ≤ 4096) : (touchS at_ T ids).2.length ≤ 4096 := by
  unfold touchS
  induction ids generalizing at_ T with
  | nil => exact h
  | cons a l ih => rw [List.foldl_cons]; exact ih (touch1_len (st := (at_, T)) h)
theorem Rd.i_at {w : World} {A : Option Addr} {n cap : Nat} {xs : List Int} (h : Rd w 1 encI (.slice A n cap) xs) (i : Nat) (hi : i < xs.length) : ∃ b off, A = some ⟨b, off, none⟩ ∧ w.cell? ⟨b, off + i, none⟩ = some (.int .i64 xs[i]) := by
  obtain ⟨A', cap', hv, _, _, h3⟩ := h
  injection hv with hv _ _; subst hv
  obtain ⟨b, off, hA, hc⟩ := h3 i hi
  obtain ⟨u, hu, he⟩ := hc 0 (by omega)
  refine ⟨b, off, hA, ?_⟩
  simp [encI] at he; subst he
  simpa using hu
theorem touch_nil_c (w : World) (v : Value) : Calls Tryz.prog 15 #[.pointer none, v] w fun e w' => e = .returned (.tuple #[]) ∧ w' = w := by
  go_enter Tryz.func15, Tryz.ntmps15
  go_wp2
  exact bodyPost_ret (v := .tuple #[]) (by simp [results, Tryz.results15, go_sem]) rfl ⟨rfl, rfl⟩
set_option maxRecDepth 100000 in
set_option maxHeartbeats 3200000 in
theorem touch_c (w : World) (p : Nat) (r : Rule) (chunk at_ : Int) (T : List Int) (ch mp : Nat) (v : Value) (ids : List Int) (hT : T.length ≤ 4096) (hwf : ∀ x ∈ ids, (Lit.int .i64 x).wf = true)
    (hr : ∀ W, Keep [p, ch, mp] w W → Rd W 1 encI v ids) (hJ : JobAt w p r chunk at_ T ch mp) :
    Calls Tryz.prog 15 #[.pointer (some ⟨p, 0, none⟩), v] w fun e w' => e = .returned (.tuple #[]) ∧ JobAt w' p r chunk (touchS at_ T ids).1 (touchS at_ T ids).2 ch mp ∧ Keep [p, ch, mp] w w' := by
  obtain ⟨A, cap, hv, hcap, hm, _⟩ := id (hr w (Keep.refl _ _))
  subst hv
  have HR := Lib.hid hr
  have HWF := Lib.hid hwf
  have HJ0 := Lib.hid hJ
  clear hr hwf hJ
  go_enter Tryz.func15, Tryz.ntmps15
  go_wp2_with fail
  go_loopw [10] (fun i wr => ∃ k : Nat, k ≤ ids.length ∧ i = .int .i64 k ∧ Hid (JobAt wr p r chunk (touchS at_ T (ids.take k)).1 (touchS at_ T (ids.take k)).2 ch mp) ∧ Hid (Keep [p, ch, mp] w wr)) (fun i _ => ids.length - (RowKit.intOf i).toNat)
  case atStart => exact ⟨0, by omega, rfl, HJ0.out, Keep.refl _ _⟩
  case round =>
    obtain ⟨k, hk, rfl, hJ, hK⟩ := hrel
    by_cases hlt : k < ids.length
    · have HS := Lib.hid (touchS_take at_ T ids k hlt)
      have hT4 := touchS_len (at_ := at_) (ids := ids.take k) hT
      obtain ⟨st, hst⟩ : ∃ st, st = touchS at_ T (ids.take k) := ⟨_, rfl⟩
      rw [← hst] at hJ HS hT4
      clear hst
      obtain ⟨b, off, rfl, c0⟩ := (HR.out wr hK.out).i_at k hlt
      have hw := HWF.out _ (List.getElem_mem hlt)
      generalize hid : ids[k] = x at c0 hw HS
      clear hid
      have HW := Lib.hid hw
      clear hw
      obtain ⟨D, ho, hi⟩ := hJ.out.map
      have HO := Lib.hid ho
      have HI := Lib.hid hi
      clear ho hi
      have c9 := hJ.out.blk.cell 9
      have c10 := hJ.out.blk.cell 10
      have c11 := hJ.out.blk.cell 11
      simp only [jobC, List.getElem?_toArray, List.getElem?_cons_succ, List.getElem?_cons_zero] at c9 c10 c11
      by_cases h1 : st.1 ≤ x
      · have E : Hid (touch1 st x = st) := by show _ = _; unfold touch1; rw [if_pos h1]
        have HJ2 : Hid (JobAt wr p r chunk (touchS at_ T (ids.take (k + 1))).1 (touchS at_ T (ids.take (k + 1))).2 ch mp) := by rw [HS.out, E.out]; exact hJ.out
        clear HS
        go_wp2
        exact ⟨⟨k + 1, by omega, by go_num, HJ2, hK⟩, by simp [RowKit.intOf]; omega⟩
      · by_cases h2 : x ∈ st.2
        · have E : Hid (touch1 st x = st) := by show _ = _; unfold touch1; rw [if_neg h1, if_pos h2]
          have HJ2 : Hid (JobAt wr p r chunk (touchS at_ T (ids.take (k + 1))).1 (touchS at_ T (ids.take (k + 1))).2 ch mp) := by rw [HS.out, E.out]; exact hJ.out
          have H2 := Lib.hid h2
          clear HS h2
          obtain ⟨c, hrun, hat, _⟩ := HO.out.lookup_int law64 Tryz.underlying86 Tryz.underlying3 (zero64 _) (Maps.keyOf_int_mk Tryz.underlying2 HW.out)
          have hc0 : c = 1 := by
            have h9 := HI.out.at_ x H2.out (.lit (.int .i64 0)); unfold ikey at h9; rw [h9] at hat; unfold one at hat; injection hat with hat; injection hat with _ hat; exact hat.symm
          subst hc0
          clear hat
          go_wp2
          exact ⟨⟨k + 1, by omega, by go_num, HJ2, hK⟩, by simp [RowKit.intOf]; omega⟩
        · have H2 := Lib.hid h2
          have H1 := Lib.hid h1
          clear h2
          obtain ⟨c, hrun, hat, _⟩ := HO.out.lookup_int law64 Tryz.underlying86 Tryz.underlying3 (zero64 _) (Maps.keyOf_int_mk Tryz.underlying2 HW.out)
          have hc0 : c = 0 := by
            have h9 := HI.out.at0 H2.out (.lit (.int .i64 0)); unfold ikey at h9; rw [h9] at hat; injection hat with hat; injection hat with _ hat; exact hat.symm
          subst hc0
          clear hat
          go_upto_region 5 with (fail)
          refine wp_region_L ?_
          refine WpL.pure (i := 0) (rest := [1, 2, 3, 4, 5]) (v := .pointer (some ⟨p, 0, none⟩)) rfl rfl (by simp [go_sem, execOp, Act.eval]) ?_
          refine WpL.pure (v := .pointer (some ⟨p, 0, none⟩)) rfl rfl (by simp [go_sem, execOp, Act.eval]) ?_
          refine WpL.pure (v := .pointer (some ⟨p, 10, none⟩)) rfl rfl (by walk_nrm; go_simp) ?_
          refine WpL.pure (v := .chan (some ch)) rfl rfl (by walk_nrm; go_simp) ?_
          refine WpL.pure (v := .int .i64 x) rfl rfl (by simp [go_sem, execOp, Act.eval]) ?_
          obtain ⟨s, hc⟩ := hJ.out.chan
          have HC := Lib.hid hc
          clear hc
          refine WpL.send1 (c := ch) (v := .int .i64 x) (z := .tuple #[]) rfl rfl (by simp [go_sem, execOp, scase, Act.eval]) HC.out (by omega) ?_
          refine WpL.end_ ?_
          walk_nrm
          have hB1 := hJ.out.blk
          have hpch : p ≠ ch := fun e => by subst e; have h1 := hB1; have h2 := HC.out; unfold Blk at h1; rw [h1] at h2; cases h2
          have hpmp : p ≠ mp := fun e => by subst e; obtain ⟨es, clock, h1, _⟩ := HO.out; have h2 := hB1; unfold Blk at h2; rw [h1] at h2; cases h2
          have hmch : mp ≠ ch := fun e => by subst e; obtain ⟨es, clock, h1, _⟩ := HO.out; have h2 := HC.out; rw [h1] at h2; cases h2
          have kk : Keep [ch] wr (wr.setChan ch 4097 #[.int .i64 x] false (s + 1) s false) := (Keep.refl _ _).setChan HC.out (.inl (by simp))
          have HB2 := Lib.hid (hB1.keep kk (by simpa using hpch))
          have HC2 := Lib.hid (chan_block HC.out 4097 (s + 1) s #[.int .i64 x] false false)
          have HO2 : Hid (∃ D, (wr.setChan ch 4097 #[.int .i64 x] false (s + 1) s false).ownsMap Tryz.prog 2 (plainElem Tryz.prog 3) mp st.2.length D ∧ MapIs D st.2) := ⟨D, Keep.ownsMap HO.out kk (by simpa using hmch), HI.out⟩
          have HK2 : Hid (Keep [p, ch, mp] w (wr.setChan ch 4097 #[.int .i64 x] false (s + 1) s false)) := hK.out.setChan HC.out (.inl (by simp))
          clear hB1 kk c0 c9 c10 c11 hrun
          generalize wr.setChan ch 4097 #[.int .i64 x] false (s + 1) s false = W1 at *
          go_wp2_with fail
          refine (takes_c W1 p r chunk st.1 st.2 ch mp s x HW.out (by omega) H2.out HB2.out HC2.out HO2.out).mono ?_
          rintro e w2 ⟨rfl, hJ2, hK2⟩
          have HJ2 := Lib.hid hJ2
          have HK3 := Lib.hid (HK2.out.trans hK2 (fun k hk => .inl (by simp at hk; rcases hk with rfl | rfl <;> simp)))
          clear hJ2 hK2
          obtain ⟨D2, ho2, hi2⟩ := HJ2.out.map
          have hsz := hi2.size
          rw [insT_length] at hsz
          have HO3 := Lib.hid ho2
          have HI2 := Lib.hid hi2
          clear ho2 hi2
          have c11 := HJ2.out.blk.cell 11
          have c9 := HJ2.out.blk.cell 9
          have f9 := HJ2.out.blk.free 9
          simp only [jobC, List.getElem?_toArray, List.getElem?_cons_succ, List.getElem?_cons_zero] at c11 c9
          by_cases h4 : st.2.length = 4096
          · have h5 : ¬ (Maps.size D2 : Int) ≤ 4096 := by omega
            have E : Hid (touch1 st x = (1, [])) := by show _ = _; unfold touch1; rw [if_neg (by have := H1.out; omega), if_neg H2.out, if_pos h4]
            clear hsz
            go_wp2_with (first
              | (at_len; refine wpList_len_own _ rfl _ 86 rfl 2 3 Tryz.underlying86 _ mp _ D2 rfl HO3.out ?_)
              | ((with_reducible refine wpList_clear_map _ rfl _ 86 rfl 2 3 Tryz.underlying86 _ mp _ D2 rfl HO3.out ?_); intro w3 hown3 hturn3; have HO4 := Lib.hid hown3; have HT4 := Lib.hid hturn3; have HB4 := Lib.hid (HJ2.out.blk.grown hturn3.grown (by simpa using hpmp)); have e9 := HB4.out.cell 9; have g9 := HB4.out.free 9; simp only [jobC, List.getElem?_toArray, List.getElem?_cons_succ, List.getElem?_cons_zero] at e9; clear hown3 hturn3; go_frame))
            have HJ3 : Hid (JobAt (w3.setCell ⟨p, 9, none⟩ (.int .i64 1)) p r chunk (touchS at_ T (ids.take (k + 1))).1 (touchS at_ T (ids.take (k + 1))).2 ch mp) := by
              show JobAt _ _ _ _ _ _ _ _
              rw [HS.out, E.out]
              obtain ⟨s2, hc2⟩ := HJ2.out.chan
              have hc3 := (HT4.out.grown.block ch (Array.getElem?_eq_some_iff.1 hc2).1 (by simpa using Ne.symm hmch)).trans hc2
              exact ⟨HB4.out.set 9 _, ⟨s2, (Below.heap_setCell _ _ _ _ hpch.symm).trans hc3⟩, ⟨_, HO4.out.setCell hpmp.symm _, MapIs.empty⟩⟩
            have HK4 : Hid (Keep [p, ch, mp] w (w3.setCell ⟨p, 9, none⟩ (.int .i64 1))) :=
              (HK3.out.mapTurned HT4.out (.inl (by simp))).trans ((Keep.refl [p] w3).setBlk HB4.out (by decide) (by simp) 9 _) (fun k hk => .inl (by simp at hk; subst hk; simp))
            exact ⟨⟨k + 1, by omega, by go_num, HJ3, HK4⟩, by simp [RowKit.intOf]; omega⟩
          · have h5 : (Maps.size D2 : Int) ≤ 4096 := by omega
            have E : Hid (touch1 st x = (st.1, insT st.2 x)) := by show _ = _; unfold touch1; rw [if_neg (by have := H1.out; omega), if_neg H2.out, if_neg h4]
            have HJ3 : Hid (JobAt w2 p r chunk (touchS at_ T (ids.take (k + 1))).1 (touchS at_ T (ids.take (k + 1))).2 ch mp) := by rw [HS.out, E.out]; exact HJ2.out
            clear HS hsz
            go_wp2_with (at_len; refine wpList_len_own _ rfl _ 86 rfl 2 3 Tryz.underlying86 _ mp _ D2 rfl HO3.out ?_)
            exact ⟨⟨k + 1, by omega, by go_num, HJ3, HK3⟩, by simp [RowKit.intOf]; omega⟩
    · have ek : k = ids.length := by omega
      subst ek
      have HJ2 : Hid (JobAt wr p r chunk (touchS at_ T ids).1 (touchS at_ T ids).2 ch mp) := by have := hJ.out; rw [List.take_length] at this; exact this
      go_wp2
      exact bodyPost_end (v := .tuple #[]) (by simp [results, Tryz.results15, go_sem]) rfl ⟨rfl, HJ2.out, hK.out⟩
end Go.Proofs.Hg
namespace Go.Proofs
open Go.RowKit Go.Maps Go.Sort Go.Shelf
open Go.Shelf
def Tryz.keysA_ren : Go.Shelf.Ren := ⟨fun | 7 => 41 | 10 => 63 | n => n, fun | 23 => 86 | 26 => 2 | 3 => 3 | 28 => 91 | 0 => 0 | 27 => 90 | 33 => 120 | 4 => 4 | n => n, fun | n => n⟩
theorem Tryz.keysA : Go.Proofs.SlLaysZI.n7 Tryz.prog Tryz.keysA_ren := {
  mixed := by kernel_rfl
  f7 := ⟨Tryz.f41.name, by decide, Tryz.func41.trans (congrArg some (by kernel_rfl))⟩
  f10 := ⟨Tryz.f63.name, by decide, Tryz.func63.trans (congrArg some (by kernel_rfl))⟩
  t0 := Tryz.underlying0
  a0 := Tryz.isAgg0
  z0 := Tryz.sizeOf0
  v0 := Tryz.zeroValue0
  t4 := Tryz.underlying4
  a4 := Tryz.isAgg4
  z4 := Tryz.sizeOf4
  v4 := Tryz.zeroValue4
  t23 := Tryz.underlying86
  a23 := Tryz.isAgg86
  z23 := Tryz.sizeOf86
  v23 := Tryz.zeroValue86
  t26 := Tryz.underlying2
  a26 := Tryz.isAgg2
  z26 := Tryz.sizeOf2
  v26 := Tryz.zeroValue2
  t27 := Tryz.underlying90
  a27 := Tryz.isAgg90
  z27 := Tryz.sizeOf90
  v27 := Tryz.zeroValue90
  t28 := Tryz.underlying91
  a28 := Tryz.isAgg91
  z28 := Tryz.sizeOf91
  v28 := Tryz.zeroValue91
  t33 := Tryz.underlying120
  a33 := Tryz.isAgg120
  z33 := Tryz.sizeOf120
  v33 := Tryz.zeroValue120 }
def Tryz.sortedA_ren : Go.Shelf.Ren := ⟨fun | 6 => 40 | 8 => 61 | 9 => 62 | 11 => 98 | 13 => 100 | 12 => 99 | 23 => 128 | 24 => 129 | 14 => 119 | 15 => 120 | 16 => 121 | 17 => 122 | 18 => 123 | 19 => 124 | 20 => 125 | 21 => 126 | 22 => 127 | 25 => 143 | 26 => 144 | 27 => 145 | 28 => 146 | 29 => 147 | 30 => 148 | 31 => 152 | n => n, fun | 26 => 2 | 28 => 91 | 24 => 25 | 0 => 0 | 3 => 3 | 37 => 150 | 48 => 173 | 50 => 175 | 4 => 4 | 40 => 166 | 39 => 165 | 45 => 155 | 5 => 5 | 9 => 9 | 51 => 192 | 55 => 196 | 57 => 201 | 58 => 202 | 33 => 120 | n => n, fun | n => n⟩
theorem Tryz.sortedA : Go.Proofs.SlLaysZI.n6 Tryz.prog Tryz.sortedA_ren := {
  mixed := by kernel_rfl
  f6 := ⟨Tryz.f40.name, by decide, Tryz.func40.trans (congrArg some (by kernel_rfl))⟩
  f8 := ⟨Tryz.f61.name, by decide, Tryz.func61.trans (congrArg some (by kernel_rfl))⟩
  f11 := ⟨Tryz.f98.name, by decide, Tryz.func98.trans (congrArg some (by kernel_rfl))⟩
  t0 := Tryz.underlying0
  a0 := Tryz.isAgg0
  z0 := Tryz.sizeOf0
  v0 := Tryz.zeroValue0
  t24 := Tryz.underlying25
  a24 := Tryz.isAgg25
  z24 := Tryz.sizeOf25
  v24 := Tryz.zeroValue25
  t26 := Tryz.underlying2
  a26 := Tryz.isAgg2
  z26 := Tryz.sizeOf2
  v26 := Tryz.zeroValue2
  t28 := Tryz.underlying91
  a28 := Tryz.isAgg91
  z28 := Tryz.sizeOf91
  v28 := Tryz.zeroValue91
  i26 := by kernel_rfl }
def Tryz.sortA_ren : Go.Shelf.Ren := ⟨fun | 5 => 62 | 8 => 100 | 7 => 99 | 19 => 128 | 20 => 129 | 10 => 119 | 11 => 120 | 12 => 121 | 13 => 122 | 14 => 123 | 15 => 124 | 16 => 125 | 17 => 126 | 18 => 127 | 30 => 143 | 31 => 144 | 32 => 145 | 33 => 146 | 34 => 147 | 35 => 148 | 40 => 152 | n => n, fun | 23 => 25 | 25 => 2 | 3 => 3 | 32 => 150 | 22 => 25 | 0 => 0 | 44 => 173 | 46 => 175 | 4 => 4 | 36 => 166 | 35 => 165 | 41 => 155 | 5 => 5 | 9 => 9 | 53 => 192 | 57 => 196 | 63 => 201 | 64 => 202 | n => n, fun | n => n⟩
theorem Tryz.sortA : Go.Proofs.SlLaysM.n5 Tryz.prog Tryz.sortA_ren := {
  mixed := by kernel_rfl
  f5 := ⟨Tryz.f62.name, by decide, Tryz.func62.trans (congrArg some (by kernel_rfl))⟩
  f7 := ⟨Tryz.f99.name, by decide, Tryz.func99.trans (congrArg some (by kernel_rfl))⟩
  f8 := Tryz.func100.trans (congrArg some (by kernel_rfl))
  f10 := ⟨Tryz.f119.name, by decide, Tryz.func119.trans (congrArg some (by kernel_rfl))⟩
  f11 := ⟨Tryz.f120.name, by decide, Tryz.func120.trans (congrArg some (by kernel_rfl))⟩
  f12 := ⟨Tryz.f121.name, by decide, Tryz.func121.trans (congrArg some (by kernel_rfl))⟩
  f13 := ⟨Tryz.f122.name, by decide, Tryz.func122.trans (congrArg some (by kernel_rfl))⟩
  f14 := ⟨Tryz.f123.name, by decide, Tryz.func123.trans (congrArg some (by kernel_rfl))⟩
  f15 := ⟨Tryz.f124.name, by decide, Tryz.func124.trans (congrArg some (by kernel_rfl))⟩
  f16 := ⟨Tryz.f125.name, by decide, Tryz.func125.trans (congrArg some (by kernel_rfl))⟩
  f17 := ⟨Tryz.f126.name, by decide, Tryz.func126.trans (congrArg some (by kernel_rfl))⟩
  f18 := ⟨Tryz.f127.name, by decide, Tryz.func127.trans (congrArg some (by kernel_rfl))⟩
  f19 := Tryz.func128.trans (congrArg some (by kernel_rfl))
  f20 := Tryz.func129.trans (congrArg some (by kernel_rfl))
  f30 := ⟨Tryz.f143.name, by decide, Tryz.func143.trans (congrArg some (by kernel_rfl))⟩
  f31 := Tryz.func144.trans (congrArg some (by kernel_rfl))
  f32 := Tryz.func145.trans (congrArg some (by kernel_rfl))
  f33 := ⟨Tryz.f146.name, by decide, Tryz.func146.trans (congrArg some (by kernel_rfl))⟩
  f34 := ⟨Tryz.f147.name, by decide, Tryz.func147.trans (congrArg some (by kernel_rfl))⟩
  f35 := ⟨Tryz.f148.name, by decide, Tryz.func148.trans (congrArg some (by kernel_rfl))⟩
  f40 := ⟨Tryz.f152.name, by decide, Tryz.func152.trans (congrArg some (by kernel_rfl))⟩
  t0 := Tryz.underlying0
  a0 := Tryz.isAgg0
  z0 := Tryz.sizeOf0
  v0 := Tryz.zeroValue0
  t3 := Tryz.underlying3
  a3 := Tryz.isAgg3
  z3 := Tryz.sizeOf3
  v3 := Tryz.zeroValue3
  t4 := Tryz.underlying4
  a4 := Tryz.isAgg4
  z4 := Tryz.sizeOf4
  v4 := Tryz.zeroValue4
  t5 := Tryz.underlying5
  a5 := Tryz.isAgg5
  z5 := Tryz.sizeOf5
  v5 := Tryz.zeroValue5
  t9 := Tryz.underlying9
  a9 := Tryz.isAgg9
  z9 := Tryz.sizeOf9
  v9 := Tryz.zeroValue9
  t22 := Tryz.underlying25
  a22 := Tryz.isAgg25
  z22 := Tryz.sizeOf25
  v22 := Tryz.zeroValue25
  t23 := Tryz.underlying25
  a23 := Tryz.isAgg25
  z23 := Tryz.sizeOf25
  v23 := Tryz.zeroValue25
  t25 := Tryz.underlying2
  a25 := Tryz.isAgg2
  z25 := Tryz.sizeOf2
  v25 := Tryz.zeroValue2
  t32 := Tryz.underlying150
  a32 := Tryz.isAgg150
  z32 := Tryz.sizeOf150
  v32 := Tryz.zeroValue150
  t35 := Tryz.underlying165
  a35 := Tryz.isAgg165
  z35 := Tryz.sizeOf165
  v35 := Tryz.zeroValue165
  t36 := Tryz.underlying166
  a36 := Tryz.isAgg166
  z36 := Tryz.sizeOf166
  v36 := Tryz.zeroValue166
  t41 := Tryz.underlying155
  a41 := Tryz.isAgg155
  z41 := Tryz.sizeOf155
  v41 := Tryz.zeroValue155
  t44 := Tryz.underlying173
  a44 := Tryz.isAgg173
  z44 := Tryz.sizeOf173
  v44 := Tryz.zeroValue173
  t46 := Tryz.underlying175
  a46 := Tryz.isAgg175
  z46 := Tryz.sizeOf175
  v46 := Tryz.zeroValue175
  t53 := Tryz.underlying192
  a53 := Tryz.isAgg192
  z53 := Tryz.sizeOf192
  v53 := Tryz.zeroValue192
  t57 := Tryz.underlying196
  a57 := Tryz.isAgg196
  z57 := Tryz.sizeOf196
  v57 := Tryz.zeroValue196
  t63 := Tryz.underlying201
  a63 := Tryz.isAgg201
  z63 := Tryz.sizeOf201
  v63 := Tryz.zeroValue201
  t64 := Tryz.underlying202
  a64 := Tryz.isAgg202
  z64 := Tryz.sizeOf202
  v64 := Tryz.zeroValue202 }
def Tryz.delA_ren : Go.Shelf.Ren := ⟨fun | 10 => 64 | 6 => 101 | n => n, fun | 22 => 25 | 23 => 2 | 25 => 120 | 3 => 3 | 4 => 4 | 0 => 0 | n => n, fun | n => n⟩
theorem Tryz.delA : Go.Proofs.SlLaysH.n10 Tryz.prog Tryz.delA_ren := {
  mixed := by kernel_rfl
  f6 := ⟨Tryz.f101.name, by decide, Tryz.func101.trans (congrArg some (by kernel_rfl))⟩
  f10 := ⟨Tryz.f64.name, by decide, Tryz.func64.trans (congrArg some (by kernel_rfl))⟩
  t0 := Tryz.underlying0
  a0 := Tryz.isAgg0
  z0 := Tryz.sizeOf0
  v0 := Tryz.zeroValue0
  t3 := Tryz.underlying3
  a3 := Tryz.isAgg3
  z3 := Tryz.sizeOf3
  v3 := Tryz.zeroValue3
  t4 := Tryz.underlying4
  a4 := Tryz.isAgg4
  z4 := Tryz.sizeOf4
  v4 := Tryz.zeroValue4
  t22 := Tryz.underlying25
  a22 := Tryz.isAgg25
  z22 := Tryz.sizeOf25
  v22 := Tryz.zeroValue25
  a23 := Tryz.isAgg2
  z23 := Tryz.sizeOf2
  t25 := Tryz.underlying120
  a25 := Tryz.isAgg120
  z25 := Tryz.sizeOf120
  v25 := Tryz.zeroValue120 }
end Go.Proofs
namespace Go.Proofs.Hg
open Go Go.RowKit Go.Proofs Go.Shelf Go.Sort Go.Maps
theorem sortsA (m : Nat) : AnyZI.SortsIn Tryz.prog Tryz.sortedA_ren Fence.wide m :=
  ⟨fun blk off cap ss W hH hblk hsz => callsIn_wide.2 (AnyM.slices_Sort_int Tryz.sortA blk off cap ss W hH hblk hsz),
   fun p cap W => callsIn_wide.2 (AnyM.slices_Sort_int_none Tryz.sortA p cap W)⟩
theorem zero64' (w : World) : (zeroValue 2).run Tryz.prog w = .ok (.int .i64 0) w := by kernel_rfl
theorem flat_encI (xs : List Int) : xs.flatMap encI = xs.map encZ := by
  induction xs with
  | nil => rfl
  | cons a l ih => rw [List.flatMap_cons, List.map_cons, ih]; rfl
theorem Row.of_owns {w : World} {base n : Nat} {v : Value} {xs : List Int} (h : w.ownsRow base 2 1 v n (xs.map encZ)) (hn : n = xs.length) : Row w 2 1 encI v xs ∧ ∀ k, v.ownBlock = some k → base ≤ k := by
  subst hn
  obtain ⟨h1, h2⟩ := h
  refine ⟨⟨by rw [flat_encI]; exact h1, ?_⟩, fun k hk => ?_⟩
  · rcases h2 with h2 | ⟨g, cap, cur, e, hg, hh, a, b, c, d⟩
    · exact .inl h2
    · exact .inr ⟨g, cap, cur, e, Nat.zero_le _, hh, a, b, c, by rw [flat_encI]; exact d⟩
  · rcases h2 with ⟨e, _⟩ | ⟨g, cap, cur, e, hg, _⟩
    · subst e; simp [Value.ownBlock] at hk
    · subst e; simp [Value.ownBlock] at hk; omega
theorem keys_c (mb : Option Nat) (W : World) : Calls Tryz.prog 41 #[.map mb] W fun e w' => e = .returned (.func (.func 63) #[] #[.pointer (some ⟨W.heap.size, 0, none⟩)]) ∧ w' = W.alloc (.cells #[.map mb] 86) :=
  (callsIn_wide (n := 5)).1 (AnyZI.keys_in Tryz.keysA Fence.wide 5 trivial rfl mb W)
theorem sorted_c (w : World) (b n : Nat) (D : DataW Unit) (T : List Int) (R : Value → Option (DataW Unit × List MemPlace)) (hown : w.ownsMap Tryz.prog 2 R b n D) (hi : MapIs D T) (hl : T.length ≤ 100000) :
    Calls Tryz.prog 40 #[.func (.func 63) #[] #[.pointer (some ⟨w.heap.size, 0, none⟩)]] (w.alloc (.cells #[.map (some b)] 86)) fun e w' =>
      ∃ v, e = .returned v ∧ Row w' 2 1 encI v T ∧ Keep [] w w' ∧ ∀ k, v.ownBlock = some k → w.heap.size ≤ k := by
  have hbl := hown.lt
  have hsz := hi.size
  have hseq : SeqGives Fence.wide 2 Tryz.prog 63 #[.pointer (some ⟨w.heap.size, 0, none⟩)] encZ (fun ss => ss.Perm (intKeys D)) (Maps.size D) (w.alloc (.cells #[.map (some b)] 86)) :=
    AnyZI.keys_gives (ρ := Tryz.keysA_ren) { Tryz.keysA with } Fence.wide _ trivial rfl (by omega) w.heap.size b n D _ (by simp) (by simp) (by
      obtain ⟨es, clock, hb, Ft, hs, hD⟩ := hown
      exact ⟨es, clock, (Below.heap_alloc _ _ b hbl).trans hb, Ft, hs, hD⟩)
  have cS := AnyZI.sorted_in Tryz.sortedA Fence.wide 5 trivial trivial trivial trivial rfl (by omega) (sortsA _) (enters_of Tryz.func62 (by kernel_rfl) rfl) 63 #[.pointer (some ⟨w.heap.size, 0, none⟩)] trivial (enters_of Tryz.func63 (by kernel_rfl) rfl) _ _ (by unfold maxLen; omega) (by omega) _ hseq
  change CallsIn _ _ Tryz.prog 40 _ _ _ at cS
  refine ((callsIn_wide (n := 5)).1 cS).mono ?_
  rintro e w' ⟨v, ss, rfl, hS, hrow, hnil, hb⟩
  have hk := hi.keys hown hS
  have hl2 : ss.length = T.length := by have := congrArg List.length hk; rw [List.length_mergeSort] at this; exact this
  unfold leI at hk
  rw [hk] at hrow
  obtain ⟨hr, hf⟩ := Row.of_owns hrow hl2
  exact ⟨v, rfl, hr, (Keep.alloc0 w _).trans0 (Keep.of_below hb), fun k hk => by have := hf k hk; simp at this; omega⟩
/-- The row behind a sort. -/
theorem Row.sorted {w : World} {n : Nat} {os : Array Obj} {g cap : Nat} {xs ys : List Int} (h : Row w 2 1 encI (.slice (some ⟨g, 0, none⟩) xs.length cap) xs) (hy : ys.length = xs.length) :
    Row (grow (putRow encZ (Sort.ahead w n) g 0 ys.toArray) os) 2 1 encI (.slice (some ⟨g, 0, none⟩) xs.length cap) ys := by
  rcases h.2 with ⟨e, _⟩ | ⟨g', cap', cur, e, hg, hh, h1, h2, h3, h4⟩
  · cases e
  · injection e with e1 _ e3
    injection e1 with e1
    injection e1 with e1
    subst e1; subst e3
    have := ownsRow_sorted_i (n := n) (os := os) (ss := xs) (ts := ys) hy (Nat.zero_le _) hh h1 h2 h3
    exact (Row.of_owns this hy.symm).1
theorem sort_c (W : World) (v : Value) (xs : List Int) (hl : xs.length ≤ 1000000) (h : Row W 2 1 encI v xs) :
    Calls Tryz.prog 62 #[v] W fun e w' => e = .returned (.tuple #[]) ∧ Row w' 2 1 encI v (xs.mergeSort leI) ∧ Keep v.ownBlock.toList W w' := by
  rcases h.2 with ⟨rfl, h0⟩ | ⟨g, cap, cur, rfl, hg, hh, h1, h2, h3, h4⟩
  · have e0 : xs = [] := List.eq_nil_of_length_eq_zero h0
    subst e0
    refine (AnyM.slices_Sort_int_none Tryz.sortA none 0 W).mono ?_
    rintro e w' ⟨rfl, rfl⟩
    exact ⟨rfl, by rw [List.mergeSort_nil]; exact h, Keep.refl _ _⟩
  · have hH : Holds encZ W g 0 xs.toArray := holds_of_block_i hh (by rw [flat_encI, Nat.mul_one] at h4; exact h4)
    refine (AnyM.slices_Sort_int Tryz.sortA g 0 cap xs W hH (Array.getElem?_eq_some_iff.1 hh).1 (by omega)).mono ?_
    rintro e w' ⟨rfl, n, os, rfl⟩
    refine ⟨rfl, h.sorted (by rw [List.length_mergeSort]), ?_⟩
    exact (Keep.refl _ W).grown (grownBy_sorted_i _) (fun k e => .inr ⟨by injection e with e; subst e; simp [Value.ownBlock], by injection e with e; subst e; exact ⟨cur, _, hh, by decide⟩⟩)
theorem idxI_nil_c (w : World) (f : Value) : Calls Tryz.prog 101 #[.slice none 0 0, f] w fun e w' => e = .returned (.int .i64 (-1)) ∧ w' = w := by
  go_enter Tryz.func101, Tryz.ntmps101
  go_wp2_with fail
  go_loop [8] (fun i => i = .int .i64 0) (fun _ => 0)
  case atStart => rfl
  case round =>
    subst hrel
    go_wp2
    go_ret
    exact ⟨rfl, rfl⟩
theorem del_nil_c (w : World) (f : Value) : Calls Tryz.prog 64 #[.slice none 0 0, f] w fun e w' => e = .returned (.slice none 0 0) ∧ w' = w := by
  have H := Lib.hid (idxI_nil_c w f)
  go_enter Tryz.func64, Tryz.ntmps64
  go_wp2_with fail
  refine H.out.mono ?_
  rintro e w' ⟨rfl, rfl⟩
  go_wp2
  go_ret
  exact ⟨rfl, rfl⟩
theorem gives65 (lim x : Int) (B : Nat) (W : World) (hc : W.cell? ⟨B, 0, none⟩ = some (.int .i64 lim)) :
    FnGives Tryz.prog 65 #[.pointer (some ⟨B, 0, none⟩)] #[.int .i64 x] (.bool (decide (x < lim))) W := by
  show Calls Tryz.prog 65 #[.int .i64 x, .pointer (some ⟨B, 0, none⟩)] W _
  go_enter Tryz.func65, Tryz.ntmps65
  go_wp2
  all_goals (go_ret; exact ⟨by simp_all, 0, rfl⟩)
theorem pred65 (lim : Int) (B : Nat) (w : World) (hB : B < w.heap.size) (hcell : w.cell? ⟨B, 0, none⟩ = some (.int .i64 lim)) :
    PredAt Tryz.prog 65 #[.pointer (some ⟨B, 0, none⟩)] encZ (fun x => decide (x < lim)) w :=
  fun W x hb => gives65 lim x B W ((hb.cell (p := ⟨B, 0, none⟩) hB).trans hcell)
theorem over65 (lim : Int) (B blk off size : Nat) (w : World) (hB : B < w.heap.size) (hne : B ≠ blk) (hcell : w.cell? ⟨B, 0, none⟩ = some (.int .i64 lim)) :
    PredOver Tryz.prog 65 #[.pointer (some ⟨B, 0, none⟩)] encZ (fun x => decide (x < lim)) blk off size w :=
  fun n os dk x _ => gives65 lim x B _ (by
    unfold sortWorld
    rw [cell?_grow _ _ _ (by show B < (putRow _ _ _ _ _).heap.size; rw [size_putRow]; exact hB), cell?_putRow_other _ _ blk off _ _ (Or.inl hne)]
    exact hcell)
theorem del_c (W : World) (v : Value) (xs : List Int) (lim : Int) (B : Nat) (hl : xs.length ≤ 1000000) (hc : W.cell? ⟨B, 0, none⟩ = some (.int .i64 lim)) (hne : some B ≠ v.ownBlock) (h : Row W 2 1 encI v xs) :
    Calls Tryz.prog 64 #[v, .func (.func 65) #[] #[.pointer (some ⟨B, 0, none⟩)]] W fun e w' =>
      ∃ v', e = .returned v' ∧ Row w' 2 1 encI v' (xs.filter fun x => !decide (x < lim)) ∧ v'.ownBlock = v.ownBlock ∧ Keep v.ownBlock.toList W w' := by
  rcases h.2 with ⟨rfl, h0⟩ | ⟨g, cap, cur, rfl, hg, hh, h1, h2, h3, h4⟩
  · have e0 : xs = [] := List.eq_nil_of_length_eq_zero h0
    subst e0
    refine (del_nil_c W _).mono ?_
    rintro e w' ⟨rfl, rfl⟩
    exact ⟨_, rfl, h, rfl, Keep.refl _ _⟩
  · have hH : Holds encZ W g 0 xs.toArray := holds_of_block_i hh (by rw [flat_encI, Nat.mul_one] at h4; exact h4)
    have hB := World.block_lt_of_cell? W _ hc
    have hgB : B ≠ g := fun e => hne (by rw [e]; rfl)
    have hcon := AnyE.slices_DeleteFunc Tryz.delA encZ (fun _ => rfl) (fun x => decide (x < lim)) 65 #[.pointer (some ⟨B, 0, none⟩)] (enters_of Tryz.func65 (by kernel_rfl) rfl) 0 zero64' g 0 cap xs.toArray W
      (pred65 lim B _ hB hc) (over65 lim B g 0 _ _ hB hgB hc) hH (by simp; omega) (by simpa using h1)
    change Calls Tryz.prog 64 _ _ _ at hcon
    refine hcon.mono ?_
    rintro e w' ⟨rfl, q, rfl⟩
    have hle := List.length_filter_le (fun x => !decide (x < lim)) xs
    have hr := Lib.ownsRow_putRow (q := q) (k := (xs.filter fun x => !decide (x < lim)).length) (ys := (xs.filter fun x => !decide (x < lim)) ++ List.replicate (xs.length - (xs.filter fun x => !decide (x < lim)).length) 0) (show W.ownsRow 0 2 1 (.slice (some ⟨g, 0, none⟩) xs.length cap) xs.length (xs.map encZ) from by have := h; unfold Row at this; rw [flat_encI] at this; exact this) (by simp; omega) hle
    rw [List.take_left] at hr
    refine ⟨_, rfl, (Row.of_owns hr rfl).1, rfl, ?_⟩
    have hgr := grownBy_sorted_i (w := W) (g := g) (n := q) (os := #[]) ((xs.filter fun x => !decide (x < lim)) ++ List.replicate (xs.length - (xs.filter fun x => !decide (x < lim)).length) 0).toArray
    rw [grow_empty] at hgr
    exact (Keep.refl _ W).grown hgr (fun k e => .inr ⟨by injection e with e; subst e; simp [Value.ownBlock], by injection e with e; subst e; exact ⟨cur, _, hh, by decide⟩⟩)
end Go.Proofs.Hg
