/-
  Contracts of the functions that the statement reaches, and plain lemmas on lists, part 9. Conditions: those that each theorem names.
-/
import Derived.Test.YtemhlafdlflilaaGreatDoorHg8
import Derived.Test.YtemhlafdlflilaaGreatDoorRows
import Derived.Test.YtemhlafdlflilaaGreatDoorCards
import Derived.Test.YtemhlafdlflilaaGreatDoorTie
import Derived.ProofKit
import Derived.LaidMore
import Derived.SevenTiedAt
set_option linter.unusedVariables false
set_option linter.unusedSimpArgs false
namespace Go.Proofs.Hg
open Go.ChangeShapes Go.WideShapes Go.ChangeAt Go.WideMaps Go.WideElems Go.RowKit Go.Proofs.YtemhlafdlflilaaGreatDoor
/-! ## What all rows of this seat share -/
theorem own : ownKnob Tryz.prog.godebug = none := by kernel_rfl
theorem laidOut : laidOutB Tryz.prog = true := by kernel_rfl
theorem gEx : Tryz.prog.globalNamed "hedgerow/hedgerowlaw23.exists" = some 0 := by kernel_rfl
theorem tEx : (Tryz.prog.globals[0]?).map (·.type) = some 23 := by kernel_rfl
abbrev laidEx {H : Type} : List (String × DataW H) := [("hedgerow/hedgerowlaw23.exists", Rows.laid_hedgerow_hedgerowlaw23_exists)]
section
variable {H : Type} {enc : TypeId × Value → H} {P : Program}
/-- Arguments read behind a call that has only made new memory as they read before it. -/
theorem trodAll_stays (hl : laidOutB P = true) {W W' : World} {sp : Nat → Bool} : ∀ {ts : List TypeId} {vs : List Value} {ds : List (DataW H)} {ps : List MemPlace}, (∀ t ∈ ts, P.readableRec t = true ∧ t < P.types.size) →
    DataW.TrodAll enc P W 0 (fun _ => true) true ts vs ds ps → (∀ p ∈ ps, W.sameAt W' p) → (∀ p ∈ ps, sp p.block = true) → DataW.TrodAll enc P W' 0 sp true ts vs ds ps
  | [], [], [], _, _, h, _, _ => h
  | t :: ts, v :: vs, d :: ds, _, hr, ⟨p, q, h1, h2, e⟩, hs, hp => by
    subst e
    refine ⟨p, q, WideElems.Trod_stays hl (hr t (by simp)).1 (hr t (by simp)).2 h1 (fun x hx => hs x (List.mem_append_left _ hx)) (fun x hx => hp x (List.mem_append_left _ hx)), ?_, rfl⟩
    exact trodAll_stays hl (fun t ht => hr t (by simp [ht])) h2 (fun x hx => hs x (List.mem_append_right _ hx)) (fun x hx => hp x (List.mem_append_right _ hx))
  | [], [], _ :: _, _, _, h, _, _ => absurd h (by simp [DataW.TrodAll])
  | [], _ :: _, _, _, _, h, _, _ => absurd h (by cases h)
  | _ :: _, [], _, _, _, h, _, _ => absurd h (by cases h)
  | _ :: _, _ :: _, [], _, _, h, _, _ => absurd h (by cases h)
/-- The end of a law's row: it has answered true and made new memory alone. -/
theorem law_post {f : Func} {s : ChangeSpec} {W W' : World} {args : Array Value} {ds : List (DataW H)} {before : List MemPlace} (hl : laidOutB P = true) (hv : s.vars = []) (hr : ∀ t ∈ f.params.toList, P.readableRec t = true ∧ t < P.types.size)
    (hb : ∃ t, f.resultTypes = #[t] ∧ P.underlying t = some .bool) (hs : (s.fn H (ds ++ [])).results = [.lit (.bool true)] ∧ (s.fn H (ds ++ [])).args = ds ∧ (s.fn H (ds ++ [])).vars = [])
    (hW : DataW.Whole enc P f.params.toList s.vars false W args.toList ds [] before) (hB : Below W.heap.size W W') : s.post enc P f false true false false W args (.bool true) W' := by
  have hlt : ∀ p ∈ before, p.block < W.heap.size := fun p hp => hW.lt p hp
  obtain ⟨t, ht, hu⟩ := hb
  have hW' := hW
  obtain ⟨p, q, hA, hV, rfl, hz, _⟩ := hW
  rw [hv] at hV
  have hq : q = [] := hV
  subst hq
  have hA' : DataW.TrodAll enc P W' 0 (fun b => decide (b < W.heap.size)) true f.params.toList args.toList ds p :=
    trodAll_stays hl hr hA (fun x hx => hB.same (hlt x (by simpa using hx))) (fun x hx => by simpa using hlt x (by simpa using hx))
  refine ⟨ds, [], p ++ [], [], p, [], hW', ?_, ?_, ?_, ?_, fun h => by cases h⟩
  · rw [hs.1, ht]; exact trodAll_mk1 (shut_bool hu true)
  · rw [hs.2.1]; exact hA'
  · rw [hs.2.2, hv]; rfl
  · exact World.keptBut_mono (fun x hx => ⟨hx, .inr (.inl (by simpa using hx))⟩) (hB.frame (· ∈ p ++ []))
end
theorem cells3 : Tryz.prog.cellsOf 3 = 1 := by kernel_rfl
theorem cells9 : Tryz.prog.cellsOf 9 = 1 := by kernel_rfl
theorem cellsR : Tryz.prog.cellsOf 23 = 8 := by kernel_rfl
section
variable {H : Type} {enc : TypeId × Value → H} {w : World} {base : Nat} {spare : Nat → Bool} {held : Bool} {n : Nat} {c : Value} {y : DataW H × List MemPlace}
theorem int_is {a : Int} (h : DataW.trod enc Tryz.prog w base spare held n 3 [c] = some y) (hy : y.1 = .lit (.int .i64 a)) : c = .int .i64 a := by
  obtain ⟨k, e, rfl, _⟩ := DataW.trod_int Tryz.underlying3 h
  simp at e hy
  rw [e, hy]
theorem str_is {l : List UInt8} (h : DataW.trod enc Tryz.prog w base spare held n 9 [c] = some y) (hy : y.1 = .lit (.string l)) : c = .string ⟨l.toArray⟩ := by
  obtain ⟨s, e, rfl, _⟩ := DataW.trod_string Tryz.underlying9 h
  simp at e hy
  rw [e]
  rcases s with ⟨⟨m⟩⟩
  simp at hy
  rw [hy]
end
set_option maxRecDepth 100000 in
theorem exAt_of_laid {W : World} (h : laidMetH Tryz.prog laidEx W) : ExAt W := by
  rw [MakeChecks.laidMetH_plain _ _ _ (by kernel_rfl)] at h
  obtain ⟨ps, ⟨g, t, cs, fuel, p, q, hg, ht, hvar, hd, _, _⟩, _⟩ := h
  obtain rfl := Option.some.inj (gEx.symm.trans hg)
  obtain rfl := Option.some.inj (tEx.symm.trans ht)
  obtain ⟨xs, n, _, hx, hl, hlen, hf⟩ := DataW.trod_struct Tryz.underlying23 hd
  rw [cellsR] at hl
  have hcell := fun j => World.var?_cell hg hvar j
  obtain ⟨l⟩ := cs
  match l, hl with
  | [c0, c1, c2, c3, c4, c5, c6, c7], _ =>
    match xs, hlen, hx, hf with
    | [y0, y1, y2, y3, y4, y5, y6, y7], _, hx, hf =>
      simp only [Rows.laid_hedgerow_hedgerowlaw23_exists, List.map_cons, List.map_nil, Prod.mk.injEq, DataW.agg.injEq, List.cons.injEq, and_true] at hx
      obtain ⟨⟨h0, h1, h2, h3, h4, h5, h6, h7⟩, _⟩ := hx
      have f0 := hf 0 _ rfl
      have f1 := hf 1 _ rfl
      have f2 := hf 2 _ rfl
      have f3 := hf 3 _ rfl
      have f4 := hf 4 _ rfl
      have f5 := hf 5 _ rfl
      have f6 := hf 6 _ rfl
      have f7 := hf 7 _ rfl
      simp only [cells3, cells9, List.drop_zero, List.drop_succ_cons, List.take_succ_cons, List.take_zero, List.getElem?_cons_zero, List.getElem?_cons_succ] at f0 f1 f2 f3 f4 f5 f6 f7
      have e0 := int_is f0 h0.symm
      have e1 := int_is f1 h1.symm
      have e2 := str_is f2 h2.symm
      have e3 := str_is f3 h3.symm
      have e4 := str_is f4 h4.symm
      have e5 := str_is f5 h5.symm
      have e6 := int_is f6 h6.symm
      have e7 := int_is f7 h7.symm
      subst e0 e1 e2 e3 e4 e5 e6 e7
      exact ⟨hcell 0, hcell 1, hcell 2, hcell 3, hcell 4, hcell 5, hcell 6, hcell 7⟩
end Go.Proofs.Hg
