/-
  Contracts of the functions that the statement reaches, and plain lemmas on lists, part 4. Conditions: those that each theorem names.
-/
import Derived.Test.YtemhlafdlflilaaGreatDoorHt3
import Derived.Deep.Slices
set_option linter.unusedVariables false
set_option linter.unusedSimpArgs false
namespace Go.Proofs.Hg
open Go.ChangeShapes Go.WideShapes Go.ChangeAt Go.WideMaps Go.WideElems Go.RowKit Go.Proofs.YtemhlafdlflilaaGreatDoor
/-! ## Changes as arguments -/
theorem cells2 : Tryz.prog.cellsOf 2 = 1 := by kernel_rfl
theorem cells4 : Tryz.prog.cellsOf 4 = 1 := by kernel_rfl
theorem cellsV : Tryz.prog.cellsOf 48 = 3 := by kernel_rfl
theorem cellsO : Tryz.prog.cellsOf 50 = 10 := by kernel_rfl
section
variable {H : Type} {enc : TypeId × Value → H} {w : World} {base : Nat} {spare : Nat → Bool} {held : Bool}
theorem fld {m off k : Nat} (t : TypeId) {cs seg : List Value} {xs : Option (DataW H × List MemPlace)} {y : DataW H × List MemPlace} (hk : Tryz.prog.cellsOf t = k) (h : DataW.trod enc Tryz.prog w base spare held m t ((cs.drop off).take (Tryz.prog.cellsOf t)) = xs) (hs : (cs.drop off).take k = seg) (hy : xs = some y) : DataW.trod enc Tryz.prog w base spare held m t seg = some y := by
  rw [hk, hs] at h; rw [h, hy]
theorem val_of_trod {n : Nat} {a b c : Value} {x : DataW H × List MemPlace} (h : DataW.trod enc Tryz.prog w base spare held n 48 [a, b, c] = some x) : ∃ v : Val, a = .int .i64 v.k ∧ b = .int .i64 v.n ∧ c = .string v.s ∧ (Lit.int .i64 v.k).wf = true ∧ (Lit.int .i64 v.n).wf = true := by
  obtain ⟨xs, m, _, hx, hl, hlen, hf⟩ := DataW.trod_struct Tryz.underlying48 h
  match xs, hlen, hf with
  | [y0, y1, y2], _, hf =>
    have f0 := fld (seg := [a]) (y := y0) 3 cells3 (hf 0 _ rfl) rfl rfl
    have f1 := fld (seg := [b]) (y := y1) 2 cells2 (hf 1 _ rfl) rfl rfl
    have f2 := fld (seg := [c]) (y := y2) 9 cells9 (hf 2 _ rfl) rfl rfl
    obtain ⟨k0, e0, _, w0⟩ := DataW.trod_int Tryz.underlying3 f0
    obtain ⟨k1, e1, _, w1⟩ := DataW.trod_int Tryz.underlying2 f1
    obtain ⟨s2, e2, _, _⟩ := DataW.trod_string Tryz.underlying9 f2
    simp at e0 e1 e2
    exact ⟨⟨k0, k1, s2⟩, e0, e1, e2, w0, w1⟩
set_option maxRecDepth 100000 in
theorem op_of_trod {n : Nat} {cs : List Value} {x : DataW H × List MemPlace} (h : DataW.trod enc Tryz.prog w base spare held n 50 cs = some x) : ∃ o : Op, cs = encO o ∧ (Lit.int .i64 o.id).wf = true := by
  obtain ⟨xs, m, _, hx, hl, hlen, hf⟩ := DataW.trod_struct Tryz.underlying50 h
  rw [cellsO] at hl
  match cs, hl with
  | [c0, c1, c2, c3, c4, c5, c6, c7, c8, c9], _ =>
    match xs, hlen, hf with
    | [y0, y1, y2, y3, y4, y5, y6, y7], _, hf =>
      have f0 := fld (seg := [c0]) (y := y0) 3 cells3 (hf 0 _ rfl) rfl rfl
      have f1 := fld (seg := [c1]) (y := y1) 2 cells2 (hf 1 _ rfl) rfl rfl
      have f2 := fld (seg := [c2]) (y := y2) 9 cells9 (hf 2 _ rfl) rfl rfl
      have f3 := fld (seg := [c3]) (y := y3) 2 cells2 (hf 3 _ rfl) rfl rfl
      have f4 := fld (seg := [c4]) (y := y4) 2 cells2 (hf 4 _ rfl) rfl rfl
      have f5 := fld (seg := [c5]) (y := y5) 9 cells9 (hf 5 _ rfl) rfl rfl
      have f6 := fld (seg := [c6, c7, c8]) (y := y6) 48 cellsV (hf 6 _ rfl) rfl rfl
      have f7 := fld (seg := [c9]) (y := y7) 4 cells4 (hf 7 _ rfl) rfl rfl
      obtain ⟨k0, e0, _, _⟩ := DataW.trod_int Tryz.underlying3 f0
      obtain ⟨k1, e1, _, w1⟩ := DataW.trod_int Tryz.underlying2 f1
      obtain ⟨s2, e2, _, _⟩ := DataW.trod_string Tryz.underlying9 f2
      obtain ⟨k3, e3, _, _⟩ := DataW.trod_int Tryz.underlying2 f3
      obtain ⟨k4, e4, _, _⟩ := DataW.trod_int Tryz.underlying2 f4
      obtain ⟨s5, e5, _, _⟩ := DataW.trod_string Tryz.underlying9 f5
      obtain ⟨v, ea, eb, ec, _, _⟩ := val_of_trod f6
      obtain ⟨b7, e7, _⟩ := DataW.trod_bool Tryz.underlying4 f7
      simp at e0 e1 e2 e3 e4 e5 e7
      subst e0 e1 e2 e3 e4 e5 ea eb ec e7
      exact ⟨⟨k0, k1, s2, k3, k4, s5, v, b7⟩, rfl, w1⟩
theorem list_of {α : Type} (Q : Nat → α → Prop) : ∀ (n : Nat), (∀ i, i < n → ∃ x, Q i x) → ∃ l : List α, l.length = n ∧ ∀ i (hi : i < l.length), Q i l[i]
  | 0, _ => ⟨[], rfl, fun i hi => by simp at hi⟩
  | n + 1, h => by
    obtain ⟨l, hl, hq⟩ := list_of Q n (fun i hi => h i (by omega))
    obtain ⟨x, hx⟩ := h n (by omega)
    refine ⟨l ++ [x], by simp [hl], fun i hi => ?_⟩
    by_cases e : i < l.length
    · rw [List.getElem_append_left e]; exact hq i e
    · have : i = n := by simp at hi; omega
      subst this
      rw [List.getElem_append_right (by omega)]
      simpa [hl] using hx
theorem ops_of_trod {fuel : Nat} {a0 : Option Addr} {len cap : Nat} {x : DataW H × List MemPlace} (h : DataW.trod enc Tryz.prog w base spare held fuel 24 [.slice a0 len cap] = some x) :
    ∃ l : List Op, Rd w 10 encO (.slice a0 len cap) l ∧ ∀ o ∈ l, (Lit.int .i64 o.id).wf = true := by
  rcases Go.Deep.open_slice Tryz.underlying24 h with ⟨hcs, _⟩ | ⟨a, len', cap', m, n, D, Pl, hcs, _, hl, hm, hmm, _, hi⟩
  · simp at hcs
    obtain ⟨rfl, rfl, rfl⟩ := hcs
    exact ⟨[], ⟨none, 0, rfl, by simp, by omega, fun i hi => by simp at hi⟩, fun o ho => by simp at ho⟩
  · simp at hcs
    obtain ⟨rfl, rfl, rfl⟩ := hcs
    rw [cellsO] at hi
    have hle : len ≤ m := by rw [hmm]; split <;> omega
    obtain ⟨l, hll, hq⟩ := list_of (fun i (o : Op) => (∀ j, j < 10 → w.cell? (a.add (i * 10 + j)) = (encO o)[j]?) ∧ (Lit.int .i64 o.id).wf = true) len (fun i hil => by
      obtain ⟨cs', hc, ht⟩ := hi i (by omega)
      obtain ⟨o, rfl, hw⟩ := op_of_trod ht
      obtain ⟨_, _, hat⟩ := World.cells?_some hc
      exact ⟨o, fun j hj => by rw [← hat j hj, Go.Deep.add_add], hw⟩)
    subst hll
    refine ⟨l, ⟨some a, cap, rfl, hl, by unfold maxLen at hm; omega, fun i hil => ?_⟩, fun o ho => ?_⟩
    · have hsp : a.spot = none := by
        have h0 := (hq 0 (by omega)).1 0 (by omega)
        have h1 : (encO (l[0]'(by omega)))[0]? = some (.int .i64 (l[0]'(by omega)).k) := rfl
        rw [h1] at h0
        have := World.cell?_spot h0
        simpa [Addr.add] using this
      obtain ⟨b, off, sp⟩ := a
      simp at hsp
      subst hsp
      refine ⟨b, off, rfl, fun j hj => ?_⟩
      have h1 := (hq i hil).1 j hj
      have hadd : (⟨b, off, none⟩ : Addr).add (i * 10 + j) = ⟨b, off + i * 10 + j, none⟩ := by unfold Addr.add; split <;> simp_all <;> omega
      rw [hadd] at h1
      have hlt : j < (encO l[i]).length := hj
      exact ⟨(encO l[i])[j], by rw [h1, List.getElem?_eq_getElem hlt], List.getElem?_eq_getElem hlt⟩
    · obtain ⟨i, hi', rfl⟩ := List.getElem_of_mem ho
      exact (hq i hi').2
end
end Go.Proofs.Hg
