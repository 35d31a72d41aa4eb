/-
  Contracts of the functions that the statement reaches, and plain lemmas on lists, part 6. Conditions: those that each theorem names.
-/
import Derived.Test.YtemhlafdlflilaaGreatDoorHg5
import Derived.Laws.EntriesVeiled
set_option linter.unusedVariables false
set_option linter.unusedSimpArgs false
namespace Go.Proofs.Hg
open Go Go.RowKit Go.Proofs Go.Shelf
def psOf (g : Gr) (id : Int) : Option (List Prp) :=
  match g.N.find? (fun x => decide (x.id = id)) with
  | some n => some n.ps
  | none => (g.E.find? (fun x => decide (x.id = id))).map (·.ps)
theorem find_unique {α : Type} (f : α → Int) (id : Int) : ∀ (l : List α) (i : Nat) (hi : i < l.length), (l.map f).Pairwise (· < ·) → f l[i] = id → l.find? (fun x => decide (f x = id)) = some l[i]
  | a :: l, 0, _, h, he => by
    rw [List.find?_cons_of_pos (by simpa using he)]; rfl
  | a :: l, i + 1, hi, h, he => by
    simp only [List.map_cons, List.pairwise_cons, List.mem_map, forall_exists_index, and_imp, forall_apply_eq_imp_iff₂] at h
    have hi' : i < l.length := by simpa using hi
    have := h.1 l[i] (List.getElem_mem hi')
    simp only [List.getElem_cons_succ] at he ⊢
    rw [List.find?_cons_of_neg (by simp; omega)]
    exact find_unique f id l i hi' h.2 he
theorem find_none {α : Type} (f : α → Int) (id : Int) (l : List α) (h : (l.map f).contains id = false) : l.find? (fun x => decide (f x = id)) = none := by
  rw [List.find?_eq_none]
  intro x hx hh
  simp at hh
  rw [List.contains_eq_any_beq, List.any_eq_false] at h
  exact h (f x) (List.mem_map_of_mem hx) (by simp [hh])
/-- What lies at the pointer. -/
theorem PropPtr.at {w : World} {p : Nat} {g : Gr} {nv ev : Value} {fn : List FN} {fe : List FE} {id : Int} {v : Option Addr} (hi : GInv g) (h : GAt 106 w p g nv ev fn fe) (hp : PropPtr g nv ev fn fe id v) :
    (v = none ∧ psOf g id = none) ∨ ∃ b i ps pv, v = some ⟨b, i, none⟩ ∧ psOf g id = some ps ∧ w.cell? ⟨b, i, none⟩ = some pv ∧ PsAt w pv ps ∧ w.frozen? ⟨b, i, none⟩ = false := by
  rcases hp with ⟨h1, i, b, n, c, hl, rfl, he, rfl⟩ | ⟨h1, h2, i, b, n, c, hl, rfl, he, rfl⟩ | ⟨h1, h2, rfl⟩
  · right
    have hl' : i < g.N.length := by rw [← h.vn.length]; exact hl
    have hv := h.vn.get i hl hl'
    have e1 : g.N[i].id = id := by rw [← hv.1]; exact he
    obtain ⟨b', cap, cur, hb, _, _, hk, _⟩ := h.n.form (fun _ => rfl) (by omega)
    injection hb with hb _ _; injection hb with hb; injection hb with hb; subst hb
    refine ⟨b, i * 3 + 2, g.N[i].ps, fn[i].pv, rfl, ?_, (rowN_at h.n i hl).2.2, hv.2.2, hk.free _⟩
    unfold psOf
    rw [find_unique (·.id) id g.N i hl' hi.upN e1]
  · right
    have hl' : i < g.E.length := by rw [← h.ve.length]; exact hl
    have hv := h.ve.get i hl hl'
    have e1 : g.E[i].id = id := by rw [← hv.1]; exact he
    obtain ⟨b', cap, cur, hb, _, _, hk, _⟩ := h.e.form (fun _ => rfl) (by omega)
    injection hb with hb _ _; injection hb with hb; injection hb with hb; subst hb
    refine ⟨b, i * 5 + 4, g.E[i].ps, fe[i].pv, rfl, ?_, (rowE_at h.e i hl).2.2.2.2, hv.2.2.2.2, hk.free _⟩
    unfold psOf
    rw [find_none (fun x : Node => x.id) id g.N h1, find_unique (·.id) id g.E i hl' hi.upE e1]; rfl
  · left
    refine ⟨rfl, ?_⟩
    unfold psOf
    rw [find_none (fun x : Node => x.id) id g.N h1, find_none (fun x : Edge => x.id) id g.E h2]; rfl
theorem setP_len (ps : List Prp) (s : ByteArray) (v : Val) : (setP ps s v).length ≤ ps.length + 1 := by
  have h := filtP_len ps s
  have e := congrArg List.length (List.takeWhile_append_dropWhile (p := fun p : Prp => !(geS p.name s)) (l := filtP ps s))
  unfold setP
  split
  · omega
  · simp only [List.length_append, List.length_singleton] at e ⊢; omega
def maySP (g : Gr) (o : Op) : Int := if isName o.name && (goodV o.v || blankV o.v) then (match psOf g o.id with | none => 60 | some ps => if 8 < (setP ps o.name o.v).length then 3 else 0) else 142
section
variable (w : World) (p : Nat) (g : Gr) (nv ev : Value) (fn : List FN) (fe : List FE) (cn ce cr ci cx : Value) (o : Op)
set_option maxRecDepth 100000 in
set_option maxHeartbeats 1600000 in
theorem maySetProp_c (hi : GInv g) (hl : ∀ ps, psOf g o.id = some ps → ps.length ≤ 100000) (h : GAt 106 w p g nv ev fn fe) :
    Calls Tryz.prog 92 #[.pointer (some ⟨p, 0, none⟩), cat5 cn ce cr ci cx, opV o] w fun e w' => e = .returned (.int .i64 (maySP g o)) ∧ Keep [] w w' := by
  have K0 := (Keep.alloc0 w (Obj.cells #[cn, ce, cr, ci, cx] 59)).alloc (Obj.cells (encO o).toArray 50)
  have HX := Lib.hid (Blk.new2 w (Obj.cells #[cn, ce, cr, ci, cx] 59) (encO o).toArray 50)
  have HG := Lib.hid (h.keep K0 (fun _ _ hm => by simp at hm))
  have HI := Lib.hid hi
  have HL := Lib.hid hl
  unfold encO at *
  have HK := Lib.hid K0
  clear K0 h hi hl
  go_enter Tryz.func92, Tryz.ntmps92
  go_wp2_with fail
  generalize (w.alloc _).alloc _ = W at *
  refine (props_c W p g nv ev fn fe o.id HI.out HG.out).mono ?_
  rintro e w1 ⟨v, rfl, hp, hk1⟩
  have HG1 := Lib.hid (HG.out.keep hk1 (fun _ _ hm => by simp at hm))
  have HX1 := Lib.hid (HX.out.keep hk1 (by simp))
  have HK1 := Lib.hid (HK.out.trans0 hk1)
  have HP := Lib.hid (hp.at HI.out HG1.out)
  have d5 := HX1.out.cell 5
  have d6 := HX1.out.cell 6
  have d7 := HX1.out.cell 7
  have d8 := HX1.out.cell 8
  simp only [List.getElem?_toArray, List.getElem?_cons_succ, List.getElem?_cons_zero] at d5 d6 d7 d8
  clear hp hk1 HX HG HK
  have HQ := fun W => name_c o.name W
  go_wp2_with fail
  refine (HQ w1).mono ?_
  rintro e w2 ⟨rfl, rfl⟩
  cases hn : isName o.name with
  | false =>
    have E := Lib.hid (show maySP g o = 142 from by unfold maySP; rw [hn]; rfl)
    clear hn
    go_wp2
    go_ret
    exact ⟨ret_i E.out.symm, HK1.out⟩
  | true =>
    have HN := Lib.hid hn
    have HW := fun W => good_c o.v W
    clear hn
    go_wp2_with fail
    refine (HW w2).mono ?_
    rintro e w3 ⟨rfl, hk3⟩
    have HG2 := Lib.hid (HG1.out.keep hk3 (fun _ _ hm => by simp at hm))
    have HX2 := Lib.hid (HX1.out.keep hk3 (by simp))
    have HK2 := Lib.hid (HK1.out.trans0 hk3)
    have d5 := HX2.out.cell 5
    have d6 := HX2.out.cell 6
    have d7 := HX2.out.cell 7
    have d8 := HX2.out.cell 8
    simp only [List.getElem?_toArray, List.getElem?_cons_succ, List.getElem?_cons_zero] at d5 d6 d7 d8
    have HP2 : Hid ((v = none ∧ psOf g o.id = none) ∨ ∃ b i ps pv, v = some ⟨b, i, none⟩ ∧ psOf g o.id = some ps ∧ w3.cell? ⟨b, i, none⟩ = some pv ∧ PsAt w3 pv ps ∧ w3.frozen? ⟨b, i, none⟩ = false) := by
      rcases HP.out with h | ⟨b, i, ps, pv, h1, h2, h3, h4, h5⟩
      · exact .inl h
      · exact .inr ⟨b, i, ps, pv, h1, h2, (hk3.cell (World.block_lt_of_cell? _ _ h3) (by simp)).trans h3, h4.keep hk3, (hk3.frozen (World.block_lt_of_cell? _ _ h3) (by simp)).trans h5⟩
    clear HP HX1 HG1 hk3
    cases hg : goodV o.v with
    | true =>
      have HGd : Hid ((goodV o.v || blankV o.v) = true) := by show _ = _; rw [hg]; rfl
      clear hg
      rcases HP2.out with ⟨rfl, hps⟩ | ⟨b, i, ps, pv, rfl, hps, hcell, hpa, hfr⟩
      · have E := Lib.hid (show maySP g o = 60 from by unfold maySP; rw [HN.out, HGd.out, hps]; rfl)
        clear hps
        go_wp2
        go_ret
        exact ⟨ret_i E.out.symm, HK2.out⟩
      · have VS := Lib.hid (fun W (hk : Keep [] w3 W) => valSet_c W pv ps o.name o.v (HL.out ps hps) (hpa.keep hk))
        have E := Lib.hid (show maySP g o = if 8 < (setP ps o.name o.v).length then 3 else 0 from by unfold maySP; rw [HN.out, HGd.out, hps]; rfl)
        have SK : Hid (∀ W, Keep [] w3 W → W.cell? ⟨b, i, none⟩ = some pv ∧ W.cell? ⟨w.heap.size + 1, 5, none⟩ = some (.string o.name) ∧ W.cell? ⟨w.heap.size + 1, 6, none⟩ = some (.int .i64 (o.v).k) ∧ W.cell? ⟨w.heap.size + 1, 7, none⟩ = some (.int .i64 (o.v).n) ∧ W.cell? ⟨w.heap.size + 1, 8, none⟩ = some (.string (o.v).s)) := fun W hk =>
          ⟨(hk.cell (World.block_lt_of_cell? _ _ hcell) (by simp)).trans hcell, (hk.cell (World.block_lt_of_cell? _ _ d5) (by simp)).trans d5, (hk.cell (World.block_lt_of_cell? _ _ d6) (by simp)).trans d6, (hk.cell (World.block_lt_of_cell? _ _ d7) (by simp)).trans d7, (hk.cell (World.block_lt_of_cell? _ _ d8) (by simp)).trans d8⟩
        have hsl : ∀ A cap W, PsAt W (.slice A (setP ps o.name o.v).length cap) (setP ps o.name o.v) → True := fun _ _ _ _ => trivial
        have lS : (setP ps o.name o.v).length ≤ 100001 := by have := setP_len ps o.name o.v; have := HL.out ps hps; omega
        clear hps hcell hpa hfr
        by_cases h8 : (8 : Int) < ((setP ps o.name o.v).length : Int)
        all_goals
          go_wp2_with fail
          go_region_held3 (fun W => W.cell? ⟨b, i, none⟩ = some pv ∧ W.cell? ⟨w.heap.size + 1, 5, none⟩ = some (.string o.name) ∧ W.cell? ⟨w.heap.size + 1, 6, none⟩ = some (.int .i64 (o.v).k) ∧ W.cell? ⟨w.heap.size + 1, 7, none⟩ = some (.int .i64 (o.v).n) ∧ W.cell? ⟨w.heap.size + 1, 8, none⟩ = some (.string (o.v).s)) (first | exact SK.out _ (Keep.refl [] w3) | exact SK.out _ ((Keep.refl [] w3).drew) | exact SK.out _ hk4.out | go_keep)
            ((go_at_call 117; refine (VS.out _ ((Keep.refl [] w3).drew)).mono ?_; rintro e w4 ⟨v', rfl, hp4, hk4'⟩; obtain ⟨B, cB, hv4, _, _⟩ := Row.slice (enc := encP) (sz := 4) hp4; subst hv4; have hk4 := Lib.hid (((Keep.refl [] w3).drew).trans0 hk4'); clear hk4' hp4))
          all_goals go_wp2
          all_goals (go_ret; exact ⟨ret_i (by rw [E.out]; first | rw [if_pos (by omega)] | rw [if_neg (by omega)]), HK2.out.trans0 hk4.out⟩)
    | false =>
      cases hb : blankV o.v with
      | true =>
        have HGd : Hid ((goodV o.v || blankV o.v) = true) := by show _ = _; rw [hb]; simp
        have hz : o.v = Val.mk 0 0 ⟨#[]⟩ := by
          unfold blankV at hb
          simp only [Bool.and_eq_true, decide_eq_true_eq] at hb
          obtain ⟨h1, h2, h3⟩ := hb
          have h4 : o.v.s = ⟨#[]⟩ := by
            have : o.v.s.toList = [] := by simpa using h3
            rcases hs : o.v.s with ⟨⟨l⟩⟩
            rw [hs] at this
            have e : l = [] := by simpa [ByteArray.toList_eq] using this
            rw [e]
          rcases hv : o.v with ⟨k, n, s⟩
          rw [hv] at h1 h2 h4
          simp only at h1 h2 h4
          rw [h1, h2, h4]
        have HZ := Lib.hid hz
        rw [hz] at d6 d7 d8
        clear hg hb hz
        rcases HP2.out with ⟨rfl, hps⟩ | ⟨b, i, ps, pv, rfl, hps, hcell, hpa, hfr⟩
        · have E := Lib.hid (show maySP g o = 60 from by unfold maySP; rw [HN.out, HGd.out, hps]; rfl)
          clear hps
          go_wp2
          go_ret
          exact ⟨ret_i E.out.symm, HK2.out⟩
        · have VS := Lib.hid (fun W (hk : Keep [] w3 W) => valSet_c W pv ps o.name (Val.mk 0 0 ⟨#[]⟩) (HL.out ps hps) (hpa.keep hk))
          have E := Lib.hid (show maySP g o = if 8 < (setP ps o.name (Val.mk 0 0 ⟨#[]⟩)).length then 3 else 0 from by unfold maySP; rw [HN.out, HGd.out, hps, HZ.out]; rfl)
          have SK : Hid (∀ W, Keep [] w3 W → W.cell? ⟨b, i, none⟩ = some pv ∧ W.cell? ⟨w.heap.size + 1, 5, none⟩ = some (.string o.name) ∧ W.cell? ⟨w.heap.size + 1, 6, none⟩ = some (.int .i64 ((Val.mk 0 0 ⟨#[]⟩)).k) ∧ W.cell? ⟨w.heap.size + 1, 7, none⟩ = some (.int .i64 ((Val.mk 0 0 ⟨#[]⟩)).n) ∧ W.cell? ⟨w.heap.size + 1, 8, none⟩ = some (.string ((Val.mk 0 0 ⟨#[]⟩)).s)) := fun W hk =>
            ⟨(hk.cell (World.block_lt_of_cell? _ _ hcell) (by simp)).trans hcell, (hk.cell (World.block_lt_of_cell? _ _ d5) (by simp)).trans d5, (hk.cell (World.block_lt_of_cell? _ _ d6) (by simp)).trans d6, (hk.cell (World.block_lt_of_cell? _ _ d7) (by simp)).trans d7, (hk.cell (World.block_lt_of_cell? _ _ d8) (by simp)).trans d8⟩
          have hsl : ∀ A cap W, PsAt W (.slice A (setP ps o.name (Val.mk 0 0 ⟨#[]⟩)).length cap) (setP ps o.name (Val.mk 0 0 ⟨#[]⟩)) → True := fun _ _ _ _ => trivial
          have lS : (setP ps o.name (Val.mk 0 0 ⟨#[]⟩)).length ≤ 100001 := by have := setP_len ps o.name (Val.mk 0 0 ⟨#[]⟩); have := HL.out ps hps; omega
          clear hps hcell hpa hfr
          by_cases h8 : (8 : Int) < ((setP ps o.name (Val.mk 0 0 ⟨#[]⟩)).length : Int)
          all_goals
            go_wp2_with fail
            go_region_held3 (fun W => W.cell? ⟨b, i, none⟩ = some pv ∧ W.cell? ⟨w.heap.size + 1, 5, none⟩ = some (.string o.name) ∧ W.cell? ⟨w.heap.size + 1, 6, none⟩ = some (.int .i64 ((Val.mk 0 0 ⟨#[]⟩)).k) ∧ W.cell? ⟨w.heap.size + 1, 7, none⟩ = some (.int .i64 ((Val.mk 0 0 ⟨#[]⟩)).n) ∧ W.cell? ⟨w.heap.size + 1, 8, none⟩ = some (.string ((Val.mk 0 0 ⟨#[]⟩)).s)) (first | exact SK.out _ (Keep.refl [] w3) | exact SK.out _ ((Keep.refl [] w3).drew) | exact SK.out _ hk4.out | go_keep)
              ((go_at_call 117; refine (VS.out _ ((Keep.refl [] w3).drew)).mono ?_; rintro e w4 ⟨v', rfl, hp4, hk4'⟩; obtain ⟨B, cB, hv4, _, _⟩ := Row.slice (enc := encP) (sz := 4) hp4; subst hv4; have hk4 := Lib.hid (((Keep.refl [] w3).drew).trans0 hk4'); clear hk4' hp4))
            all_goals go_wp2
            all_goals (go_ret; exact ⟨ret_i (by rw [E.out]; first | rw [if_pos (by omega)] | rw [if_neg (by omega)]), HK2.out.trans0 hk4.out⟩)
      | false =>
        have E := Lib.hid (show maySP g o = 142 from by unfold maySP; rw [HN.out, hg, hb]; rfl)
        unfold blankV at hb
        clear hg
        go_wp2
        all_goals first
          | (go_ret; exact ⟨ret_i E.out.symm, HK2.out⟩)
          | (exfalso; simp_all)
end
end Go.Proofs.Hg
namespace Go.Proofs.Hg
open Go Go.RowKit Go.Proofs Go.Shelf
theorem flat_set {α : Type} {enc : α → List Value} {k : Nat} (hk : ∀ x, (enc x).length = k) : ∀ (xs : List α) (i j : Nat) (u : Value) (hi : i < xs.length) (x' : α), j < k → enc x' = (enc xs[i]).set j u → (xs.flatMap enc).set (i * k + j) u = (xs.set i x').flatMap enc
  | a :: l, 0, j, u, _, x', hj, h => by
    simp only [List.getElem_cons_zero] at h
    rw [Nat.zero_mul, Nat.zero_add, List.flatMap_cons, List.set_cons_zero, List.flatMap_cons, h, List.set_append_left _ _ (by rw [hk]; exact hj)]
  | a :: l, i + 1, j, u, hi, x', hj, h => by
    have e : (i + 1) * k + j = (enc a).length + (i * k + j) := by rw [hk, Nat.succ_mul]; omega
    rw [e, List.flatMap_cons, List.set_append_right _ _ (by omega), Nat.add_sub_cancel_left, flat_set hk l i j u (by simpa using hi) x' hj (by simpa using h), List.set_cons_succ, List.flatMap_cons]
theorem All2.set' {α β : Type} {R : α → β → Prop} {l : List α} {m : List β} (h : All2 R l m) (i : Nat) {a : α} {b : β} (hab : R a b) : All2 R (l.set i a) (m.set i b) := h.set i hab
theorem set_map {α : Type} (f : α → Int) (q : α → α) (id : Int) : ∀ (l : List α) (i : Nat) (hi : i < l.length), (l.map f).Pairwise (· < ·) → f l[i] = id → l.set i (q l[i]) = l.map (fun x => if f x = id then q x else x)
  | a :: l, 0, _, h, he => by
    simp only [List.map_cons, List.pairwise_cons, List.mem_map, forall_exists_index, and_imp, forall_apply_eq_imp_iff₂] at h
    simp only [List.getElem_cons_zero] at he ⊢
    rw [List.set_cons_zero, List.map_cons, if_pos he]
    congr 1
    rw [List.map_congr_left (g := fun x => x) (fun x hx => by have := h.1 x hx; rw [if_neg (by omega)])]
    simp
  | a :: l, i + 1, hi, h, he => by
    simp only [List.map_cons, List.pairwise_cons, List.mem_map, forall_exists_index, and_imp, forall_apply_eq_imp_iff₂] at h
    have hi' : i < l.length := by simpa using hi
    have := h.1 l[i] (List.getElem_mem hi')
    simp only [List.getElem_cons_succ] at he ⊢
    rw [List.set_cons_succ, List.map_cons, if_neg (by omega), set_map f q id l i hi' h.2 he]
def setG (g : Gr) (id : Int) (ps : List Prp) : Gr :=
  if hasN g id then ⟨g.N.map (fun x => if x.id = id then ⟨x.id, x.ty, ps⟩ else x), g.E, g.next⟩ else ⟨g.N, g.E.map (fun x => if x.id = id then ⟨x.id, x.ty, x.fr, x.tt, ps⟩ else x), g.next⟩
/-- What a store of new properties at the pointer leaves. -/
theorem PropPtr.store {w w2 : World} {p b i : Nat} {g : Gr} {nv ev v' : Value} {fn : List FN} {fe : List FE} {id : Int} {ps : List Prp} (hi : GInv g) (h : GAt 106 w p g nv ev fn fe) (hp : PropPtr g nv ev fn fe id (some ⟨b, i, none⟩)) (hk : Keep [] w w2) (hv : PsAt w2 v' ps) :
    ∃ fn' fe', GAt 106 (w2.setCell ⟨b, i, none⟩ v') p (setG g id ps) nv ev fn' fe' ∧ Keep (foot p nv ev) w (w2.setCell ⟨b, i, none⟩ v') := by
  have h2 := h.keep hk (fun _ _ hm => by simp at hm)
  rcases hp with ⟨h1, j, b', n, c, hl, hnv, he, hb⟩ | ⟨h1, h1', j, b', n, c, hl, hev, he, hb⟩ | ⟨_, _, hb⟩
  · injection hb with hb; injection hb with hb hb2; subst hb hb2
    have hl' : j < g.N.length := by rw [← h.vn.length]; exact hl
    have hvv := h.vn.get j hl hl'
    have e1 : g.N[j].id = id := by rw [← hvv.1]; exact he
    obtain ⟨b', cap, cur, hb, hc1, hc2, hbk, hcs, htk, _⟩ := h2.n.form (fun _ => rfl) (by omega)
    rw [hb] at hnv; injection hnv with hnv _ _; injection hnv with hnv; injection hnv with hnv; subst hnv
    have hwb : Blk w b' 113 cur := (hk.block b' (h.n.lt b' (by rw [hb]; rfl)) (by simp)).symm.trans hbk
    have k3 : Keep (foot p nv ev) w (w2.setCell ⟨b', j * 3 + 2, none⟩ v') := Keep.setBlk (hk.mono (fun _ hm => by simp at hm)) hwb (by decide) (mem_foot.2 (.inr (.inl (by rw [hb]; rfl)))) (j * 3 + 2) v'
    have hpn : p ≠ b' := fun e => by have := h2.n.ne_blk h2.blk (by decide); rw [hb] at this; exact this (by rw [e]; rfl)
    have ep : setG g id ps = ⟨g.N.set j ⟨g.N[j].id, g.N[j].ty, ps⟩, g.E, g.next⟩ := by
      unfold setG; rw [if_pos h1, set_map (fun x : Node => x.id) (fun x => ⟨x.id, x.ty, ps⟩) id g.N j hl' hi.upN e1]
    have en : Row (w2.setCell ⟨b', j * 3 + 2, none⟩ v') 113 3 encN nv (fn.set j ⟨fn[j].id, fn[j].ty, v'⟩) := by
      have hr := h2.n
      rw [hb] at hr ⊢
      have hst := (World.ownsRow.stored hr (j * 3 + 2) v').1
      rw [flat_set (enc := encN) (k := 3) (fun _ => rfl) fn j 2 v' hl ⟨fn[j].id, fn[j].ty, v'⟩ (by omega) rfl] at hst
      unfold Row
      rw [List.length_set]
      exact hst
    have ee := h2.e.set_blk hbk (by decide) (j * 3 + 2) (u := v')
    have vv := keep_views k3 h.vn h.ve
    refine ⟨fn.set j ⟨fn[j].id, fn[j].ty, v'⟩, fe, ?_, k3⟩
    rw [ep]
    exact ⟨h2.blk.far hpn _, en, ee, vv.1.set j ⟨hvv.1, hvv.2.1, hv.keep (Keep.setBlk (F := [b']) (Keep.refl _ w2) hbk (by decide) (by simp) (j * 3 + 2) v')⟩, vv.2⟩
  · injection hb with hb; injection hb with hb hb2; subst hb hb2
    have hl' : j < g.E.length := by rw [← h.ve.length]; exact hl
    have hvv := h.ve.get j hl hl'
    have e1 : g.E[j].id = id := by rw [← hvv.1]; exact he
    obtain ⟨b', cap, cur, hb, hc1, hc2, hbk, hcs, htk, _⟩ := h2.e.form (fun _ => rfl) (by omega)
    rw [hb] at hev; injection hev with hev _ _; injection hev with hev; injection hev with hev; subst hev
    have hwb : Blk w b' 115 cur := (hk.block b' (h.e.lt b' (by rw [hb]; rfl)) (by simp)).symm.trans hbk
    have k3 : Keep (foot p nv ev) w (w2.setCell ⟨b', j * 5 + 4, none⟩ v') := Keep.setBlk (hk.mono (fun _ hm => by simp at hm)) hwb (by decide) (mem_foot.2 (.inr (.inr (by rw [hb]; rfl)))) (j * 5 + 4) v'
    have hpn : p ≠ b' := fun e => by have := h2.e.ne_blk h2.blk (by decide); rw [hb] at this; exact this (by rw [e]; rfl)
    have ep : setG g id ps = ⟨g.N, g.E.set j ⟨g.E[j].id, g.E[j].ty, g.E[j].fr, g.E[j].tt, ps⟩, g.next⟩ := by
      unfold setG; rw [if_neg (by rw [h1]; simp), set_map (fun x : Edge => x.id) (fun x => ⟨x.id, x.ty, x.fr, x.tt, ps⟩) id g.E j hl' hi.upE e1]
    have en : Row (w2.setCell ⟨b', j * 5 + 4, none⟩ v') 115 5 encE ev (fe.set j ⟨fe[j].id, fe[j].ty, fe[j].fr, fe[j].tt, v'⟩) := by
      have hr := h2.e
      rw [hb] at hr ⊢
      have hst := (World.ownsRow.stored hr (j * 5 + 4) v').1
      rw [flat_set (enc := encE) (k := 5) (fun _ => rfl) fe j 4 v' hl ⟨fe[j].id, fe[j].ty, fe[j].fr, fe[j].tt, v'⟩ (by omega) rfl] at hst
      unfold Row
      rw [List.length_set]
      exact hst
    have ee := h2.n.set_blk hbk (by decide) (j * 5 + 4) (u := v')
    have vv := keep_views k3 h.vn h.ve
    refine ⟨fn, fe.set j ⟨fe[j].id, fe[j].ty, fe[j].fr, fe[j].tt, v'⟩, ?_, k3⟩
    rw [ep]
    exact ⟨h2.blk.far hpn _, ee, en, vv.1, vv.2.set j ⟨hvv.1, hvv.2.1, hvv.2.2.1, hvv.2.2.2.1, hv.keep (Keep.setBlk (F := [b']) (Keep.refl _ w2) hbk (by decide) (by simp) (j * 5 + 4) v')⟩⟩
  · cases hb
theorem psOf_has {w : World} {p b i : Nat} {g : Gr} {nv ev : Value} {fn : List FN} {fe : List FE} {id : Int} (hp : PropPtr g nv ev fn fe id (some ⟨b, i, none⟩)) : hasN g id = true ∨ hasE g id = true := by
  rcases hp with ⟨h1, _⟩ | ⟨_, h1, _⟩ | ⟨_, _, hb⟩
  · exact .inl h1
  · exact .inr h1
  · cases hb
set_option maxRecDepth 100000 in
set_option maxHeartbeats 1600000 in
theorem setProp_c (w : World) (p : Nat) (g : Gr) (nv ev : Value) (fn : List FN) (fe : List FE) (o : Op) (ps : List Prp) (hi : GInv g) (h : GAt 106 w p g nv ev fn fe) (hps : psOf g o.id = some ps) (hl : ps.length ≤ 100000) :
    Calls Tryz.prog 93 #[.pointer (some ⟨p, 0, none⟩), opV o] w fun e w' => e = .returned (.int .i64 0) ∧
      ∃ fn' fe', GAt 106 w' p (setG g o.id (setP ps o.name o.v)) nv ev fn' fe' ∧ Keep (foot p nv ev) w w' := by
  have K0 := Keep.alloc0 w (Obj.cells (encO o).toArray 50)
  have HX := Lib.hid (Blk.new w (encO o).toArray 50)
  have HG := Lib.hid (h.keep K0 (fun _ _ hm => by simp at hm))
  have HI := Lib.hid hi
  have HS := Lib.hid hps
  unfold encO at *
  have HK := Lib.hid K0
  clear K0 h hi hps
  go_enter Tryz.func93, Tryz.ntmps93
  go_wp2_with fail
  generalize w.alloc _ = W at *
  refine (props_c W p g nv ev fn fe o.id HI.out HG.out).mono ?_
  rintro e w1 ⟨v, rfl, hp, hk1⟩
  have HG1 := Lib.hid (HG.out.keep hk1 (fun _ _ hm => by simp at hm))
  have HX1 := HX.out.keep hk1 (by simp)
  have HK1 := Lib.hid (HK.out.trans0 hk1)
  have d5 := HX1.cell 5
  have d6 := HX1.cell 6
  have d7 := HX1.cell 7
  have d8 := HX1.cell 8
  simp only [List.getElem?_toArray, List.getElem?_cons_succ, List.getElem?_cons_zero] at d5 d6 d7 d8
  rcases hp.at HI.out HG1.out with ⟨_, h0⟩ | ⟨b, i, ps', pv, rfl, h0, hcell, hpa, hfr⟩
  · rw [HS.out] at h0; cases h0
  · rw [HS.out] at h0; injection h0 with h0; subst h0
    have HPP := Lib.hid hp
    have VS := Lib.hid (fun W (hk : Keep [] w1 W) => valSet_c W pv ps o.name o.v hl (hpa.keep hk))
    have SK : Hid (∀ W, Keep [] w1 W → W.cell? ⟨b, i, none⟩ = some pv ∧ W.cell? ⟨w.heap.size, 5, none⟩ = some (.string o.name) ∧ W.cell? ⟨w.heap.size, 6, none⟩ = some (.int .i64 o.v.k) ∧ W.cell? ⟨w.heap.size, 7, none⟩ = some (.int .i64 o.v.n) ∧ W.cell? ⟨w.heap.size, 8, none⟩ = some (.string o.v.s)) := fun W hk =>
      ⟨(hk.cell (World.block_lt_of_cell? _ _ hcell) (by simp)).trans hcell, (hk.cell (World.block_lt_of_cell? _ _ d5) (by simp)).trans d5, (hk.cell (World.block_lt_of_cell? _ _ d6) (by simp)).trans d6, (hk.cell (World.block_lt_of_cell? _ _ d7) (by simp)).trans d7, (hk.cell (World.block_lt_of_cell? _ _ d8) (by simp)).trans d8⟩
    have SQ : Hid (∀ W, Keep [] w1 W → W.cell? ⟨b, i, none⟩ = some pv ∧ W.frozen? ⟨b, i, none⟩ = false) := fun W hk =>
      ⟨(hk.cell (World.block_lt_of_cell? _ _ hcell) (by simp)).trans hcell, (hk.frozen (World.block_lt_of_cell? _ _ hcell) (by simp)).trans hfr⟩
    clear hp hpa hcell hfr HX1 hk1
    go_wp2_with fail
    obtain ⟨r0, r1⟩ := SQ.out _ ((Keep.refl [] w1).drew)
    go_region_with
      ((go_at_call 117; refine (VS.out _ ((Keep.refl [] w1).drew)).mono ?_; rintro e w4 ⟨v', rfl, hp4, hk4'⟩; obtain ⟨B, cB, hv4, _, _⟩ := Row.slice (enc := encP) (sz := 4) hp4; subst hv4; have HP4 := Lib.hid hp4; have hk4 := Lib.hid (((Keep.refl [] w1).drew).trans0 hk4'); obtain ⟨q0, q1⟩ := SQ.out _ hk4.out; clear hk4' hp4))
    all_goals go_wp2
    all_goals
      go_ret
      obtain ⟨fn', fe', G, K⟩ := HPP.out.store HI.out HG1.out hk4.out HP4.out
      exact ⟨rfl, fn', fe', G, (HK1.out.mono (fun _ hm => by simp at hm)).trans K (fun _ hm => .inl hm)⟩
end Go.Proofs.Hg
namespace Go.Proofs.Hg
open Go Go.RowKit Go.Proofs Go.Shelf
section
variable (w : World) (p : Nat) (g : Gr) (nv ev : Value) (fn : List FN) (fe : List FE) (cn ce cr ci cx : Value) (ns es : List ByteArray) (o : Op)
set_option maxRecDepth 100000 in
set_option maxHeartbeats 1600000 in
theorem May_gen (m d : Nat) (r : Int) (em : Enters m)
    (HA : ∀ W, Calls Tryz.prog 51 #[.int .i64 o.k] W fun e w' => e = .returned (actOf m d) ∧ Keep [] W w')
    (HM : ∀ W, Keep [] w W → Calls Tryz.prog m #[.pointer (some ⟨p, 0, none⟩), cat5 cn ce cr ci cx, opV o] W fun e w' => e = .returned (.int .i64 r) ∧ Keep [] w w') :
    Calls Tryz.prog 50 #[.pointer (some ⟨p, 0, none⟩), cat5 cn ce cr ci cx, opV o] w fun e w' => e = .returned (.int .i64 r) ∧ Keep [] w w' := by
  have K0 := (Keep.alloc0 w (Obj.cells #[cn, ce, cr, ci, cx] 59)).alloc (Obj.cells (encO o).toArray 50)
  have HC := Lib.hid ((Blk.new w #[cn, ce, cr, ci, cx] 59).alloc (Obj.cells (encO o).toArray 50))
  have HX := Lib.hid (Blk.new2 w (Obj.cells #[cn, ce, cr, ci, cx] 59) (encO o).toArray 50)
  unfold encO at *
  have HK := Lib.hid K0
  clear K0
  have em' : ∀ args w, Sem.run Tryz.prog (callFunc m args) w = .ok (.enter m args) w := em
  unfold actOf at HA
  go_enter Tryz.func50, Tryz.ntmps50
  go_wp2_with fail
  generalize (w.alloc _).alloc _ = W at *
  refine (HA W).mono ?_
  rintro e w1 ⟨rfl, hk1⟩
  have hC := HC.out.keep hk1 (by simp)
  have hX := HX.out.keep hk1 (by simp)
  have HK1 := Lib.hid (HK.out.trans0 hk1)
  have S : Hid (∀ x, Keep [] w (w1.alloc x) ∧ Blk (w1.alloc x) w.heap.size 59 #[cn, ce, cr, ci, cx] ∧ Blk (w1.alloc x) (w.heap.size + 1) 50 _) := fun x => ⟨HK1.out.alloc x, hC.alloc x, hX.alloc x⟩
  have b0 := fun x => (S.out x).2.1.cell 0
  have b1 := fun x => (S.out x).2.1.cell 1
  have b2 := fun x => (S.out x).2.1.cell 2
  have b3 := fun x => (S.out x).2.1.cell 3
  have b4 := fun x => (S.out x).2.1.cell 4
  have d0 := fun x => (S.out x).2.2.cell 0
  have d1 := fun x => (S.out x).2.2.cell 1
  have d2 := fun x => (S.out x).2.2.cell 2
  have d3 := fun x => (S.out x).2.2.cell 3
  have d4 := fun x => (S.out x).2.2.cell 4
  have d5 := fun x => (S.out x).2.2.cell 5
  have d6 := fun x => (S.out x).2.2.cell 6
  have d7 := fun x => (S.out x).2.2.cell 7
  have d8 := fun x => (S.out x).2.2.cell 8
  have d9 := fun x => (S.out x).2.2.cell 9
  simp only [List.getElem?_toArray, List.getElem?_cons_succ, List.getElem?_cons_zero] at b0 b1 b2 b3 b4 d0 d1 d2 d3 d4 d5 d6 d7 d8 d9
  clear hC hX hk1
  go_wp2_with fail
  refine (HM _ (S.out _).1).mono ?_
  rintro e w2 ⟨rfl, hk2⟩
  go_wp2
  go_ret
  exact ⟨rfl, hk2⟩
end
end Go.Proofs.Hg
namespace Go.Proofs.Hg
open Go Go.RowKit Go.Proofs Go.Shelf
section
variable (w : World) (p : Nat) (g : Gr) (nv ev : Value) (fn : List FN) (fe : List FE) (cn ce cr ci cx : Value) (ns es : List ByteArray) (o : Op)
set_option maxRecDepth 100000 in
set_option maxHeartbeats 1600000 in
theorem Do_err (r : Int) (hr : r ≠ 0) (HM : ∀ W, Keep [] w W → Calls Tryz.prog 50 #[.pointer (some ⟨p, 0, none⟩), cat5 cn ce cr ci cx, opV o] W fun e w' => e = .returned (.int .i64 r) ∧ Keep [] W w') :
    Calls Tryz.prog 20 #[.pointer (some ⟨p, 0, none⟩), cat5 cn ce cr ci cx, opV o] w fun e w' => e = .returned (.tuple #[.int .i64 0, .int .i64 r]) ∧ Keep [] w w' := by
  have HK := Lib.hid ((Keep.alloc0 w (Obj.cells #[cn, ce, cr, ci, cx] 59)).alloc (Obj.cells (encO o).toArray 50))
  unfold encO at *
  go_enter Tryz.func20, Tryz.ntmps20
  go_wp2_with fail
  refine (HM _ HK.out).mono ?_
  rintro e w1 ⟨rfl, hk1⟩
  have hk2 := HK.out.trans0 hk1
  clear hk1
  go_wp2
  go_ret2
  exact ⟨rfl, hk2⟩
set_option maxRecDepth 100000 in
set_option maxHeartbeats 1600000 in
theorem Do_ok (m d : Nat) (R : Int → World → Prop) (ed : Enters d)
    (HA : ∀ W, Calls Tryz.prog 51 #[.int .i64 o.k] W fun e w' => e = .returned (actOf m d) ∧ Keep [] W w')
    (HM : ∀ W, Keep [] w W → Calls Tryz.prog 50 #[.pointer (some ⟨p, 0, none⟩), cat5 cn ce cr ci cx, opV o] W fun e w' => e = .returned (.int .i64 0) ∧ Keep [] W w')
    (HD : ∀ W, Keep [] w W → Calls Tryz.prog d #[.pointer (some ⟨p, 0, none⟩), opV o] W fun e w' => ∃ id, e = .returned (.int .i64 id) ∧ R id w') :
    Calls Tryz.prog 20 #[.pointer (some ⟨p, 0, none⟩), cat5 cn ce cr ci cx, opV o] w fun e w' => ∃ id, e = .returned (.tuple #[.int .i64 id, .int .i64 0]) ∧ R id w' := by
  have K0 := (Keep.alloc0 w (Obj.cells #[cn, ce, cr, ci, cx] 59)).alloc (Obj.cells (encO o).toArray 50)
  have HC := Lib.hid ((Blk.new w #[cn, ce, cr, ci, cx] 59).alloc (Obj.cells (encO o).toArray 50))
  have HX := Lib.hid (Blk.new2 w (Obj.cells #[cn, ce, cr, ci, cx] 59) (encO o).toArray 50)
  unfold encO at *
  have HK := Lib.hid K0
  clear K0
  have em' : ∀ args w, Sem.run Tryz.prog (callFunc d args) w = .ok (.enter d args) w := ed
  unfold actOf at HA
  go_enter Tryz.func20, Tryz.ntmps20
  go_wp2_with fail
  generalize (w.alloc _).alloc _ = W at *
  refine (HM W HK.out).mono ?_
  rintro e w0 ⟨rfl, hk0⟩
  have hC0 := HC.out.keep hk0 (by simp)
  have hX0 := HX.out.keep hk0 (by simp)
  have HK0 := Lib.hid (HK.out.trans0 hk0)
  have HC0 := Lib.hid hC0
  have HX0 := Lib.hid hX0
  have z0 := hX0.cell 0
  simp only [List.getElem?_toArray, List.getElem?_cons_succ, List.getElem?_cons_zero] at z0
  clear hC0 hX0 hk0 HC HX HK
  go_wp2_with fail
  refine (HA w0).mono ?_
  rintro e w1 ⟨rfl, hk1⟩
  have hC := HC0.out.keep hk1 (by simp)
  have hX := HX0.out.keep hk1 (by simp)
  have HK1 := Lib.hid (HK0.out.trans0 hk1)
  have S : Hid (∀ x, Keep [] w (w1.alloc x) ∧ Blk (w1.alloc x) w.heap.size 59 #[cn, ce, cr, ci, cx] ∧ Blk (w1.alloc x) (w.heap.size + 1) 50 _) := fun x => ⟨HK1.out.alloc x, hC.alloc x, hX.alloc x⟩
  have b0 := fun x => (S.out x).2.1.cell 0
  have b1 := fun x => (S.out x).2.1.cell 1
  have b2 := fun x => (S.out x).2.1.cell 2
  have b3 := fun x => (S.out x).2.1.cell 3
  have b4 := fun x => (S.out x).2.1.cell 4
  have d0 := fun x => (S.out x).2.2.cell 0
  have d1 := fun x => (S.out x).2.2.cell 1
  have d2 := fun x => (S.out x).2.2.cell 2
  have d3 := fun x => (S.out x).2.2.cell 3
  have d4 := fun x => (S.out x).2.2.cell 4
  have d5 := fun x => (S.out x).2.2.cell 5
  have d6 := fun x => (S.out x).2.2.cell 6
  have d7 := fun x => (S.out x).2.2.cell 7
  have d8 := fun x => (S.out x).2.2.cell 8
  have d9 := fun x => (S.out x).2.2.cell 9
  simp only [List.getElem?_toArray, List.getElem?_cons_succ, List.getElem?_cons_zero] at b0 b1 b2 b3 b4 d0 d1 d2 d3 d4 d5 d6 d7 d8 d9
  clear hC hX hk1 z0
  go_wp2_with fail
  refine (HD _ (S.out _).1).mono ?_
  rintro e w2 ⟨id, rfl, hk2⟩
  go_wp2
  go_ret2
  exact ⟨id, rfl, hk2⟩
end
end Go.Proofs.Hg
namespace Go.Proofs.Hg
open Go Go.RowKit Go.Proofs Go.Shelf
def mayG (ns es : List ByteArray) (g : Gr) (o : Op) : Int :=
  if o.k = 1 then mayAN ns g o else if o.k = 2 then mayDN g o else if o.k = 3 then mayAE es g o else if o.k = 4 then mayDE g o else if o.k = 5 then maySP g o else 150
def actG (g : Gr) (o : Op) : Gr :=
  if o.k = 1 then ⟨g.N ++ [⟨g.next, o.ty, []⟩], g.E, g.next + 1⟩ else if o.k = 2 then dropN g o.id else if o.k = 3 then ⟨g.N, g.E ++ [⟨g.next, o.ty, o.fr, o.tt, []⟩], g.next + 1⟩
  else if o.k = 4 then dropE g o.id else setG g o.id (setP ((psOf g o.id).getD []) o.name o.v)
def idG (g : Gr) (o : Op) : Int := if o.k = 1 ∨ o.k = 3 then g.next else 0
section
variable (w : World) (p : Nat) (g : Gr) (nv ev : Value) (fn : List FN) (fe : List FE) (cn ce cr ci cx : Value) (ns es : List ByteArray) (o : Op)
set_option maxRecDepth 100000 in
set_option maxHeartbeats 1600000 in
theorem May0 (HA : ∀ W, Calls Tryz.prog 51 #[.int .i64 o.k] W fun e w' => e = .returned (.tuple #[.agg #[.nilFunc, .nilFunc], .bool false]) ∧ Keep [] W w') :
    Calls Tryz.prog 50 #[.pointer (some ⟨p, 0, none⟩), cat5 cn ce cr ci cx, opV o] w fun e w' => e = .returned (.int .i64 150) ∧ Keep [] w w' := by
  have HK := Lib.hid ((Keep.alloc0 w (Obj.cells #[cn, ce, cr, ci, cx] 59)).alloc (Obj.cells (encO o).toArray 50))
  unfold encO at *
  go_enter Tryz.func50, Tryz.ntmps50
  go_wp2_with fail
  refine (HA _).mono ?_
  rintro e w1 ⟨rfl, hk1⟩
  have hk2 := Lib.hid ((HK.out.trans0 hk1).alloc (Obj.cells #[.nilFunc, .nilFunc] 102))
  clear hk1
  go_wp2
  go_ret
  exact ⟨rfl, hk2.out⟩
theorem May_c (hi : GInv g) (hl : ∀ ps, psOf g o.id = some ps → ps.length ≤ 100000) (h : GAt 106 w p g nv ev fn fe) (hc : CatR w cn ce ns es) :
    Calls Tryz.prog 50 #[.pointer (some ⟨p, 0, none⟩), cat5 cn ce cr ci cx, opV o] w fun e w' => e = .returned (.int .i64 (mayG ns es g o)) ∧ Keep [] w w' := by
  have hG : ∀ W, Keep [] w W → GAt 106 W p g nv ev fn fe := fun W hk => h.keep hk (fun _ _ hm => by simp at hm)
  by_cases k1 : o.k = 1
  · rw [show mayG ns es g o = mayAN ns g o from by unfold mayG; rw [if_pos k1]]
    exact May_gen w p cn ce cr ci cx o _ _ _ (enters_of Tryz.func84 (by kernel_rfl) rfl) (by rw [k1]; exact acts1) (fun W hk => Calls.rel hk (mayAddNode_c W p g nv ev fn fe cn ce cr ci cx ns es o hi (hG W hk) (hc.keep hk)))
  by_cases k2 : o.k = 2
  · rw [show mayG ns es g o = mayDN g o from by unfold mayG; rw [if_neg k1, if_pos k2]]
    exact May_gen w p cn ce cr ci cx o _ _ _ (enters_of Tryz.func86 (by kernel_rfl) rfl) (by rw [k2]; exact acts2) (fun W hk => Calls.rel hk (mayDropNode_c W p g nv ev fn fe cn ce cr ci cx o hi (hG W hk)))
  by_cases k3 : o.k = 3
  · rw [show mayG ns es g o = mayAE es g o from by unfold mayG; rw [if_neg k1, if_neg k2, if_pos k3]]
    exact May_gen w p cn ce cr ci cx o _ _ _ (enters_of Tryz.func88 (by kernel_rfl) rfl) (by rw [k3]; exact acts3) (fun W hk => Calls.rel hk (mayAddEdge_c W p g nv ev fn fe cn ce cr ci cx ns es o hi (hG W hk) (hc.keep hk)))
  by_cases k4 : o.k = 4
  · rw [show mayG ns es g o = mayDE g o from by unfold mayG; rw [if_neg k1, if_neg k2, if_neg k3, if_pos k4]]
    exact May_gen w p cn ce cr ci cx o _ _ _ (enters_of Tryz.func90 (by kernel_rfl) rfl) (by rw [k4]; exact acts4) (fun W hk => Calls.rel hk (mayDropEdge_c W p g nv ev fn fe cn ce cr ci cx o hi (hG W hk)))
  by_cases k5 : o.k = 5
  · rw [show mayG ns es g o = maySP g o from by unfold mayG; rw [if_neg k1, if_neg k2, if_neg k3, if_neg k4, if_pos k5]]
    exact May_gen w p cn ce cr ci cx o _ _ _ (enters_of Tryz.func92 (by kernel_rfl) rfl) (by rw [k5]; exact acts5) (fun W hk => Calls.rel hk (maySetProp_c W p g nv ev fn fe cn ce cr ci cx o hi hl (hG W hk)))
  rw [show mayG ns es g o = 150 from by unfold mayG; rw [if_neg k1, if_neg k2, if_neg k3, if_neg k4, if_neg k5]]
  exact May0 w p cn ce cr ci cx o (acts0 o.k k1 k2 k3 k4 k5)
end
end Go.Proofs.Hg
namespace Go.Proofs.Hg
open Go Go.RowKit Go.Proofs Go.Shelf
/-- What a change leaves: the graph anew, its blocks the old ones or new. -/
def After (T : Nat) (w : World) (p : Nat) (F : List Nat) (g' : Gr) (w' : World) : Prop :=
  ∃ F', GA T w' p g' F' ∧ Keep F w w' ∧ ∀ k, k ∈ F' → k ∈ F ∨ w.heap.size ≤ k
theorem After.from {T p : Nat} {w W w' : World} {F : List Nat} {g' : Gr} (hk : Keep [] w W) (h : After T W p F g' w') : After T w p F g' w' := by
  obtain ⟨F', h1, h2, h3⟩ := h
  exact ⟨F', h1, (hk.mono (fun _ hm => by simp at hm)).trans h2 (fun _ hm => .inl hm), fun k hk' => (h3 k hk').imp id (fun h => Nat.le_trans hk.size h)⟩
section
variable (w : World) (p : Nat) (g : Gr) (F : List Nat) (cn ce cr ci cx : Value) (ns es : List ByteArray) (o : Op)
theorem Do_c (hi : GInv g) (hl : ∀ ps, psOf g o.id = some ps → ps.length ≤ 100000) (h0 : 0 ≤ g.next) (h1 : g.next < 4611686018427387904) (h : GA 106 w p g F) (hc : CatR w cn ce ns es) :
    Calls Tryz.prog 20 #[.pointer (some ⟨p, 0, none⟩), cat5 cn ce cr ci cx, opV o] w fun e w' =>
      if mayG ns es g o = 0 then e = .returned (.tuple #[.int .i64 (idG g o), .int .i64 0]) ∧ After 106 w p F (actG g o) w'
      else e = .returned (.tuple #[.int .i64 0, .int .i64 (mayG ns es g o)]) ∧ Keep [] w w' := by
  obtain ⟨nv, ev, fn, fe, h, rfl⟩ := h
  have hG : ∀ W, Keep [] w W → GAt 106 W p g nv ev fn fe := fun W hk => h.keep hk (fun _ _ hm => by simp at hm)
  have hM := fun W (hk : Keep [] w W) => May_c W p g nv ev fn fe cn ce cr ci cx ns es o hi hl (hG W hk) (hc.keep hk)
  have ln : fn.length ≤ 1000000 := by have := hi.lenN; have := h.vn.length; omega
  have le : fe.length ≤ 1000000 := by have := hi.lenE; have := h.ve.length; omega
  by_cases hm : mayG ns es g o = 0
  · simp only [if_pos hm]
    rw [hm] at hM
    have fin : ∀ (m d : Nat) (ed : Enters d) (HA : ∀ W, Calls Tryz.prog 51 #[.int .i64 o.k] W fun e w' => e = .returned (actOf m d) ∧ Keep [] W w')
        (HD : ∀ W, Keep [] w W → Calls Tryz.prog d #[.pointer (some ⟨p, 0, none⟩), opV o] W fun e w' => e = .returned (.int .i64 (idG g o)) ∧ After 106 W p (foot p nv ev) (actG g o) w'),
        Calls Tryz.prog 20 #[.pointer (some ⟨p, 0, none⟩), cat5 cn ce cr ci cx, opV o] w fun e w' => e = .returned (.tuple #[.int .i64 (idG g o), .int .i64 0]) ∧ After 106 w p (foot p nv ev) (actG g o) w' := fun m d ed HA HD => by
      refine (Do_ok w p cn ce cr ci cx o m d (fun id w' => id = idG g o ∧ After 106 w p (foot p nv ev) (actG g o) w') ed HA hM (fun W hk => (HD W hk).mono ?_)).mono ?_
      · rintro e w' ⟨rfl, ha⟩; exact ⟨_, rfl, rfl, ha.from hk⟩
      · rintro e w' ⟨id, rfl, rfl, ha⟩; exact ⟨rfl, ha⟩
    by_cases k1 : o.k = 1
    · refine fin _ _ (enters_of Tryz.func85 (by kernel_rfl) rfl) (by rw [k1]; exact acts1) (fun W hk => (addNode_c W p g nv ev fn fe o h0 h1 ln (hG W hk)).mono ?_)
      rintro e w' ⟨rfl, nv', a, b, c⟩
      have e1 : idG g o = g.next := by unfold idG; rw [if_pos (.inl k1)]
      have e2 : actG g o = ⟨g.N ++ [⟨g.next, o.ty, []⟩], g.E, g.next + 1⟩ := by unfold actG; rw [if_pos k1]
      rw [e1, e2]
      exact ⟨rfl, _, ⟨_, _, _, _, a, rfl⟩, b, c⟩
    by_cases k2 : o.k = 2
    · have hh : hasN g o.id = true := by
        unfold mayG mayDN at hm; rw [if_neg k1, if_pos k2] at hm
        cases hq : hasN g o.id with
        | true => rfl
        | false => rw [hq] at hm; simp at hm
      refine fin _ _ (enters_of Tryz.func87 (by kernel_rfl) rfl) (by rw [k2]; exact acts2) (fun W hk => (dropNode_c W p g nv ev fn fe o hi (hG W hk) hh).mono ?_)
      rintro e w' ⟨rfl, nv', ev', fn', fe', a, b, c⟩
      have e1 : idG g o = 0 := by unfold idG; rw [if_neg (by omega)]
      have e2 : actG g o = dropN g o.id := by unfold actG; rw [if_neg k1, if_pos k2]
      rw [e1, e2]
      exact ⟨rfl, _, ⟨_, _, _, _, a, rfl⟩, b, fun k hk => .inl (c ▸ hk)⟩
    by_cases k3 : o.k = 3
    · refine fin _ _ (enters_of Tryz.func89 (by kernel_rfl) rfl) (by rw [k3]; exact acts3) (fun W hk => (addEdge_c W p g nv ev fn fe o h0 h1 le (hG W hk)).mono ?_)
      rintro e w' ⟨rfl, nv', a, b, c⟩
      have e1 : idG g o = g.next := by unfold idG; rw [if_pos (.inr k3)]
      have e2 : actG g o = ⟨g.N, g.E ++ [⟨g.next, o.ty, o.fr, o.tt, []⟩], g.next + 1⟩ := by unfold actG; rw [if_neg k1, if_neg k2, if_pos k3]
      rw [e1, e2]
      exact ⟨rfl, _, ⟨_, _, _, _, a, rfl⟩, b, c⟩
    have e1 : idG g o = 0 := by unfold idG; rw [if_neg (by omega)]
    by_cases k4 : o.k = 4
    · have hh : hasE g o.id = true := by
        unfold mayG mayDE at hm; rw [if_neg k1, if_neg k2, if_neg k3, if_pos k4] at hm
        cases hq : hasE g o.id with
        | true => rfl
        | false => rw [hq] at hm; simp at hm
      refine fin _ _ (enters_of Tryz.func91 (by kernel_rfl) rfl) (by rw [k4]; exact acts4) (fun W hk => (dropEdge_c W p g nv ev fn fe o hi (hG W hk) hh).mono ?_)
      rintro e w' ⟨rfl, ev', fe', a, b, c⟩
      have e2 : actG g o = dropE g o.id := by unfold actG; rw [if_neg k1, if_neg k2, if_neg k3, if_pos k4]
      rw [e1, e2]
      exact ⟨rfl, _, ⟨_, _, _, _, a, rfl⟩, b, fun k hk => .inl (c ▸ hk)⟩
    by_cases k5 : o.k = 5
    · obtain ⟨ps, hps⟩ : ∃ ps, psOf g o.id = some ps := by
        unfold mayG maySP at hm; rw [if_neg k1, if_neg k2, if_neg k3, if_neg k4, if_pos k5] at hm
        cases hq : psOf g o.id with
        | some ps => exact ⟨ps, rfl⟩
        | none => rw [hq] at hm; split at hm <;> simp at hm
      refine fin _ _ (enters_of Tryz.func93 (by kernel_rfl) rfl) (by rw [k5]; exact acts5) (fun W hk => (setProp_c W p g nv ev fn fe o ps hi (hG W hk) hps (hl ps hps)).mono ?_)
      rintro e w' ⟨rfl, fn', fe', a, b⟩
      have e2 : actG g o = setG g o.id (setP ps o.name o.v) := by unfold actG; rw [if_neg k1, if_neg k2, if_neg k3, if_neg k4, hps]; rfl
      rw [e1, e2]
      exact ⟨rfl, _, ⟨_, _, _, _, a, rfl⟩, b, fun k hk => .inl hk⟩
    · exfalso
      unfold mayG at hm; rw [if_neg k1, if_neg k2, if_neg k3, if_neg k4, if_neg k5] at hm; omega
  · simp only [if_neg hm]
    exact Do_err w p cn ce cr ci cx o _ hm hM
end
end Go.Proofs.Hg
namespace Go.Proofs.Hg
open Go Go.RowKit Go.Proofs Go.Shelf
def emptyG : Gr := ⟨[], [], 1⟩
theorem Row.nil (w : World) (T sz : Nat) {α : Type} (enc : α → List Value) : Row w T sz enc (.slice none 0 0) [] := ⟨by simp, .inl ⟨rfl, rfl⟩⟩
theorem new_c (w : World) : Calls Tryz.prog 35 #[] w fun e w' => ∃ p F, e = .returned (.pointer (some ⟨p, 0, none⟩)) ∧ GA 106 w' p emptyG F ∧ Keep [] w w' ∧ ∀ k, k ∈ F → w.heap.size ≤ k := by
  have HB := Lib.hid (Blk.new w #[.slice none 0 0, .slice none 0 0, .int .i64 1] 106)
  go_enter Tryz.func35, Tryz.ntmps35
  go_wp2
  go_ret
  exact ⟨w.heap.size, _, rfl, ⟨_, _, [], [], ⟨HB.out, Row.nil _ _ _ _, Row.nil _ _ _ _, .nil, .nil⟩, rfl⟩, Keep.alloc0 _ _, fun k hk => by simp [foot, Value.ownBlock] at hk; omega⟩
theorem next_c (w : World) (p : Nat) (g : Gr) (F : List Nat) (h : GA 106 w p g F) : Calls Tryz.prog 23 #[.pointer (some ⟨p, 0, none⟩)] w fun e w' => e = .returned (.int .i64 g.next) ∧ Keep [] w w' := by
  obtain ⟨nv, ev, fn, fe, h, rfl⟩ := h
  have c2 := h.blk.cell 2
  simp only [List.getElem?_toArray, List.getElem?_cons_succ, List.getElem?_cons_zero] at c2
  clear h
  go_enter Tryz.func23, Tryz.ntmps23
  go_wp2
  go_ret
  exact ⟨rfl, Keep.refl _ _⟩
end Go.Proofs.Hg
namespace Go.Proofs.Hg
open Go Go.RowKit Go.Proofs Go.Shelf
set_option maxRecDepth 100000 in
set_option maxHeartbeats 1600000 in
theorem cloneN_c (w : World) (nv : Value) (fn : List FN) (hl : fn.length ≤ 1000000) (h1c : ∀ v ∈ fn.flatMap encN, v.oneCell' = true) (h : Row w 113 3 encN nv fn) :
    Calls Tryz.prog 78 #[nv] w fun e w' => ∃ v', e = .returned v' ∧ Row w' 113 3 encN v' fn ∧ Keep [] w w' ∧ ∀ k, v'.ownBlock = some k → w.heap.size ≤ k := by
  obtain ⟨i0, hi0, hz0, hz1, hz2⟩ := info_parts infoN
  have hnil := fun (W : World) a n c => Lib.run_eql_slice_nil (P := Tryz.prog) W 39 113 a n c 0 0 (by rfl)
  rcases h.2 with ⟨rfl, h0⟩ | ⟨g, cap, cur, rfl, _, hb, h1, h2, h3, h4⟩
  · have e0 : fn = [] := List.eq_nil_of_length_eq_zero h0
    subst e0
    clear h
    go_enter Tryz.func78, Tryz.ntmps78
    go_wp2_with (simp only [hnil])
    go_ret
    exact ⟨_, rfl, Row.nil _ _ _ _, Keep.refl _ _, fun k hk => by simp [Value.ownBlock] at hk⟩
  · have hlen := flat_length (enc := encN) (k := 3) (fun _ => rfl) fn
    have HB := Lib.hid (Blk.new w #[] 113)
    have HS := Lib.hid (src_drop ((show Blk w g 113 cur from hb).alloc (Obj.cells #[] 113)) h4 0)
    have HL := Lib.hid hlen
    have H1 := Lib.hid h1c
    clear hb h3 h4 h h1c hlen
    by_cases h0 : fn.length = 0
    · have e0 : fn = [] := List.eq_nil_of_length_eq_zero h0
      subst e0
      go_enter Tryz.func78, Tryz.ntmps78
      go_wp2_with (simp only [hnil])
      go_ret
      exact ⟨_, rfl, ⟨rfl, .inr ⟨w.heap.size, 0, #[], rfl, Nat.zero_le _, HB.out, Nat.le_refl _, by unfold maxLen; omega, rfl, rfl⟩⟩, Keep.alloc0 _ _, fun k hk => by simp [Value.ownBlock] at hk; omega⟩
    · go_enter Tryz.func78, Tryz.ntmps78
      go_wp2_with (first | simp only [hnil] | (at_builtin; go_loud (refine wpList_append_lies _ rfl _ _ 39 rfl 0 113 i0 _ 3 48 Tryz.underlying39 hi0 hz0 hz1 hz2 rfl (by omega) _ 0 [] rfl ⟨rfl, .inr ⟨w.heap.size, 0, #[], rfl, Nat.zero_le _, HB.out, Nat.le_refl _, by unfold maxLen; omega, rfl, rfl⟩⟩ ⟨g, 0, none⟩ fn.length cap (fn.flatMap encN) rfl HL.out (by simpa using HS.out) H1.out (by omega) (by unfold maxLen; omega) (by omega) (by omega) (w.heap.size + 1) (by simp) ?_)))
      intro gg cap1 w' a1 a2 a3 a4
      rw [Nat.zero_add, List.nil_append] at a1
      have a2' : (w.alloc (Obj.cells #[] 113)).grownBy w' (some w.heap.size) := a2
      have a3' : some w.heap.size = some gg ∨ gg = w.heap.size + 1 := a3
      have HX : Hid (Row w' 113 3 encN (.slice (some ⟨gg, 0, none⟩) fn.length cap1) fn ∧ Keep [] w w' ∧ w.heap.size ≤ gg) :=
        ⟨a1, (Keep.alloc0 w _).grown a2' (fun k e => .inl (by injection e with e; omega)), by rcases a3' with e | e; (injection e with e; omega); omega⟩
      clear a1 a2 a3 a4 a2' a3'
      go_wp2
      go_ret
      exact ⟨_, rfl, HX.out.1, HX.out.2.1, fun k hk => by simp [Value.ownBlock] at hk; have := HX.out.2.2; omega⟩
set_option maxRecDepth 100000 in
set_option maxHeartbeats 1600000 in
theorem cloneE_c (w : World) (nv : Value) (fn : List FE) (hl : fn.length ≤ 1000000) (h1c : ∀ v ∈ fn.flatMap encE, v.oneCell' = true) (h : Row w 115 5 encE nv fn) :
    Calls Tryz.prog 80 #[nv] w fun e w' => ∃ v', e = .returned v' ∧ Row w' 115 5 encE v' fn ∧ Keep [] w w' ∧ ∀ k, v'.ownBlock = some k → w.heap.size ≤ k := by
  obtain ⟨i0, hi0, hz0, hz1, hz2⟩ := info_parts infoE
  have hnil := fun (W : World) a n c => Lib.run_eql_slice_nil (P := Tryz.prog) W 40 115 a n c 0 0 (by rfl)
  rcases h.2 with ⟨rfl, h0⟩ | ⟨g, cap, cur, rfl, _, hb, h1, h2, h3, h4⟩
  · have e0 : fn = [] := List.eq_nil_of_length_eq_zero h0
    subst e0
    clear h
    go_enter Tryz.func80, Tryz.ntmps80
    go_wp2_with (simp only [hnil])
    go_ret
    exact ⟨_, rfl, Row.nil _ _ _ _, Keep.refl _ _, fun k hk => by simp [Value.ownBlock] at hk⟩
  · have hlen := flat_length (enc := encE) (k := 5) (fun _ => rfl) fn
    have HB := Lib.hid (Blk.new w #[] 115)
    have HS := Lib.hid (src_drop ((show Blk w g 115 cur from hb).alloc (Obj.cells #[] 115)) h4 0)
    have HL := Lib.hid hlen
    have H1 := Lib.hid h1c
    clear hb h3 h4 h h1c hlen
    by_cases h0 : fn.length = 0
    · have e0 : fn = [] := List.eq_nil_of_length_eq_zero h0
      subst e0
      go_enter Tryz.func80, Tryz.ntmps80
      go_wp2_with (simp only [hnil])
      go_ret
      exact ⟨_, rfl, ⟨rfl, .inr ⟨w.heap.size, 0, #[], rfl, Nat.zero_le _, HB.out, Nat.le_refl _, by unfold maxLen; omega, rfl, rfl⟩⟩, Keep.alloc0 _ _, fun k hk => by simp [Value.ownBlock] at hk; omega⟩
    · go_enter Tryz.func80, Tryz.ntmps80
      go_wp2_with (first | simp only [hnil] | (at_builtin; go_loud (refine wpList_append_lies _ rfl _ _ 40 rfl 0 115 i0 _ 5 64 Tryz.underlying40 hi0 hz0 hz1 hz2 rfl (by omega) _ 0 [] rfl ⟨rfl, .inr ⟨w.heap.size, 0, #[], rfl, Nat.zero_le _, HB.out, Nat.le_refl _, by unfold maxLen; omega, rfl, rfl⟩⟩ ⟨g, 0, none⟩ fn.length cap (fn.flatMap encE) rfl HL.out (by simpa using HS.out) H1.out (by omega) (by unfold maxLen; omega) (by omega) (by omega) (w.heap.size + 1) (by simp) ?_)))
      intro gg cap1 w' a1 a2 a3 a4
      rw [Nat.zero_add, List.nil_append] at a1
      have a2' : (w.alloc (Obj.cells #[] 115)).grownBy w' (some w.heap.size) := a2
      have a3' : some w.heap.size = some gg ∨ gg = w.heap.size + 1 := a3
      have HX : Hid (Row w' 115 5 encE (.slice (some ⟨gg, 0, none⟩) fn.length cap1) fn ∧ Keep [] w w' ∧ w.heap.size ≤ gg) :=
        ⟨a1, (Keep.alloc0 w _).grown a2' (fun k e => .inl (by injection e with e; omega)), by rcases a3' with e | e; (injection e with e; omega); omega⟩
      clear a1 a2 a3 a4 a2' a3'
      go_wp2
      go_ret
      exact ⟨_, rfl, HX.out.1, HX.out.2.1, fun k hk => by simp [Value.ownBlock] at hk; have := HX.out.2.2; omega⟩
set_option maxRecDepth 100000 in
set_option maxHeartbeats 1600000 in
theorem cloneP_c (w : World) (nv : Value) (fn : List Prp) (hl : fn.length ≤ 1000000) (h1c : ∀ v ∈ fn.flatMap encP, v.oneCell' = true) (h : Row w 135 4 encP nv fn) :
    Calls Tryz.prog 79 #[nv] w fun e w' => ∃ v', e = .returned v' ∧ Row w' 135 4 encP v' fn ∧ Keep [] w w' ∧ ∀ k, v'.ownBlock = some k → w.heap.size ≤ k := by
  obtain ⟨i0, hi0, hz0, hz1, hz2⟩ := info_parts infoP
  have hnil := fun (W : World) a n c => Lib.run_eql_slice_nil (P := Tryz.prog) W 111 135 a n c 0 0 (by rfl)
  rcases h.2 with ⟨rfl, h0⟩ | ⟨g, cap, cur, rfl, _, hb, h1, h2, h3, h4⟩
  · have e0 : fn = [] := List.eq_nil_of_length_eq_zero h0
    subst e0
    clear h
    go_enter Tryz.func79, Tryz.ntmps79
    go_wp2_with (simp only [hnil])
    go_ret
    exact ⟨_, rfl, Row.nil _ _ _ _, Keep.refl _ _, fun k hk => by simp [Value.ownBlock] at hk⟩
  · have hlen := flat_length (enc := encP) (k := 4) (fun _ => rfl) fn
    have HB := Lib.hid (Blk.new w #[] 135)
    have HS := Lib.hid (src_drop ((show Blk w g 135 cur from hb).alloc (Obj.cells #[] 135)) h4 0)
    have HL := Lib.hid hlen
    have H1 := Lib.hid h1c
    clear hb h3 h4 h h1c hlen
    by_cases h0 : fn.length = 0
    · have e0 : fn = [] := List.eq_nil_of_length_eq_zero h0
      subst e0
      go_enter Tryz.func79, Tryz.ntmps79
      go_wp2_with (simp only [hnil])
      go_ret
      exact ⟨_, rfl, ⟨rfl, .inr ⟨w.heap.size, 0, #[], rfl, Nat.zero_le _, HB.out, Nat.le_refl _, by unfold maxLen; omega, rfl, rfl⟩⟩, Keep.alloc0 _ _, fun k hk => by simp [Value.ownBlock] at hk; omega⟩
    · go_enter Tryz.func79, Tryz.ntmps79
      go_wp2_with (first | simp only [hnil] | (at_builtin; go_loud (refine wpList_append_lies _ rfl _ _ 111 rfl 0 135 i0 _ 4 48 Tryz.underlying111 hi0 hz0 hz1 hz2 rfl (by omega) _ 0 [] rfl ⟨rfl, .inr ⟨w.heap.size, 0, #[], rfl, Nat.zero_le _, HB.out, Nat.le_refl _, by unfold maxLen; omega, rfl, rfl⟩⟩ ⟨g, 0, none⟩ fn.length cap (fn.flatMap encP) rfl HL.out (by simpa using HS.out) H1.out (by omega) (by unfold maxLen; omega) (by omega) (by omega) (w.heap.size + 1) (by simp) ?_)))
      intro gg cap1 w' a1 a2 a3 a4
      rw [Nat.zero_add, List.nil_append] at a1
      have a2' : (w.alloc (Obj.cells #[] 135)).grownBy w' (some w.heap.size) := a2
      have a3' : some w.heap.size = some gg ∨ gg = w.heap.size + 1 := a3
      have HX : Hid (Row w' 135 4 encP (.slice (some ⟨gg, 0, none⟩) fn.length cap1) fn ∧ Keep [] w w' ∧ w.heap.size ≤ gg) :=
        ⟨a1, (Keep.alloc0 w _).grown a2' (fun k e => .inl (by injection e with e; omega)), by rcases a3' with e | e; (injection e with e; omega); omega⟩
      clear a1 a2 a3 a4 a2' a3'
      go_wp2
      go_ret
      exact ⟨_, rfl, HX.out.1, HX.out.2.1, fun k hk => by simp [Value.ownBlock] at hk; have := HX.out.2.2; omega⟩
end Go.Proofs.Hg
namespace Go.Proofs.Hg
open Go Go.RowKit Go.Proofs Go.Shelf
/-- A list of nodes laid anew. -/
def NodesAt (w : World) (v : Value) (N : List Node) : Prop := ∃ fk, Row w 113 3 encN v fk ∧ All2 (NodeV w) fk N
def EdgesAt (w : World) (v : Value) (N : List Edge) : Prop := ∃ fk, Row w 115 5 encE v fk ∧ All2 (EdgeV w) fk N
set_option maxRecDepth 100000 in
set_option maxHeartbeats 1600000 in
theorem nodes_c (w : World) (p : Nat) (g : Gr) (F : List Nat) (hl : g.N.length ≤ 100000) (hps : ∀ n ∈ g.N, n.ps.length ≤ 100000) (h : GA 106 w p g F) :
    Calls Tryz.prog 46 #[.pointer (some ⟨p, 0, none⟩)] w fun e w' => ∃ v, e = .returned v ∧ NodesAt w' v g.N ∧ Keep [] w w' ∧ ∀ k, v.ownBlock = some k → w.heap.size ≤ k := by
  obtain ⟨nv, ev, fn, fe, h, rfl⟩ := h
  have c0 := h.blk.cell 0
  simp only [List.getElem?_toArray, List.getElem?_cons_succ, List.getElem?_cons_zero] at c0
  have ll : fn.length ≤ 1000000 := by have := h.vn.length; omega
  have HC := Lib.hid (cloneN_c w nv fn ll h.oneN h.n)
  have HV := Lib.hid h.vn
  have HEn : Hid (fn.length = g.N.length) := h.vn.length
  clear h
  go_enter Tryz.func46, Tryz.ntmps46
  go_wp2_with fail
  refine HC.out.mono ?_
  rintro e w1 ⟨v', rfl, hr, hk, hf⟩
  obtain ⟨A, cap, hv, hc, hm⟩ := hr.slice
  subst hv
  unfold maxLen at hm
  have HR : Hid (NodesAt w1 (.slice A fn.length cap) g.N) := ⟨fn, hr, HV.out.imp (fun _ _ ⟨a, b, c⟩ => ⟨a, b, c.keep hk⟩)⟩
  have HK := Lib.hid hk
  have HF := Lib.hid hf
  clear hr hk hf c0
  go_wp2_with fail
  go_loopw [14] (fun i wr => ∃ k : Nat, k ≤ fn.length ∧ i = .int .i64 k ∧ Hid (Keep [] w wr) ∧ Hid (NodesAt wr (.slice A fn.length cap) g.N)) (fun i _ => fn.length - (intOf i).toNat)
  case atStart => exact ⟨0, by omega, rfl, HK.out, HR.out⟩
  case round =>
    obtain ⟨k, hk, rfl, hK, hN⟩ := hrel
    by_cases hlt : k < fn.length
    · have en := HEn.out
      obtain ⟨fk, hr, hv⟩ := hN.out
      have hkl : fk.length = fn.length := by rw [hv.length, en]
      have hkg : k < g.N.length := by omega
      have hkf : k < fk.length := by omega
      obtain ⟨b, cap', cur, hvv, hq1, hq2, hb, hq⟩ := hr.form (fun _ => rfl) (by omega)
      clear hq hq1 hq2
      injection hvv with hA hx1 hx2
      clear hx1 hx2
      subst hA
      have hr' := hr
      rw [show fn.length = fk.length from hkl.symm] at hr'
      have c2 := (rowN_at hr' k (by omega)).2.2
      have hvk := hv.get k hkf hkg
      obtain ⟨C, n, c, hpv⟩ := hvk.2.2.form
      have hbn := HF.out b rfl
      have hps1 := hps _ (List.getElem_mem hkg)
      have hone := oneP (g.N[k]'hkg).ps
      rw [hpv] at c2
      have hpa := hvk.2.2
      rw [hpv] at hpa
      have HP := Lib.hid (cloneP_c wr _ (g.N[k]'hkg).ps (Nat.le_trans hps1 (by omega)) hone hpa)
      have hD : Hid (∀ w2 v2, Keep [] wr w2 → PsAt w2 v2 (g.N[k]'hkg).ps → (w2.cell? ⟨b, k * 3 + 2, none⟩ = some (.slice C n c) ∧ w2.frozen? ⟨b, k * 3 + 2, none⟩ = false) ∧ Keep [] w (w2.setCell ⟨b, k * 3 + 2, none⟩ v2) ∧ NodesAt (w2.setCell ⟨b, k * 3 + 2, none⟩ v2) (.slice (some ⟨b, 0, none⟩) fn.length cap) g.N) := fun w2 v2 hk2 hp2 => by
        have hb2 := (show Blk wr b 113 cur from hb).keep hk2 (by simp)
        have hr2 := hr.keep hk2 (fun _ _ => by simp)
        refine ⟨⟨(hk2.cell (World.block_lt_of_cell? _ _ c2) (by simp)).trans c2, hb2.free _⟩, (hK.out.trans0 hk2).setNew hbn _ _, fk.set k ⟨fk[k].id, fk[k].ty, v2⟩, ?_, ?_⟩
        · have hr3 : w2.ownsRow 0 113 3 (.slice (some ⟨b, 0, none⟩) fk.length cap) fk.length (fk.flatMap encN) := by
            have := hr2
            unfold Row at this
            rwa [show fn.length = fk.length from hkl.symm] at this
          have hst := (World.ownsRow.stored hr3 (k * 3 + 2) v2).1
          rw [flat_set (enc := encN) (k := 3) (fun _ => rfl) fk k 2 v2 (by omega) ⟨fk[k].id, fk[k].ty, v2⟩ (by omega) rfl] at hst
          unfold Row
          simp only [List.length_set]
          rw [show (Value.slice (some ⟨b, 0, none⟩) fn.length cap) = .slice (some ⟨b, 0, none⟩) fk.length cap from by rw [hkl]]
          exact hst
        · have kk : Keep [b] wr (w2.setCell ⟨b, k * 3 + 2, none⟩ v2) := Keep.setBlk (hk2.mono (fun _ hm => by simp at hm)) hb (by decide) (by simp) _ _
          have k2 : Keep [b] w2 (w2.setCell ⟨b, k * 3 + 2, none⟩ v2) := Keep.setBlk (Keep.refl _ _) hb2 (by decide) (by simp) _ _
          have e := (hv.imp (fun _ _ h => (⟨h.1, h.2.1, h.2.2.keep kk⟩ : NodeV (w2.setCell ⟨b, k * 3 + 2, none⟩ v2) _ _))).set k (a := ⟨fk[k].id, fk[k].ty, v2⟩) (b := g.N[k]'hkg) ⟨hvk.1, hvk.2.1, hp2.keep k2⟩
          rw [List.set_getElem_self] at e
          exact e
      clear hr hr' hv hb hvk hpa hN hps1 hone hkl en hpv
      go_wp2_with fail
      refine HP.out.mono ?_
      rintro e w2 ⟨v2, rfl, hp2, hk2, _⟩
      obtain ⟨⟨q0, q1⟩, q2⟩ := hD.out w2 v2 hk2 hp2
      obtain ⟨D, n2, c3, hv2⟩ := PsAt.form hp2
      subst hv2
      have Q2 := Lib.hid q2
      clear q2 hk2 hp2
      go_wp2
      exact ⟨⟨k + 1, by omega, by go_num, Q2.out.1, Q2.out.2⟩, by simp [intOf]; omega⟩
    · go_wp2
      go_ret
      exact ⟨_, rfl, hN.out, hK.out, HF.out⟩
end Go.Proofs.Hg
namespace Go.Proofs.Hg
open Go Go.RowKit Go.Proofs Go.Shelf
set_option maxRecDepth 100000 in
set_option maxHeartbeats 1600000 in
theorem edges_c (w : World) (p : Nat) (g : Gr) (F : List Nat) (hl : g.E.length ≤ 100000) (hps : ∀ n ∈ g.E, n.ps.length ≤ 100000) (h : GA 106 w p g F) :
    Calls Tryz.prog 47 #[.pointer (some ⟨p, 0, none⟩)] w fun e w' => ∃ v, e = .returned v ∧ EdgesAt w' v g.E ∧ Keep [] w w' ∧ ∀ k, v.ownBlock = some k → w.heap.size ≤ k := by
  obtain ⟨nv, ev, fn, fe, h, rfl⟩ := h
  have c0 := h.blk.cell 1
  simp only [List.getElem?_toArray, List.getElem?_cons_succ, List.getElem?_cons_zero] at c0
  have ll : fe.length ≤ 1000000 := by have := h.ve.length; omega
  have HC := Lib.hid (cloneE_c w ev fe ll h.oneE h.e)
  have HV := Lib.hid h.ve
  have HEn : Hid (fe.length = g.E.length) := h.ve.length
  clear h
  go_enter Tryz.func47, Tryz.ntmps47
  go_wp2_with fail
  refine HC.out.mono ?_
  rintro e w1 ⟨v', rfl, hr, hk, hf⟩
  obtain ⟨A, cap, hv, hc, hm⟩ := hr.slice
  subst hv
  unfold maxLen at hm
  have HR : Hid (EdgesAt w1 (.slice A fe.length cap) g.E) := ⟨fe, hr, HV.out.imp (fun _ _ ⟨a, b, c, d, e⟩ => ⟨a, b, c, d, e.keep hk⟩)⟩
  have HK := Lib.hid hk
  have HF := Lib.hid hf
  clear hr hk hf c0
  go_wp2_with fail
  go_loopw [14] (fun i wr => ∃ k : Nat, k ≤ fe.length ∧ i = .int .i64 k ∧ Hid (Keep [] w wr) ∧ Hid (EdgesAt wr (.slice A fe.length cap) g.E)) (fun i _ => fe.length - (intOf i).toNat)
  case atStart => exact ⟨0, by omega, rfl, HK.out, HR.out⟩
  case round =>
    obtain ⟨k, hk, rfl, hK, hN⟩ := hrel
    by_cases hlt : k < fe.length
    · have en := HEn.out
      obtain ⟨fk, hr, hv⟩ := hN.out
      have hkl : fk.length = fe.length := by rw [hv.length, en]
      have hkg : k < g.E.length := by omega
      have hkf : k < fk.length := by omega
      obtain ⟨b, cap', cur, hvv, hq1, hq2, hb, hq⟩ := hr.form (fun _ => rfl) (by omega)
      clear hq hq1 hq2
      injection hvv with hA hx1 hx2
      clear hx1 hx2
      subst hA
      have hr' := hr
      rw [show fe.length = fk.length from hkl.symm] at hr'
      have c2 := (rowE_at hr' k (by omega)).2.2.2.2
      have hvk := hv.get k hkf hkg
      obtain ⟨C, n, c, hpv⟩ := hvk.2.2.2.2.form
      have hbn := HF.out b rfl
      have hps1 := hps _ (List.getElem_mem hkg)
      have hone := oneP (g.E[k]'hkg).ps
      rw [hpv] at c2
      have hpa := hvk.2.2.2.2
      rw [hpv] at hpa
      have HP := Lib.hid (cloneP_c wr _ (g.E[k]'hkg).ps (Nat.le_trans hps1 (by omega)) hone hpa)
      have hD : Hid (∀ w2 v2, Keep [] wr w2 → PsAt w2 v2 (g.E[k]'hkg).ps → (w2.cell? ⟨b, k * 5 + 4, none⟩ = some (.slice C n c) ∧ w2.frozen? ⟨b, k * 5 + 4, none⟩ = false) ∧ Keep [] w (w2.setCell ⟨b, k * 5 + 4, none⟩ v2) ∧ EdgesAt (w2.setCell ⟨b, k * 5 + 4, none⟩ v2) (.slice (some ⟨b, 0, none⟩) fe.length cap) g.E) := fun w2 v2 hk2 hp2 => by
        have hb2 := (show Blk wr b 115 cur from hb).keep hk2 (by simp)
        have hr2 := hr.keep hk2 (fun _ _ => by simp)
        refine ⟨⟨(hk2.cell (World.block_lt_of_cell? _ _ c2) (by simp)).trans c2, hb2.free _⟩, (hK.out.trans0 hk2).setNew hbn _ _, fk.set k ⟨fk[k].id, fk[k].ty, fk[k].fr, fk[k].tt, v2⟩, ?_, ?_⟩
        · have hr3 : w2.ownsRow 0 115 5 (.slice (some ⟨b, 0, none⟩) fk.length cap) fk.length (fk.flatMap encE) := by
            have := hr2
            unfold Row at this
            rwa [show fe.length = fk.length from hkl.symm] at this
          have hst := (World.ownsRow.stored hr3 (k * 5 + 4) v2).1
          rw [flat_set (enc := encE) (k := 5) (fun _ => rfl) fk k 4 v2 (by omega) ⟨fk[k].id, fk[k].ty, fk[k].fr, fk[k].tt, v2⟩ (by omega) rfl] at hst
          unfold Row
          simp only [List.length_set]
          rw [show (Value.slice (some ⟨b, 0, none⟩) fe.length cap) = .slice (some ⟨b, 0, none⟩) fk.length cap from by rw [hkl]]
          exact hst
        · have kk : Keep [b] wr (w2.setCell ⟨b, k * 5 + 4, none⟩ v2) := Keep.setBlk (hk2.mono (fun _ hm => by simp at hm)) hb (by decide) (by simp) _ _
          have k2 : Keep [b] w2 (w2.setCell ⟨b, k * 5 + 4, none⟩ v2) := Keep.setBlk (Keep.refl _ _) hb2 (by decide) (by simp) _ _
          have e := (hv.imp (fun _ _ h => (⟨h.1, h.2.1, h.2.2.1, h.2.2.2.1, h.2.2.2.2.keep kk⟩ : EdgeV (w2.setCell ⟨b, k * 5 + 4, none⟩ v2) _ _))).set k (a := ⟨fk[k].id, fk[k].ty, fk[k].fr, fk[k].tt, v2⟩) (b := g.E[k]'hkg) ⟨hvk.1, hvk.2.1, hvk.2.2.1, hvk.2.2.2.1, hp2.keep k2⟩
          rw [List.set_getElem_self] at e
          exact e
      clear hr hr' hv hb hvk hpa hN hps1 hone hkl en hpv
      go_wp2_with fail
      refine HP.out.mono ?_
      rintro e w2 ⟨v2, rfl, hp2, hk2, _⟩
      obtain ⟨⟨q0, q1⟩, q2⟩ := hD.out w2 v2 hk2 hp2
      obtain ⟨D, n2, c3, hv2⟩ := PsAt.form hp2
      subst hv2
      have Q2 := Lib.hid q2
      clear q2 hk2 hp2
      go_wp2
      exact ⟨⟨k + 1, by omega, by go_num, Q2.out.1, Q2.out.2⟩, by simp [intOf]; omega⟩
    · go_wp2
      go_ret
      exact ⟨_, rfl, hN.out, hK.out, HF.out⟩
end Go.Proofs.Hg
