/-
  Contracts of the functions that the statement reaches, and plain lemmas on lists, part 3. Conditions: those that each theorem names.
-/
import Derived.Test.YtemhlafdlflilaaGreatDoorHt2
set_option linter.unusedVariables false
set_option linter.unusedSimpArgs false
namespace Go.Proofs.Hg
open Go Go.RowKit Go.Proofs Go.Shelf
/-- What a store of new properties at the pointer leaves. -/
theorem PropPtr.storeQ {w w2 : World} {p b i : Nat} {g : Gr} {nv ev v' : Value} {fn : List FN} {fe : List FE} {id : Int} {ps : List Prp} (hi : GInv g) (h : GAt 42 w p g nv ev fn fe) (hp : PropPtr g nv ev fn fe id (some ⟨b, i, none⟩)) (hk : Keep [] w w2) (hv : PsAt w2 v' ps) :
    ∃ fn' fe', GAt 42 (w2.setCell ⟨b, i, none⟩ v') p (setG g id ps) nv ev fn' fe' ∧ Keep (foot p nv ev) w (w2.setCell ⟨b, i, none⟩ v') := by
  have h2 := h.keep hk (fun _ _ hm => by simp at hm)
  rcases hp with ⟨h1, j, b', n, c, hl, hnv, he, hb⟩ | ⟨h1, h1', j, b', n, c, hl, hev, he, hb⟩ | ⟨_, _, hb⟩
  · injection hb with hb; injection hb with hb hb2; subst hb hb2
    have hl' : j < g.N.length := by rw [← h.vn.length]; exact hl
    have hvv := h.vn.get j hl hl'
    have e1 : g.N[j].id = id := by rw [← hvv.1]; exact he
    obtain ⟨b', cap, cur, hb, hc1, hc2, hbk, hcs, htk, _⟩ := h2.n.form (fun _ => rfl) (by omega)
    rw [hb] at hnv; injection hnv with hnv _ _; injection hnv with hnv; injection hnv with hnv; subst hnv
    have hwb : Blk w b' 113 cur := (hk.block b' (h.n.lt b' (by rw [hb]; rfl)) (by simp)).symm.trans hbk
    have k3 : Keep (foot p nv ev) w (w2.setCell ⟨b', j * 3 + 2, none⟩ v') := Keep.setBlk (hk.mono (fun _ hm => by simp at hm)) hwb (by decide) (mem_foot.2 (.inr (.inl (by rw [hb]; rfl)))) (j * 3 + 2) v'
    have hpn : p ≠ b' := fun e => by have := h2.n.ne_blk h2.blk (by decide); rw [hb] at this; exact this (by rw [e]; rfl)
    have ep : setG g id ps = ⟨g.N.set j ⟨g.N[j].id, g.N[j].ty, ps⟩, g.E, g.next⟩ := by
      unfold setG; rw [if_pos h1, set_map (fun x : Node => x.id) (fun x => ⟨x.id, x.ty, ps⟩) id g.N j hl' hi.upN e1]
    have en : Row (w2.setCell ⟨b', j * 3 + 2, none⟩ v') 113 3 encN nv (fn.set j ⟨fn[j].id, fn[j].ty, v'⟩) := by
      have hr := h2.n
      rw [hb] at hr ⊢
      have hst := (World.ownsRow.stored hr (j * 3 + 2) v').1
      rw [flat_set (enc := encN) (k := 3) (fun _ => rfl) fn j 2 v' hl ⟨fn[j].id, fn[j].ty, v'⟩ (by omega) rfl] at hst
      unfold Row
      rw [List.length_set]
      exact hst
    have ee := h2.e.set_blk hbk (by decide) (j * 3 + 2) (u := v')
    have vv := keep_views k3 h.vn h.ve
    refine ⟨fn.set j ⟨fn[j].id, fn[j].ty, v'⟩, fe, ?_, k3⟩
    rw [ep]
    exact ⟨h2.blk.far hpn _, en, ee, vv.1.set j ⟨hvv.1, hvv.2.1, hv.keep (Keep.setBlk (F := [b']) (Keep.refl _ w2) hbk (by decide) (by simp) (j * 3 + 2) v')⟩, vv.2⟩
  · injection hb with hb; injection hb with hb hb2; subst hb hb2
    have hl' : j < g.E.length := by rw [← h.ve.length]; exact hl
    have hvv := h.ve.get j hl hl'
    have e1 : g.E[j].id = id := by rw [← hvv.1]; exact he
    obtain ⟨b', cap, cur, hb, hc1, hc2, hbk, hcs, htk, _⟩ := h2.e.form (fun _ => rfl) (by omega)
    rw [hb] at hev; injection hev with hev _ _; injection hev with hev; injection hev with hev; subst hev
    have hwb : Blk w b' 115 cur := (hk.block b' (h.e.lt b' (by rw [hb]; rfl)) (by simp)).symm.trans hbk
    have k3 : Keep (foot p nv ev) w (w2.setCell ⟨b', j * 5 + 4, none⟩ v') := Keep.setBlk (hk.mono (fun _ hm => by simp at hm)) hwb (by decide) (mem_foot.2 (.inr (.inr (by rw [hb]; rfl)))) (j * 5 + 4) v'
    have hpn : p ≠ b' := fun e => by have := h2.e.ne_blk h2.blk (by decide); rw [hb] at this; exact this (by rw [e]; rfl)
    have ep : setG g id ps = ⟨g.N, g.E.set j ⟨g.E[j].id, g.E[j].ty, g.E[j].fr, g.E[j].tt, ps⟩, g.next⟩ := by
      unfold setG; rw [if_neg (by rw [h1]; simp), set_map (fun x : Edge => x.id) (fun x => ⟨x.id, x.ty, x.fr, x.tt, ps⟩) id g.E j hl' hi.upE e1]
    have en : Row (w2.setCell ⟨b', j * 5 + 4, none⟩ v') 115 5 encE ev (fe.set j ⟨fe[j].id, fe[j].ty, fe[j].fr, fe[j].tt, v'⟩) := by
      have hr := h2.e
      rw [hb] at hr ⊢
      have hst := (World.ownsRow.stored hr (j * 5 + 4) v').1
      rw [flat_set (enc := encE) (k := 5) (fun _ => rfl) fe j 4 v' hl ⟨fe[j].id, fe[j].ty, fe[j].fr, fe[j].tt, v'⟩ (by omega) rfl] at hst
      unfold Row
      rw [List.length_set]
      exact hst
    have ee := h2.n.set_blk hbk (by decide) (j * 5 + 4) (u := v')
    have vv := keep_views k3 h.vn h.ve
    refine ⟨fn, fe.set j ⟨fe[j].id, fe[j].ty, fe[j].fr, fe[j].tt, v'⟩, ?_, k3⟩
    rw [ep]
    exact ⟨h2.blk.far hpn _, ee, en, vv.1, vv.2.set j ⟨hvv.1, hvv.2.1, hvv.2.2.1, hvv.2.2.2.1, hv.keep (Keep.setBlk (F := [b']) (Keep.refl _ w2) hbk (by decide) (by simp) (j * 5 + 4) v')⟩⟩
  · cases hb
set_option maxRecDepth 100000 in
set_option maxHeartbeats 6400000 in
theorem rdoSP_c (w : World) (p : Nat) (g : Gr) (F : List Nat) (cn ce cr ci cx : Value) (ns es : List ByteArray) (o : Op) (ps : List Prp) (k1 : o.k = 5) (hi : GInv g) (h : GA 42 w p g F) (hps : psOf g o.id = some ps) (hl : ps.length ≤ 100000)
    (HM : ∀ W, Keep [] w W → Calls Tryz.prog 54 #[.pointer (some ⟨p, 0, none⟩), cat5 cn ce cr ci cx, opV o] W fun e w' => e = .returned (.int .i64 0) ∧ Keep [] W w') :
    Calls Tryz.prog 29 #[.pointer (some ⟨p, 0, none⟩), cat5 cn ce cr ci cx, opV o] w fun e w' => e = .returned (.tuple #[.int .i64 0, .int .i64 0]) ∧ After 42 w p F (setG g o.id (setP ps o.name o.v)) w' := by
  have K0 := (Keep.alloc0 w (Obj.cells #[cn, ce, cr, ci, cx] 59)).alloc (Obj.cells (encO o).toArray 50)
  have HX := Blk.new2 w (Obj.cells #[cn, ce, cr, ci, cx] 59) (encO o).toArray 50
  have HM1 := Lib.hid (HM _ K0)
  obtain ⟨nv, ev, fn, fe, h, hFe⟩ := h
  have HG := Lib.hid (fun W (hk : Keep [] w W) => h.keep hk (fun _ _ hm => by simp at hm))
  have HI := Lib.hid hi
  have HPS := Lib.hid hps
  have lf : fn.length ≤ 1000000 := by have := hi.lenN; have := h.vn.length; omega
  have le : fe.length ≤ 1000000 := by have := hi.lenE; have := h.ve.length; omega
  unfold encO at *
  have HK := Lib.hid K0
  have HXX := Lib.hid HX
  have HK1 := Lib.hid k1
  have hlw := h.blk.lt
  clear K0 HX HM h k1 hps hi
  go_enter Tryz.func29, Tryz.ntmps29
  go_wp2_with fail
  generalize (w.alloc _).alloc _ = W0 at *
  refine HM1.out.mono ?_
  rintro e W ⟨rfl, hk1⟩
  have HK2 := Lib.hid (HK.out.trans0 hk1)
  have X1 := Lib.hid (HXX.out.keep hk1 (by simp))
  have HG1 := Lib.hid (HG.out W HK2.out)
  clear hk1 HXX HK HM1 HG
  have d0 := X1.out.cell 0
  have d1 := X1.out.cell 1
  simp only [List.getElem?_toArray, List.getElem?_cons_succ, List.getElem?_cons_zero] at d0 d1
  rw [HK1.out] at d0
  go_wp2_with fail
  refine (rnode_c W p g nv ev fn fe o.id lf HG1.out).mono ?_
  rintro e w1 ⟨i, rfl, hp, rfl⟩
  rcases plc_at (q := fun x : Node => x.id) HG1.out.vn (fun _ _ hr => hr.1) HI.out.upN hp with ⟨rfl, hc⟩ | ⟨k, hk, hk', rfl, he, hr, hf⟩
  · have HFN := Lib.hid (find_none (fun x : Node => x.id) o.id g.N hc)
    have hNf : Hid (hasN g o.id = false) := hc
    clear hp
    go_wp2_with fail
    refine (redge_c w1 p g nv ev fn fe o.id le HG1.out).mono ?_
    rintro e w2 ⟨i, rfl, hp, rfl⟩
    obtain ⟨k, hk, hk', rfl, he, hr, hf⟩ : ∃ (k : Nat) (hk : k < fe.length) (hk' : k < g.E.length), i = k ∧ fe[k].id = o.id ∧ EdgeV w2 fe[k] g.E[k] ∧ g.E.find? (fun x => decide (x.id = o.id)) = some g.E[k] := by
      rcases plc_at (q := fun x : Edge => x.id) HG1.out.ve (fun _ _ hr => hr.1) HI.out.upE hp with ⟨rfl, hc2⟩ | r
      · have h1 := HPS.out
        unfold psOf at h1
        rw [HFN.out, find_none (fun x : Edge => x.id) o.id g.E hc2] at h1
        cases h1
      · exact r
    have hE : hasE g o.id = true := by
      unfold hasE; rw [List.contains_iff_mem]; exact List.mem_map.2 ⟨_, List.getElem_mem hk', by rw [← hr.1]; exact he⟩
    have hps2 : ps = (g.E[k]).ps := by
      have := HPS.out; unfold psOf at this; rw [HFN.out, hf] at this; injection this with this; exact this.symm
    obtain ⟨b, cap, cur, hb, h1, h2, hbk, hcs, htk, hq⟩ := HG1.out.e.form (fun _ => rfl) (by omega)
    have HPP : Hid (PropPtr g nv ev fn fe o.id (some ⟨b, k * 5 + 4, none⟩)) := .inr (.inl ⟨hNf.out, hE, k, b, _, _, hk, hb, he, rfl⟩)
    clear hq
    unfold maxLen at h2
    have hR := HG1.out.e
    rw [hb] at hR
    have q2 := (rowE_at hR k hk).2.2.2.2
    obtain ⟨C, pn, pc, hpv⟩ := PsAt.form hr.2.2.2.2
    rw [hpv] at q2
    have HPA := Lib.hid hr.2.2.2.2
    rw [hpv, ← hps2] at HPA
    clear hps2
    have c0 := HG1.out.blk.cell 1
    have d5 := X1.out.cell 5
    have d6 := X1.out.cell 6
    have d7 := X1.out.cell 7
    have d8 := X1.out.cell 8
    simp only [List.getElem?_toArray, List.getElem?_cons_succ, List.getElem?_cons_zero] at c0 d5 d6 d7 d8
    rw [hb] at c0
    have fq := hbk.free (k * 5 + 4)
    have hbl := hbk.lt
    have SK : Hid (∀ X, Keep [] w2 X → X.cell? ⟨p, 1, none⟩ = some (.slice (some ⟨b, 0, none⟩) fe.length cap) ∧ X.cell? ⟨w.heap.size + 1, 5, none⟩ = some (.string o.name) ∧ X.cell? ⟨w.heap.size + 1, 6, none⟩ = some (.int .i64 o.v.k) ∧ X.cell? ⟨w.heap.size + 1, 7, none⟩ = some (.int .i64 o.v.n) ∧ X.cell? ⟨w.heap.size + 1, 8, none⟩ = some (.string o.v.s)) := fun X hk =>
      ⟨(hk.cell (World.block_lt_of_cell? _ _ c0) (by simp)).trans c0, (hk.cell (World.block_lt_of_cell? _ _ d5) (by simp)).trans d5, (hk.cell (World.block_lt_of_cell? _ _ d6) (by simp)).trans d6, (hk.cell (World.block_lt_of_cell? _ _ d7) (by simp)).trans d7, (hk.cell (World.block_lt_of_cell? _ _ d8) (by simp)).trans d8⟩
    have hpb : b ≠ p := fun e => by have := HG1.out.e.ne_blk HG1.out.blk (by decide); rw [hb] at this; exact this (by rw [← e]; rfl)
    have hpo : b ≠ w.heap.size + 1 := fun e => by
      have h3 := X1.out
      rw [← e] at h3
      have h4 : w2.heap[b]? = some (Obj.cells cur 115 (0, 0)) := hbk
      have h5 := h4.symm.trans h3
      injection h5 with h5
      injection h5 with _ h5
      exact absurd h5 (by decide)
    have SC : Hid (∀ X u, (X.cell? ⟨p, 1, none⟩ = some (.slice (some ⟨b, 0, none⟩) fe.length cap) ∧ X.cell? ⟨w.heap.size + 1, 5, none⟩ = some (.string o.name) ∧ X.cell? ⟨w.heap.size + 1, 6, none⟩ = some (.int .i64 o.v.k) ∧ X.cell? ⟨w.heap.size + 1, 7, none⟩ = some (.int .i64 o.v.n) ∧ X.cell? ⟨w.heap.size + 1, 8, none⟩ = some (.string o.v.s)) → ((World.setCell X ⟨b, k * 5 + 4, none⟩ u).cell? ⟨p, 1, none⟩ = some (.slice (some ⟨b, 0, none⟩) fe.length cap) ∧ (World.setCell X ⟨b, k * 5 + 4, none⟩ u).cell? ⟨w.heap.size + 1, 5, none⟩ = some (.string o.name) ∧ (World.setCell X ⟨b, k * 5 + 4, none⟩ u).cell? ⟨w.heap.size + 1, 6, none⟩ = some (.int .i64 o.v.k) ∧ (World.setCell X ⟨b, k * 5 + 4, none⟩ u).cell? ⟨w.heap.size + 1, 7, none⟩ = some (.int .i64 o.v.n) ∧ (World.setCell X ⟨b, k * 5 + 4, none⟩ u).cell? ⟨w.heap.size + 1, 8, none⟩ = some (.string o.v.s))) := fun X u ⟨h1, h2, h3, h4, h5⟩ => ⟨(World.cell?_setCell_far X ⟨b, k * 5 + 4, none⟩ _ u hpb).trans h1, (World.cell?_setCell_far X ⟨b, k * 5 + 4, none⟩ _ u hpo).trans h2, (World.cell?_setCell_far X ⟨b, k * 5 + 4, none⟩ _ u hpo).trans h3, (World.cell?_setCell_far X ⟨b, k * 5 + 4, none⟩ _ u hpo).trans h4, (World.cell?_setCell_far X ⟨b, k * 5 + 4, none⟩ _ u hpo).trans h5⟩
    have hpl : ps.length ≤ 100000 := hl
    have VS := Lib.hid (fun X (hk : Keep [] w2 X) => rset_c X (.slice C pn pc) ps o.name o.v hpl (HPA.out.keep hk))
    have SQ : Hid (∀ X, Keep [] w2 X → X.cell? ⟨b, k * 5 + 4, none⟩ = some (.slice C pn pc) ∧ X.frozen? ⟨b, k * 5 + 4, none⟩ = false) := fun X hk =>
      ⟨(hk.cell (World.block_lt_of_cell? _ _ q2) (by simp)).trans q2, (hk.frozen (World.block_lt_of_cell? _ _ q2) (by simp)).trans fq⟩
    obtain ⟨q0, q1⟩ := SQ.out _ ((Keep.refl [] w2).drew)
    clear d5 d6 d7 d8 hp hR hr htk hcs
    go_wp2_with fail
    refine wp_region_held_drew (S := (fun X => X.cell? ⟨p, 1, none⟩ = some (.slice (some ⟨b, 0, none⟩) fe.length cap) ∧ X.cell? ⟨w.heap.size + 1, 5, none⟩ = some (.string o.name) ∧ X.cell? ⟨w.heap.size + 1, 6, none⟩ = some (.int .i64 o.v.k) ∧ X.cell? ⟨w.heap.size + 1, 7, none⟩ = some (.int .i64 o.v.n) ∧ X.cell? ⟨w.heap.size + 1, 8, none⟩ = some (.string o.v.s))) (by kernel_rfl) (SK.out _ ((Keep.refl [] w2).drew)) (fun hHeld => ?_)
    refine wpAnyH_take (i := 0) (v := ?_) rfl (by kernel_rfl) (by kernel_rfl) (by kernel_rfl) (fun _ _ _ h => h) (Or.inl ⟨by rfl, ?_⟩) (by assumption) ?_
    rotate_left
    · (intro w hSw; (try dsimp only at hSw); go_simp; try (with_reducible rfl))
    (try simp only [Act.put, List.setIfInBounds_toArray, List.set_cons_zero, List.set_cons_succ])
    refine wpAnyH_take (i := 1) (v := ?_) rfl (by kernel_rfl) (by kernel_rfl) (by kernel_rfl) (fun _ _ _ h => h) (Or.inl ⟨by rfl, ?_⟩) (by assumption) ?_
    rotate_left
    · (intro w hSw; (try dsimp only at hSw); go_simp; try (with_reducible rfl))
    (try simp only [Act.put, List.setIfInBounds_toArray, List.set_cons_zero, List.set_cons_succ])
    refine wpAnyH_take (i := 2) (v := ?_) rfl (by kernel_rfl) (by kernel_rfl) (by kernel_rfl) (fun _ _ _ h => h) (Or.inl ⟨by rfl, ?_⟩) (by assumption) ?_
    rotate_left
    · (intro w hSw; (try dsimp only at hSw); go_simp; try (with_reducible rfl))
    (try simp only [Act.put, List.setIfInBounds_toArray, List.set_cons_zero, List.set_cons_succ])
    refine wpAnyH_take (i := 3) (v := ?_) rfl (by kernel_rfl) (by kernel_rfl) (by kernel_rfl) (fun _ _ _ h => h) (Or.inl ⟨by rfl, ?_⟩) (by assumption) ?_
    rotate_left
    · (intro w hSw; (try dsimp only at hSw); go_simp; try (with_reducible rfl))
    (try simp only [Act.put, List.setIfInBounds_toArray, List.set_cons_zero, List.set_cons_succ])
    refine wpAnyH_take (i := 4) (v := ?_) rfl (by kernel_rfl) (by kernel_rfl) (by kernel_rfl) (fun _ _ _ h => h) (Or.inl ⟨by rfl, ?_⟩) (by assumption) ?_
    rotate_left
    · (intro w hSw; (try dsimp only at hSw); go_simp; try (with_reducible rfl))
    (try simp only [Act.put, List.setIfInBounds_toArray, List.set_cons_zero, List.set_cons_succ])
    refine wpAnyH_take (i := 5) (v := ?_) rfl (by kernel_rfl) (by kernel_rfl) (by kernel_rfl) (fun _ _ _ h => h) (Or.inl ⟨by rfl, ?_⟩) (by assumption) ?_
    rotate_left
    · (intro w hSw; (try dsimp only at hSw); go_simp; try (with_reducible rfl))
    (try simp only [Act.put, List.setIfInBounds_toArray, List.set_cons_zero, List.set_cons_succ])
    refine wpAnyH_take (i := 6) (v := ?_) rfl (by kernel_rfl) (by kernel_rfl) (by kernel_rfl) (fun _ _ _ h => h) (Or.inl ⟨by rfl, ?_⟩) (by assumption) ?_
    rotate_left
    · (intro w hSw; (try dsimp only at hSw); go_simp; try (with_reducible rfl))
    (try simp only [Act.put, List.setIfInBounds_toArray, List.set_cons_zero, List.set_cons_succ])
    refine wpAnyH_take (i := 7) (v := ?_) rfl (by kernel_rfl) (by kernel_rfl) (by kernel_rfl) (fun _ _ _ h => h) (Or.inl ⟨by rfl, ?_⟩) (by assumption) ?_
    rotate_left
    · (intro w hSw; (try dsimp only at hSw); go_simp; try (with_reducible rfl))
    (try simp only [Act.put, List.setIfInBounds_toArray, List.set_cons_zero, List.set_cons_succ])
    refine wpAnyH_take (i := 8) (v := ?_) rfl (by kernel_rfl) (by kernel_rfl) (by kernel_rfl) (fun _ _ _ h => h) (Or.inl ⟨by rfl, ?_⟩) (by assumption) ?_
    rotate_left
    · (intro w hSw; (try dsimp only at hSw); go_simp; try (with_reducible rfl))
    (try simp only [Act.put, List.setIfInBounds_toArray, List.set_cons_zero, List.set_cons_succ])
    refine wpAnyH_take (i := 9) (v := ?_) rfl (by kernel_rfl) (by kernel_rfl) (by kernel_rfl) (fun _ _ _ h => h) (Or.inl ⟨by rfl, ?_⟩) (by assumption) ?_
    rotate_left
    · (intro w hSw; (try dsimp only at hSw); go_simp; try (with_reducible rfl))
    (try simp only [Act.put, List.setIfInBounds_toArray, List.set_cons_zero, List.set_cons_succ])
    refine wpAnyH_take (i := 10) (v := ?_) rfl (by kernel_rfl) (by kernel_rfl) (by kernel_rfl) (fun _ _ _ h => h) (Or.inl ⟨by rfl, ?_⟩) (by assumption) ?_
    rotate_left
    · (intro w hSw; (try dsimp only at hSw); go_simp; try (with_reducible rfl))
    (try simp only [Act.put, List.setIfInBounds_toArray, List.set_cons_zero, List.set_cons_succ])
    refine wpAnyH_take (i := 11) (v := ?_) rfl (by kernel_rfl) (by kernel_rfl) (by kernel_rfl) (fun _ _ _ h => h) (Or.inl ⟨by rfl, ?_⟩) (by assumption) ?_
    rotate_left
    · (intro w hSw; (try dsimp only at hSw); go_simp; try (with_reducible rfl))
    (try simp only [Act.put, List.setIfInBounds_toArray, List.set_cons_zero, List.set_cons_succ])
    refine wpAnyH_take (i := 13) (v := ?_) rfl (by kernel_rfl) (by kernel_rfl) (by kernel_rfl) (fun _ _ _ h => h) (Or.inl ⟨by rfl, ?_⟩) (by assumption) ?_
    rotate_left
    · (intro w hSw; (try dsimp only at hSw); go_simp; try (with_reducible rfl))
    (try simp only [Act.put, List.setIfInBounds_toArray, List.set_cons_zero, List.set_cons_succ])
    refine wpAnyH_take (i := 14) (v := ?_) rfl (by kernel_rfl) (by kernel_rfl) (by kernel_rfl) (fun _ _ _ h => h) (Or.inl ⟨by rfl, ?_⟩) (by assumption) ?_
    rotate_left
    · (intro w hSw; (try dsimp only at hSw); go_simp; try (with_reducible rfl))
    (try simp only [Act.put, List.setIfInBounds_toArray, List.set_cons_zero, List.set_cons_succ])
    refine wpAnyH_take (i := 15) (v := ?_) rfl (by kernel_rfl) (by kernel_rfl) (by kernel_rfl) (fun _ _ _ h => h) (Or.inl ⟨by rfl, ?_⟩) (by assumption) ?_
    rotate_left
    · (intro w hSw; (try dsimp only at hSw); go_simp; try (with_reducible rfl))
    (try simp only [Act.put, List.setIfInBounds_toArray, List.set_cons_zero, List.set_cons_succ])
    refine wpAnyH_take (i := 16) (v := ?_) rfl (by kernel_rfl) (by kernel_rfl) (by kernel_rfl) (fun _ _ _ h => h) (Or.inl ⟨by rfl, ?_⟩) (by assumption) ?_
    rotate_left
    · (intro w hSw; (try dsimp only at hSw); go_simp; try (with_reducible rfl))
    (try simp only [Act.put, List.setIfInBounds_toArray, List.set_cons_zero, List.set_cons_succ])
    refine wpAnyH_ready (rs := [12]) (by kernel_rfl) (by simp) ?_
    refine AllReadyH.cons rfl (fun K hK => ?_) AllReadyH.nil
    go_simp
    refine hK.out _ _ (SK.out _ ((Keep.refl [] w2).drew)) (fun hHeld2 => ?_)
    clear hK hHeld
    refine wpAnyH_ready (rs := [17]) (by kernel_rfl) (by simp) ?_
    refine AllReadyH.cons rfl (fun K hK => ?_) AllReadyH.nil
    go_simp
    go_at_call 58
    refine (VS.out _ ((Keep.refl [] w2).drew)).mono ?_
    rintro e w4 ⟨v', rfl, hp4, hk4'⟩
    obtain ⟨B, cB, hv4, _, _⟩ := Row.slice (enc := encP) (sz := 4) hp4
    subst hv4
    have HP4 := Lib.hid hp4
    have hk4 := Lib.hid (((Keep.refl [] w2).drew).trans0 hk4')
    obtain ⟨r0, r1⟩ := SQ.out _ hk4.out
    clear hk4' hp4
    go_simp
    refine hK.out _ _ (SK.out _ hk4.out) (fun hHeld3 => ?_)
    clear hK hHeld2
    refine wpAnyH_take (i := 18) (v := ?_) rfl (by kernel_rfl) (by kernel_rfl) (by kernel_rfl) (fun _ _ _ h => h) (Or.inl ⟨by rfl, ?_⟩) (by assumption) ?_
    rotate_left
    · (intro w hSw; (try dsimp only at hSw); go_simp; try (with_reducible rfl))
    (try simp only [Act.put, List.setIfInBounds_toArray, List.set_cons_zero, List.set_cons_succ])
    refine wpAnyH_take (i := 19) (v := ?_) rfl (by kernel_rfl) (by kernel_rfl) (by kernel_rfl) (fun _ _ _ h => h) (Or.inl ⟨by rfl, ?_⟩) (by assumption) ?_
    rotate_left
    · (intro w hSw; (try dsimp only at hSw); go_simp; try (with_reducible rfl))
    (try simp only [Act.put, List.setIfInBounds_toArray, List.set_cons_zero, List.set_cons_succ])
    refine wpAnyH_ready (rs := [20]) (by kernel_rfl) (by simp) ?_
    refine AllReadyH.cons rfl (fun K hK => ?_) AllReadyH.nil
    go_simp
    refine hK.out _ _ (SC.out _ _ (SK.out _ hk4.out)) (fun hHeld4 => ?_)
    refine wpAnyH_done (by kernel_rfl) ?_ _
    obtain ⟨fn', fe', G, K⟩ := HPP.out.storeQ HI.out HG1.out hk4.out HP4.out
    have HGG := Lib.hid G
    have HKK := Lib.hid (HK2.out.mono (F1 := F) (fun _ hm => by simp at hm))
    have HKF := Lib.hid K
    clear q0 q1 r0 r1 hHeld3 hHeld4 G K
    go_wp2
    go_ret2
    subst hFe
    exact ⟨rfl, _, ⟨_, _, _, _, HGG.out, rfl⟩, HKK.out.trans HKF.out (fun _ hm => .inl hm), fun _ hm => .inl hm⟩
  · have hN : hasN g o.id = true := by
      unfold hasN; rw [List.contains_iff_mem]; exact List.mem_map.2 ⟨_, List.getElem_mem hk', by rw [← hr.1]; exact he⟩
    have hps2 : ps = (g.N[k]).ps := by
      have := HPS.out; unfold psOf at this; rw [hf] at this; injection this with this; exact this.symm
    obtain ⟨b, cap, cur, hb, h1, h2, hbk, hcs, htk, hq⟩ := HG1.out.n.form (fun _ => rfl) (by omega)
    have HPP : Hid (PropPtr g nv ev fn fe o.id (some ⟨b, k * 3 + 2, none⟩)) := .inl ⟨hN, k, b, _, _, hk, hb, he, rfl⟩
    clear hq
    unfold maxLen at h2
    have hR := HG1.out.n
    rw [hb] at hR
    have q2 := (rowN_at hR k hk).2.2
    obtain ⟨C, pn, pc, hpv⟩ := PsAt.form hr.2.2
    rw [hpv] at q2
    have HPA := Lib.hid hr.2.2
    rw [hpv, ← hps2] at HPA
    clear hps2
    have c0 := HG1.out.blk.cell 0
    have d5 := X1.out.cell 5
    have d6 := X1.out.cell 6
    have d7 := X1.out.cell 7
    have d8 := X1.out.cell 8
    simp only [List.getElem?_toArray, List.getElem?_cons_succ, List.getElem?_cons_zero] at c0 d5 d6 d7 d8
    rw [hb] at c0
    have fq := hbk.free (k * 3 + 2)
    have hbl := hbk.lt
    have SK : Hid (∀ X, Keep [] w1 X → X.cell? ⟨p, 0, none⟩ = some (.slice (some ⟨b, 0, none⟩) fn.length cap) ∧ X.cell? ⟨w.heap.size + 1, 5, none⟩ = some (.string o.name) ∧ X.cell? ⟨w.heap.size + 1, 6, none⟩ = some (.int .i64 o.v.k) ∧ X.cell? ⟨w.heap.size + 1, 7, none⟩ = some (.int .i64 o.v.n) ∧ X.cell? ⟨w.heap.size + 1, 8, none⟩ = some (.string o.v.s)) := fun X hk =>
      ⟨(hk.cell (World.block_lt_of_cell? _ _ c0) (by simp)).trans c0, (hk.cell (World.block_lt_of_cell? _ _ d5) (by simp)).trans d5, (hk.cell (World.block_lt_of_cell? _ _ d6) (by simp)).trans d6, (hk.cell (World.block_lt_of_cell? _ _ d7) (by simp)).trans d7, (hk.cell (World.block_lt_of_cell? _ _ d8) (by simp)).trans d8⟩
    have hpb : b ≠ p := fun e => by have := HG1.out.n.ne_blk HG1.out.blk (by decide); rw [hb] at this; exact this (by rw [← e]; rfl)
    have hpo : b ≠ w.heap.size + 1 := fun e => by
      have h3 := X1.out
      rw [← e] at h3
      have h4 : w1.heap[b]? = some (Obj.cells cur 113 (0, 0)) := hbk
      have h5 := h4.symm.trans h3
      injection h5 with h5
      injection h5 with _ h5
      exact absurd h5 (by decide)
    have SC : Hid (∀ X u, (X.cell? ⟨p, 0, none⟩ = some (.slice (some ⟨b, 0, none⟩) fn.length cap) ∧ X.cell? ⟨w.heap.size + 1, 5, none⟩ = some (.string o.name) ∧ X.cell? ⟨w.heap.size + 1, 6, none⟩ = some (.int .i64 o.v.k) ∧ X.cell? ⟨w.heap.size + 1, 7, none⟩ = some (.int .i64 o.v.n) ∧ X.cell? ⟨w.heap.size + 1, 8, none⟩ = some (.string o.v.s)) → ((World.setCell X ⟨b, k * 3 + 2, none⟩ u).cell? ⟨p, 0, none⟩ = some (.slice (some ⟨b, 0, none⟩) fn.length cap) ∧ (World.setCell X ⟨b, k * 3 + 2, none⟩ u).cell? ⟨w.heap.size + 1, 5, none⟩ = some (.string o.name) ∧ (World.setCell X ⟨b, k * 3 + 2, none⟩ u).cell? ⟨w.heap.size + 1, 6, none⟩ = some (.int .i64 o.v.k) ∧ (World.setCell X ⟨b, k * 3 + 2, none⟩ u).cell? ⟨w.heap.size + 1, 7, none⟩ = some (.int .i64 o.v.n) ∧ (World.setCell X ⟨b, k * 3 + 2, none⟩ u).cell? ⟨w.heap.size + 1, 8, none⟩ = some (.string o.v.s))) := fun X u ⟨h1, h2, h3, h4, h5⟩ => ⟨(World.cell?_setCell_far X ⟨b, k * 3 + 2, none⟩ _ u hpb).trans h1, (World.cell?_setCell_far X ⟨b, k * 3 + 2, none⟩ _ u hpo).trans h2, (World.cell?_setCell_far X ⟨b, k * 3 + 2, none⟩ _ u hpo).trans h3, (World.cell?_setCell_far X ⟨b, k * 3 + 2, none⟩ _ u hpo).trans h4, (World.cell?_setCell_far X ⟨b, k * 3 + 2, none⟩ _ u hpo).trans h5⟩
    have hpl : ps.length ≤ 100000 := hl
    have VS := Lib.hid (fun X (hk : Keep [] w1 X) => rset_c X (.slice C pn pc) ps o.name o.v hpl (HPA.out.keep hk))
    have SQ : Hid (∀ X, Keep [] w1 X → X.cell? ⟨b, k * 3 + 2, none⟩ = some (.slice C pn pc) ∧ X.frozen? ⟨b, k * 3 + 2, none⟩ = false) := fun X hk =>
      ⟨(hk.cell (World.block_lt_of_cell? _ _ q2) (by simp)).trans q2, (hk.frozen (World.block_lt_of_cell? _ _ q2) (by simp)).trans fq⟩
    obtain ⟨q0, q1⟩ := SQ.out _ ((Keep.refl [] w1).drew)
    clear d5 d6 d7 d8 hp hR hr htk hcs
    go_wp2_with fail
    refine wp_region_held_drew (S := (fun X => X.cell? ⟨p, 0, none⟩ = some (.slice (some ⟨b, 0, none⟩) fn.length cap) ∧ X.cell? ⟨w.heap.size + 1, 5, none⟩ = some (.string o.name) ∧ X.cell? ⟨w.heap.size + 1, 6, none⟩ = some (.int .i64 o.v.k) ∧ X.cell? ⟨w.heap.size + 1, 7, none⟩ = some (.int .i64 o.v.n) ∧ X.cell? ⟨w.heap.size + 1, 8, none⟩ = some (.string o.v.s))) (by kernel_rfl) (SK.out _ ((Keep.refl [] w1).drew)) (fun hHeld => ?_)
    refine wpAnyH_take (i := 0) (v := ?_) rfl (by kernel_rfl) (by kernel_rfl) (by kernel_rfl) (fun _ _ _ h => h) (Or.inl ⟨by rfl, ?_⟩) (by assumption) ?_
    rotate_left
    · (intro w hSw; (try dsimp only at hSw); go_simp; try (with_reducible rfl))
    (try simp only [Act.put, List.setIfInBounds_toArray, List.set_cons_zero, List.set_cons_succ])
    refine wpAnyH_take (i := 1) (v := ?_) rfl (by kernel_rfl) (by kernel_rfl) (by kernel_rfl) (fun _ _ _ h => h) (Or.inl ⟨by rfl, ?_⟩) (by assumption) ?_
    rotate_left
    · (intro w hSw; (try dsimp only at hSw); go_simp; try (with_reducible rfl))
    (try simp only [Act.put, List.setIfInBounds_toArray, List.set_cons_zero, List.set_cons_succ])
    refine wpAnyH_take (i := 2) (v := ?_) rfl (by kernel_rfl) (by kernel_rfl) (by kernel_rfl) (fun _ _ _ h => h) (Or.inl ⟨by rfl, ?_⟩) (by assumption) ?_
    rotate_left
    · (intro w hSw; (try dsimp only at hSw); go_simp; try (with_reducible rfl))
    (try simp only [Act.put, List.setIfInBounds_toArray, List.set_cons_zero, List.set_cons_succ])
    refine wpAnyH_take (i := 3) (v := ?_) rfl (by kernel_rfl) (by kernel_rfl) (by kernel_rfl) (fun _ _ _ h => h) (Or.inl ⟨by rfl, ?_⟩) (by assumption) ?_
    rotate_left
    · (intro w hSw; (try dsimp only at hSw); go_simp; try (with_reducible rfl))
    (try simp only [Act.put, List.setIfInBounds_toArray, List.set_cons_zero, List.set_cons_succ])
    refine wpAnyH_take (i := 4) (v := ?_) rfl (by kernel_rfl) (by kernel_rfl) (by kernel_rfl) (fun _ _ _ h => h) (Or.inl ⟨by rfl, ?_⟩) (by assumption) ?_
    rotate_left
    · (intro w hSw; (try dsimp only at hSw); go_simp; try (with_reducible rfl))
    (try simp only [Act.put, List.setIfInBounds_toArray, List.set_cons_zero, List.set_cons_succ])
    refine wpAnyH_take (i := 5) (v := ?_) rfl (by kernel_rfl) (by kernel_rfl) (by kernel_rfl) (fun _ _ _ h => h) (Or.inl ⟨by rfl, ?_⟩) (by assumption) ?_
    rotate_left
    · (intro w hSw; (try dsimp only at hSw); go_simp; try (with_reducible rfl))
    (try simp only [Act.put, List.setIfInBounds_toArray, List.set_cons_zero, List.set_cons_succ])
    refine wpAnyH_take (i := 6) (v := ?_) rfl (by kernel_rfl) (by kernel_rfl) (by kernel_rfl) (fun _ _ _ h => h) (Or.inl ⟨by rfl, ?_⟩) (by assumption) ?_
    rotate_left
    · (intro w hSw; (try dsimp only at hSw); go_simp; try (with_reducible rfl))
    (try simp only [Act.put, List.setIfInBounds_toArray, List.set_cons_zero, List.set_cons_succ])
    refine wpAnyH_take (i := 7) (v := ?_) rfl (by kernel_rfl) (by kernel_rfl) (by kernel_rfl) (fun _ _ _ h => h) (Or.inl ⟨by rfl, ?_⟩) (by assumption) ?_
    rotate_left
    · (intro w hSw; (try dsimp only at hSw); go_simp; try (with_reducible rfl))
    (try simp only [Act.put, List.setIfInBounds_toArray, List.set_cons_zero, List.set_cons_succ])
    refine wpAnyH_take (i := 8) (v := ?_) rfl (by kernel_rfl) (by kernel_rfl) (by kernel_rfl) (fun _ _ _ h => h) (Or.inl ⟨by rfl, ?_⟩) (by assumption) ?_
    rotate_left
    · (intro w hSw; (try dsimp only at hSw); go_simp; try (with_reducible rfl))
    (try simp only [Act.put, List.setIfInBounds_toArray, List.set_cons_zero, List.set_cons_succ])
    refine wpAnyH_take (i := 9) (v := ?_) rfl (by kernel_rfl) (by kernel_rfl) (by kernel_rfl) (fun _ _ _ h => h) (Or.inl ⟨by rfl, ?_⟩) (by assumption) ?_
    rotate_left
    · (intro w hSw; (try dsimp only at hSw); go_simp; try (with_reducible rfl))
    (try simp only [Act.put, List.setIfInBounds_toArray, List.set_cons_zero, List.set_cons_succ])
    refine wpAnyH_take (i := 10) (v := ?_) rfl (by kernel_rfl) (by kernel_rfl) (by kernel_rfl) (fun _ _ _ h => h) (Or.inl ⟨by rfl, ?_⟩) (by assumption) ?_
    rotate_left
    · (intro w hSw; (try dsimp only at hSw); go_simp; try (with_reducible rfl))
    (try simp only [Act.put, List.setIfInBounds_toArray, List.set_cons_zero, List.set_cons_succ])
    refine wpAnyH_take (i := 11) (v := ?_) rfl (by kernel_rfl) (by kernel_rfl) (by kernel_rfl) (fun _ _ _ h => h) (Or.inl ⟨by rfl, ?_⟩) (by assumption) ?_
    rotate_left
    · (intro w hSw; (try dsimp only at hSw); go_simp; try (with_reducible rfl))
    (try simp only [Act.put, List.setIfInBounds_toArray, List.set_cons_zero, List.set_cons_succ])
    refine wpAnyH_take (i := 13) (v := ?_) rfl (by kernel_rfl) (by kernel_rfl) (by kernel_rfl) (fun _ _ _ h => h) (Or.inl ⟨by rfl, ?_⟩) (by assumption) ?_
    rotate_left
    · (intro w hSw; (try dsimp only at hSw); go_simp; try (with_reducible rfl))
    (try simp only [Act.put, List.setIfInBounds_toArray, List.set_cons_zero, List.set_cons_succ])
    refine wpAnyH_take (i := 14) (v := ?_) rfl (by kernel_rfl) (by kernel_rfl) (by kernel_rfl) (fun _ _ _ h => h) (Or.inl ⟨by rfl, ?_⟩) (by assumption) ?_
    rotate_left
    · (intro w hSw; (try dsimp only at hSw); go_simp; try (with_reducible rfl))
    (try simp only [Act.put, List.setIfInBounds_toArray, List.set_cons_zero, List.set_cons_succ])
    refine wpAnyH_take (i := 15) (v := ?_) rfl (by kernel_rfl) (by kernel_rfl) (by kernel_rfl) (fun _ _ _ h => h) (Or.inl ⟨by rfl, ?_⟩) (by assumption) ?_
    rotate_left
    · (intro w hSw; (try dsimp only at hSw); go_simp; try (with_reducible rfl))
    (try simp only [Act.put, List.setIfInBounds_toArray, List.set_cons_zero, List.set_cons_succ])
    refine wpAnyH_take (i := 16) (v := ?_) rfl (by kernel_rfl) (by kernel_rfl) (by kernel_rfl) (fun _ _ _ h => h) (Or.inl ⟨by rfl, ?_⟩) (by assumption) ?_
    rotate_left
    · (intro w hSw; (try dsimp only at hSw); go_simp; try (with_reducible rfl))
    (try simp only [Act.put, List.setIfInBounds_toArray, List.set_cons_zero, List.set_cons_succ])
    refine wpAnyH_ready (rs := [12]) (by kernel_rfl) (by simp) ?_
    refine AllReadyH.cons rfl (fun K hK => ?_) AllReadyH.nil
    go_simp
    refine hK.out _ _ (SK.out _ ((Keep.refl [] w1).drew)) (fun hHeld2 => ?_)
    clear hK hHeld
    refine wpAnyH_ready (rs := [17]) (by kernel_rfl) (by simp) ?_
    refine AllReadyH.cons rfl (fun K hK => ?_) AllReadyH.nil
    go_simp
    go_at_call 58
    refine (VS.out _ ((Keep.refl [] w1).drew)).mono ?_
    rintro e w4 ⟨v', rfl, hp4, hk4'⟩
    obtain ⟨B, cB, hv4, _, _⟩ := Row.slice (enc := encP) (sz := 4) hp4
    subst hv4
    have HP4 := Lib.hid hp4
    have hk4 := Lib.hid (((Keep.refl [] w1).drew).trans0 hk4')
    obtain ⟨r0, r1⟩ := SQ.out _ hk4.out
    clear hk4' hp4
    go_simp
    refine hK.out _ _ (SK.out _ hk4.out) (fun hHeld3 => ?_)
    clear hK hHeld2
    refine wpAnyH_take (i := 18) (v := ?_) rfl (by kernel_rfl) (by kernel_rfl) (by kernel_rfl) (fun _ _ _ h => h) (Or.inl ⟨by rfl, ?_⟩) (by assumption) ?_
    rotate_left
    · (intro w hSw; (try dsimp only at hSw); go_simp; try (with_reducible rfl))
    (try simp only [Act.put, List.setIfInBounds_toArray, List.set_cons_zero, List.set_cons_succ])
    refine wpAnyH_take (i := 19) (v := ?_) rfl (by kernel_rfl) (by kernel_rfl) (by kernel_rfl) (fun _ _ _ h => h) (Or.inl ⟨by rfl, ?_⟩) (by assumption) ?_
    rotate_left
    · (intro w hSw; (try dsimp only at hSw); go_simp; try (with_reducible rfl))
    (try simp only [Act.put, List.setIfInBounds_toArray, List.set_cons_zero, List.set_cons_succ])
    refine wpAnyH_ready (rs := [20]) (by kernel_rfl) (by simp) ?_
    refine AllReadyH.cons rfl (fun K hK => ?_) AllReadyH.nil
    go_simp
    refine hK.out _ _ (SC.out _ _ (SK.out _ hk4.out)) (fun hHeld4 => ?_)
    refine wpAnyH_done (by kernel_rfl) ?_ _
    obtain ⟨fn', fe', G, K⟩ := HPP.out.storeQ HI.out HG1.out hk4.out HP4.out
    have HGG := Lib.hid G
    have HKK := Lib.hid (HK2.out.mono (F1 := F) (fun _ hm => by simp at hm))
    have HKF := Lib.hid K
    clear q0 q1 r0 r1 hHeld3 hHeld4 G K
    go_wp2
    go_ret2
    subst hFe
    exact ⟨rfl, _, ⟨_, _, _, _, HGG.out, rfl⟩, HKK.out.trans HKF.out (fun _ hm => .inl hm), fun _ hm => .inl hm⟩
end Go.Proofs.Hg
namespace Go.Proofs.Hg
open Go Go.RowKit Go.Proofs Go.Shelf
theorem rdoAll (o : Op) : RDo o := by
  by_cases k1 : o.k = 1
  · exact rdo1 o k1
  intro w p g F cn ce cr ci cx ns es hi hl h0 h1 h hc
  have h' := h
  obtain ⟨nv, ev, fn, fe, h, rfl⟩ := h
  have hG : ∀ W, Keep [] w W → GAt 42 W p g nv ev fn fe := fun W hk => h.keep hk (fun _ _ hm => by simp at hm)
  have le : fe.length ≤ 1000000 := by have := hi.lenE; have := h.ve.length; omega
  by_cases k2 : o.k = 2
  · have e0 : mayG ns es g o = mayDN g o := by unfold mayG; rw [if_neg k1, if_pos k2]
    have hM := fun W (hk : Keep [] w W) => rmayDN_c W p g nv ev fn fe cn ce cr ci cx o k2 hi (hG W hk)
    rw [e0]
    by_cases hm : mayDN g o = 0
    · simp only [if_pos hm]
      rw [hm] at hM
      have hh : hasN g o.id = true := by
        cases hq : hasN g o.id with
        | true => rfl
        | false => unfold mayDN at hm; rw [hq] at hm; simp at hm
      refine (rdoDN_c w p g _ cn ce cr ci cx ns es o k2 hi h' hh hM).mono ?_
      rintro e w' ⟨rfl, ha⟩
      have e1 : idG g o = 0 := by unfold idG; rw [if_neg (by omega)]
      have e2 : actG g o = dropN g o.id := by unfold actG; rw [if_neg k1, if_pos k2]
      rw [e1, e2]
      exact ⟨rfl, ha⟩
    · simp only [if_neg hm]
      exact rdo_err w p cn ce cr ci cx o _ hm hM
  by_cases k3 : o.k = 3
  · have e0 : mayG ns es g o = mayAE es g o := by unfold mayG; rw [if_neg k1, if_neg k2, if_pos k3]
    have hM := fun W (hk : Keep [] w W) => rmayAE_c W p g nv ev fn fe cn ce cr ci cx ns es o k3 hi (hG W hk) (hc.keep hk)
    rw [e0]
    by_cases hm : mayAE es g o = 0
    · simp only [if_pos hm]
      rw [hm] at hM
      refine (rdoAE_c w p g nv ev fn fe cn ce cr ci cx o k3 h0 h1 le h hM).mono ?_
      rintro e w' ⟨rfl, ev', a, b, c⟩
      have e1 : idG g o = g.next := by unfold idG; rw [if_pos (.inr k3)]
      have e2 : actG g o = ⟨g.N, g.E ++ [⟨g.next, o.ty, o.fr, o.tt, []⟩], g.next + 1⟩ := by unfold actG; rw [if_neg k1, if_neg k2, if_pos k3]
      rw [e1, e2]
      exact ⟨rfl, _, ⟨_, _, _, _, a, rfl⟩, b, c⟩
    · simp only [if_neg hm]
      exact rdo_err w p cn ce cr ci cx o _ hm hM
  have e1 : idG g o = 0 := by unfold idG; rw [if_neg (by omega)]
  by_cases k4 : o.k = 4
  · have e0 : mayG ns es g o = mayDE g o := by unfold mayG; rw [if_neg k1, if_neg k2, if_neg k3, if_pos k4]
    have hM := fun W (hk : Keep [] w W) => rmayDE_c W p g nv ev fn fe cn ce cr ci cx o k4 hi (hG W hk)
    rw [e0]
    by_cases hm : mayDE g o = 0
    · simp only [if_pos hm]
      rw [hm] at hM
      have hh : hasE g o.id = true := by
        cases hq : hasE g o.id with
        | true => rfl
        | false => unfold mayDE at hm; rw [hq] at hm; simp at hm
      refine (rdoDE_c w p g _ cn ce cr ci cx o k4 hi h' hh hM).mono ?_
      rintro e w' ⟨rfl, ha⟩
      have e2 : actG g o = dropE g o.id := by unfold actG; rw [if_neg k1, if_neg k2, if_neg k3, if_pos k4]
      rw [e1, e2]
      exact ⟨rfl, ha⟩
    · simp only [if_neg hm]
      exact rdo_err w p cn ce cr ci cx o _ hm hM
  by_cases k5 : o.k = 5
  · have e0 : mayG ns es g o = maySP g o := by unfold mayG; rw [if_neg k1, if_neg k2, if_neg k3, if_neg k4, if_pos k5]
    have hM := fun W (hk : Keep [] w W) => rmaySP_c W p g nv ev fn fe cn ce cr ci cx o k5 hi hl (hG W hk)
    rw [e0]
    by_cases hm : maySP g o = 0
    · simp only [if_pos hm]
      rw [hm] at hM
      obtain ⟨ps, hps⟩ : ∃ ps, psOf g o.id = some ps := by
        cases hq : psOf g o.id with
        | some ps => exact ⟨ps, rfl⟩
        | none => unfold maySP at hm; rw [hq] at hm; split at hm <;> simp at hm
      refine (rdoSP_c w p g _ cn ce cr ci cx ns es o ps k5 hi h' hps (hl ps hps) hM).mono ?_
      rintro e w' ⟨rfl, ha⟩
      have e2 : actG g o = setG g o.id (setP ps o.name o.v) := by unfold actG; rw [if_neg k1, if_neg k2, if_neg k3, if_neg k4, hps]; rfl
      rw [e1, e2]
      exact ⟨rfl, ha⟩
    · simp only [if_neg hm]
      exact rdo_err w p cn ce cr ci cx o _ hm hM
  · have e0 : mayG ns es g o = 150 := by unfold mayG; rw [if_neg k1, if_neg k2, if_neg k3, if_neg k4, if_neg k5]
    rw [e0]
    simp only [if_neg (show ¬ (150 : Int) = 0 by omega)]
    exact rdo_err w p cn ce cr ci cx o 150 (by omega) (fun W hk => rmay0_c W p g nv ev fn fe cn ce cr ci cx o k1 k2 k3 k4 k5 hi (hG W hk))
end Go.Proofs.Hg
namespace Go.Proofs.Hg
open Go Go.RowKit Go.Proofs Go.Shelf
/-- A job, the program's graph and the document's, apart, in new memory. -/
structure Sq (w0 w : World) (p ch mp pg pq : Nat) (r : Rule) (c : Nat) (at_ : Int) (T : List Int) (g q : Gr) (n : Nat) : Prop where
  job : JobAt w p r c at_ T ch mp
  gr : ∃ F Fq, GA 106 w pg g F ∧ GA 42 w pq q Fq ∧ (∀ k, k ∈ F → k ≠ p ∧ k ≠ ch ∧ k ≠ mp) ∧ (∀ k, k ∈ Fq → k ≠ p ∧ k ≠ ch ∧ k ≠ mp) ∧ (∀ k, k ∈ F → k ∉ Fq) ∧ (∀ k, k ∈ F → w0.heap.size ≤ k) ∧ (∀ k, k ∈ Fq → w0.heap.size ≤ k)
  keep : Keep [] w0 w
  pn : w0.heap.size ≤ p ∧ w0.heap.size ≤ ch ∧ w0.heap.size ≤ mp
  gi : GI n g
  qi : GI n q
  nn : n ≤ 100000
  c1 : 1 ≤ c ∧ c ≤ 1024
  len : T.length ≤ 4096
section
variable {w0 w w' : World} {p ch mp pg pq : Nat} {r : Rule} {c : Nat} {at_ at2 : Int} {T T2 : List Int} {g q : Gr} {n : Nat}
theorem Sq.sc (h : Sq w0 w p ch mp pg pq r c at_ T g q n) : Sc w0 w p ch mp pg r c at_ T g n := by
  obtain ⟨F, Fq, a, b, d, e, f, k1, k2⟩ := h.gr
  exact ⟨h.job, ⟨F, a, d, k1⟩, h.keep, h.pn, h.gi, h.nn, h.c1, h.len⟩
theorem Sq.kept (h : Sq w0 w p ch mp pg pq r c at_ T g q n) (hk : Keep [] w w') : Sq w0 w' p ch mp pg pq r c at_ T g q n := by
  obtain ⟨F, Fq, a, b, d, e, f, k1, k2⟩ := h.gr
  exact ⟨h.job.keep hk (by simp) (by simp) (by simp), ⟨F, Fq, a.keep hk (fun _ _ => by simp), b.keep hk (fun _ _ => by simp), d, e, f, k1, k2⟩, h.keep.trans0 hk, h.pn, h.gi, h.qi, h.nn, h.c1, h.len⟩
theorem Sq.turn (h : Sq w0 w p ch mp pg pq r c at_ T g q n) (hj : JobAt w' p r c at2 T2 ch mp) (hk : Keep [p, ch, mp] w w') (hl : T2.length ≤ 4096) : Sq w0 w' p ch mp pg pq r c at2 T2 g q n := by
  obtain ⟨F, Fq, a, b, d, e, f, k1, k2⟩ := h.gr
  have nm : ∀ k, k ≠ p ∧ k ≠ ch ∧ k ≠ mp → k ∉ [p, ch, mp] := fun k hk hm => by
    simp at hm; rcases hm with rfl | rfl | rfl <;> simp at hk
  refine ⟨hj, ⟨F, Fq, a.keep hk (fun k hkF => nm k (d k hkF)), b.keep hk (fun k hkF => nm k (e k hkF)), d, e, f, k1, k2⟩, h.keep.trans hk (fun k hk => .inr ?_), h.pn, h.gi, h.qi, h.nn, h.c1, hl⟩
  have := h.pn; simp at hk; rcases hk with rfl | rfl | rfl
  · exact this.1
  · exact this.2.1
  · exact this.2.2
theorem step_sq (h : Sq w0 w p ch mp pg pq r c at_ T g q n) : Calls Tryz.prog 14 #[.pointer (some ⟨p, 0, none⟩), .pointer (some ⟨pg, 0, none⟩)] w fun e w' =>
    e = .returned (.bool (endB (stepAt g c at_ T) (T.drop c) g)) ∧ Sq w0 w' p ch mp pg pq r c (stepAt g c at_ T) (T.drop c) g q n := by
  obtain ⟨F, a, b, d⟩ := h.sc.gr
  have hn := h.nn
  refine (step_c w p r c at_ T ch mp pg g F h.c1.1 h.c1.2 h.len h.job a b (by have := h.gi.lenN; omega) (by have := h.gi.lenE; omega) h.sc.psN h.sc.psE (mem_idsAll h.gi hn)).mono ?_
  rintro e w' ⟨rfl, hj, hk⟩
  exact ⟨rfl, h.turn hj hk (by rw [List.length_drop]; have := h.len; omega)⟩
theorem touch_sq (v : Value) (ids : List Int) (h : Sq w0 w p ch mp pg pq r c at_ T g q n) (hwf : ∀ x ∈ ids, (Lit.int .i64 x).wf = true) (hr : ∀ W, Keep [p, ch, mp] w W → Rd W 1 encI v ids) :
    Calls Tryz.prog 15 #[.pointer (some ⟨p, 0, none⟩), v] w fun e w' => e = .returned (.tuple #[]) ∧ Sq w0 w' p ch mp pg pq r c (touchS at_ T ids).1 (touchS at_ T ids).2 g q n := by
  refine (touch_c w p r c at_ T ch mp v ids h.len hwf hr h.job).mono ?_
  rintro e w' ⟨rfl, hj, hk⟩
  exact ⟨rfl, h.turn hj hk (touchS_len h.len)⟩
theorem verdict0_sq (h : Sq w0 w p ch mp pg pq r c at_ T g q n) (he : endB at_ T g = false) : Calls Tryz.prog 16 #[.pointer (some ⟨p, 0, none⟩), .pointer (some ⟨pg, 0, none⟩)] w fun e w' => e = .returned (.tuple #[.bool false, .int .i64 161]) ∧ Sq w0 w' p ch mp pg pq r c at_ T g q n := by
  obtain ⟨F, a, b, d⟩ := h.sc.gr
  refine (verdict0_c w p r c at_ T ch mp pg g F he h.job a).mono ?_
  rintro e w' ⟨rfl, hk⟩
  exact ⟨rfl, h.kept hk⟩
theorem verdict1_sq (b : Bool) (h : Sq w0 w p ch mp pg pq r c at_ T g q n) (he : endB at_ T g = true) (hK : KeepsOK r g b) : Calls Tryz.prog 16 #[.pointer (some ⟨p, 0, none⟩), .pointer (some ⟨pg, 0, none⟩)] w fun e w' => e = .returned (.tuple #[.bool b, .int .i64 0]) ∧ Sq w0 w' p ch mp pg pq r c at_ T g q n := by
  obtain ⟨F, a, _, d⟩ := h.sc.gr
  have hn := h.nn
  refine (verdict1_c w p r c at_ T ch mp pg g F b he h.job a hK (by have := h.gi.lenN; omega) (by have := h.gi.lenE; omega) h.sc.psN h.sc.psE).mono ?_
  rintro e w' ⟨rfl, hk⟩
  exact ⟨rfl, h.kept hk⟩
theorem next_sq (h : Sq w0 w p ch mp pg pq r c at_ T g q n) : w.cell? ⟨pq, 2, none⟩ = some (.int .i64 q.next) := by
  obtain ⟨F, Fq, a, ⟨nv, ev, fn, fe, b, _⟩, _⟩ := h.gr
  have := b.blk.cell 2
  simpa using this
theorem gnext_sq (h : Sq w0 w p ch mp pg pq r c at_ T g q n) : Calls Tryz.prog 23 #[.pointer (some ⟨pg, 0, none⟩)] w fun e w' => e = .returned (.int .i64 g.next) ∧ Sq w0 w' p ch mp pg pq r c at_ T g q n := by
  obtain ⟨F, Fq, a, _⟩ := h.gr
  refine (next_c w pg g F a).mono ?_
  rintro e w' ⟨rfl, hk⟩
  exact ⟨rfl, h.kept hk⟩
/-- A change of the program's graph. -/
theorem do_sq {ns es : List ByteArray} (h : Sq w0 w p ch mp pg pq r c at_ T g q n) (hn : n + 1 ≤ 100000) (cn ce cr ci cx : Value) (o : Op) (hc : CatR w cn ce ns es) :
    Calls Tryz.prog 20 #[.pointer (some ⟨pg, 0, none⟩), cat5 cn ce cr ci cx, opV o] w fun e w' => e = .returned (.tuple #[.int .i64 (doId ns es g o), .int .i64 (mayG ns es g o)]) ∧ Sq w0 w' p ch mp pg pq r c at_ T (stepG ns es g o) q (n + 1) := by
  obtain ⟨F, Fq, a, b, d, e, f, k1, k2⟩ := h.gr
  refine (do_c w pg g F cn ce cr ci cx ns es o n h.nn h.gi a hc).mono ?_
  rintro e' w' ⟨rfl, F', a', hk, hF⟩
  have lj := h.job.lts
  have hs := h.keep.size
  have nF : ∀ k, k ∉ F → k < w.heap.size → k ∉ F' := fun k h1 h2 h3 => by
    rcases hF k h3 with h4 | h4
    · exact h1 h4
    · omega
  refine ⟨rfl, h.job.keep hk (fun hm => (d _ hm).1 rfl) (fun hm => (d _ hm).2.1 rfl) (fun hm => (d _ hm).2.2 rfl), ⟨F', Fq, a', b.keep hk (fun k hkq hm => f k hm hkq), fun k hk' => ?_, e, fun k hk' hq => ?_, fun k hk' => ?_, k2⟩, h.keep.trans hk (fun k hm => .inr (k1 k hm)), h.pn, h.gi.step o, h.qi.mono (by omega), by omega, h.c1, h.len⟩
  · rcases hF k hk' with h4 | h4
    · exact d k h4
    · omega
  · rcases hF k hk' with h4 | h4
    · exact f k h4 hq
    · have := b.lt k hq; omega
  · rcases hF k hk' with h4 | h4
    · exact k1 k h4
    · omega
/-- A job made behind the two graphs. -/
theorem new_sq (r : Rule) (hB : Both w0 w pg pq g) (hk : Keep [] w0 w) (hg : GI n g) (hn : n ≤ 100000) (hf : formR r = true) (h1 : 1 ≤ c) (h2 : c ≤ 1024) :
    Calls Tryz.prog 13 #[ruleV r, .int .i64 c] w fun e w' => ∃ p ch mp, e = .returned (.tuple #[.pointer (some ⟨p, 0, none⟩), .int .i64 0]) ∧ Sq w0 w' p ch mp pg pq r c 1 [] g g n := by
  refine (jnew_c r c w hf (by omega) (by omega)).mono ?_
  rintro e w' ⟨p, ch, mp, rfl, hj, hk', q1, q2, q3⟩
  obtain ⟨Fg, Fq, a, b, d, e1, e2⟩ := hB
  have hs := hk.size
  exact ⟨p, ch, mp, rfl, ⟨hj, ⟨Fg, Fq, a.keep hk' (fun _ _ => by simp), b.keep hk' (fun _ _ => by simp), fun k hkF => by have := a.lt k hkF; omega, fun k hkF => by have := b.lt k hkF; omega, d, e1, e2⟩, hk.trans0 hk', ⟨by omega, by omega, by omega⟩, hg, hg, hn, ⟨h1, h2⟩, by simp⟩⟩
end
/-! ## What the job's going and being told comes to -/
theorem idsAll_len (g : Gr) (lim : Int) : (idsG g lim).length ≤ g.N.length + g.E.length := by
  unfold idsG
  rw [List.length_mergeSort]
  refine Nat.le_trans (List.length_filter_le _ _) ?_
  unfold idsAll; simp
theorem stepAt_whole {g : Gr} {n : Nat} (h : GI n g) (hn : n ≤ 500) (at_ : Int) (T : List Int) (hT : T.length ≤ 1) : stepAt g 1024 at_ T = g.next := by
  unfold stepAt
  have := idsAll_len g at_
  have h1 := h.lenN
  have h2 := h.lenE
  rw [if_pos (by omega), if_neg (by omega)]
theorem touch_two (at_ x : Int) : touchS at_ [] [x, x] = if at_ ≤ x then (at_, []) else (at_, [x]) := by
  unfold touchS
  simp only [List.foldl_cons, List.foldl_nil]
  unfold touch1
  by_cases h : at_ ≤ x
  · simp [h]
  · simp only [if_neg h]
    simp [h, insT]
theorem has_bounds {n : Nat} {g : Gr} (h : GI n g) {id : Int} (hh : hasN g id = true ∨ hasE g id = true) : 1 ≤ id ∧ id < g.next := by
  rcases hh with hh | hh
  · unfold hasN at hh
    obtain ⟨x, hx, rfl⟩ := List.mem_map.1 (List.contains_iff_mem.1 hh)
    exact h.idN x hx
  · unfold hasE at hh
    obtain ⟨x, hx, rfl⟩ := List.mem_map.1 (List.contains_iff_mem.1 hh)
    exact h.idE x hx
theorem psOf_in {g : Gr} {id : Int} {ps : List Prp} (h : psOf g id = some ps) : hasN g id = true ∨ hasE g id = true := by
  unfold psOf at h
  cases h1 : g.N.find? (fun x => decide (x.id = id)) with
  | some y =>
    left
    have h2 := List.find?_some h1
    have h3 := List.mem_of_find?_eq_some h1
    unfold hasN; rw [List.contains_iff_mem]
    exact List.mem_map.2 ⟨y, h3, by simpa using h2⟩
  | none =>
    right
    rw [h1] at h
    cases h4 : g.E.find? (fun x => decide (x.id = id)) with
    | none => rw [h4] at h; simp at h
    | some y =>
      have h2 := List.find?_some h4
      have h3 := List.mem_of_find?_eq_some h4
      unfold hasE; rw [List.contains_iff_mem]
      exact List.mem_map.2 ⟨y, h3, by simpa using h2⟩
theorem tells_add {ns es : List ByteArray} {g : Gr} {o : Op} (hm : mayG ns es g o = 0) (hk : o.k = 1 ∨ o.k = 3) : (stepG ns es g o).next = g.next + 1 ∧ idG g o = g.next := by
  unfold stepG
  rw [if_pos hm]
  refine ⟨?_, by unfold idG; rw [if_pos hk]⟩
  unfold actG
  rcases hk with hk | hk
  · rw [if_pos hk]
  · rw [if_neg (by omega), if_neg (by omega), if_pos hk]
theorem tells_old {n : Nat} {ns es : List ByteArray} {g : Gr} {o : Op} (h : GI n g) (hm : mayG ns es g o = 0) (hk : ¬ (o.k = 1 ∨ o.k = 3)) : (stepG ns es g o).next = g.next ∧ idG g o = 0 ∧ 1 ≤ o.id ∧ o.id < g.next := by
  have k1 : ¬ o.k = 1 := fun e => hk (.inl e)
  have k3 : ¬ o.k = 3 := fun e => hk (.inr e)
  unfold stepG
  rw [if_pos hm]
  refine ⟨?_, by unfold idG; rw [if_neg hk], ?_⟩
  · unfold actG
    rw [if_neg k1, if_neg k3]
    split
    · rfl
    · split
      · rfl
      · unfold setG; split <;> rfl
  · unfold mayG at hm
    rw [if_neg k1, if_neg k3] at hm
    apply has_bounds h
    split at hm
    · left; unfold mayDN at hm; cases hq : hasN g o.id with
      | true => rfl
      | false => rw [hq] at hm; simp at hm
    · split at hm
      · right; unfold mayDE at hm; cases hq : hasE g o.id with
        | true => rfl
        | false => rw [hq] at hm; simp at hm
      · split at hm
        · cases hq : psOf g o.id with
          | some ps => exact psOf_in hq
          | none => unfold maySP at hm; rw [hq] at hm; split at hm <;> simp at hm
        · omega
theorem wf_small {x : Int} (h0 : 0 ≤ x) (h1 : x < 4611686018427387904) : (Lit.int .i64 x).wf = true := by
  simp [Lit.wf, IntKind.min, IntKind.max, IntKind.signed, IntKind.bits]; omega
end Go.Proofs.Hg
namespace Go.Proofs.Hg
open Go Go.RowKit Go.Proofs Go.Shelf
theorem opCells {W : World} {b : Nat} {o : Op} (h : Blk W b 50 #[.int .i64 o.k, .int .i64 o.id, .string o.ty, .int .i64 o.fr, .int .i64 o.tt, .string o.name, .int .i64 o.v.k, .int .i64 o.v.n, .string o.v.s, .bool o.casc]) :
    W.cell? ⟨b, 0, none⟩ = some (.int .i64 o.k) ∧ W.cell? ⟨b, 1, none⟩ = some (.int .i64 o.id) ∧ W.cell? ⟨b, 2, none⟩ = some (.string o.ty) ∧ W.cell? ⟨b, 3, none⟩ = some (.int .i64 o.fr) ∧ W.cell? ⟨b, 4, none⟩ = some (.int .i64 o.tt) ∧ W.cell? ⟨b, 5, none⟩ = some (.string o.name) ∧ W.cell? ⟨b, 6, none⟩ = some (.int .i64 o.v.k) ∧ W.cell? ⟨b, 7, none⟩ = some (.int .i64 o.v.n) ∧ W.cell? ⟨b, 8, none⟩ = some (.string o.v.s) ∧ W.cell? ⟨b, 9, none⟩ = some (.bool o.casc) :=
  ⟨h.cell 0, h.cell 1, h.cell 2, h.cell 3, h.cell 4, h.cell 5, h.cell 6, h.cell 7, h.cell 8, h.cell 9⟩
set_option maxRecDepth 100000 in
set_option maxHeartbeats 6400000 in
theorem tells_c (w : World) (v : Value) (l : List Op) (o : Op) (hl : Rd w 10 encO v l) (hx : ExAt w) (hwf : (Lit.int .i64 o.id).wf = true) : Calls Tryz.prog 4 #[v, opV o] w fun e w' => e = .returned (.bool true) ∧ Keep [] w w' := by
  have K0 := Keep.alloc0 w (Obj.cells (encO o).toArray 50)
  have HX0 := Blk.new w (encO o).toArray 50
  have HRd := Lib.hid (fun W (hk : Keep [] w W) => hl.keep hk)
  have HX := Lib.hid hx
  have HWF := Lib.hid hwf
  obtain ⟨A, cap, hv, hcap, hm, _⟩ := id hl
  subst hv
  unfold encO at K0 HX0
  have HK := Lib.hid K0
  have HB0 := Lib.hid HX0
  clear K0 HX0 hl hx hwf
  go_enter Tryz.func4, Tryz.ntmps4
  go_wp2_with fail
  have hs0 := HB0.out.lt
  generalize w.alloc _ = W0 at *
  cases hf : fairL l with
  | false =>
    refine (made_bad_c W0 _ l (HRd.out W0 HK.out) hf).mono ?_
    rintro e w1 ⟨rfl, hk1⟩
    have HK1 := Lib.hid (HK.out.trans0 hk1)
    clear hk1 hf
    go_wp2_with fail
    refine (wakes_c w1 (HX.out.keep HK1.out)).mono ?_
    rintro e w2 ⟨rfl, hk2⟩
    have HK2 := Lib.hid (HK1.out.trans0 hk2)
    clear hk2
    go_wp2
    go_ret
    exact ⟨rfl, HK2.out⟩
  | true =>
    have hgi : GI 60 (madeG typN typE (l.take 60)) := by
      have := madeG_inv typN typE (l.take 60) emptyG 0 GI.empty
      exact GI.mono this (by rw [List.length_take]; omega)
    refine (made_c W0 _ l (HRd.out W0 HK.out) hf (fun o _ => rdoAll o)).mono ?_
    obtain ⟨G, hG⟩ : ∃ G, G = madeG typN typE (l.take 60) := ⟨_, rfl⟩
    rw [← hG] at hgi ⊢
    clear hG
    rintro e w1 ⟨pg, pq, rfl, hB, hk1⟩
    have HB := Lib.hid hB
    have HK1 := Lib.hid hk1
    have HGI := Lib.hid hgi
    have hO := HB0.out.keep hk1 (by simp)
    obtain ⟨d0, d1, d2, d3, d4, d5, d6, d7, d8, d9⟩ := opCells hO
    clear hB hk1 hgi hf hO
    go_wp2_with fail
    refine (largeO_c o w1).mono ?_
    rintro e w2 ⟨rfl, hk2⟩
    have HK2 := Lib.hid (HK1.out.trans0 hk2)
    have HB2 := Lib.hid (HB.out.keep hk2)
    clear hk2 d0 d1 d2 d3 d4 d5 d6 d7 d8 d9 HB
    cases hlo : largeO o with
    | true =>
      clear hlo
      go_wp2_with fail
      refine (wakes_c w2 (HX.out.keep (HK.out.trans0 HK2.out))).mono ?_
      rintro e w3 ⟨rfl, hk3⟩
      have HK3 := Lib.hid ((HK.out.trans0 HK2.out).trans0 hk3)
      clear hk3
      go_wp2
      go_ret
      exact ⟨rfl, HK3.out⟩
    | false =>
      clear hlo
      obtain ⟨x0, x1, x2, x3, x4, x5, x6, x7⟩ := HX.out.keep (HK.out.trans0 HK2.out)
      go_wp2_with fail
      refine (new_sq exR HB2.out HK2.out HGI.out (by omega) exR_form (c := 1024) (by omega) (by omega)).mono ?_
      rintro e w3 ⟨p, ch, mp, rfl, hs⟩
      have HS := Lib.hid hs
      clear hs x0 x1 x2 x3 x4 x5 x6 x7 HB2 HK1 HK2
      have hst : stepAt G 1024 1 [] = G.next := stepAt_whole HGI.out (by omega) 1 [] (by simp)
      have hen : endB G.next (List.drop 1024 []) G = true := by unfold endB; simp
      have qn := next_sq HS.out
      go_wp2_with fail
      go_region_held3 (fun X => X.cell? ⟨pq, 2, none⟩ = some (.int .i64 G.next))
        (first | exact qn | exact next_sq HS4.out | go_keep)
        ((first
          | (go_at_call 14; refine (step_sq (HS.out.kept ((Keep.refl [] w3).drew))).mono ?_; rw [hst, hen]; rintro e w4 ⟨rfl, hs4⟩; have HS4 := Lib.hid hs4; clear hs4)
          | (go_at_call 19; refine (jat_c _ p exR _ G.next _ ch mp HS4.out.job).mono ?_; rintro e w5 ⟨rfl, rfl⟩)))
      all_goals
        have HS5 : Hid (Sq W0 w5 p ch mp pg pq exR 1024 G.next [] G G 60) := HS4.out
        clear HS4 hst hen qn HS
        have SK : Hid (∀ X, Keep [] w5 X → X.cell? ⟨w.heap.size, 0, none⟩ = some (.int .i64 o.k) ∧ X.cell? ⟨w.heap.size, 1, none⟩ = some (.int .i64 o.id) ∧ X.cell? ⟨w.heap.size, 2, none⟩ = some (.string o.ty) ∧ X.cell? ⟨w.heap.size, 3, none⟩ = some (.int .i64 o.fr) ∧ X.cell? ⟨w.heap.size, 4, none⟩ = some (.int .i64 o.tt) ∧ X.cell? ⟨w.heap.size, 5, none⟩ = some (.string o.name) ∧ X.cell? ⟨w.heap.size, 6, none⟩ = some (.int .i64 o.v.k) ∧ X.cell? ⟨w.heap.size, 7, none⟩ = some (.int .i64 o.v.n) ∧ X.cell? ⟨w.heap.size, 8, none⟩ = some (.string o.v.s) ∧ X.cell? ⟨w.heap.size, 9, none⟩ = some (.bool o.casc)) := fun X hk => opCells (HB0.out.keep (HS5.out.keep.trans0 hk) (by simp))
        go_wp2_with fail
        go_region_held3 (fun X => X.cell? ⟨w.heap.size, 0, none⟩ = some (.int .i64 o.k) ∧ X.cell? ⟨w.heap.size, 1, none⟩ = some (.int .i64 o.id) ∧ X.cell? ⟨w.heap.size, 2, none⟩ = some (.string o.ty) ∧ X.cell? ⟨w.heap.size, 3, none⟩ = some (.int .i64 o.fr) ∧ X.cell? ⟨w.heap.size, 4, none⟩ = some (.int .i64 o.tt) ∧ X.cell? ⟨w.heap.size, 5, none⟩ = some (.string o.name) ∧ X.cell? ⟨w.heap.size, 6, none⟩ = some (.int .i64 o.v.k) ∧ X.cell? ⟨w.heap.size, 7, none⟩ = some (.int .i64 o.v.n) ∧ X.cell? ⟨w.heap.size, 8, none⟩ = some (.string o.v.s) ∧ X.cell? ⟨w.heap.size, 9, none⟩ = some (.bool o.casc))
          (first | exact SK.out _ (Keep.refl [] w5) | exact SK.out _ ((Keep.refl [] w5).drew) | exact SK.out _ hkT.out | exact opCells (HB0.out.keep HD.out.keep (by simp)) | go_keep)
          ((first
            | (go_at_call 21; refine (types_c _).mono ?_; rintro e w6 ⟨cn, ce, rfl, hcat, hk4⟩; obtain ⟨nA, nC, hcn, _⟩ := id hcat.n; obtain ⟨eA, eC, hce, _⟩ := id hcat.e; subst hcn hce; have HCat := Lib.hid hcat; have hkT := Lib.hid (((Keep.refl [] w5).drew).trans0 hk4); clear hcat hk4)
            | (go_at_call 20; refine (do_sq (HS5.out.kept hkT.out) (by omega) _ _ _ _ _ o HCat.out).mono ?_; rintro e w7 ⟨rfl, hd⟩; have HD := Lib.hid hd; clear hd)))
        all_goals
          obtain ⟨g2, hg2⟩ : ∃ g2, g2 = stepG typN typE G o := ⟨_, rfl⟩
          rw [← hg2] at HD
          clear SK HCat hkT HS5
          by_cases hm : mayG typN typE G o = 0
          · have hdi : doId typN typE G o = idG G o := by unfold doId; rw [if_pos hm]
            rw [hm, hdi]
            clear hdi
            have hs60 : (61 : Nat) ≤ 500 := by omega
            by_cases hk : o.k = 1 ∨ o.k = 3
            · obtain ⟨hn2, hid⟩ := tells_add hm hk
              rw [← hg2] at hn2
              rw [hid]
              have hb1 := HGI.out.next1
              have hb2 := HGI.out.nextn
              have hz : (G.next == 0) = false := by simp; omega
              have HN2 := Lib.hid hn2
              have HWX := Lib.hid (wf_small (x := G.next) (by omega) (by omega))
              clear hn2 hid hm hg2 hk
              go_wp2_with fail
              have hlt := HD.out.job.lts
              refine (touch_sq _ [G.next, G.next] (HD.out.kept (Keep.alloc0 _ _)) (by intro x hx; simp at hx; subst hx; exact HWX.out) (fun W hk => ((Blk.new w7 ([G.next, G.next].flatMap encI).toArray 2).keep hk (by simp; omega)).rdI (by simp))).mono ?_
              rw [touch_two, if_pos (Int.le_refl _)]
              rintro e w8 ⟨rfl, hs8⟩
              have HS8 := Lib.hid hs8
              clear hs8 hlt HD
              go_wp2_with fail
              refine (verdict0_sq HS8.out (by unfold endB; rw [HN2.out]; simp; omega)).mono ?_
              rintro e w9 ⟨rfl, hs9⟩
              have HS9 := Lib.hid hs9
              have qn := next_sq hs9
              clear hs9 HS8
              go_wp2_with fail
              refine (jleft_c _ p exR _ G.next _ ch mp HS9.out.job).mono ?_
              rintro e w10 ⟨rfl, rfl⟩
              go_wp2_with fail
              refine (step_sq HS9.out).mono ?_
              rw [stepAt_whole HS9.out.gi (by omega) G.next [] (by simp), show endB g2.next (List.drop 1024 []) g2 = true from by unfold endB; simp]
              rintro e w11 ⟨rfl, hs11⟩
              have HS11 := Lib.hid hs11
              clear hs11 HS9 qn
              go_wp2_with fail
              refine (jleft_c _ p exR _ g2.next _ ch mp HS11.out.job).mono ?_
              rintro e w12 ⟨rfl, rfl⟩
              go_wp2_with fail
              refine (jat_c _ p exR _ g2.next _ ch mp HS11.out.job).mono ?_
              rintro e w13 ⟨rfl, rfl⟩
              go_wp2_with fail
              refine (gnext_sq HS11.out).mono ?_
              rintro e w14 ⟨rfl, hs14⟩
              have HK14 := Lib.hid (HK.out.trans0 hs14.keep)
              clear hs14
              go_wp2_with fail
              refine (wakes_c w14 (HX.out.keep HK14.out)).mono ?_
              rintro e w15 ⟨rfl, hk15⟩
              have HK15 := Lib.hid (HK14.out.trans0 hk15)
              clear hk15
              go_wp2
              go_ret
              exact ⟨rfl, HK15.out⟩
            · obtain ⟨hn2, hid, ho1, ho2⟩ := tells_old HGI.out hm hk
              rw [← hg2] at hn2
              rw [hid]
              have hb1 := HGI.out.next1
              have hb2 := HGI.out.nextn
              have HN2 := Lib.hid hn2
              have d1 := (opCells (HB0.out.keep HD.out.keep (by simp))).2.1
              clear hn2 hid hm hg2 hk
              go_wp2_with fail
              have hlt := HD.out.job.lts
              refine (touch_sq _ [o.id, o.id] (HD.out.kept (Keep.alloc0 _ _)) (by intro x hx; simp at hx; subst hx; exact HWF.out) (fun W hk => ((Blk.new w7 ([o.id, o.id].flatMap encI).toArray 2).keep hk (by simp; omega)).rdI (by simp))).mono ?_
              rw [touch_two, if_neg (by omega)]
              rintro e w8 ⟨rfl, hs8⟩
              have HS8 := Lib.hid hs8
              clear hs8 hlt HD d1
              go_wp2_with fail
              refine (verdict0_sq HS8.out (by unfold endB; simp)).mono ?_
              rintro e w9 ⟨rfl, hs9⟩
              have HS9 := Lib.hid hs9
              have qn := next_sq hs9
              clear hs9 HS8
              go_wp2_with fail
              refine (jleft_c _ p exR _ G.next _ ch mp HS9.out.job).mono ?_
              rintro e w10 ⟨rfl, rfl⟩
              go_wp2_with fail
              refine (step_sq HS9.out).mono ?_
              rw [stepAt_whole HS9.out.gi (by omega) G.next [o.id] (by simp), show endB g2.next (List.drop 1024 [o.id]) g2 = true from by unfold endB; simp]
              rintro e w11 ⟨rfl, hs11⟩
              have HS11 := Lib.hid hs11
              clear hs11 HS9 qn
              go_wp2_with fail
              refine (jleft_c _ p exR _ g2.next _ ch mp HS11.out.job).mono ?_
              rintro e w12 ⟨rfl, rfl⟩
              go_wp2_with fail
              refine (jat_c _ p exR _ g2.next _ ch mp HS11.out.job).mono ?_
              rintro e w13 ⟨rfl, rfl⟩
              go_wp2_with fail
              refine (gnext_sq HS11.out).mono ?_
              rintro e w14 ⟨rfl, hs14⟩
              have HK14 := Lib.hid (HK.out.trans0 hs14.keep)
              clear hs14
              go_wp2_with fail
              refine (wakes_c w14 (HX.out.keep HK14.out)).mono ?_
              rintro e w15 ⟨rfl, hk15⟩
              have HK15 := Lib.hid (HK14.out.trans0 hk15)
              clear hk15
              go_wp2
              go_ret
              exact ⟨rfl, HK15.out⟩
          · have hdi : doId typN typE G o = 0 := by unfold doId; rw [if_neg hm]
            rw [hdi]
            obtain ⟨M, hM⟩ : ∃ M, M = mayG typN typE G o := ⟨_, rfl⟩
            rw [← hM] at hm ⊢
            have hM0 : (M == 0) = false := by simpa using hm
            clear hM hm hdi hg2
            go_wp2_with fail
            refine (jleft_c _ p exR _ G.next _ ch mp HD.out.job).mono ?_
            rintro e w8 ⟨rfl, rfl⟩
            go_wp2_with fail
            refine (wakes_c w8 (HX.out.keep (HK.out.trans0 HD.out.keep))).mono ?_
            rintro e w9 ⟨rfl, hk9⟩
            have HK9 := Lib.hid ((HK.out.trans0 HD.out.keep).trans0 hk9)
            clear hk9
            go_wp2
            go_ret
            exact ⟨rfl, HK9.out⟩
end Go.Proofs.Hg
