/-
  Contracts of the functions that the statement reaches, and plain lemmas on lists, part 4. Conditions: those that each theorem names.
-/
import Derived.Test.YtemhlafdlflilaaGreatDoorHg3
import Derived.Deep.RegionLaw
import Derived.Deep.AppendLies
import Derived.Shelf.Spec.SlicesInsertGrow
set_option linter.unusedVariables false
set_option linter.unusedSimpArgs false
namespace Go.Proofs.Hg
open Go Go.RowKit Go.Proofs
theorem Row.grow_ne {w w' : World} {T sz T' sz' : Nat} {α β : Type} {enc : α → List Value} {enc' : β → List Value} {v v' : Value} {xs : List α} {ys : List β} (h : Row w T sz enc v xs) (h' : Row w T' sz' enc' v' ys) (hT : T ≠ T') (hg : w.grownBy w' v'.ownBlock) : Row w' T sz enc v xs :=
  h.grown hg (fun k e e' => by
    obtain ⟨c, hc⟩ := h.typed k e
    obtain ⟨c', hc'⟩ := h'.typed k e'.symm
    rw [hc] at hc'; injection hc' with hc'; injection hc' with _ hc'; exact hT hc')
theorem Row.set_blk {w : World} {T sz T' p : Nat} {α : Type} {enc : α → List Value} {v u : Value} {xs : List α} {cs : Array Value} (h : Row w T sz enc v xs) (hb : Blk w p T' cs) (hT : T ≠ T') (i : Nat) : Row (w.setCell ⟨p, i, none⟩ u) T sz enc v xs :=
  h.grown (Keep.grownBy_setCell w ⟨p, i, none⟩ u) (fun k e e' => by injection e' with e'; subst e'; exact h.ne_blk hb hT e.symm)
theorem Row.alloc {w : World} {T sz : Nat} {α : Type} {enc : α → List Value} {v : Value} {xs : List α} (h : Row w T sz enc v xs) (o : Obj) : Row (w.alloc o) T sz enc v xs := h.keep (Keep.alloc0 w o) (fun _ _ => by simp)
theorem Row.drew {w : World} {T sz : Nat} {α : Type} {enc : α → List Value} {v : Value} {xs : List α} (h : Row w T sz enc v xs) : Row w.drew T sz enc v xs := h
theorem keep_views {w w' : World} {F : List Nat} {g : Gr} {fn : List FN} {fe : List FE} (hk : Keep F w w') (hn : All2 (NodeV w) fn g.N) (he : All2 (EdgeV w) fe g.E) : All2 (NodeV w') fn g.N ∧ All2 (EdgeV w') fe g.E :=
  ⟨hn.imp (fun _ _ ⟨a, b, c⟩ => ⟨a, b, c.keep hk⟩), he.imp (fun _ _ ⟨a, b, c, d, e⟩ => ⟨a, b, c, d, e.keep hk⟩)⟩
theorem foot_typed {T p : Nat} {w : World} {g : Gr} {nv ev : Value} {fn : List FN} {fe : List FE} (h : GAt T w p g nv ev fn fe) (hT : T ≠ 135) : ∀ k, k ∈ foot p nv ev → ∃ (cs : Array Value) (T : TypeId), w.heap[k]? = some (Obj.cells cs T (0, 0)) ∧ T ≠ 135 := fun k hk => by
  rcases mem_foot.1 hk with rfl | e | e
  · exact ⟨_, _, h.blk, hT⟩
  · obtain ⟨c, hc⟩ := h.n.typed k e; exact ⟨c, _, hc, by decide⟩
  · obtain ⟨c, hc⟩ := h.e.typed k e; exact ⟨c, _, hc, by decide⟩
/-- What an append to the nodes, and the store behind it, leave. -/
theorem addN_done {T p gg cap : Nat} {w W w1 w2 : World} {g : Gr} {nv ev : Value} {fn : List FN} {fe : List FE} {X : Obj} {x : FN} {n : Node} {nx : Int} (h : GAt T w p g nv ev fn fe) (hT : T ≠ 135 ∧ T ≠ 113 ∧ T ≠ 115) (HK : Keep [] w W) (R1 : Blk w1 p T #[nv, ev, .int .i64 nx]) (R2 : Keep [p] W w1)
    (hgrow : (w1.alloc X).drew.grownBy w2 nv.ownBlock) (hown : w2.ownsRow 0 113 3 (.slice (some ⟨gg, 0, none⟩) (fn.length + 1) cap) (fn.length + 1) (fn.flatMap encN ++ encN x)) (hat : nv.ownBlock = some gg ∨ gg = w1.heap.size + 1) (hx : x.id = n.id ∧ x.ty = n.ty ∧ x.pv = .slice none 0 0 ∧ n.ps = []) :
    GAt T (w2.setCell ⟨p, 0, none⟩ (.slice (some ⟨gg, 0, none⟩) (fn.length + 1) cap)) p ⟨g.N ++ [n], g.E, nx⟩ (.slice (some ⟨gg, 0, none⟩) (fn.length + 1) cap) ev (fn ++ [x]) fe ∧
      Keep (foot p nv ev) w (w2.setCell ⟨p, 0, none⟩ (.slice (some ⟨gg, 0, none⟩) (fn.length + 1) cap)) ∧ (∀ k, k ∈ foot p (.slice (some ⟨gg, 0, none⟩) (fn.length + 1) cap) ev → k ∈ foot p nv ev ∨ w.heap.size ≤ k) := by
  have b1 := (h.n.keep HK (fun _ _ => by simp)).keep R2 (not_foot1 ((h.n.keep HK (fun _ _ => by simp)).ne_blk (h.blk.keep HK (by simp)) (Ne.symm hT.2.1)))
  have b2 := (h.e.keep HK (fun _ _ => by simp)).keep R2 (not_foot1 ((h.e.keep HK (fun _ _ => by simp)).ne_blk (h.blk.keep HK (by simp)) (Ne.symm hT.2.2)))
  have kf : Keep (foot p nv ev) w w1 := (HK.mono (fun k hk => by simp at hk)).trans R2 (fun k hk => by simp at hk; subst hk; exact .inl (mem_foot.2 (.inl rfl)))
  have k2 : Keep (foot p nv ev) w w2 := (kf.alloc X).drew.grown hgrow (fun k e => .inr ⟨mem_foot.2 (.inr (.inl e)), by obtain ⟨c, hc⟩ := h.n.typed k e; exact ⟨c, _, hc, by decide⟩⟩)
  have r2 : Blk w2 p T #[nv, ev, .int .i64 nx] := (R1.alloc X).drew.grown hgrow (((b1.alloc X).drew).ne_blk ((R1.alloc X).drew) (Ne.symm hT.2.1))
  have e2 := ((b2.alloc X).drew).grow_ne ((b1.alloc X).drew) (by decide) hgrow
  have n2 : Row w2 113 3 encN (.slice (some ⟨gg, 0, none⟩) (fn.length + 1) cap) (fn ++ [x]) := by
    unfold Row
    rw [List.length_append, List.length_singleton, List.flatMap_append]
    simpa using hown
  have k3 := k2.setBlk (i := 0) (v := .slice (some ⟨gg, 0, none⟩) (fn.length + 1) cap) h.blk hT.1 (mem_foot.2 (.inl rfl))
  obtain ⟨v1, v2⟩ := keep_views k3 h.vn h.ve
  refine ⟨⟨r2.set 0 _, n2.set_blk r2 (Ne.symm hT.2.1) 0, e2.set_blk r2 (Ne.symm hT.2.2) 0, v1.append (.one ⟨hx.1, hx.2.1, by rw [hx.2.2.1, hx.2.2.2]; exact PsAt.nil _⟩), v2⟩, k3, fun k hk => ?_⟩
  rcases mem_foot.1 hk with rfl | e | e
  · exact .inl (mem_foot.2 (.inl rfl))
  · simp [Value.ownBlock] at e; subst e
    rcases hat with e | e
    · exact .inl (mem_foot.2 (.inr (.inl e)))
    · right; have := kf.size; omega
  · exact .inl (mem_foot.2 (.inr (.inr e)))
set_option maxRecDepth 100000 in
set_option maxHeartbeats 1600000 in
theorem addNode_c (w : World) (p : Nat) (g : Gr) (nv ev : Value) (fn : List FN) (fe : List FE) (o : Op) (h0 : 0 ≤ g.next) (h1 : g.next < 4611686018427387904) (hl : fn.length ≤ 1000000)
    (h : GAt 106 w p g nv ev fn fe) :
    Calls Tryz.prog 85 #[.pointer (some ⟨p, 0, none⟩), opV o] w fun e w' => e = .returned (.int .i64 g.next) ∧
      ∃ nv', GAt 106 w' p ⟨g.N ++ [⟨g.next, o.ty, []⟩], g.E, g.next + 1⟩ nv' ev (fn ++ [⟨g.next, o.ty, .slice none 0 0⟩]) fe ∧ Keep (foot p nv ev) w w' ∧ (∀ k, k ∈ foot p nv' ev → k ∈ foot p nv ev ∨ w.heap.size ≤ k) := by
  obtain ⟨i0, hi0, hz0, hz1, hz2⟩ := info_parts infoN
  have hb := h.blk
  have c0 := hb.cell 0
  have f0 := hb.free 0
  have f2 := hb.free 2
  have lp := hb.lt
  simp only [List.getElem?_toArray, List.getElem?_cons_succ, List.getElem?_cons_zero] at c0
  have hn := h.n
  have K0 := Keep.alloc0 w (Obj.cells (encO o).toArray 50)
  have HX := Blk.new w (encO o).toArray 50
  have hb1 := hb.keep K0 (by simp)
  have hn1 := hn.keep K0 (by simp)
  clear c0 f0 f2
  unfold encO at *
  have HK := Lib.hid K0; have HX := Lib.hid HX; have HB := Lib.hid hb1; have HN := Lib.hid hn1; clear K0 hb1 hn1
  go_enter Tryz.func85, Tryz.ntmps85
  go_wp2_with fail
  generalize w.alloc _ = W at *
  refine (given_c _ p nv ev g.next h0 h1 HB.out).mono ?_
  rintro e w1 ⟨rfl, r1, r2⟩
  have R1 := Lib.hid r1; have R2 := Lib.hid r2; clear r1 r2
  go_wp2_with fail
  have d0 := R1.out.cell 0
  have e0 := R1.out.free 0
  have X1 := Lib.hid (HX.out.keep R2.out (by simp; omega))
  have d2 := X1.out.cell 2
  have hn2 := Lib.hid (HN.out.keep R2.out (not_foot1 (HN.out.ne_blk HB.out (by decide))))
  simp only [List.getElem?_toArray, List.getElem?_cons_succ, List.getElem?_cons_zero] at d0 d2
  have HP := Lib.hid (hn2.out.ne_blk R1.out (by decide))
  have HW := Lib.hid (hn.ne_ge (Nat.le_refl _))
  have l1 := R1.out.lt
  have l2 := X1.out.lt
  have SA : Hid (∀ x, (w1.alloc x).drew.cell? ⟨p, 0, none⟩ = some nv ∧ (w1.alloc x).drew.frozen? ⟨p, 0, none⟩ = false ∧ (w1.alloc x).drew.cell? ⟨w.heap.size, 2, none⟩ = some (.string o.ty)) := fun x => ⟨(R1.out.alloc x).drew.cell 0, (R1.out.alloc x).drew.free 0, (X1.out.alloc x).drew.cell 2⟩
  have SB : Hid (∀ x w2, (w1.alloc x).drew.grownBy w2 nv.ownBlock → w2.cell? ⟨p, 0, none⟩ = some nv ∧ w2.frozen? ⟨p, 0, none⟩ = false ∧ w2.cell? ⟨w.heap.size, 2, none⟩ = some (.string o.ty)) := fun x w2 hg => ⟨((R1.out.alloc x).drew.grown hg HP.out).cell 0, ((R1.out.alloc x).drew.grown hg HP.out).free 0, ((X1.out.alloc x).drew.grown hg HW.out).cell 2⟩
  go_region_law
    ((refine step_append_lies _ (by rfl) _ _ _ (by rfl) 0 113 i0 _ 3 48 Tryz.underlying39 hi0 hz0 hz1 hz2 rfl (by omega) nv fn.length (fn.flatMap encN) (by rfl) ((hn2.out.alloc _).drew)
        ⟨w1.heap.size, 0, none⟩ 1 1 [.int .i64 g.next, .string o.ty, .slice none 0 0] (by rfl) (by rfl) (World.news_of_block (cs := #[.int .i64 g.next, .string o.ty, .slice none 0 0]) (t := 113) (fr := (0, 0)) (heap_alloc_new w1 _)) (by simp [Value.oneCell'])
        (by omega) (by unfold maxLen; omega) (by omega) (by simp) (w1.heap.size + 1) (by simp) ?_; intro gg cap w2 hown1 hgrow hat hlt; obtain ⟨q0, q1, q2⟩ := SB.out _ _ hgrow))
  all_goals
    have D := Lib.hid (addN_done (x := ⟨g.next, o.ty, .slice none 0 0⟩) (n := ⟨g.next, o.ty, []⟩) h (by decide) HK.out R1.out R2.out hgrow hown1 hat ⟨rfl, rfl, rfl, rfl⟩)
    go_wp2
    go_ret
    exact ⟨by simp, _, D.out⟩
end Go.Proofs.Hg
namespace Go.Proofs.Hg
open Go Go.RowKit Go.Proofs Go.Shelf
/-- What an append to the nodes, and the store behind it, leave. -/
theorem addE_done {T p gg cap : Nat} {w W w1 w2 : World} {g : Gr} {nv ev : Value} {fn : List FN} {fe : List FE} {X : Obj} {x : FE} {n : Edge} {nx : Int} (h : GAt T w p g nv ev fn fe) (hT : T ≠ 135 ∧ T ≠ 113 ∧ T ≠ 115) (HK : Keep [] w W) (R1 : Blk w1 p T #[nv, ev, .int .i64 nx]) (R2 : Keep [p] W w1)
    (hgrow : (w1.alloc X).drew.grownBy w2 ev.ownBlock) (hown : w2.ownsRow 0 115 5 (.slice (some ⟨gg, 0, none⟩) (fe.length + 1) cap) (fe.length + 1) (fe.flatMap encE ++ encE x)) (hat : ev.ownBlock = some gg ∨ gg = w1.heap.size + 1) (hx : x.id = n.id ∧ x.ty = n.ty ∧ x.fr = n.fr ∧ x.tt = n.tt ∧ x.pv = .slice none 0 0 ∧ n.ps = []) :
    GAt T (w2.setCell ⟨p, 1, none⟩ (.slice (some ⟨gg, 0, none⟩) (fe.length + 1) cap)) p ⟨g.N, g.E ++ [n], nx⟩ nv (.slice (some ⟨gg, 0, none⟩) (fe.length + 1) cap) fn (fe ++ [x]) ∧
      Keep (foot p nv ev) w (w2.setCell ⟨p, 1, none⟩ (.slice (some ⟨gg, 0, none⟩) (fe.length + 1) cap)) ∧ (∀ k, k ∈ foot p nv (.slice (some ⟨gg, 0, none⟩) (fe.length + 1) cap) → k ∈ foot p nv ev ∨ w.heap.size ≤ k) := by
  have b1 := (h.n.keep HK (fun _ _ => by simp)).keep R2 (not_foot1 ((h.n.keep HK (fun _ _ => by simp)).ne_blk (h.blk.keep HK (by simp)) (Ne.symm hT.2.1)))
  have b2 := (h.e.keep HK (fun _ _ => by simp)).keep R2 (not_foot1 ((h.e.keep HK (fun _ _ => by simp)).ne_blk (h.blk.keep HK (by simp)) (Ne.symm hT.2.2)))
  have kf : Keep (foot p nv ev) w w1 := (HK.mono (fun k hk => by simp at hk)).trans R2 (fun k hk => by simp at hk; subst hk; exact .inl (mem_foot.2 (.inl rfl)))
  have k2 : Keep (foot p nv ev) w w2 := (kf.alloc X).drew.grown hgrow (fun k e => .inr ⟨mem_foot.2 (.inr (.inr e)), by obtain ⟨c, hc⟩ := h.e.typed k e; exact ⟨c, _, hc, by decide⟩⟩)
  have r2 : Blk w2 p T #[nv, ev, .int .i64 nx] := (R1.alloc X).drew.grown hgrow (((b2.alloc X).drew).ne_blk ((R1.alloc X).drew) (Ne.symm hT.2.2))
  have n2 := ((b1.alloc X).drew).grow_ne ((b2.alloc X).drew) (by decide) hgrow
  have e2 : Row w2 115 5 encE (.slice (some ⟨gg, 0, none⟩) (fe.length + 1) cap) (fe ++ [x]) := by
    unfold Row
    rw [List.length_append, List.length_singleton, List.flatMap_append]
    simpa using hown
  have k3 := k2.setBlk (i := 1) (v := .slice (some ⟨gg, 0, none⟩) (fe.length + 1) cap) h.blk hT.1 (mem_foot.2 (.inl rfl))
  obtain ⟨v1, v2⟩ := keep_views k3 h.vn h.ve
  refine ⟨⟨r2.set 1 _, n2.set_blk r2 (Ne.symm hT.2.1) 1, e2.set_blk r2 (Ne.symm hT.2.2) 1, v1, v2.append (.one ⟨hx.1, hx.2.1, hx.2.2.1, hx.2.2.2.1, by rw [hx.2.2.2.2.1, hx.2.2.2.2.2]; exact PsAt.nil _⟩)⟩, k3, fun k hk => ?_⟩
  rcases mem_foot.1 hk with rfl | e | e
  · exact .inl (mem_foot.2 (.inl rfl))
  · exact .inl (mem_foot.2 (.inr (.inl e)))
  · simp [Value.ownBlock] at e; subst e
    rcases hat with e | e
    · exact .inl (mem_foot.2 (.inr (.inr e)))
    · right; have := kf.size; omega
set_option maxRecDepth 100000 in
set_option maxHeartbeats 3200000 in
theorem addEdge_c (w : World) (p : Nat) (g : Gr) (nv ev : Value) (fn : List FN) (fe : List FE) (o : Op) (h0 : 0 ≤ g.next) (h1 : g.next < 4611686018427387904) (hl : fe.length ≤ 1000000)
    (h : GAt 106 w p g nv ev fn fe) :
    Calls Tryz.prog 89 #[.pointer (some ⟨p, 0, none⟩), opV o] w fun e w' => e = .returned (.int .i64 g.next) ∧
      ∃ ev', GAt 106 w' p ⟨g.N, g.E ++ [⟨g.next, o.ty, o.fr, o.tt, []⟩], g.next + 1⟩ nv ev' fn (fe ++ [⟨g.next, o.ty, o.fr, o.tt, .slice none 0 0⟩]) ∧ Keep (foot p nv ev) w w' ∧ (∀ k, k ∈ foot p nv ev' → k ∈ foot p nv ev ∨ w.heap.size ≤ k) := by
  obtain ⟨i0, hi0, hz0, hz1, hz2⟩ := info_parts infoE
  have hb := h.blk
  have lp := hb.lt
  have hn := h.e
  have K0 := Keep.alloc0 w (Obj.cells (encO o).toArray 50)
  have HX := Blk.new w (encO o).toArray 50
  have hb1 := hb.keep K0 (by simp)
  have hn1 := hn.keep K0 (by simp)
  unfold encO at *
  have HK := Lib.hid K0; have HX := Lib.hid HX; have HB := Lib.hid hb1; have HN := Lib.hid hn1; clear K0 hb1 hn1
  go_enter Tryz.func89, Tryz.ntmps89
  go_wp2_with fail
  generalize w.alloc _ = W at *
  refine (given_c _ p nv ev g.next h0 h1 HB.out).mono ?_
  rintro e w1 ⟨rfl, r1, r2⟩
  have R1 := Lib.hid r1; have R2 := Lib.hid r2; clear r1 r2
  go_wp2_with fail
  have d0 := R1.out.cell 1
  have e0 := R1.out.free 1
  have X1 := Lib.hid (HX.out.keep R2.out (by simp; omega))
  have d2 := X1.out.cell 2
  have d3 := X1.out.cell 3
  have d4 := X1.out.cell 4
  have hn2 := Lib.hid (HN.out.keep R2.out (not_foot1 (HN.out.ne_blk HB.out (by decide))))
  simp only [List.getElem?_toArray, List.getElem?_cons_succ, List.getElem?_cons_zero] at d0 d2 d3 d4
  have HP := Lib.hid (hn2.out.ne_blk R1.out (by decide))
  have HW := Lib.hid (hn.ne_ge (Nat.le_refl _))
  have l1 := R1.out.lt
  have l2 := X1.out.lt
  have SA : Hid (∀ x, (w1.alloc x).drew.cell? ⟨p, 1, none⟩ = some ev ∧ (w1.alloc x).drew.frozen? ⟨p, 1, none⟩ = false ∧ (w1.alloc x).drew.cell? ⟨w.heap.size, 2, none⟩ = some (.string o.ty) ∧ (w1.alloc x).drew.cell? ⟨w.heap.size, 3, none⟩ = some (.int .i64 o.fr) ∧ (w1.alloc x).drew.cell? ⟨w.heap.size, 4, none⟩ = some (.int .i64 o.tt)) := fun x => ⟨(R1.out.alloc x).drew.cell 1, (R1.out.alloc x).drew.free 1, (X1.out.alloc x).drew.cell 2, (X1.out.alloc x).drew.cell 3, (X1.out.alloc x).drew.cell 4⟩
  have SB : Hid (∀ x w2, (w1.alloc x).drew.grownBy w2 ev.ownBlock → w2.cell? ⟨p, 1, none⟩ = some ev ∧ w2.frozen? ⟨p, 1, none⟩ = false ∧ w2.cell? ⟨w.heap.size, 2, none⟩ = some (.string o.ty) ∧ w2.cell? ⟨w.heap.size, 3, none⟩ = some (.int .i64 o.fr) ∧ w2.cell? ⟨w.heap.size, 4, none⟩ = some (.int .i64 o.tt)) := fun x w2 hg => ⟨((R1.out.alloc x).drew.grown hg HP.out).cell 1, ((R1.out.alloc x).drew.grown hg HP.out).free 1, ((X1.out.alloc x).drew.grown hg HW.out).cell 2, ((X1.out.alloc x).drew.grown hg HW.out).cell 3, ((X1.out.alloc x).drew.grown hg HW.out).cell 4⟩
  obtain ⟨a1, a2, a3, a4, a5⟩ := SA.out (Obj.cells #[.int .i64 g.next, .string o.ty, .int .i64 o.fr, .int .i64 o.tt, .slice none 0 0] 115)
  go_region_law
    ((refine step_append_lies _ (by rfl) _ _ _ (by rfl) 0 115 i0 _ 5 64 Tryz.underlying40 hi0 hz0 hz1 hz2 rfl (by omega) ev fe.length (fe.flatMap encE) (by rfl) ((hn2.out.alloc _).drew)
        ⟨w1.heap.size, 0, none⟩ 1 1 [.int .i64 g.next, .string o.ty, .int .i64 o.fr, .int .i64 o.tt, .slice none 0 0] (by rfl) (by rfl) (World.news_of_block (cs := #[.int .i64 g.next, .string o.ty, .int .i64 o.fr, .int .i64 o.tt, .slice none 0 0]) (t := 115) (fr := (0, 0)) (heap_alloc_new w1 _)) (by simp [Value.oneCell'])
        (by omega) (by unfold maxLen; omega) (by omega) (by simp) (w1.heap.size + 1) (by simp) ?_; intro gg cap w2 hown1 hgrow hat hlt; obtain ⟨q0, q1, q2, q3, q4⟩ := SB.out _ _ hgrow))
  all_goals
    have D := Lib.hid (addE_done (x := ⟨g.next, o.ty, o.fr, o.tt, .slice none 0 0⟩) (n := ⟨g.next, o.ty, o.fr, o.tt, []⟩) h (by decide) HK.out R1.out R2.out hgrow hown1 hat ⟨rfl, rfl, rfl, rfl, rfl, rfl⟩)
    go_wp2
    go_ret
    exact ⟨by simp, _, D.out⟩
end Go.Proofs.Hg
namespace Go.Proofs.Hg
open Go Go.RowKit Go.Proofs Go.Shelf
/-- Where the properties of an Id lie: in a node's cell, in an edge's, nowhere. -/
def PropPtr (g : Gr) (nv ev : Value) (fn : List FN) (fe : List FE) (id : Int) (v : Option Addr) : Prop :=
  (hasN g id = true ∧ ∃ (i b n c : Nat) (_ : i < fn.length), nv = .slice (some ⟨b, 0, none⟩) n c ∧ fn[i].id = id ∧ v = some ⟨b, i * 3 + 2, none⟩) ∨
  (hasN g id = false ∧ hasE g id = true ∧ ∃ (i b n c : Nat) (_ : i < fe.length), ev = .slice (some ⟨b, 0, none⟩) n c ∧ fe[i].id = id ∧ v = some ⟨b, i * 5 + 4, none⟩) ∨
  (hasN g id = false ∧ hasE g id = false ∧ v = none)
set_option maxRecDepth 100000 in
set_option maxHeartbeats 1600000 in
theorem props_c (w : World) (p : Nat) (g : Gr) (nv ev : Value) (fn : List FN) (fe : List FE) (id : Int) (hi : GInv g) (h : GAt 106 w p g nv ev fn fe) :
    Calls Tryz.prog 115 #[.pointer (some ⟨p, 0, none⟩), .int .i64 id] w fun e w' => ∃ v, e = .returned (.pointer v) ∧ PropPtr g nv ev fn fe id v ∧ Keep [] w w' := by
  have HN : Hid (∀ W, Keep [] w W → GAt 106 W p g nv ev fn fe) := fun W hk => h.keep hk (fun _ _ hm => by simp at hm)
  have HI := Lib.hid hi
  have lf := hi.lenN
  have lfe := hi.lenE
  rw [← h.vn.length] at lf
  rw [← h.ve.length] at lfe
  clear hi h
  go_enter Tryz.func115, Tryz.ntmps115
  go_wp2_with fail
  refine (node_c w p g nv ev fn fe id HI.out (HN.out w (Keep.refl _ _))).mono ?_
  rintro e w1 ⟨i, rfl, hf, hk1⟩
  have HP := fun v (h : PropPtr g nv ev fn fe id v) => h
  cases hn : hasN g id with
  | true =>
    obtain ⟨hl, hid⟩ := hf hn
    have G1 := HN.out w1 hk1
    obtain ⟨b, cap, cur, hv, h1, h2, _⟩ := G1.n.form (fun _ => rfl) (by omega)
    have c0 := G1.blk.cell 0
    simp only [List.getElem?_toArray, List.getElem?_cons_succ, List.getElem?_cons_zero] at c0
    unfold maxLen at h2
    have HR : Hid (PropPtr g nv ev fn fe id (some ⟨b, i * 3 + 2, none⟩)) := .inl ⟨hn, i, b, _, _, hl, hv, hid, rfl⟩
    subst hv
    clear G1 hf hn hid HP
    go_wp2
    go_ret
    exact ⟨_, rfl, HR.out, hk1⟩
  | false =>
    have Hn := Lib.hid hn
    clear hn hf HP
    go_wp2_with fail
    refine (edge_c w1 p g nv ev fn fe id HI.out (HN.out w1 hk1)).mono ?_
    rintro e w2 ⟨i, rfl, hf, hk2⟩
    have hk2 := hk1.trans0 hk2
    cases he : hasE g id with
    | true =>
      obtain ⟨hl, hid⟩ := hf he
      have G1 := HN.out w2 hk2
      obtain ⟨b, cap, cur, hv, h1, h2, _⟩ := G1.e.form (fun _ => rfl) (by omega)
      have c0 := G1.blk.cell 1
      simp only [List.getElem?_toArray, List.getElem?_cons_succ, List.getElem?_cons_zero] at c0
      unfold maxLen at h2
      have HR : Hid (PropPtr g nv ev fn fe id (some ⟨b, i * 5 + 4, none⟩)) := .inr (.inl ⟨Hn.out, he, i, b, _, _, hl, hv, hid, rfl⟩)
      subst hv
      clear G1 hf he hid
      go_wp2
      go_ret
      exact ⟨_, rfl, HR.out, hk2⟩
    | false =>
      have HR : Hid (PropPtr g nv ev fn fe id none) := .inr (.inr ⟨Hn.out, he, rfl⟩)
      clear he hf
      go_wp2
      go_ret
      exact ⟨_, rfl, HR.out, hk2⟩
/-! ## Properties -/
abbrev fpV (x : Prp) : Value := .agg #[.string x.name, .int .i64 x.v.k, .int .i64 x.v.n, .string x.v.s]
theorem rowP_at {w : World} {g n cap : Nat} {ps : List Prp} (h : PsAt w (.slice (some ⟨g, 0, none⟩) n cap) ps) (i : Nat) (hi : i < ps.length) :
    w.cell? ⟨g, i * 4, none⟩ = some (.string ps[i].name) ∧ w.cell? ⟨g, i * 4 + 1, none⟩ = some (.int .i64 ps[i].v.k) ∧ w.cell? ⟨g, i * 4 + 2, none⟩ = some (.int .i64 ps[i].v.n) ∧ w.cell? ⟨g, i * 4 + 3, none⟩ = some (.string ps[i].v.s) := by
  obtain ⟨g', cap', cur, hv, _, _, _, _, _, hc⟩ := Row.form (enc := encP) h (fun _ => rfl) (by omega)
  injection hv with hv _ _
  injection hv with hv
  injection hv with hv
  subst hv
  exact ⟨hc i hi 0 (by omega), hc i hi 1 (by omega), hc i hi 2 (by omega), hc i hi 3 (by omega)⟩
theorem set1_c (x : Prp) (b : Nat) (s : ByteArray) (w : World) (hc : w.cell? ⟨b, 0, none⟩ = some (.string s)) :
    Calls Tryz.prog 141 #[fpV x, .pointer (some ⟨b, 0, none⟩)] w fun e w' => e = .returned (.bool (!(Op.bytesLess x.name.toList s.toList))) ∧ Keep [] w w' := by
  have d0 := (Blk.new w #[Value.string x.name, .int .i64 x.v.k, .int .i64 x.v.n, .string x.v.s] 135).cell 0
  have d1 : (w.alloc (Obj.cells #[Value.string x.name, .int .i64 x.v.k, .int .i64 x.v.n, .string x.v.s] 135)).cell? ⟨b, 0, none⟩ = some (.string s) := by rw [World.cell?_alloc_lt _ _ _ (World.block_lt_of_cell? w _ hc)]; exact hc
  go_enter Tryz.func141, Tryz.ntmps141
  go_wp2
  go_ret
  exact ⟨rfl, Keep.alloc0 _ _⟩
end Go.Proofs.Hg
namespace Go.Proofs.Hg
open Go Go.RowKit Go.Proofs Go.Shelf
def neS (a b : ByteArray) : Bool := !(a.toList == b.toList)
def geS (a b : ByteArray) : Bool := !(Op.bytesLess a.toList b.toList)
def filtP (ps : List Prp) (s : ByteArray) : List Prp := ps.filter fun p => neS p.name s
def setP (ps : List Prp) (s : ByteArray) (v : Val) : List Prp :=
  if v.k = 0 then filtP ps s else (filtP ps s).takeWhile (fun p => !(geS p.name s)) ++ [⟨s, v⟩] ++ (filtP ps s).dropWhile (fun p => !(geS p.name s))
theorem filtP_take (ps : List Prp) (s : ByteArray) (k : Nat) (hk : k < ps.length) : filtP (ps.take (k + 1)) s = filtP (ps.take k) s ++ (if neS ps[k].name s = true then [ps[k]] else []) := by
  unfold filtP
  rw [List.take_add_one, List.getElem?_eq_getElem hk, List.filter_append]
  congr 1
  simp only [Option.toList]
  by_cases h : neS ps[k].name s = true
  · rw [if_pos h]; simp [h]
  · rw [if_neg h]; simp [h]
theorem takeWhile_all {α : Type} {p : α → Bool} : ∀ {l : List α}, (∀ x ∈ l, p x = true) → l.takeWhile p = l
  | [], _ => rfl
  | a :: l, h => by rw [List.takeWhile_cons_of_pos (h a (by simp)), takeWhile_all fun x hx => h x (by simp [hx])]
theorem filtP_len (ps : List Prp) (s : ByteArray) : (filtP ps s).length ≤ ps.length := List.length_filter_le _ _
/-- A list of properties laid anew behind a world. -/
def Fresh (W wr : World) (v : Value) (xs : List Prp) : Prop := Keep [] W wr ∧ PsAt wr v xs ∧ ∀ k, v.ownBlock = some k → W.heap.size ≤ k
theorem Fresh.nil (W : World) : Fresh W W (.slice none 0 0) [] := ⟨Keep.refl _ _, PsAt.nil _, fun k h => by simp [Value.ownBlock] at h⟩
theorem Fresh.alloc {W wr : World} {v : Value} {xs : List Prp} (h : Fresh W wr v xs) (o : Obj) : Fresh W (wr.alloc o) v xs := ⟨h.1.alloc o, h.2.1.keep (Keep.alloc0 wr o), h.2.2⟩
theorem Fresh.keep {W wr w2 : World} {v : Value} {xs : List Prp} (h : Fresh W wr v xs) (hk : Keep [] wr w2) : Fresh W w2 v xs := ⟨h.1.trans0 hk, h.2.1.keep hk, h.2.2⟩
theorem Fresh.app {W wr w2 : World} {v : Value} {xs : List Prp} (h : Fresh W wr v xs) {gg cap H : Nat} {x : Prp} (hown : w2.ownsRow 0 135 4 (.slice (some ⟨gg, 0, none⟩) (xs.length + 1) cap) (xs.length + 1) (xs.flatMap encP ++ encP x)) (hg : wr.grownBy w2 v.ownBlock) (hat : v.ownBlock = some gg ∨ gg = H) (hH : W.heap.size ≤ H) :
    Fresh W w2 (.slice (some ⟨gg, 0, none⟩) (xs.length + 1) cap) (xs ++ [x]) := by
  refine ⟨h.1.grown hg (fun k e => .inl (h.2.2 k e)), ?_, fun k e => ?_⟩
  · unfold PsAt
    rw [List.length_append, List.length_singleton, List.flatMap_append]
    simpa using hown
  · simp [Value.ownBlock] at e; subst e
    rcases hat with e | rfl
    · exact h.2.2 _ e
    · exact hH
set_option maxRecDepth 100000 in
set_option maxHeartbeats 3200000 in
theorem idxP_c (w : World) (pv : Value) (ps : List Prp) (b : Nat) (s : ByteArray) (hs : w.cell? ⟨b, 0, none⟩ = some (.string s)) (h : PsAt w pv ps) :
    Calls Tryz.prog 140 #[pv, .func (.func 141) #[] #[.pointer (some ⟨b, 0, none⟩)]] w fun e w' => ∃ i : Int, e = .returned (.int .i64 i) ∧
      ((i = -1 ∧ ps.takeWhile (fun p => !(geS p.name s)) = ps) ∨ (i = (ps.takeWhile (fun p => !(geS p.name s))).length ∧ (ps.takeWhile (fun p => !(geS p.name s))).length < ps.length)) ∧ Keep [] w w' := by
  obtain ⟨A, cap, hv, hc, hm⟩ := Row.slice (enc := encP) (sz := 4) h
  unfold maxLen at hm
  subst hv
  have HS := Lib.hid hs
  go_enter Tryz.func140, Tryz.ntmps140
  go_wp2
  go_loopw [8] (fun i wr => ∃ k : Nat, k ≤ ps.length ∧ i = .int .i64 k ∧ Hid (Keep [] w wr) ∧ Hid (∀ j (hj : j < ps.length), j < k → geS ps[j].name s = false)) (fun i _ => ps.length - (intOf i).toNat)
  case atStart => exact ⟨0, by omega, rfl, Keep.refl _ _, fun j _ hj => by omega⟩
  case round =>
    obtain ⟨k, hk, rfl, hK, hr⟩ := hrel
    by_cases hlt : k < ps.length
    · obtain ⟨g, rfl⟩ := row_ptr (enc := encP) (sz := 4) h (by omega)
      have hrr := h.keep hK.out
      obtain ⟨c0, c1, c2, c3⟩ := rowP_at hrr k hlt
      have hs1 := (hK.out.cell (World.block_lt_of_cell? w _ hs) (by simp)).trans hs
      go_wp2_with fail
      refine (set1_c ps[k] b s _ hs1).mono ?_
      rintro e w' ⟨rfl, hk2⟩
      have hk3 := hK.out.trans0 hk2
      clear c0 c1 c2 c3 hs1
      cases hq : geS ps[k].name s with
      | true =>
        have E := Lib.hid (show ps.takeWhile (fun p => !(geS p.name s)) = ps.take k from by
          rw [List.takeWhile_eq_take_findIdx_not]
          congr 1
          rw [List.findIdx_eq hlt]
          exact ⟨by simp [hq], fun j hj => by simp [hr.out j (by omega) hj]⟩)
        have hq' : geS ps[k].name s = true := hq
        unfold geS at hq
        clear hr
        go_wp2
        go_ret
        exact ⟨k, rfl, .inr (by rw [E.out, List.length_take]; omega), hk3⟩
      | false =>
        have HR : Hid (∀ j (hj : j < ps.length), j < k + 1 → geS ps[j].name s = false) := fun j hj hjk => by
          by_cases e : j = k
          · subst e; exact hq
          · exact hr.out j hj (by omega)
        unfold geS at hq
        go_wp2
        exact ⟨⟨k + 1, by omega, by go_num, hk3, HR⟩, by simp [intOf]; omega⟩
    · have E := Lib.hid (show ps.takeWhile (fun p => !(geS p.name s)) = ps from by
        refine takeWhile_all fun x hx => ?_
        obtain ⟨j, hj, rfl⟩ := List.getElem_of_mem hx
        rw [hr.out j hj (by omega)]; rfl)
      go_wp2
      go_ret
      exact ⟨-1, rfl, .inl ⟨rfl, E.out⟩, hK.out⟩
end Go.Proofs.Hg
namespace Go.Proofs.Hg
open Go Go.RowKit Go.Proofs Go.Shelf
/-! ## Rows of several cells an element: copy, clear -/
def layAt (cs : Array Value) (o : Nat) (vs : List Value) : Array Value := (cs.toList.take o ++ vs ++ cs.toList.drop (o + vs.length)).toArray
theorem layAt_size (cs : Array Value) (o : Nat) (vs : List Value) (h : o + vs.length ≤ cs.size) : (layAt cs o vs).size = cs.size := by unfold layAt; simp; omega
theorem Blk.setCells {p T : Nat} : ∀ (vs : List Value) (o : Nat) (cs : Array Value) (w : World), Blk w p T cs → o + vs.length ≤ cs.size → Blk (w.setCells p o vs) p T (layAt cs o vs)
  | [], o, cs, w, h, _ => by
    have e : layAt cs o [] = cs := by unfold layAt; simp
    rw [e]; exact h
  | v :: r, o, cs, w, h, hl => by
    have ih := Blk.setCells r (o + 1) (cs.setIfInBounds o v) (w.setCell ⟨p, o, none⟩ v) (h.set o v) (by simp at hl ⊢; omega)
    have e : layAt (cs.setIfInBounds o v) (o + 1) r = layAt cs o (v :: r) := by
      unfold layAt
      congr 1
      have e := list_seg_step cs.toList o v r (by simp at hl ⊢; omega)
      simpa [Array.toList_setIfInBounds] using e
    rw [e] at ih
    exact ih
theorem grownBy_trans {w w1 w2 : World} {r : Option Nat} (h : w.grownBy w1 r) (h1 : w1.grownBy w2 r) : w.grownBy w2 r :=
  ⟨h1.os.trans h.os, h1.tape.trans h.tape, h1.output.trans h.output, Nat.le_trans h.size h1.size, fun k hk hn => (h1.block k (Nat.lt_of_lt_of_le hk h.size) hn).trans (h.block k hk hn)⟩
theorem grownBy_setCells (p : Nat) : ∀ (vs : List Value) (o : Nat) (w : World), w.grownBy (w.setCells p o vs) (some p)
  | [], _, w => World.grownBy.refl w _
  | v :: r, o, w => grownBy_trans (Keep.grownBy_setCell w ⟨p, o, none⟩ v) (grownBy_setCells p r (o + 1) _)
variable {P : Program}
theorem run_copy_blk (w : World) (dT sT ty elem : TypeId) (k b o dLen dCap : Nat) (a : Addr) (sLen sCap : Nat) (cs : List Value) (T : Nat) (cur : Array Value)
    (hu : P.underlying dT = some (.slice elem)) (hs : (P.info? elem).map (·.size) = some k) (hn : cs.length = Nat.min sLen dLen * k) (hb : Blk w b T cur)
    (hsrc : ∀ j v, cs[j]? = some v → w.cell? (a.add j) = some v) (hfit : o + cs.length ≤ cur.size) (h1 : ∀ v ∈ cs, v.oneCell' = true) :
    ∃ w', (Builtin.copy_ #[dT, sT] ty #[.slice (some ⟨b, o, none⟩) dLen dCap, .slice (some a) sLen sCap]).run P w = .ok (goInt (Nat.min sLen dLen)) w' ∧ Blk w' b T (layAt cur o cs) ∧ w.grownBy w' (some b) := by
  have hl := run_loadCells_list (P := P) w a cs hsrc
  have hst := run_storeCells_cells (P := P) b o cs 0 w (fun j hj => by
    rw [Nat.add_zero, hb.cell, Array.getElem?_eq_getElem (by omega)]; rfl) (fun j hj => hb.free _) h1
  refine ⟨w.setCells b o cs, ?_, hb.setCells _ _ _ _ hfit, grownBy_setCells _ _ _ _⟩
  cases hq : P.info? elem with
  | none => simp [hq] at hs
  | some i =>
    have hi : i.size = k := by simpa [hq] using hs
    simp [Builtin.copy_, run_underlying hu, Builtin.lenOf, Builtin.firstCells, sizeOf, typeInfo, hq, hi, ← hn, hl, hst]
theorem wpList_copy_blk {w : World} {ops : Array Oper} {rest : List Oper} {o : Oper} {a : Act} {Q : Exit → Act → World → Prop} (hgd : o.guard = none) (d s : Operand) (t t' : TypeId)
    (ho : o.op = .call { callee := .builtin .copy, args := #[d, s], argTypes := #[t, t'] }) (elem : TypeId) (k b of dLen dCap : Nat) (ad : Addr) (sLen sCap : Nat) (cs : List Value) (T : Nat) (cur : Array Value)
    (hd : a.eval d = .slice (some ⟨b, of, none⟩) dLen dCap) (hs : a.eval s = .slice (some ad) sLen sCap)
    (hu : P.underlying t = some (.slice elem)) (hz : (P.info? elem).map (·.size) = some k) (hn : cs.length = Nat.min sLen dLen * k) (hb : Blk w b T cur)
    (hsrc : ∀ j v, cs[j]? = some v → w.cell? (ad.add j) = some v) (hfit : of + cs.length ≤ cur.size) (h1 : ∀ v ∈ cs, v.oneCell' = true)
    (hK : ∀ w', Blk w' b T (layAt cur of cs) → w.grownBy w' (some b) → wpList P ops Q rest (a.put o.dst (goInt (Nat.min sLen dLen))) w') : wpList P ops Q (o :: rest) a w := by
  obtain ⟨w', hr, h2, h3⟩ := run_copy_blk (P := P) w t t' o.type elem k b of dLen dCap ad sLen sCap cs T cur hu hz hn hb hsrc hfit h1
  exact wpList_copy_runI w hgd d s t t' ho _ _ hd hs hr (hK w' h2 h3)
theorem step_copy_blk {w : World} {ops : Array Oper} {o : Oper} {a : Act} {K : Act → World → Prop} {Q : Exit → Act → World → Prop} {E : Prop} (hgd : o.guard = none) (d s : Operand) (t t' : TypeId)
    (ho : o.op = .call { callee := .builtin .copy, args := #[d, s], argTypes := #[t, t'] }) (elem : TypeId) (k b of dLen dCap : Nat) (ad : Addr) (sLen sCap : Nat) (cs : List Value) (T : Nat) (cur : Array Value)
    (hd : a.eval d = .slice (some ⟨b, of, none⟩) dLen dCap) (hs : a.eval s = .slice (some ad) sLen sCap)
    (hu : P.underlying t = some (.slice elem)) (hz : (P.info? elem).map (·.size) = some k) (hn : cs.length = Nat.min sLen dLen * k) (hb : Blk w b T cur)
    (hsrc : ∀ j v, cs[j]? = some v → w.cell? (ad.add j) = some v) (hfit : of + cs.length ≤ cur.size) (h1 : ∀ v ∈ cs, v.oneCell' = true)
    (hK : ∀ w', Blk w' b T (layAt cur of cs) → w.grownBy w' (some b) → K (a.put o.dst (goInt (Nat.min sLen dLen))) w') : if Region.wanted o (yielded ops a.tmps) = true then Oper.wp P o a w K Q else E := by
  obtain ⟨w', hr, h2, h3⟩ := run_copy_blk (P := P) w t t' o.type elem k b of dLen dCap ad sLen sCap cs T cur hu hz hn hb hsrc hfit h1
  exact step_copy_runI hgd d s t t' ho _ _ hd hs hr (hK w' h2 h3)
theorem run_clear_blk (w : World) (t e ty : TypeId) (k : Nat) (z : Value) (ht : P.underlying t = some (.slice e)) (hv : ∀ w, (zeroValue e).run P w = .ok z w) (hz : z.cells.size = k) (h1 : ∀ u ∈ z.cells.toList, u.oneCell' = true) (b o n c T : Nat) (cur : Array Value) (hn : 0 < n) (hk : 0 < k)
    (hb : Blk w b T cur) (hfit : o + n * k ≤ cur.size) :
    ∃ w' zs, zs.length = n * k ∧ (Builtin.clear_ #[t] ty #[.slice (some ⟨b, o, none⟩) n c]).run P w = .ok (.tuple #[]) w' ∧ Blk w' b T (layAt cur o zs) ∧ w.grownBy w' (some b) := by
  have hlen : (Builtin.zeroCells z.cells n).toList.length = n * k := by simp [Builtin.zeroCells, hz]
  have hone : ∀ v ∈ (Builtin.zeroCells z.cells n).toList, v.oneCell' = true := by
    intro v hv'
    have hp : 0 < z.cells.size := by omega
    simp only [Builtin.zeroCells, Array.toList_map, List.mem_map] at hv'
    obtain ⟨i, _, rfl⟩ := hv'
    refine h1 _ ?_
    rw [getElem!_pos z.cells (i % z.cells.size) (Nat.mod_lt _ hp)]
    simp
  have hst := run_storeCells_cells (P := P) b o (Builtin.zeroCells z.cells n).toList 0 w (fun j hj => by
    rw [Nat.add_zero, hb.cell, Array.getElem?_eq_getElem (by omega)]; rfl) (fun j hj => hb.free _) hone
  refine ⟨_, (Builtin.zeroCells z.cells n).toList, hlen, ?_, hb.setCells _ _ _ _ (by omega), grownBy_setCells _ _ _ _⟩
  simp only [Nat.add_zero] at hst
  obtain ⟨m, rfl⟩ : ∃ m, n = m + 1 := ⟨n - 1, by omega⟩
  simp [Builtin.clear_, run_underlying ht, hv, hst]
theorem wpList_clear_blk {w : World} {ops : Array Oper} {rest : List Oper} {o : Oper} {a : Act} {Q : Exit → Act → World → Prop} (hgd : o.guard = none) (s : Operand) (t : TypeId)
    (ho : o.op = .call { callee := .builtin .clear, args := #[s], argTypes := #[t] }) (e : TypeId) (k : Nat) (z : Value) (b of n c T : Nat) (cur : Array Value) (hs : a.eval s = .slice (some ⟨b, of, none⟩) n c)
    (ht : P.underlying t = some (.slice e)) (hv : ∀ w, (zeroValue e).run P w = .ok z w) (hz : z.cells.size = k) (h1 : ∀ u ∈ z.cells.toList, u.oneCell' = true) (hn : 0 < n) (hk : 0 < k)
    (hb : Blk w b T cur) (hfit : of + n * k ≤ cur.size)
    (hK : ∀ w' zs, zs.length = n * k → Blk w' b T (layAt cur of zs) → w.grownBy w' (some b) → wpList P ops Q rest (a.put o.dst (.tuple #[])) w') : wpList P ops Q (o :: rest) a w := by
  obtain ⟨w', zs, h0, hr, h2, h3⟩ := run_clear_blk (P := P) w t e o.type k z ht hv hz h1 b of n c T cur hn hk hb hfit
  refine wpList_plain hgd fun K hK' => ?_
  unfold Oper.wp execOp
  simp only [ho, resolve, invoke, builtin, Sem.run_bind, Sem.run_pure, Result.andThen_ok, List.map_toArray, List.map_cons, List.map_nil, hs, hr]
  exact hK' _ _ (hK w' zs h0 h2 h3)
end Go.Proofs.Hg
namespace Go.Proofs.Hg
open Go Go.RowKit Go.Proofs Go.Shelf
variable {P : Program}
theorem step_append_blk {w : World} {ops : Array Oper} {o : Oper} {a : Act} {K : Act → World → Prop} {Q : Exit → Act → World → Prop} {E : Prop} (hgd : o.guard = none) (s x : Operand) (t : TypeId)
    (ho : o.op = .call { callee := .builtin .append, args := #[s, x], argTypes := #[t, t] }) (e : TypeId) (k g n cap : Nat) (ad : Addr) (m c : Nat) (cs : List Value) (cur : Array Value)
    (hs : a.eval s = .slice (some ⟨g, 0, none⟩) n cap) (hx : a.eval x = .slice (some ad) m c)
    (ht : P.underlying t = some (.slice e)) (hz : (P.info? e).map (·.size) = some k) (hl : cs.length = m * k) (hb : Blk w g e cur)
    (hsrc : ∀ j v, cs[j]? = some v → w.cell? (ad.add j) = some v) (hroom : n + m ≤ cap) (hfit : n * k + cs.length ≤ cur.size) (h1 : ∀ v ∈ cs, v.oneCell' = true)
    (hK : ∀ w', Blk w' g e (layAt cur (n * k) cs) → w.grownBy w' (some g) → K (a.put o.dst (.slice (some ⟨g, 0, none⟩) (n + m) cap)) w') : if Region.wanted o (yielded ops a.tmps) = true then Oper.wp P o a w K Q else E := by
  have hw : Region.wanted o (yielded ops a.tmps) = true := by simp [Region.wanted, hgd]
  rw [if_pos hw]
  cases hq : P.info? e with
  | none => simp [hq] at hz
  | some i =>
    have hi : i.size = k := by simpa [hq] using hz
    subst hi
    have hr := run_append_room (P := P) w t o.type e i ht hq g n cap cur hb ad m c cs hl hsrc h1 hroom hfit
    unfold Oper.wp
    simp [execOp, ho, resolve, invoke, builtin, hs, hx, hr, Result.andThen]
    refine hK _ ?_ ?_
    · have := setRow_heap w g cur (layAt cur (n * i.size) cs) _ _ hb
      unfold layAt at this ⊢
      simpa [Blk] using this
    · exact ⟨rfl, rfl, rfl, by simp, fun k _ hk => setRow_other w g k _ (fun e => hk (by simp [e]))⟩
theorem flat_take {α : Type} {enc : α → List Value} {k : Nat} (hk : ∀ x, (enc x).length = k) : ∀ (xs : List α) (i : Nat), (xs.take i).flatMap enc = (xs.flatMap enc).take (i * k)
  | [], i => by simp
  | a :: l, 0 => by simp
  | a :: l, i + 1 => by
    rw [List.take_succ_cons, List.flatMap_cons, List.flatMap_cons, flat_take hk l i, Nat.succ_mul, Nat.add_comm (i * k) k, ← hk a, List.take_length_add_append]
theorem flat_drop {α : Type} {enc : α → List Value} {k : Nat} (hk : ∀ x, (enc x).length = k) : ∀ (xs : List α) (i : Nat), (xs.drop i).flatMap enc = (xs.flatMap enc).drop (i * k)
  | [], i => by simp
  | a :: l, 0 => by simp
  | a :: l, i + 1 => by
    rw [List.drop_succ_cons, List.flatMap_cons, flat_drop hk l i, Nat.succ_mul, Nat.add_comm (i * k) k, ← hk a, List.drop_length_add_append]
theorem flat_erase {α : Type} {enc : α → List Value} {k : Nat} (hk : ∀ x, (enc x).length = k) (xs : List α) (i : Nat) : (xs.eraseIdx i).flatMap enc = (xs.flatMap enc).take (i * k) ++ (xs.flatMap enc).drop ((i + 1) * k) := by
  rw [List.eraseIdx_eq_take_drop_succ, List.flatMap_append, flat_take hk, flat_drop hk]
theorem src_drop {w : World} {g T : Nat} {cur : Array Value} (hb : Blk w g T cur) {q : Nat} {L : List Value} (htk : cur.toList.take q = L) (m : Nat) : ∀ j v, (L.drop m)[j]? = some v → w.cell? ((⟨g, m, none⟩ : Addr).add j) = some v := fun j v hj => by
  rw [Addr.add_lit, hb.cell]
  rw [List.getElem?_drop, ← htk, List.getElem?_take] at hj
  split at hj
  · simpa using hj
  · cases hj
theorem row_of {w : World} {T k g cap : Nat} {α : Type} {enc : α → List Value} {xs : List α} {cur : Array Value} {n : Nat} (hn : n = xs.length) (hb : Blk w g T cur) (hs : cur.size = cap * k) (h1 : n ≤ cap) (h2 : cap ≤ maxLen) (ht : cur.toList.take (n * k) = xs.flatMap enc) (hk : ∀ x, (enc x).length = k) : Row w T k enc (.slice (some ⟨g, 0, none⟩) n cap) xs := by
  subst hn
  exact ⟨flat_length hk xs, .inr ⟨g, cap, cur, rfl, Nat.zero_le _, hb, h1, h2, hs, ht⟩⟩
theorem layAt_take_le (cs : Array Value) (o : Nat) (vs : List Value) (n : Nat) (h : n ≤ o) (ho : o ≤ cs.size) : (layAt cs o vs).toList.take n = cs.toList.take n := by
  unfold layAt
  simp only [List.toList_toArray, List.append_assoc]
  rw [List.take_append_of_le_length (by simp; omega), List.take_take, Nat.min_eq_left h]
theorem layAt_take_all (cs : Array Value) (o : Nat) (vs : List Value) (n : Nat) (hn : n = o + vs.length) (ho : o ≤ cs.size) : (layAt cs o vs).toList.take n = cs.toList.take o ++ vs := by
  unfold layAt
  subst hn
  simp only [List.toList_toArray]
  rw [List.take_append_of_le_length (by simp; omega), List.take_of_length_le (by simp; omega)]
def oneV : Value → Bool := Value.oneCell'
end Go.Proofs.Hg
namespace Go.Proofs.Hg
open Go Go.RowKit Go.Proofs Go.Shelf
set_option maxRecDepth 100000 in
set_option maxHeartbeats 3200000 in
theorem delN_c (w : World) (nv : Value) (fn : List FN) (i : Nat) (hi : i < fn.length) (hl : fn.length ≤ 1000000) (h1c : ∀ v ∈ fn.flatMap encN, v.oneCell' = true) (h : Row w 113 3 encN nv fn) :
    Calls Tryz.prog 110 #[nv, .int .i64 i, .int .i64 (i + 1)] w fun e w' => ∃ v', e = .returned v' ∧ Row w' 113 3 encN v' (fn.eraseIdx i) ∧ v'.ownBlock = nv.ownBlock ∧ w.grownBy w' nv.ownBlock := by
  obtain ⟨g, cap, cur, hv, h1, h2, hb, hs, htk, _⟩ := h.form (fun _ => rfl) (by omega)
  subst hv
  have hlen := flat_length (enc := encN) (k := 3) (fun _ => rfl) fn
  have he := flat_erase (enc := encN) (k := 3) (fun _ => rfl) fn i
  obtain ⟨L, hL⟩ : ∃ L, L = fn.flatMap encN := ⟨_, rfl⟩
  rw [← hL] at hlen htk h1c he
  clear hL
  have HB := Lib.hid hb
  have HT := Lib.hid htk
  have H1 := Lib.hid h1c
  have HM := Lib.hid h2
  have HE := Lib.hid he
  have HL := Lib.hid hlen
  unfold maxLen at h2
  have HC : Hid (∀ w1 w2 zs n1, n1 = fn.length - 1 → Blk w1 g 113 (layAt cur (i * 3) (L.drop ((i + 1) * 3))) → w.drew.grownBy w1 (some g) → zs.length = 1 * 3 → Blk w2 g 113 (layAt (layAt cur (i * 3) (L.drop ((i + 1) * 3))) (n1 * 3) zs) → w1.grownBy w2 (some g) →
      Row w2 113 3 encN (.slice (some ⟨g, 0, none⟩) n1 cap) (fn.eraseIdx i) ∧ w.grownBy w2 (some g)) := fun w1 w2 zs n1 hn1 b1 g1 hz b2 g2 => by
    subst hn1
    refine ⟨row_of (by rw [List.length_eraseIdx_of_lt hi]) b2 ?_ (by omega) HM.out ?_ (fun _ => rfl), grownBy_trans ⟨g1.os, g1.tape, g1.output, g1.size, g1.block⟩ g2⟩
    · rw [layAt_size _ _ _ (by rw [layAt_size _ _ _ (by simp; omega)]; omega), layAt_size _ _ _ (by simp; omega)]; exact hs
    · rw [layAt_take_le _ _ _ _ (Nat.le_refl _) (by rw [layAt_size _ _ _ (by simp; omega)]; omega), layAt_take_all _ _ _ _ (by simp; omega) (by omega), HE.out, ← HT.out, List.take_take, Nat.min_eq_left (by omega)]
  have FA : Hid (L.length - (i + 1) * 3 = (fn.length - (i + 1)) * 3) := by show _ = _; omega
  have FB : Hid (i * 3 + (L.drop ((i + 1) * 3)).length ≤ cur.size) := by show _ ≤ _; simp; omega
  have FC : Hid ((L.drop ((i + 1) * 3)).length = (fn.length - (i + 1)) * 3) := by show _ = _; simp; omega
  have a1 : ¬ ((i : Int) = (i : Int) + 1) := by omega
  have a2 : ((i : Int) + 1).toNat = i + 1 := by omega
  have a3 : ¬ (cap = i) := by omega
  have a4 : i ≤ cap := by omega
  have a5 : i + 1 ≤ cap := by omega
  have a6 : i + 1 ≤ fn.length := by omega
  have a7 : (i : Int) ≤ (i : Int) + 1 := by omega
  have a8 : (0 : Int) ≤ (i : Int) + 1 := by omega
  have a9 : ((i : Int) + 1) ≤ (fn.length : Int) := by omega
  have b1 : (i + (fn.length - (i + 1))) = fn.length - 1 := by omega
  have b2 : ¬ (cap = fn.length - 1) := by omega
  have b3 : fn.length - (fn.length - 1) = 1 := by omega
  have b4 : fn.length - 1 ≤ fn.length := by omega
  clear hb htk h h1c he hlen
  obtain ⟨i0, hi0, hz0, hz1, hz2⟩ := info_parts infoN
  have HZ := fun (w1 : World) b o n c T cur hn hb hf => run_clear_blk (P := Tryz.prog) w1 39 113 0 3 (.agg #[.int .i64 0, .string ⟨#[]⟩, .slice none 0 0]) (by rfl) (fun w => by simp [zeroValue, typeInfo, hi0, hz0]) (by rfl) (by intro u hu; simp [Value.cells] at hu; rcases hu with rfl | rfl | rfl | rfl | rfl <;> rfl) b o n c T cur hn (by omega) hb hf
  clear hz0 hz1 hz2 hi0
  by_cases hcc : cap = i + 1
  · subst hcc
    have c1 : fn.length - i = 1 := by omega
    obtain ⟨w2, zs, z1, hr, B2, G2⟩ := HZ w.drew g (i * 3) 1 1 113 cur (by omega) HB.out (by omega)
    have HX := HC.out w.drew w2 zs i (by omega) (by rw [List.drop_eq_nil_of_le (by have := HL.out; omega)]; simpa [layAt] using HB.out.drew) (World.grownBy.refl _ _) z1 (by rw [List.drop_eq_nil_of_le (by have := HL.out; omega)]; simpa [layAt] using B2) G2
    have HX := Lib.hid HX
    go_enter Tryz.func110, Tryz.ntmps110
    go_wp2_with fail
    go_region_law ((refine step_append_blk (by rfl) _ _ _ (by rfl) 113 3 g i _ _ (fn.length - (i + 1)) _ (L.drop ((i + 1) * 3)) cur (by rfl) (by rfl) (by rfl) (by rfl) FC.out (by exact HB.out) (by first | exact src_drop HB.out HT.out _ | exact fun j v hj => absurd (List.getElem?_eq_some_iff.1 hj).1 (by rw [FC.out]; omega)) (by omega) FB.out (fun v hv => H1.out v (List.mem_of_mem_drop hv)) ?_; intro w1 B1 G1))
    go_wp2_with (simp only [hr])
    go_ret
    exact ⟨_, rfl, HX.out.1, rfl, HX.out.2⟩
  · go_enter Tryz.func110, Tryz.ntmps110
    go_wp2_with fail
    go_region_law ((refine step_append_blk (by rfl) _ _ _ (by rfl) 113 3 g i _ _ (fn.length - (i + 1)) _ (L.drop ((i + 1) * 3)) cur (by rfl) (by rfl) (by rfl) (by rfl) FC.out (by exact HB.out) (by first | exact src_drop HB.out HT.out _ | exact fun j v hj => absurd (List.getElem?_eq_some_iff.1 hj).1 (by rw [FC.out]; omega)) (by omega) FB.out (fun v hv => H1.out v (List.mem_of_mem_drop hv)) ?_; intro w1 B1 G1))
    have F1 := G1.size
    obtain ⟨w2, zs, z1, hr, B2, G2⟩ := HZ w1 g ((fn.length - 1) * 3) 1 (cap - (fn.length - 1)) 113 _ (by omega) B1 (by rw [layAt_size _ _ _ FB.out]; omega)
    go_wp2_with (simp only [hr])
    go_ret
    exact ⟨_, rfl, (HC.out w1 w2 zs _ rfl B1 G1 z1 B2 G2).1, rfl, (HC.out w1 w2 zs _ rfl B1 G1 z1 B2 G2).2⟩
end Go.Proofs.Hg
namespace Go.Proofs.Hg
open Go Go.RowKit Go.Proofs Go.Shelf
set_option maxRecDepth 100000 in
set_option maxHeartbeats 3200000 in
theorem delE_c (w : World) (nv : Value) (fn : List FE) (i : Nat) (hi : i < fn.length) (hl : fn.length ≤ 1000000) (h1c : ∀ v ∈ fn.flatMap encE, v.oneCell' = true) (h : Row w 115 5 encE nv fn) :
    Calls Tryz.prog 114 #[nv, .int .i64 i, .int .i64 (i + 1)] w fun e w' => ∃ v', e = .returned v' ∧ Row w' 115 5 encE v' (fn.eraseIdx i) ∧ v'.ownBlock = nv.ownBlock ∧ w.grownBy w' nv.ownBlock := by
  obtain ⟨g, cap, cur, hv, h1, h2, hb, hs, htk, _⟩ := h.form (fun _ => rfl) (by omega)
  subst hv
  have hlen := flat_length (enc := encE) (k := 5) (fun _ => rfl) fn
  have he := flat_erase (enc := encE) (k := 5) (fun _ => rfl) fn i
  obtain ⟨L, hL⟩ : ∃ L, L = fn.flatMap encE := ⟨_, rfl⟩
  rw [← hL] at hlen htk h1c he
  clear hL
  have HB := Lib.hid hb
  have HT := Lib.hid htk
  have H1 := Lib.hid h1c
  have HM := Lib.hid h2
  have HE := Lib.hid he
  have HL := Lib.hid hlen
  unfold maxLen at h2
  have HC : Hid (∀ w1 w2 zs n1, n1 = fn.length - 1 → Blk w1 g 115 (layAt cur (i * 5) (L.drop ((i + 1) * 5))) → w.drew.grownBy w1 (some g) → zs.length = 1 * 5 → Blk w2 g 115 (layAt (layAt cur (i * 5) (L.drop ((i + 1) * 5))) (n1 * 5) zs) → w1.grownBy w2 (some g) →
      Row w2 115 5 encE (.slice (some ⟨g, 0, none⟩) n1 cap) (fn.eraseIdx i) ∧ w.grownBy w2 (some g)) := fun w1 w2 zs n1 hn1 b1 g1 hz b2 g2 => by
    subst hn1
    refine ⟨row_of (by rw [List.length_eraseIdx_of_lt hi]) b2 ?_ (by omega) HM.out ?_ (fun _ => rfl), grownBy_trans ⟨g1.os, g1.tape, g1.output, g1.size, g1.block⟩ g2⟩
    · rw [layAt_size _ _ _ (by rw [layAt_size _ _ _ (by simp; omega)]; omega), layAt_size _ _ _ (by simp; omega)]; exact hs
    · rw [layAt_take_le _ _ _ _ (Nat.le_refl _) (by rw [layAt_size _ _ _ (by simp; omega)]; omega), layAt_take_all _ _ _ _ (by simp; omega) (by omega), HE.out, ← HT.out, List.take_take, Nat.min_eq_left (by omega)]
  have FA : Hid (L.length - (i + 1) * 5 = (fn.length - (i + 1)) * 5) := by show _ = _; omega
  have FB : Hid (i * 5 + (L.drop ((i + 1) * 5)).length ≤ cur.size) := by show _ ≤ _; simp; omega
  have FC : Hid ((L.drop ((i + 1) * 5)).length = (fn.length - (i + 1)) * 5) := by show _ = _; simp; omega
  have a1 : ¬ ((i : Int) = (i : Int) + 1) := by omega
  have a2 : ((i : Int) + 1).toNat = i + 1 := by omega
  have a3 : ¬ (cap = i) := by omega
  have a4 : i ≤ cap := by omega
  have a5 : i + 1 ≤ cap := by omega
  have a6 : i + 1 ≤ fn.length := by omega
  have a7 : (i : Int) ≤ (i : Int) + 1 := by omega
  have a8 : (0 : Int) ≤ (i : Int) + 1 := by omega
  have a9 : ((i : Int) + 1) ≤ (fn.length : Int) := by omega
  have b1 : (i + (fn.length - (i + 1))) = fn.length - 1 := by omega
  have b2 : ¬ (cap = fn.length - 1) := by omega
  have b3 : fn.length - (fn.length - 1) = 1 := by omega
  have b4 : fn.length - 1 ≤ fn.length := by omega
  clear hb htk h h1c he hlen
  obtain ⟨i0, hi0, hz0, hz1, hz2⟩ := info_parts infoE
  have HZ := fun (w1 : World) b o n c T cur hn hb hf => run_clear_blk (P := Tryz.prog) w1 40 115 0 5 (.agg #[.int .i64 0, .string ⟨#[]⟩, .int .i64 0, .int .i64 0, .slice none 0 0]) (by rfl) (fun w => by simp [zeroValue, typeInfo, hi0, hz0]) (by rfl) (by intro u hu; simp [Value.cells] at hu; rcases hu with rfl | rfl | rfl | rfl | rfl <;> rfl) b o n c T cur hn (by omega) hb hf
  clear hz0 hz1 hz2 hi0
  by_cases hcc : cap = i + 1
  · subst hcc
    have c1 : fn.length - i = 1 := by omega
    obtain ⟨w2, zs, z1, hr, B2, G2⟩ := HZ w.drew g (i * 5) 1 1 115 cur (by omega) HB.out (by omega)
    have HX := HC.out w.drew w2 zs i (by omega) (by rw [List.drop_eq_nil_of_le (by have := HL.out; omega)]; simpa [layAt] using HB.out.drew) (World.grownBy.refl _ _) z1 (by rw [List.drop_eq_nil_of_le (by have := HL.out; omega)]; simpa [layAt] using B2) G2
    have HX := Lib.hid HX
    go_enter Tryz.func114, Tryz.ntmps114
    go_wp2_with fail
    go_region_law ((refine step_append_blk (by rfl) _ _ _ (by rfl) 115 5 g i _ _ (fn.length - (i + 1)) _ (L.drop ((i + 1) * 5)) cur (by rfl) (by rfl) (by rfl) (by rfl) FC.out (by exact HB.out) (by first | exact src_drop HB.out HT.out _ | exact fun j v hj => absurd (List.getElem?_eq_some_iff.1 hj).1 (by rw [FC.out]; omega)) (by omega) FB.out (fun v hv => H1.out v (List.mem_of_mem_drop hv)) ?_; intro w1 B1 G1))
    go_wp2_with (simp only [hr])
    go_ret
    exact ⟨_, rfl, HX.out.1, rfl, HX.out.2⟩
  · go_enter Tryz.func114, Tryz.ntmps114
    go_wp2_with fail
    go_region_law ((refine step_append_blk (by rfl) _ _ _ (by rfl) 115 5 g i _ _ (fn.length - (i + 1)) _ (L.drop ((i + 1) * 5)) cur (by rfl) (by rfl) (by rfl) (by rfl) FC.out (by exact HB.out) (by first | exact src_drop HB.out HT.out _ | exact fun j v hj => absurd (List.getElem?_eq_some_iff.1 hj).1 (by rw [FC.out]; omega)) (by omega) FB.out (fun v hv => H1.out v (List.mem_of_mem_drop hv)) ?_; intro w1 B1 G1))
    have F1 := G1.size
    obtain ⟨w2, zs, z1, hr, B2, G2⟩ := HZ w1 g ((fn.length - 1) * 5) 1 (cap - (fn.length - 1)) 115 _ (by omega) B1 (by rw [layAt_size _ _ _ FB.out]; omega)
    go_wp2_with (simp only [hr])
    go_ret
    exact ⟨_, rfl, (HC.out w1 w2 zs _ rfl B1 G1 z1 B2 G2).1, rfl, (HC.out w1 w2 zs _ rfl B1 G1 z1 B2 G2).2⟩
end Go.Proofs.Hg
namespace Go.Proofs.Hg
open Go Go.RowKit Go.Proofs Go.Shelf
theorem layAt_drop (cs : Array Value) (o : Nat) (vs : List Value) (q : Nat) (h : o + vs.length ≤ q) (ho : o ≤ cs.size) : (layAt cs o vs).toList.drop q = cs.toList.drop q := by
  unfold layAt
  simp only [List.toList_toArray]
  rw [List.drop_append, List.drop_eq_nil_of_le (by simp; omega), List.nil_append, List.drop_drop]
  congr 1
  simp
  omega
/-- A predicate over edges, while one's own block is written. -/
def PredF (F : List Nat) (f : Nat) (caps : Array Value) (w : World) (p : FE → Bool) : Prop := ∀ W x, Keep F w W → Calls Tryz.prog f (#[feV x] ++ caps) W fun e w' => e = .returned (.bool (p x)) ∧ Keep [] W w'
set_option maxRecDepth 100000 in
set_option maxHeartbeats 1600000 in
theorem idxE2_c (w : World) (ev : Value) (fe : List FE) (f : Nat) (caps : Array Value) (p : FE → Bool) (F : List Nat) (eg : Enters f) (hp : PredF F f caps w p) (h : Row w 115 5 encE ev fe) :
    Calls Tryz.prog 103 #[ev, .func (.func f) #[] caps] w fun e w' => ∃ i : Int, e = .returned (.int .i64 i) ∧ ((i = -1 ∧ ∀ j (hj : j < fe.length), p fe[j] = false) ∨ ∃ (k : Nat) (hk : k < fe.length), i = k ∧ p fe[k] = true ∧ ∀ j (hj : j < fe.length), j < k → p fe[j] = false) ∧ Keep [] w w' := by
  obtain ⟨A, cap, hv, hc, hm⟩ := h.slice
  unfold maxLen at hm
  subst hv
  have eg' : ∀ args w, Sem.run Tryz.prog (callFunc f args) w = .ok (.enter f args) w := eg
  go_enter Tryz.func103, Tryz.ntmps103
  go_wp2
  go_loopw [8] (fun i wr => ∃ k : Nat, k ≤ fe.length ∧ i = .int .i64 k ∧ Hid (Keep [] w wr) ∧ Hid (∀ j (hj : j < fe.length), j < k → p fe[j] = false)) (fun i _ => fe.length - (intOf i).toNat)
  case atStart => exact ⟨0, by omega, rfl, Keep.refl _ _, fun j _ hj => by omega⟩
  case round =>
    obtain ⟨k, hk, rfl, hK, hr⟩ := hrel
    by_cases hlt : k < fe.length
    · obtain ⟨g, rfl⟩ := row_ptr h (by omega)
      have hrr := h.keep hK.out (fun _ _ => by simp)
      obtain ⟨c0, c1, c2, c3, c4⟩ := rowE_at hrr k hlt
      go_wp2_with fail
      refine (hp _ fe[k] (hK.out.mono (fun _ hm => by simp at hm))).mono ?_
      rintro e w' ⟨rfl, hk2⟩
      have hk2 := hK.out.trans0 hk2
      clear c0 c1 c2 c3 c4
      cases hq : p fe[k] with
      | true =>
        have E := Lib.hid (show ∃ (k' : Nat) (hk : k' < fe.length), (k : Int) = k' ∧ p fe[k'] = true ∧ ∀ j (hj : j < fe.length), j < k' → p fe[j] = false from ⟨k, hlt, rfl, hq, hr.out⟩)
        clear hq
        go_wp2
        go_ret
        exact ⟨k, rfl, .inr E.out, hk2⟩
      | false =>
        have HR : Hid (∀ j (hj : j < fe.length), j < k + 1 → p fe[j] = false) := fun j hj hjk => by
          by_cases e : j = k
          · subst e; exact hq
          · exact hr.out j hj (by omega)
        clear hq
        go_wp2
        exact ⟨⟨k + 1, by omega, by go_num, hk2, HR⟩, by simp [intOf]; omega⟩
    · have E := Lib.hid (show ∀ j (hj : j < fe.length), p fe[j] = false from fun j hj => hr.out j hj (by omega))
      go_wp2
      go_ret
      exact ⟨-1, rfl, .inl ⟨rfl, E.out⟩, hK.out⟩
/-- What lies in the row while it is gone over. -/
structure Mid (w wr : World) (g cap : Nat) (fe : List FE) (p : FE → Bool) (m k : Nat) : Prop where
  blk : ∃ cur, Blk wr g 115 cur ∧ cur.size = cap * 5 ∧ cur.toList.take (m * 5) = ((fe.take k).filter fun x => !(p x)).flatMap encE ∧ (cur.toList.take (fe.length * 5)).drop (k * 5) = (fe.flatMap encE).drop (k * 5)
  grow : Keep [g] w wr
  len : m = ((fe.take k).filter fun x => !(p x)).length
end Go.Proofs.Hg
