/-
  Contracts of the functions that the statement reaches, and plain lemmas on lists, part 1. Conditions: those that each theorem names.
-/
import Derived.Test.YtemhlafdlflilaaGreatDoorHg9
set_option linter.unusedVariables false
set_option linter.unusedSimpArgs false
namespace Go.Proofs.Hg
open Go Go.RowKit Go.Proofs Go.Shelf
/-- A list laid anew behind a world. -/
def FreshR (T sz : Nat) {α : Type} (enc : α → List Value) (W wr : World) (v : Value) (xs : List α) : Prop := Keep [] W wr ∧ Row wr T sz enc v xs ∧ ∀ k, v.ownBlock = some k → W.heap.size ≤ k
theorem FreshR.nil (T sz : Nat) {α : Type} (enc : α → List Value) (W : World) : FreshR T sz enc W W (.slice none 0 0) [] := ⟨Keep.refl _ _, Row.nil _ _ _ _, fun k h => by simp [Value.ownBlock] at h⟩
theorem FreshR.keep {T sz : Nat} {α : Type} {enc : α → List Value} {W wr w2 : World} {v : Value} {xs : List α} (h : FreshR T sz enc W wr v xs) (hk : Keep [] wr w2) : FreshR T sz enc W w2 v xs := ⟨h.1.trans0 hk, h.2.1.keep hk (fun _ _ => by simp), h.2.2⟩
theorem FreshR.alloc {T sz : Nat} {α : Type} {enc : α → List Value} {W wr : World} {v : Value} {xs : List α} (h : FreshR T sz enc W wr v xs) (o : Obj) : FreshR T sz enc W (wr.alloc o) v xs := h.keep (Keep.alloc0 wr o)
theorem FreshR.app {T sz : Nat} {α : Type} {enc : α → List Value} {W wr w2 : World} {v : Value} {xs : List α} (h : FreshR T sz enc W wr v xs) {gg cap H : Nat} {x : α} (hown : w2.ownsRow 0 T sz (.slice (some ⟨gg, 0, none⟩) (xs.length + 1) cap) (xs.length + 1) (xs.flatMap enc ++ enc x)) (hg : wr.grownBy w2 v.ownBlock) (hat : v.ownBlock = some gg ∨ gg = H) (hH : W.heap.size ≤ H) :
    FreshR T sz enc W w2 (.slice (some ⟨gg, 0, none⟩) (xs.length + 1) cap) (xs ++ [x]) := by
  refine ⟨h.1.grown hg (fun k e => .inl (h.2.2 k e)), ?_, fun k e => ?_⟩
  · unfold Row
    rw [List.length_append, List.length_singleton, List.flatMap_append]
    simpa using hown
  · simp [Value.ownBlock] at e; subst e
    rcases hat with e | rfl
    · exact h.2.2 _ e
    · exact hH
/-- A slice's value, its block a letter. -/
theorem ownsRow_slice {w : World} {T sz n : Nat} {v : Value} {xs : List Value} (h : w.ownsRow 0 T sz v n xs) : ∃ B cap, v = .slice B n cap := by
  rcases h.2 with ⟨rfl, h0⟩ | ⟨g, cap, cur, rfl, _⟩
  · exact ⟨none, 0, by rw [h0]⟩
  · exact ⟨_, cap, rfl⟩
theorem FreshR.empty (T sz : Nat) {α : Type} (enc : α → List Value) {W wr : World} (hk : Keep [] W wr) : FreshR T sz enc W (wr.alloc (Obj.cells #[] T)) (.slice (some ⟨wr.heap.size, 0, none⟩) 0 0) [] :=
  ⟨hk.alloc _, ⟨by simp, .inr ⟨wr.heap.size, 0, #[], rfl, by omega, heap_alloc_new wr _, by simp, by unfold maxLen; omega, by simp, by simp⟩⟩, fun k e => by simp [Value.ownBlock] at e; subst e; exact hk.size⟩
variable {P : Program}
theorem run_append_fr {T sz : Nat} {α : Type} {enc : α → List Value} {W w : World} {v : Value} {xs ys : List α} (hF : FreshR T sz enc W w v xs) (hs : ∀ x, (enc x).length = sz) (t ty : TypeId) (i : TypeInfo) (z : Value) (bytes : Nat) (ht : P.underlying t = some (.slice T)) (hi : P.info? T = some i) (hz : i.zero = some z)
    (hsize : i.size = sz) (hby : i.bytes = bytes) (hzs : z.cells.size = sz) (hsz : 0 < sz) (ad : Addr) (c : Nat) (hnews : ∀ j u, (ys.flatMap enc)[j]? = some u → w.cell? (ad.add j) = some u) (h1 : ∀ u ∈ ys.flatMap enc, u.oneCell' = true)
    (hlen : xs.length + ys.length ≤ 4000000) (hbb : bytes ≤ 1000) :
    ∃ B cap w', (Builtin.append_ #[t, t] ty #[v, .slice (some ad) ys.length c]).run P w = .ok (.slice B (xs.length + ys.length) cap) w' ∧ FreshR T sz enc W w' (.slice B (xs.length + ys.length) cap) (xs ++ ys) ∧ w.grownBy w' v.ownBlock := by
  have hb : (xs.length + ys.length) * bytes ≤ 140737488355328 := Nat.le_trans (Nat.mul_le_mul hlen hbb) (by omega)
  obtain ⟨v', w', hr, h2, h3, _, h5⟩ := run_append_own_at (P := P) w 0 t ty T i z sz bytes ht hi hz hsize hby hzs hsz v xs.length (xs.flatMap enc) hF.2.1 ad ys.length c (ys.flatMap enc) (flat_length hs ys) hnews h1 (by unfold maxLen; omega) hb (by omega)
  obtain ⟨B, cap, rfl⟩ := ownsRow_slice h2
  refine ⟨B, cap, w', hr, ⟨hF.1.grown h3 (fun k e => .inl (hF.2.2 k e)), ?_, fun k e => ?_⟩, h3⟩
  · unfold Row; rw [List.length_append, List.flatMap_append]; exact h2
  · rcases h5 with h5 | h5
    · exact hF.2.2 k (by rw [← h5]; exact e)
    · rw [h5] at e; injection e with e; subst e; exact hF.1.size
/-- append of several, in a region that draws. -/
theorem step_append_fr {T sz : Nat} {α : Type} {enc : α → List Value} {W w : World} {v : Value} {xs ys : List α} {ops : Array Oper} {o : Oper} {a : Act} {K : Act → World → Prop} {Q : Exit → Act → World → Prop} {E : Prop} (hgd : o.guard = none) (s x : Operand) (t : TypeId)
    (ho : o.op = .call { callee := .builtin .append, args := #[s, x], argTypes := #[t, t] }) (hF : FreshR T sz enc W w v xs) (hs : ∀ x, (enc x).length = sz) (i : TypeInfo) (z : Value) (bytes : Nat) (ht : P.underlying t = some (.slice T)) (hi : P.info? T = some i) (hz : i.zero = some z)
    (hsize : i.size = sz) (hby : i.bytes = bytes) (hzs : z.cells.size = sz) (hsz : 0 < sz) (ad : Addr) (m c : Nat) (hm : m = ys.length) (hsv : a.eval s = v) (hxv : a.eval x = .slice (some ad) m c) (hnews : ∀ j u, (ys.flatMap enc)[j]? = some u → w.cell? (ad.add j) = some u) (h1 : ∀ u ∈ ys.flatMap enc, u.oneCell' = true)
    (hlen : xs.length + ys.length ≤ 4000000) (hbb : bytes ≤ 1000) (L : Nat) (hL : L = xs.length + ys.length)
    (h : ∀ B cap w', FreshR T sz enc W w' (.slice B L cap) (xs ++ ys) → w.grownBy w' v.ownBlock → K (a.put o.dst (.slice B L cap)) w') :
    if Region.wanted o (yielded ops a.tmps) = true then Oper.wp P o a w K Q else E := by
  have hw : Region.wanted o (yielded ops a.tmps) = true := by simp [Region.wanted, hgd]
  rw [if_pos hw]
  subst hm hL
  obtain ⟨B, cap, w', hr, h2, h3⟩ := run_append_fr (P := P) hF hs t o.type i z bytes ht hi hz hsize hby hzs hsz ad c hnews h1 hlen hbb
  unfold Oper.wp execOp
  simp only [ho, resolve, invoke, builtin, Sem.run_bind, Sem.run_pure, Result.andThen_ok, List.map_toArray, List.map_cons, List.map_nil, hsv, hxv, hr]
  exact h B cap w' h2 h3
/-- Rows anew in the struct's two cells. -/
theorem GAt.newE {T p : Nat} {w w2 : World} {g : Gr} {nv ev ev' : Value} {fn : List FN} {fe fe' : List FE} {E' : List Edge} (h : GAt T w p g nv ev fn fe) (hT : T ≠ 135 ∧ T ≠ 113 ∧ T ≠ 115) (hf : FreshR 115 5 encE w w2 ev' fe') (hv : All2 (EdgeV w) fe' E') :
    GAt T (w2.setCell ⟨p, 1, none⟩ ev') p ⟨g.N, E', g.next⟩ nv ev' fn fe' ∧ Keep (foot p nv ev) w (w2.setCell ⟨p, 1, none⟩ ev') ∧ ∀ k, k ∈ foot p nv ev' → k ∈ foot p nv ev ∨ w.heap.size ≤ k := by
  have r2 := h.blk.keep hf.1 (by simp)
  have n2 := h.n.keep hf.1 (fun _ _ => by simp)
  have k2 : Keep (foot p nv ev) w w2 := hf.1.mono (fun k hm => by simp at hm)
  have k3 := k2.setBlk (i := 1) (v := ev') h.blk hT.1 (mem_foot.2 (.inl rfl))
  refine ⟨⟨r2.set 1 _, n2.set_blk r2 (Ne.symm hT.2.1) 1, hf.2.1.set_blk r2 (Ne.symm hT.2.2) 1, (keep_views (g := ⟨g.N, E', g.next⟩) k3 h.vn hv).1, (keep_views (g := ⟨g.N, E', g.next⟩) k3 h.vn hv).2⟩, k3, fun k hk => ?_⟩
  rcases mem_foot.1 hk with rfl | e | e
  · exact .inl (mem_foot.2 (.inl rfl))
  · exact .inl (mem_foot.2 (.inr (.inl e)))
  · exact .inr (hf.2.2 k e)
theorem GAt.newN {T p : Nat} {w w2 : World} {g : Gr} {nv ev nv' : Value} {fn fn' : List FN} {fe : List FE} {N' : List Node} (h : GAt T w p g nv ev fn fe) (hT : T ≠ 135 ∧ T ≠ 113 ∧ T ≠ 115) (hf : FreshR 113 3 encN w w2 nv' fn') (hv : All2 (NodeV w) fn' N') :
    GAt T (w2.setCell ⟨p, 0, none⟩ nv') p ⟨N', g.E, g.next⟩ nv' ev fn' fe ∧ Keep (foot p nv ev) w (w2.setCell ⟨p, 0, none⟩ nv') ∧ ∀ k, k ∈ foot p nv' ev → k ∈ foot p nv ev ∨ w.heap.size ≤ k := by
  have r2 := h.blk.keep hf.1 (by simp)
  have n2 := h.e.keep hf.1 (fun _ _ => by simp)
  have k2 : Keep (foot p nv ev) w w2 := hf.1.mono (fun k hm => by simp at hm)
  have k3 := k2.setBlk (i := 0) (v := nv') h.blk hT.1 (mem_foot.2 (.inl rfl))
  refine ⟨⟨r2.set 0 _, hf.2.1.set_blk r2 (Ne.symm hT.2.1) 0, n2.set_blk r2 (Ne.symm hT.2.2) 0, (keep_views (g := ⟨N', g.E, g.next⟩) k3 hv h.ve).1, (keep_views (g := ⟨N', g.E, g.next⟩) k3 hv h.ve).2⟩, k3, fun k hk => ?_⟩
  rcases mem_foot.1 hk with rfl | e | e
  · exact .inl (mem_foot.2 (.inl rfl))
  · exact .inr (hf.2.2 k e)
  · exact .inl (mem_foot.2 (.inr (.inr e)))
/-- The cells of a part of a row. -/
theorem news_take {w : World} {g T sz : Nat} {α : Type} {enc : α → List Value} {xs : List α} {cur : Array Value} (hb : Blk w g T cur) (hs : ∀ x, (enc x).length = sz) (ht : cur.toList.take (xs.length * sz) = xs.flatMap enc) (k : Nat) : ∀ j u, ((xs.take k).flatMap enc)[j]? = some u → w.cell? ((⟨g, 0, none⟩ : Addr).add j) = some u := fun j u hu => by
  have hadd : (⟨g, 0, none⟩ : Addr).add j = ⟨g, j, none⟩ := by unfold Addr.add; split <;> simp_all
  rw [flat_take hs, ← ht, List.take_take] at hu
  have h2 : cur.toList[j]? = some u := by
    rw [List.getElem?_take] at hu
    split at hu
    · exact hu
    · simp at hu
  rw [hadd, hb.cell j]; simpa using h2
theorem news_drop {w : World} {g T sz : Nat} {α : Type} {enc : α → List Value} {xs : List α} {cur : Array Value} (hb : Blk w g T cur) (hs : ∀ x, (enc x).length = sz) (ht : cur.toList.take (xs.length * sz) = xs.flatMap enc) (k : Nat) : ∀ j u, ((xs.drop k).flatMap enc)[j]? = some u → w.cell? ((⟨g, k * sz, none⟩ : Addr).add j) = some u := fun j u hu => by
  have hadd : (⟨g, k * sz, none⟩ : Addr).add j = ⟨g, k * sz + j, none⟩ := by unfold Addr.add; split <;> simp_all
  rw [flat_drop hs, ← ht, List.getElem?_drop] at hu
  have h2 : cur.toList[k * sz + j]? = some u := by
    rw [List.getElem?_take] at hu
    split at hu
    · exact hu
    · simp at hu
  rw [hadd, hb.cell (k * sz + j)]; simpa using h2
end Go.Proofs.Hg
namespace Go.Proofs.Hg
open Go Go.RowKit Go.Proofs Go.Shelf
theorem infoI8 : (Tryz.prog.info? 2).map (fun i => (i.zero, i.size, i.bytes)) = some (some (.int .i64 0), 1, 8) := by kernel_rfl
/-- The Ids of the edges at a node. -/
def atIds (fe : List FE) (id : Int) : List Int := (fe.filter (atE · id)).map (·.id)
theorem atIds_take {fe : List FE} {id : Int} {k : Nat} (hk : k < fe.length) : atIds (fe.take (k + 1)) id = atIds (fe.take k) id ++ (if atE fe[k] id = true then [fe[k].id] else []) := by
  unfold atIds
  rw [List.take_add_one, List.getElem?_eq_getElem hk, Option.toList_some, List.filter_append, List.map_append]
  by_cases h : atE fe[k] id = true
  · rw [if_pos h]; simp [h]
  · rw [if_neg h]; simp [h]
set_option maxRecDepth 100000 in
set_option maxHeartbeats 1600000 in
theorem rat_c (w : World) (p : Nat) (g : Gr) (nv ev : Value) (fn : List FN) (fe : List FE) (id : Int) (hl : fe.length ≤ 1000000) (h : GAt 42 w p g nv ev fn fe) :
    Calls Tryz.prog 55 #[.pointer (some ⟨p, 0, none⟩), .int .i64 id] w fun e w' => ∃ v, e = .returned v ∧ FreshR 2 1 encI w w' v (atIds fe id) := by
  obtain ⟨i0, hi0, hz0, hz1, hz2⟩ := info_parts infoI8
  obtain ⟨A, cap, hv, hc, hm⟩ := h.e.slice
  unfold maxLen at hm
  have HN := Lib.hid (fun W (hk : Keep [] w W) => h.e.keep hk (fun _ _ => by simp))
  have HB := Lib.hid (fun W (hk : Keep [] w W) => h.blk.keep hk (by simp))
  have hlw := h.blk.lt
  subst hv
  clear h
  go_enter Tryz.func55, Tryz.ntmps55
  go_wp2
  go_loopw [5, 6] (fun ov i wr => ∃ k : Nat, k ≤ fe.length ∧ i = .int .i64 k ∧ Hid (FreshR 2 1 encI w wr ov (atIds (fe.take k) id))) (fun _ i _ => fe.length - (intOf i).toNat)
  case atStart => exact ⟨0, by omega, rfl, FreshR.nil _ _ _ w⟩
  case round =>
    obtain ⟨k, hk, rfl, hF⟩ := hrel
    have hb := HB.out wr hF.out.1
    have c0 := hb.cell 1
    simp only [List.getElem?_toArray, List.getElem?_cons_succ, List.getElem?_cons_zero] at c0
    by_cases hlt : k < fe.length
    · obtain ⟨b, rfl⟩ := row_ptr (HN.out wr hF.out.1) (by omega)
      obtain ⟨d0, d1, d2, d3, d4⟩ := rowE_at (HN.out wr hF.out.1) k hlt
      have HT := Lib.hid (atIds_take (id := id) hlt)
      have ll : (atIds (fe.take k) id).length ≤ 1000000 := by
        have h1 := List.length_filter_le (atE · id) (fe.take k)
        unfold atIds
        rw [List.length_map]
        rw [List.length_take] at h1
        omega
      obtain ⟨L, hL⟩ : ∃ L, L = atIds (fe.take k) id := ⟨_, rfl⟩
      rw [← hL] at hF HT ll
      clear hL hb
      by_cases hq : atE fe[k] id = true
      · rw [if_pos hq] at HT
        have HF1 := Lib.hid (hF.out.alloc (Obj.cells #[.int .i64 fe[k].id] 2))
        have HB1 := Lib.hid (Blk.new wr #[.int .i64 fe[k].id] 2)
        have lw1 := hF.out.1.size
        have fin : Hid (∀ gg cap1 w2, w2.ownsRow 0 2 1 (.slice (some ⟨gg, 0, none⟩) (L.length + 1) cap1) (L.length + 1) (L.flatMap encI ++ encI fe[k].id) → (wr.alloc (Obj.cells #[.int .i64 fe[k].id] 2)).grownBy w2 u5.ownBlock → (u5.ownBlock = some gg ∨ gg = wr.heap.size + 1) → FreshR 2 1 encI w w2 (.slice (some ⟨gg, 0, none⟩) (L.length + 1) cap1) (atIds (fe.take (k + 1)) id)) := fun gg cap1 w2 h1 h2 h3 => by
          rw [HT.out]
          exact HF1.out.app h1 h2 h3 (by omega)
        have hq2 : fe[k].fr = id ∨ (fe[k].fr ≠ id ∧ fe[k].tt = id) := by
          unfold atE at hq; simp at hq; by_cases e : fe[k].fr = id
          · exact .inl e
          · exact .inr ⟨e, by rcases hq with h | h; exact absurd h e; exact h⟩
        clear hq d1 d4
        rcases hq2 with hq2 | ⟨hq1, hq2⟩
        all_goals
          go_wp2_with (at_builtin; refine wpList_append_lies _ rfl _ _ 25 rfl 0 2 i0 _ 1 8 Tryz.underlying25 hi0 hz0 hz1 hz2 rfl (by omega) _ L.length (L.flatMap encI) rfl HF1.out.2.1 ⟨wr.heap.size, 0, none⟩ 1 1 (encI fe[k].id) (by rfl) rfl (World.news_of_block HB1.out) (by simp [encI, Value.oneCell']) (by omega) (by unfold maxLen; omega) (by omega) (by omega) (wr.heap.size + 1) (by simp) ?_)
          intro gg cap1 w2 h1 h2 h3 h4
          have HN1 := Lib.hid (fin.out gg cap1 w2 h1 h2 h3)
          clear h1 h2 h3 h4 d0 d2 d3 HT fin
          go_wp2
          exact ⟨⟨k + 1, by omega, by go_num, HN1⟩, by simp [intOf]; omega⟩
      · rw [if_neg hq] at HT
        have HF1 : Hid (FreshR 2 1 encI w wr u5 (atIds (fe.take (k + 1)) id)) := by
          show FreshR _ _ _ _ _ _ _
          rw [HT.out, List.append_nil]; exact hF.out
        have hq2 : fe[k].fr ≠ id ∧ fe[k].tt ≠ id := by unfold atE at hq; simpa using hq
        have hq3 : (fe[k].fr == id) = false := by simpa using hq2.1
        have hq4 : (fe[k].tt == id) = false := by simpa using hq2.2
        clear hq hq2 d0 d1 d4 HT
        go_wp2
        exact ⟨⟨k + 1, by omega, by go_num, HF1⟩, by simp [intOf]; omega⟩
    · have ek : k = fe.length := by omega
      subst ek
      rw [List.take_length] at hF
      go_wp2
      go_ret
      exact ⟨_, rfl, hF.out⟩
end Go.Proofs.Hg
namespace Go.Proofs.Hg
open Go Go.RowKit Go.Proofs Go.Shelf
/-- The place of an Id, or -1. -/
def plc {α : Type} (f : α → Int) (l : List α) (id : Int) (i : Int) : Prop := (i = -1 ∧ (l.map f).contains id = false) ∨ ∃ (k : Nat) (hk : k < l.length), i = k ∧ f l[k] = id
set_option maxRecDepth 100000 in
set_option maxHeartbeats 1600000 in
theorem rnode_c (w : World) (p : Nat) (g : Gr) (nv ev : Value) (fn : List FN) (fe : List FE) (id : Int) (hl : fn.length ≤ 1000000) (h : GAt 42 w p g nv ev fn fe) :
    Calls Tryz.prog 57 #[.pointer (some ⟨p, 0, none⟩), .int .i64 id] w fun e w' => ∃ i : Int, e = .returned (.int .i64 i) ∧ plc (·.id) fn id i ∧ w' = w := by
  have c0 := h.blk.cell 0
  simp only [List.getElem?_toArray, List.getElem?_cons_succ, List.getElem?_cons_zero] at c0
  obtain ⟨A, cap, hv, hc, hm⟩ := h.n.slice
  unfold maxLen at hm
  have HN := Lib.hid h.n
  subst hv
  clear h
  go_enter Tryz.func57, Tryz.ntmps57
  go_wp2
  go_loop [5] (fun i => ∃ k : Nat, k ≤ fn.length ∧ i = .int .i64 k ∧ Hid (∀ j (hj : j < fn.length), j < k → fn[j].id ≠ id)) (fun i => fn.length - (intOf i).toNat)
  case atStart => exact ⟨0, by omega, rfl, fun j _ hj => by omega⟩
  case round =>
    obtain ⟨k, hk, rfl, hr⟩ := hrel
    by_cases hlt : k < fn.length
    · obtain ⟨b, rfl⟩ := row_ptr HN.out (by omega)
      obtain ⟨d0, d1, d2⟩ := rowN_at HN.out k hlt
      by_cases he : fn[k].id = id
      · have E := Lib.hid (show plc (·.id) fn id (k : Int) from .inr ⟨k, hlt, rfl, he⟩)
        clear d1 d2 hr
        go_wp2
        go_ret
        exact ⟨k, rfl, E.out, rfl⟩
      · have HR : Hid (∀ j (hj : j < fn.length), j < k + 1 → fn[j].id ≠ id) := fun j hj hjk => by
          by_cases e : j = k
          · subst e; exact he
          · exact hr.out j hj (by omega)
        clear d1 d2 hr
        go_wp2
        exact ⟨⟨k + 1, by omega, by go_num, HR⟩, by simp [intOf]; omega⟩
    · have E := Lib.hid (show plc (·.id) fn id (-1) from .inl ⟨rfl, by
        rw [List.contains_eq_any_beq, List.any_eq_false]
        intro x hx
        obtain ⟨y, hy, rfl⟩ := List.mem_map.1 hx
        obtain ⟨j, hj, rfl⟩ := List.getElem_of_mem hy
        have := hr.out j hj (by omega)
        simp; omega⟩)
      go_wp2
      go_ret
      exact ⟨-1, rfl, E.out, rfl⟩
set_option maxRecDepth 100000 in
set_option maxHeartbeats 1600000 in
theorem redge_c (w : World) (p : Nat) (g : Gr) (nv ev : Value) (fn : List FN) (fe : List FE) (id : Int) (hl : fe.length ≤ 1000000) (h : GAt 42 w p g nv ev fn fe) :
    Calls Tryz.prog 59 #[.pointer (some ⟨p, 0, none⟩), .int .i64 id] w fun e w' => ∃ i : Int, e = .returned (.int .i64 i) ∧ plc (·.id) fe id i ∧ w' = w := by
  have c0 := h.blk.cell 1
  simp only [List.getElem?_toArray, List.getElem?_cons_succ, List.getElem?_cons_zero] at c0
  obtain ⟨A, cap, hv, hc, hm⟩ := h.e.slice
  unfold maxLen at hm
  have HN := Lib.hid h.e
  subst hv
  clear h
  go_enter Tryz.func59, Tryz.ntmps59
  go_wp2
  go_loop [5] (fun i => ∃ k : Nat, k ≤ fe.length ∧ i = .int .i64 k ∧ Hid (∀ j (hj : j < fe.length), j < k → fe[j].id ≠ id)) (fun i => fe.length - (intOf i).toNat)
  case atStart => exact ⟨0, by omega, rfl, fun j _ hj => by omega⟩
  case round =>
    obtain ⟨k, hk, rfl, hr⟩ := hrel
    by_cases hlt : k < fe.length
    · obtain ⟨b, rfl⟩ := row_ptr HN.out (by omega)
      obtain ⟨d0, d1, d2, d3, d4⟩ := rowE_at HN.out k hlt
      by_cases he : fe[k].id = id
      · have E := Lib.hid (show plc (·.id) fe id (k : Int) from .inr ⟨k, hlt, rfl, he⟩)
        clear d1 d2 d3 d4 hr
        go_wp2
        go_ret
        exact ⟨k, rfl, E.out, rfl⟩
      · have HR : Hid (∀ j (hj : j < fe.length), j < k + 1 → fe[j].id ≠ id) := fun j hj hjk => by
          by_cases e : j = k
          · subst e; exact he
          · exact hr.out j hj (by omega)
        clear d1 d2 d3 d4 hr
        go_wp2
        exact ⟨⟨k + 1, by omega, by go_num, HR⟩, by simp [intOf]; omega⟩
    · have E := Lib.hid (show plc (·.id) fe id (-1) from .inl ⟨rfl, by
        rw [List.contains_eq_any_beq, List.any_eq_false]
        intro x hx
        obtain ⟨y, hy, rfl⟩ := List.mem_map.1 hx
        obtain ⟨j, hj, rfl⟩ := List.getElem_of_mem hy
        have := hr.out j hj (by omega)
        simp; omega⟩)
      go_wp2
      go_ret
      exact ⟨-1, rfl, E.out, rfl⟩
end Go.Proofs.Hg
namespace Go.Proofs.Hg
open Go Go.RowKit Go.Proofs Go.Shelf
theorem plc_at {α β : Type} {R : α → β → Prop} {f : α → Int} {q : β → Int} {l : List α} {m : List β} {id i : Int} (h : All2 R l m) (hR : ∀ a b, R a b → f a = q b) (hu : (m.map q).Pairwise (· < ·)) (hp : plc f l id i) :
    (i = -1 ∧ (m.map q).contains id = false) ∨ ∃ (k : Nat) (hk : k < l.length) (hk' : k < m.length), i = k ∧ f l[k] = id ∧ R l[k] m[k] ∧ m.find? (fun x => decide (q x = id)) = some m[k] := by
  rcases hp with ⟨rfl, hc⟩ | ⟨k, hk, rfl, he⟩
  · left; refine ⟨rfl, ?_⟩; rw [← h.map_eq hR]; exact hc
  · right
    have hk' : k < m.length := by rw [← h.length]; exact hk
    have hr := h.get k hk hk'
    exact ⟨k, hk, hk', rfl, he, hr, find_unique q id m k hk' hu (by rw [← hR _ _ hr]; exact he)⟩
set_option maxRecDepth 100000 in
set_option maxHeartbeats 1600000 in
theorem rprops_c (w : World) (p : Nat) (g : Gr) (nv ev : Value) (fn : List FN) (fe : List FE) (id : Int) (hi : GInv g) (h : GAt 42 w p g nv ev fn fe) :
    Calls Tryz.prog 97 #[.pointer (some ⟨p, 0, none⟩), .int .i64 id] w fun e w' => ∃ v b, e = .returned (.tuple #[v, .bool b]) ∧ ((psOf g id = none ∧ b = false) ∨ ∃ ps, psOf g id = some ps ∧ b = true ∧ PsAt w v ps) ∧ w' = w := by
  have lf : fn.length ≤ 1000000 := by have := hi.lenN; have := h.vn.length; omega
  have le : fe.length ≤ 1000000 := by have := hi.lenE; have := h.ve.length; omega
  have HN := Lib.hid (rnode_c w p g nv ev fn fe id lf h)
  have HE := Lib.hid (redge_c w p g nv ev fn fe id le h)
  have c0 := h.blk.cell 0
  have c1 := h.blk.cell 1
  simp only [List.getElem?_toArray, List.getElem?_cons_succ, List.getElem?_cons_zero] at c0 c1
  have H := Lib.hid h
  have HI := Lib.hid hi
  clear h hi
  go_enter Tryz.func97, Tryz.ntmps97
  go_wp2_with fail
  refine HN.out.mono ?_
  rintro e w1 ⟨i, rfl, hp, rfl⟩
  rcases plc_at (q := fun x : Node => x.id) H.out.vn (fun _ _ hr => hr.1) HI.out.upN hp with ⟨rfl, hc⟩ | ⟨k, hk, hk', rfl, he, hr, hf⟩
  · have HN0 := Lib.hid (find_none (fun x : Node => x.id) id g.N hc)
    clear hp hc
    go_wp2_with fail
    refine HE.out.mono ?_
    rintro e w2 ⟨i, rfl, hp, rfl⟩
    rcases plc_at (q := fun x : Edge => x.id) H.out.ve (fun _ _ hr => hr.1) HI.out.upE hp with ⟨rfl, hc⟩ | ⟨k, hk, hk', rfl, he, hr, hf⟩
    · have E : Hid (psOf g id = none) := by unfold psOf; rw [HN0.out, find_none (fun x : Edge => x.id) id g.E hc]; rfl
      clear hp hc
      go_wp2
      go_ret2
      exact ⟨_, _, rfl, .inl ⟨E.out, rfl⟩, rfl⟩
    · have E : Hid (psOf g id = some g.E[k].ps) := by unfold psOf; rw [HN0.out, hf]; rfl
      obtain ⟨b, cap, cur, hb, h1, h2, hq⟩ := H.out.e.form (fun _ => rfl) (by omega)
      clear hq
      have d := (rowE_at (by have := H.out.e; rw [hb] at this; exact this) k hk).2.2.2.2
      have hpa := Lib.hid hr.2.2.2.2
      unfold maxLen at h2
      subst hb
      clear hp hf he hr
      go_wp2
      go_ret2
      exact ⟨_, _, rfl, .inr ⟨_, E.out, rfl, hpa.out⟩, rfl⟩
  · have E : Hid (psOf g id = some g.N[k].ps) := by show _ = _; unfold psOf; rw [hf]
    obtain ⟨b, cap, cur, hb, h1, h2, hq⟩ := H.out.n.form (fun _ => rfl) (by omega)
    clear hq
    have d := (rowN_at (by have := H.out.n; rw [hb] at this; exact this) k hk).2.2
    have hpa := Lib.hid hr.2.2
    unfold maxLen at h2
    subst hb
    clear hp hf he hr
    go_wp2
    go_ret2
    exact ⟨_, _, rfl, .inr ⟨_, E.out, rfl, hpa.out⟩, rfl⟩
end Go.Proofs.Hg
namespace Go.Proofs.Hg
open Go Go.RowKit Go.Proofs Go.Shelf
/-- Where the document's Set stands behind some properties: what is there, is the new one in. -/
def stP (ps : List Prp) (s : ByteArray) (v : Val) : List Prp × Bool :=
  if v.k = 0 then (filtP ps s, true) else if (filtP ps s).all (fun p => !(geS p.name s)) then (filtP ps s, false) else (setP ps s v, true)
theorem takeWhile_app {α : Type} (q : α → Bool) : ∀ (l m : List α), l.all q = true → (l ++ m).takeWhile q = l ++ m.takeWhile q
  | [], _, _ => rfl
  | a :: l, m, h => by
    simp only [List.all_cons, Bool.and_eq_true] at h
    rw [List.cons_append, List.takeWhile_cons_of_pos h.1, takeWhile_app q l m h.2]; rfl
theorem dropWhile_app {α : Type} (q : α → Bool) : ∀ (l m : List α), l.all q = true → (l ++ m).dropWhile q = m.dropWhile q
  | [], _, _ => rfl
  | a :: l, m, h => by
    simp only [List.all_cons, Bool.and_eq_true] at h
    rw [List.cons_append, List.dropWhile_cons_of_pos h.1, dropWhile_app q l m h.2]
theorem takeWhile_app2 {α : Type} (q : α → Bool) : ∀ (l m : List α), l.all q = false → (l ++ m).takeWhile q = l.takeWhile q
  | [], _, h => by simp at h
  | a :: l, m, h => by
    by_cases ha : q a = true
    · rw [List.cons_append, List.takeWhile_cons_of_pos ha, List.takeWhile_cons_of_pos ha, takeWhile_app2 q l m (by simpa [ha] using h)]
    · rw [List.cons_append, List.takeWhile_cons_of_neg ha, List.takeWhile_cons_of_neg ha]
theorem dropWhile_app2 {α : Type} (q : α → Bool) : ∀ (l m : List α), l.all q = false → (l ++ m).dropWhile q = l.dropWhile q ++ m
  | [], _, h => by simp at h
  | a :: l, m, h => by
    by_cases ha : q a = true
    · rw [List.cons_append, List.dropWhile_cons_of_pos ha, List.dropWhile_cons_of_pos ha, dropWhile_app2 q l m (by simpa [ha] using h)]
    · rw [List.cons_append, List.dropWhile_cons_of_neg ha, List.dropWhile_cons_of_neg ha]; rfl
theorem setP_filt {ps qs : List Prp} {s : ByteArray} {v : Val} (h : filtP ps s = filtP qs s) : setP ps s v = setP qs s v := by unfold setP; rw [h]
theorem stP_skip {ps : List Prp} {s : ByteArray} {v : Val} {k : Nat} (hk : k < ps.length) (h : neS ps[k].name s = false) : stP (ps.take (k + 1)) s v = stP (ps.take k) s v := by
  have e := filtP_take ps s k hk
  rw [if_neg (by rw [h]; simp), List.append_nil] at e
  unfold stP
  rw [e, setP_filt e]
/-- One more that stays: what is appended ahead of it. -/
def stI (st : List Prp × Bool) (y : Prp) (s : ByteArray) (v : Val) : List Prp := if (!st.2 && geS y.name s) = true then [⟨s, v⟩] else []
theorem stP_step {ps : List Prp} {s : ByteArray} {v : Val} {k : Nat} (hk : k < ps.length) (h : neS ps[k].name s = true) :
    stP (ps.take (k + 1)) s v = ((stP (ps.take k) s v).1 ++ stI (stP (ps.take k) s v) ps[k] s v ++ [ps[k]], (stP (ps.take k) s v).2 || geS ps[k].name s) := by
  have e := filtP_take ps s k hk
  rw [if_pos h] at e
  unfold stP stI setP
  rw [e]
  by_cases h0 : v.k = 0
  · simp [h0]
  · simp only [if_neg h0]
    cases ha : (filtP (ps.take k) s).all (fun p => !(geS p.name s)) with
    | true =>
      cases hg : geS ps[k].name s with
      | true =>
        rw [takeWhile_app _ _ _ ha, dropWhile_app _ _ _ ha]
        simp [List.all_append, ha, hg]
      | false => simp [List.all_append, ha, hg]
    | false =>
      rw [takeWhile_app2 _ _ _ ha, dropWhile_app2 _ _ _ ha]
      simp [List.all_append, ha]
theorem stP_end (ps : List Prp) (s : ByteArray) (v : Val) : (stP ps s v).1 ++ (if (stP ps s v).2 = true then [] else [⟨s, v⟩]) = setP ps s v := by
  unfold stP
  by_cases h0 : v.k = 0
  · simp only [if_pos h0]; unfold setP; simp [h0]
  · simp only [if_neg h0]
    cases ha : (filtP ps s).all (fun p => !(geS p.name s)) with
    | true =>
      have e1 := takeWhile_app _ _ [] ha
      have e2 := dropWhile_app _ _ [] ha
      rw [List.append_nil] at e1 e2
      unfold setP
      rw [if_neg h0, e1, e2]
      simp
    | false => simp
end Go.Proofs.Hg
namespace Go.Proofs.Hg
open Go Go.RowKit Go.Proofs Go.Shelf
theorem stP_len (ps : List Prp) (s : ByteArray) (v : Val) : (stP ps s v).1.length ≤ ps.length + 1 := by
  have h := filtP_len ps s
  have h2 := setP_len ps s v
  unfold stP
  split
  · show (filtP ps s).length ≤ _; omega
  · split
    · show (filtP ps s).length ≤ _; omega
    · exact h2
set_option maxRecDepth 100000 in
set_option maxHeartbeats 1600000 in
theorem rset_c (w : World) (pv : Value) (ps : List Prp) (s : ByteArray) (v : Val) (hl : ps.length ≤ 100000) (h : PsAt w pv ps) :
    Calls Tryz.prog 58 #[pv, .string s, valV v] w fun e w' => ∃ v', e = .returned v' ∧ PsAt w' v' (setP ps s v) ∧ Keep [] w w' := by
  obtain ⟨i0, hi0, hz0, hz1, hz2⟩ := info_parts infoP
  obtain ⟨A, cap, hv, hc, hm⟩ := Row.slice (enc := encP) (sz := 4) h
  unfold maxLen at hm
  subst hv
  have K0 := Keep.alloc0 w (Obj.cells #[.int .i64 v.k, .int .i64 v.n, .string v.s] 48)
  have HY := Lib.hid (Blk.new w #[.int .i64 v.k, .int .i64 v.n, .string v.s] 48)
  have HP := Lib.hid (h.keep K0)
  have HK := Lib.hid K0
  have hA : ∀ k, k < ps.length → ∃ g, A = some ⟨g, 0, none⟩ := fun k hk => row_ptr (enc := encP) (sz := 4) h (by omega)
  clear K0 h
  go_enter Tryz.func58, Tryz.ntmps58
  go_wp2
  generalize w.alloc _ = W at *
  go_loopw [7, 8, 9] (fun ov b i wr => ∃ (k : Nat) (pb : Bool), k ≤ ps.length ∧ i = .int .i64 k ∧ b = .bool pb ∧ Hid (pb = (stP (ps.take k) s v).2) ∧ Hid (Fresh W wr ov (stP (ps.take k) s v).1)) (fun _ _ i _ => ps.length - (intOf i).toNat)
  case atStart =>
    refine ⟨0, _, by omega, rfl, rfl, ?_, ?_⟩
    · show _ = _
      unfold stP
      by_cases h0 : v.k = 0 <;> simp [h0, filtP]
    · have : (stP (ps.take 0) s v).1 = [] := by unfold stP; by_cases h0 : v.k = 0 <;> simp [h0, filtP]
      show Fresh _ _ _ _
      rw [this]; exact Fresh.nil W
  case round =>
    obtain ⟨k, pb, hk, rfl, rfl, hpb, hF⟩ := hrel
    by_cases hlt : k < ps.length
    · obtain ⟨g, rfl⟩ := hA k hlt
      obtain ⟨c0, c1, c2, c3⟩ := rowP_at (HP.out.keep hF.out.1) k hlt
      have ll := stP_len (ps.take k) s v
      rw [List.length_take] at ll
      cases hq : neS ps[k].name s with
      | false =>
        have HS := Lib.hid (stP_skip (v := v) hlt hq)
        have hq2 : (ps[k].name.toList == s.toList) = true := by unfold neS at hq; simpa using hq
        clear hq
        have H1 : Hid (pb = (stP (ps.take (k + 1)) s v).2) := by rw [HS.out]; exact hpb.out
        have H2 : Hid (Fresh W wr u7 (stP (ps.take (k + 1)) s v).1) := by rw [HS.out]; exact hF.out
        clear c1 c2 c3
        go_wp2
        exact ⟨⟨k + 1, pb, by omega, by go_num, rfl, H1, H2⟩, by simp [intOf]; omega⟩
      | true =>
        have HS := Lib.hid (stP_step (v := v) hlt hq)
        have hq2 : (ps[k].name.toList == s.toList) = false := by unfold neS at hq; simpa using hq
        clear hq
        cases pb with
        | true =>
          have hp2 : (stP (ps.take k) s v).2 = true := hpb.out.symm
          have HI : Hid (stI (stP (ps.take k) s v) ps[k] s v = []) := by show _ = _; unfold stI; rw [hp2]; rfl
          have HP2 := Lib.hid hp2
          clear hp2
          have HF1 := Lib.hid (hF.out.alloc (Obj.cells #[.string ps[k].name, .int .i64 ps[k].v.k, .int .i64 ps[k].v.n, .string ps[k].v.s] 135))
          have HB1 := Lib.hid (Blk.new wr #[.string ps[k].name, .int .i64 ps[k].v.k, .int .i64 ps[k].v.n, .string ps[k].v.s] 135)
          have lw1 := hF.out.1.size
          go_wp2_with (at_builtin; refine wpList_append_lies _ rfl _ _ 111 rfl 0 135 i0 _ 4 48 Tryz.underlying111 hi0 hz0 hz1 hz2 rfl (by omega) _ (stP (ps.take k) s v).1.length ((stP (ps.take k) s v).1.flatMap encP) rfl HF1.out.2.1 ⟨wr.heap.size, 0, none⟩ 1 1 (encP ps[k]) (by rfl) rfl (World.news_of_block HB1.out) (by simp [encP, Value.oneCell']) (by omega) (by unfold maxLen; omega) (by omega) (by omega) (wr.heap.size + 1) (by simp) ?_)
          intro gg cap1 w2 h1 h2 h3 h4
          have HN1 : Hid (Fresh W w2 (.slice (some ⟨gg, 0, none⟩) ((stP (ps.take k) s v).1.length + 1) cap1) ((stP (ps.take k) s v).1 ++ [ps[k]])) := HF1.out.app h1 h2 h3 (by omega)
          clear h1 h2 h3 h4
          have H1 : Hid (true = (stP (ps.take (k + 1)) s v).2) := by show _ = _; rw [HS.out]; show true = ((stP (ps.take k) s v).2 || _); rw [HP2.out]; rfl
          have H2 : Hid (Fresh W w2 (.slice (some ⟨gg, 0, none⟩) ((stP (ps.take k) s v).1.length + 1) cap1) (stP (ps.take (k + 1)) s v).1) := by
            show Fresh _ _ _ _
            rw [HS.out]
            simp only [HI.out, List.append_nil]
            exact HN1.out
          clear c0 c1 c2 c3
          go_wp2
          exact ⟨⟨k + 1, true, by omega, by go_num, rfl, H1, H2⟩, by simp [intOf]; omega⟩
        | false =>
          have hp2 : (stP (ps.take k) s v).2 = false := hpb.out.symm
          have HP2 := Lib.hid hp2
          clear hp2
          cases hg : geS ps[k].name s with
          | false =>
            have HI : Hid (stI (stP (ps.take k) s v) ps[k] s v = []) := by show _ = _; unfold stI; rw [hg]; simp
            have HG := Lib.hid hg
            unfold geS at hg
            have HF1 := Lib.hid (hF.out.alloc (Obj.cells #[.string ps[k].name, .int .i64 ps[k].v.k, .int .i64 ps[k].v.n, .string ps[k].v.s] 135))
            have HB1 := Lib.hid (Blk.new wr #[.string ps[k].name, .int .i64 ps[k].v.k, .int .i64 ps[k].v.n, .string ps[k].v.s] 135)
            have lw1 := hF.out.1.size
            go_wp2_with (at_builtin; refine wpList_append_lies _ rfl _ _ 111 rfl 0 135 i0 _ 4 48 Tryz.underlying111 hi0 hz0 hz1 hz2 rfl (by omega) _ (stP (ps.take k) s v).1.length ((stP (ps.take k) s v).1.flatMap encP) rfl HF1.out.2.1 ⟨wr.heap.size, 0, none⟩ 1 1 (encP ps[k]) (by rfl) rfl (World.news_of_block HB1.out) (by simp [encP, Value.oneCell']) (by omega) (by unfold maxLen; omega) (by omega) (by omega) (wr.heap.size + 1) (by simp) ?_)
            intro gg cap1 w2 h1 h2 h3 h4
            have HN1 : Hid (Fresh W w2 (.slice (some ⟨gg, 0, none⟩) ((stP (ps.take k) s v).1.length + 1) cap1) ((stP (ps.take k) s v).1 ++ [ps[k]])) := HF1.out.app h1 h2 h3 (by omega)
            clear h1 h2 h3 h4
            have H1 : Hid (false = (stP (ps.take (k + 1)) s v).2) := by show _ = _; rw [HS.out]; show false = ((stP (ps.take k) s v).2 || _); rw [HP2.out, HG.out]; rfl
            have H2 : Hid (Fresh W w2 (.slice (some ⟨gg, 0, none⟩) ((stP (ps.take k) s v).1.length + 1) cap1) (stP (ps.take (k + 1)) s v).1) := by
              show Fresh _ _ _ _
              rw [HS.out]
              simp only [HI.out, List.append_nil]
              exact HN1.out
            clear c0 c1 c2 c3
            go_wp2
            exact ⟨⟨k + 1, false, by omega, by go_num, rfl, H1, H2⟩, by simp [intOf]; omega⟩
          | true =>
            have HI : Hid (stI (stP (ps.take k) s v) ps[k] s v = [⟨s, v⟩]) := by show _ = _; unfold stI; rw [hg, HP2.out]; rfl
            have HG := Lib.hid hg
            unfold geS at hg
            have hy := HY.out.keep hF.out.1 (by simp)
            have y0 := hy.cell 0
            have y1 := hy.cell 1
            have y2 := hy.cell 2
            simp only [List.getElem?_toArray, List.getElem?_cons_succ, List.getElem?_cons_zero] at y0 y1 y2
            clear hy
            have HF1 := Lib.hid (hF.out.alloc (Obj.cells #[.string s, .int .i64 v.k, .int .i64 v.n, .string v.s] 135))
            have HB1 := Lib.hid (Blk.new wr #[.string s, .int .i64 v.k, .int .i64 v.n, .string v.s] 135)
            have lw1 := hF.out.1.size
            go_wp2_with (at_builtin; refine wpList_append_lies _ rfl _ _ 111 rfl 0 135 i0 _ 4 48 Tryz.underlying111 hi0 hz0 hz1 hz2 rfl (by omega) _ (stP (ps.take k) s v).1.length ((stP (ps.take k) s v).1.flatMap encP) rfl HF1.out.2.1 ⟨wr.heap.size, 0, none⟩ 1 1 (encP ⟨s, v⟩) (by rfl) rfl (World.news_of_block HB1.out) (by simp [encP, Value.oneCell']) (by omega) (by unfold maxLen; omega) (by omega) (by omega) (wr.heap.size + 1) (by simp) ?_)
            intro gg cap1 w2 h1 h2 h3 h4
            have HN1 : Hid (Fresh W w2 (.slice (some ⟨gg, 0, none⟩) ((stP (ps.take k) s v).1.length + 1) cap1) ((stP (ps.take k) s v).1 ++ [⟨s, v⟩])) := HF1.out.app h1 h2 h3 (by omega)
            clear h1 h2 h3 h4
            obtain ⟨d0, d1, d2, d3⟩ := rowP_at (HP.out.keep HN1.out.1) k hlt
            clear c0 c1 c2 c3 y0 y1 y2
            obtain ⟨L, hL⟩ : ∃ L, L = (stP (ps.take k) s v).1 ++ [⟨s, v⟩] := ⟨_, rfl⟩
            have lL : (stP (ps.take k) s v).1.length + 1 = L.length := by rw [hL]; simp
            have HL := Lib.hid hL
            have HM : Hid (Fresh W w2 (.slice (some ⟨gg, 0, none⟩) L.length cap1) L) := by have := HN1.out; rw [← hL, lL] at this; exact this
            have l2 : L.length ≤ ps.length + 2 := by omega
            rw [lL]
            clear hL lL HN1
            have HF2 := Lib.hid (HM.out.alloc (Obj.cells #[.string ps[k].name, .int .i64 ps[k].v.k, .int .i64 ps[k].v.n, .string ps[k].v.s] 135))
            have HB2 := Lib.hid (Blk.new w2 #[.string ps[k].name, .int .i64 ps[k].v.k, .int .i64 ps[k].v.n, .string ps[k].v.s] 135)
            have lw2 := HM.out.1.size
            go_wp2_with (at_builtin; refine wpList_append_lies _ rfl _ _ 111 rfl 0 135 i0 _ 4 48 Tryz.underlying111 hi0 hz0 hz1 hz2 rfl (by omega) _ L.length (L.flatMap encP) rfl HF2.out.2.1 ⟨w2.heap.size, 0, none⟩ 1 1 (encP ps[k]) (by rfl) rfl (World.news_of_block HB2.out) (by simp [encP, Value.oneCell']) (by omega) (by unfold maxLen; omega) (by omega) (by omega) (w2.heap.size + 1) (by simp) ?_)
            intro gg2 cap2 w3 h1 h2 h3 h4
            have HN2 : Hid (Fresh W w3 (.slice (some ⟨gg2, 0, none⟩) (L.length + 1) cap2) (L ++ [ps[k]])) := HF2.out.app h1 h2 h3 (by omega)
            clear h1 h2 h3 h4
            have H1 : Hid (true = (stP (ps.take (k + 1)) s v).2) := by show _ = _; rw [HS.out]; show true = (_ || geS ps[k].name s); rw [HG.out]; simp
            have H2 : Hid (Fresh W w3 (.slice (some ⟨gg2, 0, none⟩) (L.length + 1) cap2) (stP (ps.take (k + 1)) s v).1) := by
              show Fresh _ _ _ _
              rw [HS.out]
              simp only [HI.out]
              rw [← HL.out]
              exact HN2.out
            clear d0 d1 d2 d3
            go_wp2
            exact ⟨⟨k + 1, true, by omega, by go_num, rfl, H1, H2⟩, by simp [intOf]; omega⟩
    · have ek : k = ps.length := by omega
      subst ek
      rw [List.take_length] at hpb hF
      have HE := Lib.hid (stP_end ps s v)
      cases pb with
      | true =>
        have HX : Hid (PsAt wr u7 (setP ps s v) ∧ Keep [] w wr) := by
          have := HE.out
          rw [← hpb.out, if_pos rfl, List.append_nil] at this
          rw [← this]
          exact ⟨hF.out.2.1, HK.out.trans0 hF.out.1⟩
        go_wp2
        go_ret
        exact ⟨_, rfl, HX.out.1, HX.out.2⟩
      | false =>
        have ll := stP_len ps s v
        have hy := HY.out.keep hF.out.1 (by simp)
        have y0 := hy.cell 0
        have y1 := hy.cell 1
        have y2 := hy.cell 2
        simp only [List.getElem?_toArray, List.getElem?_cons_succ, List.getElem?_cons_zero] at y0 y1 y2
        clear hy
        have HF1 := Lib.hid (hF.out.alloc (Obj.cells #[.string s, .int .i64 v.k, .int .i64 v.n, .string v.s] 135))
        have HB1 := Lib.hid (Blk.new wr #[.string s, .int .i64 v.k, .int .i64 v.n, .string v.s] 135)
        have lw1 := hF.out.1.size
        go_wp2_with (at_builtin; refine wpList_append_lies _ rfl _ _ 111 rfl 0 135 i0 _ 4 48 Tryz.underlying111 hi0 hz0 hz1 hz2 rfl (by omega) _ (stP ps s v).1.length ((stP ps s v).1.flatMap encP) rfl HF1.out.2.1 ⟨wr.heap.size, 0, none⟩ 1 1 (encP ⟨s, v⟩) (by rfl) rfl (World.news_of_block HB1.out) (by simp [encP, Value.oneCell']) (by omega) (by unfold maxLen; omega) (by omega) (by omega) (wr.heap.size + 1) (by simp) ?_)
        intro gg cap1 w2 h1 h2 h3 h4
        have HN1 : Hid (Fresh W w2 (.slice (some ⟨gg, 0, none⟩) ((stP ps s v).1.length + 1) cap1) ((stP ps s v).1 ++ [⟨s, v⟩])) := HF1.out.app h1 h2 h3 (by omega)
        clear h1 h2 h3 h4
        have HX : Hid (PsAt w2 (.slice (some ⟨gg, 0, none⟩) ((stP ps s v).1.length + 1) cap1) (setP ps s v) ∧ Keep [] w w2) := by
          have := HE.out
          rw [← hpb.out, if_neg (by simp)] at this
          rw [← this]
          exact ⟨HN1.out.2.1, HK.out.trans0 HN1.out.1⟩
        go_wp2
        go_ret
        exact ⟨_, rfl, HX.out.1, HX.out.2⟩
end Go.Proofs.Hg
namespace Go.Proofs.Hg
open Go Go.RowKit Go.Proofs Go.Shelf
theorem FreshR.drew {T sz : Nat} {α : Type} {enc : α → List Value} {W wr : World} {v : Value} {xs : List α} (h : FreshR T sz enc W wr v xs) : FreshR T sz enc W wr.drew v xs := ⟨h.1.drew, h.2.1.drew, h.2.2⟩
theorem FreshR.drewN {T sz : Nat} {α : Type} {enc : α → List Value} {W wr : World} {v : Value} {xs : List α} (h : FreshR T sz enc W wr v xs) (n : Nat) : FreshR T sz enc W (wr.drewN n) v xs := ⟨h.1.drewN n, h.2.1, h.2.2⟩
theorem mem_flat_take {α : Type} {enc : α → List Value} {xs : List α} {k : Nat} {u : Value} (h : u ∈ (xs.take k).flatMap enc) : u ∈ xs.flatMap enc := by
  obtain ⟨x, hx, hu⟩ := List.mem_flatMap.1 h
  exact List.mem_flatMap.2 ⟨x, List.mem_of_mem_take hx, hu⟩
theorem mem_flat_drop {α : Type} {enc : α → List Value} {xs : List α} {k : Nat} {u : Value} (h : u ∈ (xs.drop k).flatMap enc) : u ∈ xs.flatMap enc := by
  obtain ⟨x, hx, hu⟩ := List.mem_flatMap.1 h
  exact List.mem_flatMap.2 ⟨x, List.mem_of_mem_drop hx, hu⟩
set_option maxRecDepth 100000 in
set_option maxHeartbeats 3200000 in
theorem cutT (w : World) (p : Nat) (g : Gr) (nv ev : Value) (fn : List FN) (fe : List FE) (id : Int) (hl : fe.length ≤ 1000000) (h : GAt 42 w p g nv ev fn fe)
    (k : Nat) (hk : k < fe.length) (HC : Calls Tryz.prog 59 #[.pointer (some ⟨p, 0, none⟩), .int .i64 id] w fun e w' => e = .returned (.int .i64 k) ∧ w' = w) :
    Calls Tryz.prog 56 #[.pointer (some ⟨p, 0, none⟩), .int .i64 id] w fun e w' => e = .returned (.tuple #[]) ∧ ∃ ev' w2, FreshR 115 5 encE w w2 ev' (fe.eraseIdx k) ∧ w' = w2.setCell ⟨p, 1, none⟩ ev' := by
  obtain ⟨i0, hi0, hz0, hz1, hz2⟩ := info_parts infoE
  obtain ⟨b, cap, cur, hv, h1, h2, hb, hs, htk, _⟩ := h.e.form (fun _ => rfl) (by omega)
  unfold maxLen at h2
  have HP := Lib.hid (fun W (hk : Keep [] w W) => h.blk.keep hk (by simp))
  have HB := Lib.hid hb
  have HT := Lib.hid htk
  have H1 := Lib.hid h.oneE
  subst hv
  have c1 := h.blk.cell 1
  have f1 := h.blk.free 1
  have lp := h.blk.lt
  have lb := hb.lt
  simp only [List.getElem?_toArray, List.getElem?_cons_succ, List.getElem?_cons_zero] at c1
  have HE := Lib.hid (List.eraseIdx_eq_take_drop_succ fe k)
  have L1 : Hid ((fe.take k).length = k) := by show _ = _; rw [List.length_take]; omega
  have L2 : Hid ((fe.drop (k + 1)).length = fe.length - (k + 1)) := by show _ = _; rw [List.length_drop]
  have HSA : Hid (∀ W, Keep [] w W → W.cell? ⟨p, 1, none⟩ = some (.slice (some ⟨b, 0, none⟩) fe.length cap) ∧ W.frozen? ⟨p, 1, none⟩ = false) := fun W hk => ⟨by have := (h.blk.keep hk (by simp)).cell 1; simpa using this, (h.blk.keep hk (by simp)).free 1⟩
  have a2 : ((k : Int) + 1).toNat = k + 1 := by omega
  have a4 : k ≤ cap := by omega
  have a5 : k + 1 ≤ cap := by omega
  have a6 : k + 1 ≤ fe.length := by omega
  have a8 : (0 : Int) ≤ (k : Int) + 1 := by omega
  have a9 : ((k : Int) + 1) ≤ (fe.length : Int) := by omega
  have aw : IntKind.i64.wrap ((k : Int) + 1) = (k : Int) + 1 := by rw [IntKind.wrap_i64]; omega
  obtain ⟨Ad, hA, HNW⟩ : ∃ Ad : Addr, (if cap = k + 1 then some (⟨b, 0, none⟩ : Addr) else some ⟨b, (k + 1) * 5, none⟩) = some Ad ∧ Hid (∀ W, Keep [] w W → ∀ j u, ((fe.drop (k + 1)).flatMap encE)[j]? = some u → W.cell? (Ad.add j) = some u) := by
    by_cases hcc : cap = k + 1
    · refine ⟨_, if_pos hcc, fun W hk j u hu => ?_⟩
      rw [List.drop_eq_nil_of_le (by omega)] at hu
      simp at hu
    · exact ⟨_, if_neg hcc, fun W hk => news_drop (enc := encE) (T := 115) (hb.keep hk (by simp)) (fun _ => rfl) htk (k + 1)⟩
  clear hb htk h
  go_enter Tryz.func56, Tryz.ntmps56
  go_wp2_with fail
  refine HC.mono ?_
  rintro e w' ⟨rfl, rfl⟩
  go_wp2_with fail
  go_region_law (first
      | (refine step_append_fr (by rfl) _ _ _ (by rfl) (enc := encE) (sz := 5) (T := 115) (xs := []) (ys := fe.take k) ((FreshR.empty 115 5 encE (Keep.refl _ _)).drew) (fun _ => rfl) i0 _ 64 Tryz.underlying40 hi0 hz0 hz1 hz2 rfl (by omega) ⟨b, 0, none⟩ k cap L1.out.symm (by rfl) (by rfl) (news_take (enc := encE) (T := 115) (show Blk _ b 115 cur from (HB.out.alloc _).drew) (fun _ => rfl) HT.out k) (fun u hu => H1.out u (mem_flat_take hu)) (by have := L1.out; simp only [List.length_nil]; omega) (by omega) k (by simp [L1.out]) ?_; intro B cap1 w2 hF2 hg2; obtain ⟨q0, q1⟩ := HSA.out w2 hF2.1)
      | (refine step_append_fr (by rfl) _ _ _ (by rfl) (enc := encE) (sz := 5) (T := 115) (xs := [] ++ fe.take k) (ys := fe.drop (k + 1)) hF2 (fun _ => rfl) i0 _ 64 Tryz.underlying40 hi0 hz0 hz1 hz2 rfl (by omega) Ad (fe.length - (k + 1)) (cap - (k + 1)) L2.out.symm (by rfl) (by rfl) (HNW.out _ hF2.1) (fun u hu => H1.out u (mem_flat_drop hu)) (by have := L1.out; have := L2.out; simp only [List.nil_append]; omega) (by omega) (k + (fe.length - (k + 1))) (by simp [L1.out, L2.out]) ?_; intro B2 cap2 w3 hF3 hg3; obtain ⟨r0, r1⟩ := HSA.out w3 hF3.1))
  all_goals
    have HF : Hid (FreshR 115 5 encE w' w3 (.slice B2 (k + (fe.length - (k + 1))) cap2) (fe.eraseIdx k)) := by
      show FreshR _ _ _ _ _ _ _
      rw [HE.out]; exact hF3
    clear hF2 hF3 q0 q1 r0 r1 hg2 hg3
    go_wp2
    exact bodyPost_end (v := .tuple #[]) (by simp [results, Tryz.results56, go_sem]) rfl ⟨rfl, _, _, HF.out, rfl⟩
theorem cut_c (w : World) (p : Nat) (g : Gr) (F : List Nat) (id : Int) (hi : GInv g) (h : GA 42 w p g F) (hh : hasE g id = true) :
    Calls Tryz.prog 56 #[.pointer (some ⟨p, 0, none⟩), .int .i64 id] w fun e w' => e = .returned (.tuple #[]) ∧ After 42 w p F (dropE g id) w' := by
  obtain ⟨nv, ev, fn, fe, h, rfl⟩ := h
  have le : fe.length ≤ 1000000 := by have := hi.lenE; have := h.ve.length; omega
  have hc : (fe.map (·.id)).contains id = true := by rw [h.idsE]; exact hh
  obtain ⟨x, hx, he⟩ := List.mem_map.1 (List.contains_iff_mem.1 hc)
  obtain ⟨k, hk, rfl⟩ := List.getElem_of_mem hx
  have hu : (fe.map (·.id)).Pairwise (· < ·) := by rw [h.idsE]; exact hi.upE
  have HC : Calls Tryz.prog 59 #[.pointer (some ⟨p, 0, none⟩), .int .i64 id] w fun e w' => e = .returned (.int .i64 k) ∧ w' = w := by
    refine (redge_c w p g nv ev fn fe id le h).mono ?_
    rintro e w' ⟨i, rfl, hp, rfl⟩
    refine ⟨?_, rfl⟩
    rcases hp with ⟨rfl, hn⟩ | ⟨j, hj, rfl, hje⟩
    · rw [hc] at hn; simp at hn
    · have he2 : fe[k].id = id := he
      have hj2 : fe[j].id = id := hje
      have : j = k := by
        rcases Nat.lt_trichotomy j k with hlt | e | hlt
        · have h1 := (List.pairwise_iff_getElem.1 hu) j k (by simpa using hj) (by simpa using hk) hlt
          simp at h1; omega
        · exact e
        · have h1 := (List.pairwise_iff_getElem.1 hu) k j (by simpa using hk) (by simpa using hj) hlt
          simp at h1; omega
      rw [this]
  refine (cutT w p g nv ev fn fe id le h k hk HC).mono ?_
  rintro e w' ⟨rfl, ev', w2, hf, rfl⟩
  have hkE : k < g.E.length := by rw [← h.ve.length]; exact hk
  have e1 : g.E[k].id = id := by rw [← he]; exact ((h.ve.get k hk hkE).1).symm
  have hv : All2 (EdgeV w) (fe.eraseIdx k) (dropE g id).E := by
    show All2 _ _ (g.E.filter _)
    rw [← erase_filter2 (·.id) g.E k hkE hi.upE id e1]
    exact h.ve.eraseIdx k
  obtain ⟨a, b, c⟩ := h.newE (by decide) hf hv
  exact ⟨rfl, _, ⟨_, _, _, _, a, rfl⟩, b, c⟩
end Go.Proofs.Hg
namespace Go.Proofs.Hg
open Go Go.RowKit Go.Proofs Go.Shelf
theorem plc_has {α : Type} {f : α → Int} {l : List α} {id i : Int} (h : plc f l id i) : (decide (i < 0) = !((l.map f).contains id)) ∧ -1 ≤ i := by
  rcases h with ⟨rfl, h⟩ | ⟨k, hk, rfl, he⟩
  · rw [h]; exact ⟨rfl, by omega⟩
  · have : (l.map f).contains id = true := by
      rw [List.contains_iff_mem]; exact List.mem_map.2 ⟨_, List.getElem_mem hk, he⟩
    rw [this]
    exact ⟨by simp, by omega⟩
theorem atIds_any (fe : List FE) (id : Int) : decide (0 < (atIds fe id).length) = fe.any (atE · id) := by
  unfold atIds
  rw [List.length_map]
  cases h : fe.any (atE · id) with
  | true =>
    obtain ⟨x, hx, ha⟩ := List.any_eq_true.1 h
    have : x ∈ fe.filter (atE · id) := List.mem_filter.2 ⟨hx, ha⟩
    have := List.length_pos_of_mem this
    simpa using this
  | false =>
    have : fe.filter (atE · id) = [] := by
      rw [List.filter_eq_nil_iff]
      intro x hx
      have := List.any_eq_false.1 h x hx
      simpa using this
    rw [this]; rfl
theorem full_cases (a : Nat) (nx : Int) : (1024 : Int) ≤ (a : Int) ∨ (¬ (1024 : Int) ≤ (a : Int) ∧ decide ((4611686018427387903 : Int) < nx) = true) ∨ (¬ (1024 : Int) ≤ (a : Int) ∧ decide ((4611686018427387903 : Int) < nx) = false) := by
  by_cases h : (1024 : Int) ≤ (a : Int)
  · exact .inl h
  · cases h2 : decide ((4611686018427387903 : Int) < nx)
    · exact .inr (.inr ⟨h, rfl⟩)
    · exact .inr (.inl ⟨h, rfl⟩)
section
variable (w : World) (p : Nat) (g : Gr) (nv ev : Value) (fn : List FN) (fe : List FE) (cn ce cr ci cx : Value) (ns es : List ByteArray) (o : Op)
set_option maxRecDepth 100000 in
set_option maxHeartbeats 3200000 in
theorem rmayDN_c (k1 : o.k = 2) (hi : GInv g) (h : GAt 42 w p g nv ev fn fe) :
    Calls Tryz.prog 54 #[.pointer (some ⟨p, 0, none⟩), cat5 cn ce cr ci cx, opV o] w fun e w' => e = .returned (.int .i64 (mayDN g o)) ∧ Keep [] w w' := by
  have K0 := (Keep.alloc0 w (Obj.cells #[cn, ce, cr, ci, cx] 59)).alloc (Obj.cells (encO o).toArray 50)
  have HX := Blk.new2 w (Obj.cells #[cn, ce, cr, ci, cx] 59) (encO o).toArray 50
  have hb := h.blk.keep K0 (by simp)
  obtain ⟨A, ca, hv, _, _⟩ := h.n.slice
  obtain ⟨B, cb, hw, _, _⟩ := h.e.slice
  have l1 := h.vn.length
  have l2 := h.ve.length
  have l3 := hi.lenN
  have l4 := hi.lenE
  rw [← l1] at l3
  rw [← l2] at l4
  have HN := Lib.hid (fun W (hk : Keep [] w W) => rnode_c W p g nv ev fn fe o.id (by omega) (h.keep hk (fun _ _ hm => by simp at hm)))
  have HA := Lib.hid (fun W (hk : Keep [] w W) => rat_c W p g nv ev fn fe o.id (by omega) (h.keep hk (fun _ _ hm => by simp at hm)))
  have E1 : Hid ((fn.map (·.id)).contains o.id = hasN g o.id) := by show _ = _; rw [h.idsN]; rfl
  have E2 : Hid (fe.any (atE · o.id) = g.E.any (atEd · o.id)) := h.any_at o.id
  clear l1 l2 h hi
  subst hv hw
  unfold encO at *
  have HK1 := Lib.hid k1
  clear k1
  have HK := Lib.hid K0
  have Hb := Lib.hid hb
  have HX' := Lib.hid HX
  clear K0 hb HX
  have hs := HX'.out.lt
  go_enter Tryz.func54, Tryz.ntmps54
  go_wp2_with fail
  generalize (w.alloc _).alloc _ = W at *
  have c0 := Hb.out.cell 0
  have c1 := Hb.out.cell 1
  have c2 := Hb.out.cell 2
  simp only [List.getElem?_toArray, List.getElem?_cons_succ, List.getElem?_cons_zero] at c0 c1 c2
  have s0 : (0 : Int) ≤ (fn.length : Int) + (fe.length : Int) := by omega
  have S : Hid (∀ n, Keep [] w (W.drewN n) ∧ Blk (W.drewN n) (w.heap.size + 1) 50 _) := fun n => ⟨HK.out.drewN n, HX'.out.drewN n⟩
  have d0 := fun n => (S.out n).2.cell 0
  have d1 := fun n => (S.out n).2.cell 1
  simp only [List.getElem?_toArray, List.getElem?_cons_succ, List.getElem?_cons_zero] at d0 d1
  rw [HK1.out] at d0
  rcases full_cases (fn.length + fe.length) g.next with hf | ⟨hf, hn⟩ | ⟨hf, hn⟩
  all_goals
    rw [Int.natCast_add] at hf
    try have hd : decide ((1024 : Int) ≤ (fn.length : Int) + (fe.length : Int)) = false := by simpa using hf
    go_quiet (fail)
    go_wp2_with fail
    refine (HN.out _ (S.out _).1).mono ?_
    rintro e w1 ⟨i, rfl, hp, rfl⟩
    obtain ⟨hp, hpi⟩ := plc_has hp
    rw [E1.out] at hp
    cases hh : hasN g o.id with
    | false =>
      have E := Lib.hid (show mayDN g o = 60 from by unfold mayDN; rw [hh]; rfl)
      rw [hh] at hp
      have hlt : i < 0 := by simpa using hp
      clear hp hh
      go_wp2
      go_ret
      exact ⟨ret_i E.out.symm, (S.out _).1⟩
    | true =>
      rw [hh] at hp
      have hlt : ¬ i < 0 := by simpa using hp
      clear hp
      have HH := Lib.hid hh
      clear hh
      go_wp2_with fail
      refine (HA.out _ (S.out _).1).mono ?_
      rintro e w2 ⟨v, rfl, hF⟩
      obtain ⟨C, cc, hcv, _, _⟩ := hF.2.1.slice
      subst hcv
      have hk2 := (S.out _).1.trans0 hF.1
      have X2 := (S.out _).2.keep hF.1 (by simp)
      have d9 := X2.cell 9
      simp only [List.getElem?_toArray, List.getElem?_cons_succ, List.getElem?_cons_zero] at d9
      have ea := atIds_any fe o.id
      rw [E2.out] at ea
      have HK2 := Lib.hid hk2
      clear hF hk2 X2
      obtain ⟨L, hL⟩ : ∃ L, L = (atIds fe o.id).length := ⟨_, rfl⟩
      rw [← hL] at ea ⊢
      clear hL
      cases hc : o.casc
      all_goals
        cases ha : g.E.any (atEd · o.id)
        all_goals
          have E := Lib.hid (show mayDN g o = _ from by unfold mayDN; rw [HH.out, hc, ha])
          rw [ha] at ea
          rw [hc] at d9
          have hl0 : decide (0 < L) = _ := ea
          clear ea hc ha
          first | have hl1 : 0 < L := of_decide_eq_true hl0 | have hl1 : L = 0 := by have := of_decide_eq_false hl0; omega
          clear hl0
          try subst hl1
          go_wp2
          go_ret
          exact ⟨ret_i E.out.symm, HK2.out⟩
end
end Go.Proofs.Hg
namespace Go.Proofs.Hg
open Go Go.RowKit Go.Proofs Go.Shelf
section
variable (w : World) (p : Nat) (g : Gr) (nv ev : Value) (fn : List FN) (fe : List FE) (cn ce cr ci cx : Value) (ns es : List ByteArray) (o : Op)
set_option maxRecDepth 100000 in
set_option maxHeartbeats 3200000 in
theorem rmayDE_c (k1 : o.k = 4) (hi : GInv g) (h : GAt 42 w p g nv ev fn fe) :
    Calls Tryz.prog 54 #[.pointer (some ⟨p, 0, none⟩), cat5 cn ce cr ci cx, opV o] w fun e w' => e = .returned (.int .i64 (mayDE g o)) ∧ Keep [] w w' := by
  have K0 := (Keep.alloc0 w (Obj.cells #[cn, ce, cr, ci, cx] 59)).alloc (Obj.cells (encO o).toArray 50)
  have HC := (Blk.new w #[cn, ce, cr, ci, cx] 59).alloc (Obj.cells (encO o).toArray 50)
  have HX := Blk.new2 w (Obj.cells #[cn, ce, cr, ci, cx] 59) (encO o).toArray 50
  have hb := h.blk.keep K0 (by simp)
  obtain ⟨A, ca, hv, _, _⟩ := h.n.slice
  obtain ⟨B, cb, hw, _, _⟩ := h.e.slice
  have l1 := h.vn.length
  have l2 := h.ve.length
  have l3 := hi.lenN
  have l4 := hi.lenE
  have E := Lib.hid (show fullG g = (decide (1024 ≤ fn.length + fe.length) || decide ((4611686018427387903 : Int) < g.next)) from by unfold fullG; rw [l1, l2])
  rw [← l1] at l3
  rw [← l2] at l4
  have HN := Lib.hid (fun W (hk : Keep [] w W) => redge_c W p g nv ev fn fe o.id (by omega) (h.keep hk (fun _ _ hm => by simp at hm)))
  have E1 : Hid ((fe.map (·.id)).contains o.id = hasE g o.id) := by show _ = _; rw [h.idsE]; rfl
  clear l1 l2 h hi
  subst hv hw
  unfold encO at *
  have HK1 := Lib.hid k1
  clear k1
  have HK := Lib.hid K0
  have Hb := Lib.hid hb
  have HC' := Lib.hid HC
  have HX' := Lib.hid HX
  clear K0 hb HX HC
  have hs := HX'.out.lt
  go_enter Tryz.func54, Tryz.ntmps54
  go_wp2_with fail
  generalize (w.alloc _).alloc _ = W at *
  have c0 := Hb.out.cell 0
  have c1 := Hb.out.cell 1
  have c2 := Hb.out.cell 2
  simp only [List.getElem?_toArray, List.getElem?_cons_succ, List.getElem?_cons_zero] at c0 c1 c2
  have s0 : (0 : Int) ≤ (fn.length : Int) + (fe.length : Int) := by omega
  have S : Hid (∀ n, Keep [] w (W.drewN n) ∧ Blk (W.drewN n) w.heap.size 59 #[cn, ce, cr, ci, cx] ∧ Blk (W.drewN n) (w.heap.size + 1) 50 _) := fun n => ⟨HK.out.drewN n, HC'.out.drewN n, HX'.out.drewN n⟩
  have d0 := fun n => (S.out n).2.2.cell 0
  have d1 := fun n => (S.out n).2.2.cell 1
  simp only [List.getElem?_toArray, List.getElem?_cons_succ, List.getElem?_cons_zero] at d0 d1
  rw [HK1.out] at d0
  rcases full_cases (fn.length + fe.length) g.next with hf | ⟨hf, hn⟩ | ⟨hf, hn⟩
  all_goals
    rw [Int.natCast_add] at hf
    try have hd : decide ((1024 : Int) ≤ (fn.length : Int) + (fe.length : Int)) = false := by simpa using hf
    go_quiet (fail)
    go_wp2_with fail
    refine (HN.out _ (S.out _).1).mono ?_
    rintro e w1 ⟨i, rfl, hp, rfl⟩
    obtain ⟨hp, hpi⟩ := plc_has hp
    rw [E1.out] at hp
    cases hh : hasE g o.id
    all_goals
      have E := Lib.hid (show mayDE g o = _ from by unfold mayDE; rw [hh])
      rw [hh] at hp
      first | have hlt : i < 0 := of_decide_eq_true hp | have hlt : ¬ i < 0 := of_decide_eq_false hp
      clear hp hh
      go_wp2
      go_ret
      exact ⟨ret_i E.out.symm, (S.out _).1⟩
set_option maxRecDepth 100000 in
set_option maxHeartbeats 3200000 in
theorem rmay0_c (k1 : o.k ≠ 1) (k2 : o.k ≠ 2) (k3 : o.k ≠ 3) (k4 : o.k ≠ 4) (k5 : o.k ≠ 5) (hi : GInv g) (h : GAt 42 w p g nv ev fn fe) :
    Calls Tryz.prog 54 #[.pointer (some ⟨p, 0, none⟩), cat5 cn ce cr ci cx, opV o] w fun e w' => e = .returned (.int .i64 (150)) ∧ Keep [] w w' := by
  have K0 := (Keep.alloc0 w (Obj.cells #[cn, ce, cr, ci, cx] 59)).alloc (Obj.cells (encO o).toArray 50)
  have HC := (Blk.new w #[cn, ce, cr, ci, cx] 59).alloc (Obj.cells (encO o).toArray 50)
  have HX := Blk.new2 w (Obj.cells #[cn, ce, cr, ci, cx] 59) (encO o).toArray 50
  have hb := h.blk.keep K0 (by simp)
  obtain ⟨A, ca, hv, _, _⟩ := h.n.slice
  obtain ⟨B, cb, hw, _, _⟩ := h.e.slice
  have l1 := h.vn.length
  have l2 := h.ve.length
  have l3 := hi.lenN
  have l4 := hi.lenE
  have E := Lib.hid (show fullG g = (decide (1024 ≤ fn.length + fe.length) || decide ((4611686018427387903 : Int) < g.next)) from by unfold fullG; rw [l1, l2])
  rw [← l1] at l3
  rw [← l2] at l4
  clear l1 l2 h hi
  subst hv hw
  unfold encO at *
  have HK := Lib.hid K0
  have Hb := Lib.hid hb
  have HC' := Lib.hid HC
  have HX' := Lib.hid HX
  clear K0 hb HX HC
  have hs := HX'.out.lt
  go_enter Tryz.func54, Tryz.ntmps54
  go_wp2_with fail
  generalize (w.alloc _).alloc _ = W at *
  have c0 := Hb.out.cell 0
  have c1 := Hb.out.cell 1
  have c2 := Hb.out.cell 2
  simp only [List.getElem?_toArray, List.getElem?_cons_succ, List.getElem?_cons_zero] at c0 c1 c2
  have s0 : (0 : Int) ≤ (fn.length : Int) + (fe.length : Int) := by omega
  have S : Hid (∀ n, Keep [] w (W.drewN n) ∧ Blk (W.drewN n) w.heap.size 59 #[cn, ce, cr, ci, cx] ∧ Blk (W.drewN n) (w.heap.size + 1) 50 _) := fun n => ⟨HK.out.drewN n, HC'.out.drewN n, HX'.out.drewN n⟩
  have d0 := fun n => (S.out n).2.2.cell 0
  simp only [List.getElem?_toArray, List.getElem?_cons_succ, List.getElem?_cons_zero] at d0
  have q1 : (o.k == 1) = false := by simpa using k1
  have q2 : (o.k == 2) = false := by simpa using k2
  have q3 : (o.k == 3) = false := by simpa using k3
  have q4 : (o.k == 4) = false := by simpa using k4
  have q5 : (o.k == 5) = false := by simpa using k5
  clear k1 k2 k3 k4 k5
  rcases full_cases (fn.length + fe.length) g.next with hf | ⟨hf, hn⟩ | ⟨hf, hn⟩
  all_goals
    rw [Int.natCast_add] at hf
    try have hd : decide ((1024 : Int) ≤ (fn.length : Int) + (fe.length : Int)) = false := by simpa using hf
    go_quiet (fail)
    go_wp2
    go_ret
    exact ⟨rfl, (S.out _).1⟩
end
end Go.Proofs.Hg
