/-
  Contracts of the functions that the statement reaches, and plain lemmas on lists, part 5. Conditions: those that each theorem names.
-/
import Derived.Test.YtemhlafdlflilaaGreatDoorHg4
set_option linter.unusedVariables false
set_option linter.unusedSimpArgs false
namespace Go.Proofs.Hg
open Go Go.RowKit Go.Proofs Go.Shelf
theorem take_drop_get {cur : Array Value} {L : List Value} {q r i : Nat} (h : (cur.toList.take q).drop r = L.drop r) (hr : r ≤ i) (hi : i < q) : cur[i]? = L[i]? := by
  have e := congrArg (fun l => l[i - r]?) h
  simp only [List.getElem?_drop] at e
  rw [show r + (i - r) = i by omega, List.getElem?_take, if_pos hi] at e
  simpa using e
theorem fil_step {fe : List FE} {p : FE → Bool} {k : Nat} (hk : k < fe.length) : (fe.take (k + 1)).filter (fun x => !(p x)) = (fe.take k).filter (fun x => !(p x)) ++ (if p fe[k] = true then [] else [fe[k]]) := by
  rw [List.take_add_one, List.getElem?_eq_getElem hk, List.filter_append]
  congr 1
  by_cases h : p fe[k] = true <;> simp [h]
namespace Mid
variable {w wr w2 : World} {g cap m k : Nat} {fe : List FE} {p : FE → Bool}
theorem keep (h : Mid w wr g cap fe p m k) (hk : Keep [] wr w2) : Mid w w2 g cap fe p m k := by
  obtain ⟨⟨cur, b, r⟩, h2, h3⟩ := h
  exact ⟨⟨cur, b.keep hk (by simp), r⟩, h2.trans0 hk, h3⟩
theorem le (h : Mid w wr g cap fe p m k) : m ≤ k := by
  rw [h.len]; exact Nat.le_trans (List.length_filter_le _ _) (by simp; omega)
theorem load (h : Mid w wr g cap fe p m k) (hk : k < fe.length) : wr.cell? ⟨g, k * 5, none⟩ = some (.int .i64 fe[k].id) ∧ wr.cell? ⟨g, k * 5 + 1, none⟩ = some (.string fe[k].ty) ∧ wr.cell? ⟨g, k * 5 + 2, none⟩ = some (.int .i64 fe[k].fr) ∧ wr.cell? ⟨g, k * 5 + 3, none⟩ = some (.int .i64 fe[k].tt) ∧ wr.cell? ⟨g, k * 5 + 4, none⟩ = some fe[k].pv := by
  obtain ⟨⟨cur, b, hs, h1, h2⟩, _, _⟩ := h
  have hc : ∀ j, j < 5 → wr.cell? ⟨g, k * 5 + j, none⟩ = (encE fe[k])[j]? := fun j hj => by
    rw [b.cell, take_drop_get h2 (by omega) (by omega), flat_get (enc := encE) (k := 5) (fun _ => rfl) fe k j hk hj]
  exact ⟨hc 0 (by omega), hc 1 (by omega), hc 2 (by omega), hc 3 (by omega), hc 4 (by omega)⟩
theorem skip (h : Mid w wr g cap fe p m k) (hk : k < fe.length) (hp : p fe[k] = true) : Mid w wr g cap fe p m (k + 1) := by
  obtain ⟨⟨cur, b, hs, h1, h2⟩, h3, h4⟩ := h
  have e := fil_step (p := p) hk
  rw [if_pos hp, List.append_nil] at e
  refine ⟨⟨cur, b, hs, by rw [e]; exact h1, ?_⟩, h3, by rw [e]; exact h4⟩
  have := congrArg (List.drop 5) h2
  simpa [List.drop_drop, Nat.succ_mul] using this
theorem free (h : Mid w wr g cap fe p m k) (i : Nat) : wr.frozen? ⟨g, i, none⟩ = false := by
  obtain ⟨⟨cur, b, hs, h1, h2⟩, h3, h4⟩ := h
  exact b.free i
theorem some' (h : Mid w wr g cap fe p m k) (hm : m < k) (hc : fe.length ≤ cap) (hk : k ≤ fe.length) (j : Nat) (hj : j < 5) : ∃ v, wr.cell? ⟨g, m * 5 + j, none⟩ = some v := by
  obtain ⟨⟨cur, b, hs, h1, h2⟩, h3, h4⟩ := h
  exact ⟨_, by rw [b.cell, Array.getElem?_eq_getElem (show m * 5 + j < cur.size by omega)]⟩
theorem put (h : Mid w wr g cap fe p m k) (hk : k < fe.length) (hm : m < k) (hc : fe.length ≤ cap) (hp : p fe[k] = false) (hT : ∃ cs, Blk w g 115 cs) : Mid w (wr.setCells g (m * 5) (encE fe[k])) g cap fe p (m + 1) (k + 1) := by
  obtain ⟨⟨cur, b, hs, h1, h2⟩, h3, h4⟩ := h
  obtain ⟨cs, hcs⟩ := hT
  have e := fil_step (p := p) hk
  rw [if_neg (by rw [hp]; simp)] at e
  have l5 : (encE fe[k]).length = 5 := rfl
  refine ⟨⟨_, b.setCells _ _ _ _ (by rw [l5]; omega), by rw [layAt_size _ _ _ (by rw [l5]; omega)]; exact hs, ?_, ?_⟩, ?_, by rw [e, List.length_append, ← h4]; rfl⟩
  · rw [layAt_take_all _ _ _ _ (by rw [l5]; omega) (by omega), h1, e, List.flatMap_append]; simp
  · rw [List.drop_take, layAt_drop _ _ _ _ (by rw [l5]; omega) (by omega), ← List.drop_take]
    have := congrArg (List.drop 5) h2
    simpa [List.drop_drop, Nat.succ_mul] using this
  · exact h3.grown (grownBy_setCells g _ _ _) (fun q hq => .inr ⟨by simp at hq; simp [hq], cs, _, by simp at hq; subst hq; exact hcs, by decide⟩)
end Mid
set_option maxRecDepth 100000 in
set_option maxHeartbeats 3200000 in
theorem delF_c (w : World) (ev : Value) (fe : List FE) (f : Nat) (caps : Array Value) (p : FE → Bool) (hl : fe.length ≤ 1000000) (h1c : ∀ x ∈ fe, ∃ A n c, x.pv = .slice A n c) (eg : Enters f) (hp : PredF ev.ownBlock.toList f caps w p) (h : Row w 115 5 encE ev fe) :
    Calls Tryz.prog 111 #[ev, .func (.func f) #[] caps] w fun e w' => ∃ v', e = .returned v' ∧ Row w' 115 5 encE v' (fe.filter fun x => !(p x)) ∧ v'.ownBlock = ev.ownBlock ∧ Keep ev.ownBlock.toList w w' := by
  rcases Nat.eq_zero_or_pos fe.length with h0 | h0
  · have HI := idxE2_c w ev fe f caps p _ eg hp h
    have HF : Hid (fe.filter (fun x => !(p x)) = fe) := by
      show _ = _
      rw [List.eq_nil_of_length_eq_zero h0]; rfl
    have HR := Lib.hid h
    clear h hp
    go_enter Tryz.func111, Tryz.ntmps111
    go_wp2_with fail
    refine HI.mono ?_
    rintro e w1 ⟨i, rfl, hd, hk1⟩
    rcases hd with ⟨rfl, _⟩ | ⟨k0, hk0, _⟩
    · go_wp2
      go_ret
      exact ⟨_, rfl, by rw [HF.out]; exact HR.out.keep hk1 (by simp), rfl, hk1.mono (fun _ hm => by simp at hm)⟩
    · omega
  obtain ⟨g, cap, cur, hv, h1, h2, hb, hs, htk, _⟩ := h.form (fun _ => rfl) (by omega)
  subst hv
  have hP : PredF [g] f caps w p := hp
  have HI := idxE2_c w _ fe f caps p [g] eg hP h
  have HT := Lib.hid hb
  have HM := Lib.hid h2
  have HR := Lib.hid h
  have H0 : Hid (∀ w1 k, Keep [] w w1 → (hk : k < fe.length) → p fe[k] = true → (∀ j (hj : j < fe.length), j < k → p fe[j] = false) → Mid w w1 g cap fe p k (k + 1)) := fun w1 k hK hk hpk hj => by
    have e1 : (fe.take k).filter (fun x => !(p x)) = fe.take k := by
      rw [List.filter_eq_self]
      intro x hx
      obtain ⟨j, hj', rfl⟩ := List.getElem_of_mem hx
      rw [List.length_take] at hj'
      have := hj j (by omega) (by omega)
      simp [this]
    have e := fil_step (p := p) hk
    rw [if_pos hpk, List.append_nil, e1] at e
    refine ⟨⟨cur, hb.keep hK (by simp), hs, ?_, ?_⟩, hK.mono (fun _ hm => by simp at hm), by rw [e]; simp; omega⟩
    · rw [e, flat_take (enc := encE) (k := 5) (fun _ => rfl), ← htk, List.take_take, Nat.min_eq_left (by omega)]
    · rw [htk]
  have eg' : ∀ args w, Sem.run Tryz.prog (callFunc f args) w = .ok (.enter f args) w := eg
  unfold maxLen at h2
  clear h hb htk hs hp
  go_enter Tryz.func111, Tryz.ntmps111
  go_wp2_with fail
  refine HI.mono ?_
  rintro e w1 ⟨i, rfl, hd, hk1⟩
  rcases hd with ⟨rfl, hnone⟩ | ⟨k0, hk0, rfl, hp0, hj0⟩
  · have HF : Hid (fe.filter (fun x => !(p x)) = fe) := by
      show _ = _
      rw [List.filter_eq_self]
      intro x hx
      obtain ⟨j, hj', rfl⟩ := List.getElem_of_mem hx
      simp [hnone j hj']
    clear hnone
    go_wp2
    go_ret
    exact ⟨_, rfl, by rw [HF.out]; exact HR.out.keep hk1 (by simp), rfl, hk1.mono (fun _ hm => by simp at hm)⟩
  · have M0 := Lib.hid (H0.out w1 k0 hk1 hk0 hp0 hj0)
    clear hj0 hp0 hk1
    have e0 : ((k0 : Int) == -1) = false := by simp
    go_wp2_with fail
    try simp only [e0]
    go_loopw [5, 6] (fun i j wr => ∃ m k : Nat, m < k ∧ k ≤ fe.length ∧ i = .int .i64 m ∧ j = .int .i64 k ∧ Hid (Mid w wr g cap fe p m k)) (fun i j _ => fe.length - (intOf j).toNat)
    case atStart => exact ⟨k0, k0 + 1, by omega, by omega, rfl, by go_num, M0.out⟩
    case round =>
      obtain ⟨m, k, hm, hk, rfl, rfl, hM⟩ := hrel
      by_cases hlt : k < fe.length
      · obtain ⟨c0, c1, c2, c3, c4⟩ := hM.out.load hlt
        obtain ⟨A, n, c, hpv⟩ := h1c _ (List.getElem_mem hlt)
        have hPk := hP (wr.alloc (Obj.cells #[.int .i64 fe[k].id, .string fe[k].ty, .int .i64 fe[k].fr, .int .i64 fe[k].tt, .slice A n c] 115)) fe[k] (hM.out.grow.alloc _)
        have hE : encE fe[k] = [.int .i64 fe[k].id, .string fe[k].ty, .int .i64 fe[k].fr, .int .i64 fe[k].tt, .slice A n c] := by unfold encE; rw [hpv]
        unfold feV at hPk
        rw [hpv] at c4 hPk
        go_wp2_with fail
        refine hPk.mono ?_
        rintro e w2 ⟨rfl, hk2⟩
        have hB := (Blk.new wr #[.int .i64 fe[k].id, .string fe[k].ty, .int .i64 fe[k].fr, .int .i64 fe[k].tt, .slice A n c] 115).keep hk2 (by simp)
        have M2 := hM.out.keep ((Keep.alloc0 wr _).trans0 hk2)
        clear c0 c1 c2 c3 c4 hPk
        cases hq : p fe[k] with
        | true =>
          have M3 := Lib.hid (M2.skip hlt hq)
          clear hq M2 hB
          go_wp2
          exact ⟨⟨m, k + 1, by omega, by omega, rfl, by go_num, M3.out⟩, by simp [intOf]; omega⟩
        | false =>
          have M3 := M2.put hlt hm h1 hq ⟨_, HT.out⟩
          rw [hE] at M3
          have M3 := Lib.hid M3
          have d0 := hB.cell 0
          have d1 := hB.cell 1
          have d2 := hB.cell 2
          have d3 := hB.cell 3
          have d4 := hB.cell 4
          simp only [List.getElem?_toArray, List.getElem?_cons_succ, List.getElem?_cons_zero] at d0 d1 d2 d3 d4
          have f0 := M2.free (m * 5)
          have f1 := M2.free (m * 5 + 1)
          have f2 := M2.free (m * 5 + 2)
          have f3 := M2.free (m * 5 + 3)
          have f4 := M2.free (m * 5 + 4)
          obtain ⟨v0, s0⟩ := M2.some' hm h1 hk 0 (by omega)
          obtain ⟨v1, s1⟩ := M2.some' hm h1 hk 1 (by omega)
          obtain ⟨v2, s2⟩ := M2.some' hm h1 hk 2 (by omega)
          obtain ⟨v3, s3⟩ := M2.some' hm h1 hk 3 (by omega)
          obtain ⟨v4, s4⟩ := M2.some' hm h1 hk 4 (by omega)
          rw [Nat.add_zero] at s0
          have hgt : m < fe.length := by omega
          clear hq M2 hB
          go_wp2
          exact ⟨⟨m + 1, k + 1, by omega, by omega, by go_num, by go_num, M3.out⟩, by simp [intOf]; omega⟩
      · have ek : k = fe.length := by omega
        subst ek
        obtain ⟨⟨cur, hb, hs, ht, _⟩, hg, hml⟩ := hM.out
        rw [List.take_length] at ht hml
        obtain ⟨w2, zs, z1, hr, B2, G2⟩ := run_clear_blk (P := Tryz.prog) wr 40 115 0 5 (.agg #[.int .i64 0, .string ⟨#[]⟩, .int .i64 0, .int .i64 0, .slice none 0 0]) (by rfl) (fun w => by obtain ⟨i0, hi0, hz0, hz1, hz2⟩ := info_parts infoE; simp [zeroValue, typeInfo, hi0, hz0]) (by rfl) (by intro u hu; simp [Value.cells] at hu; rcases hu with rfl | rfl | rfl | rfl | rfl <;> rfl) g (m * 5) (fe.length - m) (cap - m) 115 cur (by omega) (by omega) hb (by omega)
        have HX : Hid (Row w2 115 5 encE (.slice (some ⟨g, 0, none⟩) m cap) (fe.filter fun x => !(p x))) := row_of hml B2 (by rw [layAt_size _ _ _ (by omega)]; exact hs) (by omega) HM.out (by rw [layAt_take_le _ _ _ _ (Nat.le_refl _) (by omega)]; exact ht) (fun _ => rfl)
        have HY : Hid (Keep [g] w w2) := hg.grown G2 (fun q hq => .inr ⟨by simp at hq; simp [hq], _, _, by simp at hq; subst hq; exact HT.out, by decide⟩)
        have a1 : ¬ (cap = m) := by omega
        have a2 : m ≤ fe.length := by omega
        have a3 : m ≤ cap := by omega
        clear hb hs ht hg hml B2 G2 hM
        go_wp2_with (simp only [hr])
        go_ret
        exact ⟨_, rfl, HX.out, rfl, HY.out⟩
end Go.Proofs.Hg
namespace Go.Proofs.Hg
open Go Go.RowKit Go.Proofs Go.Shelf
theorem All2.eraseIdx {α β : Type} {R : α → β → Prop} {l : List α} {m : List β} (h : All2 R l m) (i : Nat) : All2 R (l.eraseIdx i) (m.eraseIdx i) := by
  rw [List.eraseIdx_eq_take_drop_succ, List.eraseIdx_eq_take_drop_succ]; exact (h.take i).append (h.drop _)
theorem erase_filter {α : Type} (f : α → Int) : ∀ (l : List α) (i : Nat) (hi : i < l.length), (l.map f).Pairwise (· < ·) → l.eraseIdx i = l.filter (fun x => !decide (f x = f l[i]))
  | a :: l, 0, _, h => by
    simp only [List.map_cons, List.pairwise_cons, List.mem_map, forall_exists_index, and_imp, forall_apply_eq_imp_iff₂] at h
    simp only [List.eraseIdx_cons_zero, List.getElem_cons_zero]
    rw [List.filter_cons_of_neg (by simp), eq_comm, List.filter_eq_self]
    intro x hx
    have := h.1 x hx
    simp; omega
  | a :: l, i + 1, hi, h => by
    simp only [List.map_cons, List.pairwise_cons, List.mem_map, forall_exists_index, and_imp, forall_apply_eq_imp_iff₂] at h
    have hi' : i < l.length := by simpa using hi
    have := h.1 l[i] (List.getElem_mem hi')
    simp only [List.eraseIdx_cons_succ, List.getElem_cons_succ]
    rw [List.filter_cons_of_pos (by simp; omega), erase_filter f l i hi' h.2]
theorem PsAt.form {w : World} {v : Value} {ps : List Prp} (h : PsAt w v ps) : ∃ A n c, v = .slice A n c := by
  rcases h.2 with ⟨rfl, _⟩ | ⟨g, cap, cur, rfl, _⟩
  · exact ⟨_, _, _, rfl⟩
  · exact ⟨_, _, _, rfl⟩
theorem All2.left {α β : Type} {R : α → β → Prop} {l : List α} {m : List β} (h : All2 R l m) : ∀ x ∈ l, ∃ y, R x y := by
  induction h with
  | nil => intro x hx; simp at hx
  | cons h _ ih =>
    intro x hx
    rcases List.mem_cons.1 hx with rfl | hx
    · exact ⟨_, h⟩
    · exact ih x hx
theorem GAt.pvN {T p : Nat} {w : World} {g : Gr} {nv ev : Value} {fn : List FN} {fe : List FE} (h : GAt T w p g nv ev fn fe) : ∀ x ∈ fn, ∃ A n c, x.pv = .slice A n c := fun x hx => by
  obtain ⟨y, hy⟩ := h.vn.left x hx; exact hy.2.2.form
theorem GAt.pvE {T p : Nat} {w : World} {g : Gr} {nv ev : Value} {fn : List FN} {fe : List FE} (h : GAt T w p g nv ev fn fe) : ∀ x ∈ fe, ∃ A n c, x.pv = .slice A n c := fun x hx => by
  obtain ⟨y, hy⟩ := h.ve.left x hx; exact hy.2.2.2.2.form
theorem GAt.oneN {T p : Nat} {w : World} {g : Gr} {nv ev : Value} {fn : List FN} {fe : List FE} (h : GAt T w p g nv ev fn fe) : ∀ v ∈ fn.flatMap encN, v.oneCell' = true := fun v hv => by
  obtain ⟨x, hx, hv⟩ := List.mem_flatMap.1 hv
  obtain ⟨A, n, c, e⟩ := h.pvN x hx
  simp only [encN, e, List.mem_cons, List.not_mem_nil, or_false] at hv
  rcases hv with rfl | rfl | rfl <;> rfl
theorem GAt.oneE {T p : Nat} {w : World} {g : Gr} {nv ev : Value} {fn : List FN} {fe : List FE} (h : GAt T w p g nv ev fn fe) : ∀ v ∈ fe.flatMap encE, v.oneCell' = true := fun v hv => by
  obtain ⟨x, hx, hv⟩ := List.mem_flatMap.1 hv
  obtain ⟨A, n, c, e⟩ := h.pvE x hx
  simp only [encE, e, List.mem_cons, List.not_mem_nil, or_false] at hv
  rcases hv with rfl | rfl | rfl | rfl | rfl <;> rfl
theorem keep_of_grown {w w1 : World} {v : Value} {T sz : Nat} {α : Type} {enc : α → List Value} {xs : List α} (h : Row w T sz enc v xs) (hT : T ≠ 135) (hg : w.grownBy w1 v.ownBlock) : Keep v.ownBlock.toList w w1 :=
  (Keep.refl _ w).grown hg (fun k e => .inr ⟨by simp [e], by obtain ⟨c, hc⟩ := h.typed k e; exact ⟨c, _, hc, hT⟩⟩)
theorem ne_blocks {T T' sz sz' : Nat} {α β : Type} {enc : α → List Value} {enc' : β → List Value} {w : World} {v v' : Value} {xs : List α} {ys : List β} (h : Row w T sz enc v xs) (h' : Row w T' sz' enc' v' ys) (hT : T ≠ T') : ∀ k, v.ownBlock = some k → k ∉ v'.ownBlock.toList := fun k e hm => by
  obtain ⟨c, hc⟩ := h.typed k e
  obtain ⟨c', hc'⟩ := h'.typed k (by simpa using hm)
  rw [hc] at hc'; injection hc' with hc'; injection hc' with _ hc' _; exact hT hc'
theorem GAt.updE {T p : Nat} {w w2 : World} {g : Gr} {nv ev ev' : Value} {fn : List FN} {fe fe' : List FE} {E' : List Edge} (h : GAt T w p g nv ev fn fe) (hT : T ≠ 135 ∧ T ≠ 113 ∧ T ≠ 115) (hk : Keep ev.ownBlock.toList w w2) (hr : Row w2 115 5 encE ev' fe') (he : ev'.ownBlock = ev.ownBlock) (hv : All2 (EdgeV w) fe' E') :
    GAt T (w2.setCell ⟨p, 1, none⟩ ev') p ⟨g.N, E', g.next⟩ nv ev' fn fe' ∧ Keep (foot p nv ev) w (w2.setCell ⟨p, 1, none⟩ ev') ∧ foot p nv ev' = foot p nv ev := by
  have hp : p ∉ ev.ownBlock.toList := fun hm => by have := h.e.ne_blk h.blk (Ne.symm hT.2.2); simp at hm; exact this hm.symm
  have r2 := h.blk.keep hk hp
  have n2 := h.n.keep hk (ne_blocks h.n h.e (by decide))
  have k2 : Keep (foot p nv ev) w w2 := hk.mono (fun k hm => .inl (mem_foot.2 (.inr (.inr (by simpa using hm)))))
  have k3 := k2.setBlk (i := 1) (v := ev') h.blk hT.1 (mem_foot.2 (.inl rfl))
  refine ⟨⟨r2.set 1 _, n2.set_blk r2 (Ne.symm hT.2.1) 1, hr.set_blk r2 (Ne.symm hT.2.2) 1, (keep_views (g := ⟨g.N, E', g.next⟩) k3 h.vn hv).1, (keep_views (g := ⟨g.N, E', g.next⟩) k3 h.vn hv).2⟩, k3, by unfold foot; rw [he]⟩
theorem GAt.updN {T p : Nat} {w w2 : World} {g : Gr} {nv ev nv' : Value} {fn fn' : List FN} {fe : List FE} {N' : List Node} (h : GAt T w p g nv ev fn fe) (hT : T ≠ 135 ∧ T ≠ 113 ∧ T ≠ 115) (hk : Keep nv.ownBlock.toList w w2) (hr : Row w2 113 3 encN nv' fn') (he : nv'.ownBlock = nv.ownBlock) (hv : All2 (NodeV w) fn' N') :
    GAt T (w2.setCell ⟨p, 0, none⟩ nv') p ⟨N', g.E, g.next⟩ nv' ev fn' fe ∧ Keep (foot p nv ev) w (w2.setCell ⟨p, 0, none⟩ nv') ∧ foot p nv' ev = foot p nv ev := by
  have hp : p ∉ nv.ownBlock.toList := fun hm => by have := h.n.ne_blk h.blk (Ne.symm hT.2.1); simp at hm; exact this hm.symm
  have r2 := h.blk.keep hk hp
  have n2 := h.e.keep hk (ne_blocks h.e h.n (by decide))
  have k2 : Keep (foot p nv ev) w w2 := hk.mono (fun k hm => .inl (mem_foot.2 (.inr (.inl (by simpa using hm)))))
  have k3 := k2.setBlk (i := 0) (v := nv') h.blk hT.1 (mem_foot.2 (.inl rfl))
  refine ⟨⟨r2.set 0 _, hr.set_blk r2 (Ne.symm hT.2.1) 0, n2.set_blk r2 (Ne.symm hT.2.2) 0, (keep_views (g := ⟨N', g.E, g.next⟩) k3 hv h.ve).1, (keep_views (g := ⟨N', g.E, g.next⟩) k3 hv h.ve).2⟩, k3, by unfold foot; rw [he]⟩
def dropE (g : Gr) (id : Int) : Gr := ⟨g.N, g.E.filter (fun x => !decide (x.id = id)), g.next⟩
def dropN (g : Gr) (id : Int) : Gr := ⟨g.N.filter (fun x => !decide (x.id = id)), g.E.filter (fun x => !(atEd x id)), g.next⟩
set_option maxRecDepth 100000 in
set_option maxHeartbeats 1600000 in
theorem dropEdge_c (w : World) (p : Nat) (g : Gr) (nv ev : Value) (fn : List FN) (fe : List FE) (o : Op) (hi : GInv g) (h : GAt 106 w p g nv ev fn fe) (hh : hasE g o.id = true) :
    Calls Tryz.prog 91 #[.pointer (some ⟨p, 0, none⟩), opV o] w fun e w' => e = .returned (.int .i64 0) ∧
      ∃ ev' fe', GAt 106 w' p (dropE g o.id) nv ev' fn fe' ∧ Keep (foot p nv ev) w w' ∧ foot p nv ev' = foot p nv ev := by
  have K0 := Keep.alloc0 w (Obj.cells (encO o).toArray 50)
  have HX := Blk.new w (encO o).toArray 50
  have HG := Lib.hid (h.keep K0 (fun _ _ hm => by simp at hm))
  have HI := Lib.hid hi
  have HH := Lib.hid hh
  unfold encO at *
  have HK := Lib.hid K0
  clear K0 h hi hh
  go_enter Tryz.func91, Tryz.ntmps91
  go_wp2_with fail
  generalize w.alloc _ = W at *
  refine (edge_c W p g nv ev fn fe o.id HI.out HG.out).mono ?_
  rintro e w1 ⟨i, rfl, hf, hk1⟩
  obtain ⟨hl, hid⟩ := hf HH.out
  have G1 := HG.out.keep hk1 (fun _ _ hm => by simp at hm)
  have hw1 := HK.out.trans0 hk1
  have c0 := G1.blk.cell 1
  simp only [List.getElem?_toArray, List.getElem?_cons_succ, List.getElem?_cons_zero] at c0
  have HG1 := Lib.hid G1
  have HW1 := Lib.hid hw1
  have HE : Hid (fe.eraseIdx i = fe.eraseIdx i ∧ All2 (EdgeV w1) (fe.eraseIdx i) (dropE g o.id).E) := by
    refine ⟨rfl, ?_⟩
    have hiE : i < g.E.length := by rw [← G1.ve.length]; exact hl
    have e1 : g.E[i].id = o.id := by rw [← hid]; exact ((G1.ve.get i hl hiE).1).symm
    have e := erase_filter (·.id) g.E i hiE HI.out.upE
    rw [e1] at e
    show All2 _ _ (g.E.filter _)
    rw [← e]
    exact G1.ve.eraseIdx i
  have ll : fe.length ≤ 1000000 := by have := HI.out.lenE; have := G1.ve.length; omega
  clear hk1 G1 hw1 hid hf
  go_wp2_with fail
  refine (delE_c w1 ev fe i hl ll HG1.out.oneE HG1.out.e).mono ?_
  rintro e w2 ⟨v', rfl, hr, he, hg⟩
  have HU := Lib.hid (HG1.out.updE (by decide) (keep_of_grown HG1.out.e (by decide) hg) hr he HE.out.2)
  have hb := HG1.out.blk.keep (keep_of_grown HG1.out.e (by decide) hg) (fun hm => by have := HG1.out.e.ne_blk HG1.out.blk (by decide); simp at hm; exact this hm.symm)
  have d1 := hb.cell 1
  have f1 := hb.free 1
  simp only [List.getElem?_toArray, List.getElem?_cons_succ, List.getElem?_cons_zero] at d1
  obtain ⟨A, cap, hv, _, _⟩ := hr.slice
  subst hv
  clear hr he hg hb
  go_wp2
  go_ret
  refine ⟨rfl, _, _, HU.out.1, (HW1.out.mono (fun _ hm => by simp at hm)).trans HU.out.2.1 (fun _ hm => .inl hm), HU.out.2.2⟩
end Go.Proofs.Hg
namespace Go.Proofs.Hg
open Go Go.RowKit Go.Proofs Go.Shelf
theorem dropP_c (x : FE) (b : Nat) (id : Int) (w : World) (hc : w.cell? ⟨b, 1, none⟩ = some (.int .i64 id)) :
    Calls Tryz.prog 112 (#[feV x] ++ #[.pointer (some ⟨b, 0, none⟩)]) w fun e w' => e = .returned (.bool (atE x id)) ∧ Keep [] w w' := by
  have d1 : (w.alloc (Obj.cells #[.int .i64 x.id, .string x.ty, .int .i64 x.fr, .int .i64 x.tt, x.pv] 115)).cell? ⟨b, 1, none⟩ = some (.int .i64 id) := by rw [World.cell?_alloc_lt _ _ _ (World.block_lt_of_cell? w _ hc)]; exact hc
  go_enter Tryz.func112, Tryz.ntmps112
  go_wp2_with fail
  refine (at_c x id _).mono ?_
  rintro e w' ⟨rfl, hk⟩
  go_wp2
  go_ret
  exact ⟨rfl, (Keep.alloc0 _ _).trans0 hk⟩
theorem erase_filter2 {α : Type} (f : α → Int) (l : List α) (i : Nat) (hi : i < l.length) (h : (l.map f).Pairwise (· < ·)) (id : Int) (he : f l[i] = id) : l.eraseIdx i = l.filter (fun x => !decide (f x = id)) := by
  subst he; exact erase_filter f l i hi h
set_option maxRecDepth 100000 in
set_option maxHeartbeats 1600000 in
theorem dropNode_c (w : World) (p : Nat) (g : Gr) (nv ev : Value) (fn : List FN) (fe : List FE) (o : Op) (hi : GInv g) (h : GAt 106 w p g nv ev fn fe) (hh : hasN g o.id = true) :
    Calls Tryz.prog 87 #[.pointer (some ⟨p, 0, none⟩), opV o] w fun e w' => e = .returned (.int .i64 0) ∧
      ∃ nv' ev' fn' fe', GAt 106 w' p (dropN g o.id) nv' ev' fn' fe' ∧ Keep (foot p nv ev) w w' ∧ foot p nv' ev' = foot p nv ev := by
  have K0 := Keep.alloc0 w (Obj.cells (encO o).toArray 50)
  have HX := Blk.new w (encO o).toArray 50
  have HG := Lib.hid (h.keep K0 (fun _ _ hm => by simp at hm))
  have HI := Lib.hid hi
  have HH := Lib.hid hh
  have HQ : Hid (∀ k, k ∈ foot p nv ev → k < w.heap.size) := h.lt
  unfold encO at *
  have HK := Lib.hid K0
  clear K0 h hi hh
  go_enter Tryz.func87, Tryz.ntmps87
  go_wp2_with fail
  have hs := HX.lt
  generalize w.alloc _ = W at *
  refine (node_c W p g nv ev fn fe o.id HI.out HG.out).mono ?_
  rintro e w1 ⟨i, rfl, hf, hk1⟩
  obtain ⟨hl, hid⟩ := hf HH.out
  have G1 := HG.out.keep hk1 (fun _ _ hm => by simp at hm)
  have hw1 := HK.out.trans0 hk1
  have X1 := Lib.hid (HX.keep hk1 (by simp))
  have c0 := G1.blk.cell 0
  simp only [List.getElem?_toArray, List.getElem?_cons_succ, List.getElem?_cons_zero] at c0
  have HG1 := Lib.hid G1
  have HW1 := Lib.hid hw1
  have HE : Hid (All2 (NodeV w1) (fn.eraseIdx i) (dropN g o.id).N) := by
    have hiE : i < g.N.length := by rw [← G1.vn.length]; exact hl
    have e1 : g.N[i].id = o.id := by rw [← hid]; exact ((G1.vn.get i hl hiE).1).symm
    have e := erase_filter2 (·.id) g.N i hiE HI.out.upN o.id e1
    show All2 _ _ (g.N.filter _)
    rw [← e]
    exact G1.vn.eraseIdx i
  have ll : fn.length ≤ 1000000 := by have := HI.out.lenN; have := G1.vn.length; omega
  have le : fe.length ≤ 1000000 := by have := HI.out.lenE; have := G1.ve.length; omega
  clear hk1 G1 hw1 hid hf HX
  go_wp2_with fail
  refine (delN_c w1 nv fn i hl ll HG1.out.oneN HG1.out.n).mono ?_
  rintro e w2 ⟨v', rfl, hr, he, hg⟩
  have KN := keep_of_grown HG1.out.n (by decide) hg
  have HU := Lib.hid (HG1.out.updN (by decide) KN hr he HE.out)
  have hb := HG1.out.blk.keep KN (fun hm => by have := HG1.out.n.ne_blk HG1.out.blk (by decide); simp at hm; exact this hm.symm)
  have X2 := X1.out.keep KN (fun hm => by have := HQ.out w.heap.size (mem_foot.2 (.inr (.inl (by simpa using hm)))); omega)
  have hpx : w.heap.size ≠ p := by have := HQ.out p (mem_foot.2 (.inl rfl)); omega
  have X3 := Lib.hid (X2.far (a := ⟨p, 0, none⟩) hpx v')
  have d1 := hb.cell 0
  have f1 := hb.free 0
  simp only [List.getElem?_toArray, List.getElem?_cons_succ, List.getElem?_cons_zero] at d1
  obtain ⟨A, cap, hv, _, _⟩ := hr.slice
  subst hv
  obtain ⟨w3, hw3⟩ : ∃ w3, w3 = w2.setCell ⟨p, 0, none⟩ (.slice A (fn.eraseIdx i).length cap) := ⟨_, rfl⟩
  rw [← hw3] at HU X3
  have d2 := HU.out.1.blk.cell 1
  simp only [List.getElem?_toArray, List.getElem?_cons_succ, List.getElem?_cons_zero] at d2
  rw [hw3] at d2
  clear hr he hg hb KN X2
  go_wp2_with fail
  rw [← hw3]
  clear d1 f1 d2
  have hP : PredF ev.ownBlock.toList 112 #[.pointer (some ⟨w.heap.size, 0, none⟩)] w3 (atE · o.id) := fun V x hK => by
    refine dropP_c x _ o.id V ?_
    exact ((X3.out.keep hK (fun hm => by have := HQ.out w.heap.size (mem_foot.2 (.inr (.inr (by simpa using hm)))); omega)).cell 1)
  refine (delF_c w3 ev fe _ _ (atE · o.id) le HU.out.1.pvE (enters_of Tryz.func112 (by kernel_rfl) rfl) hP HU.out.1.e).mono ?_
  rintro e w4 ⟨v4, rfl, hr, he, hk⟩
  have HV := Lib.hid (HU.out.1.updE (E' := (dropN g o.id).E) (by decide) hk hr he (HU.out.1.ve.filter (fun a b hr => by unfold atE atEd; rw [hr.2.2.1, hr.2.2.2.1])))
  have hb := HU.out.1.blk.keep hk (fun hm => by have := HU.out.1.e.ne_blk HU.out.1.blk (by decide); simp at hm; exact this hm.symm)
  have d1 := hb.cell 1
  have f1 := hb.free 1
  simp only [List.getElem?_toArray, List.getElem?_cons_succ, List.getElem?_cons_zero] at d1
  obtain ⟨B, capB, hv, _, _⟩ := hr.slice
  subst hv
  clear hr he hb hP hk hw3
  go_wp2
  go_ret
  refine ⟨rfl, _, _, _, _, HV.out.1, ?_, HV.out.2.2.trans HU.out.2.2⟩
  exact ((HW1.out.mono (fun _ hm => by simp at hm)).trans HU.out.2.1 (fun _ hm => .inl hm)).trans HV.out.2.1 (fun _ hm => .inl (by rw [HU.out.2.2] at hm; exact hm))
end Go.Proofs.Hg
namespace Go.Proofs.Hg
open Go Go.RowKit Go.Proofs Go.Shelf
theorem infoP : (Tryz.prog.info? 135).map (fun i => (i.zero, i.size, i.bytes)) = some (some (.agg #[.string ⟨#[]⟩, .int .i64 0, .int .i64 0, .string ⟨#[]⟩]), 4, 48) := by kernel_rfl
section
variable {P : Program}
theorem run_append_zeros (w : World) (t tn ty e : TypeId) (i : TypeInfo) (z : Value) (size bytes : Nat) (kq kn : IntKind) (ht : P.underlying t = some (.slice e)) (htn : P.underlying tn = some (.int kn)) (hi : P.info? e = some i) (hz : i.zero = some z)
    (hzs : i.size = size) (hzb : i.bytes = bytes) (hzc : z.cells.size = size) (hs0 : 0 < size) (b n cap : Nat) (olds : List Value) (hol : olds.length = n * size) (hold : ∀ j v, olds[j]? = some v → w.cell? ⟨b, j, none⟩ = some v)
    (k : Nat) (h0 : 0 < k) (hg : cap < n + k) (h63 : n + k ≤ maxLen) (hb : (n + k) * bytes ≤ 140737488355328) :
    ∃ G w' ROW, (Builtin.append_ #[t, tn] ty #[.slice (some ⟨b, 0, none⟩) n cap, .int kq k]).run P w = .ok (.slice (some ⟨w.heap.size, 0, none⟩) (n + k) G) w' ∧ Blk w' w.heap.size e ROW ∧ ROW.size = G * size ∧ ROW.toList.take (n * size) = olds ∧ n + k ≤ G ∧ G ≤ maxLen ∧ Keep [] w w' := by
  have hbb : k * bytes ≤ 140737488355328 := Nat.le_trans (Nat.mul_le_mul_right _ (by omega)) hb
  have hf : (Builtin.firstCells i.size n (.slice (some ⟨b, 0, none⟩) n cap)).run P w.drew = .ok olds.toArray w.drew :=
    run_firstCells_some w.drew i.size n ⟨b, 0, none⟩ n cap olds (by rw [hol, hzs]) (fun j v hj => by rw [Addr.add_lit]; simpa using hold j v hj)
  have h := Lib.run_append_grow_zeros w t tn ty e i z kq kn ht htn hi hz (some ⟨b, 0, none⟩) n cap olds hf k h0 (by omega) hg (by unfold maxLen at h63; omega) (by rw [hzb]; omega) (by rw [hzb]; exact growslice_fits hg hb)
  refine ⟨_, _, _, h, Blk.new w.drew _ e, ?_, ?_, grownCap_ge w _ _ _, grownCap_le_maxLen w _ _ _ h63, (Keep.alloc0 w.drew _).trans0 (Keep.refl _ _) |> fun q => ⟨q.os, q.tape, q.output, q.size, q.block, q.imm⟩⟩
  · simp only [Array.size_append, size_zeroCells, hzc, List.size_toArray, hol]
    have := grownCap_ge w (n + k) cap e
    rw [← Nat.add_mul, ← Nat.add_mul]
    congr 1
    omega
  · simp only [Array.toList_append, List.toList_toArray, List.append_assoc]
    rw [← hol, List.take_left]
theorem wpList_append_eq {w : World} {ops : Array Oper} {rest : List Oper} {o : Oper} {a : Act} {Q : Exit → Act → World → Prop} (hgd : o.guard = none) (s x : Operand) (t tn : TypeId)
    (ho : o.op = .call { callee := .builtin .append, args := #[s, x], argTypes := #[t, tn] }) (vs vx : Value) (hs : a.eval s = vs) (hx : a.eval x = vx)
    (v' : Value) (w' : World) (hr : (Builtin.append_ #[t, tn] o.type #[vs, vx]).run P w = .ok v' w') (h : wpList P ops Q rest (a.put o.dst v') w') : wpList P ops Q (o :: rest) a w := by
  refine wpList_plain hgd fun K hK' => ?_
  unfold Oper.wp execOp
  simp only [ho, resolve, invoke, builtin, Sem.run_bind, Sem.run_pure, Result.andThen_ok, List.map_toArray, List.map_cons, List.map_nil, hs, hx, hr]
  exact hK' _ _ h
end
def insL (xs : List Prp) (i : Nat) (x : Prp) : List Prp := xs.take i ++ [x] ++ xs.drop i
/-- What slices.Insert leaves. -/
def InsPost (w : World) (sv : Value) (ps : List Prp) (i : Nat) (x : Prp) (e : Ending) (w' : World) : Prop :=
  ∃ v', e = .returned v' ∧ PsAt w' v' (insL ps i x) ∧ w.grownBy w' sv.ownBlock ∧ (v'.ownBlock = sv.ownBlock ∨ ∀ k, v'.ownBlock = some k → w.heap.size ≤ k)
set_option maxRecDepth 100000 in
set_option maxHeartbeats 3200000 in
theorem insEnd_c (w : World) (sv : Value) (ps : List Prp) (x : Prp) (vb : Nat) (hl : ps.length ≤ 100000) (h : PsAt w sv ps) (hb : Blk w vb 135 (encP x).toArray) :
    Calls Tryz.prog 142 #[sv, .int .i64 ps.length, .slice (some ⟨vb, 0, none⟩) 1 1] w (InsPost w sv ps ps.length x) := by
  obtain ⟨i0, hi0, hz0, hz1, hz2⟩ := info_parts infoP
  have hn : ∀ j u, (encP x)[j]? = some u → w.cell? ((⟨vb, 0, none⟩ : Addr).add j) = some u := fun j u hj => by rw [Addr.add_lit, hb.cell]; simpa using hj
  have hF : Hid (∀ g cap w', w'.ownsRow 0 135 4 (.slice (some ⟨g, 0, none⟩) (ps.length + 1) cap) (ps.length + 1) (ps.flatMap encP ++ encP x) → w.grownBy w' sv.ownBlock → (sv.ownBlock = some g ∨ g = w.heap.size) → InsPost w sv ps ps.length x (.returned (.slice (some ⟨g, 0, none⟩) (ps.length + 1) cap)) w') := fun g cap w' h1 h2 h3 => by
    refine ⟨_, rfl, ?_, h2, ?_⟩
    · unfold PsAt insL
      rw [List.take_length, List.drop_length, List.append_nil, List.length_append, List.length_singleton, List.flatMap_append]
      simpa using h1
    · rcases h3 with h3 | rfl
      · left; rw [h3]; rfl
      · right; intro k hk; simp [Value.ownBlock] at hk; omega
  have HH := Lib.hid h
  obtain ⟨A, cap, hv, hc, hm⟩ := Row.slice (enc := encP) (sz := 4) h
  unfold maxLen at hm
  subst hv
  have a1 : ¬ ((ps.length : Int) = 0 ∧ False) := by simp
  clear h hb
  cases A with
  | none =>
    go_enter Tryz.func142, Tryz.ntmps142
    go_wp2_with (at_builtin; refine wpList_append_lies _ rfl _ _ 111 rfl 0 135 i0 _ 4 48 Tryz.underlying111 hi0 hz0 hz1 hz2 rfl (by omega) _ ps.length (ps.flatMap encP) rfl HH.out ⟨vb, 0, none⟩ 1 1 (encP x) rfl rfl hn (by simp [encP, Value.oneCell']) (by omega) (by unfold maxLen; omega) (by omega) (by omega) w.heap.size rfl ?_)
    intro g cap1 w' h1 h2 h3 h4
    have HX := Lib.hid (hF.out g cap1 w' h1 h2 h3)
    clear h1 h2 h3 h4
    go_wp2
    go_ret
    exact HX.out
  | some a =>
    go_enter Tryz.func142, Tryz.ntmps142
    go_wp2_with (at_builtin; refine wpList_append_lies _ rfl _ _ 111 rfl 0 135 i0 _ 4 48 Tryz.underlying111 hi0 hz0 hz1 hz2 rfl (by omega) _ ps.length (ps.flatMap encP) rfl HH.out ⟨vb, 0, none⟩ 1 1 (encP x) rfl rfl hn (by simp [encP, Value.oneCell']) (by omega) (by unfold maxLen; omega) (by omega) (by omega) w.heap.size rfl ?_)
    all_goals
      intro g cap1 w' h1 h2 h3 h4
      have HX := Lib.hid (hF.out g cap1 w' h1 h2 h3)
      clear h1 h2 h3 h4
      go_wp2
      go_ret
      exact HX.out
end Go.Proofs.Hg
namespace Go.Proofs.Hg
open Go Go.RowKit Go.Proofs Go.Shelf
theorem infoPs : (Tryz.prog.info? 135).map (·.size) = some 4 := by kernel_rfl
theorem oneP (ps : List Prp) : ∀ v ∈ ps.flatMap encP, v.oneCell' = true := fun v hv => by
  obtain ⟨x, hx, hv⟩ := List.mem_flatMap.1 hv
  simp only [encP, List.mem_cons, List.not_mem_nil, or_false] at hv
  rcases hv with rfl | rfl | rfl | rfl <;> rfl
theorem layAt_layAt_take (cs : Array Value) (a b : Nat) (xs ys : List Value) (n : Nat) (hb : b = a + xs.length) (hn : n = b + ys.length) (hf : n ≤ cs.size) : (layAt (layAt cs b ys) a xs).toList.take n = cs.toList.take a ++ xs ++ ys := by
  have e1 : (layAt cs b ys).toList.take n = cs.toList.take b ++ ys := layAt_take_all cs b ys n hn (by omega)
  have e2 : (layAt cs b ys).toList.take a = cs.toList.take a := layAt_take_le cs b ys a (by omega) (by omega)
  have e3 : ((layAt cs b ys).toList.drop b).take (n - b) = ys := by
    rw [← List.drop_take, e1, List.drop_append_of_le_length (by simp; omega), List.drop_eq_nil_of_le (by simp; omega), List.nil_append]
  have e4 : (layAt (layAt cs b ys) a xs).toList = cs.toList.take a ++ xs ++ (layAt cs b ys).toList.drop b := by
    rw [hb, ← e2, hb]; rfl
  have l : (cs.toList.take a ++ xs).length = b := by simp; omega
  rw [e4, List.take_append, List.take_of_length_le (by omega), l, e3]
set_option maxRecDepth 100000 in
set_option maxHeartbeats 800000 in
theorem insRoom_c (w : World) (g cap : Nat) (ps : List Prp) (i : Nat) (x : Prp) (vb : Nat) (hl : ps.length ≤ 100000) (hi : i < ps.length) (hr : ps.length + 1 ≤ cap) (h : PsAt w (.slice (some ⟨g, 0, none⟩) ps.length cap) ps) (hb : Blk w vb 135 (encP x).toArray) (hne : vb ≠ g) :
    Calls Tryz.prog 142 #[.slice (some ⟨g, 0, none⟩) ps.length cap, .int .i64 i, .slice (some ⟨vb, 0, none⟩) 1 1] w (InsPost w (.slice (some ⟨g, 0, none⟩) ps.length cap) ps i x) := by
  obtain ⟨g', cap', cur, hv, h1, h2, hg, hs, htk, _⟩ := Row.form (enc := encP) (sz := 4) h (fun _ => rfl) (by omega)
  injection hv with hv _ hcap
  injection hv with hv
  injection hv with hv
  subst hv hcap
  obtain ⟨L, hL⟩ : ∃ L, L = ps.flatMap encP := ⟨_, rfl⟩
  have hlen := flat_length (enc := encP) (k := 4) (fun _ => rfl) ps
  have h1c := oneP ps
  rw [← hL] at htk hlen h1c
  have l4 : (encP x).length = 4 := rfl
  have lD : (L.drop (i * 4)).length = (ps.length - i) * 4 := by rw [List.length_drop, hlen]; omega
  have F1 : Hid ((L.drop (i * 4)).length = Nat.min (ps.length - i + 1) (ps.length - i) * 4) := by show _ = _; rw [lD]; congr 1; exact (Nat.min_eq_right (by omega)).symm
  have HC : Hid (∀ w1 w2, Blk w1 g 135 (layAt cur ((i + 1) * 4) (L.drop (i * 4))) → w.grownBy w1 (some g) → Blk w2 g 135 (layAt (layAt cur ((i + 1) * 4) (L.drop (i * 4))) (i * 4) (encP x)) → w1.grownBy w2 (some g) →
      InsPost w (.slice (some ⟨g, 0, none⟩) ps.length cap) ps i x (.returned (.slice (some ⟨g, 0, none⟩) (ps.length + 1) cap)) w2) := fun w1 w2 b1 g1 b2 g2 => by
    refine ⟨_, rfl, ?_, grownBy_trans g1 g2, .inl rfl⟩
    have ef : (insL ps i x).flatMap encP = L.take (i * 4) ++ encP x ++ L.drop (i * 4) := by
      unfold insL
      rw [List.flatMap_append, List.flatMap_append, flat_take (enc := encP) (k := 4) (fun _ => rfl), flat_drop (enc := encP) (k := 4) (fun _ => rfl), ← hL]; simp
    refine row_of (enc := encP) (by unfold insL; simp; omega) b2 (cap := cap) ?_ (by omega) h2 ?_ (fun _ => rfl)
    · rw [layAt_size _ _ _ (by rw [layAt_size _ _ _ (by omega)]; omega), layAt_size _ _ _ (by omega)]; exact hs
    · rw [layAt_layAt_take _ _ _ _ _ _ (by rw [l4]; omega) (by rw [lD]; omega) (by omega), ef, ← htk, List.take_take, Nat.min_eq_left (by omega)]
  have HLD := Lib.hid lD
  have HV : Hid (∀ w1, Blk w1 g 135 (layAt cur ((i + 1) * 4) (L.drop (i * 4))) → w.grownBy w1 (some g) → ∀ ty dLen dCap sCap, 1 ≤ dLen → ∃ w2, (Builtin.copy_ #[111, 111] ty #[.slice (some ⟨g, i * 4, none⟩) dLen dCap, .slice (some ⟨vb, 0, none⟩) 1 sCap]).run Tryz.prog w1 = .ok (goInt (Nat.min 1 dLen)) w2 ∧ Blk w2 g 135 (layAt (layAt cur ((i + 1) * 4) (L.drop (i * 4))) (i * 4) (encP x)) ∧ w1.grownBy w2 (some g)) := fun w1 b1 g1 ty dLen dCap sCap hd =>
    run_copy_blk (P := Tryz.prog) w1 111 111 ty 135 4 g (i * 4) dLen dCap ⟨vb, 0, none⟩ 1 sCap (encP x) 135 _ (by rfl) infoPs (by rw [l4]; simp only [Nat.min_def]; split <;> omega) b1 (fun j v hj => by rw [Addr.add_lit, (hb.grown g1 (by simpa using hne)).cell]; simpa using hj) (by rw [layAt_size _ _ _ (by omega), l4]; omega) (fun v hv => oneP [x] v (by simpa using hv))
  have HB := Lib.hid hb
  have HG := Lib.hid hg
  have F2 : Hid ((i + 1) * 4 + (L.drop (i * 4)).length ≤ cur.size) := by show _ ≤ _; rw [lD]; omega
  have F3 : Hid (i * 4 + (encP x).length ≤ (layAt cur ((i + 1) * 4) (L.drop (i * 4))).size) := by show _ ≤ _; rw [layAt_size _ _ _ F2.out, l4]; omega
  have HS := Lib.hid (src_drop hg htk (i * 4))
  have HO : Hid (∀ v ∈ L.drop (i * 4), v.oneCell' = true) := fun v hv => h1c v (List.mem_of_mem_drop hv)
  have hov : ∀ (W : World) a lb cb, Blk W vb 135 (encP x).toArray → (∃ cs, Blk W g 135 cs ∧ cs.size ≠ 0) → (callFunc 150 #[.slice (some ⟨vb, 0, none⟩) 1 1, .slice (some ⟨g, a, none⟩) lb cb]).run Tryz.prog W = .ok (.value (.bool false)) W := fun W a lb cb hv ⟨cs, hw, hz⟩ => by
    obtain ⟨i0, hi0, hz0, hz1, hz2⟩ := info_parts infoP
    rw [run_callFunc_extern Tryz.func150 (by kernel_rfl) (by kernel_rfl) (by kernel_rfl) (e := Extern.SlicesOverlaps.overlaps #[111, 111] #[4]) (by kernel_rfl),
      Lib.run_overlaps_apart W 111 4 135 (by rfl) 4 (fun w => by simp [sizeOf, typeInfo, hi0, hz1]) ⟨vb, 0, none⟩ ⟨g, a, none⟩ 1 1 lb cb hne 135 135 4 cs.size (by simp [World.shape?, show W.heap[vb]? = _ from hv, encP]) (by simp [World.shape?, show W.heap[g]? = _ from hw]) hz (hv.free _) (hv.free _)]
    rfl
  have hov1 := fun a lb cb => hov w a lb cb hb ⟨cur, hg, by omega⟩
  unfold maxLen at h2
  have a1 : ¬ ((i : Int) = (ps.length : Int)) := by omega
  have c1 : IntKind.i64.wrap ((i : Int) + 1) = (i : Int) + 1 := by rw [IntKind.wrap_i64]; omega
  have c2 : IntKind.i64.wrap ((ps.length : Int) + 1) = (ps.length : Int) + 1 := by rw [IntKind.wrap_i64]; omega
  have c3 : ¬ (cap - i = 0) := by omega
  have c4 : (i : Int) ≤ (ps.length : Int) + 1 := by omega
  have a2 : ¬ ((cap : Int) < (ps.length : Int) + 1) := by omega
  have a3 : ((ps.length : Int) + 1).toNat = ps.length + 1 := by omega
  have a4 : (0 : Int) ≤ (ps.length : Int) + 1 := by omega
  have a5 : ((i : Int) + 1).toNat = i + 1 := by omega
  have a6 : (0 : Int) ≤ (i : Int) + 1 := by omega
  have a7 : (i : Int) + 1 ≤ (ps.length : Int) + 1 := by omega
  have a8 : ¬ (cap = i) := by omega
  have a9 : ¬ (cap = i + 1) := by omega
  have b1 : i ≤ ps.length := by omega
  have b2 : ((ps.length : Int) + 1) ≤ (cap : Int) := by omega
  clear hb hg htk hs h hlen hL lD
  go_enter Tryz.func142, Tryz.ntmps142
  go_wp2_with (simp only [hov1])
  go_region_law ((refine step_copy_blk (by rfl) _ _ _ _ (by rfl) 135 4 g ((i + 1) * 4) (ps.length - i) (cap - (i + 1)) ⟨g, i * 4, none⟩ (ps.length + 1 - i) (cap - i) (L.drop (i * 4)) 135 cur (by simp [Act.eval, Act.put]) (by simp [Act.eval, Act.put]) (by rfl) infoPs (by rw [HLD.out]; congr 1; simp only [Nat.min_def]; split <;> omega) (by exact HG.out) (by exact HS.out) F2.out HO.out ?_; intro w1 B1 G1))
  obtain ⟨w2, hr, B2, G2⟩ := HV.out w1 B1 ⟨G1.os, G1.tape, G1.output, G1.size, G1.block⟩ 3 (ps.length + 1 - i) (cap - i) 1 (by omega)
  have HX := Lib.hid (HC.out w1 w2 B1 ⟨G1.os, G1.tape, G1.output, G1.size, G1.block⟩ B2 G2)
  clear B1 B2 G1 G2
  go_wp2_with (simp only [hr])
  go_ret
  exact HX.out
end Go.Proofs.Hg
namespace Go.Proofs.Hg
open Go Go.RowKit Go.Proofs Go.Shelf
theorem Keep.grownBy {w w1 : World} (h : Keep [] w w1) (row : Option Nat) : w.grownBy w1 row := ⟨h.os, h.tape, h.output, h.size, fun k hk _ => h.block k hk (by simp)⟩
set_option maxRecDepth 100000 in
set_option maxHeartbeats 1600000 in
theorem insGrow_c (w : World) (g cap : Nat) (ps : List Prp) (i : Nat) (x : Prp) (vb : Nat) (hl : ps.length ≤ 100000) (hi : i < ps.length) (hr : cap < ps.length + 1) (h : PsAt w (.slice (some ⟨g, 0, none⟩) ps.length cap) ps) (hb : Blk w vb 135 (encP x).toArray) :
    Calls Tryz.prog 142 #[.slice (some ⟨g, 0, none⟩) ps.length cap, .int .i64 i, .slice (some ⟨vb, 0, none⟩) 1 1] w (InsPost w (.slice (some ⟨g, 0, none⟩) ps.length cap) ps i x) := by
  obtain ⟨g', cap', cur, hv, h1, h2, hg, hs, htk, _⟩ := Row.form (enc := encP) (sz := 4) h (fun _ => rfl) (by omega)
  injection hv with hv _ hcap
  injection hv with hv
  injection hv with hv
  subst hv hcap
  have hc0 : cap = ps.length := by omega
  subst hc0
  obtain ⟨L, hL⟩ : ∃ L, L = ps.flatMap encP := ⟨_, rfl⟩
  have hlen := flat_length (enc := encP) (k := 4) (fun _ => rfl) ps
  have h1c := oneP ps
  rw [← hL] at htk hlen h1c
  have l4 : (encP x).length = 4 := rfl
  have lD : (L.drop (i * 4)).length = (ps.length - i) * 4 := by rw [List.length_drop, hlen]; omega
  obtain ⟨i0, hi0, hz0, hz1, hz2⟩ := info_parts infoP
  have ek : i + (ps.length + 1 - i) = ps.length + 1 := by omega
  obtain ⟨G, w1, ROW, hr1, B1, sz1, tk1, hG1, hG2, K1⟩ := run_append_zeros (P := Tryz.prog) w 111 3 111 135 i0 _ 4 48 .i64 .i64 (by rfl) (by rfl) hi0 hz0 hz1 hz2 rfl (by omega) g i ps.length (L.take (i * 4)) (by rw [List.length_take, hlen]; omega)
    (fun j v hj => by
      rw [hg.cell]
      rw [List.getElem?_take] at hj
      split at hj
      · rw [← htk, List.getElem?_take] at hj
        split at hj
        · simpa using hj
        · cases hj
      · cases hj) (ps.length + 1 - i) (by omega) (by omega) (by unfold maxLen; omega) (by omega)
  rw [ek] at hr1 hG1
  have ei : ((ps.length + 1 - i : Nat) : Int) = (ps.length : Int) + 1 - (i : Int) := by omega
  rw [ei] at hr1
  have hbN : vb ≠ w.heap.size := by have := hb.lt; omega
  have hgN : g ≠ w.heap.size := by have := hg.lt; omega
  obtain ⟨w2, hr2, B2, G2⟩ := run_copy_blk (P := Tryz.prog) w1 111 111 3 135 4 w.heap.size (i * 4) (ps.length + 1 - i) (G - i) ⟨vb, 0, none⟩ 1 1 (encP x) 135 ROW (by rfl) infoPs (by rw [l4]; simp only [Nat.min_def]; split <;> omega) B1 (fun j v hj => by rw [Addr.add_lit, (hb.keep K1 (by simp)).cell]; simpa using hj) (by rw [l4]; omega) (fun v hv => oneP [x] v (by simpa using hv))
  have HG : Hid (Blk w2 g 135 cur) := (hg.keep K1 (by simp)).grown G2 (by simpa using hgN)
  have HS := Lib.hid (src_drop HG.out htk (i * 4))
  have HB2 := Lib.hid B2
  have HO : Hid (∀ v ∈ L.drop (i * 4), v.oneCell' = true) := fun v hv => h1c v (List.mem_of_mem_drop hv)
  have HLD := Lib.hid lD
  have F2 : Hid ((i + 1) * 4 + (L.drop (i * 4)).length ≤ (layAt ROW (i * 4) (encP x)).size) := by show _ ≤ _; rw [layAt_size _ _ _ (by omega), lD]; omega
  have HC : Hid (∀ w3, Blk w3 w.heap.size 135 (layAt (layAt ROW (i * 4) (encP x)) ((i + 1) * 4) (L.drop (i * 4))) → w2.grownBy w3 (some w.heap.size) →
      InsPost w (.slice (some ⟨g, 0, none⟩) ps.length ps.length) ps i x (.returned (.slice (some ⟨w.heap.size, 0, none⟩) (ps.length + 1) G)) w3) := fun w3 b3 g3 => by
    have k3 : Keep [] w w3 := (K1.grown G2 (fun k e => .inl (by injection e with e; omega))).grown g3 (fun k e => .inl (by injection e with e; omega))
    refine ⟨_, rfl, ?_, k3.grownBy _, .inr fun k hk => by simp [Value.ownBlock] at hk; omega⟩
    have ef : (insL ps i x).flatMap encP = L.take (i * 4) ++ encP x ++ L.drop (i * 4) := by
      unfold insL
      rw [List.flatMap_append, List.flatMap_append, flat_take (enc := encP) (k := 4) (fun _ => rfl), flat_drop (enc := encP) (k := 4) (fun _ => rfl), ← hL]; simp
    refine row_of (enc := encP) (by unfold insL; simp; omega) b3 (cap := G) ?_ (by omega) hG2 ?_ (fun _ => rfl)
    · rw [layAt_size _ _ _ F2.out, layAt_size _ _ _ (by omega)]; exact sz1
    · rw [layAt_take_all _ _ _ _ (by omega) (by rw [layAt_size _ _ _ (by omega)]; omega), layAt_take_all _ _ _ _ (by omega) (by omega), tk1, ef]
  unfold maxLen at h2 hG2
  have a1 : ¬ ((i : Int) = (ps.length : Int)) := by omega
  have a2 : (ps.length : Int) < (ps.length : Int) + 1 := by omega
  have a3 : ((ps.length : Int) + 1).toNat = ps.length + 1 := by omega
  have a4 : (0 : Int) ≤ (ps.length : Int) + 1 := by omega
  have a5 : ((i : Int) + 1).toNat = i + 1 := by omega
  have a6 : (0 : Int) ≤ (i : Int) + 1 := by omega
  have a7 : (i : Int) + 1 ≤ (ps.length : Int) + 1 := by omega
  have a8 : ¬ (ps.length = i) := by omega
  have a9 : ¬ (G = i + 1) := by omega
  have b0 : ¬ (G = i) := by omega
  have b1 : i ≤ ps.length := by omega
  have c1 : IntKind.i64.wrap ((i : Int) + 1) = (i : Int) + 1 := by rw [IntKind.wrap_i64]; omega
  have c2 : IntKind.i64.wrap ((ps.length : Int) + 1) = (ps.length : Int) + 1 := by rw [IntKind.wrap_i64]; omega
  have c3 : IntKind.i64.wrap ((ps.length : Int) + 1 - (i : Int)) = (ps.length : Int) + 1 - (i : Int) := by rw [IntKind.wrap_i64]; omega
  have c4 : (i : Int) ≤ (ps.length : Int) + 1 := by omega
  have c5 : i ≤ ps.length + 1 := by omega
  have c6 : i + 1 ≤ ps.length + 1 := by omega
  clear hb hg htk hs h hlen hL lD tk1 sz1 B1 B2 G2 K1 hz0 hz1 hz2 hi0
  go_enter Tryz.func142, Tryz.ntmps142
  go_wp2_with (first | (at_builtin; refine wpList_append_eq rfl _ _ _ _ rfl _ _ rfl rfl _ _ hr1 ?_) | (simp only [hr2]))
  go_region_law ((refine step_copy_blk (by rfl) _ _ _ _ (by rfl) 135 4 w.heap.size ((i + 1) * 4) (ps.length - i) (G - (i + 1)) ⟨g, i * 4, none⟩ (ps.length - i) (ps.length - i) (L.drop (i * 4)) 135 _ (by simp [Act.eval, Act.put]) (by simp [Act.eval, Act.put]) (by rfl) infoPs (by rw [HLD.out]; congr 1; simp only [Nat.min_def]; split <;> omega) (by exact HB2.out) (by exact HS.out) F2.out HO.out ?_; intro w3 B3 G3))
  have HX := Lib.hid (HC.out w3 B3 ⟨G3.os, G3.tape, G3.output, G3.size, G3.block⟩)
  clear B3 G3
  go_wp2
  go_ret
  exact HX.out
/-- slices.Insert of one property. -/
theorem ins_c (w : World) (sv : Value) (ps : List Prp) (i : Nat) (x : Prp) (vb : Nat) (hl : ps.length ≤ 100000) (hi : i ≤ ps.length) (h : PsAt w sv ps) (hb : Blk w vb 135 (encP x).toArray) (hne : sv.ownBlock ≠ some vb) :
    Calls Tryz.prog 142 #[sv, .int .i64 i, .slice (some ⟨vb, 0, none⟩) 1 1] w (InsPost w sv ps i x) := by
  by_cases he : i = ps.length
  · subst he; exact insEnd_c w sv ps x vb hl h hb
  · obtain ⟨g, cap, cur, hv, _⟩ := Row.form (enc := encP) (sz := 4) h (fun _ => rfl) (by omega)
    subst hv
    by_cases hr : ps.length + 1 ≤ cap
    · exact insRoom_c w g cap ps i x vb hl (by omega) hr h hb (fun e => hne (by rw [e]; rfl))
    · exact insGrow_c w g cap ps i x vb hl (by omega) (by omega) h hb
end Go.Proofs.Hg
namespace Go.Proofs.Hg
open Go Go.RowKit Go.Proofs Go.Shelf
theorem insL_while (l : List Prp) (q : Prp → Bool) (x : Prp) : insL l (l.takeWhile q).length x = l.takeWhile q ++ [x] ++ l.dropWhile q := by
  have e := List.takeWhile_append_dropWhile (p := q) (l := l)
  unfold insL
  have h1 : l.take (l.takeWhile q).length = l.takeWhile q := by
    conv => lhs; arg 2; rw [← e]
    exact List.take_left
  have h2 : l.drop (l.takeWhile q).length = l.dropWhile q := by
    conv => lhs; arg 2; rw [← e]
    exact List.drop_left
  rw [h1, h2]
theorem setP_ins {ps : List Prp} {s : ByteArray} {v : Val} {i : Nat} (hk : v.k ≠ 0) (hi : i = ((filtP ps s).takeWhile (fun p => !(geS p.name s))).length) : setP ps s v = insL (filtP ps s) i ⟨s, v⟩ := by
  subst hi
  rw [insL_while]
  unfold setP
  rw [if_neg hk]
abbrev valV (v : Val) : Value := .agg #[.int .i64 v.k, .int .i64 v.n, .string v.s]
set_option maxRecDepth 100000 in
set_option maxHeartbeats 1600000 in
theorem valSet_c (w : World) (pv : Value) (ps : List Prp) (s : ByteArray) (v : Val) (hl : ps.length ≤ 100000) (h : PsAt w pv ps) :
    Calls Tryz.prog 117 #[pv, .string s, valV v] w fun e w' => ∃ v', e = .returned v' ∧ PsAt w' v' (setP ps s v) ∧ Keep [] w w' := by
  obtain ⟨i0, hi0, hz0, hz1, hz2⟩ := info_parts infoP
  obtain ⟨A, cap, hv, hc, hm⟩ := Row.slice (enc := encP) (sz := 4) h
  unfold maxLen at hm
  subst hv
  have K0 := (Keep.alloc0 w (Obj.cells #[.string s] 9)).alloc (Obj.cells #[.int .i64 v.k, .int .i64 v.n, .string v.s] 48)
  have HX := Lib.hid ((Blk.new w #[.string s] 9).alloc (Obj.cells #[.int .i64 v.k, .int .i64 v.n, .string v.s] 48))
  have HY := Lib.hid (Blk.new2 w (Obj.cells #[.string s] 9) #[.int .i64 v.k, .int .i64 v.n, .string v.s] 48)
  have HP := Lib.hid (h.keep K0)
  have HK := Lib.hid K0
  have hA : ∀ k, k < ps.length → ∃ g, A = some ⟨g, 0, none⟩ := fun k hk => row_ptr (enc := encP) (sz := 4) h (by omega)
  clear K0 h
  go_enter Tryz.func117, Tryz.ntmps117
  go_wp2
  generalize (w.alloc _).alloc _ = W at *
  go_loopw [7, 13] (fun ov i wr => ∃ k : Nat, k ≤ ps.length ∧ i = .int .i64 k ∧ Hid (Fresh W wr ov (filtP (ps.take k) s))) (fun _ i _ => ps.length - (intOf i).toNat)
  case atStart => exact ⟨0, by omega, rfl, Fresh.nil W⟩
  case round =>
    obtain ⟨k, hk, rfl, hF⟩ := hrel
    have x0 := (HX.out.keep hF.out.1 (by simp)).cell 0
    simp only [List.getElem?_toArray, List.getElem?_cons_succ, List.getElem?_cons_zero] at x0
    by_cases hlt : k < ps.length
    · obtain ⟨g, rfl⟩ := hA k hlt
      obtain ⟨c0, c1, c2, c3⟩ := rowP_at (HP.out.keep hF.out.1) k hlt
      have HL := Lib.hid (filtP_take ps s k hlt)
      by_cases hq : neS ps[k].name s = true
      · have hq1 := hq
        unfold neS at hq1
        have x1 : ∀ o, (wr.alloc o).cell? ⟨w.heap.size, 0, none⟩ = some (.string s) := fun o => by rw [World.cell?_alloc_lt _ _ _ (World.block_lt_of_cell? wr _ x0)]; exact x0
        have HF1 := Lib.hid (hF.out.alloc (Obj.cells #[.string ps[k].name, .int .i64 ps[k].v.k, .int .i64 ps[k].v.n, .string ps[k].v.s] 135))
        have HF2 := Lib.hid (HF1.out.alloc (Obj.cells #[.string ps[k].name, .int .i64 ps[k].v.k, .int .i64 ps[k].v.n, .string ps[k].v.s] 135))
        have HB2 := Lib.hid (Blk.new2 wr (Obj.cells #[.string ps[k].name, .int .i64 ps[k].v.k, .int .i64 ps[k].v.n, .string ps[k].v.s] 135) #[.string ps[k].name, .int .i64 ps[k].v.k, .int .i64 ps[k].v.n, .string ps[k].v.s] 135)
        have ln := filtP_len (ps.take k) s
        rw [List.length_take] at ln
        go_wp2_with (at_builtin; refine wpList_append_lies _ rfl _ _ 111 rfl 0 135 i0 _ 4 48 Tryz.underlying111 hi0 hz0 hz1 hz2 rfl (by omega) _ (filtP (ps.take k) s).length ((filtP (ps.take k) s).flatMap encP) rfl HF2.out.2.1 ⟨wr.heap.size + 1, 0, none⟩ 1 1 (encP ps[k]) (by rfl) rfl (World.news_of_block HB2.out) (by simp [encP, Value.oneCell']) (by omega) (by unfold maxLen; omega) (by omega) (by omega) (wr.heap.size + 2) (by simp) ?_)
        intro gg cap1 w2 h1 h2 h3 h4
        have HN : Hid (Fresh W w2 (.slice (some ⟨gg, 0, none⟩) ((filtP (ps.take k) s).length + 1) cap1) (filtP (ps.take (k + 1)) s)) := by
          have := HF2.out.app h1 h2 h3 (by have := hF.out.1.size; omega)
          show Fresh _ _ _ _
          rw [HL.out, if_pos hq]
          exact this
        clear h1 h2 h3 h4 c0 c1 c2 c3 hq hq1
        go_wp2
        exact ⟨⟨k + 1, by omega, by go_num, HN⟩, by simp [intOf]; omega⟩
      · have hq1 : neS ps[k].name s = false := by simpa using hq
        unfold neS at hq1
        have x1 : ∀ o, (wr.alloc o).cell? ⟨w.heap.size, 0, none⟩ = some (.string s) := fun o => by rw [World.cell?_alloc_lt _ _ _ (World.block_lt_of_cell? wr _ x0)]; exact x0
        have HF1 : Hid (Fresh W (wr.alloc (Obj.cells #[.string ps[k].name, .int .i64 ps[k].v.k, .int .i64 ps[k].v.n, .string ps[k].v.s] 135)) u7 (filtP (ps.take (k + 1)) s)) := by
          show Fresh _ _ _ _
          rw [HL.out, if_neg hq, List.append_nil]
          exact hF.out.alloc _
        clear hq
        go_wp2
        exact ⟨⟨k + 1, by omega, by go_num, HF1⟩, by simp [intOf]; omega⟩
    · have ek : k = ps.length := by omega
      subst ek
      have HF : Hid (Fresh W wr u7 (filtP ps s)) := by have := hF.out; rw [List.take_length] at this; exact this
      have hy := HY.out.keep hF.out.1 (by simp)
      have y0 := hy.cell 0
      have y1 := hy.cell 1
      have y2 := hy.cell 2
      simp only [List.getElem?_toArray, List.getElem?_cons_succ, List.getElem?_cons_zero] at y0 y1 y2
      clear hF
      by_cases hz : v.k = 0
      · have HZ : Hid (setP ps s v = filtP ps s) := by unfold setP; rw [if_pos hz]; rfl
        go_wp2
        go_ret
        exact ⟨_, rfl, by rw [HZ.out]; exact HF.out.2.1, HK.out.trans0 HF.out.1⟩
      · have hv0 := filtP_len ps s
        obtain ⟨B, capB, hv1, hcB, hmB⟩ := Row.slice (enc := encP) (sz := 4) HF.out.2.1
        unfold maxLen at hmB
        subst hv1
        go_wp2_with fail
        refine (idxP_c wr _ (filtP ps s) w.heap.size s x0 HF.out.2.1).mono ?_
        rintro e w2 ⟨i, rfl, hi, hk2⟩
        have HF2 := Lib.hid (HF.out.keep hk2)
        have hx2 := HX.out.keep HF2.out.1 (by simp)
        have hy2 := HY.out.keep HF2.out.1 (by simp)
        have z0 := hx2.cell 0
        have q0 := hy2.cell 0
        have q1 := hy2.cell 1
        have q2 := hy2.cell 2
        simp only [List.getElem?_toArray, List.getElem?_cons_succ, List.getElem?_cons_zero] at z0 q0 q1 q2
        have HB := Lib.hid (Blk.new w2 #[.string s, .int .i64 v.k, .int .i64 v.n, .string v.s] 135)
        have HF3 := Lib.hid (HF2.out.alloc (Obj.cells #[.string s, .int .i64 v.k, .int .i64 v.n, .string v.s] 135))
        have hne : (Value.slice B (filtP ps s).length capB).ownBlock ≠ some w2.heap.size := fun e => by
          have := Row.lt (enc := encP) (sz := 4) HF2.out.2.1 _ e
          omega
        have hI : Hid (∀ j : Nat, (hj : j = ((filtP ps s).takeWhile (fun p => !(geS p.name s))).length) → Calls Tryz.prog 142 #[.slice B (filtP ps s).length capB, .int .i64 j, .slice (some ⟨w2.heap.size, 0, none⟩) 1 1] (w2.alloc (Obj.cells #[.string s, .int .i64 v.k, .int .i64 v.n, .string v.s] 135)) fun e w' => ∃ v', e = .returned v' ∧ PsAt w' v' (setP ps s v) ∧ Keep [] w w') := fun j hj => by
          refine (ins_c _ _ (filtP ps s) j ⟨s, v⟩ w2.heap.size (by omega) (by rw [hj]; exact List.IsPrefix.length_le (List.takeWhile_prefix _)) HF3.out.2.1 HB.out hne).mono ?_
          rintro e w' ⟨v', rfl, hp, hg, _⟩
          refine ⟨v', rfl, by rw [setP_ins hz hj]; exact hp, HK.out.trans0 (HF3.out.1.grown hg (fun k e => .inl (HF3.out.2.2 k e)))⟩
        clear hx2 hy2 y0 y1 y2 x0 HF HF3 HF2 HB hk2 hne
        rcases hi with ⟨rfl, hi⟩ | ⟨rfl, hi⟩
        · have hj := congrArg List.length hi
          go_wp2_with fail
          refine (hI.out _ hj.symm).mono ?_
          rintro e w3 ⟨v', rfl, hp, hkk⟩
          have HP3 := Lib.hid (And.intro hp hkk)
          clear hp hkk
          go_wp2
          go_ret
          exact ⟨v', rfl, HP3.out.1, HP3.out.2⟩
        · go_wp2_with fail
          refine (hI.out _ rfl).mono ?_
          rintro e w3 ⟨v', rfl, hp, hkk⟩
          have HP3 := Lib.hid (And.intro hp hkk)
          clear hp hkk
          go_wp2
          go_ret
          exact ⟨v', rfl, HP3.out.1, HP3.out.2⟩
end Go.Proofs.Hg
