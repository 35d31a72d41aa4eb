/-
  Contracts of the functions that the statement reaches, and plain lemmas on lists, part 3. Conditions: those that each theorem names.
-/
import Derived.Test.YtemhlafdlflilaaGreatDoorHg2
import Derived.Laws.EntriesVeiled
set_option linter.unusedVariables false
set_option linter.unusedSimpArgs false
namespace Go.Proofs.Hg
open Go Go.RowKit Go.Proofs
def actOf (m d : Nat) : Value := .tuple #[.agg #[.func (.func m) #[] #[], .func (.func d) #[] #[]], .bool true]
set_option maxRecDepth 100000 in
set_option maxHeartbeats 1600000 in
theorem acts1 (w : World) : Calls Tryz.prog 51 #[.int .i64 1] w fun e w' => e = .returned (actOf 84 85) ∧ Keep [] w w' := by
  have hmm := @run_makeMap Tryz.prog
  go_enter Tryz.func51, Tryz.ntmps51
  go_wp2_with (first | (refine wpList_insert_new rfl _ _ _ _ rfl _ _ _ Tryz.underlying143 Tryz.underlying3 _ _ _ _ _ rfl rfl rfl rfl (by first | assumption | exact mapAt_new _ _) rfl ?_; intro w' hS; have hA := hS.at_; have hL : w.heap.size < w'.heap.size := (by have := hA.lt; omega); have hC := hS.cell; have hF := hS.frozen; have hB := hS.blk (p := w.heap.size) (T := 102) (cs := #[.nilFunc, .nilFunc]) (by simp) (by first | assumption | exact (Blk.new w _ _).alloc _); have hKK := hS.keep [] w (by first | assumption | exact (Keep.alloc0 _ _).alloc _) (.inl (by simp)); clear hS) | (refine wpList_lookup_found rfl _ _ _ _ rfl _ _ _ Tryz.underlying143 Tryz.underlying3 _ _ _ _ _ _ rfl rfl rfl (by assumption) rfl ?_))
  have B2 := ((hB.set 0 (.func (.func 84) #[] #[])).set 1 (.func (.func 85) #[] #[])).alloc (Obj.cells #[Value.func (Fn.func 84) #[] #[], Value.func (Fn.func 85) #[] #[]] 102)
  have K2 := ((hKK.setNew (Nat.le_refl _) 0 (.func (.func 84) #[] #[])).setNew (Nat.le_refl _) 1 (.func (.func 85) #[] #[])).alloc (Obj.cells #[Value.func (Fn.func 84) #[] #[], Value.func (Fn.func 85) #[] #[]] 102)
  refine bodyPost_ret (results_ct rfl _ _ w.heap.size _ _ _ rfl B2 Tryz.underlying102 rfl (by kernel_rfl)) rfl ⟨rfl, K2⟩
set_option maxRecDepth 100000 in
set_option maxHeartbeats 1600000 in
theorem acts2 (w : World) : Calls Tryz.prog 51 #[.int .i64 2] w fun e w' => e = .returned (actOf 86 87) ∧ Keep [] w w' := by
  have hmm := @run_makeMap Tryz.prog
  go_enter Tryz.func51, Tryz.ntmps51
  go_wp2_with (first | (refine wpList_insert_new rfl _ _ _ _ rfl _ _ _ Tryz.underlying143 Tryz.underlying3 _ _ _ _ _ rfl rfl rfl rfl (by first | assumption | exact mapAt_new _ _) rfl ?_; intro w' hS; have hA := hS.at_; have hL : w.heap.size < w'.heap.size := (by have := hA.lt; omega); have hC := hS.cell; have hF := hS.frozen; have hB := hS.blk (p := w.heap.size) (T := 102) (cs := #[.nilFunc, .nilFunc]) (by simp) (by first | assumption | exact (Blk.new w _ _).alloc _); have hKK := hS.keep [] w (by first | assumption | exact (Keep.alloc0 _ _).alloc _) (.inl (by simp)); clear hS) | (refine wpList_lookup_found rfl _ _ _ _ rfl _ _ _ Tryz.underlying143 Tryz.underlying3 _ _ _ _ _ _ rfl rfl rfl (by assumption) rfl ?_))
  have B2 := ((hB.set 0 (.func (.func 86) #[] #[])).set 1 (.func (.func 87) #[] #[])).alloc (Obj.cells #[Value.func (Fn.func 86) #[] #[], Value.func (Fn.func 87) #[] #[]] 102)
  have K2 := ((hKK.setNew (Nat.le_refl _) 0 (.func (.func 86) #[] #[])).setNew (Nat.le_refl _) 1 (.func (.func 87) #[] #[])).alloc (Obj.cells #[Value.func (Fn.func 86) #[] #[], Value.func (Fn.func 87) #[] #[]] 102)
  refine bodyPost_ret (results_ct rfl _ _ w.heap.size _ _ _ rfl B2 Tryz.underlying102 rfl (by kernel_rfl)) rfl ⟨rfl, K2⟩
set_option maxRecDepth 100000 in
set_option maxHeartbeats 1600000 in
theorem acts3 (w : World) : Calls Tryz.prog 51 #[.int .i64 3] w fun e w' => e = .returned (actOf 88 89) ∧ Keep [] w w' := by
  have hmm := @run_makeMap Tryz.prog
  go_enter Tryz.func51, Tryz.ntmps51
  go_wp2_with (first | (refine wpList_insert_new rfl _ _ _ _ rfl _ _ _ Tryz.underlying143 Tryz.underlying3 _ _ _ _ _ rfl rfl rfl rfl (by first | assumption | exact mapAt_new _ _) rfl ?_; intro w' hS; have hA := hS.at_; have hL : w.heap.size < w'.heap.size := (by have := hA.lt; omega); have hC := hS.cell; have hF := hS.frozen; have hB := hS.blk (p := w.heap.size) (T := 102) (cs := #[.nilFunc, .nilFunc]) (by simp) (by first | assumption | exact (Blk.new w _ _).alloc _); have hKK := hS.keep [] w (by first | assumption | exact (Keep.alloc0 _ _).alloc _) (.inl (by simp)); clear hS) | (refine wpList_lookup_found rfl _ _ _ _ rfl _ _ _ Tryz.underlying143 Tryz.underlying3 _ _ _ _ _ _ rfl rfl rfl (by assumption) rfl ?_))
  have B2 := ((hB.set 0 (.func (.func 88) #[] #[])).set 1 (.func (.func 89) #[] #[])).alloc (Obj.cells #[Value.func (Fn.func 88) #[] #[], Value.func (Fn.func 89) #[] #[]] 102)
  have K2 := ((hKK.setNew (Nat.le_refl _) 0 (.func (.func 88) #[] #[])).setNew (Nat.le_refl _) 1 (.func (.func 89) #[] #[])).alloc (Obj.cells #[Value.func (Fn.func 88) #[] #[], Value.func (Fn.func 89) #[] #[]] 102)
  refine bodyPost_ret (results_ct rfl _ _ w.heap.size _ _ _ rfl B2 Tryz.underlying102 rfl (by kernel_rfl)) rfl ⟨rfl, K2⟩
set_option maxRecDepth 100000 in
set_option maxHeartbeats 1600000 in
theorem acts4 (w : World) : Calls Tryz.prog 51 #[.int .i64 4] w fun e w' => e = .returned (actOf 90 91) ∧ Keep [] w w' := by
  have hmm := @run_makeMap Tryz.prog
  go_enter Tryz.func51, Tryz.ntmps51
  go_wp2_with (first | (refine wpList_insert_new rfl _ _ _ _ rfl _ _ _ Tryz.underlying143 Tryz.underlying3 _ _ _ _ _ rfl rfl rfl rfl (by first | assumption | exact mapAt_new _ _) rfl ?_; intro w' hS; have hA := hS.at_; have hL : w.heap.size < w'.heap.size := (by have := hA.lt; omega); have hC := hS.cell; have hF := hS.frozen; have hB := hS.blk (p := w.heap.size) (T := 102) (cs := #[.nilFunc, .nilFunc]) (by simp) (by first | assumption | exact (Blk.new w _ _).alloc _); have hKK := hS.keep [] w (by first | assumption | exact (Keep.alloc0 _ _).alloc _) (.inl (by simp)); clear hS) | (refine wpList_lookup_found rfl _ _ _ _ rfl _ _ _ Tryz.underlying143 Tryz.underlying3 _ _ _ _ _ _ rfl rfl rfl (by assumption) rfl ?_))
  have B2 := ((hB.set 0 (.func (.func 90) #[] #[])).set 1 (.func (.func 91) #[] #[])).alloc (Obj.cells #[Value.func (Fn.func 90) #[] #[], Value.func (Fn.func 91) #[] #[]] 102)
  have K2 := ((hKK.setNew (Nat.le_refl _) 0 (.func (.func 90) #[] #[])).setNew (Nat.le_refl _) 1 (.func (.func 91) #[] #[])).alloc (Obj.cells #[Value.func (Fn.func 90) #[] #[], Value.func (Fn.func 91) #[] #[]] 102)
  refine bodyPost_ret (results_ct rfl _ _ w.heap.size _ _ _ rfl B2 Tryz.underlying102 rfl (by kernel_rfl)) rfl ⟨rfl, K2⟩
set_option maxRecDepth 100000 in
set_option maxHeartbeats 1600000 in
theorem acts5 (w : World) : Calls Tryz.prog 51 #[.int .i64 5] w fun e w' => e = .returned (actOf 92 93) ∧ Keep [] w w' := by
  have hmm := @run_makeMap Tryz.prog
  go_enter Tryz.func51, Tryz.ntmps51
  go_wp2_with (first | (refine wpList_insert_new rfl _ _ _ _ rfl _ _ _ Tryz.underlying143 Tryz.underlying3 _ _ _ _ _ rfl rfl rfl rfl (by first | assumption | exact mapAt_new _ _) rfl ?_; intro w' hS; have hA := hS.at_; have hL : w.heap.size < w'.heap.size := (by have := hA.lt; omega); have hC := hS.cell; have hF := hS.frozen; have hB := hS.blk (p := w.heap.size) (T := 102) (cs := #[.nilFunc, .nilFunc]) (by simp) (by first | assumption | exact (Blk.new w _ _).alloc _); have hKK := hS.keep [] w (by first | assumption | exact (Keep.alloc0 _ _).alloc _) (.inl (by simp)); clear hS) | (refine wpList_lookup_found rfl _ _ _ _ rfl _ _ _ Tryz.underlying143 Tryz.underlying3 _ _ _ _ _ _ rfl rfl rfl (by assumption) rfl ?_))
  have B2 := ((hB.set 0 (.func (.func 92) #[] #[])).set 1 (.func (.func 93) #[] #[])).alloc (Obj.cells #[Value.func (Fn.func 92) #[] #[], Value.func (Fn.func 93) #[] #[]] 102)
  have K2 := ((hKK.setNew (Nat.le_refl _) 0 (.func (.func 92) #[] #[])).setNew (Nat.le_refl _) 1 (.func (.func 93) #[] #[])).alloc (Obj.cells #[Value.func (Fn.func 92) #[] #[], Value.func (Fn.func 93) #[] #[]] 102)
  refine bodyPost_ret (results_ct rfl _ _ w.heap.size _ _ _ rfl B2 Tryz.underlying102 rfl (by kernel_rfl)) rfl ⟨rfl, K2⟩
set_option maxRecDepth 100000 in
set_option maxHeartbeats 1600000 in
theorem acts0 (k : Int) (h1 : k ≠ 1) (h2 : k ≠ 2) (h3 : k ≠ 3) (h4 : k ≠ 4) (h5 : k ≠ 5) (w : World) : Calls Tryz.prog 51 #[.int .i64 k] w fun e w' => e = .returned (.tuple #[.agg #[.nilFunc, .nilFunc], .bool false]) ∧ Keep [] w w' := by
  have hmm := @run_makeMap Tryz.prog
  have b1 := Lib.hid (show (k == 1) = false from by simpa using h1)
  have b2 := Lib.hid (show (k == 2) = false from by simpa using h2)
  have b3 := Lib.hid (show (k == 3) = false from by simpa using h3)
  have b4 := Lib.hid (show (k == 4) = false from by simpa using h4)
  have b5 := Lib.hid (show (k == 5) = false from by simpa using h5)
  go_enter Tryz.func51, Tryz.ntmps51
  go_wp2_with (first | (refine wpList_insert_new rfl _ _ _ _ rfl _ _ _ Tryz.underlying143 Tryz.underlying3 _ _ _ _ _ rfl rfl rfl rfl (by first | assumption | exact mapAt_new _ _) rfl ?_; intro w' hS; have hA := hS.at_; have hL : w.heap.size < w'.heap.size := (by have := hA.lt; omega); have hC := hS.cell; have hF := hS.frozen; have hB := hS.blk (p := w.heap.size) (T := 102) (cs := #[.nilFunc, .nilFunc]) (by simp) (by first | assumption | exact (Blk.new w _ _).alloc _); have hKK := hS.keep [] w (by first | assumption | exact (Keep.alloc0 _ _).alloc _) (.inl (by simp)); clear hS) | (refine wpList_lookup_none rfl _ _ _ _ rfl _ _ _ Tryz.underlying143 Tryz.underlying3 _ _ _ _ (.agg #[.nilFunc, .nilFunc]) rfl rfl rfl (by assumption) (by simp [Instr.findNow, Instr.sameNow, Act.eval, Act.put, b1.out, b2.out, b3.out, b4.out, b5.out]) (fun _ => by kernel_rfl) ?_))
  have B2 := ((hB.set 0 .nilFunc).set 1 .nilFunc).alloc (Obj.cells #[.nilFunc, .nilFunc] 102)
  have K2 := ((hKK.setNew (Nat.le_refl _) 0 .nilFunc).setNew (Nat.le_refl _) 1 .nilFunc).alloc (Obj.cells #[.nilFunc, .nilFunc] 102)
  refine bodyPost_ret (results_ct rfl _ _ w.heap.size _ _ _ rfl B2 Tryz.underlying102 rfl (by kernel_rfl)) rfl ⟨rfl, K2⟩
end Go.Proofs.Hg
namespace Go.Proofs.Hg
open Go Go.RowKit Go.Proofs
def cmpI (a b : Int) : Int := if a < b then -1 else if b < a then 1 else 0
theorem ret_i {a b : Int} (h : a = b) : Ending.returned (.int .i64 a) = Ending.returned (.int .i64 b) := by rw [h]
set_option maxHeartbeats 1600000 in
theorem compare_c (a b : Int) (w : World) : Calls Tryz.prog 134 #[.int .i64 a, .int .i64 b] w fun e w' => e = .returned (.int .i64 (cmpI a b)) ∧ w' = w := by
  by_cases h1 : a < b
  · have E := Lib.hid (show cmpI a b = -1 from by unfold cmpI; rw [if_pos h1])
    go_enter Tryz.func134, Tryz.ntmps134
    go_wp2
    go_ret
    exact ⟨ret_i E.out.symm, rfl⟩
  by_cases h2 : b < a
  · have E := Lib.hid (show cmpI a b = 1 from by unfold cmpI; rw [if_neg h1, if_pos h2])
    go_enter Tryz.func134, Tryz.ntmps134
    go_wp2
    go_ret
    exact ⟨ret_i E.out.symm, rfl⟩
  · have E := Lib.hid (show cmpI a b = 0 from by unfold cmpI; rw [if_neg h1, if_neg h2])
    go_enter Tryz.func134, Tryz.ntmps134
    go_wp2
    go_ret
    exact ⟨ret_i E.out.symm, rfl⟩
theorem node1_c (x : FN) (id : Int) (w : World) : Calls Tryz.prog 133 #[.agg #[.int .i64 x.id, .string x.ty, x.pv], .int .i64 id] w fun e w' => e = .returned (.int .i64 (cmpI x.id id)) ∧ Keep [] w w' := by
  go_enter Tryz.func133, Tryz.ntmps133
  go_wp2_with (refine (compare_c _ _ _).mono ?_; rintro e w' ⟨rfl, rfl⟩)
  go_ret
  exact ⟨rfl, Keep.alloc0 _ _⟩
theorem edge1_c (x : FE) (id : Int) (w : World) : Calls Tryz.prog 136 #[.agg #[.int .i64 x.id, .string x.ty, .int .i64 x.fr, .int .i64 x.tt, x.pv], .int .i64 id] w fun e w' => e = .returned (.int .i64 (cmpI x.id id)) ∧ Keep [] w w' := by
  go_enter Tryz.func136, Tryz.ntmps136
  go_wp2_with (refine (compare_c _ _ _).mono ?_; rintro e w' ⟨rfl, rfl⟩)
  go_ret
  exact ⟨rfl, Keep.alloc0 _ _⟩
theorem rowN_at {w : World} {g n cap : Nat} {fn : List FN} (h : Row w 113 3 encN (.slice (some ⟨g, 0, none⟩) n cap) fn) (i : Nat) (hi : i < fn.length) :
    w.cell? ⟨g, i * 3, none⟩ = some (.int .i64 fn[i].id) ∧ w.cell? ⟨g, i * 3 + 1, none⟩ = some (.string fn[i].ty) ∧ w.cell? ⟨g, i * 3 + 2, none⟩ = some fn[i].pv := by
  obtain ⟨g', cap', cur, hv, _, _, _, _, _, hc⟩ := h.form (fun _ => rfl) (by omega)
  injection hv with hv _ _; injection hv with hv; injection hv with hv; subst hv
  exact ⟨hc i hi 0 (by omega), hc i hi 1 (by omega), hc i hi 2 (by omega)⟩
theorem rowE_at {w : World} {g n cap : Nat} {fe : List FE} (h : Row w 115 5 encE (.slice (some ⟨g, 0, none⟩) n cap) fe) (i : Nat) (hi : i < fe.length) :
    w.cell? ⟨g, i * 5, none⟩ = some (.int .i64 fe[i].id) ∧ w.cell? ⟨g, i * 5 + 1, none⟩ = some (.string fe[i].ty) ∧ w.cell? ⟨g, i * 5 + 2, none⟩ = some (.int .i64 fe[i].fr) ∧ w.cell? ⟨g, i * 5 + 3, none⟩ = some (.int .i64 fe[i].tt) ∧ w.cell? ⟨g, i * 5 + 4, none⟩ = some fe[i].pv := by
  obtain ⟨g', cap', cur, hv, _, _, _, _, _, hc⟩ := h.form (fun _ => rfl) (by omega)
  injection hv with hv _ _; injection hv with hv; injection hv with hv; subst hv
  exact ⟨hc i hi 0 (by omega), hc i hi 1 (by omega), hc i hi 2 (by omega), hc i hi 3 (by omega), hc i hi 4 (by omega)⟩
theorem row_ptr {w : World} {T sz n cap : Nat} {α : Type} {enc : α → List Value} {A : Option Addr} {xs : List α} (h : Row w T sz enc (.slice A n cap) xs) (hn : 0 < xs.length) : ∃ g, A = some ⟨g, 0, none⟩ := by
  rcases h.2 with ⟨_, h0⟩ | ⟨g, cap, cur, hv, _⟩
  · omega
  · injection hv with hv; exact ⟨g, hv⟩
theorem sorted_le {l : List Int} (hs : l.Pairwise (· < ·)) {i j : Nat} (hij : i ≤ j) (hj : j < l.length) : l[i]'(by omega) ≤ l[j] := by
  by_cases e : i = j
  · subst e; exact Int.le_refl _
  · exact Int.le_of_lt (List.pairwise_iff_getElem.1 hs i j (by omega) hj (by omega))
theorem ids_contains {α : Type} (f : α → Int) (l : List α) (id : Int) (b : Bool) (h : b = true ↔ ∃ x ∈ l, f x = id) : (l.map f).contains id = b := by
  rw [Bool.eq_iff_iff, h]; simp
theorem cmpI_eq {a b : Int} : (cmpI a b == 0) = decide (a = b) := by
  rw [Bool.eq_iff_iff]; unfold cmpI; simp; constructor
  · intro h; split at h <;> (try split at h) <;> omega
  · intro h; subst h; simp
set_option maxRecDepth 100000 in
set_option maxHeartbeats 1600000 in
theorem bsN_c (w : World) (nv : Value) (fn : List FN) (id : Int) (hl : fn.length ≤ 1000000) (h : Row w 113 3 encN nv fn) (hs : (fn.map (·.id)).Pairwise (· < ·)) :
    Calls Tryz.prog 132 #[nv, .int .i64 id, .func (.func 133) #[] #[]] w fun e w' =>
      ∃ i : Nat, e = .returned (.tuple #[.int .i64 i, .bool ((fn.map (·.id)).contains id)]) ∧ ((fn.map (·.id)).contains id = true → ∃ hi : i < fn.length, fn[i].id = id) ∧ Keep [] w w' := by
  obtain ⟨A, cap, hv, hc, hm⟩ := h.slice
  unfold maxLen at hm
  subst hv
  go_enter Tryz.func132, Tryz.ntmps132
  go_wp2
  go_loopw [9, 10] (fun i j wr => ∃ lo hi : Nat, lo ≤ hi ∧ hi ≤ fn.length ∧ i = .int .i64 lo ∧ j = .int .i64 hi ∧ Hid (Keep [] w wr) ∧ Hid (∀ k (hk : k < fn.length), k < lo → fn[k].id < id) ∧ Hid (∀ k (hk : k < fn.length), hi ≤ k → id ≤ fn[k].id)) (fun i j _ => (intOf j - intOf i).toNat)
  case atStart => exact ⟨0, fn.length, by omega, by omega, rfl, rfl, Keep.refl _ _, fun k _ hk => by omega, fun k hk hk2 => by omega⟩
  case round =>
    obtain ⟨lo, hi, h1, h2, rfl, rfl, hK, hL, hH⟩ := hrel
    by_cases hlt : lo < hi
    · obtain ⟨g, rfl⟩ := row_ptr h (by omega)
      have hm : (lo + hi) / 2 < fn.length := by omega
      have hr := h.keep hK.out (fun _ _ => by simp)
      obtain ⟨c0, c1, c2⟩ := rowN_at hr ((lo + hi) / 2) hm
      have SL : ∀ i j (hij : i ≤ j) (hj : j < fn.length), (fn[i]'(by omega)).id ≤ fn[j].id := fun i j hij hj => by
        have := sorted_le hs hij (by simpa using hj)
        simpa using this
      have HS := Lib.hid SL
      clear SL
      go_wp2_with fail
      refine (node1_c fn[(lo + hi) / 2] id _).mono ?_
      rintro e w' ⟨rfl, hk2⟩
      have hk3 := hK.out.trans0 hk2
      by_cases hc : fn[(lo + hi) / 2].id < id
      · have E := Lib.hid (show cmpI fn[(lo + hi) / 2].id id = -1 from by unfold cmpI; rw [if_pos hc])
        rw [E.out]
        clear c0 c1 c2
        go_wp2
        exact ⟨⟨(lo + hi) / 2 + 1, hi, by omega, by omega, by go_num, rfl, hk3, fun k hk hk2 => by have := HS.out k ((lo + hi) / 2) (by omega) hm; omega, hH⟩, by simp [intOf]; omega⟩
      · have E : Hid (0 ≤ cmpI fn[(lo + hi) / 2].id id) := by
          show 0 ≤ cmpI _ _
          unfold cmpI; rw [if_neg hc]; split <;> omega
        have E2 : ¬ cmpI fn[(lo + hi) / 2].id id < 0 := by have := E.out; omega
        clear c0 c1 c2
        go_wp2
        exact ⟨⟨lo, (lo + hi) / 2, by omega, by omega, rfl, by go_num, hk3, hL, fun k hk hk2 => by have := HS.out ((lo + hi) / 2) k (by omega) hk; omega⟩, by simp [intOf]; omega⟩
    · have e : hi = lo := by omega
      subst e
      by_cases hn : hi < fn.length
      · obtain ⟨g, rfl⟩ := row_ptr h (by omega)
        have hr := h.keep hK.out (fun _ _ => by simp)
        obtain ⟨c0, c1, c2⟩ := rowN_at hr hi hn
        have EC : Hid ((fn.map (·.id)).contains id = decide (fn[hi].id = id)) := ids_contains _ _ _ _ (by
          rw [decide_eq_true_iff]
          constructor
          · intro h; exact ⟨_, List.getElem_mem hn, h⟩
          · rintro ⟨x, hx, hxi⟩
            obtain ⟨k, hk, rfl⟩ := List.getElem_of_mem hx
            by_cases hk1 : k < hi
            · have := hL.out k hk hk1; omega
            · by_cases hk2 : k = hi
              · subst hk2; exact hxi
              · have h3 := hH.out hi hn (by omega)
                have h4 := List.pairwise_iff_getElem.1 hs hi k (by simpa using hn) (by simpa using hk) (by omega)
                simp at h4; omega)
        go_wp2_with fail
        refine (node1_c fn[hi] id _).mono ?_
        rintro e w' ⟨rfl, hk2⟩
        have hk3 := hK.out.trans0 hk2
        clear c0 c1 c2
        have HC := Lib.hid (@cmpI_eq fn[hi].id id)
        go_wp2
        go_ret2
        exact ⟨hi, by rw [EC.out, ← HC.out]; rfl, fun h => ⟨hn, by rw [EC.out] at h; simpa using h⟩, hk3⟩
      · have EC : Hid ((fn.map (·.id)).contains id = false) := ids_contains _ _ _ _ (by
          constructor
          · intro h; cases h
          · rintro ⟨x, hx, hxi⟩
            obtain ⟨k, hk, rfl⟩ := List.getElem_of_mem hx
            have := hL.out k hk (by omega); omega)
        go_wp2_with fail
        go_wp2
        go_ret2
        exact ⟨hi, by rw [EC.out]; rfl, (fun h => by rw [EC.out] at h; cases h), hK.out⟩
end Go.Proofs.Hg
namespace Go.Proofs.Hg
open Go Go.RowKit Go.Proofs
set_option maxRecDepth 100000 in
set_option maxHeartbeats 1600000 in
theorem bsE_c (w : World) (ev : Value) (fe : List FE) (id : Int) (hl : fe.length ≤ 1000000) (h : Row w 115 5 encE ev fe) (hs : (fe.map (·.id)).Pairwise (· < ·)) :
    Calls Tryz.prog 135 #[ev, .int .i64 id, .func (.func 136) #[] #[]] w fun e w' =>
      ∃ i : Nat, e = .returned (.tuple #[.int .i64 i, .bool ((fe.map (·.id)).contains id)]) ∧ ((fe.map (·.id)).contains id = true → ∃ hi : i < fe.length, fe[i].id = id) ∧ Keep [] w w' := by
  obtain ⟨A, cap, hv, hc, hm⟩ := h.slice
  unfold maxLen at hm
  subst hv
  go_enter Tryz.func135, Tryz.ntmps135
  go_wp2
  go_loopw [9, 10] (fun i j wr => ∃ lo hi : Nat, lo ≤ hi ∧ hi ≤ fe.length ∧ i = .int .i64 lo ∧ j = .int .i64 hi ∧ Hid (Keep [] w wr) ∧ Hid (∀ k (hk : k < fe.length), k < lo → fe[k].id < id) ∧ Hid (∀ k (hk : k < fe.length), hi ≤ k → id ≤ fe[k].id)) (fun i j _ => (intOf j - intOf i).toNat)
  case atStart => exact ⟨0, fe.length, by omega, by omega, rfl, rfl, Keep.refl _ _, fun k _ hk => by omega, fun k hk hk2 => by omega⟩
  case round =>
    obtain ⟨lo, hi, h1, h2, rfl, rfl, hK, hL, hH⟩ := hrel
    by_cases hlt : lo < hi
    · obtain ⟨g, rfl⟩ := row_ptr h (by omega)
      have hm : (lo + hi) / 2 < fe.length := by omega
      have hr := h.keep hK.out (fun _ _ => by simp)
      obtain ⟨c0, c1, c2, c3, c4⟩ := rowE_at hr ((lo + hi) / 2) hm
      have SL : ∀ i j (hij : i ≤ j) (hj : j < fe.length), (fe[i]'(by omega)).id ≤ fe[j].id := fun i j hij hj => by
        have := sorted_le hs hij (by simpa using hj)
        simpa using this
      have HS := Lib.hid SL
      clear SL
      go_wp2_with fail
      refine (edge1_c fe[(lo + hi) / 2] id _).mono ?_
      rintro e w' ⟨rfl, hk2⟩
      have hk3 := hK.out.trans0 hk2
      by_cases hc : fe[(lo + hi) / 2].id < id
      · have E := Lib.hid (show cmpI fe[(lo + hi) / 2].id id = -1 from by unfold cmpI; rw [if_pos hc])
        rw [E.out]
        clear c0 c1 c2 c3 c4
        go_wp2
        exact ⟨⟨(lo + hi) / 2 + 1, hi, by omega, by omega, by go_num, rfl, hk3, fun k hk hk2 => by have := HS.out k ((lo + hi) / 2) (by omega) hm; omega, hH⟩, by simp [intOf]; omega⟩
      · have E : Hid (0 ≤ cmpI fe[(lo + hi) / 2].id id) := by
          show 0 ≤ cmpI _ _
          unfold cmpI; rw [if_neg hc]; split <;> omega
        have E2 : ¬ cmpI fe[(lo + hi) / 2].id id < 0 := by have := E.out; omega
        clear c0 c1 c2 c3 c4
        go_wp2
        exact ⟨⟨lo, (lo + hi) / 2, by omega, by omega, rfl, by go_num, hk3, hL, fun k hk hk2 => by have := HS.out ((lo + hi) / 2) k (by omega) hk; omega⟩, by simp [intOf]; omega⟩
    · have e : hi = lo := by omega
      subst e
      by_cases hn : hi < fe.length
      · obtain ⟨g, rfl⟩ := row_ptr h (by omega)
        have hr := h.keep hK.out (fun _ _ => by simp)
        obtain ⟨c0, c1, c2, c3, c4⟩ := rowE_at hr hi hn
        have EC : Hid ((fe.map (·.id)).contains id = decide (fe[hi].id = id)) := ids_contains _ _ _ _ (by
          rw [decide_eq_true_iff]
          constructor
          · intro h; exact ⟨_, List.getElem_mem hn, h⟩
          · rintro ⟨x, hx, hxi⟩
            obtain ⟨k, hk, rfl⟩ := List.getElem_of_mem hx
            by_cases hk1 : k < hi
            · have := hL.out k hk hk1; omega
            · by_cases hk2 : k = hi
              · subst hk2; exact hxi
              · have h3 := hH.out hi hn (by omega)
                have h4 := List.pairwise_iff_getElem.1 hs hi k (by simpa using hn) (by simpa using hk) (by omega)
                simp at h4; omega)
        go_wp2_with fail
        refine (edge1_c fe[hi] id _).mono ?_
        rintro e w' ⟨rfl, hk2⟩
        have hk3 := hK.out.trans0 hk2
        clear c0 c1 c2 c3 c4
        have HC := Lib.hid (@cmpI_eq fe[hi].id id)
        go_wp2
        go_ret2
        exact ⟨hi, by rw [EC.out, ← HC.out]; rfl, fun h => ⟨hn, by rw [EC.out] at h; simpa using h⟩, hk3⟩
      · have EC : Hid ((fe.map (·.id)).contains id = false) := ids_contains _ _ _ _ (by
          constructor
          · intro h; cases h
          · rintro ⟨x, hx, hxi⟩
            obtain ⟨k, hk, rfl⟩ := List.getElem_of_mem hx
            have := hL.out k hk (by omega); omega)
        go_wp2_with fail
        go_wp2
        go_ret2
        exact ⟨hi, by rw [EC.out]; rfl, (fun h => by rw [EC.out] at h; cases h), hK.out⟩
/-- Ids rise. -/
def Up (l : List Int) : Prop := l.Pairwise (· < ·)
structure GInv (g : Gr) : Prop where
  upN : (g.N.map (·.id)).Pairwise (· < ·)
  upE : (g.E.map (·.id)).Pairwise (· < ·)
  lenN : g.N.length ≤ 100000
  lenE : g.E.length ≤ 100000
theorem GAt.idsN {T p : Nat} {w : World} {g : Gr} {nv ev : Value} {fn : List FN} {fe : List FE} (h : GAt T w p g nv ev fn fe) : fn.map (·.id) = g.N.map (·.id) := h.vn.map_eq (fun _ _ hr => hr.1)
theorem GAt.idsE {T p : Nat} {w : World} {g : Gr} {nv ev : Value} {fn : List FN} {fe : List FE} (h : GAt T w p g nv ev fn fe) : fe.map (·.id) = g.E.map (·.id) := h.ve.map_eq (fun _ _ hr => hr.1)
def hasN (g : Gr) (id : Int) : Bool := (g.N.map (·.id)).contains id
def hasE (g : Gr) (id : Int) : Bool := (g.E.map (·.id)).contains id
set_option maxHeartbeats 1600000 in
/-- (*Graph).node -/
theorem node_c (w : World) (p : Nat) (g : Gr) (nv ev : Value) (fn : List FN) (fe : List FE) (id : Int) (hi : GInv g) (h : GAt 106 w p g nv ev fn fe) :
    Calls Tryz.prog 107 #[.pointer (some ⟨p, 0, none⟩), .int .i64 id] w fun e w' => ∃ i : Nat, e = .returned (.tuple #[.int .i64 i, .bool (hasN g id)]) ∧ (hasN g id = true → ∃ hi : i < fn.length, fn[i].id = id) ∧ Keep [] w w' := by
  have c0 := h.blk.cell 0
  simp only [List.getElem?_toArray, List.getElem?_cons_succ, List.getElem?_cons_zero] at c0
  have H : Hid (∀ W, Keep [] w W → ∃ hl : fn.length ≤ 1000000, ∃ hr : Row W 113 3 encN nv fn, (fn.map (·.id)).Pairwise (· < ·)) := fun W hk => ⟨by have := hi.lenN; have := h.vn.length; omega, h.n.keep hk (fun _ _ => by simp), by rw [h.idsN]; exact hi.upN⟩
  have HE : Hid ((fn.map (·.id)).contains id = hasN g id) := by show _ = _; rw [h.idsN]; rfl
  clear hi h
  go_enter Tryz.func107, Tryz.ntmps107
  go_wp2_with fail
  obtain ⟨hl, hr, hs⟩ := H.out w (Keep.refl _ _)
  refine (bsN_c _ nv fn id hl hr hs).mono ?_
  rintro e w' ⟨i, rfl, hf, hk⟩
  rw [HE.out] at hf ⊢
  have HF := Lib.hid hf
  clear hf hr hs hl
  go_wp2
  go_ret2
  exact ⟨i, rfl, HF.out, hk⟩
set_option maxHeartbeats 1600000 in
/-- (*Graph).edge -/
theorem edge_c (w : World) (p : Nat) (g : Gr) (nv ev : Value) (fn : List FN) (fe : List FE) (id : Int) (hi : GInv g) (h : GAt 106 w p g nv ev fn fe) :
    Calls Tryz.prog 113 #[.pointer (some ⟨p, 0, none⟩), .int .i64 id] w fun e w' => ∃ i : Nat, e = .returned (.tuple #[.int .i64 i, .bool (hasE g id)]) ∧ (hasE g id = true → ∃ hi : i < fe.length, fe[i].id = id) ∧ Keep [] w w' := by
  have c0 := h.blk.cell 1
  simp only [List.getElem?_toArray, List.getElem?_cons_succ, List.getElem?_cons_zero] at c0
  have H : Hid (∀ W, Keep [] w W → ∃ hl : fe.length ≤ 1000000, ∃ hr : Row W 115 5 encE ev fe, (fe.map (·.id)).Pairwise (· < ·)) := fun W hk => ⟨by have := hi.lenE; have := h.ve.length; omega, h.e.keep hk (fun _ _ => by simp), by rw [h.idsE]; exact hi.upE⟩
  have HE : Hid ((fe.map (·.id)).contains id = hasE g id) := by show _ = _; rw [h.idsE]; rfl
  clear hi h
  go_enter Tryz.func113, Tryz.ntmps113
  go_wp2_with fail
  obtain ⟨hl, hr, hs⟩ := H.out w (Keep.refl _ _)
  refine (bsE_c _ ev fe id hl hr hs).mono ?_
  rintro e w' ⟨i, rfl, hf, hk⟩
  rw [HE.out] at hf ⊢
  have HF := Lib.hid hf
  clear hf hr hs hl
  go_wp2
  go_ret2
  exact ⟨i, rfl, HF.out, hk⟩
end Go.Proofs.Hg
namespace Go.Proofs.Hg
open Go Go.RowKit Go.Proofs
theorem Rd.s_at {w : World} {A : Option Addr} {n cap : Nat} {xs : List ByteArray} (h : Rd w 1 encS (.slice A n cap) xs) (i : Nat) (hi : i < xs.length) : ∃ b off, A = some ⟨b, off, none⟩ ∧ w.cell? ⟨b, off + i, none⟩ = some (.string xs[i]) := by
  obtain ⟨A', cap', hv, _, _, h3⟩ := h
  injection hv with hv _ _; subst hv
  obtain ⟨b, off, hA, hc⟩ := h3 i hi
  obtain ⟨u, hu, he⟩ := hc 0 (by omega)
  refine ⟨b, off, hA, ?_⟩
  simp [encS] at he; subst he
  simpa using hu
def hasS (xs : List ByteArray) (s : ByteArray) : Bool := xs.any fun x => x.toList == s.toList
set_option maxHeartbeats 1600000 in
theorem idxS_c (w : World) (v : Value) (xs : List ByteArray) (s : ByteArray) (h : Rd w 1 encS v xs) :
    Calls Tryz.prog 149 #[v, .string s] w fun e w' => ∃ i : Int, e = .returned (.int .i64 i) ∧ decide (0 ≤ i) = hasS xs s ∧ w' = w := by
  obtain ⟨A, cap, rfl, hc, hm, hx⟩ := id h
  clear hx
  go_enter Tryz.func149, Tryz.ntmps149
  go_wp2
  go_loop [8] (fun i => ∃ k : Nat, k ≤ xs.length ∧ i = .int .i64 k ∧ Hid (∀ j (hj : j < xs.length), j < k → (xs[j].toList == s.toList) = false)) (fun i => xs.length - (intOf i).toNat)
  case atStart => exact ⟨0, by omega, rfl, fun j _ hj => by omega⟩
  case round =>
    obtain ⟨k, hk, rfl, hr⟩ := hrel
    by_cases hlt : k < xs.length
    · obtain ⟨b, off, rfl, c0⟩ := h.s_at k hlt
      go_wp2
      · have hq : (s.toList == xs[k].toList) = true := by assumption
        have E := Lib.hid (show hasS xs s = true from by
          unfold hasS; rw [List.any_eq_true]; exact ⟨xs[k], List.getElem_mem hlt, by rw [beq_iff_eq] at hq ⊢; exact hq.symm⟩)
        go_ret
        exact ⟨k, rfl, by rw [E.out]; simp, rfl⟩
      · have hq : (s.toList == xs[k].toList) = false := by assumption
        have hq' : (xs[k].toList == s.toList) = false := by rw [beq_eq_false_iff_ne] at hq ⊢; exact hq.symm
        exact ⟨⟨k + 1, by omega, by go_num, fun j hj hjk => by
          by_cases e : j = k
          · subst e; exact hq'
          · exact hr.out j hj (by omega)⟩, by simp [intOf]; omega⟩
    · go_wp2
      go_ret
      exact ⟨-1, rfl, by
        rw [show hasS xs s = false from by
          unfold hasS; rw [List.any_eq_false]; intro x hx
          obtain ⟨j, hj, rfl⟩ := List.getElem_of_mem hx
          rw [hr.out j hj (by omega)]; simp]
        simp, rfl⟩
theorem containsS_c (w : World) (v : Value) (xs : List ByteArray) (s : ByteArray) (h : Rd w 1 encS v xs) :
    Calls Tryz.prog 131 #[v, .string s] w fun e w' => e = .returned (.bool (hasS xs s)) ∧ w' = w := by
  have hc := idxS_c w v xs s h
  clear h
  go_enter Tryz.func131, Tryz.ntmps131
  go_wp2_with fail
  refine hc.mono ?_
  rintro e w' ⟨i, rfl, hi, rfl⟩
  have HI := Lib.hid hi
  clear hi hc
  go_wp2
  go_ret
  exact ⟨ret_b HI.out, rfl⟩
/-- A catalog's lists of types, as they are read. -/
structure CatR (w : World) (nv ev : Value) (ns es : List ByteArray) : Prop where
  n : Rd w 1 encS nv ns
  e : Rd w 1 encS ev es
theorem CatR.keep {w w' : World} {nv ev : Value} {ns es : List ByteArray} (h : CatR w nv ev ns es) (hk : Keep [] w w') : CatR w' nv ev ns es := ⟨h.n.keep hk, h.e.keep hk⟩
theorem names1_c (w : World) (b : Nat) : Calls Tryz.prog 130 #[.pointer (some ⟨b, 0, none⟩), .int .i64 1] w fun e w' => e = .returned (.pointer (some ⟨b, 0, none⟩)) ∧ w' = w := by
  go_enter Tryz.func130, Tryz.ntmps130
  go_wp2
  go_ret
  exact ⟨rfl, rfl⟩
set_option maxRecDepth 100000 in
set_option maxHeartbeats 1600000 in
/-- schema.Has -/
theorem has1_c (w : World) (nv ev rv iv nx : Value) (ns es : List ByteArray) (s : ByteArray) (h : CatR w nv ev ns es) :
    Calls Tryz.prog 104 #[.agg #[nv, ev, rv, iv, nx], .int .i64 1, .string s] w fun e w' => e = .returned (.bool (hasS ns s)) ∧ Keep [] w w' := by
  have K := Keep.alloc0 w (Obj.cells #[nv, ev, rv, iv, nx] 59)
  have H := Lib.hid (fun W hk => containsS_c W nv ns s (h.keep hk).n)
  go_enter Tryz.func104, Tryz.ntmps104
  go_wp2_with (first | (refine (names1_c _ _).mono ?_; rintro e w' ⟨rfl, rfl⟩) | (refine (H.out _ K).mono ?_; rintro e w' ⟨rfl, rfl⟩))
  go_ret
  exact ⟨rfl, K⟩
theorem rlist1_c (w : World) (nv ev rv iv nx : Value) :
    Calls Tryz.prog 118 #[.agg #[nv, ev, rv, iv, nx], .int .i64 1] w fun e w' => e = .returned nv ∧ Keep [] w w' := by
  go_enter Tryz.func118, Tryz.ntmps118
  go_wp2
  go_ret
  exact ⟨rfl, Keep.alloc0 _ _⟩
set_option maxRecDepth 100000 in
set_option maxHeartbeats 1600000 in
/-- hedgerowref14.Has -/
theorem rhas1_c (w : World) (nv ev rv iv nx : Value) (ns es : List ByteArray) (s : ByteArray) (h : CatR w nv ev ns es) :
    Calls Tryz.prog 94 #[.agg #[nv, ev, rv, iv, nx], .int .i64 1, .string s] w fun e w' => e = .returned (.bool (hasS ns s)) ∧ Keep [] w w' := by
  have K := Keep.alloc0 w (Obj.cells #[nv, ev, rv, iv, nx] 59)
  go_enter Tryz.func94, Tryz.ntmps94
  go_wp2_with fail
  refine (rlist1_c _ nv ev rv iv nx).mono ?_
  rintro e w1 ⟨rfl, hk1⟩
  have hk2 := K.trans0 hk1
  have hr := (h.keep hk2).n
  obtain ⟨A, cap, hv, hc, hm, hx⟩ := id hr
  clear hx h K hk1
  subst hv
  go_wp2
  go_loop [8] (fun i => ∃ k : Nat, k ≤ ns.length ∧ i = .int .i64 k ∧ Hid (∀ j (hj : j < ns.length), j < k → (ns[j].toList == s.toList) = false)) (fun i => ns.length - (intOf i).toNat)
  case atStart => exact ⟨0, by omega, rfl, fun j _ hj => by omega⟩
  case round =>
    obtain ⟨k, hk, rfl, hq⟩ := hrel
    by_cases hlt : k < ns.length
    · obtain ⟨b, off, rfl, c0⟩ := hr.s_at k hlt
      go_wp2
      · have hq : (ns[k].toList == s.toList) = true := by assumption
        have E := Lib.hid (show hasS ns s = true from by
          unfold hasS; rw [List.any_eq_true]; exact ⟨ns[k], List.getElem_mem hlt, hq⟩)
        go_ret
        exact ⟨ret_b E.out.symm, hk2⟩
      · have hq' : (ns[k].toList == s.toList) = false := by assumption
        exact ⟨⟨k + 1, by omega, by go_num, fun j hj hjk => by
          by_cases e : j = k
          · subst e; exact hq'
          · exact hq.out j hj (by omega)⟩, by simp [intOf]; omega⟩
    · go_wp2
      go_ret
      exact ⟨ret_b (show hasS ns s = false from by
          unfold hasS; rw [List.any_eq_false]; intro x hx
          obtain ⟨j, hj, rfl⟩ := List.getElem_of_mem hx
          rw [hq.out j hj (by omega)]; simp).symm, hk2⟩
theorem names2_c (w : World) (b : Nat) : Calls Tryz.prog 130 #[.pointer (some ⟨b, 0, none⟩), .int .i64 2] w fun e w' => e = .returned (.pointer (some ⟨b, 1, none⟩)) ∧ w' = w := by
  go_enter Tryz.func130, Tryz.ntmps130
  go_wp2
  go_ret
  exact ⟨rfl, rfl⟩
set_option maxRecDepth 100000 in
set_option maxHeartbeats 1600000 in
/-- schema.Has -/
theorem has2_c (w : World) (nv ev rv iv nx : Value) (ns es : List ByteArray) (s : ByteArray) (h : CatR w nv ev ns es) :
    Calls Tryz.prog 104 #[.agg #[nv, ev, rv, iv, nx], .int .i64 2, .string s] w fun e w' => e = .returned (.bool (hasS es s)) ∧ Keep [] w w' := by
  have K := Keep.alloc0 w (Obj.cells #[nv, ev, rv, iv, nx] 59)
  have H := Lib.hid (fun W hk => containsS_c W ev es s (h.keep hk).e)
  go_enter Tryz.func104, Tryz.ntmps104
  go_wp2_with (first | (refine (names2_c _ _).mono ?_; rintro e w' ⟨rfl, rfl⟩) | (refine (H.out _ K).mono ?_; rintro e w' ⟨rfl, rfl⟩))
  go_ret
  exact ⟨rfl, K⟩
theorem rlist2_c (w : World) (nv ev rv iv nx : Value) :
    Calls Tryz.prog 118 #[.agg #[nv, ev, rv, iv, nx], .int .i64 2] w fun e w' => e = .returned ev ∧ Keep [] w w' := by
  go_enter Tryz.func118, Tryz.ntmps118
  go_wp2
  go_ret
  exact ⟨rfl, Keep.alloc0 _ _⟩
set_option maxRecDepth 100000 in
set_option maxHeartbeats 1600000 in
/-- hedgerowref14.Has -/
theorem rhas2_c (w : World) (nv ev rv iv nx : Value) (ns es : List ByteArray) (s : ByteArray) (h : CatR w nv ev ns es) :
    Calls Tryz.prog 94 #[.agg #[nv, ev, rv, iv, nx], .int .i64 2, .string s] w fun e w' => e = .returned (.bool (hasS es s)) ∧ Keep [] w w' := by
  have K := Keep.alloc0 w (Obj.cells #[nv, ev, rv, iv, nx] 59)
  go_enter Tryz.func94, Tryz.ntmps94
  go_wp2_with fail
  refine (rlist2_c _ nv ev rv iv nx).mono ?_
  rintro e w1 ⟨rfl, hk1⟩
  have hk2 := K.trans0 hk1
  have hr := (h.keep hk2).e
  obtain ⟨A, cap, hv, hc, hm, hx⟩ := id hr
  clear hx h K hk1
  subst hv
  go_wp2
  go_loop [8] (fun i => ∃ k : Nat, k ≤ es.length ∧ i = .int .i64 k ∧ Hid (∀ j (hj : j < es.length), j < k → (es[j].toList == s.toList) = false)) (fun i => es.length - (intOf i).toNat)
  case atStart => exact ⟨0, by omega, rfl, fun j _ hj => by omega⟩
  case round =>
    obtain ⟨k, hk, rfl, hq⟩ := hrel
    by_cases hlt : k < es.length
    · obtain ⟨b, off, rfl, c0⟩ := hr.s_at k hlt
      go_wp2
      · have hq : (es[k].toList == s.toList) = true := by assumption
        have E := Lib.hid (show hasS es s = true from by
          unfold hasS; rw [List.any_eq_true]; exact ⟨es[k], List.getElem_mem hlt, hq⟩)
        go_ret
        exact ⟨ret_b E.out.symm, hk2⟩
      · have hq' : (es[k].toList == s.toList) = false := by assumption
        exact ⟨⟨k + 1, by omega, by go_num, fun j hj hjk => by
          by_cases e : j = k
          · subst e; exact hq'
          · exact hq.out j hj (by omega)⟩, by simp [intOf]; omega⟩
    · go_wp2
      go_ret
      exact ⟨ret_b (show hasS es s = false from by
          unfold hasS; rw [List.any_eq_false]; intro x hx
          obtain ⟨j, hj, rfl⟩ := List.getElem_of_mem hx
          rw [hq.out j hj (by omega)]; simp).symm, hk2⟩
end Go.Proofs.Hg
namespace Go.Proofs.Hg
open Go Go.RowKit Go.Proofs
def fullG (g : Gr) : Bool := decide (1024 ≤ g.N.length + g.E.length) || decide ((4611686018427387903 : Int) < g.next)
set_option maxRecDepth 100000 in
set_option maxHeartbeats 1600000 in
theorem full_c (w : World) (p : Nat) (g : Gr) (nv ev : Value) (fn : List FN) (fe : List FE) (hi : GInv g) (h : GAt 106 w p g nv ev fn fe) :
    Calls Tryz.prog 105 #[.pointer (some ⟨p, 0, none⟩)] w fun e w' => e = .returned (.bool (fullG g)) ∧ Keep [] w w' := by
  have c0 := h.blk.cell 0
  have c1 := h.blk.cell 1
  have c2 := h.blk.cell 2
  simp only [List.getElem?_toArray, List.getElem?_cons_succ, List.getElem?_cons_zero] at c0 c1 c2
  obtain ⟨A, ca, hv, _, _⟩ := h.n.slice
  obtain ⟨B, cb, hw, _, _⟩ := h.e.slice
  have l1 := h.vn.length
  have l2 := h.ve.length
  have l3 := hi.lenN
  have l4 := hi.lenE
  have E := Lib.hid (show fullG g = (decide (1024 ≤ fn.length + fe.length) || decide ((4611686018427387903 : Int) < g.next)) from by unfold fullG; rw [l1, l2])
  rw [← l1] at l3
  rw [← l2] at l4
  clear l1 l2
  subst hv hw
  clear h
  have s0 : (0 : Int) ≤ (fn.length : Int) + (fe.length : Int) := by omega
  by_cases hf : (1024 : Int) ≤ (fn.length : Int) + (fe.length : Int)
  · go_enter Tryz.func105, Tryz.ntmps105
    go_wp2
    go_quiet (fail)
    go_wp2
    go_ret
    exact ⟨ret_b (by rw [E.out]; simp; omega), (Keep.refl _ _).drewN _⟩
  · have hd : decide ((1024 : Int) ≤ (fn.length : Int) + (fe.length : Int)) = false := by simpa using hf
    go_enter Tryz.func105, Tryz.ntmps105
    go_wp2
    go_quiet (fail)
    go_wp2
    go_ret
    exact ⟨ret_b (by rw [E.out]; simp; omega), (Keep.refl _ _).drewN _⟩
end Go.Proofs.Hg
namespace Go.Proofs.Hg
open Go Go.RowKit Go.Proofs
abbrev cat5 (cn ce cr ci cx : Value) : Value := .agg #[cn, ce, cr, ci, cx]
abbrev opV (o : Op) : Value := .agg #[.int .i64 o.k, .int .i64 o.id, .string o.ty, .int .i64 o.fr, .int .i64 o.tt, .string o.name, .int .i64 o.v.k, .int .i64 o.v.n, .string o.v.s, .bool o.casc]
def mayAN (ns : List ByteArray) (g : Gr) (o : Op) : Int := if hasS ns o.ty then (if fullG g then 50 else 0) else 140
set_option maxRecDepth 100000 in
set_option maxHeartbeats 1600000 in
theorem mayAddNode_c (w : World) (p : Nat) (g : Gr) (nv ev : Value) (fn : List FN) (fe : List FE) (cn ce cr ci cx : Value) (ns es : List ByteArray) (o : Op) (hi : GInv g) (h : GAt 106 w p g nv ev fn fe) (hc : CatR w cn ce ns es) :
    Calls Tryz.prog 84 #[.pointer (some ⟨p, 0, none⟩), cat5 cn ce cr ci cx, opV o] w fun e w' => e = .returned (.int .i64 (mayAN ns g o)) ∧ Keep [] w w' := by
  have HH := Lib.hid (fun W (hk : Keep [] w W) => has1_c W cn ce cr ci cx ns es o.ty (hc.keep hk))
  have HF := Lib.hid (fun W (hk : Keep [] w W) => full_c W p g nv ev fn fe hi (h.keep hk (fun _ _ => by simp)))
  clear hi h hc
  cases h1 : hasS ns o.ty with
  | false =>
    have E := Lib.hid (show mayAN ns g o = 140 from by unfold mayAN; rw [h1]; rfl)
    have H1 := Lib.hid h1
    clear h1
    go_enter Tryz.func84, Tryz.ntmps84
    go_wp2_with fail
    refine (HH.out _ ((Keep.alloc0 _ _).alloc _)).mono ?_
    rintro e w1 ⟨rfl, hk1⟩
    rw [H1.out]
    have hk2 := ((Keep.alloc0 _ _).alloc _).trans0 hk1
    clear hk1
    go_wp2
    go_ret
    exact ⟨ret_i E.out.symm, hk2⟩
  | true =>
    have H1 := Lib.hid h1
    clear h1
    cases h2 : fullG g with
    | false =>
      have E := Lib.hid (show mayAN ns g o = 0 from by unfold mayAN; rw [H1.out, h2]; rfl)
      have H2 := Lib.hid h2
      clear h2
      go_enter Tryz.func84, Tryz.ntmps84
      go_wp2_with fail
      refine (HH.out _ ((Keep.alloc0 _ _).alloc _)).mono ?_
      rintro e w1 ⟨rfl, hk1⟩
      rw [H1.out]
      have hk2 := ((Keep.alloc0 _ _).alloc _).trans0 hk1
      clear hk1
      go_wp2_with fail
      refine (HF.out _ hk2).mono ?_
      rintro e w2 ⟨rfl, hk3⟩
      rw [H2.out]
      go_wp2
      go_ret
      exact ⟨ret_i E.out.symm, hk2.trans0 hk3⟩
    | true =>
      have E := Lib.hid (show mayAN ns g o = 50 from by unfold mayAN; rw [H1.out, h2]; rfl)
      have H2 := Lib.hid h2
      clear h2
      go_enter Tryz.func84, Tryz.ntmps84
      go_wp2_with fail
      refine (HH.out _ ((Keep.alloc0 _ _).alloc _)).mono ?_
      rintro e w1 ⟨rfl, hk1⟩
      rw [H1.out]
      have hk2 := ((Keep.alloc0 _ _).alloc _).trans0 hk1
      clear hk1
      go_wp2_with fail
      refine (HF.out _ hk2).mono ?_
      rintro e w2 ⟨rfl, hk3⟩
      rw [H2.out]
      go_wp2
      go_ret
      exact ⟨ret_i E.out.symm, hk2.trans0 hk3⟩
end Go.Proofs.Hg
namespace Go.Proofs.Hg
open Go Go.RowKit Go.Proofs
/-- A contract told from an elder world on. -/
theorem Calls.rel {P : Program} {f : FuncId} {args : Array Value} {w W : World} {R : Ending → Prop} (hk : Keep [] w W) (h : Calls P f args W fun e w' => R e ∧ Keep [] W w') : Calls P f args W fun e w' => R e ∧ Keep [] w w' :=
  h.mono fun _ _ ⟨h1, h2⟩ => ⟨h1, hk.trans0 h2⟩
abbrev feV (x : FE) : Value := .agg #[.int .i64 x.id, .string x.ty, .int .i64 x.fr, .int .i64 x.tt, x.pv]
abbrev fnV (x : FN) : Value := .agg #[.int .i64 x.id, .string x.ty, x.pv]
def atE (x : FE) (id : Int) : Bool := decide (x.fr = id) || decide (x.tt = id)
theorem at_c (x : FE) (id : Int) (w : World) : Calls Tryz.prog 109 #[feV x, .int .i64 id] w fun e w' => e = .returned (.bool (atE x id)) ∧ Keep [] w w' := by
  go_enter Tryz.func109, Tryz.ntmps109
  go_wp2
  all_goals (go_ret; exact ⟨ret_b (by first | (unfold atE; simp_all; done) | (unfold atE; rw [Bool.eq_iff_iff]; simp_all)), Keep.alloc0 _ _⟩)
/-- A predicate over edges, as a function value. -/
def PredE (f : Nat) (caps : Array Value) (w : World) (p : FE → Bool) : Prop := ∀ W x, Keep [] w W → Calls Tryz.prog f (#[feV x] ++ caps) W fun e w' => e = .returned (.bool (p x)) ∧ Keep [] w w'
def PredN (f : Nat) (caps : Array Value) (w : World) (p : FN → Bool) : Prop := ∀ W x, Keep [] w W → Calls Tryz.prog f (#[fnV x] ++ caps) W fun e w' => e = .returned (.bool (p x)) ∧ Keep [] w w'
def Enters (f : Nat) : Prop := ∀ args w, (callFunc f args).run Tryz.prog w = .ok (.enter f args) w
set_option maxRecDepth 100000 in
set_option maxHeartbeats 1600000 in
theorem idxE_c (w : World) (ev : Value) (fe : List FE) (f : Nat) (caps : Array Value) (p : FE → Bool) (eg : Enters f) (hp : PredE f caps w p) (h : Row w 115 5 encE ev fe) :
    Calls Tryz.prog 103 #[ev, .func (.func f) #[] caps] w fun e w' => ∃ i : Int, e = .returned (.int .i64 i) ∧ decide (0 ≤ i) = fe.any p ∧ Keep [] w w' := by
  obtain ⟨A, cap, hv, hc, hm⟩ := h.slice
  unfold maxLen at hm
  subst hv
  have eg' : ∀ args w, Sem.run Tryz.prog (callFunc f args) w = .ok (.enter f args) w := eg
  go_enter Tryz.func103, Tryz.ntmps103
  go_wp2
  go_loopw [8] (fun i wr => ∃ k : Nat, k ≤ fe.length ∧ i = .int .i64 k ∧ Hid (Keep [] w wr) ∧ Hid (∀ j (hj : j < fe.length), j < k → p fe[j] = false)) (fun i _ => fe.length - (intOf i).toNat)
  case atStart => exact ⟨0, by omega, rfl, Keep.refl _ _, fun j _ hj => by omega⟩
  case round =>
    obtain ⟨k, hk, rfl, hK, hr⟩ := hrel
    by_cases hlt : k < fe.length
    · obtain ⟨g, rfl⟩ := row_ptr h (by omega)
      have hrr := h.keep hK.out (fun _ _ => by simp)
      obtain ⟨c0, c1, c2, c3, c4⟩ := rowE_at hrr k hlt
      go_wp2_with fail
      refine (hp _ fe[k] hK.out).mono ?_
      rintro e w' ⟨rfl, hk2⟩
      clear c0 c1 c2 c3 c4
      cases hq : p fe[k] with
      | true =>
        have E := Lib.hid (show fe.any p = true from by rw [List.any_eq_true]; exact ⟨_, List.getElem_mem hlt, hq⟩)
        clear hq
        go_wp2
        go_ret
        exact ⟨k, rfl, by rw [E.out]; simp, hk2⟩
      | false =>
        have HR : Hid (∀ j (hj : j < fe.length), j < k + 1 → p fe[j] = false) := fun j hj hjk => by
          by_cases e : j = k
          · subst e; exact hq
          · exact hr.out j hj (by omega)
        clear hq
        go_wp2
        exact ⟨⟨k + 1, by omega, by go_num, hk2, HR⟩, by simp [intOf]; omega⟩
    · have E := Lib.hid (show fe.any p = false from by
        rw [List.any_eq_false]; intro x hx
        obtain ⟨j, hj, rfl⟩ := List.getElem_of_mem hx
        rw [hr.out j hj (by omega)]; simp)
      go_wp2
      go_ret
      exact ⟨-1, rfl, by rw [E.out]; simp, hK.out⟩
set_option maxRecDepth 100000 in
set_option maxHeartbeats 1600000 in
theorem contE_c (w : World) (ev : Value) (fe : List FE) (f : Nat) (caps : Array Value) (p : FE → Bool) (eg : Enters f) (hp : PredE f caps w p) (h : Row w 115 5 encE ev fe) :
    Calls Tryz.prog 74 #[ev, .func (.func f) #[] caps] w fun e w' => e = .returned (.bool (fe.any p)) ∧ Keep [] w w' := by
  have hc := idxE_c w ev fe f caps p eg hp h
  clear h hp eg
  go_enter Tryz.func74, Tryz.ntmps74
  go_wp2_with fail
  refine hc.mono ?_
  rintro e w' ⟨i, rfl, hi, hk⟩
  have HI := Lib.hid hi
  clear hi hc
  go_wp2
  go_ret
  exact ⟨ret_b HI.out, hk⟩
set_option maxRecDepth 100000 in
set_option maxHeartbeats 1600000 in
theorem idxN_c (w : World) (nv : Value) (fn : List FN) (f : Nat) (caps : Array Value) (p : FN → Bool) (eg : Enters f) (hp : PredN f caps w p) (h : Row w 113 3 encN nv fn) :
    Calls Tryz.prog 102 #[nv, .func (.func f) #[] caps] w fun e w' => ∃ i : Int, e = .returned (.int .i64 i) ∧ decide (0 ≤ i) = fn.any p ∧ Keep [] w w' := by
  obtain ⟨A, cap, hv, hc, hm⟩ := h.slice
  unfold maxLen at hm
  subst hv
  have eg' : ∀ args w, Sem.run Tryz.prog (callFunc f args) w = .ok (.enter f args) w := eg
  go_enter Tryz.func102, Tryz.ntmps102
  go_wp2
  go_loopw [8] (fun i wr => ∃ k : Nat, k ≤ fn.length ∧ i = .int .i64 k ∧ Hid (Keep [] w wr) ∧ Hid (∀ j (hj : j < fn.length), j < k → p fn[j] = false)) (fun i _ => fn.length - (intOf i).toNat)
  case atStart => exact ⟨0, by omega, rfl, Keep.refl _ _, fun j _ hj => by omega⟩
  case round =>
    obtain ⟨k, hk, rfl, hK, hr⟩ := hrel
    by_cases hlt : k < fn.length
    · obtain ⟨g, rfl⟩ := row_ptr h (by omega)
      have hrr := h.keep hK.out (fun _ _ => by simp)
      obtain ⟨c0, c1, c2⟩ := rowN_at hrr k hlt
      go_wp2_with fail
      refine (hp _ fn[k] hK.out).mono ?_
      rintro e w' ⟨rfl, hk2⟩
      clear c0 c1 c2
      cases hq : p fn[k] with
      | true =>
        have E := Lib.hid (show fn.any p = true from by rw [List.any_eq_true]; exact ⟨_, List.getElem_mem hlt, hq⟩)
        clear hq
        go_wp2
        go_ret
        exact ⟨k, rfl, by rw [E.out]; simp, hk2⟩
      | false =>
        have HR : Hid (∀ j (hj : j < fn.length), j < k + 1 → p fn[j] = false) := fun j hj hjk => by
          by_cases e : j = k
          · subst e; exact hq
          · exact hr.out j hj (by omega)
        clear hq
        go_wp2
        exact ⟨⟨k + 1, by omega, by go_num, hk2, HR⟩, by simp [intOf]; omega⟩
    · have E := Lib.hid (show fn.any p = false from by
        rw [List.any_eq_false]; intro x hx
        obtain ⟨j, hj, rfl⟩ := List.getElem_of_mem hx
        rw [hr.out j hj (by omega)]; simp)
      go_wp2
      go_ret
      exact ⟨-1, rfl, by rw [E.out]; simp, hK.out⟩
set_option maxRecDepth 100000 in
set_option maxHeartbeats 1600000 in
theorem contN_c (w : World) (nv : Value) (fn : List FN) (f : Nat) (caps : Array Value) (p : FN → Bool) (eg : Enters f) (hp : PredN f caps w p) (h : Row w 113 3 encN nv fn) :
    Calls Tryz.prog 70 #[nv, .func (.func f) #[] caps] w fun e w' => e = .returned (.bool (fn.any p)) ∧ Keep [] w w' := by
  have hc := idxN_c w nv fn f caps p eg hp h
  clear h hp eg
  go_enter Tryz.func70, Tryz.ntmps70
  go_wp2_with fail
  refine hc.mono ?_
  rintro e w' ⟨i, rfl, hi, hk⟩
  have HI := Lib.hid hi
  clear hi hc
  go_wp2
  go_ret
  exact ⟨ret_b HI.out, hk⟩

theorem mdn1_c (x : FE) (id : Int) (b : Nat) (cs : Array Value) (w : World) (hb : Blk w b 50 cs) (hid : cs[1]? = some (.int .i64 id)) :
    Calls Tryz.prog 108 #[feV x, .pointer (some ⟨b, 0, none⟩)] w fun e w' => e = .returned (.bool (atE x id)) ∧ Keep [] w w' := by
  have c1 := (hb.cell 1).trans hid
  have lb := hb.lt
  clear hb hid
  go_enter Tryz.func108, Tryz.ntmps108
  go_wp2_with (refine (Calls.rel (Keep.alloc0 _ _) (at_c x id _)).mono ?_; rintro e w1 ⟨rfl, hk⟩)
  go_ret
  exact ⟨rfl, hk⟩
end Go.Proofs.Hg
namespace Go.Proofs.Hg
open Go Go.RowKit Go.Proofs Go.Shelf
def atEd (x : Edge) (id : Int) : Bool := decide (x.fr = id) || decide (x.tt = id)
def mayDN (g : Gr) (o : Op) : Int := if hasN g o.id then (if o.casc then 0 else if g.E.any (atEd · o.id) then 160 else 0) else 60
def mayAE (es : List ByteArray) (g : Gr) (o : Op) : Int := if hasS es o.ty then (if hasN g o.fr && hasN g o.tt then (if fullG g then 50 else 0) else 141) else 140
def mayDE (g : Gr) (o : Op) : Int := if hasE g o.id then 0 else 60
theorem GAt.any_at {T p : Nat} {w : World} {g : Gr} {nv ev : Value} {fn : List FN} {fe : List FE} (h : GAt T w p g nv ev fn fe) (id : Int) : fe.any (atE · id) = g.E.any (atEd · id) := h.ve.any (fun a b hr => by unfold atE atEd; rw [hr.2.2.1, hr.2.2.2.1])
section
variable (w : World) (p : Nat) (g : Gr) (nv ev : Value) (fn : List FN) (fe : List FE) (cn ce cr ci cx : Value) (ns es : List ByteArray) (o : Op)
set_option maxRecDepth 100000 in
set_option maxHeartbeats 1600000 in
theorem mayDropEdge_c (hi : GInv g) (h : GAt 106 w p g nv ev fn fe) :
    Calls Tryz.prog 90 #[.pointer (some ⟨p, 0, none⟩), cat5 cn ce cr ci cx, opV o] w fun e w' => e = .returned (.int .i64 (mayDE g o)) ∧ Keep [] w w' := by
  have HN := Lib.hid (fun W (hk : Keep [] w W) => edge_c W p g nv ev fn fe o.id hi (h.keep hk (fun _ _ => by simp)))
  clear hi h
  go_enter Tryz.func90, Tryz.ntmps90
  go_wp2_with fail
  refine (HN.out _ ((Keep.alloc0 _ _).alloc _)).mono ?_
  rintro e w1 ⟨i, rfl, _, hk1⟩
  have hk2 := ((Keep.alloc0 _ _).alloc _).trans0 hk1
  clear hk1
  cases h1 : hasE g o.id
  all_goals
    have E := Lib.hid (show mayDE g o = _ from by unfold mayDE; rw [h1])
    clear h1
    go_wp2
    go_ret
    exact ⟨ret_i E.out.symm, hk2⟩
set_option maxRecDepth 100000 in
set_option maxHeartbeats 1600000 in
theorem mayDropNode_c (hi : GInv g) (h : GAt 106 w p g nv ev fn fe) :
    Calls Tryz.prog 86 #[.pointer (some ⟨p, 0, none⟩), cat5 cn ce cr ci cx, opV o] w fun e w' => e = .returned (.int .i64 (mayDN g o)) ∧ Keep [] w w' := by
  have HN := Lib.hid (fun W (hk : Keep [] w W) => node_c W p g nv ev fn fe o.id hi (h.keep hk (fun _ _ => by simp)))
  have HA := Lib.hid (h.any_at o.id)
  have HC : Hid (∀ W b cs, Keep [] w W → Blk W b 50 cs → cs[1]? = some (.int .i64 o.id) → Calls Tryz.prog 74 #[ev, .func (.func 108) #[] #[.pointer (some ⟨b, 0, none⟩)]] W fun e w' => e = .returned (.bool (fe.any (atE · o.id))) ∧ Keep [] W w') :=
    fun W b cs hk hb hc => contE_c W ev fe 108 _ (atE · o.id) (enters_of Tryz.func108 (by kernel_rfl) rfl)
      (fun W' x hk' => (mdn1_c x o.id b cs W' (hb.keep hk' (by simp)) hc).mono fun _ _ ⟨a, c⟩ => ⟨a, hk'.trans0 c⟩) (h.e.keep hk (fun _ _ => by simp))
  have HB : Hid (∀ W, Keep [] w W → Blk W p 106 #[nv, ev, .int .i64 g.next]) := fun W hk => h.blk.keep hk (by simp)
  clear hi h
  have K0 := ((Keep.alloc0 w (Obj.cells #[cn, ce, cr, ci, cx] 59)).alloc (Obj.cells (encO o).toArray 50))
  have B0 := Lib.hid (Blk.new2 w (Obj.cells #[cn, ce, cr, ci, cx] 59) (encO o).toArray 50)
  unfold encO at K0 B0
  go_enter Tryz.func86, Tryz.ntmps86
  go_wp2_with fail
  refine (HN.out _ K0).mono ?_
  rintro e w1 ⟨i, rfl, _, hk1⟩
  have hk2 := K0.trans0 hk1
  have B1 := Lib.hid (B0.out.keep hk1 (by simp))
  clear hk1 B0 K0
  have d1 := (HB.out _ hk2).cell 1
  have d7 := B1.out.cell 9
  simp only [List.getElem?_toArray, List.getElem?_cons_succ, List.getElem?_cons_zero] at d1 d7
  cases h1 : hasN g o.id with
  | false =>
    have E := Lib.hid (show mayDN g o = 60 from by unfold mayDN; rw [h1]; rfl)
    clear h1
    go_wp2
    go_ret
    exact ⟨ret_i E.out.symm, hk2⟩
  | true =>
    have H1 := Lib.hid h1
    clear h1
    cases h2 : o.casc with
    | true =>
      have E := Lib.hid (show mayDN g o = 0 from by unfold mayDN; rw [H1.out, h2]; rfl)
      rw [h2] at d7
      clear h2
      go_wp2
      go_ret
      exact ⟨ret_i E.out.symm, hk2⟩
    | false =>
      have H2 := Lib.hid h2
      rw [h2] at d7
      clear h2
      go_wp2_with fail
      refine (HC.out _ _ _ hk2 B1.out rfl).mono ?_
      rintro e w2 ⟨rfl, hk3⟩
      have hk4 := hk2.trans0 hk3
      clear hk3 hk2
      rw [HA.out]
      cases h3 : g.E.any (atEd · o.id)
      all_goals
        have E := Lib.hid (show mayDN g o = _ from by unfold mayDN; rw [H1.out, H2.out, h3])
        clear h3
        go_wp2
        go_ret
        exact ⟨ret_i E.out.symm, hk4⟩
set_option maxRecDepth 100000 in
set_option maxHeartbeats 1600000 in
theorem mayAddEdge_c (hi : GInv g) (h : GAt 106 w p g nv ev fn fe) (hc : CatR w cn ce ns es) :
    Calls Tryz.prog 88 #[.pointer (some ⟨p, 0, none⟩), cat5 cn ce cr ci cx, opV o] w fun e w' => e = .returned (.int .i64 (mayAE es g o)) ∧ Keep [] w w' := by
  have HH := Lib.hid (fun W (hk : Keep [] w W) => has2_c W cn ce cr ci cx ns es o.ty (hc.keep hk))
  have HF := Lib.hid (fun W (hk : Keep [] w W) => full_c W p g nv ev fn fe hi (h.keep hk (fun _ _ => by simp)))
  have HN := Lib.hid (fun W (hk : Keep [] w W) id => node_c W p g nv ev fn fe id hi (h.keep hk (fun _ _ => by simp)))
  clear hi h hc
  have K0 := ((Keep.alloc0 w (Obj.cells #[cn, ce, cr, ci, cx] 59)).alloc (Obj.cells (encO o).toArray 50))
  have BC : Hid (Blk _ w.heap.size 59 #[cn, ce, cr, ci, cx]) := (Blk.new w #[cn, ce, cr, ci, cx] 59).alloc (Obj.cells (encO o).toArray 50)
  have B0 := Lib.hid (Blk.new2 w (Obj.cells #[cn, ce, cr, ci, cx] 59) (encO o).toArray 50)
  unfold encO at K0 B0 BC
  go_enter Tryz.func88, Tryz.ntmps88
  go_wp2_with fail
  refine (HN.out _ K0 _).mono ?_
  rintro e w1 ⟨i, rfl, _, hk1⟩
  have hk2 := K0.trans0 hk1
  have B1 := Lib.hid (B0.out.keep hk1 (by simp))
  have C1 := Lib.hid (BC.out.keep hk1 (by simp))
  clear hk1 B0 K0 BC
  have d4 := B1.out.cell 4
  simp only [List.getElem?_toArray, List.getElem?_cons_succ, List.getElem?_cons_zero] at d4
  go_wp2_with fail
  refine (HN.out _ hk2 _).mono ?_
  rintro e w2 ⟨j, rfl, _, hk3⟩
  have hk4 := hk2.trans0 hk3
  have d2 := (B1.out.keep hk3 (by simp)).cell 2
  have b0 := (C1.out.keep hk3 (by simp)).cell 0
  have b1 := (C1.out.keep hk3 (by simp)).cell 1
  have b2 := (C1.out.keep hk3 (by simp)).cell 2
  have b3 := (C1.out.keep hk3 (by simp)).cell 3
  have b4 := (C1.out.keep hk3 (by simp)).cell 4
  simp only [List.getElem?_toArray, List.getElem?_cons_succ, List.getElem?_cons_zero] at d2 b0 b1 b2 b3 b4
  clear hk3 hk2 d4 B1 C1
  go_wp2_with fail
  refine (HH.out _ hk4).mono ?_
  rintro e w3 ⟨rfl, hk5⟩
  have hk6 := hk4.trans0 hk5
  clear hk5 hk4 d2 b0 b1 b2 b3 b4
  cases h1 : hasS es o.ty with
  | false =>
    have E := Lib.hid (show mayAE es g o = 140 from by unfold mayAE; rw [h1]; rfl)
    clear h1
    go_wp2
    go_ret
    exact ⟨ret_i E.out.symm, hk6⟩
  | true =>
    have H1 := Lib.hid h1
    clear h1
    cases h2 : hasN g o.fr with
    | false =>
      have E := Lib.hid (show mayAE es g o = 141 from by unfold mayAE; rw [H1.out, h2]; rfl)
      clear h2
      go_wp2
      go_ret
      exact ⟨ret_i E.out.symm, hk6⟩
    | true =>
      have H2 := Lib.hid h2
      clear h2
      cases h3 : hasN g o.tt with
      | false =>
        have E := Lib.hid (show mayAE es g o = 141 from by unfold mayAE; rw [H1.out, H2.out, h3]; rfl)
        clear h3
        go_wp2
        go_ret
        exact ⟨ret_i E.out.symm, hk6⟩
      | true =>
        have H3 := Lib.hid h3
        clear h3
        go_wp2_with fail
        refine (HF.out _ hk6).mono ?_
        rintro e w4 ⟨rfl, hk7⟩
        have hk8 := hk6.trans0 hk7
        clear hk7 hk6
        cases h4 : fullG g
        all_goals
          have E := Lib.hid (show mayAE es g o = _ from by unfold mayAE; rw [H1.out, H2.out, H3.out, h4])
          clear h4
          go_wp2
          go_ret
          exact ⟨ret_i E.out.symm, hk8⟩
end
end Go.Proofs.Hg
