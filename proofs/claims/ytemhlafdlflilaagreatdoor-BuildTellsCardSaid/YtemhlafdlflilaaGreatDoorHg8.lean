/-
  Contracts of the functions that the statement reaches, and plain lemmas on lists, part 8. Conditions: those that each theorem names.
-/
import Derived.Test.YtemhlafdlflilaaGreatDoorHg7
set_option linter.unusedVariables false
set_option linter.unusedSimpArgs false
namespace Go.Proofs.Hg
open Go Go.RowKit Go.Proofs Go.Shelf
/-- What holds of a graph behind at most n changes. -/
structure GI (n : Nat) (g : Gr) : Prop where
  upN : (g.N.map (·.id)).Pairwise (· < ·)
  upE : (g.E.map (·.id)).Pairwise (· < ·)
  next1 : 1 ≤ g.next
  nextn : g.next ≤ (n : Int) + 1
  idN : ∀ x ∈ g.N, 1 ≤ x.id ∧ x.id < g.next
  idE : ∀ x ∈ g.E, 1 ≤ x.id ∧ x.id < g.next
  lenN : g.N.length ≤ n
  lenE : g.E.length ≤ n
  psN : ∀ x ∈ g.N, x.ps.length ≤ 8
  psE : ∀ x ∈ g.E, x.ps.length ≤ 8
  dis : ∀ x ∈ g.N, ∀ y ∈ g.E, x.id ≠ y.id
def stepG (ns es : List ByteArray) (g : Gr) (o : Op) : Gr := if mayG ns es g o = 0 then actG g o else g
theorem GI.empty : GI 0 emptyG := ⟨.nil, .nil, by decide, by decide, fun x h => by simp [emptyG] at h, fun x h => by simp [emptyG] at h, by simp [emptyG], by simp [emptyG], fun x h => by simp [emptyG] at h, fun x h => by simp [emptyG] at h, fun x h => by simp [emptyG] at h⟩
theorem GI.mono {n m : Nat} {g : Gr} (h : GI n g) (hm : n ≤ m) : GI m g := ⟨h.upN, h.upE, h.next1, by have := h.nextn; omega, h.idN, h.idE, by have := h.lenN; omega, by have := h.lenE; omega, h.psN, h.psE, h.dis⟩
theorem pair_snoc {α : Type} {f : α → Int} {l : List α} {a : α} (h : (l.map f).Pairwise (· < ·)) (ha : ∀ x ∈ l, f x < f a) : ((l ++ [a]).map f).Pairwise (· < ·) := by
  rw [List.map_append, List.pairwise_append]
  refine ⟨h, by simp, fun x hx y hy => ?_⟩
  obtain ⟨z, hz, rfl⟩ := List.mem_map.1 hx
  simp at hy; subst hy
  exact ha z hz
theorem pair_filter {α : Type} {f : α → Int} {l : List α} (q : α → Bool) (h : (l.map f).Pairwise (· < ·)) : ((l.filter q).map f).Pairwise (· < ·) := h.sublist ((List.filter_sublist).map f)
theorem map_ids {α : Type} {f : α → Int} (c : α → α) (h : ∀ x, f (c x) = f x) (l : List α) : (l.map c).map f = l.map f := by
  rw [List.map_map]; exact List.map_congr_left (fun x _ => h x)
theorem GI.setG {n : Nat} {g : Gr} (h : GI n g) (id : Int) (ps : List Prp) (hps : ps.length ≤ 8) : GI n (setG g id ps) := by
  have eN : ∀ x : Node, (if x.id = id then (⟨x.id, x.ty, ps⟩ : Node) else x).id = x.id := fun x => by split <;> rfl
  have eE : ∀ x : Edge, (if x.id = id then (⟨x.id, x.ty, x.fr, x.tt, ps⟩ : Edge) else x).id = x.id := fun x => by split <;> rfl
  unfold Hg.setG
  split
  · refine ⟨?_, h.upE, h.next1, h.nextn, fun x hx => ?_, h.idE, by simpa using h.lenN, h.lenE, fun x hx => ?_, h.psE, fun x hx y hy => ?_⟩
    · show ((g.N.map _).map _).Pairwise _; rw [map_ids _ eN]; exact h.upN
    · obtain ⟨z, hz, rfl⟩ := List.mem_map.1 hx; rw [eN]; exact h.idN z hz
    · obtain ⟨z, hz, rfl⟩ := List.mem_map.1 hx
      split
      · exact hps
      · exact h.psN z hz
    · obtain ⟨z, hz, rfl⟩ := List.mem_map.1 hx; rw [eN]; exact h.dis z hz y hy
  · refine ⟨h.upN, ?_, h.next1, h.nextn, h.idN, fun x hx => ?_, h.lenN, by simpa using h.lenE, h.psN, fun x hx => ?_, fun x hx y hy => ?_⟩
    · show ((g.E.map _).map _).Pairwise _; rw [map_ids _ eE]; exact h.upE
    · obtain ⟨z, hz, rfl⟩ := List.mem_map.1 hx; rw [eE]; exact h.idE z hz
    · obtain ⟨z, hz, rfl⟩ := List.mem_map.1 hx
      split
      · exact hps
      · exact h.psE z hz
    · obtain ⟨z, hz, rfl⟩ := List.mem_map.1 hy; rw [eE]; exact h.dis x hx z hz
theorem GI.step {n : Nat} {ns es : List ByteArray} {g : Gr} (h : GI n g) (o : Op) : GI (n + 1) (stepG ns es g o) := by
  unfold stepG
  split
  case isFalse => exact h.mono (by omega)
  case isTrue hm =>
  have hn := h.nextn
  have hlN := h.lenN
  have hlE := h.lenE
  have h1 := h.next1
  unfold actG
  split
  · refine ⟨pair_snoc h.upN (fun x hx => (h.idN x hx).2), h.upE, by show 1 ≤ g.next + 1; omega, by show g.next + 1 ≤ _; push_cast; omega, fun x hx => ?_, fun x hx => ?_, by simp; omega, by show g.E.length ≤ _; omega, fun x hx => ?_, h.psE, fun x hx y hy => ?_⟩
    · show 1 ≤ x.id ∧ x.id < g.next + 1
      rcases List.mem_append.1 hx with hx | hx
      · have := h.idN x hx; omega
      · simp at hx; subst hx; show 1 ≤ g.next ∧ g.next < g.next + 1; omega
    · show 1 ≤ x.id ∧ x.id < g.next + 1
      have := h.idE x hx; omega
    · rcases List.mem_append.1 hx with hx | hx
      · exact h.psN x hx
      · simp at hx; subst hx; simp
    · rcases List.mem_append.1 hx with hx | hx
      · exact h.dis x hx y hy
      · simp at hx; subst hx; have := h.idE y hy; show g.next ≠ y.id; omega
  split
  · refine ⟨pair_filter _ h.upN, pair_filter _ h.upE, h1, by show g.next ≤ _; push_cast; omega, fun x hx => h.idN x (List.mem_filter.1 hx).1, fun x hx => h.idE x (List.mem_filter.1 hx).1, ?_, ?_, fun x hx => h.psN x (List.mem_filter.1 hx).1, fun x hx => h.psE x (List.mem_filter.1 hx).1, fun x hx y hy => h.dis x (List.mem_filter.1 hx).1 y (List.mem_filter.1 hy).1⟩
    · have := List.length_filter_le (fun x : Node => !decide (x.id = o.id)) g.N; show (g.N.filter _).length ≤ _; omega
    · have := List.length_filter_le (fun x : Edge => !(atEd x o.id)) g.E; show (g.E.filter _).length ≤ _; omega
  split
  · refine ⟨h.upN, pair_snoc h.upE (fun x hx => (h.idE x hx).2), by show 1 ≤ g.next + 1; omega, by show g.next + 1 ≤ _; push_cast; omega, fun x hx => ?_, fun x hx => ?_, by show g.N.length ≤ _; omega, by simp; omega, h.psN, fun x hx => ?_, fun x hx y hy => ?_⟩
    · show 1 ≤ x.id ∧ x.id < g.next + 1
      have := h.idN x hx; omega
    · show 1 ≤ x.id ∧ x.id < g.next + 1
      rcases List.mem_append.1 hx with hx | hx
      · have := h.idE x hx; omega
      · simp at hx; subst hx; show 1 ≤ g.next ∧ g.next < g.next + 1; omega
    · rcases List.mem_append.1 hx with hx | hx
      · exact h.psE x hx
      · simp at hx; subst hx; simp
    · rcases List.mem_append.1 hy with hy | hy
      · exact h.dis x hx y hy
      · simp at hy; subst hy; have := h.idN x hx; show x.id ≠ g.next; omega
  split
  · refine ⟨h.upN, pair_filter _ h.upE, h1, by show g.next ≤ _; push_cast; omega, h.idN, fun x hx => h.idE x (List.mem_filter.1 hx).1, by show g.N.length ≤ _; omega, ?_, h.psN, fun x hx => h.psE x (List.mem_filter.1 hx).1, fun x hx y hy => h.dis x hx y (List.mem_filter.1 hy).1⟩
    have := List.length_filter_le (fun x : Edge => !decide (x.id = o.id)) g.E; show (g.E.filter _).length ≤ _; omega
  · rename_i k1 k2 k3 k4
    refine GI.setG (h.mono (by omega)) _ _ ?_
    have k5 : o.k = 5 := by
      apply Decidable.byContradiction; intro hk
      unfold mayG at hm; rw [if_neg k1, if_neg k2, if_neg k3, if_neg k4, if_neg hk] at hm; omega
    unfold mayG maySP at hm
    rw [if_neg k1, if_neg k2, if_neg k3, if_neg k4, if_pos k5] at hm
    split at hm
    · cases hq : psOf g o.id with
      | none => rw [hq] at hm; simp at hm
      | some ps =>
        rw [hq] at hm
        simp only at hm
        show (setP ((some ps).getD []) o.name o.v).length ≤ 8
        simp only [Option.getD_some]
        apply Decidable.byContradiction; intro h8
        rw [if_pos (by omega)] at hm; omega
    · omega
theorem GI.inv {n : Nat} {g : Gr} (h : GI n g) (hn : n ≤ 100000) : GInv g := ⟨h.upN, h.upE, by have := h.lenN; omega, by have := h.lenE; omega⟩
theorem GI.psOf {n : Nat} {g : Gr} (h : GI n g) (id : Int) : ∀ ps, psOf g id = some ps → ps.length ≤ 100000 := fun ps hp => by
  unfold Hg.psOf at hp
  split at hp
  · rename_i x hx
    injection hp with hp; subst hp
    have := h.psN x (List.mem_of_find?_eq_some hx); omega
  · cases hf : g.E.find? (fun x => decide (x.id = id)) with
    | none => rw [hf] at hp; cases hp
    | some y =>
      rw [hf] at hp
      injection hp with hp; subst hp
      have := h.psE y (List.mem_of_find?_eq_some hf); show y.ps.length ≤ 100000; omega
def madeG (ns es : List ByteArray) (l : List Op) : Gr := l.foldl (stepG ns es) emptyG
theorem madeG_take {ns es : List ByteArray} {l : List Op} {k : Nat} (hk : k < l.length) : madeG ns es (l.take (k + 1)) = stepG ns es (madeG ns es (l.take k)) l[k] := by
  unfold madeG
  rw [List.take_add_one, List.getElem?_eq_getElem hk, List.foldl_append]; rfl
theorem madeG_inv (ns es : List ByteArray) (l : List Op) (g : Gr) (n : Nat) (h : GI n g) : GI (n + l.length) (l.foldl (stepG ns es) g) := by
  induction l generalizing g n with
  | nil => exact h
  | cons a l ih => rw [List.foldl_cons, List.length_cons, show n + (l.length + 1) = n + 1 + l.length by omega]; exact ih _ _ (h.step a)
end Go.Proofs.Hg
namespace Go.Proofs.Hg
open Go Go.RowKit Go.Proofs Go.Shelf
def largeV (v : Val) : Bool := decide ((5000 : Int) < v.s.size)
def largeO (o : Op) : Bool := decide ((1000 : Int) < o.ty.size) || decide ((1000 : Int) < o.name.size) || largeV o.v
def fairL (l : List Op) : Bool := l.all (fun o => !largeO o) && decide (l.length ≤ 200)
theorem largeV_c (v : Val) (w : World) : Calls Tryz.prog 49 #[.agg #[.int .i64 v.k, .int .i64 v.n, .string v.s]] w fun e w' => e = .returned (.bool (largeV v)) ∧ Keep [] w w' := by
  go_enter Tryz.func49, Tryz.ntmps49
  go_wp2
  go_ret
  exact ⟨rfl, Keep.alloc0 _ _⟩
set_option maxRecDepth 100000 in
set_option maxHeartbeats 1600000 in
theorem largeO_c (o : Op) (w : World) : Calls Tryz.prog 18 #[opV o] w fun e w' => e = .returned (.bool (largeO o)) ∧ Keep [] w w' := by
  have K0 := Keep.alloc0 w (Obj.cells (encO o).toArray 50)
  unfold encO at *
  have HK := Lib.hid K0
  have HV := Lib.hid (largeV_c o.v)
  clear K0
  cases h1 : decide ((1000 : Int) < o.ty.size)
  · cases h2 : decide ((1000 : Int) < o.name.size)
    · have E := Lib.hid (show largeO o = largeV o.v from by unfold largeO; rw [h1, h2]; rfl)
      go_enter Tryz.func18, Tryz.ntmps18
      go_wp2_with fail
      refine (HV.out _).mono ?_
      rintro e w1 ⟨rfl, hk1⟩
      have hk2 := HK.out.trans0 hk1
      clear hk1
      go_wp2
      go_ret
      exact ⟨ret_b E.out.symm, hk2⟩
    · have E := Lib.hid (show largeO o = true from by unfold largeO; rw [h1, h2]; rfl)
      go_enter Tryz.func18, Tryz.ntmps18
      go_wp2
      go_ret
      exact ⟨ret_b E.out.symm, HK.out⟩
  · have E := Lib.hid (show largeO o = true from by unfold largeO; rw [h1]; rfl)
    go_enter Tryz.func18, Tryz.ntmps18
    go_wp2
    go_ret
    exact ⟨ret_b E.out.symm, HK.out⟩
theorem Rd.op_at {w : World} {A : Option Addr} {n cap : Nat} {xs : List Op} (h : Rd w 10 encO (.slice A n cap) xs) (i : Nat) (hi : i < xs.length) : ∃ b off, A = some ⟨b, off, none⟩ ∧
    w.cell? ⟨b, off + i * 10, none⟩ = some (.int .i64 xs[i].k) ∧ w.cell? ⟨b, off + i * 10 + 1, none⟩ = some (.int .i64 xs[i].id) ∧ w.cell? ⟨b, off + i * 10 + 2, none⟩ = some (.string xs[i].ty) ∧ w.cell? ⟨b, off + i * 10 + 3, none⟩ = some (.int .i64 xs[i].fr) ∧
    w.cell? ⟨b, off + i * 10 + 4, none⟩ = some (.int .i64 xs[i].tt) ∧ w.cell? ⟨b, off + i * 10 + 5, none⟩ = some (.string xs[i].name) ∧ w.cell? ⟨b, off + i * 10 + 6, none⟩ = some (.int .i64 xs[i].v.k) ∧ w.cell? ⟨b, off + i * 10 + 7, none⟩ = some (.int .i64 xs[i].v.n) ∧
    w.cell? ⟨b, off + i * 10 + 8, none⟩ = some (.string xs[i].v.s) ∧ w.cell? ⟨b, off + i * 10 + 9, none⟩ = some (.bool xs[i].casc) := by
  obtain ⟨A', cap', hv, _, _, h3⟩ := h
  injection hv with hv _ _; subst hv
  obtain ⟨b, off, hA, hc⟩ := h3 i hi
  refine ⟨b, off, hA, ?_⟩
  have f : ∀ j u, j < 10 → (encO xs[i])[j]? = some u → w.cell? ⟨b, off + i * 10 + j, none⟩ = some u := fun j u hj hu => by
    obtain ⟨u', h1, h2⟩ := hc j hj
    rw [hu] at h2; injection h2 with h2; rw [h2]; exact h1
  exact ⟨f 0 _ (by omega) rfl, f 1 _ (by omega) rfl, f 2 _ (by omega) rfl, f 3 _ (by omega) rfl, f 4 _ (by omega) rfl, f 5 _ (by omega) rfl, f 6 _ (by omega) rfl, f 7 _ (by omega) rfl, f 8 _ (by omega) rfl, f 9 _ (by omega) rfl⟩
set_option maxRecDepth 100000 in
set_option maxHeartbeats 1600000 in
theorem fair_c (w : World) (v : Value) (l : List Op) (h : Rd w 10 encO v l) :
    Calls Tryz.prog 37 #[v] w fun e w' => e = .returned (.bool (fairL l)) ∧ Keep [] w w' := by
  obtain ⟨A, cap, hv, hc, hm, _⟩ := id h
  subst hv
  have H := Lib.hid h
  clear h
  go_enter Tryz.func37, Tryz.ntmps37
  go_wp2
  go_loopw [3] (fun i wr => ∃ k : Nat, k ≤ l.length ∧ i = .int .i64 k ∧ Hid (Keep [] w wr) ∧ Hid (∀ j (hj : j < l.length), j < k → largeO l[j] = false)) (fun i _ => l.length - (intOf i).toNat)
  case atStart => exact ⟨0, by omega, rfl, Keep.refl _ _, fun j _ hj => by omega⟩
  case round =>
    obtain ⟨k, hk, rfl, hK, hr⟩ := hrel
    by_cases hlt : k < l.length
    · obtain ⟨b, off, rfl, c0, c1, c2, c3, c4, c5, c6, c7, c8, c9⟩ := (H.out.keep hK.out).op_at k hlt
      go_wp2_with fail
      refine (largeO_c l[k] _).mono ?_
      rintro e w' ⟨rfl, hk2⟩
      have hk3 := hK.out.trans0 hk2
      clear c0 c1 c2 c3 c4 c5 c6 c7 c8 c9 hk2
      cases hq : largeO l[k] with
      | true =>
        have E := Lib.hid (show fairL l = false from by
          have : l.all (fun o => !largeO o) = false := by rw [List.all_eq_false]; exact ⟨l[k], List.getElem_mem hlt, by rw [hq]; simp⟩
          unfold fairL; rw [this]; rfl)
        clear hq hr
        go_wp2
        go_ret
        exact ⟨ret_b E.out.symm, hk3⟩
      | false =>
        have HR : Hid (∀ j (hj : j < l.length), j < k + 1 → largeO l[j] = false) := fun j hj hjk => by
          by_cases e : j = k
          · subst e; exact hq
          · exact hr.out j hj (by omega)
        clear hq hr
        go_wp2
        exact ⟨⟨k + 1, by omega, by go_num, hk3, HR⟩, by simp [intOf]; omega⟩
    · have E := Lib.hid (show fairL l = decide ((l.length : Int) ≤ 200) from by
        have : l.all (fun o => !largeO o) = true := by
          rw [List.all_eq_true]; intro x hx
          obtain ⟨j, hj, rfl⟩ := List.getElem_of_mem hx
          rw [hr.out j hj (by omega)]; rfl
        unfold fairL; rw [this, Bool.true_and]; rw [Bool.eq_iff_iff]; simp; omega)
      clear hr
      go_wp2
      go_ret
      exact ⟨ret_b (by rw [E.out]; try simp), hK.out⟩
def bs (l : List UInt8) : ByteArray := ⟨l.toArray⟩
def typN : List ByteArray := [⟨#[99, 105, 116, 121]⟩, ⟨#[109, 97, 110]⟩, ⟨#[122, 111, 111]⟩]
def typE : List ByteArray := [⟨#[107, 110, 111, 119, 115]⟩, ⟨#[114, 111, 97, 100]⟩]
theorem Blk.rdS {w : World} {p T : Nat} {xs : List ByteArray} (h : Blk w p T (xs.flatMap encS).toArray) (hm : xs.length ≤ 1000) : Rd w 1 encS (.slice (some ⟨p, 0, none⟩) xs.length xs.length) xs := by
  refine ⟨_, _, rfl, Nat.le_refl _, by omega, fun i hi => ⟨p, 0, rfl, fun j hj => ?_⟩⟩
  have h0 : j = 0 := by omega
  subst h0
  refine ⟨.string xs[i], ?_, rfl⟩
  have := flat_get (enc := encS) (k := 1) (fun _ => rfl) xs i 0 hi (by omega)
  rw [show 0 + i * 1 + 0 = i * 1 + 0 from by omega, h.cell, List.getElem?_toArray, this]; rfl
set_option maxRecDepth 100000 in
set_option maxHeartbeats 1600000 in
theorem types_c (w : World) : Calls Tryz.prog 21 #[] w fun e w' => ∃ cn ce, e = .returned (cat5 cn ce (.slice none 0 0) (.slice none 0 0) (.int .i64 1)) ∧ CatR w' cn ce typN typE ∧ Keep [] w w' := by
  have B0 := ((Blk.new w #[.slice (some ⟨w.heap.size + 1, 0, none⟩) 3 3, .slice (some ⟨w.heap.size + 2, 0, none⟩) 2 2, .slice none 0 0, .slice none 0 0, .int .i64 1] 59).alloc (Obj.cells (typN.flatMap encS).toArray 9)).alloc (Obj.cells (typE.flatMap encS).toArray 9)
  have B1 := (Blk.new2 w (Obj.cells #[.slice (some ⟨w.heap.size + 1, 0, none⟩) 3 3, .slice (some ⟨w.heap.size + 2, 0, none⟩) 2 2, .slice none 0 0, .slice none 0 0, .int .i64 1] 59) (typN.flatMap encS).toArray 9).alloc (Obj.cells (typE.flatMap encS).toArray 9)
  have B2 := Blk.new3 w (Obj.cells #[.slice (some ⟨w.heap.size + 1, 0, none⟩) 3 3, .slice (some ⟨w.heap.size + 2, 0, none⟩) 2 2, .slice none 0 0, .slice none 0 0, .int .i64 1] 59) (Obj.cells (typN.flatMap encS).toArray 9) (typE.flatMap encS).toArray 9
  have K := ((Keep.alloc0 w (Obj.cells #[.slice (some ⟨w.heap.size + 1, 0, none⟩) 3 3, .slice (some ⟨w.heap.size + 2, 0, none⟩) 2 2, .slice none 0 0, .slice none 0 0, .int .i64 1] 59)).alloc (Obj.cells (typN.flatMap encS).toArray 9)).alloc (Obj.cells (typE.flatMap encS).toArray 9)
  have HB0 := Lib.hid B0
  have HB1 := Lib.hid B1
  have HB2 := Lib.hid B2
  have HK := Lib.hid K
  clear B0 B1 B2 K
  go_enter Tryz.func21, Tryz.ntmps21
  go_wp2
  refine bodyPost_ret (results_c rfl _ _ w.heap.size _ _ _ rfl HB0.out Tryz.underlying59 rfl (by kernel_rfl)) rfl ⟨_, _, rfl, ⟨HB1.out.rdS (by simp [typN]), HB2.out.rdS (by simp [typE])⟩, HK.out⟩
end Go.Proofs.Hg
namespace Go.Proofs.Hg
open Go Go.RowKit Go.Proofs Go.Shelf
section
variable (w : World) (p : Nat) (g : Gr) (nv ev : Value) (fn : List FN) (fe : List FE) (cn ce cr ci cx : Value) (ns es : List ByteArray) (o : Op)
set_option maxRecDepth 100000 in
set_option maxHeartbeats 1600000 in
theorem rmayAN_c (k1 : o.k = 1) (hi : GInv g) (h : GAt 42 w p g nv ev fn fe) (hc : CatR w cn ce ns es) :
    Calls Tryz.prog 54 #[.pointer (some ⟨p, 0, none⟩), cat5 cn ce cr ci cx, opV o] w fun e w' => e = .returned (.int .i64 (mayAN ns g o)) ∧ Keep [] w w' := by
  have K0 := (Keep.alloc0 w (Obj.cells #[cn, ce, cr, ci, cx] 59)).alloc (Obj.cells (encO o).toArray 50)
  have HC := (Blk.new w #[cn, ce, cr, ci, cx] 59).alloc (Obj.cells (encO o).toArray 50)
  have HX := Blk.new2 w (Obj.cells #[cn, ce, cr, ci, cx] 59) (encO o).toArray 50
  have hb := h.blk.keep K0 (by simp)
  have HH := Lib.hid (fun W (hk : Keep [] w W) => rhas1_c W cn ce cr ci cx ns es o.ty (hc.keep hk))
  obtain ⟨A, ca, hv, _, _⟩ := h.n.slice
  obtain ⟨B, cb, hw, _, _⟩ := h.e.slice
  have l1 := h.vn.length
  have l2 := h.ve.length
  have l3 := hi.lenN
  have l4 := hi.lenE
  have E := Lib.hid (show fullG g = (decide (1024 ≤ fn.length + fe.length) || decide ((4611686018427387903 : Int) < g.next)) from by unfold fullG; rw [l1, l2])
  rw [← l1] at l3
  rw [← l2] at l4
  clear l1 l2 hc h hi
  subst hv hw
  unfold encO at *
  have HK1 := Lib.hid k1
  clear k1
  have HK := Lib.hid K0
  have Hb := Lib.hid hb
  have HC' := Lib.hid HC
  have HX' := Lib.hid HX
  clear K0 hb HC HX
  go_enter Tryz.func54, Tryz.ntmps54
  go_wp2_with fail
  generalize (w.alloc _).alloc _ = W at *
  have c0 := Hb.out.cell 0
  have c1 := Hb.out.cell 1
  have c2 := Hb.out.cell 2
  simp only [List.getElem?_toArray, List.getElem?_cons_succ, List.getElem?_cons_zero] at c0 c1 c2
  have s0 : (0 : Int) ≤ (fn.length : Int) + (fe.length : Int) := by omega
  have S : Hid (∀ n, Keep [] w (W.drewN n) ∧ Blk (W.drewN n) w.heap.size 59 #[cn, ce, cr, ci, cx] ∧ Blk (W.drewN n) (w.heap.size + 1) 50 _) := fun n => ⟨HK.out.drewN n, HC'.out.drewN n, HX'.out.drewN n⟩
  have b0 := fun n => (S.out n).2.1.cell 0
  have b1 := fun n => (S.out n).2.1.cell 1
  have b2 := fun n => (S.out n).2.1.cell 2
  have b3 := fun n => (S.out n).2.1.cell 3
  have b4 := fun n => (S.out n).2.1.cell 4
  have d0 := fun n => (S.out n).2.2.cell 0
  have d2 := fun n => (S.out n).2.2.cell 2
  simp only [List.getElem?_toArray, List.getElem?_cons_succ, List.getElem?_cons_zero] at b0 b1 b2 b3 b4 d0 d2
  rw [HK1.out] at d0
  by_cases hf : (1024 : Int) ≤ (fn.length : Int) + (fe.length : Int)
  · have hF : Hid (fullG g = true) := by show _ = _; rw [E.out]; simp; omega
    go_quiet (fail)
    go_wp2_with fail
    refine (HH.out _ (S.out _).1).mono ?_
    rintro e w1 ⟨rfl, hk1⟩
    have hk2 := (S.out _).1.trans0 hk1
    clear hk1 b0 b1 b2 b3 b4 d0 d2 c0 c1 c2
    cases h1 : hasS ns o.ty
    all_goals
      have E2 := Lib.hid (show mayAN ns g o = _ from by unfold mayAN; rw [h1, hF.out])
      clear h1
      go_wp2
      go_ret
      exact ⟨ret_i E2.out.symm, hk2⟩
  · have hd : decide ((1024 : Int) ≤ (fn.length : Int) + (fe.length : Int)) = false := by simpa using hf
    cases hn : decide ((4611686018427387903 : Int) < g.next)
    all_goals
      have hF := Lib.hid (show fullG g = _ from by rw [E.out, hn, show decide (1024 ≤ fn.length + fe.length) = false from by simp; omega, Bool.false_or])
      go_quiet (fail)
      go_wp2_with fail
      refine (HH.out _ (S.out _).1).mono ?_
      rintro e w1 ⟨rfl, hk1⟩
      have hk2 := (S.out _).1.trans0 hk1
      clear hk1 b0 b1 b2 b3 b4 d0 d2 c0 c1 c2
      cases h1 : hasS ns o.ty
      all_goals
        have E2 := Lib.hid (show mayAN ns g o = _ from by unfold mayAN; rw [h1, hF.out])
        clear h1
        go_wp2
        go_ret
        exact ⟨ret_i E2.out.symm, hk2⟩
end
end Go.Proofs.Hg
namespace Go.Proofs.Hg
open Go Go.RowKit Go.Proofs Go.Shelf
theorem GAt.setNext {T p : Nat} {w : World} {g : Gr} {nv ev : Value} {fn : List FN} {fe : List FE} (h : GAt T w p g nv ev fn fe) (hT : T ≠ 135 ∧ T ≠ 113 ∧ T ≠ 115) (nx : Int) :
    GAt T (w.setCell ⟨p, 2, none⟩ (.int .i64 nx)) p ⟨g.N, g.E, nx⟩ nv ev fn fe ∧ Keep (foot p nv ev) w (w.setCell ⟨p, 2, none⟩ (.int .i64 nx)) := by
  have k3 : Keep (foot p nv ev) w (w.setCell ⟨p, 2, none⟩ (.int .i64 nx)) := (Keep.refl _ _).setBlk h.blk hT.1 (mem_foot.2 (.inl rfl)) 2 _
  have vv := keep_views (g := ⟨g.N, g.E, nx⟩) k3 h.vn h.ve
  exact ⟨⟨h.blk.set 2 _, h.n.set_blk h.blk (Ne.symm hT.2.1) 2, h.e.set_blk h.blk (Ne.symm hT.2.2) 2, vv.1, vv.2⟩, k3⟩
section
variable (w : World) (p : Nat) (g : Gr) (nv ev : Value) (fn : List FN) (fe : List FE) (cn ce cr ci cx : Value) (ns es : List ByteArray) (o : Op)
set_option maxRecDepth 100000 in
set_option maxHeartbeats 1600000 in
theorem rdo_err (r : Int) (hr : r ≠ 0) (HM : ∀ W, Keep [] w W → Calls Tryz.prog 54 #[.pointer (some ⟨p, 0, none⟩), cat5 cn ce cr ci cx, opV o] W fun e w' => e = .returned (.int .i64 r) ∧ Keep [] W w') :
    Calls Tryz.prog 29 #[.pointer (some ⟨p, 0, none⟩), cat5 cn ce cr ci cx, opV o] w fun e w' => e = .returned (.tuple #[.int .i64 0, .int .i64 r]) ∧ Keep [] w w' := by
  have HK := Lib.hid ((Keep.alloc0 w (Obj.cells #[cn, ce, cr, ci, cx] 59)).alloc (Obj.cells (encO o).toArray 50))
  unfold encO at *
  go_enter Tryz.func29, Tryz.ntmps29
  go_wp2_with fail
  refine (HM _ HK.out).mono ?_
  rintro e w1 ⟨rfl, hk1⟩
  have hk2 := HK.out.trans0 hk1
  clear hk1
  go_wp2
  go_ret2
  exact ⟨rfl, hk2⟩
set_option maxRecDepth 100000 in
set_option maxHeartbeats 1600000 in
theorem rdoAN_c (k1 : o.k = 1) (h0 : 0 ≤ g.next) (h1 : g.next < 4611686018427387904) (hl : fn.length ≤ 1000000) (h : GAt 42 w p g nv ev fn fe)
    (HM : ∀ W, Keep [] w W → Calls Tryz.prog 54 #[.pointer (some ⟨p, 0, none⟩), cat5 cn ce cr ci cx, opV o] W fun e w' => e = .returned (.int .i64 0) ∧ Keep [] W w') :
    Calls Tryz.prog 29 #[.pointer (some ⟨p, 0, none⟩), cat5 cn ce cr ci cx, opV o] w fun e w' => e = .returned (.tuple #[.int .i64 g.next, .int .i64 0]) ∧
      ∃ nv', GAt 42 w' p ⟨g.N ++ [⟨g.next, o.ty, []⟩], g.E, g.next + 1⟩ nv' ev (fn ++ [⟨g.next, o.ty, .slice none 0 0⟩]) fe ∧ Keep (foot p nv ev) w w' ∧ (∀ k, k ∈ foot p nv' ev → k ∈ foot p nv ev ∨ w.heap.size ≤ k) := by
  obtain ⟨i0, hi0, hz0, hz1, hz2⟩ := info_parts infoN
  have K0 := (Keep.alloc0 w (Obj.cells #[cn, ce, cr, ci, cx] 59)).alloc (Obj.cells (encO o).toArray 50)
  have HX := Blk.new2 w (Obj.cells #[cn, ce, cr, ci, cx] 59) (encO o).toArray 50
  have HM1 := Lib.hid (HM _ K0)
  have HG := Lib.hid h
  unfold encO at *
  have HK := Lib.hid K0
  have HXX := Lib.hid HX
  have HK1 := Lib.hid k1
  clear K0 HX HM h k1
  go_enter Tryz.func29, Tryz.ntmps29
  go_wp2_with fail
  generalize (w.alloc _).alloc _ = W0 at *
  refine HM1.out.mono ?_
  rintro e W ⟨rfl, hk1⟩
  have HK2 := Lib.hid (HK.out.trans0 hk1)
  have X1 := Lib.hid (HXX.out.keep hk1 (by simp))
  have G1 := HG.out.keep HK2.out (fun _ _ hm => by simp at hm)
  have R1 := Lib.hid G1.blk
  have N1 := Lib.hid G1.n
  clear hk1 HXX HK HM1 G1
  have d0 := X1.out.cell 0
  have d2 := X1.out.cell 2
  have c0 := R1.out.cell 0
  have c2 := R1.out.cell 2
  have f0 := R1.out.free 0
  simp only [List.getElem?_toArray, List.getElem?_cons_succ, List.getElem?_cons_zero] at d0 d2 c0 c2
  rw [HK1.out] at d0
  go_wp2_with fail
  have HP := Lib.hid (N1.out.ne_blk R1.out (by decide))
  have l1 := R1.out.lt
  have l2 := X1.out.lt
  have HW := Lib.hid (N1.out.ne_ge (Nat.le_refl _))
  have HV : Hid (some (w.heap.size + 1) ≠ nv.ownBlock) := fun e => by have := HG.out.n.lt _ e.symm; omega
  have SA : Hid (∀ x, (W.alloc x).drew.cell? ⟨p, 0, none⟩ = some nv ∧ (W.alloc x).drew.frozen? ⟨p, 0, none⟩ = false ∧ (W.alloc x).drew.cell? ⟨w.heap.size + 1, 2, none⟩ = some (.string o.ty)) := fun x => ⟨(R1.out.alloc x).drew.cell 0, (R1.out.alloc x).drew.free 0, (X1.out.alloc x).drew.cell 2⟩
  have SB : Hid (∀ x w2, (W.alloc x).drew.grownBy w2 nv.ownBlock → w2.cell? ⟨p, 0, none⟩ = some nv ∧ w2.frozen? ⟨p, 0, none⟩ = false ∧ w2.cell? ⟨w.heap.size + 1, 2, none⟩ = some (.string o.ty)) := fun x w2 hg => ⟨((R1.out.alloc x).drew.grown hg HP.out).cell 0, ((R1.out.alloc x).drew.grown hg HP.out).free 0, ((X1.out.alloc x).drew.grown hg HV.out).cell 2⟩
  go_region_law
    ((refine step_append_lies _ (by rfl) _ _ _ (by rfl) 0 113 i0 _ 3 48 Tryz.underlying39 hi0 hz0 hz1 hz2 rfl (by omega) nv fn.length (fn.flatMap encN) (by rfl) ((N1.out.alloc _).drew)
        ⟨W.heap.size, 0, none⟩ 1 1 [.int .i64 g.next, .string o.ty, .slice none 0 0] (by rfl) (by rfl) (World.news_of_block (cs := #[.int .i64 g.next, .string o.ty, .slice none 0 0]) (t := 113) (fr := (0, 0)) (heap_alloc_new W _)) (by simp [Value.oneCell'])
        (by omega) (by unfold maxLen; omega) (by omega) (by simp) (W.heap.size + 1) (by simp) ?_; intro gg cap w2 hown1 hgrow hat hlt; obtain ⟨q0, q1, q2⟩ := SB.out _ _ hgrow))
  all_goals
    have D := addN_done (x := ⟨g.next, o.ty, .slice none 0 0⟩) (n := ⟨g.next, o.ty, []⟩) HG.out (by decide) HK2.out R1.out (Keep.refl _ _) hgrow hown1 hat ⟨rfl, rfl, rfl, rfl⟩
    have D2 := Lib.hid (D.1.setNext (by decide) (g.next + 1))
    have DK := Lib.hid D.2
    have e2 := D.1.blk.cell 2
    have e3 := D.1.blk.free 2
    simp only [List.getElem?_toArray, List.getElem?_cons_succ, List.getElem?_cons_zero] at e2
    clear D q0 q1 q2 hgrow hown1 hat
    go_wp2
    go_ret2
    exact ⟨by simp, _, D2.out.1, DK.out.1.trans D2.out.2 DK.out.2, DK.out.2⟩
end
end Go.Proofs.Hg
namespace Go.Proofs.Hg
open Go Go.RowKit Go.Proofs Go.Shelf
theorem rnew_c (w : World) : Calls Tryz.prog 36 #[] w fun e w' => ∃ p F, e = .returned (.pointer (some ⟨p, 0, none⟩)) ∧ GA 42 w' p emptyG F ∧ Keep [] w w' ∧ ∀ k, k ∈ F → w.heap.size ≤ k := by
  have HB := Lib.hid (Blk.new w #[.slice none 0 0, .slice none 0 0, .int .i64 1] 42)
  go_enter Tryz.func36, Tryz.ntmps36
  go_wp2
  go_ret
  exact ⟨w.heap.size, _, rfl, ⟨_, _, [], [], ⟨HB.out, Row.nil _ _ _ _, Row.nil _ _ _ _, .nil, .nil⟩, rfl⟩, Keep.alloc0 _ _, fun k hk => by simp [foot, Value.ownBlock] at hk; omega⟩
/-- The document's Do of a change, whatever the graph. -/
def RDo (o : Op) : Prop := ∀ (w : World) (p : Nat) (g : Gr) (F : List Nat) (cn ce cr ci cx : Value) (ns es : List ByteArray), GInv g → (∀ ps, psOf g o.id = some ps → ps.length ≤ 100000) → 0 ≤ g.next → g.next < 4611686018427387904 →
  GA 42 w p g F → CatR w cn ce ns es →
  Calls Tryz.prog 29 #[.pointer (some ⟨p, 0, none⟩), cat5 cn ce cr ci cx, opV o] w fun e w' =>
      if mayG ns es g o = 0 then e = .returned (.tuple #[.int .i64 (idG g o), .int .i64 0]) ∧ After 42 w p F (actG g o) w'
      else e = .returned (.tuple #[.int .i64 0, .int .i64 (mayG ns es g o)]) ∧ Keep [] w w'
theorem rdo1 (o : Op) (k1 : o.k = 1) : RDo o := fun w p g F cn ce cr ci cx ns es hi hl h0 h1 h hc => by
  obtain ⟨nv, ev, fn, fe, h, rfl⟩ := h
  have hG : ∀ W, Keep [] w W → GAt 42 W p g nv ev fn fe := fun W hk => h.keep hk (fun _ _ hm => by simp at hm)
  have e0 : mayG ns es g o = mayAN ns g o := by unfold mayG; rw [if_pos k1]
  have hM := fun W (hk : Keep [] w W) => rmayAN_c W p g nv ev fn fe cn ce cr ci cx ns es o k1 hi (hG W hk) (hc.keep hk)
  have ln : fn.length ≤ 1000000 := by have := hi.lenN; have := h.vn.length; omega
  rw [e0]
  by_cases hm : mayAN ns g o = 0
  · simp only [if_pos hm]
    rw [hm] at hM
    refine (rdoAN_c w p g nv ev fn fe cn ce cr ci cx o k1 h0 h1 ln h hM).mono ?_
    rintro e w' ⟨rfl, nv', a, b, c⟩
    have e1 : idG g o = g.next := by unfold idG; rw [if_pos (.inl k1)]
    have e2 : actG g o = ⟨g.N ++ [⟨g.next, o.ty, []⟩], g.E, g.next + 1⟩ := by unfold actG; rw [if_pos k1]
    rw [e1, e2]
    exact ⟨rfl, _, ⟨_, _, _, _, a, rfl⟩, b, c⟩
  · simp only [if_neg hm]
    exact rdo_err w p cn ce cr ci cx o _ hm hM
end Go.Proofs.Hg
namespace Go.Proofs.Hg
open Go Go.RowKit Go.Proofs Go.Shelf
def doId (ns es : List ByteArray) (g : Gr) (o : Op) : Int := if mayG ns es g o = 0 then idG g o else 0
theorem After.same {T p : Nat} {w w' : World} {F : List Nat} {g : Gr} (h : GA T w p g F) (hk : Keep [] w w') : After T w p F g w' := ⟨F, h.keep hk (fun _ _ => by simp), hk.mono (fun _ hm => by simp at hm), fun k hk => .inl hk⟩
theorem do_c (w : World) (p : Nat) (g : Gr) (F : List Nat) (cn ce cr ci cx : Value) (ns es : List ByteArray) (o : Op) (n : Nat) (hn : n ≤ 100000) (hg : GI n g) (h : GA 106 w p g F) (hc : CatR w cn ce ns es) :
    Calls Tryz.prog 20 #[.pointer (some ⟨p, 0, none⟩), cat5 cn ce cr ci cx, opV o] w fun e w' => e = .returned (.tuple #[.int .i64 (doId ns es g o), .int .i64 (mayG ns es g o)]) ∧ After 106 w p F (stepG ns es g o) w' := by
  refine (Do_c w p g F cn ce cr ci cx ns es o (hg.inv hn) (hg.psOf o.id) (by have := hg.next1; omega) (by have := hg.nextn; omega) h hc).mono ?_
  intro e w' hh
  unfold doId stepG
  by_cases hm : mayG ns es g o = 0
  · rw [if_pos hm] at hh ⊢
    rw [if_pos hm, hm]; exact hh
  · rw [if_neg hm] at hh ⊢
    rw [if_neg hm]
    exact ⟨hh.1, After.same h hh.2⟩
theorem rdo_c (w : World) (p : Nat) (g : Gr) (F : List Nat) (cn ce cr ci cx : Value) (ns es : List ByteArray) (o : Op) (n : Nat) (hn : n ≤ 100000) (hR : RDo o) (hg : GI n g) (h : GA 42 w p g F) (hc : CatR w cn ce ns es) :
    Calls Tryz.prog 29 #[.pointer (some ⟨p, 0, none⟩), cat5 cn ce cr ci cx, opV o] w fun e w' => e = .returned (.tuple #[.int .i64 (doId ns es g o), .int .i64 (mayG ns es g o)]) ∧ After 42 w p F (stepG ns es g o) w' := by
  refine (hR w p g F cn ce cr ci cx ns es (hg.inv hn) (hg.psOf o.id) (by have := hg.next1; omega) (by have := hg.nextn; omega) h hc).mono ?_
  intro e w' hh
  unfold doId stepG
  by_cases hm : mayG ns es g o = 0
  · rw [if_pos hm] at hh ⊢
    rw [if_pos hm, hm]; exact hh
  · rw [if_neg hm] at hh ⊢
    rw [if_neg hm]
    exact ⟨hh.1, After.same h hh.2⟩
/-- The two graphs, apart, in new memory. -/
def Both (w0 w : World) (pg pq : Nat) (g : Gr) : Prop := ∃ Fg Fq, GA 106 w pg g Fg ∧ GA 42 w pq g Fq ∧ (∀ k, k ∈ Fg → k ∉ Fq) ∧ (∀ k, k ∈ Fg → w0.heap.size ≤ k) ∧ (∀ k, k ∈ Fq → w0.heap.size ≤ k)
theorem Both.keep {w0 w w' : World} {pg pq : Nat} {g : Gr} (h : Both w0 w pg pq g) (hk : Keep [] w w') : Both w0 w' pg pq g := by
  obtain ⟨Fg, Fq, h1, h2, h3⟩ := h
  exact ⟨Fg, Fq, h1.keep hk (fun _ _ => by simp), h2.keep hk (fun _ _ => by simp), h3⟩
/-- The program's graph has changed, and then the document's. -/
def Half (w0 w : World) (pg pq : Nat) (g' g : Gr) : Prop := ∃ Fg Fq, GA 106 w pg g' Fg ∧ GA 42 w pq g Fq ∧ (∀ k, k ∈ Fg → k ∉ Fq) ∧ (∀ k, k ∈ Fg → w0.heap.size ≤ k) ∧ (∀ k, k ∈ Fq → w0.heap.size ≤ k)
theorem Half.keep {w0 w w' : World} {pg pq : Nat} {g g' : Gr} (h : Half w0 w pg pq g' g) (hk : Keep [] w w') : Half w0 w' pg pq g' g := by
  obtain ⟨Fg, Fq, h1, h2, h3⟩ := h
  exact ⟨Fg, Fq, h1.keep hk (fun _ _ => by simp), h2.keep hk (fun _ _ => by simp), h3⟩
theorem half_of {w0 w w' : World} {pg pq : Nat} {g g' : Gr} {Fg Fq : List Nat} (hw : w0.heap.size ≤ w.heap.size) (h2 : GA 42 w pq g Fq) (hd : ∀ k, k ∈ Fg → k ∉ Fq) (h0 : ∀ k, k ∈ Fg → w0.heap.size ≤ k) (h0' : ∀ k, k ∈ Fq → w0.heap.size ≤ k) (ha : After 106 w pg Fg g' w') : Half w0 w' pg pq g' g ∧ (Keep [] w0 w → Keep [] w0 w') := by
  obtain ⟨F', a, b, c⟩ := ha
  refine ⟨⟨F', Fq, a, h2.keep b (fun k hk hm => hd k hm hk), fun k hk hq => ?_, fun k hk => ?_, h0'⟩, fun h => h.trans b (fun k hk => .inr (h0 k hk))⟩
  · rcases c k hk with h | h
    · exact hd k h hq
    · have := h2.lt k hq; omega
  · rcases c k hk with h | h
    · exact h0 k h
    · omega
theorem both_of {w0 w w' : World} {pg pq : Nat} {g' : Gr} {Fg Fq : List Nat} (hw : w0.heap.size ≤ w.heap.size) (h1 : GA 106 w pg g' Fg) (hd : ∀ k, k ∈ Fg → k ∉ Fq) (h0 : ∀ k, k ∈ Fg → w0.heap.size ≤ k) (h0' : ∀ k, k ∈ Fq → w0.heap.size ≤ k) (ha : After 42 w pq Fq g' w') : Both w0 w' pg pq g' ∧ (Keep [] w0 w → Keep [] w0 w') := by
  obtain ⟨F', a, b, c⟩ := ha
  refine ⟨⟨Fg, F', h1.keep b (fun k hk hm => hd k hk hm), a, fun k hk hq => ?_, h0, fun k hk => ?_⟩, fun h => h.trans b (fun k hk => .inr (h0' k hk))⟩
  · rcases c k hq with h | h
    · exact hd k hk h
    · have := h1.lt k hk; omega
  · rcases c k hk with h | h
    · exact h0' k h
    · omega
theorem Rd.op_at2 {w : World} {b off n cap : Nat} {xs : List Op} (h : Rd w 10 encO (.slice (some ⟨b, off, none⟩) n cap) xs) (i : Nat) (hi : i < xs.length) :
    w.cell? ⟨b, off + i * 10, none⟩ = some (.int .i64 xs[i].k) ∧ w.cell? ⟨b, off + i * 10 + 1, none⟩ = some (.int .i64 xs[i].id) ∧ w.cell? ⟨b, off + i * 10 + 2, none⟩ = some (.string xs[i].ty) ∧ w.cell? ⟨b, off + i * 10 + 3, none⟩ = some (.int .i64 xs[i].fr) ∧
    w.cell? ⟨b, off + i * 10 + 4, none⟩ = some (.int .i64 xs[i].tt) ∧ w.cell? ⟨b, off + i * 10 + 5, none⟩ = some (.string xs[i].name) ∧ w.cell? ⟨b, off + i * 10 + 6, none⟩ = some (.int .i64 xs[i].v.k) ∧ w.cell? ⟨b, off + i * 10 + 7, none⟩ = some (.int .i64 xs[i].v.n) ∧
    w.cell? ⟨b, off + i * 10 + 8, none⟩ = some (.string xs[i].v.s) ∧ w.cell? ⟨b, off + i * 10 + 9, none⟩ = some (.bool xs[i].casc) := by
  obtain ⟨b', off', hA, r⟩ := h.op_at i hi
  injection hA with hA
  injection hA with h1 h2
  subst h1 h2
  exact r
end Go.Proofs.Hg
namespace Go.Proofs.Hg
open Go Go.RowKit Go.Proofs Go.Shelf
theorem made_bad_c (w : World) (v : Value) (l : List Op) (hl : Rd w 10 encO v l) (hf : fairL l = false) :
    Calls Tryz.prog 9 #[v] w fun e w' => e = .returned (.tuple #[.pointer none, .pointer none, .bool false]) ∧ Keep [] w w' := by
  have HL := Lib.hid (fun W (hk : Keep [] w W) => fair_c W v l (hl.keep hk))
  rw [hf] at HL
  obtain ⟨A, cap, hv, _, _, _⟩ := hl
  subst hv
  clear hf
  go_enter Tryz.func9, Tryz.ntmps9
  go_wp2_with fail
  refine (new_c w).mono ?_
  rintro e w1 ⟨pg, Fg, rfl, _, hk1, _⟩
  have HK1 := Lib.hid hk1
  clear hk1
  go_wp2_with fail
  refine (rnew_c w1).mono ?_
  rintro e w2 ⟨pq, Fq, rfl, _, hk2, _⟩
  have HK2 := Lib.hid (HK1.out.trans0 hk2)
  clear hk2
  go_wp2_with fail
  refine (HL.out w2 HK2.out).mono ?_
  rintro e w3 ⟨rfl, hk3⟩
  have HK3 := Lib.hid (HK2.out.trans0 hk3)
  clear hk3
  go_wp2
  go_ret3
  exact ⟨rfl, HK3.out⟩
set_option maxRecDepth 100000 in
set_option maxHeartbeats 3200000 in
theorem made_c (w : World) (v : Value) (l : List Op) (hl : Rd w 10 encO v l) (hf : fairL l = true) (hR : ∀ o ∈ l.take 60, RDo o) :
    Calls Tryz.prog 9 #[v] w fun e w' => ∃ pg pq, e = .returned (.tuple #[.pointer (some ⟨pg, 0, none⟩), .pointer (some ⟨pq, 0, none⟩), .bool true]) ∧ Both w w' pg pq (madeG typN typE (l.take 60)) ∧ Keep [] w w' := by
  have HL := Lib.hid (fun W (hk : Keep [] w W) => fair_c W v l (hl.keep hk))
  rw [hf] at HL
  have HRd := Lib.hid hl
  have hlen : l.length ≤ 200 := by unfold fairL at hf; simp at hf; exact hf.2
  obtain ⟨A, cap, hv, _, _, _⟩ := hl
  subst hv
  have HR := Lib.hid hR
  clear hf hR
  go_enter Tryz.func9, Tryz.ntmps9
  go_wp2_with fail
  refine (new_c w).mono ?_
  rintro e w1 ⟨pg, Fg, rfl, ga, hk1, hf1⟩
  have HK1 := Lib.hid hk1
  have HG1 := Lib.hid ga
  have HF1 := Lib.hid hf1
  clear hk1 ga hf1
  go_wp2_with fail
  refine (rnew_c w1).mono ?_
  rintro e w2 ⟨pq, Fq, rfl, gq, hk2, hf2⟩
  have HB2 : Hid (Both w w2 pg pq emptyG) := ⟨Fg, Fq, HG1.out.keep hk2 (fun _ _ => by simp), gq, fun k hk hq => by have := HG1.out.lt k hk; have := hf2 k hq; omega, HF1.out, fun k hk => by have := hf2 k hk; have := HK1.out.size; omega⟩
  have HK2 := Lib.hid (HK1.out.trans0 hk2)
  clear hk2 gq hf2
  go_wp2_with fail
  refine (HL.out w2 HK2.out).mono ?_
  rintro e w3 ⟨rfl, hk3⟩
  have HB3 := Lib.hid (HB2.out.keep hk3)
  have HK3 := Lib.hid (HK2.out.trans0 hk3)
  clear hk3
  go_wp2_with fail
  go_loopw [7] (fun i wr => ∃ k : Nat, k ≤ l.length ∧ k ≤ 60 ∧ i = .int .i64 k ∧ Hid (Both w wr pg pq (madeG typN typE (l.take k))) ∧ Hid (Keep [] w wr)) (fun i _ => l.length - (RowKit.intOf i).toNat)
  case atStart => exact ⟨0, by omega, by omega, rfl, HB3.out, HK3.out⟩
  case round =>
    obtain ⟨k, hk, hk60, rfl, hB, hK⟩ := hrel
    by_cases hlt : k < l.length
    · by_cases h60 : k < 60
      · have HT := Lib.hid (madeG_take (ns := typN) (es := typE) hlt)
        have hgi : GI k (madeG typN typE (l.take k)) := by
          have := madeG_inv typN typE (l.take k) emptyG 0 GI.empty
          rw [List.length_take, Nat.min_eq_left hk, Nat.zero_add] at this; exact this
        have hro : RDo l[k] := HR.out _ (by rw [List.mem_take_iff_getElem]; exact ⟨k, by omega, rfl⟩)
        obtain ⟨G, hG⟩ : ∃ G, G = madeG typN typE (l.take k) := ⟨_, rfl⟩
        rw [← hG] at hB HT hgi
        have HGI := Lib.hid hgi
        have HRO := Lib.hid hro
        clear hG hgi hro
        obtain ⟨b, off, hA, _⟩ := (HRd.out.keep hK.out).op_at k hlt
        subst hA
        have SK : Hid (∀ W, Keep [] w W → W.cell? ⟨b, off + k * 10, none⟩ = some (.int .i64 l[k].k) ∧ W.cell? ⟨b, off + k * 10 + 1, none⟩ = some (.int .i64 l[k].id) ∧ W.cell? ⟨b, off + k * 10 + 2, none⟩ = some (.string l[k].ty) ∧ W.cell? ⟨b, off + k * 10 + 3, none⟩ = some (.int .i64 l[k].fr) ∧
          W.cell? ⟨b, off + k * 10 + 4, none⟩ = some (.int .i64 l[k].tt) ∧ W.cell? ⟨b, off + k * 10 + 5, none⟩ = some (.string l[k].name) ∧ W.cell? ⟨b, off + k * 10 + 6, none⟩ = some (.int .i64 l[k].v.k) ∧ W.cell? ⟨b, off + k * 10 + 7, none⟩ = some (.int .i64 l[k].v.n) ∧
          W.cell? ⟨b, off + k * 10 + 8, none⟩ = some (.string l[k].v.s) ∧ W.cell? ⟨b, off + k * 10 + 9, none⟩ = some (.bool l[k].casc)) := fun W hk => (HRd.out.keep hk).op_at2 k hlt
        go_wp2_with fail
        go_region_held3 (fun W => W.cell? ⟨b, off + k * 10, none⟩ = some (.int .i64 l[k].k) ∧ W.cell? ⟨b, off + k * 10 + 1, none⟩ = some (.int .i64 l[k].id) ∧ W.cell? ⟨b, off + k * 10 + 2, none⟩ = some (.string l[k].ty) ∧ W.cell? ⟨b, off + k * 10 + 3, none⟩ = some (.int .i64 l[k].fr) ∧
          W.cell? ⟨b, off + k * 10 + 4, none⟩ = some (.int .i64 l[k].tt) ∧ W.cell? ⟨b, off + k * 10 + 5, none⟩ = some (.string l[k].name) ∧ W.cell? ⟨b, off + k * 10 + 6, none⟩ = some (.int .i64 l[k].v.k) ∧ W.cell? ⟨b, off + k * 10 + 7, none⟩ = some (.int .i64 l[k].v.n) ∧
          W.cell? ⟨b, off + k * 10 + 8, none⟩ = some (.string l[k].v.s) ∧ W.cell? ⟨b, off + k * 10 + 9, none⟩ = some (.bool l[k].casc))
          (first | exact SK.out _ hK.out | exact SK.out _ hK.out.drew | exact SK.out _ hkD.out | exact SK.out _ hkT.out | go_keep)
          ((first
            | (go_at_call 21; refine (types_c _).mono ?_; rintro e w4 ⟨cn, ce, rfl, hcat, hk4⟩; obtain ⟨nA, nC, hcn, _⟩ := id hcat.n; obtain ⟨eA, eC, hce, _⟩ := id hcat.e; subst hcn hce; have HCat := Lib.hid hcat; have hkT := Lib.hid (hK.out.drew.trans0 hk4); have HBT := Lib.hid (hB.out.keep (((Keep.refl [] wr).drew).trans0 hk4)); clear hcat hk4)
            | (go_at_call 20; obtain ⟨Fg4, Fq4, gg4, gq4, hd4, h04, h05⟩ := HBT.out; refine (do_c _ pg G Fg4 _ _ _ _ _ typN typE l[k] k (by omega) HGI.out gg4 HCat.out).mono ?_; rintro e w5 ⟨rfl, ha5⟩; have HH := Lib.hid (half_of hkT.out.size gq4 hd4 h04 h05 ha5); have hkD := Lib.hid (HH.out.2 hkT.out); clear gg4 gq4 hd4 h04 h05 ha5)))
        all_goals
          have HM := Lib.hid HH.out.1
          have hk5 := Lib.hid hkD.out
          clear HH hkD HCat hkT HBT
          go_wp2_with fail
          go_region_held3 (fun W => W.cell? ⟨b, off + k * 10, none⟩ = some (.int .i64 l[k].k) ∧ W.cell? ⟨b, off + k * 10 + 1, none⟩ = some (.int .i64 l[k].id) ∧ W.cell? ⟨b, off + k * 10 + 2, none⟩ = some (.string l[k].ty) ∧ W.cell? ⟨b, off + k * 10 + 3, none⟩ = some (.int .i64 l[k].fr) ∧
            W.cell? ⟨b, off + k * 10 + 4, none⟩ = some (.int .i64 l[k].tt) ∧ W.cell? ⟨b, off + k * 10 + 5, none⟩ = some (.string l[k].name) ∧ W.cell? ⟨b, off + k * 10 + 6, none⟩ = some (.int .i64 l[k].v.k) ∧ W.cell? ⟨b, off + k * 10 + 7, none⟩ = some (.int .i64 l[k].v.n) ∧
            W.cell? ⟨b, off + k * 10 + 8, none⟩ = some (.string l[k].v.s) ∧ W.cell? ⟨b, off + k * 10 + 9, none⟩ = some (.bool l[k].casc))
            (first | exact SK.out _ hk5.out | exact SK.out _ hk5.out.drew | exact SK.out _ hkD2.out | exact SK.out _ hkT2.out | go_keep)
            ((first
              | (go_at_call 21; refine (types_c _).mono ?_; rintro e w6 ⟨cn, ce, rfl, hcat, hk4⟩; obtain ⟨nA2, nC2, hcn, _⟩ := id hcat.n; obtain ⟨eA2, eC2, hce, _⟩ := id hcat.e; subst hcn hce; have HCat2 := Lib.hid hcat; have hkT2 := Lib.hid (hk5.out.drew.trans0 hk4); have HM2 := Lib.hid (HM.out.keep (((Keep.refl [] w5).drew).trans0 hk4)); clear hcat hk4)
              | (go_at_call 29; obtain ⟨Fg6, Fq6, gg6, gq6, hd6, h06, h07⟩ := HM2.out; refine (rdo_c _ pq G Fq6 _ _ _ _ _ typN typE l[k] k (by omega) HRO.out HGI.out gq6 HCat2.out).mono ?_; rintro e w7 ⟨rfl, ha7⟩; have HH2 := Lib.hid (both_of hkT2.out.size gg6 hd6 h06 h07 ha7); have hkD2 := Lib.hid (HH2.out.2 hkT2.out); clear gg6 gq6 hd6 h06 h07 ha7)))
          all_goals
            have HB7 : Hid (Both w w7 pg pq (madeG typN typE (l.take (k + 1)))) := by show Both _ _ _ _ _; rw [HT.out]; exact HH2.out.1
            have HK7 := Lib.hid hkD2.out
            clear HH2 hkD2 HCat2 hkT2 HM2 HM hk5
            go_wp2
            exact ⟨⟨k + 1, by omega, by omega, by go_num, HB7, HK7⟩, by simp [RowKit.intOf]; omega⟩
      · have e60 : k = 60 := by omega
        subst e60
        go_wp2
        go_ret3
        exact ⟨pg, pq, rfl, hB.out, hK.out⟩
    · have ek : k = l.length := by omega
      subst ek
      have e : l.take 60 = l.take l.length := by rw [List.take_length, List.take_of_length_le hk60]
      have HE := Lib.hid e
      clear e
      go_wp2
      go_ret3
      exact ⟨pg, pq, rfl, by rw [HE.out]; exact hB.out, hK.out⟩
end Go.Proofs.Hg
namespace Go.Proofs.Hg
open Go Go.RowKit Go.Proofs Go.Shelf
/-- A job and a graph, apart, in new memory. -/
structure Sc (w0 w : World) (p ch mp pg : Nat) (r : Rule) (c : Nat) (at_ : Int) (T : List Int) (g : Gr) (n : Nat) : Prop where
  job : JobAt w p r c at_ T ch mp
  gr : ∃ F, GA 106 w pg g F ∧ (∀ k, k ∈ F → k ≠ p ∧ k ≠ ch ∧ k ≠ mp) ∧ (∀ k, k ∈ F → w0.heap.size ≤ k)
  keep : Keep [] w0 w
  pn : w0.heap.size ≤ p ∧ w0.heap.size ≤ ch ∧ w0.heap.size ≤ mp
  gi : GI n g
  nn : n ≤ 100000
  c1 : 1 ≤ c ∧ c ≤ 1024
  len : T.length ≤ 4096
theorem Sc.kept {w0 w w' : World} {p ch mp pg : Nat} {r : Rule} {c : Nat} {at_ : Int} {T : List Int} {g : Gr} {n : Nat} (h : Sc w0 w p ch mp pg r c at_ T g n) (hk : Keep [] w w') : Sc w0 w' p ch mp pg r c at_ T g n := by
  obtain ⟨F, a, b, d⟩ := h.gr
  exact ⟨h.job.keep hk (by simp) (by simp) (by simp), ⟨F, a.keep hk (fun _ _ => by simp), b, d⟩, h.keep.trans0 hk, h.pn, h.gi, h.nn, h.c1, h.len⟩
theorem Sc.turn {w0 w w' : World} {p ch mp pg : Nat} {r : Rule} {c : Nat} {at_ at2 : Int} {T T2 : List Int} {g : Gr} {n : Nat} (h : Sc w0 w p ch mp pg r c at_ T g n) (hj : JobAt w' p r c at2 T2 ch mp) (hk : Keep [p, ch, mp] w w') (hl : T2.length ≤ 4096) : Sc w0 w' p ch mp pg r c at2 T2 g n := by
  obtain ⟨F, a, b, d⟩ := h.gr
  refine ⟨hj, ⟨F, a.keep hk (fun k hkF hm => ?_), b, d⟩, h.keep.trans hk (fun k hk => .inr ?_), h.pn, h.gi, h.nn, h.c1, hl⟩
  · have := b k hkF; simp at hm; rcases hm with rfl | rfl | rfl <;> simp at this
  · have := h.pn; simp at hk; rcases hk with rfl | rfl | rfl
    · exact this.1
    · exact this.2.1
    · exact this.2.2
theorem mem_idsAll {n : Nat} {g : Gr} (h : GI n g) (hn : n ≤ 100000) : ∀ x ∈ idsAll g, 0 ≤ x ∧ x < 4611686018427387904 := fun x hx => by
  unfold idsAll at hx
  have := h.nextn
  rcases List.mem_append.1 hx with hx | hx
  · obtain ⟨y, hy, rfl⟩ := List.mem_map.1 hx
    have := h.idN y hy; omega
  · obtain ⟨y, hy, rfl⟩ := List.mem_map.1 hx
    have := h.idE y hy; omega
theorem Sc.psN {w0 w : World} {p ch mp pg : Nat} {r : Rule} {c : Nat} {at_ : Int} {T : List Int} {g : Gr} {n : Nat} (h : Sc w0 w p ch mp pg r c at_ T g n) : ∀ x ∈ g.N, x.ps.length ≤ 100000 := fun x hx => by have := h.gi.psN x hx; omega
theorem Sc.psE {w0 w : World} {p ch mp pg : Nat} {r : Rule} {c : Nat} {at_ : Int} {T : List Int} {g : Gr} {n : Nat} (h : Sc w0 w p ch mp pg r c at_ T g n) : ∀ x ∈ g.E, x.ps.length ≤ 100000 := fun x hx => by have := h.gi.psE x hx; omega
section
variable {w0 w : World} {p ch mp pg : Nat} {r : Rule} {c : Nat} {at_ : Int} {T : List Int} {g : Gr} {n : Nat}
theorem step_sc (h : Sc w0 w p ch mp pg r c at_ T g n) : Calls Tryz.prog 14 #[.pointer (some ⟨p, 0, none⟩), .pointer (some ⟨pg, 0, none⟩)] w fun e w' =>
    e = .returned (.bool (endB (stepAt g c at_ T) (T.drop c) g)) ∧ Sc w0 w' p ch mp pg r c (stepAt g c at_ T) (T.drop c) g n := by
  obtain ⟨F, a, b, d⟩ := h.gr
  have hn := h.nn
  refine (step_c w p r c at_ T ch mp pg g F h.c1.1 h.c1.2 h.len h.job a b (by have := h.gi.lenN; omega) (by have := h.gi.lenE; omega) h.psN h.psE (mem_idsAll h.gi hn)).mono ?_
  rintro e w' ⟨rfl, hj, hk⟩
  exact ⟨rfl, h.turn hj hk (by rw [List.length_drop]; have := h.len; omega)⟩
theorem touch_sc (v : Value) (ids : List Int) (h : Sc w0 w p ch mp pg r c at_ T g n) (hwf : ∀ x ∈ ids, (Lit.int .i64 x).wf = true) (hr : ∀ W, Keep [p, ch, mp] w W → Rd W 1 encI v ids) :
    Calls Tryz.prog 15 #[.pointer (some ⟨p, 0, none⟩), v] w fun e w' => e = .returned (.tuple #[]) ∧ Sc w0 w' p ch mp pg r c (touchS at_ T ids).1 (touchS at_ T ids).2 g n := by
  refine (touch_c w p r c at_ T ch mp v ids h.len hwf hr h.job).mono ?_
  rintro e w' ⟨rfl, hj, hk⟩
  exact ⟨rfl, h.turn hj hk (touchS_len h.len)⟩
theorem verdict0_sc (h : Sc w0 w p ch mp pg r c at_ T g n) (he : endB at_ T g = false) : Calls Tryz.prog 16 #[.pointer (some ⟨p, 0, none⟩), .pointer (some ⟨pg, 0, none⟩)] w fun e w' => e = .returned (.tuple #[.bool false, .int .i64 161]) ∧ Sc w0 w' p ch mp pg r c at_ T g n := by
  obtain ⟨F, a, b, d⟩ := h.gr
  refine (verdict0_c w p r c at_ T ch mp pg g F he h.job a).mono ?_
  rintro e w' ⟨rfl, hk⟩
  exact ⟨rfl, h.kept hk⟩
theorem verdict1_sc (b : Bool) (h : Sc w0 w p ch mp pg r c at_ T g n) (he : endB at_ T g = true) (hK : KeepsOK r g b) : Calls Tryz.prog 16 #[.pointer (some ⟨p, 0, none⟩), .pointer (some ⟨pg, 0, none⟩)] w fun e w' => e = .returned (.tuple #[.bool b, .int .i64 0]) ∧ Sc w0 w' p ch mp pg r c at_ T g n := by
  obtain ⟨F, a, _, d⟩ := h.gr
  have hn := h.nn
  refine (verdict1_c w p r c at_ T ch mp pg g F b he h.job a hK (by have := h.gi.lenN; omega) (by have := h.gi.lenE; omega) h.psN h.psE).mono ?_
  rintro e w' ⟨rfl, hk⟩
  exact ⟨rfl, h.kept hk⟩
/-- A job made behind a graph. -/
theorem new_sc {w0 w : World} {pg pq : Nat} {g : Gr} {n c : Nat} (r : Rule) (hB : Both w0 w pg pq g) (hk : Keep [] w0 w) (hg : GI n g) (hn : n ≤ 100000) (hf : formR r = true) (h1 : 1 ≤ c) (h2 : c ≤ 1024) :
    Calls Tryz.prog 13 #[ruleV r, .int .i64 c] w fun e w' => ∃ p ch mp, e = .returned (.tuple #[.pointer (some ⟨p, 0, none⟩), .int .i64 0]) ∧ Sc w0 w' p ch mp pg r c 1 [] g n ∧ Both w0 w' pg pq g ∧ w.heap.size ≤ p ∧ w.heap.size ≤ ch ∧ w.heap.size ≤ mp := by
  refine (jnew_c r c w hf (by omega) (by omega)).mono ?_
  rintro e w' ⟨p, ch, mp, rfl, hj, hk', q1, q2, q3⟩
  have hB' := hB.keep hk'
  obtain ⟨Fg, Fq, a, b, d, e1, e2⟩ := hB
  have hs := hk.size
  exact ⟨p, ch, mp, rfl, ⟨hj, ⟨Fg, a.keep hk' (fun _ _ => by simp), fun k hkF => by have := a.lt k hkF; omega, e1⟩, hk.trans0 hk', ⟨by omega, by omega, by omega⟩, hg, hn, ⟨h1, h2⟩, by simp⟩, hB', q1, q2, q3⟩
end
def sMan : ByteArray := ⟨#[109, 97, 110]⟩
def sZoo : ByteArray := ⟨#[122, 111, 111]⟩
def sNam : ByteArray := ⟨#[110, 97, 109, 101]⟩
def opAN (ty : ByteArray) : Op := ⟨1, 0, ty, 0, 0, ⟨#[]⟩, ⟨0, 0, ⟨#[]⟩⟩, false⟩
def exR : Rule := ⟨0, 2, sMan, sNam, ⟨#[]⟩, ⟨#[]⟩, 0, 0⟩
theorem nil_nilS : nilS ⟨#[]⟩ = true := by unfold nilS; simp [ByteArray.toList_eq]
theorem exR_form : formR exR = true := by
  unfold formR
  rw [if_pos (by right; rfl)]
  rw [show exR.fr = ⟨#[]⟩ from rfl, show exR.tt = ⟨#[]⟩ from rfl, nil_nilS]
  rfl
theorem has_man : hasS typN sMan = true := by unfold hasS typN sMan; simp
theorem has_zoo : hasS typN sZoo = true := by unfold hasS typN sZoo; simp
/-- A node more, while there is room. -/
theorem step_AN {ty : ByteArray} (h : hasS typN ty = true) (g : Gr) (hf : fullG g = false) : stepG typN typE g (opAN ty) = ⟨g.N ++ [⟨g.next, ty, []⟩], g.E, g.next + 1⟩ := by
  unfold stepG
  have hm : mayG typN typE g (opAN ty) = 0 := by
    unfold mayG; rw [if_pos (show (opAN ty).k = 1 from rfl)]; unfold mayAN
    rw [show (opAN ty).ty = ty from rfl, h, hf]; rfl
  rw [if_pos hm]
  unfold actG
  rw [if_pos (show (opAN ty).k = 1 from rfl)]; rfl
def g3 : Gr := ⟨[⟨1, sMan, []⟩, ⟨2, sMan, []⟩, ⟨3, sZoo, []⟩], [], 4⟩
def l3 : List Op := [opAN sMan, opAN sMan, opAN sZoo]
theorem made3 : madeG typN typE l3 = g3 := by
  unfold madeG l3
  simp only [List.foldl_cons, List.foldl_nil]
  rw [step_AN has_man emptyG (by decide), step_AN has_man _ (by decide), step_AN has_zoo _ (by decide)]
  rfl
theorem fair3 : fairL l3 = true := by decide
end Go.Proofs.Hg
namespace Go.Proofs.Hg
open Go Go.RowKit Go.Proofs Go.Shelf
theorem Blk.rdO {w : World} {p T : Nat} {xs : List Op} (h : Blk w p T (xs.flatMap encO).toArray) (hm : xs.length ≤ 1000) : Rd w 10 encO (.slice (some ⟨p, 0, none⟩) xs.length xs.length) xs := by
  refine ⟨_, _, rfl, Nat.le_refl _, by omega, fun i hi => ⟨p, 0, rfl, fun j hj => ?_⟩⟩
  have hl : j < (encO xs[i]).length := hj
  refine ⟨(encO xs[i])[j], ?_, List.getElem?_eq_getElem hl⟩
  have := flat_get (enc := encO) (k := 10) (fun _ => rfl) xs i j hi hj
  rw [show 0 + i * 10 + j = i * 10 + j from by omega, h.cell, List.getElem?_toArray, this, List.getElem?_eq_getElem hl]
theorem Blk.rdI {w : World} {p T : Nat} {xs : List Int} (h : Blk w p T (xs.flatMap encI).toArray) (hm : xs.length ≤ 1000) : Rd w 1 encI (.slice (some ⟨p, 0, none⟩) xs.length xs.length) xs := by
  refine ⟨_, _, rfl, Nat.le_refl _, by omega, fun i hi => ⟨p, 0, rfl, fun j hj => ?_⟩⟩
  have h0 : j = 0 := by omega
  subst h0
  refine ⟨.int .i64 xs[i], ?_, rfl⟩
  have := flat_get (enc := encI) (k := 1) (fun _ => rfl) xs i 0 hi (by omega)
  rw [show 0 + i * 1 + 0 = i * 1 + 0 from by omega, h.cell, List.getElem?_toArray, this]; rfl
theorem Both.base {w w0 W : World} {pg pq : Nat} {g : Gr} (h : Both w0 W pg pq g) (hk : Keep [] w w0) : Both w W pg pq g := by
  obtain ⟨Fg, Fq, a, b, c, d, e⟩ := h
  have := hk.size
  exact ⟨Fg, Fq, a, b, c, fun k hk => by have := d k hk; omega, fun k hk => by have := e k hk; omega⟩
theorem JobAt.lts {w : World} {p : Nat} {r : Rule} {chunk at_ : Int} {T : List Int} {ch mp : Nat} (h : JobAt w p r chunk at_ T ch mp) : p < w.heap.size ∧ ch < w.heap.size ∧ mp < w.heap.size := by
  obtain ⟨s, hc⟩ := h.chan
  obtain ⟨D, hm, _⟩ := h.map
  exact ⟨h.blk.lt, (Array.getElem?_eq_some_iff.1 hc).1, hm.lt⟩
/-- The variable exists, as it is laid. -/
structure ExAt (w : World) : Prop where
  c0 : w.cell? ⟨0, 0, none⟩ = some (.int .i64 0)
  c1 : w.cell? ⟨0, 1, none⟩ = some (.int .i64 2)
  c2 : w.cell? ⟨0, 2, none⟩ = some (.string sMan)
  c3 : w.cell? ⟨0, 3, none⟩ = some (.string sNam)
  c4 : w.cell? ⟨0, 4, none⟩ = some (.string ⟨#[]⟩)
  c5 : w.cell? ⟨0, 5, none⟩ = some (.string ⟨#[]⟩)
  c6 : w.cell? ⟨0, 6, none⟩ = some (.int .i64 0)
  c7 : w.cell? ⟨0, 7, none⟩ = some (.int .i64 0)
theorem ExAt.keep {w w' : World} (h : ExAt w) (hk : Keep [] w w') : ExAt w' := by
  have f : ∀ {o : Nat} {v : Value}, w.cell? ⟨0, o, none⟩ = some v → w'.cell? ⟨0, o, none⟩ = some v := fun h => (hk.cell (World.block_lt_of_cell? _ _ h) (by simp)).trans h
  exact ⟨f h.c0, f h.c1, f h.c2, f h.c3, f h.c4, f h.c5, f h.c6, f h.c7⟩
theorem sorted_ids {l : List Int} (h : l.Pairwise (· < ·)) : l.mergeSort leI = l := sort_up h
theorem ids1 : idsG g3 1 = [1, 2, 3] := by
  unfold idsG
  rw [show (idsAll g3).filter (fun x => !decide (x < 1)) = [1, 2, 3] from by decide]
  exact sort_up (by decide)
theorem ids3 : idsG g3 3 = [3] := by
  unfold idsG
  rw [show (idsAll g3).filter (fun x => !decide (x < 3)) = [3] from by decide]
  exact sort_up (by decide)
theorem at1 : stepAt g3 2 1 [] = 3 := by unfold stepAt; rw [if_pos (by decide), ids1]; decide
theorem at2 : stepAt g3 2 3 [1] = 4 := by unfold stepAt; rw [if_pos (by decide), ids3]; decide
theorem touch3 : touchS 3 [] [1] = (3, [1]) := by decide
theorem lack3 : g3.N.any (lacks exR) = true := by
  show (lacks exR ⟨1, sMan, []⟩ || _) = true
  have : lacks exR ⟨1, sMan, []⟩ = true := by
    unfold lacks eqS
    rw [show exR.ty = sMan from rfl]
    simp [getP]
  rw [this]; rfl
set_option maxRecDepth 100000 in
set_option maxHeartbeats 3200000 in
theorem wakes_c (w : World) (hx : ExAt w) : Calls Tryz.prog 12 #[] w fun e w' => e = .returned (.bool true) ∧ Keep [] w w' := by
  have HX := Lib.hid hx
  have K0 := Keep.alloc0 w (Obj.cells (l3.flatMap encO).toArray 50)
  have HB := Lib.hid ((Blk.new w (l3.flatMap encO).toArray 50).rdO (by decide))
  have HK := Lib.hid K0
  clear hx K0
  go_enter Tryz.func12, Tryz.ntmps12
  go_wp2_with fail
  refine (made_c _ _ l3 HB.out fair3 (fun o ho => rdo1 o (by
    rw [show l3.take 60 = l3 from rfl] at ho
    unfold l3 at ho
    simp only [List.mem_cons, List.not_mem_nil, or_false] at ho
    rcases ho with rfl | rfl | rfl <;> rfl))).mono ?_
  rintro e w1 ⟨pg, pq, rfl, hb, hk⟩
  rw [show madeG typN typE (l3.take 60) = g3 from made3] at hb
  have HB1 := Lib.hid (hb.base HK.out)
  have HK1 := Lib.hid (HK.out.trans0 hk)
  obtain ⟨x0, x1, x2, x3, x4, x5, x6, x7⟩ := HX.out.keep HK1.out
  have hgi : GI 3 g3 := by have := madeG_inv typN typE l3 emptyG 0 GI.empty; rw [show l3.foldl (stepG typN typE) emptyG = g3 from made3] at this; exact this
  have HGI := Lib.hid hgi
  clear hb hk HB HK HX hgi
  go_wp2_with fail
  refine (new_sc exR HB1.out HK1.out HGI.out (by omega) exR_form (c := 2) (by omega) (by omega)).mono ?_
  rintro e w2 ⟨p, ch, mp, rfl, hs, _, q1, q2, q3⟩
  have HS := Lib.hid hs
  clear hs q1 q2 q3 x0 x1 x2 x3 x4 x5 x6 x7 HB1 HK1
  go_wp2_with fail
  refine (step_sc HS.out).mono ?_
  rw [at1]
  rintro e w3 ⟨rfl, hs⟩
  have HS3 := Lib.hid hs
  clear hs HS
  rw [show endB 3 (List.drop 2 []) g3 = false from by decide]
  go_wp2_with fail
  refine (jat_c _ p exR _ 3 _ ch mp HS3.out.job).mono ?_
  rintro e w4 ⟨rfl, rfl⟩
  go_wp2_with fail
  have hlt := HS3.out.job.lts
  refine (touch_sc _ [1] (HS3.out.kept (Keep.alloc0 _ _)) (by decide) (fun W hk => ((Blk.new w4 ([1].flatMap encI).toArray 2).keep hk (by simp; omega)).rdI (by decide))).mono ?_
  rw [show List.drop 2 ([] : List Int) = [] from rfl, touch3]
  rintro e w5 ⟨rfl, hs⟩
  have HS5 := Lib.hid hs
  clear hs HS3 hlt
  go_wp2_with fail
  refine (verdict0_sc HS5.out (by decide)).mono ?_
  rintro e w6 ⟨rfl, hs⟩
  have HS6 := Lib.hid hs
  clear hs HS5
  go_wp2_with fail
  refine (step_sc HS6.out).mono ?_
  rw [at2]
  rintro e w7 ⟨rfl, hs⟩
  have HS7 := Lib.hid hs
  clear hs HS6
  rw [show endB 4 (List.drop 2 [1]) g3 = true from by decide]
  go_wp2_with fail
  refine (verdict1_sc _ HS7.out (by decide) (keepsX exR g3 exR_form rfl (by decide) HS7.out.psN)).mono ?_
  rw [lack3]
  rintro e w8 ⟨rfl, hs⟩
  have HS8 := Lib.hid hs
  clear hs HS7
  go_wp2_with fail
  refine (jat_c _ p exR _ 4 _ ch mp HS8.out.job).mono ?_
  rintro e w9 ⟨rfl, rfl⟩
  go_wp2_with fail
  refine (jleft_c _ p exR _ 4 _ ch mp HS8.out.job).mono ?_
  rintro e w10 ⟨rfl, rfl⟩
  go_wp2
  go_ret
  exact ⟨rfl, HS8.out.keep⟩
end Go.Proofs.Hg
namespace Go.Proofs.Hg
open Go Go.RowKit Go.Proofs Go.Shelf
set_option maxRecDepth 100000 in
set_option maxHeartbeats 3200000 in
/-- Rules that are one are alike. -/
theorem krule_same_c (a : Rule) (w : World) : Calls Tryz.prog 33 #[ruleV a, ruleV a] w fun e w' => e = .returned (.bool true) ∧ Keep [] w w' := by
  have HK := Lib.hid ((Keep.alloc0 w (Obj.cells (encR a).toArray 23)).alloc (Obj.cells (encR a).toArray 23))
  unfold encR at *
  go_enter Tryz.func33, Tryz.ntmps33
  go_wp2
  go_ret
  exact ⟨rfl, HK.out⟩
theorem Rd.nilO (w : World) : Rd w 10 encO (.slice none 0 0) [] := ⟨none, 0, rfl, Nat.le_refl _, by omega, fun i hi => by simp at hi⟩
set_option maxRecDepth 100000 in
set_option maxHeartbeats 3200000 in
theorem none_c (w : World) (A : Option Addr) (n c : Nat) (hn : (n : Int) ≤ 9223372036854775807) (hx : ExAt w) : Calls Tryz.prog 7 #[.slice A n c] w fun e w' => e = .returned (.bool true) ∧ Keep [] w w' := by
  have HX := Lib.hid hx
  clear hx
  by_cases h100 : (100 : Int) < n
  · go_enter Tryz.func7, Tryz.ntmps7
    go_wp2_with fail
    refine (wakes_c w HX.out).mono ?_
    rintro e w1 ⟨rfl, hk⟩
    go_wp2
    go_ret
    exact ⟨rfl, hk⟩
  · go_enter Tryz.func7, Tryz.ntmps7
    go_wp2_with fail
    refine (touch_nil_c w _).mono ?_
    rintro e w1 ⟨rfl, rfl⟩
    go_wp2_with fail
    refine (made_c w1 _ [] (Rd.nilO w1) (by decide) (fun o ho => by simp at ho)).mono ?_
    rintro e w2 ⟨pg, pq, rfl, hb, hk⟩
    have HK := Lib.hid hk
    clear hb hk
    go_wp2_with fail
    refine (verdict_nil_c w2 _).mono ?_
    rintro e w3 ⟨rfl, rfl⟩
    go_wp2_with fail
    refine (step_nil_c w3 _).mono ?_
    rintro e w4 ⟨rfl, rfl⟩
    go_wp2_with fail
    refine (jat_nil_c w4).mono ?_
    rintro e w5 ⟨rfl, rfl⟩
    go_wp2_with fail
    refine (jleft_nil_c w5).mono ?_
    rintro e w6 ⟨rfl, rfl⟩
    go_wp2_with fail
    refine (jrule_nil_c w6).mono ?_
    rintro e w7 ⟨rfl, hk7⟩
    have HK7 := Lib.hid (HK.out.trans0 hk7)
    clear hk7
    go_wp2_with fail
    refine (krule_same_c ruleZ w7).mono ?_
    rintro e w8 ⟨rfl, hk8⟩
    have HK8 := Lib.hid (HK7.out.trans0 hk8)
    clear hk8
    go_wp2_with fail
    refine (wakes_c w8 (HX.out.keep HK8.out)).mono ?_
    rintro e w9 ⟨rfl, hk9⟩
    have HK9 := Lib.hid (HK8.out.trans0 hk9)
    clear hk9
    go_wp2
    go_ret
    exact ⟨rfl, HK9.out⟩
end Go.Proofs.Hg
