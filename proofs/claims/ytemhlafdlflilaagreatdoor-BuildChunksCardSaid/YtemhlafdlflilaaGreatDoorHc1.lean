/-
  Contracts of the functions that the statement reaches, and plain lemmas on lists, part 1. Conditions: those that each theorem names.
-/
import Derived.Test.YtemhlafdlflilaaGreatDoorHg9
set_option linter.unusedVariables false
set_option linter.unusedSimpArgs false
namespace Go.Proofs.Hg
open Go Go.RowKit Go.Proofs Go.Shelf
/-- So many men. -/
def gk (k : Nat) : Gr := ⟨(List.range' 1 k).map (fun i : Nat => (⟨(i : Int), sMan, []⟩ : Node)), [], (k : Int) + 1⟩
theorem gk_succ (k : Nat) (hk : k < 1000) : stepG typN typE (gk k) (opAN sMan) = gk (k + 1) := by
  rw [step_AN has_man _ (by unfold fullG gk; simp; omega)]
  unfold gk
  simp only [List.range'_1_concat, List.map_append, List.map_cons, List.map_nil]
  rw [show ((1 + k : Nat) : Int) = (k : Int) + 1 from by omega, show (((k + 1 : Nat) : Int) + 1) = (k : Int) + 1 + 1 from by omega]
theorem madeK : ∀ k : Nat, k < 1000 → madeG typN typE (List.replicate k (opAN sMan)) = gk k
  | 0, _ => rfl
  | k + 1, hk => by
    have ih := madeK k (by omega)
    unfold madeG at ih ⊢
    rw [List.replicate_succ', List.foldl_append, ih]
    simp only [List.foldl_cons, List.foldl_nil]
    exact gk_succ k (by omega)
theorem idsK (k m : Nat) (hm : m ≤ k) : idsG (gk k) ((m : Int) + 1) = (List.range' (m + 1) (k - m)).map (fun i : Nat => (i : Int)) := by
  have e1 : idsAll (gk k) = (List.range' 1 k).map (fun i : Nat => (i : Int)) := by unfold idsAll gk; simp [List.map_map, Function.comp_def]
  have e2 : List.range' 1 k = List.range' 1 m ++ List.range' (m + 1) (k - m) := by
    have := List.range'_append_1 (s := 1) (m := m) (n := k - m)
    rw [show m + (k - m) = k from by omega, Nat.add_comm 1 m] at this
    exact this.symm
  have e3 : (idsAll (gk k)).filter (fun x => !decide (x < (m : Int) + 1)) = (List.range' (m + 1) (k - m)).map (fun i : Nat => (i : Int)) := by
    rw [e1, e2, List.map_append, List.filter_append]
    rw [List.filter_eq_nil_iff.2 (fun x hx => by
      obtain ⟨i, hi, rfl⟩ := List.mem_map.1 hx
      rw [List.mem_range'_1] at hi
      simp; omega), List.nil_append]
    refine List.filter_eq_self.2 (fun x hx => ?_)
    obtain ⟨i, hi, rfl⟩ := List.mem_map.1 hx
    rw [List.mem_range'_1] at hi
    simp; omega
  unfold idsG
  rw [e3]
  refine sort_up ?_
  refine List.Pairwise.map _ (fun a b h => ?_) List.pairwise_lt_range'
  omega
theorem stepK (k m c : Nat) (hm : m ≤ k) (hc : 1 ≤ c) : stepAt (gk k) c ((m : Int) + 1) [] = (min (m + c) k : Nat) + 1 := by
  unfold stepAt
  rw [if_pos (by simp; omega), idsK k m hm]
  simp only [List.length_nil, Nat.sub_zero, List.length_map, List.length_range']
  by_cases h : c < k - m
  · rw [if_pos h, List.getD_eq_getElem?_getD, List.getElem?_eq_getElem (by simp; omega)]
    simp
    omega
  · rw [if_neg h]
    show (k : Int) + 1 = _
    rw [Nat.min_eq_right (by omega)]
end Go.Proofs.Hg
namespace Go.Proofs.Hg
open Go Go.RowKit Go.Proofs Go.Shelf
theorem infoO : (Tryz.prog.info? 50).map (fun i => (i.zero, i.size, i.bytes)) = some (some (.agg #[.int .i64 0, .int .i64 0, .string ⟨#[]⟩, .int .i64 0, .int .i64 0, .string ⟨#[]⟩, .int .i64 0, .int .i64 0, .string ⟨#[]⟩, .bool false]), 10, 104) := by kernel_rfl
/-- A list laid anew behind a world. -/
def FreshR (T sz : Nat) {α : Type} (enc : α → List Value) (W wr : World) (v : Value) (xs : List α) : Prop := Keep [] W wr ∧ Row wr T sz enc v xs ∧ ∀ k, v.ownBlock = some k → W.heap.size ≤ k
theorem FreshR.nil (T sz : Nat) {α : Type} (enc : α → List Value) (W : World) : FreshR T sz enc W W (.slice none 0 0) [] := ⟨Keep.refl _ _, Row.nil _ _ _ _, fun k h => by simp [Value.ownBlock] at h⟩
theorem FreshR.keep {T sz : Nat} {α : Type} {enc : α → List Value} {W wr w2 : World} {v : Value} {xs : List α} (h : FreshR T sz enc W wr v xs) (hk : Keep [] wr w2) : FreshR T sz enc W w2 v xs := ⟨h.1.trans0 hk, h.2.1.keep hk (fun _ _ => by simp), h.2.2⟩
theorem FreshR.alloc {T sz : Nat} {α : Type} {enc : α → List Value} {W wr : World} {v : Value} {xs : List α} (h : FreshR T sz enc W wr v xs) (o : Obj) : FreshR T sz enc W (wr.alloc o) v xs := h.keep (Keep.alloc0 wr o)
theorem FreshR.app {T sz : Nat} {α : Type} {enc : α → List Value} {W wr w2 : World} {v : Value} {xs : List α} (h : FreshR T sz enc W wr v xs) {gg cap H : Nat} {x : α} (hown : w2.ownsRow 0 T sz (.slice (some ⟨gg, 0, none⟩) (xs.length + 1) cap) (xs.length + 1) (xs.flatMap enc ++ enc x)) (hg : wr.grownBy w2 v.ownBlock) (hat : v.ownBlock = some gg ∨ gg = H) (hH : W.heap.size ≤ H) :
    FreshR T sz enc W w2 (.slice (some ⟨gg, 0, none⟩) (xs.length + 1) cap) (xs ++ [x]) := by
  refine ⟨h.1.grown hg (fun k e => .inl (h.2.2 k e)), ?_, fun k e => ?_⟩
  · unfold Row
    rw [List.length_append, List.length_singleton, List.flatMap_append]
    simpa using hown
  · simp [Value.ownBlock] at e; subst e
    rcases hat with e | rfl
    · exact h.2.2 _ e
    · exact hH
theorem oneO (xs : List Op) : ∀ v ∈ xs.flatMap encO, v.oneCell' = true := fun v hv => by
  obtain ⟨x, _, hv⟩ := List.mem_flatMap.1 hv
  simp only [encO, List.mem_cons, List.not_mem_nil, or_false] at hv
  rcases hv with rfl | rfl | rfl | rfl | rfl | rfl | rfl | rfl | rfl | rfl <;> rfl
set_option maxRecDepth 100000 in
set_option maxHeartbeats 3200000 in
theorem chunks_c (w : World) (a b : Nat) (ha : a < 256) (hb : b < 256) (hx : ExAt w) : Calls Tryz.prog 5 #[.int .u8 a, .int .u8 b] w fun e w' => e = .returned (.bool true) ∧ Keep [] w w' := by
  obtain ⟨i0, hi0, hz0, hz1, hz2⟩ := info_parts infoO
  have HX := Lib.hid hx
  clear hx
  obtain ⟨k, hk⟩ : ∃ k, k = a % 60 := ⟨_, rfl⟩
  obtain ⟨c0, hc0⟩ : ∃ c0, c0 = b % 20 := ⟨_, rfl⟩
  have e1 : (a : Int) % 60 = (k : Int) := by omega
  have e2 : (b : Int) % 20 = (c0 : Int) := by omega
  have hk60 : k < 60 := by omega
  have hc20 : c0 < 20 := by omega
  obtain ⟨c, hc⟩ : ∃ c, c = 1 + c0 := ⟨_, rfl⟩
  have e3 : 1 + (c0 : Int) = (c : Int) := by omega
  have c1 : 1 ≤ c := by omega
  have c2 : c ≤ 20 := by omega
  clear hk hc0 hc hc20
  go_enter Tryz.func5, Tryz.ntmps5
  go_wp2_with fail
  simp only [e1, e2, e3]
  clear e1 e2 e3 ha hb
  go_loopw [5, 8] (fun ov i wr => ∃ j : Nat, j ≤ k ∧ i = .int .i64 j ∧ Hid (FreshR 50 10 encO w wr ov (List.replicate j (opAN sMan)))) (fun _ i _ => k - (RowKit.intOf i).toNat)
  case atStart => exact ⟨0, by omega, rfl, FreshR.nil _ _ _ w⟩
  case round =>
    obtain ⟨j, hj, rfl, hF⟩ := hrel
    by_cases hlt : j < k
    · have HT : Hid (List.replicate (j + 1) (opAN sMan) = List.replicate j (opAN sMan) ++ [opAN sMan]) := List.replicate_succ'
      have ll : (List.replicate j (opAN sMan)).length ≤ 60 := by simp; omega
      obtain ⟨L, hL⟩ : ∃ L, L = List.replicate j (opAN sMan) := ⟨_, rfl⟩
      rw [← hL] at hF HT ll
      clear hL
      have HF1 := Lib.hid (hF.out.alloc (Obj.cells (encO (opAN sMan)).toArray 50))
      have HB1 := Lib.hid (Blk.new wr (encO (opAN sMan)).toArray 50)
      have lw1 := hF.out.1.size
      have hone := oneO [opAN sMan]
      go_wp2_with (at_builtin; refine wpList_append_lies _ rfl _ _ 24 rfl 0 50 i0 _ 10 104 Tryz.underlying24 hi0 hz0 hz1 hz2 rfl (by omega) _ L.length (L.flatMap encO) rfl HF1.out.2.1 ⟨wr.heap.size, 0, none⟩ 1 1 (encO (opAN sMan)) (by rfl) rfl (World.news_of_block HB1.out) (by simpa using hone) (by omega) (by unfold maxLen; omega) (by omega) (by omega) (wr.heap.size + 1) (by simp) ?_)
      intro gg cap1 w2 h1 h2 h3 h4
      have HN1 : Hid (FreshR 50 10 encO w w2 (.slice (some ⟨gg, 0, none⟩) (L.length + 1) cap1) (List.replicate (j + 1) (opAN sMan))) := by
        show FreshR _ _ _ _ _ _ _
        rw [HT.out]
        exact HF1.out.app h1 h2 h3 (by omega)
      clear h1 h2 h3 h4 HT hone
      go_wp2
      exact ⟨⟨j + 1, by omega, by go_num, HN1⟩, by simp [RowKit.intOf]; omega⟩
    · have ej : j = k := by omega
      subst ej
      have hgi : GI j (gk j) := by
        have := madeG_inv typN typE (List.replicate j (opAN sMan)) emptyG 0 GI.empty
        rw [List.length_replicate, Nat.zero_add, show (List.replicate j (opAN sMan)).foldl (stepG typN typE) emptyG = gk j from madeK j (by omega)] at this
        exact this
      have HGI := Lib.hid hgi
      have hfair : fairL (List.replicate j (opAN sMan)) = true := by
        unfold fairL
        rw [Bool.and_eq_true]
        refine ⟨by rw [List.all_eq_true]; intro x hx; rw [List.eq_of_mem_replicate hx]; decide, by simp; omega⟩
      have htk : (List.replicate j (opAN sMan)).take 60 = List.replicate j (opAN sMan) := List.take_of_length_le (by simp; omega)
      have hmk := madeK j (by omega)
      have hk1 : ∀ o ∈ List.replicate j (opAN sMan), o.k = 1 := fun o ho => by rw [List.eq_of_mem_replicate ho]; rfl
      obtain ⟨L, hL⟩ : ∃ L, L = List.replicate j (opAN sMan) := ⟨_, rfl⟩
      rw [← hL] at hF hfair htk hmk hk1
      have hrd := hF.out.2.1.rd (fun _ => rfl)
      have HRd := Lib.hid hrd
      have HKr := Lib.hid hF.out.1
      obtain ⟨A, cap, hv, _, _⟩ := hF.out.2.1.slice
      subst hv
      have HFa := Lib.hid hfair
      have HTk := Lib.hid htk
      have HM := Lib.hid hmk
      have HO := Lib.hid (fun o (ho : o ∈ L.take 60) => rdo1 o (hk1 o (by rw [htk] at ho; exact ho)))
      clear hrd hF hfair htk hgi hmk hk1 hL
      go_wp2_with fail
      refine (made_c wr _ L HRd.out HFa.out HO.out).mono ?_
      rintro e w1 ⟨pg, pq, rfl, hB, hk1⟩
      rw [HTk.out, HM.out] at hB
      have HB := Lib.hid (hB.base HKr.out)
      have HK1 := Lib.hid (HKr.out.trans0 hk1)
      obtain ⟨x0, x1, x2, x3, x4, x5, x6, x7⟩ := HX.out.keep HK1.out
      clear hB hk1 HRd
      go_wp2_with fail
      refine (new_sc exR HB.out HK1.out HGI.out (by omega) exR_form (c := c) (by omega) (by omega)).mono ?_
      rintro e w2 ⟨p, ch, mp, rfl, hs, _, q1, q2, q3⟩
      have HS := Lib.hid hs
      clear hs q1 q2 q3 x0 x1 x2 x3 x4 x5 x6 x7 HB HK1
      go_wp2_with fail
      go_loopw [14] (fun i wr => ∃ m : Nat, i = .int .i64 ((m : Int) + 1) ∧ (m = 0 ∨ m * c < j) ∧ Hid (Sc w wr p ch mp pg exR c (((m * c : Nat) : Int) + 1) [] (gk j) j)) (fun i _ => (j + 2 - (RowKit.intOf i).toNat))
      case atStart => exact ⟨0, by simp, .inl rfl, by show Sc _ _ _ _ _ _ _ _ _ _ _ _; simpa using HS.out⟩
      case round =>
        obtain ⟨m, rfl, hm, hS⟩ := hrel
        have hmj : m * c ≤ j := by rcases hm with rfl | hm <;> omega
        have hst := stepK j (m * c) c hmj c1
        have hmm : m ≤ j := by
          rcases hm with rfl | hm
          · omega
          · have : m * 1 ≤ m * c := Nat.mul_le_mul_left m c1
            omega
        obtain ⟨M, hM⟩ : ∃ M, M = m * c + c := ⟨_, rfl⟩
        have hMm : M = (m + 1) * c := by rw [hM, Nat.succ_mul]
        have hmul : ((m : Int) + 1) * (c : Int) = (M : Int) := by rw [hMm]; push_cast; rfl
        have hMb : M ≤ j + 20 := by omega
        rw [← hM] at hst
        have HST := Lib.hid hst
        have HMm := Lib.hid hMm
        clear hst hM hMm
        go_wp2_with fail
        refine (step_sc hS.out).mono ?_
        rw [HST.out]
        rintro e w3 ⟨rfl, hs⟩
        have hend : endB (((min M j : Nat) : Int) + 1) (List.drop c []) (gk j) = decide (j ≤ M) := by
          unfold endB gk
          simp only [List.drop_nil, List.length_nil, decide_true, Bool.and_true]
          rw [Bool.eq_iff_iff]; simp; omega
        rw [hend]
        have HS3 := Lib.hid hs
        clear hs hS hend
        have hq0 : min (M : Int) (j : Int) = ((min M j : Nat) : Int) := by omega
        obtain ⟨q, hq⟩ : ∃ q, q = min M j := ⟨_, rfl⟩
        rw [← hq] at hq0 HS3
        have hqj : q ≤ j := by omega
        by_cases hd : j ≤ M
        · have hd2 : decide (j ≤ M) = true := by simpa using hd
          have hd3 : decide ((j : Int) ≤ (M : Int)) = true := by simpa using hd
          rw [hd2]
          clear hq hd2
          go_wp2_with fail
          refine (jat_c _ p exR _ ((q : Int) + 1) _ ch mp HS3.out.job).mono ?_
          rintro e w4 ⟨rfl, rfl⟩
          go_wp2_with fail
          refine (wakes_c w4 (HX.out.keep HS3.out.keep)).mono ?_
          rintro e w5 ⟨rfl, hk5⟩
          have HK5 := Lib.hid (HS3.out.keep.trans0 hk5)
          clear hk5
          go_wp2
          go_ret
          exact ⟨rfl, HK5.out⟩
        · have hd2 : decide (j ≤ M) = false := by simpa using hd
          have hd3 : decide ((j : Int) ≤ (M : Int)) = false := by simpa using hd
          have hqM : q = (m + 1) * c := by rw [← HMm.out]; omega
          have HS4 : Hid (Sc w w3 p ch mp pg exR c ((((m + 1) * c : Nat) : Int) + 1) [] (gk j) j) := by
            have := HS3.out; rw [hqM, List.drop_nil] at this; exact Lib.hid this
          have hlt4 : (m + 1) * c < j := by rw [← HMm.out]; omega
          rw [hd2]
          clear hq hd2 hqM
          go_wp2_with fail
          refine (jat_c _ p exR _ ((q : Int) + 1) _ ch mp HS3.out.job).mono ?_
          rintro e w4 ⟨rfl, rfl⟩
          go_wp2
          exact ⟨⟨m + 1, by go_num, .inr hlt4, HS4⟩, by simp [RowKit.intOf]; omega⟩
end Go.Proofs.Hg
