/-
  Contracts of the functions that the statement reaches, and plain lemmas on lists, part 2. Conditions: those that each theorem names.
-/
import Derived.Test.YtemhlafdlflilaaGreatDoorHt1
set_option linter.unusedVariables false
set_option linter.unusedSimpArgs false
namespace Go.Proofs.Hg
open Go Go.RowKit Go.Proofs Go.Shelf
section
variable (w : World) (p : Nat) (g : Gr) (nv ev : Value) (fn : List FN) (fe : List FE) (cn ce cr ci cx : Value) (ns es : List ByteArray) (o : Op)
set_option maxRecDepth 100000 in
set_option maxHeartbeats 3200000 in
theorem rmayAE_c (k1 : o.k = 3) (hi : GInv g) (h : GAt 42 w p g nv ev fn fe) (hc : CatR w cn ce ns es) :
    Calls Tryz.prog 54 #[.pointer (some ⟨p, 0, none⟩), cat5 cn ce cr ci cx, opV o] w fun e w' => e = .returned (.int .i64 (mayAE es g o)) ∧ Keep [] w w' := by
  have K0 := (Keep.alloc0 w (Obj.cells #[cn, ce, cr, ci, cx] 59)).alloc (Obj.cells (encO o).toArray 50)
  have HC := (Blk.new w #[cn, ce, cr, ci, cx] 59).alloc (Obj.cells (encO o).toArray 50)
  have HX := Blk.new2 w (Obj.cells #[cn, ce, cr, ci, cx] 59) (encO o).toArray 50
  have hb := h.blk.keep K0 (by simp)
  obtain ⟨A, ca, hv, _, _⟩ := h.n.slice
  obtain ⟨B, cb, hw, _, _⟩ := h.e.slice
  have l1 := h.vn.length
  have l2 := h.ve.length
  have l3 := hi.lenN
  have l4 := hi.lenE
  have E := Lib.hid (show fullG g = (decide (1024 ≤ fn.length + fe.length) || decide ((4611686018427387903 : Int) < g.next)) from by unfold fullG; rw [l1, l2])
  rw [← l1] at l3
  rw [← l2] at l4
  have HH := Lib.hid (fun W (hk : Keep [] w W) => rhas2_c W cn ce cr ci cx ns es o.ty (hc.keep hk))
  have HN := Lib.hid (fun id W (hk : Keep [] w W) => rnode_c W p g nv ev fn fe id (by omega) (h.keep hk (fun _ _ hm => by simp at hm)))
  have E1 : Hid (∀ id, (fn.map (·.id)).contains id = hasN g id) := fun id => by rw [h.idsN]; rfl
  clear hc
  clear l1 l2 h hi
  subst hv hw
  unfold encO at *
  have HK1 := Lib.hid k1
  clear k1
  have HK := Lib.hid K0
  have Hb := Lib.hid hb
  have HC' := Lib.hid HC
  have HX' := Lib.hid HX
  clear K0 hb HX HC
  have hs := HX'.out.lt
  go_enter Tryz.func54, Tryz.ntmps54
  go_wp2_with fail
  generalize (w.alloc _).alloc _ = W at *
  have c0 := Hb.out.cell 0
  have c1 := Hb.out.cell 1
  have c2 := Hb.out.cell 2
  simp only [List.getElem?_toArray, List.getElem?_cons_succ, List.getElem?_cons_zero] at c0 c1 c2
  have s0 : (0 : Int) ≤ (fn.length : Int) + (fe.length : Int) := by omega
  have S : Hid (∀ n, Keep [] w (W.drewN n) ∧ Blk (W.drewN n) w.heap.size 59 #[cn, ce, cr, ci, cx] ∧ Blk (W.drewN n) (w.heap.size + 1) 50 _) := fun n => ⟨HK.out.drewN n, HC'.out.drewN n, HX'.out.drewN n⟩
  have d0 := fun n => (S.out n).2.2.cell 0
  have b0 := fun n => (S.out n).2.1.cell 0
  have b1 := fun n => (S.out n).2.1.cell 1
  have b2 := fun n => (S.out n).2.1.cell 2
  have b3 := fun n => (S.out n).2.1.cell 3
  have b4 := fun n => (S.out n).2.1.cell 4
  have d2 := fun n => (S.out n).2.2.cell 2
  simp only [List.getElem?_toArray, List.getElem?_cons_succ, List.getElem?_cons_zero] at d0 d2 b0 b1 b2 b3 b4
  rw [HK1.out] at d0
  rcases full_cases (fn.length + fe.length) g.next with hf | ⟨hf, hn⟩ | ⟨hf, hn⟩
  all_goals
    rw [Int.natCast_add] at hf
    try have hd : decide ((1024 : Int) ≤ (fn.length : Int) + (fe.length : Int)) = false := by simpa using hf
    first
      | (have hF : Hid (fullG g = false) := by show _ = _; rw [E.out, hn]; simp; omega)
      | (have hF : Hid (fullG g = true) := by show _ = _; rw [E.out, hn]; simp; done)
      | (have hF : Hid (fullG g = true) := by show _ = _; rw [E.out]; simp; omega)
    go_quiet (fail)
    go_wp2_with fail
    refine (HH.out _ (S.out _).1).mono ?_
    rintro e w1 ⟨rfl, hk1⟩
    have hk2 := Lib.hid ((S.out _).1.trans0 hk1)
    have HX1 := Lib.hid ((S.out _).2.2.keep hk1 (by simp))
    have e3 := HX1.out.cell 3
    have e4 := HX1.out.cell 4
    simp only [List.getElem?_toArray, List.getElem?_cons_succ, List.getElem?_cons_zero] at e3 e4
    clear hk1 b0 b1 b2 b3 b4 d0 d2 c0 c1 c2
    cases h1 : hasS es o.ty with
    | false =>
      have E2 := Lib.hid (show mayAE es g o = 140 from by unfold mayAE; rw [h1]; rfl)
      clear h1
      go_wp2
      go_ret
      exact ⟨ret_i E2.out.symm, hk2.out⟩
    | true =>
      have HS := Lib.hid h1
      clear h1
      go_wp2_with fail
      refine (HN.out o.fr _ hk2.out).mono ?_
      rintro e w2 ⟨i, rfl, hp, rfl⟩
      obtain ⟨hp, hpi⟩ := plc_has hp
      rw [E1.out] at hp
      cases hh : hasN g o.fr with
      | false =>
        have E2 := Lib.hid (show mayAE es g o = 141 from by unfold mayAE; rw [HS.out, hh]; rfl)
        rw [hh] at hp
        have hlt : i < 0 := of_decide_eq_true hp
        clear hp hh
        go_wp2
        go_ret
        exact ⟨ret_i E2.out.symm, hk2.out⟩
      | true =>
        rw [hh] at hp
        have hlt : ¬ i < 0 := of_decide_eq_false hp
        have HF := Lib.hid hh
        clear hp hh
        go_wp2_with fail
        refine (HN.out o.tt _ hk2.out).mono ?_
        rintro e w3 ⟨j, rfl, hp, rfl⟩
        obtain ⟨hp, hpj⟩ := plc_has hp
        rw [E1.out] at hp
        cases hh : hasN g o.tt with
        | false =>
          have E2 := Lib.hid (show mayAE es g o = 141 from by unfold mayAE; rw [HS.out, HF.out, hh]; rfl)
          rw [hh] at hp
          have hlt2 : j < 0 := of_decide_eq_true hp
          clear hp hh
          go_wp2
          go_ret
          exact ⟨ret_i E2.out.symm, hk2.out⟩
        | true =>
          first
            | (have E2 : Hid (mayAE es g o = 0) := by show _ = _; unfold mayAE; rw [HS.out, HF.out, hh, hF.out]; rfl)
            | (have E2 : Hid (mayAE es g o = 50) := by show _ = _; unfold mayAE; rw [HS.out, HF.out, hh, hF.out]; rfl)
          rw [hh] at hp
          have hlt2 : ¬ j < 0 := of_decide_eq_false hp
          clear hp hh
          go_wp2
          go_ret
          exact ⟨ret_i E2.out.symm, hk2.out⟩
end
end Go.Proofs.Hg
namespace Go.Proofs.Hg
open Go Go.RowKit Go.Proofs Go.Shelf
section
variable (w : World) (p : Nat) (g : Gr) (nv ev : Value) (fn : List FN) (fe : List FE) (cn ce cr ci cx : Value) (ns es : List ByteArray) (o : Op)
set_option maxRecDepth 100000 in
set_option maxHeartbeats 3200000 in
theorem rmaySP_c (k1 : o.k = 5) (hi : GInv g) (hl : ∀ ps, psOf g o.id = some ps → ps.length ≤ 100000) (h : GAt 42 w p g nv ev fn fe) :
    Calls Tryz.prog 54 #[.pointer (some ⟨p, 0, none⟩), cat5 cn ce cr ci cx, opV o] w fun e w' => e = .returned (.int .i64 (maySP g o)) ∧ Keep [] w w' := by
  have K0 := (Keep.alloc0 w (Obj.cells #[cn, ce, cr, ci, cx] 59)).alloc (Obj.cells (encO o).toArray 50)
  have HC := (Blk.new w #[cn, ce, cr, ci, cx] 59).alloc (Obj.cells (encO o).toArray 50)
  have HX := Blk.new2 w (Obj.cells #[cn, ce, cr, ci, cx] 59) (encO o).toArray 50
  have hb := h.blk.keep K0 (by simp)
  obtain ⟨A, ca, hv, _, _⟩ := h.n.slice
  obtain ⟨B, cb, hw, _, _⟩ := h.e.slice
  have l1 := h.vn.length
  have l2 := h.ve.length
  have l3 := hi.lenN
  have l4 := hi.lenE
  have E := Lib.hid (show fullG g = (decide (1024 ≤ fn.length + fe.length) || decide ((4611686018427387903 : Int) < g.next)) from by unfold fullG; rw [l1, l2])
  rw [← l1] at l3
  rw [← l2] at l4
  have HPR := Lib.hid (fun W (hk : Keep [] w W) => rprops_c W p g nv ev fn fe o.id hi (h.keep hk (fun _ _ hm => by simp at hm)))
  have HL := Lib.hid hl
  clear hl
  clear l1 l2 h hi
  subst hv hw
  unfold encO at *
  have HK1 := Lib.hid k1
  clear k1
  have HK := Lib.hid K0
  have Hb := Lib.hid hb
  have HC' := Lib.hid HC
  have HX' := Lib.hid HX
  clear K0 hb HX HC
  have hs := HX'.out.lt
  go_enter Tryz.func54, Tryz.ntmps54
  go_wp2_with fail
  generalize (w.alloc _).alloc _ = W at *
  have c0 := Hb.out.cell 0
  have c1 := Hb.out.cell 1
  have c2 := Hb.out.cell 2
  simp only [List.getElem?_toArray, List.getElem?_cons_succ, List.getElem?_cons_zero] at c0 c1 c2
  have s0 : (0 : Int) ≤ (fn.length : Int) + (fe.length : Int) := by omega
  have S : Hid (∀ n, Keep [] w (W.drewN n) ∧ Blk (W.drewN n) w.heap.size 59 #[cn, ce, cr, ci, cx] ∧ Blk (W.drewN n) (w.heap.size + 1) 50 _) := fun n => ⟨HK.out.drewN n, HC'.out.drewN n, HX'.out.drewN n⟩
  have d0 := fun n => (S.out n).2.2.cell 0
  have d1 := fun n => (S.out n).2.2.cell 1
  have d5 := fun n => (S.out n).2.2.cell 5
  have d6 := fun n => (S.out n).2.2.cell 6
  have d7 := fun n => (S.out n).2.2.cell 7
  have d8 := fun n => (S.out n).2.2.cell 8
  simp only [List.getElem?_toArray, List.getElem?_cons_succ, List.getElem?_cons_zero] at d0 d1 d5 d6 d7 d8
  rw [HK1.out] at d0
  have HNM := fun W => rname_c o.name W
  have HGD := fun W => rgood_c o.v W
  have HBL := fun W => rblank_c o.v W
  have HSET := Lib.hid (fun W v ps (hl : ps.length ≤ 100000) (hp : PsAt W v ps) => rset_c W v ps o.name o.v hl hp)
  rcases full_cases (fn.length + fe.length) g.next with hf | ⟨hf, hn⟩ | ⟨hf, hn⟩
  all_goals
    rw [Int.natCast_add] at hf
    try have hd : decide ((1024 : Int) ≤ (fn.length : Int) + (fe.length : Int)) = false := by simpa using hf
    go_quiet (fail)
    go_wp2_with fail
    refine (HNM _).mono ?_
    rintro e w1 ⟨rfl, rfl⟩
    cases hn1 : isName o.name with
    | false =>
      have E2 := Lib.hid (show maySP g o = 142 from by unfold maySP; rw [hn1]; rfl)
      clear hn1
      go_wp2
      go_ret
      exact ⟨ret_i E2.out.symm, (S.out _).1⟩
    | true =>
      have HNN := Lib.hid hn1
      clear hn1
      go_wp2_with fail
      refine (HGD _).mono ?_
      rintro e w2 ⟨rfl, hk2⟩
      have HK2 := Lib.hid ((S.out _).1.trans0 hk2)
      have HX2 := Lib.hid ((S.out _).2.2.keep hk2 (by simp))
      have e1 := HX2.out.cell 1
      have e5 := HX2.out.cell 5
      have e6 := HX2.out.cell 6
      have e7 := HX2.out.cell 7
      have e8 := HX2.out.cell 8
      simp only [List.getElem?_toArray, List.getElem?_cons_succ, List.getElem?_cons_zero] at e1 e5 e6 e7 e8
      clear hk2 c0 c1 c2 d0 d1 d5 d6 d7 d8
      have fin : (goodV o.v || blankV o.v) = true → ∀ W, Keep [] w2 W → True := fun _ _ _ => trivial
      cases hg : goodV o.v with
      | true =>
        have HGd : Hid ((goodV o.v || blankV o.v) = true) := by show _ = _; rw [hg]; rfl
        clear hg fin
        go_wp2_with fail
        refine (HPR.out _ HK2.out).mono ?_
        rintro e w3 ⟨v, bo, rfl, hp, rfl⟩
        rcases hp with ⟨hp, rfl⟩ | ⟨ps, hp, rfl, hpa⟩
        · have E2 := Lib.hid (show maySP g o = 60 from by unfold maySP; rw [HNN.out, HGd.out, hp]; rfl)
          clear hp
          go_wp2
          go_ret
          exact ⟨ret_i E2.out.symm, HK2.out⟩
        · obtain ⟨C, cn1, cc, hcv⟩ := PsAt.form hpa
          have HPA := Lib.hid hpa
          have HP := Lib.hid hp
          clear hpa hp
          subst hcv
          go_wp2_with fail
          refine (HSET.out _ _ ps (HL.out ps HP.out) HPA.out).mono ?_
          rintro e w4 ⟨v4, rfl, hp4, hk4⟩
          have HK4 := Lib.hid (HK2.out.trans0 hk4)
          obtain ⟨D, dc, hv4, _, _⟩ := Row.slice (enc := encP) (sz := 4) hp4
          have hl4 : (setP ps o.name o.v).length ≤ 100001 := by have := setP_len ps o.name o.v; have := HL.out ps HP.out; omega
          have E2 := Lib.hid (show maySP g o = if 8 < (setP ps o.name o.v).length then 3 else 0 from by unfold maySP; rw [HNN.out, HGd.out, HP.out]; rfl)
          subst hv4
          clear hp4 hk4
          generalize (setP ps o.name o.v).length = LL at *
          by_cases h8 : 8 < LL
          · have E3 : Hid (maySP g o = 3) := by show _ = _; rw [E2.out, if_pos h8]
            clear E2
            go_wp2
            go_ret
            exact ⟨ret_i E3.out.symm, HK4.out⟩
          · have E3 : Hid (maySP g o = 0) := by show _ = _; rw [E2.out, if_neg h8]
            clear E2
            go_wp2
            go_ret
            exact ⟨ret_i E3.out.symm, HK4.out⟩
      | false =>
        clear fin
        go_wp2_with fail
        refine (HBL _).mono ?_
        rintro e w3 ⟨rfl, hk3⟩
        have HK3 := Lib.hid (HK2.out.trans0 hk3)
        have HX3 := Lib.hid (HX2.out.keep hk3 (by simp))
        have z1 := HX3.out.cell 1
        have z5 := HX3.out.cell 5
        have z6 := HX3.out.cell 6
        have z7 := HX3.out.cell 7
        have z8 := HX3.out.cell 8
        simp only [List.getElem?_toArray, List.getElem?_cons_succ, List.getElem?_cons_zero] at z1 z5 z6 z7 z8
        clear hk3 e1 e5 e6 e7 e8
        cases hbk : blankV o.v with
        | false =>
          have E2 := Lib.hid (show maySP g o = 142 from by unfold maySP; rw [HNN.out, hg, hbk]; rfl)
          clear hg hbk
          go_wp2
          go_ret
          exact ⟨ret_i E2.out.symm, HK3.out⟩
        | true =>
          have HGd : Hid ((goodV o.v || blankV o.v) = true) := by show _ = _; rw [hg, hbk]; rfl
          clear hg hbk
          go_wp2_with fail
          refine (HPR.out _ HK3.out).mono ?_
          rintro e w4 ⟨v, bo, rfl, hp, rfl⟩
          rcases hp with ⟨hp, rfl⟩ | ⟨ps, hp, rfl, hpa⟩
          · have E2 := Lib.hid (show maySP g o = 60 from by unfold maySP; rw [HNN.out, HGd.out, hp]; rfl)
            clear hp
            go_wp2
            go_ret
            exact ⟨ret_i E2.out.symm, HK3.out⟩
          · obtain ⟨C, cn1, cc, hcv⟩ := PsAt.form hpa
            have HPA := Lib.hid hpa
            have HP := Lib.hid hp
            clear hpa hp
            subst hcv
            go_wp2_with fail
            refine (HSET.out _ _ ps (HL.out ps HP.out) HPA.out).mono ?_
            rintro e w5 ⟨v4, rfl, hp4, hk4⟩
            have HK4 := Lib.hid (HK3.out.trans0 hk4)
            obtain ⟨D, dc, hv4, _, _⟩ := Row.slice (enc := encP) (sz := 4) hp4
            have hl4 : (setP ps o.name o.v).length ≤ 100001 := by have := setP_len ps o.name o.v; have := HL.out ps HP.out; omega
            have E2 := Lib.hid (show maySP g o = if 8 < (setP ps o.name o.v).length then 3 else 0 from by unfold maySP; rw [HNN.out, HGd.out, HP.out]; rfl)
            subst hv4
            clear hp4 hk4
            generalize (setP ps o.name o.v).length = LL at *
            by_cases h8 : 8 < LL
            · have E3 : Hid (maySP g o = 3) := by show _ = _; rw [E2.out, if_pos h8]
              clear E2
              go_wp2
              go_ret
              exact ⟨ret_i E3.out.symm, HK4.out⟩
            · have E3 : Hid (maySP g o = 0) := by show _ = _; rw [E2.out, if_neg h8]
              clear E2
              go_wp2
              go_ret
              exact ⟨ret_i E3.out.symm, HK4.out⟩
end
end Go.Proofs.Hg
namespace Go.Proofs.Hg
open Go Go.RowKit Go.Proofs Go.Shelf
section
variable (w : World) (p : Nat) (g : Gr) (nv ev : Value) (fn : List FN) (fe : List FE) (F : List Nat) (cn ce cr ci cx : Value) (ns es : List ByteArray) (o : Op)
set_option maxRecDepth 100000 in
set_option maxHeartbeats 1600000 in
theorem rdoDE_c (k1 : o.k = 4) (hi : GInv g) (h : GA 42 w p g F) (hh : hasE g o.id = true)
    (HM : ∀ W, Keep [] w W → Calls Tryz.prog 54 #[.pointer (some ⟨p, 0, none⟩), cat5 cn ce cr ci cx, opV o] W fun e w' => e = .returned (.int .i64 0) ∧ Keep [] W w') :
    Calls Tryz.prog 29 #[.pointer (some ⟨p, 0, none⟩), cat5 cn ce cr ci cx, opV o] w fun e w' => e = .returned (.tuple #[.int .i64 0, .int .i64 0]) ∧ After 42 w p F (dropE g o.id) w' := by
  have K0 := (Keep.alloc0 w (Obj.cells #[cn, ce, cr, ci, cx] 59)).alloc (Obj.cells (encO o).toArray 50)
  have HX := Blk.new2 w (Obj.cells #[cn, ce, cr, ci, cx] 59) (encO o).toArray 50
  have HM1 := Lib.hid (HM _ K0)
  have HG := Lib.hid (fun W (hk : Keep [] w W) => cut_c W p g F o.id hi (h.keep hk (fun _ _ => by simp)) hh)
  unfold encO at *
  have HK := Lib.hid K0
  have HXX := Lib.hid HX
  have HK1 := Lib.hid k1
  clear K0 HX HM h k1 hh
  go_enter Tryz.func29, Tryz.ntmps29
  go_wp2_with fail
  generalize (w.alloc _).alloc _ = W0 at *
  refine HM1.out.mono ?_
  rintro e W ⟨rfl, hk1⟩
  have HK2 := Lib.hid (HK.out.trans0 hk1)
  have X1 := Lib.hid (HXX.out.keep hk1 (by simp))
  clear hk1 HXX HK HM1
  have d0 := X1.out.cell 0
  have d1 := X1.out.cell 1
  simp only [List.getElem?_toArray, List.getElem?_cons_succ, List.getElem?_cons_zero] at d0 d1
  rw [HK1.out] at d0
  go_wp2_with fail
  refine (HG.out W HK2.out).mono ?_
  rintro e W2 ⟨rfl, ha⟩
  have HA := Lib.hid (ha.from HK2.out)
  clear ha
  go_wp2
  go_ret2
  exact ⟨rfl, HA.out⟩
set_option maxRecDepth 100000 in
set_option maxHeartbeats 6400000 in
theorem rdoAE_c (k1 : o.k = 3) (h0 : 0 ≤ g.next) (h1 : g.next < 4611686018427387904) (hl : fe.length ≤ 1000000) (h : GAt 42 w p g nv ev fn fe)
    (HM : ∀ W, Keep [] w W → Calls Tryz.prog 54 #[.pointer (some ⟨p, 0, none⟩), cat5 cn ce cr ci cx, opV o] W fun e w' => e = .returned (.int .i64 0) ∧ Keep [] W w') :
    Calls Tryz.prog 29 #[.pointer (some ⟨p, 0, none⟩), cat5 cn ce cr ci cx, opV o] w fun e w' => e = .returned (.tuple #[.int .i64 g.next, .int .i64 0]) ∧
      ∃ ev', GAt 42 w' p ⟨g.N, g.E ++ [⟨g.next, o.ty, o.fr, o.tt, []⟩], g.next + 1⟩ nv ev' fn (fe ++ [⟨g.next, o.ty, o.fr, o.tt, .slice none 0 0⟩]) ∧ Keep (foot p nv ev) w w' ∧ (∀ k, k ∈ foot p nv ev' → k ∈ foot p nv ev ∨ w.heap.size ≤ k) := by
  obtain ⟨i0, hi0, hz0, hz1, hz2⟩ := info_parts infoE
  have K0 := (Keep.alloc0 w (Obj.cells #[cn, ce, cr, ci, cx] 59)).alloc (Obj.cells (encO o).toArray 50)
  have HX := Blk.new2 w (Obj.cells #[cn, ce, cr, ci, cx] 59) (encO o).toArray 50
  have HM1 := Lib.hid (HM _ K0)
  have HG := Lib.hid h
  unfold encO at *
  have HK := Lib.hid K0
  have HXX := Lib.hid HX
  have HK1 := Lib.hid k1
  clear K0 HX HM h k1
  go_enter Tryz.func29, Tryz.ntmps29
  go_wp2_with fail
  generalize (w.alloc _).alloc _ = W0 at *
  refine HM1.out.mono ?_
  rintro e W ⟨rfl, hk1⟩
  have HK2 := Lib.hid (HK.out.trans0 hk1)
  have X1 := Lib.hid (HXX.out.keep hk1 (by simp))
  have G1 := HG.out.keep HK2.out (fun _ _ hm => by simp at hm)
  have R1 := Lib.hid G1.blk
  have N1 := Lib.hid G1.e
  clear hk1 HXX HK HM1 G1
  have d0 := X1.out.cell 0
  have d2 := X1.out.cell 2
  have d3 := X1.out.cell 3
  have d4 := X1.out.cell 4
  have c0 := R1.out.cell 1
  have c2 := R1.out.cell 2
  have f0 := R1.out.free 1
  simp only [List.getElem?_toArray, List.getElem?_cons_succ, List.getElem?_cons_zero] at d0 d2 d3 d4 c0 c2
  rw [HK1.out] at d0
  go_wp2_with fail
  have HP := Lib.hid (N1.out.ne_blk R1.out (by decide))
  have l1 := R1.out.lt
  have l2 := X1.out.lt
  have HW := Lib.hid (N1.out.ne_ge (Nat.le_refl _))
  have HV : Hid (some (w.heap.size + 1) ≠ ev.ownBlock) := fun e => by have := HG.out.e.lt _ e.symm; omega
  have SB : Hid (∀ x w2, (W.alloc x).drew.grownBy w2 ev.ownBlock → w2.cell? ⟨p, 1, none⟩ = some ev ∧ w2.frozen? ⟨p, 1, none⟩ = false ∧ w2.cell? ⟨w.heap.size + 1, 2, none⟩ = some (.string o.ty) ∧ w2.cell? ⟨w.heap.size + 1, 3, none⟩ = some (.int .i64 o.fr) ∧ w2.cell? ⟨w.heap.size + 1, 4, none⟩ = some (.int .i64 o.tt)) := fun x w2 hg => ⟨((R1.out.alloc x).drew.grown hg HP.out).cell 1, ((R1.out.alloc x).drew.grown hg HP.out).free 1, ((X1.out.alloc x).drew.grown hg HV.out).cell 2, ((X1.out.alloc x).drew.grown hg HV.out).cell 3, ((X1.out.alloc x).drew.grown hg HV.out).cell 4⟩
  have FIN : Hid (∀ gg cap w2, (W.alloc (Obj.cells #[.int .i64 g.next, .string o.ty, .int .i64 o.fr, .int .i64 o.tt, .slice none 0 0] 115)).drew.grownBy w2 ev.ownBlock → w2.ownsRow 0 115 5 (.slice (some ⟨gg, 0, none⟩) (fe.length + 1) cap) (fe.length + 1) (fe.flatMap encE ++ encE ⟨g.next, o.ty, o.fr, o.tt, .slice none 0 0⟩) → (ev.ownBlock = some gg ∨ gg = W.heap.size + 1) →
      (w2.setCell ⟨p, 1, none⟩ (.slice (some ⟨gg, 0, none⟩) (fe.length + 1) cap)).cell? ⟨p, 2, none⟩ = some (.int .i64 g.next) ∧ (w2.setCell ⟨p, 1, none⟩ (.slice (some ⟨gg, 0, none⟩) (fe.length + 1) cap)).frozen? ⟨p, 2, none⟩ = false ∧
      Hid (GAt 42 ((w2.setCell ⟨p, 1, none⟩ (.slice (some ⟨gg, 0, none⟩) (fe.length + 1) cap)).setCell ⟨p, 2, none⟩ (.int .i64 (g.next + 1))) p ⟨g.N, g.E ++ [⟨g.next, o.ty, o.fr, o.tt, []⟩], g.next + 1⟩ nv (.slice (some ⟨gg, 0, none⟩) (fe.length + 1) cap) fn (fe ++ [⟨g.next, o.ty, o.fr, o.tt, .slice none 0 0⟩]) ∧ Keep (foot p nv ev) w ((w2.setCell ⟨p, 1, none⟩ (.slice (some ⟨gg, 0, none⟩) (fe.length + 1) cap)).setCell ⟨p, 2, none⟩ (.int .i64 (g.next + 1))) ∧ (∀ k, k ∈ foot p nv (.slice (some ⟨gg, 0, none⟩) (fe.length + 1) cap) → k ∈ foot p nv ev ∨ w.heap.size ≤ k))) := fun gg cap w2 hgrow hown1 hat => by
    have D := addE_done (x := ⟨g.next, o.ty, o.fr, o.tt, .slice none 0 0⟩) (n := ⟨g.next, o.ty, o.fr, o.tt, []⟩) HG.out (by decide) HK2.out R1.out (Keep.refl _ _) hgrow hown1 hat ⟨rfl, rfl, rfl, rfl, rfl, rfl⟩
    have D2 := D.1.setNext (by decide) (g.next + 1)
    exact ⟨D.1.blk.cell 2, D.1.blk.free 2, D2.1, D.2.1.trans D2.2 D.2.2, D.2.2⟩
  go_region_law
    ((refine step_append_lies _ (by rfl) _ _ _ (by rfl) 0 115 i0 _ 5 64 Tryz.underlying40 hi0 hz0 hz1 hz2 rfl (by omega) ev fe.length (fe.flatMap encE) (by rfl) ((N1.out.alloc _).drew)
        ⟨W.heap.size, 0, none⟩ 1 1 [.int .i64 g.next, .string o.ty, .int .i64 o.fr, .int .i64 o.tt, .slice none 0 0] (by rfl) (by rfl) (World.news_of_block (cs := #[.int .i64 g.next, .string o.ty, .int .i64 o.fr, .int .i64 o.tt, .slice none 0 0]) (t := 115) (fr := (0, 0)) (heap_alloc_new W _)) (by simp [Value.oneCell'])
        (by omega) (by unfold maxLen; omega) (by omega) (by simp) (W.heap.size + 1) (by simp) ?_; intro gg cap w2 hown1 hgrow hat hlt; obtain ⟨q0, q1, q2, q3, q4⟩ := SB.out _ _ hgrow))
  all_goals
    obtain ⟨e2, e3, D⟩ := FIN.out gg cap w2 hgrow hown1 hat
    clear q0 q1 q2 q3 q4 hgrow hown1 hat c0 c2 f0 d0 d2 d3 d4 hlt
    go_wp2
    go_ret2
    exact ⟨rfl, _, D.out⟩
end
end Go.Proofs.Hg
namespace Go.Proofs.Hg
open Go Go.RowKit Go.Proofs Go.Shelf
/-! ## The edges at a node, cut one behind the other -/
def idsAt (g : Gr) (id : Int) : List Int := (g.E.filter (atEd · id)).map (·.id)
def cutG (g : Gr) (L : List Int) : Gr := ⟨g.N, g.E.filter (fun x => !(L.contains x.id)), g.next⟩
theorem atIds_eq {T p : Nat} {w : World} {g : Gr} {nv ev : Value} {fn : List FN} {fe : List FE} (h : GAt T w p g nv ev fn fe) (id : Int) : atIds fe id = idsAt g id := by
  unfold atIds idsAt
  exact (h.ve.filter (fun a b hr => by unfold atE atEd; rw [hr.2.2.1, hr.2.2.2.1])).map_eq (fun _ _ hr => hr.1)
theorem cutG_nil (g : Gr) : cutG g [] = g := by
  unfold cutG
  rw [List.filter_eq_self.2 (fun x _ => by simp)]
theorem cutG_step (g : Gr) (L : List Int) (i : Int) : dropE (cutG g L) i = cutG g (L ++ [i]) := by
  unfold dropE cutG
  simp only [List.filter_filter]
  congr 1
  apply List.filter_congr
  intro x _
  rw [Bool.eq_iff_iff]
  simp
  exact And.comm
theorem cutG_inv {g : Gr} (h : GInv g) (L : List Int) : GInv (cutG g L) := by
  refine ⟨h.upN, ?_, h.lenN, Nat.le_trans (List.length_filter_le _ _) h.lenE⟩
  exact h.upE.sublist ((List.filter_sublist).map _)
theorem idsAt_up {g : Gr} (h : GInv g) (id : Int) : (idsAt g id).Pairwise (· < ·) := h.upE.sublist ((List.filter_sublist).map _)
theorem cutG_has {g : Gr} (h : GInv g) (id : Int) (j : Nat) (hj : j < (idsAt g id).length) : hasE (cutG g ((idsAt g id).take j)) (idsAt g id)[j] = true := by
  unfold hasE
  rw [List.contains_iff_mem]
  have hm : (idsAt g id)[j] ∈ idsAt g id := List.getElem_mem hj
  unfold idsAt at hm
  obtain ⟨x, hx, he⟩ := List.mem_map.1 hm
  refine List.mem_map.2 ⟨x, ?_, he⟩
  unfold cutG
  refine List.mem_filter.2 ⟨(List.mem_filter.1 hx).1, ?_⟩
  have hup := idsAt_up h id
  have : ¬ x.id ∈ (idsAt g id).take j := fun hm2 => by
    obtain ⟨i, hi, hie⟩ := List.getElem_of_mem hm2
    rw [List.length_take] at hi
    rw [List.getElem_take] at hie
    have := List.pairwise_iff_getElem.1 hup i j (by omega) hj (by omega)
    have he2 : x.id = (idsAt g id)[j] := he
    omega
  simpa using this
theorem pair_unique {α : Type} (f : α → Int) : ∀ (l : List α), (l.map f).Pairwise (· < ·) → ∀ x ∈ l, ∀ y ∈ l, f x = f y → x = y
  | [], _, x, hx, _, _, _ => by simp at hx
  | a :: l, h, x, hx, y, hy, he => by
    simp only [List.map_cons, List.pairwise_cons, List.mem_map, forall_exists_index, and_imp, forall_apply_eq_imp_iff₂] at h
    rcases List.mem_cons.1 hx with rfl | hx'
    · rcases List.mem_cons.1 hy with rfl | hy'
      · rfl
      · have := h.1 y hy'; omega
    · rcases List.mem_cons.1 hy with rfl | hy'
      · have := h.1 x hx'; omega
      · exact pair_unique f l h.2 x hx' y hy' he
theorem cutG_all {g : Gr} (h : GInv g) (id : Int) : (cutG g (idsAt g id)).E = g.E.filter (fun x => !(atEd x id)) := by
  unfold cutG
  apply List.filter_congr
  intro x hx
  congr 1
  rw [Bool.eq_iff_iff, List.contains_iff_mem]
  unfold idsAt
  constructor
  · intro hm
    obtain ⟨y, hy, he⟩ := List.mem_map.1 hm
    have := pair_unique (fun e : Edge => e.id) g.E h.upE y (List.mem_filter.1 hy).1 x hx he
    subst this
    exact (List.mem_filter.1 hy).2
  · intro ha
    exact List.mem_map.2 ⟨x, List.mem_filter.2 ⟨hx, ha⟩, rfl⟩
theorem After.step {T p : Nat} {w w1 w2 : World} {F F1 : List Nat} {g2 : Gr} (hk : Keep F w w1) (hF : ∀ k, k ∈ F1 → k ∈ F ∨ w.heap.size ≤ k) (h : After T w1 p F1 g2 w2) : After T w p F g2 w2 := by
  obtain ⟨F2, a, b, c⟩ := h
  refine ⟨F2, a, hk.trans b hF, fun k hm => ?_⟩
  rcases c k hm with h | h
  · exact hF k h
  · exact .inr (Nat.le_trans hk.size h)
end Go.Proofs.Hg
namespace Go.Proofs.Hg
open Go Go.RowKit Go.Proofs Go.Shelf
theorem Rd.i_at3 {w : World} {b off n cap : Nat} {xs : List Int} (h : Rd w 1 encI (.slice (some ⟨b, off, none⟩) n cap) xs) (i : Nat) (hi : i < xs.length) : w.cell? ⟨b, off + i, none⟩ = some (.int .i64 xs[i]) := by
  obtain ⟨A, cap', hv, _, _, hc⟩ := h
  obtain ⟨b', off', hA, hr⟩ := hc i hi
  injection hv with hv _ _
  rw [← hv] at hA
  injection hA with hA
  injection hA with h1 h2
  subst h1 h2
  obtain ⟨u, hu, he⟩ := hr 0 (by omega)
  simp [encI] at he
  subst he
  simpa using hu
set_option maxRecDepth 100000 in
set_option maxHeartbeats 6400000 in
theorem rdoDN_c (w : World) (p : Nat) (g : Gr) (F : List Nat) (cn ce cr ci cx : Value) (ns es : List ByteArray) (o : Op) (k1 : o.k = 2) (hi : GInv g) (h : GA 42 w p g F) (hh : hasN g o.id = true)
    (HM : ∀ W, Keep [] w W → Calls Tryz.prog 54 #[.pointer (some ⟨p, 0, none⟩), cat5 cn ce cr ci cx, opV o] W fun e w' => e = .returned (.int .i64 0) ∧ Keep [] W w') :
    Calls Tryz.prog 29 #[.pointer (some ⟨p, 0, none⟩), cat5 cn ce cr ci cx, opV o] w fun e w' => e = .returned (.tuple #[.int .i64 0, .int .i64 0]) ∧ After 42 w p F (dropN g o.id) w' := by
  obtain ⟨i0, hi0, hz0, hz1, hz2⟩ := info_parts infoN
  have K0 := (Keep.alloc0 w (Obj.cells #[cn, ce, cr, ci, cx] 59)).alloc (Obj.cells (encO o).toArray 50)
  have HX := Blk.new2 w (Obj.cells #[cn, ce, cr, ci, cx] 59) (encO o).toArray 50
  have HM1 := Lib.hid (HM _ K0)
  have HG := Lib.hid (fun W (hk : Keep [] w W) => h.keep hk (fun _ _ => by simp))
  have HFL := Lib.hid h.lt
  have HI := Lib.hid hi
  have HH := Lib.hid hh
  have HAT : Hid (∀ W, Keep [] w W → Calls Tryz.prog 55 #[.pointer (some ⟨p, 0, none⟩), .int .i64 o.id] W fun e w' => ∃ v, e = .returned v ∧ FreshR 2 1 encI W w' v (idsAt g o.id)) := fun W hk => by
    obtain ⟨nv, ev, fn, fe, h2, _⟩ := h.keep hk (fun _ _ => by simp)
    rw [← atIds_eq h2 o.id]
    exact rat_c W p g nv ev fn fe o.id (by have := hi.lenE; have := h2.ve.length; omega) h2
  have HLL : (idsAt g o.id).length ≤ 100000 := by
    unfold idsAt; rw [List.length_map]; exact Nat.le_trans (List.length_filter_le _ _) hi.lenE
  unfold encO at *
  have HK := Lib.hid K0
  have HXX := Lib.hid HX
  have HK1 := Lib.hid k1
  clear K0 HX HM h k1 hh hi
  go_enter Tryz.func29, Tryz.ntmps29
  go_wp2_with fail
  generalize (w.alloc _).alloc _ = W0 at *
  refine HM1.out.mono ?_
  rintro e W ⟨rfl, hk1⟩
  have HK2 := Lib.hid (HK.out.trans0 hk1)
  have X1 := Lib.hid (HXX.out.keep hk1 (by simp))
  clear hk1 HXX HK HM1
  have d0 := X1.out.cell 0
  have d1 := X1.out.cell 1
  simp only [List.getElem?_toArray, List.getElem?_cons_succ, List.getElem?_cons_zero] at d0 d1
  rw [HK1.out] at d0
  go_wp2_with fail
  refine (HAT.out W HK2.out).mono ?_
  rintro e W2 ⟨v, rfl, hF⟩
  have HF := Lib.hid hF
  have HK3 := Lib.hid (HK2.out.trans0 hF.1)
  have X2 := Lib.hid (X1.out.keep hF.1 (by simp))
  have HG2 := Lib.hid (HG.out W2 HK3.out)
  have HRW : Hid (∀ W3, Keep F W2 W3 → Rd W3 1 encI v (idsAt g o.id)) := fun W3 hk => (hF.2.1.keep hk (fun k e hm => by have h1 := hF.2.2 k e; have h2 := HFL.out k hm; have h3 := HK2.out.size; omega)).rd (fun _ => rfl)
  obtain ⟨A, cap, hvv, hcap, hm, _⟩ := HRW.out W2 (Keep.refl _ _)
  subst hvv
  have HN := Lib.hid (fun W3 (hk : Keep F W2 W3) => (X2.out.keep hk (fun hm => by have h2 := HFL.out _ hm; omega)))
  obtain ⟨L, hL⟩ : ∃ L, L = idsAt g o.id := ⟨_, rfl⟩
  rw [← hL] at HRW HLL hcap ⊢
  have HLE := Lib.hid hL
  clear hF HF X1 d0 d1 hL HAT
  go_wp2_with fail
  go_loopw [11] (fun i wr => ∃ k : Nat, k ≤ L.length ∧ i = .int .i64 k ∧ Hid (After 42 W2 p F (cutG g (L.take k)) wr)) (fun i _ => L.length - (intOf i).toNat)
  case atStart => exact ⟨0, by omega, rfl, F, by rw [List.take_zero, cutG_nil]; exact HG2.out, Keep.refl _ _, fun k hk => .inl hk⟩
  case round =>
    obtain ⟨k, hk, rfl, hA⟩ := hrel
    obtain ⟨F1, hGA, hKF, hFF⟩ := hA.out
    by_cases hlt : k < L.length
    · have HR3 := HRW.out wr hKF
      obtain ⟨b, off, rfl⟩ : ∃ b off, A = some ⟨b, off, none⟩ := by
        obtain ⟨A', cap', hv, _, _, hc⟩ := HR3
        injection hv with hv _ _
        subst hv
        obtain ⟨b, off, hA, _⟩ := hc k hlt
        exact ⟨b, off, hA⟩
      have r0 := Rd.i_at3 HR3 k hlt
      have HC : Hid (Calls Tryz.prog 56 #[.pointer (some ⟨p, 0, none⟩), .int .i64 L[k]] wr fun e w' => e = .returned (.tuple #[]) ∧ After 42 W2 p F (cutG g (L.take (k + 1))) w') := by
        have hE : L.take (k + 1) = L.take k ++ [L[k]] := by rw [List.take_add_one, List.getElem?_eq_getElem hlt]; rfl
        refine (cut_c wr p (cutG g (L.take k)) F1 L[k] (cutG_inv HI.out _) hGA ?_).mono ?_
        · have := HLE.out; subst this; exact cutG_has HI.out o.id k hlt
        · rintro e w' ⟨rfl, ha⟩
          rw [cutG_step, ← hE] at ha
          exact ⟨rfl, ha.step hKF hFF⟩
      clear HR3 hGA hKF hFF hA
      go_wp2_with fail
      refine HC.out.mono ?_
      rintro e w3 ⟨rfl, ha⟩
      have HA3 := Lib.hid ha
      clear ha r0
      go_wp2
      exact ⟨⟨k + 1, by omega, by go_num, HA3⟩, by simp [intOf]; omega⟩
    · have ek : k = L.length := by omega
      subst ek
      rw [List.take_length] at hGA
      obtain ⟨nv, ev, fn, fe, hT, hFeq⟩ := hGA
      have lf : fn.length ≤ 1000000 := by have := HI.out.lenN; have h2 := hT.vn.length; have h3 : (cutG g L).N = g.N := rfl; rw [h3] at h2; omega
      have hc : (fn.map (·.id)).contains o.id = true := by rw [hT.idsN]; exact HH.out
      obtain ⟨x, hx, he⟩ := List.mem_map.1 (List.contains_iff_mem.1 hc)
      obtain ⟨j, hj, rfl⟩ := List.getElem_of_mem hx
      have hu : (fn.map (·.id)).Pairwise (· < ·) := by rw [hT.idsN]; exact HI.out.upN
      have HC : Hid (Calls Tryz.prog 57 #[.pointer (some ⟨p, 0, none⟩), .int .i64 o.id] wr fun e w' => e = .returned (.int .i64 j) ∧ w' = wr) := by
        refine (rnode_c wr p (cutG g L) nv ev fn fe o.id lf hT).mono ?_
        rintro e w' ⟨i, rfl, hp, rfl⟩
        refine ⟨?_, rfl⟩
        rcases hp with ⟨rfl, hn⟩ | ⟨i, hi, rfl, hie⟩
        · rw [hc] at hn; simp at hn
        · have he2 : fn[j].id = o.id := he
          have hi2 : fn[i].id = o.id := hie
          have : i = j := by
            rcases Nat.lt_trichotomy i j with hlt | e | hlt
            · have h1 := (List.pairwise_iff_getElem.1 hu) i j (by simpa using hi) (by simpa using hj) hlt
              simp at h1; omega
            · exact e
            · have h1 := (List.pairwise_iff_getElem.1 hu) j i (by simpa using hj) (by simpa using hi) hlt
              simp at h1; omega
          rw [this]
      have hGN : (cutG g L).N = g.N := rfl
      have hjN : j < g.N.length := by rw [← hGN, ← hT.vn.length]; exact hj
      have e1 : g.N[j].id = o.id := by rw [← he]; exact ((hT.vn.get j hj hjN).1).symm
      have HV : Hid (All2 (NodeV wr) (fn.eraseIdx j) (dropN g o.id).N) := by
        show All2 _ _ (g.N.filter _)
        rw [← erase_filter2 (·.id) g.N j hjN HI.out.upN o.id e1]
        exact hT.vn.eraseIdx j
      have HEQ : Hid ((⟨(dropN g o.id).N, (cutG g L).E, (cutG g L).next⟩ : Gr) = dropN g o.id) := by
        show _ = _
        rw [HLE.out, cutG_all HI.out o.id]; rfl
      obtain ⟨b, cap', cur, hv, h1, h2, hb, hs, htk, hq⟩ := hT.n.form (fun _ => rfl) (by omega)
      clear hq
      unfold maxLen at h2
      have X3 := HN.out wr hKF
      have x1 := X3.cell 1
      simp only [List.getElem?_toArray, List.getElem?_cons_succ, List.getElem?_cons_zero] at x1
      have HT := Lib.hid hT
      have HB := Lib.hid hb
      have HTK := Lib.hid htk
      have H1 := Lib.hid hT.oneN
      have HSA : Hid (∀ X, Keep [] wr X → X.cell? ⟨p, 0, none⟩ = some (.slice (some ⟨b, 0, none⟩) fn.length cap') ∧ X.frozen? ⟨p, 0, none⟩ = false) := fun X hk => ⟨by have := (hT.blk.keep hk (by simp)).cell 0; rw [hv] at this; simpa using this, (hT.blk.keep hk (by simp)).free 0⟩
      obtain ⟨c1, f1⟩ := HSA.out wr (Keep.refl _ _)
      have lp := hT.blk.lt
      have lb := hb.lt
      have HE := Lib.hid (List.eraseIdx_eq_take_drop_succ fn j)
      have L1 : Hid ((fn.take j).length = j) := by show _ = _; rw [List.length_take]; omega
      have L2 : Hid ((fn.drop (j + 1)).length = fn.length - (j + 1)) := by show _ = _; rw [List.length_drop]
      have a2 : ((j : Int) + 1).toNat = j + 1 := by omega
      have a4 : j ≤ cap' := by omega
      have a5 : j + 1 ≤ cap' := by omega
      have a6 : j + 1 ≤ fn.length := by omega
      have a8 : (0 : Int) ≤ (j : Int) + 1 := by omega
      have a9 : ((j : Int) + 1) ≤ (fn.length : Int) := by omega
      have aw : IntKind.i64.wrap ((j : Int) + 1) = (j : Int) + 1 := by rw [IntKind.wrap_i64]; omega
      obtain ⟨Ad, hAd, HNW⟩ : ∃ Ad : Addr, (if cap' = j + 1 then some (⟨b, 0, none⟩ : Addr) else some ⟨b, (j + 1) * 3, none⟩) = some Ad ∧ Hid (∀ X, Keep [] wr X → ∀ i u, ((fn.drop (j + 1)).flatMap encN)[i]? = some u → X.cell? (Ad.add i) = some u) := by
        by_cases hcc : cap' = j + 1
        · refine ⟨_, if_pos hcc, fun X hk i u hu => ?_⟩
          rw [List.drop_eq_nil_of_le (by omega)] at hu
          simp at hu
        · exact ⟨_, if_neg hcc, fun X hk => news_drop (enc := encN) (T := 113) (hb.keep hk (by simp)) (fun _ => rfl) htk (j + 1)⟩
      have HKF := Lib.hid hKF
      have HFF := Lib.hid hFF
      have HFE := Lib.hid hFeq
      have HVV := Lib.hid hv
      have HKW := Lib.hid (HK3.out.mono (F1 := F) (fun _ hm => by simp at hm))
      have HFIN : Hid (∀ B2 LL cap2 w3, LL = j + (fn.length - (j + 1)) → FreshR 113 3 encN wr w3 (.slice B2 LL cap2) ([] ++ fn.take j ++ fn.drop (j + 1)) → After 42 w p F (dropN g o.id) (w3.setCell ⟨p, 0, none⟩ (.slice B2 LL cap2))) := fun B2 LL cap2 w3 hLL hF3 => by
        have hF4 : FreshR 113 3 encN wr w3 (.slice B2 LL cap2) (fn.eraseIdx j) := by rw [HE.out]; exact hF3
        obtain ⟨aa, bb, cc⟩ := HT.out.newN (by decide) hF4 HV.out
        rw [HEQ.out] at aa
        have hfoot : foot p nv ev = F1 := HFE.out.symm
        rw [hfoot] at bb cc
        exact After.step HKW.out (fun k hm => .inl hm) (After.step HKF.out HFF.out ⟨_, ⟨_, _, _, _, aa, rfl⟩, bb, cc⟩)
      clear hb htk hT hv HK2 HK3 HKF HFF HFE HVV HKW HV HEQ HE X3 hKF hFF hFeq HRW HN hA HG HFL HG2 hx he hc hu e1 hGN
      go_wp2_with fail
      refine HC.out.mono ?_
      rintro e w' ⟨rfl, rfl⟩
      go_wp2_with fail
      go_region_law (first
        | (refine step_append_fr (by rfl) _ _ _ (by rfl) (enc := encN) (sz := 3) (T := 113) (xs := []) (ys := fn.take j) ((FreshR.empty 113 3 encN (Keep.refl _ _)).drew) (fun _ => rfl) i0 _ 48 Tryz.underlying39 hi0 hz0 hz1 hz2 rfl (by omega) ⟨b, 0, none⟩ j cap' L1.out.symm (by rfl) (by rfl) (news_take (enc := encN) (T := 113) (show Blk _ b 113 cur from (HB.out.alloc _).drew) (fun _ => rfl) HTK.out j) (fun u hu => H1.out u (mem_flat_take hu)) (by have := L1.out; simp only [List.length_nil]; omega) (by omega) j (by simp [L1.out]) ?_; intro B cap1 w2 hF2 hg2; obtain ⟨q0, q1⟩ := HSA.out w2 hF2.1)
        | (refine step_append_fr (by rfl) _ _ _ (by rfl) (enc := encN) (sz := 3) (T := 113) (xs := [] ++ fn.take j) (ys := fn.drop (j + 1)) hF2 (fun _ => rfl) i0 _ 48 Tryz.underlying39 hi0 hz0 hz1 hz2 rfl (by omega) Ad (fn.length - (j + 1)) (cap' - (j + 1)) L2.out.symm (by rfl) (by rfl) (HNW.out _ hF2.1) (fun u hu => H1.out u (mem_flat_drop hu)) (by have := L1.out; have := L2.out; simp only [List.nil_append]; omega) (by omega) (j + (fn.length - (j + 1))) (by simp [L1.out, L2.out]) ?_; intro B2 cap2 w3 hF3 hg3; obtain ⟨r0, r1⟩ := HSA.out w3 hF3.1))
      all_goals
        have HZ := Lib.hid (HFIN.out _ _ _ _ rfl hF3)
        clear hF2 hF3 q0 q1 r0 r1 hg2 hg3 HFIN HC
        go_wp2
        go_ret2
        exact ⟨rfl, HZ.out⟩
end Go.Proofs.Hg
