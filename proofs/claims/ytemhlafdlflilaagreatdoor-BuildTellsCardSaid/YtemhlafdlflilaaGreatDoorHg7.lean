/-
  Contracts of the functions that the statement reaches, and plain lemmas on lists, part 7. Conditions: those that each theorem names.
-/
import Derived.Test.YtemhlafdlflilaaGreatDoorHg6
set_option linter.unusedVariables false
set_option linter.unusedSimpArgs false
namespace Go.Proofs.Hg
open Go Go.RowKit Go.Proofs Go.Shelf
/-- A list of numbers laid anew behind a world. -/
def FreshI (W wr : World) (v : Value) (xs : List Int) : Prop := Keep [] W wr ∧ Row wr 2 1 encI v xs ∧ ∀ k, v.ownBlock = some k → W.heap.size ≤ k
theorem FreshI.nil (W : World) : FreshI W W (.slice none 0 0) [] := ⟨Keep.refl _ _, Row.nil _ _ _ _, fun k h => by simp [Value.ownBlock] at h⟩
theorem FreshI.keep {W wr w2 : World} {v : Value} {xs : List Int} (h : FreshI W wr v xs) (hk : Keep [] wr w2) : FreshI W w2 v xs := ⟨h.1.trans0 hk, h.2.1.keep hk (fun _ _ => by simp), h.2.2⟩
theorem FreshI.alloc {W wr : World} {v : Value} {xs : List Int} (h : FreshI W wr v xs) (o : Obj) : FreshI W (wr.alloc o) v xs := h.keep (Keep.alloc0 wr o)
theorem FreshI.app {W wr w2 : World} {v : Value} {xs : List Int} (h : FreshI W wr v xs) {gg cap H : Nat} {x : Int} (hown : w2.ownsRow 0 2 1 (.slice (some ⟨gg, 0, none⟩) (xs.length + 1) cap) (xs.length + 1) (xs.flatMap encI ++ encI x)) (hg : wr.grownBy w2 v.ownBlock) (hat : v.ownBlock = some gg ∨ gg = H) (hH : W.heap.size ≤ H) :
    FreshI W w2 (.slice (some ⟨gg, 0, none⟩) (xs.length + 1) cap) (xs ++ [x]) := by
  refine ⟨h.1.grown hg (fun k e => .inl (h.2.2 k e)), ?_, fun k e => ?_⟩
  · unfold Row
    rw [List.length_append, List.length_singleton, List.flatMap_append]
    simpa using hown
  · simp [Value.ownBlock] at e; subst e
    rcases hat with e | rfl
    · exact h.2.2 _ e
    · exact hH
theorem infoI : (Tryz.prog.info? 2).map (fun i => (i.zero, i.size, i.bytes)) = some (some (.int .i64 0), 1, 8) := by kernel_rfl
theorem take_map_succ {α : Type} (f : α → Int) (l : List α) (k : Nat) (hk : k < l.length) : (l.map f).take (k + 1) = (l.map f).take k ++ [f l[k]] := by
  rw [List.take_add_one, List.getElem?_eq_getElem (by simpa using hk)]; simp
structure OvE (U : Value) (w3 wr : World) (ov : Value) : Prop where
  keep : Keep U.ownBlock.toList w3 wr
  own : ∀ k, ov.ownBlock = some k → U.ownBlock = some k ∨ w3.heap.size ≤ k
theorem OvE.start (U : Value) (w : World) : OvE U w w U := ⟨Keep.refl _ _, fun k h => .inl h⟩
theorem OvE.alloc {U ov : Value} {w3 wr : World} (h : OvE U w3 wr ov) (o : Obj) : OvE U w3 (wr.alloc o) ov := ⟨h.keep.alloc o, h.own⟩
theorem OvE.app {U ov : Value} {w3 wr w2 : World} {xs : List Int} (h : OvE U w3 wr ov) (hU : Row w3 2 1 encI U xs) {gg n cap H : Nat} (hg : wr.grownBy w2 ov.ownBlock) (hat : ov.ownBlock = some gg ∨ gg = H) (hH : w3.heap.size ≤ H) : OvE U w3 w2 (.slice (some ⟨gg, 0, none⟩) n cap) := by
  refine ⟨h.keep.grown hg (fun k e => ?_), fun k e => ?_⟩
  · rcases h.own k e with e2 | e2
    · right
      obtain ⟨cs, hc⟩ := hU.typed k e2
      exact ⟨by simp [e2], cs, _, hc, by decide⟩
    · exact .inl e2
  · simp [Value.ownBlock] at e; subst e
    rcases hat with e | rfl
    · exact h.own _ e
    · exact .inr hH
def idsAll (g : Gr) : List Int := g.N.map (·.id) ++ g.E.map (·.id)
def idsG (g : Gr) (lim : Int) : List Int := ((idsAll g).filter fun x => !decide (x < lim)).mergeSort leI
set_option maxRecDepth 100000 in
set_option maxHeartbeats 3200000 in
theorem ids_c (w : World) (p : Nat) (g : Gr) (F : List Nat) (lim : Int) (hlN : g.N.length ≤ 100000) (hlE : g.E.length ≤ 100000) (hps : ∀ n ∈ g.N, n.ps.length ≤ 100000) (hpe : ∀ n ∈ g.E, n.ps.length ≤ 100000) (h : GA 106 w p g F) :
    Calls Tryz.prog 42 #[.pointer (some ⟨p, 0, none⟩), .int .i64 lim] w fun e w' => ∃ v, e = .returned v ∧ Row w' 2 1 encI v (idsG g lim) ∧ Keep [] w w' := by
  obtain ⟨i0, hi0, hz0, hz1, hz2⟩ := info_parts infoI
  have K0 := Keep.alloc0 w (Obj.cells #[.int .i64 lim] 2)
  have HX := Lib.hid (Blk.new w #[.int .i64 lim] 2)
  have HN := Lib.hid (fun W (hk : Keep [] w W) => nodes_c W p g F hlN hps (h.keep hk (fun _ _ => by simp)))
  have HE := Lib.hid (fun W (hk : Keep [] w W) => edges_c W p g F hlE hpe (h.keep hk (fun _ _ => by simp)))
  have HK := Lib.hid K0
  clear K0 h hps hpe
  go_enter Tryz.func42, Tryz.ntmps42
  go_wp2_with fail
  generalize w.alloc _ = W at *
  refine (HN.out W HK.out).mono ?_
  rintro e w1 ⟨v, rfl, ⟨fk, hr, hv⟩, hk1, _⟩
  obtain ⟨A, cap, hvv, hc, hm⟩ := hr.slice
  subst hvv
  unfold maxLen at hm
  have hlf : fk.length ≤ 100000 := by rw [hv.length]; exact hlN
  have hids : fk.map (·.id) = g.N.map (·.id) := hv.map_eq (fun _ _ hr => hr.1)
  have HR := Lib.hid hr
  have HV := Lib.hid hv
  have HI := Lib.hid hids
  have HK1 := Lib.hid (HK.out.trans0 hk1)
  have HX1 := Lib.hid (HX.out.keep hk1 (by simp))
  clear hr hv hids hk1 HX HK
  go_wp2_with fail
  go_loopw [5, 13] (fun ov i wr => ∃ k : Nat, k ≤ fk.length ∧ i = .int .i64 k ∧ Hid (FreshI w1 wr ov ((fk.map (·.id)).take k))) (fun _ i _ => fk.length - (RowKit.intOf i).toNat)
  case atStart => exact ⟨0, by omega, rfl, FreshI.nil w1⟩
  case round =>
    obtain ⟨k, hk, rfl, hF⟩ := hrel
    by_cases hlt : k < fk.length
    · have HT := Lib.hid (take_map_succ (fun x : FN => x.id) fk k hlt)
      obtain ⟨b, rfl⟩ := row_ptr HR.out (by omega)
      obtain ⟨c0, c1, c2⟩ := rowN_at (HR.out.keep hF.out.1 (fun _ _ => by simp)) k hlt
      obtain ⟨y, hy⟩ := HV.out.left fk[k] (List.getElem_mem hlt)
      obtain ⟨C, n, c, hpv⟩ := hy.2.2.form
      rw [hpv] at c2
      have ll : ((fk.map (·.id)).take k).length ≤ 100000 := by rw [List.length_take]; simp; omega
      obtain ⟨L, hL⟩ : ∃ L, L = (fk.map (·.id)).take k := ⟨_, rfl⟩
      rw [← hL] at hF HT ll
      clear hL hy hpv
      have HF1 := Lib.hid ((hF.out.alloc (Obj.cells #[.int .i64 fk[k].id, .string fk[k].ty, .slice C n c] 113)).alloc (Obj.cells #[.int .i64 fk[k].id] 2))
      have HB1 := Lib.hid (Blk.new2 wr (Obj.cells #[.int .i64 fk[k].id, .string fk[k].ty, .slice C n c] 113) #[.int .i64 fk[k].id] 2)
      have lw1 := hF.out.1.size
      go_wp2_with (at_builtin; refine wpList_append_lies _ rfl _ _ 25 rfl 0 2 i0 _ 1 8 Tryz.underlying25 hi0 hz0 hz1 hz2 rfl (by omega) _ L.length (L.flatMap encI) rfl HF1.out.2.1 ⟨wr.heap.size + 1, 0, none⟩ 1 1 (encI fk[k].id) (by rfl) rfl (World.news_of_block HB1.out) (by simp [encI, Value.oneCell']) (by omega) (by unfold maxLen; omega) (by omega) (by omega) (wr.heap.size + 2) (by simp) ?_)
      intro gg cap1 w2 h1 h2 h3 h4
      have HN1 : Hid (FreshI w1 w2 (.slice (some ⟨gg, 0, none⟩) (L.length + 1) cap1) ((fk.map (·.id)).take (k + 1))) := by
        show FreshI _ _ _ _
        rw [HT.out]
        exact HF1.out.app h1 h2 h3 (by omega)
      clear h1 h2 h3 h4 c0 c1 c2 HT
      go_wp2
      exact ⟨⟨k + 1, by omega, by go_num, HN1⟩, by simp [RowKit.intOf]; omega⟩
    · have ek : k = fk.length := by omega
      subst ek
      have HF : Hid (FreshI w1 wr u5 (g.N.map (·.id))) := by
        have := hF.out
        rw [show fk.length = (fk.map (·.id)).length from by simp, List.take_length, HI.out] at this
        exact this
      clear hF
      have HFK := Lib.hid (HK1.out.trans0 HF.out.1)
      have HX2 := Lib.hid (HX1.out.keep HF.out.1 (by simp))
      have lNL : (g.N.map (·.id)).length ≤ 100000 := by simp; exact hlN
      obtain ⟨NL, hNL⟩ : ∃ NL, NL = g.N.map (·.id) := ⟨_, rfl⟩
      have HNL := Lib.hid hNL
      rw [← hNL] at HF lNL
      have lw1 := HK1.out.size
      have hxl := HX1.out.lt
      have HX1' := Lib.hid HX1.out
      have HKw1 := Lib.hid HK1.out
      clear HI HV HR hc hm hlf hNL hk hlt HX1 HK1
      go_wp2_with fail
      refine (HE.out wr HFK.out).mono ?_
      rintro e w3 ⟨v, rfl, ⟨fe, hr, hv⟩, hk3, hnew⟩
      obtain ⟨A2, cap2, hvv, hc2, hm2⟩ := hr.slice
      subst hvv
      unfold maxLen at hm2
      have hlf : fe.length ≤ 100000 := by rw [hv.length]; exact hlE
      have hids : fe.map (·.id) = g.E.map (·.id) := hv.map_eq (fun _ _ hr => hr.1)
      have HR := Lib.hid hr
      have HV := Lib.hid hv
      have HI := Lib.hid hids
      have HX3 := Lib.hid (HX2.out.keep hk3 (by simp))
      have HF3 := Lib.hid (HF.out.keep hk3)
      have HDis : Hid (∀ k, (Value.slice A2 fe.length cap2).ownBlock = some k → k ∉ u5.ownBlock.toList) := fun k e hm => by
        have h1 := hnew k e
        have h2 := HF.out.2.1.lt k (by simpa using hm)
        omega
      have HU := Lib.hid HF3.out.2.1
      obtain ⟨U, hU⟩ : ∃ U, U = u5 := ⟨_, rfl⟩
      rw [← hU] at HDis HU
      clear hr hv hids hk3 HX2 HF hnew
      go_wp2_with fail
      go_loopw [5, 26] (fun ov i wr2 => ∃ k : Nat, k ≤ fe.length ∧ i = .int .i64 k ∧ Hid (FreshI w1 wr2 ov (NL ++ (fe.map (·.id)).take k)) ∧ Hid (OvE U w3 wr2 ov)) (fun _ i _ => fe.length - (RowKit.intOf i).toNat)
      case atStart => exact ⟨0, by omega, rfl, by have := HF3.out; show FreshI _ _ _ _; simpa using this, by rw [← hU]; exact OvE.start U w3⟩
      case round =>
        obtain ⟨k, hk, rfl, hF, hK⟩ := hrel
        by_cases hlt : k < fe.length
        · have HT := Lib.hid (take_map_succ (fun x : FE => x.id) fe k hlt)
          obtain ⟨b, rfl⟩ := row_ptr HR.out (by omega)
          obtain ⟨c0, c1, c2, c3, c4⟩ := rowE_at (HR.out.keep hK.out.keep HDis.out) k hlt
          obtain ⟨y, hy⟩ := HV.out.left fe[k] (List.getElem_mem hlt)
          obtain ⟨C, n, c, hpv⟩ := hy.2.2.2.2.form
          rw [hpv] at c4
          have ll : (NL ++ (fe.map (·.id)).take k).length ≤ 200000 := by rw [List.length_append, List.length_take]; simp; omega
          have HT2 : Hid (NL ++ (fe.map (·.id)).take (k + 1) = (NL ++ (fe.map (·.id)).take k) ++ [fe[k].id]) := by show _ = _; rw [HT.out, List.append_assoc]
          obtain ⟨L, hL⟩ : ∃ L, L = NL ++ (fe.map (·.id)).take k := ⟨_, rfl⟩
          rw [← hL] at hF HT2 ll
          clear hL hy hpv HT
          have HF1 := Lib.hid ((hF.out.alloc (Obj.cells #[.int .i64 fe[k].id, .string fe[k].ty, .int .i64 fe[k].fr, .int .i64 fe[k].tt, .slice C n c] 115)).alloc (Obj.cells #[.int .i64 fe[k].id] 2))
          have HB1 := Lib.hid (Blk.new2 wr (Obj.cells #[.int .i64 fe[k].id, .string fe[k].ty, .int .i64 fe[k].fr, .int .i64 fe[k].tt, .slice C n c] 115) #[.int .i64 fe[k].id] 2)
          have lw2 := hF.out.1.size
          go_wp2_with (at_builtin; refine wpList_append_lies _ rfl _ _ 25 rfl 0 2 i0 _ 1 8 Tryz.underlying25 hi0 hz0 hz1 hz2 rfl (by omega) _ L.length (L.flatMap encI) rfl HF1.out.2.1 ⟨wr.heap.size + 1, 0, none⟩ 1 1 (encI fe[k].id) (by rfl) rfl (World.news_of_block HB1.out) (by simp [encI, Value.oneCell']) (by omega) (by unfold maxLen; omega) (by omega) (by omega) (wr.heap.size + 2) (by simp) ?_)
          intro gg cap1 w2 h1 h2 h3 h4
          have HN1 : Hid (FreshI w1 w2 (.slice (some ⟨gg, 0, none⟩) (L.length + 1) cap1) (NL ++ (fe.map (·.id)).take (k + 1))) := by
            show FreshI _ _ _ _
            rw [HT2.out]
            exact HF1.out.app h1 h2 h3 (by omega)
          have hKA := (hK.out.alloc (Obj.cells #[.int .i64 fe[k].id, .string fe[k].ty, .int .i64 fe[k].fr, .int .i64 fe[k].tt, .slice C n c] 115)).alloc (Obj.cells #[.int .i64 fe[k].id] 2)
          have HK2 : Hid (OvE U w3 w2 (.slice (some ⟨gg, 0, none⟩) (L.length + 1) cap1)) := hKA.app HU.out h2 h3 (by have := hK.out.keep.size; omega)
          clear h1 h2 h3 h4 c0 c1 c2 c3 c4 HT2 hKA
          go_wp2
          exact ⟨⟨k + 1, by omega, by go_num, HN1, HK2⟩, by simp [RowKit.intOf]; omega⟩
        · have ek : k = fe.length := by omega
          subst ek
          have HF : Hid (FreshI w1 wr u5 (idsAll g)) := by
            have := hF.out
            rw [show fe.length = (fe.map (·.id)).length from by simp, List.take_length, HI.out, HNL.out] at this
            exact this
          have lAll : (idsAll g).length ≤ 200000 := by unfold idsAll; simp; omega
          obtain ⟨AL, hAL⟩ : ∃ AL, AL = idsAll g := ⟨_, rfl⟩
          have HG : Hid (idsG g lim = (AL.filter fun x => !decide (x < lim)).mergeSort leI) := by rw [hAL]; rfl
          rw [← hAL] at HF lAll
          have HXw := HX1'.out.keep HF.out.1 (by simp)
          have hne : some w.heap.size ≠ u5.ownBlock := fun e => by have := HF.out.2.2 _ e.symm; omega
          have HD := Lib.hid (del_c wr u5 AL lim w.heap.size (by omega) (HXw.cell 0) hne HF.out.2.1)
          clear hF hAL HXw hne
          go_wp2_with fail
          refine HD.out.mono ?_
          rintro e w4 ⟨v4, rfl, hr4, ho4, hk4⟩
          obtain ⟨A4, cap4, hv4, hc4, hm4⟩ := hr4.slice
          subst hv4
          have l4 := List.length_filter_le (fun x => !decide (x < lim)) AL
          have HS := Lib.hid (sort_c w4 _ _ (by omega) hr4)
          have HO4 := Lib.hid ho4
          have HK4 := Lib.hid hk4
          unfold maxLen at hm4
          clear hr4 ho4 hk4 HD
          go_wp2_with fail
          refine HS.out.mono ?_
          rintro e w5 ⟨rfl, hr5, hk5⟩
          have HR5 := Lib.hid hr5
          have HK5 : Hid (Keep [] w w5) := by
            have k1 := HKw1.out.trans0 HF.out.1
            have k2 : Keep [] w w4 := k1.trans HK4.out (fun k hk => .inr (by have := HF.out.2.2 k (by simpa using hk); omega))
            exact k2.trans hk5 (fun k hk => .inr (by have := HF.out.2.2 k (by rw [← HO4.out]; simpa using hk); omega))
          clear hr5 hk5 HS
          go_wp2
          go_ret
          exact ⟨_, rfl, by rw [HG.out]; exact HR5.out, HK5.out⟩
end Go.Proofs.Hg
namespace Go.Proofs.Hg
open Go Go.RowKit Go.Proofs Go.Shelf
def getP (ps : List Prp) (s : ByteArray) : Option Val := (ps.find? fun p => p.name.toList == s.toList).map (·.v)
def valZ : Val := ⟨0, 0, ⟨#[]⟩⟩
theorem Blk.set3 {w : World} {p T : Nat} {a b c : Value} (h : Blk w p T #[a, b, c]) (x y z : Value) : Blk (((w.setCell ⟨p, 0, none⟩ x).setCell ⟨p, 1, none⟩ y).setCell ⟨p, 2, none⟩ z) p T #[x, y, z] := by
  have := ((h.set 0 x).set 1 y).set 2 z
  simpa using this
theorem Keep.set3 {w w1 : World} {p : Nat} (h : Keep [] w w1) (hp : w.heap.size ≤ p) (x y z : Value) : Keep [] w (((w1.setCell ⟨p, 0, none⟩ x).setCell ⟨p, 1, none⟩ y).setCell ⟨p, 2, none⟩ z) := ((h.setNew hp 0 x).setNew hp 1 y).setNew hp 2 z
theorem getP_none {ps : List Prp} {s : ByteArray} (h : ∀ j (hj : j < ps.length), (ps[j].name.toList == s.toList) = false) : getP ps s = none := by
  unfold getP
  rw [List.find?_eq_none.2 (fun x hx => by obtain ⟨j, hj, rfl⟩ := List.getElem_of_mem hx; rw [h j hj]; simp)]
  rfl
theorem getP_some {ps : List Prp} {s : ByteArray} {k : Nat} (hk : k < ps.length) (h : ∀ j (hj : j < ps.length), j < k → (ps[j].name.toList == s.toList) = false) (hq : (ps[k].name.toList == s.toList) = true) : getP ps s = some ps[k].v := by
  unfold getP
  have : ps.find? (fun p => p.name.toList == s.toList) = some ps[k] := by
    rw [List.find?_eq_some_iff_getElem]
    exact ⟨hq, k, hk, rfl, fun j hj => by rw [h j (by omega) hj]; rfl⟩
  rw [this]; rfl
set_option maxRecDepth 100000 in
set_option maxHeartbeats 1600000 in
theorem get_c (w : World) (pv : Value) (ps : List Prp) (s : ByteArray) (hl : ps.length ≤ 100000) (h : PsAt w pv ps) :
    Calls Tryz.prog 72 #[pv, .string s] w fun e w' => e = .returned (.tuple #[valV ((getP ps s).getD valZ), .bool (getP ps s).isSome]) ∧ Keep [] w w' := by
  obtain ⟨A, cap, hv, hc, hm⟩ := Row.slice (enc := encP) (sz := 4) h
  unfold maxLen at hm
  subst hv
  have HH := Lib.hid h
  have HK := Lib.hid (Keep.alloc0 w (Obj.cells #[.int .i64 0, .int .i64 0, .string ⟨#[]⟩] 48))
  have HB := Lib.hid (Blk.new w #[.int .i64 0, .int .i64 0, .string ⟨#[]⟩] 48)
  have hA : ∀ k, k < ps.length → ∃ g, A = some ⟨g, 0, none⟩ := fun k hk => row_ptr (enc := encP) (sz := 4) h (by omega)
  have HA := Lib.hid hA
  clear h hA
  go_enter Tryz.func72, Tryz.ntmps72
  go_wp2_with fail
  generalize w.alloc _ = W at *
  go_loopw [10] (fun i wr => ∃ k : Nat, k ≤ ps.length ∧ i = .int .i64 k ∧ Hid (Keep [] w wr) ∧ Hid (Blk wr w.heap.size 48 #[.int .i64 0, .int .i64 0, .string ⟨#[]⟩]) ∧ Hid (∀ j (hj : j < ps.length), j < k → (ps[j].name.toList == s.toList) = false)) (fun i _ => ps.length - (RowKit.intOf i).toNat)
  case atStart => exact ⟨0, by omega, rfl, HK.out, HB.out, fun j _ hj => by omega⟩
  case round =>
    obtain ⟨k, hk, rfl, hK, hB, hr⟩ := hrel
    have lB := hB.out.lt
    have b0 := hB.out.cell 0
    have b1 := hB.out.cell 1
    have b2 := hB.out.cell 2
    have f0 := hB.out.free 0
    have f1 := hB.out.free 1
    have f2 := hB.out.free 2
    simp only [List.getElem?_toArray, List.getElem?_cons_succ, List.getElem?_cons_zero] at b0 b1 b2
    by_cases hlt : k < ps.length
    · obtain ⟨g, rfl⟩ := HA.out k hlt
      obtain ⟨c0, c1, c2, c3⟩ := rowP_at (HH.out.keep hK.out) k hlt
      cases hq : (ps[k].name.toList == s.toList) with
      | true =>
        have E := Lib.hid (getP_some hlt hr.out hq)
        have HB2 := Lib.hid ((hB.out.set3 (.int .i64 ps[k].v.k) (.int .i64 ps[k].v.n) (.string ps[k].v.s)).alloc (Obj.cells #[.string ps[k].name, .int .i64 ps[k].v.k, .int .i64 ps[k].v.n, .string ps[k].v.s] 135))
        have HK2 := Lib.hid ((hK.out.set3 (Nat.le_refl _) (.int .i64 ps[k].v.k) (.int .i64 ps[k].v.n) (.string ps[k].v.s)).alloc (Obj.cells #[.string ps[k].name, .int .i64 ps[k].v.k, .int .i64 ps[k].v.n, .string ps[k].v.s] 135))
        go_wp2
        exact bodyPost_ret (results_ct rfl _ _ w.heap.size _ _ _ rfl HB2.out Tryz.underlying48 rfl (by kernel_rfl)) rfl ⟨by rw [E.out]; rfl, HK2.out⟩
      | false =>
        have HR : Hid (∀ j (hj : j < ps.length), j < k + 1 → (ps[j].name.toList == s.toList) = false) := fun j hj hjk => by
          by_cases e : j = k
          · subst e; exact hq
          · exact hr.out j hj (by omega)
        have HB2 := Lib.hid (hB.out.alloc (Obj.cells #[.string ps[k].name, .int .i64 ps[k].v.k, .int .i64 ps[k].v.n, .string ps[k].v.s] 135))
        have HK2 := Lib.hid (hK.out.alloc (Obj.cells #[.string ps[k].name, .int .i64 ps[k].v.k, .int .i64 ps[k].v.n, .string ps[k].v.s] 135))
        clear b0 b1 b2 f0 f1 f2
        go_wp2
        exact ⟨⟨k + 1, by omega, by go_num, HK2, HB2, HR⟩, by simp [RowKit.intOf]; omega⟩
    · have E := Lib.hid (getP_none (fun j hj => hr.out j hj (by omega)))
      have HB2 := Lib.hid (hB.out.set3 (.int .i64 0) (.int .i64 0) (.string ⟨#[]⟩))
      have HK2 := Lib.hid (hK.out.set3 (Nat.le_refl _) (.int .i64 0) (.int .i64 0) (.string ⟨#[]⟩))
      go_wp2
      exact bodyPost_ret (results_ct rfl _ _ w.heap.size _ _ _ rfl HB2.out Tryz.underlying48 rfl (by kernel_rfl)) rfl ⟨by rw [E.out]; rfl, HK2.out⟩
end Go.Proofs.Hg
namespace Go.Proofs.Hg
open Go Go.RowKit Go.Proofs Go.Shelf
def eqS (a b : ByteArray) : Bool := a.toList == b.toList
section
variable {α β : Type}
/-- What a predicate says of the k-th. -/
theorem any_of_hit {N : List β} {q : β → Bool} {k : Nat} (hk : k < N.length) (h : q N[k] = true) : N.any q = true := by rw [List.any_eq_true]; exact ⟨_, List.getElem_mem hk, h⟩
theorem any_of_none {N : List β} {q : β → Bool} (h : ∀ j (hj : j < N.length), q N[j] = false) : N.any q = false := by
  rw [List.any_eq_false]; intro x hx
  obtain ⟨j, hj, rfl⟩ := List.getElem_of_mem hx
  rw [h j hj]; simp
end
set_option maxRecDepth 100000 in
set_option maxHeartbeats 1600000 in
theorem idxN2_c (w : World) (nv : Value) (fn : List FN) (N : List Node) (f : Nat) (caps : Array Value) (q : Node → Bool) (eg : Enters f) (hlen : fn.length = N.length)
    (hp : ∀ W k (hk : k < fn.length) (hk' : k < N.length), Keep [] w W → Calls Tryz.prog f (#[fnV fn[k]] ++ caps) W fun e w' => e = .returned (.bool (q N[k])) ∧ Keep [] w w') (h : Row w 113 3 encN nv fn) :
    Calls Tryz.prog 102 #[nv, .func (.func f) #[] caps] w fun e w' => ∃ i : Int, e = .returned (.int .i64 i) ∧ decide (0 ≤ i) = N.any q ∧ Keep [] w w' := by
  obtain ⟨A, cap, hv, hc, hm⟩ := h.slice
  unfold maxLen at hm
  subst hv
  have eg' : ∀ args w, Sem.run Tryz.prog (callFunc f args) w = .ok (.enter f args) w := eg
  have HLN := Lib.hid hlen
  have HPP := Lib.hid hp
  clear hlen hp
  go_enter Tryz.func102, Tryz.ntmps102
  go_wp2
  go_loopw [8] (fun i wr => ∃ k : Nat, k ≤ fn.length ∧ i = .int .i64 k ∧ Hid (Keep [] w wr) ∧ Hid (∀ j (hj : j < N.length), j < k → q N[j] = false)) (fun i _ => fn.length - (RowKit.intOf i).toNat)
  case atStart => exact ⟨0, by omega, rfl, Keep.refl _ _, fun j _ hj => by omega⟩
  case round =>
    obtain ⟨k, hk, rfl, hK, hr⟩ := hrel
    by_cases hlt : k < fn.length
    · have hlt' : k < N.length := by have := HLN.out; omega
      obtain ⟨g, rfl⟩ := row_ptr h (by omega)
      have hrr := h.keep hK.out (fun _ _ => by simp)
      obtain ⟨c0, c1, c2⟩ := rowN_at hrr k hlt
      go_wp2_with fail
      refine (HPP.out _ k hlt hlt' hK.out).mono ?_
      rintro e w' ⟨rfl, hk2⟩
      clear c0 c1 c2
      cases hq : q N[k] with
      | true =>
        have E := Lib.hid (any_of_hit hlt' hq)
        clear hq
        go_wp2
        go_ret
        exact ⟨k, rfl, by rw [E.out]; simp, hk2⟩
      | false =>
        have HR : Hid (∀ j (hj : j < N.length), j < k + 1 → q N[j] = false) := fun j hj hjk => by
          by_cases e : j = k
          · subst e; exact hq
          · exact hr.out j hj (by omega)
        clear hq
        go_wp2
        exact ⟨⟨k + 1, by omega, by go_num, hk2, HR⟩, by simp [RowKit.intOf]; omega⟩
    · have E := Lib.hid (any_of_none (N := N) (q := q) (fun j hj => hr.out j hj (by have := HLN.out; omega)))
      go_wp2
      go_ret
      exact ⟨-1, rfl, by rw [E.out]; simp, hK.out⟩
set_option maxRecDepth 100000 in
set_option maxHeartbeats 1600000 in
theorem contN2_c (w : World) (nv : Value) (fn : List FN) (N : List Node) (f : Nat) (caps : Array Value) (q : Node → Bool) (eg : Enters f) (hlen : fn.length = N.length)
    (hp : ∀ W k (hk : k < fn.length) (hk' : k < N.length), Keep [] w W → Calls Tryz.prog f (#[fnV fn[k]] ++ caps) W fun e w' => e = .returned (.bool (q N[k])) ∧ Keep [] w w') (h : Row w 113 3 encN nv fn) :
    Calls Tryz.prog 70 #[nv, .func (.func f) #[] caps] w fun e w' => e = .returned (.bool (N.any q)) ∧ Keep [] w w' := by
  have hc := idxN2_c w nv fn N f caps q eg hlen hp h
  clear h hp eg hlen
  go_enter Tryz.func70, Tryz.ntmps70
  go_wp2_with fail
  refine hc.mono ?_
  rintro e w' ⟨i, rfl, hi, hk⟩
  have HI := Lib.hid hi
  clear hi hc
  go_wp2
  go_ret
  exact ⟨ret_b HI.out, hk⟩
theorem keeps1_c (s t : ByteArray) (b : Nat) (w : World) (hc : w.cell? ⟨b, 2, none⟩ = some (.string t)) :
    Calls Tryz.prog 66 #[.string s, .pointer (some ⟨b, 0, none⟩)] w fun e w' => e = .returned (.bool (eqS s t)) ∧ w' = w := by
  go_enter Tryz.func66, Tryz.ntmps66
  go_wp2
  go_ret
  exact ⟨rfl, rfl⟩
def lacks (r : Rule) (n : Node) : Bool := eqS n.ty r.ty && !(getP n.ps r.nm).isSome
set_option maxRecDepth 100000 in
set_option maxHeartbeats 1600000 in
theorem keeps31_c (w : World) (x : FN) (n : Node) (r : Rule) (br bo : Nat) (hl : n.ps.length ≤ 100000) (hx : NodeV w x n) (hr : Blk w br 23 (encR r).toArray)
    (ho : Blk w bo 84 #[.func (.func 66) #[] #[.pointer (some ⟨br, 0, none⟩)]]) :
    Calls Tryz.prog 71 (#[fnV x] ++ #[.pointer (some ⟨br, 0, none⟩), .pointer (some ⟨bo, 0, none⟩)]) w fun e w' => e = .returned (.bool (lacks r n)) ∧ Keep [] w w' := by
  obtain ⟨id, ty, pv⟩ := x
  obtain ⟨h1, h2, h3⟩ := hx
  simp only at h1 h2 h3
  obtain ⟨A, k, c, hpv⟩ := h3.form
  subst hpv
  subst h1 h2
  have K0 := Keep.alloc0 w (Obj.cells #[.int .i64 n.id, .string n.ty, .slice A k c] 113)
  have hr1 := hr.keep K0 (by simp)
  have ho1 := ho.keep K0 (by simp)
  have HX := Blk.new w #[.int .i64 n.id, .string n.ty, .slice A k c] 113
  have HP := Lib.hid (h3.keep K0)
  have HK := Lib.hid K0
  have HRl := Lib.hid hr1
  have HO := Lib.hid ho1
  have HXX := Lib.hid HX
  unfold encR at *
  have lr0 := hr.lt
  have d3 := hr.cell 3
  simp only [List.getElem?_toArray, List.getElem?_cons_succ, List.getElem?_cons_zero] at d3
  clear hr ho h3 K0 hr1 ho1 HX
  show Calls Tryz.prog 71 #[.agg #[.int .i64 n.id, .string n.ty, .slice A k c], .pointer (some ⟨br, 0, none⟩), .pointer (some ⟨bo, 0, none⟩)] w _
  go_enter Tryz.func71, Tryz.ntmps71
  go_wp2_with fail
  generalize w.alloc _ = W at *
  refine (get_c W _ n.ps r.nm hl HP.out).mono ?_
  rintro e w1 ⟨rfl, hk1⟩
  have o0 := (HO.out.keep hk1 (by simp)).cell 0
  have lo := (HO.out.keep hk1 (by simp)).lt
  have x1 := (HXX.out.keep hk1 (by simp)).cell 1
  have lx := (HXX.out.keep hk1 (by simp)).lt
  have r2 := (HRl.out.keep hk1 (by simp)).cell 2
  have lr := (HRl.out.keep hk1 (by simp)).lt
  simp only [List.getElem?_toArray, List.getElem?_cons_succ, List.getElem?_cons_zero] at o0 x1 r2
  have HK1 := Lib.hid (HK.out.trans0 hk1)
  clear hk1 d3
  have EL := Lib.hid (show lacks r n = (eqS n.ty r.ty && !(getP n.ps r.nm).isSome) from rfl)
  generalize getP n.ps r.nm = G at *
  have eg' : ∀ args w, Sem.run Tryz.prog (callFunc 66 args) w = .ok (.enter 66 args) w := enters_of Tryz.func66 (by kernel_rfl) rfl
  go_wp2_with fail
  refine (keeps1_c n.ty r.ty br _ ((World.cell?_alloc_lt w1 _ ⟨br, 2, none⟩ lr).trans r2)).mono ?_
  rintro e w2 ⟨rfl, rfl⟩
  have HK2 : Hid (∀ o, Keep [] w (w1.alloc o)) := fun o => HK1.out.alloc o
  cases hq : eqS n.ty r.ty
  all_goals
    cases G
    all_goals
      have E2 := Lib.hid (show lacks r n = _ from by rw [EL.out, hq])
      clear hq
      go_wp2
      go_ret
      exact ⟨ret_b (by rw [E2.out]; rfl), HK2.out _⟩
end Go.Proofs.Hg
namespace Go.Proofs.Hg
open Go Go.RowKit Go.Proofs Go.Shelf
abbrev ofV (br : Nat) : Value := .func (.func 66) #[] #[.pointer (some ⟨br, 0, none⟩)]
set_option maxRecDepth 100000 in
set_option maxHeartbeats 1600000 in
theorem keeps3_c (w : World) (nv : Value) (fn : List FN) (N : List Node) (r : Rule) (bn br bo : Nat) (hlN : fn.length ≤ 100000) (hps : ∀ n ∈ N, n.ps.length ≤ 100000) (hn : Row w 113 3 encN nv fn) (hv : All2 (NodeV w) fn N)
    (hb : Blk w bn 39 #[nv]) (hr : Blk w br 23 (encR r).toArray) (ho : Blk w bo 84 #[ofV br]) :
    Calls Tryz.prog 69 #[.pointer (some ⟨bn, 0, none⟩), .pointer (some ⟨br, 0, none⟩), .pointer (some ⟨bo, 0, none⟩)] w fun e w' => e = .returned (.bool (!(N.any (lacks r)))) ∧ Keep [] w w' := by
  have HC := Lib.hid (contN2_c w nv fn N 71 #[.pointer (some ⟨br, 0, none⟩), .pointer (some ⟨bo, 0, none⟩)] (lacks r) (enters_of Tryz.func71 (by kernel_rfl) rfl) hv.length
    (fun W k hk hk' hK => (keeps31_c W fn[k] N[k] r br bo (hps _ (List.getElem_mem hk')) (by obtain ⟨a, b, c⟩ := hv.get k hk hk'; exact ⟨a, b, c.keep hK⟩) (hr.keep hK (by simp)) (ho.keep hK (by simp))).mono (fun e w' ⟨h1, h2⟩ => ⟨h1, hK.trans0 h2⟩)) hn)
  have c0 := hb.cell 0
  simp only [List.getElem?_toArray, List.getElem?_cons_zero] at c0
  obtain ⟨A, cap, hvv, _, _⟩ := hn.slice
  subst hvv
  clear hn hv hb hr ho
  go_enter Tryz.func69, Tryz.ntmps69
  go_wp2_with fail
  refine HC.out.mono ?_
  rintro e w1 ⟨rfl, hk⟩
  go_wp2
  go_ret
  exact ⟨rfl, hk⟩
set_option maxRecDepth 100000 in
set_option maxHeartbeats 1600000 in
theorem keepsF_c (w : World) (A B : Option Addr) (n c m d : Nat) (r : Rule) (hf : formR r = false) : Calls Tryz.prog 45 #[.slice A n c, .slice B m d, ruleV r] w fun e w' => e = .returned (.bool false) ∧ Keep [] w w' := by
  have HK := Lib.hid (((Keep.alloc0 w (Obj.cells #[.slice A n c] 39)).alloc (Obj.cells #[.slice B m d] 40)).alloc (Obj.cells (encR r).toArray 23))
  have HF := Lib.hid hf
  unfold encR at *
  clear hf
  go_enter Tryz.func45, Tryz.ntmps45
  go_wp2_with fail
  refine (form_c r _).mono ?_
  rintro e w1 ⟨rfl, hk1⟩
  rw [HF.out]
  have hk2 := HK.out.trans0 hk1
  clear hk1
  go_wp2
  go_ret
  exact ⟨rfl, hk2⟩
set_option maxRecDepth 100000 in
set_option maxHeartbeats 3200000 in
theorem keepsX_c (w : World) (nv : Value) (B : Option Addr) (m d : Nat) (fn : List FN) (N : List Node) (r : Rule) (hf : formR r = true) (hk2 : r.k = 2) (hlN : fn.length ≤ 100000) (hps : ∀ n ∈ N, n.ps.length ≤ 100000) (hn : Row w 113 3 encN nv fn) (hv : All2 (NodeV w) fn N) :
    Calls Tryz.prog 45 #[nv, .slice B m d, ruleV r] w fun e w' => e = .returned (.bool (!(N.any (lacks r)))) ∧ Keep [] w w' := by
  obtain ⟨A, cap, hvv, _, _⟩ := hn.slice
  subst hvv
  have K0 := ((Keep.alloc0 w (Obj.cells #[.slice A fn.length cap] 39)).alloc (Obj.cells #[.slice B m d] 40)).alloc (Obj.cells (encR r).toArray 23)
  have B0 := ((Blk.new w #[.slice A fn.length cap] 39).alloc (Obj.cells #[.slice B m d] 40)).alloc (Obj.cells (encR r).toArray 23)
  have B2 := Blk.new3 w (Obj.cells #[.slice A fn.length cap] 39) (Obj.cells #[.slice B m d] 40) (encR r).toArray 23
  have HK := Lib.hid K0
  have HB0 := Lib.hid B0
  have HB2 := Lib.hid B2
  have HF := Lib.hid hf
  have HKN := Lib.hid hk2
  have HR := Lib.hid (And.intro hn hv)
  have HPS := Lib.hid hps
  unfold encR at *
  have hmm := @run_makeMap Tryz.prog
  clear hf hk2 K0 B0 B2 hn hv hps
  go_enter Tryz.func45, Tryz.ntmps45
  go_wp2_with fail
  generalize ((w.alloc _).alloc _).alloc _ = W at *
  refine (form_c r W).mono ?_
  rintro e w1 ⟨rfl, hk1⟩
  rw [HF.out]
  have HK1 := Lib.hid (HK.out.trans0 hk1)
  have HX0 := Lib.hid (HB0.out.keep hk1 (by simp))
  have HX2 := Lib.hid (HB2.out.keep hk1 (by simp))
  have r1 := HX2.out.cell 1
  have lr := HX2.out.lt
  simp only [List.getElem?_toArray, List.getElem?_cons_succ, List.getElem?_cons_zero] at r1
  rw [HKN.out] at r1
  clear hk1 HK HB0 HB2
  have HOF := Lib.hid (Blk.new w1 #[ofV (w.heap.size + 2)] 84)
  have HKO := Lib.hid (HK1.out.alloc (Obj.cells #[ofV (w.heap.size + 2)] 84))
  have HQ : Hid (∀ W', Keep [] (w1.alloc (Obj.cells #[ofV (w.heap.size + 2)] 84)) W' → W'.cell? ⟨w.heap.size + 2, 1, none⟩ = some (.int .i64 2)) := fun W' hk => (hk.cell (by simp; omega) (by simp)).trans ((World.cell?_alloc_lt w1 _ ⟨w.heap.size + 2, 1, none⟩ lr).trans r1)
  go_wp2_with (first | (refine wpList_insert_new rfl _ _ _ _ rfl _ _ _ Tryz.underlying131 Tryz.underlying3 _ _ _ _ _ rfl rfl rfl rfl (by first | assumption | exact mapAt_new _ _) rfl ?_; intro w' hS; have hA := hS.at_; have hKK := hS.keep [] (w1.alloc (Obj.cells #[ofV (w.heap.size + 2)] 84)) (by first | assumption | exact Keep.alloc0 _ _) (.inl (by simp)); have q1 := HQ.out w' hKK; clear hS) | (refine wpList_lookup_found rfl _ _ _ _ rfl _ _ _ Tryz.underlying131 Tryz.underlying3 _ _ _ _ _ _ rfl rfl rfl (by assumption) rfl ?_))
  have HKK := Lib.hid (HKO.out.trans0 hKK)
  have hn := HR.out.1.keep HKK.out (fun _ _ => by simp)
  have hv := HR.out.2.imp (fun _ _ h => (⟨h.1, h.2.1, h.2.2.keep HKK.out⟩ : NodeV _ _ _))
  have h0 := (HX0.out.alloc (Obj.cells #[ofV (w.heap.size + 2)] 84)).keep hKK (by simp)
  have h2 := (HX2.out.alloc (Obj.cells #[ofV (w.heap.size + 2)] 84)).keep hKK (by simp)
  have ho := HOF.out.keep hKK (by simp)
  refine (keeps3_c _ _ fn N r w.heap.size (w.heap.size + 2) w1.heap.size hlN HPS.out hn hv h0 h2 ho).mono ?_
  rintro e w3 ⟨rfl, hk3⟩
  have HK4 := Lib.hid (HKK.out.trans0 hk3)
  clear hn hv h0 h2 ho hKK hk3 hmm
  go_wp2
  go_ret
  exact ⟨rfl, HK4.out⟩
end Go.Proofs.Hg
namespace Go.Proofs.Hg
open Go Go.RowKit Go.Proofs Go.Shelf Go.ChangeMaps Go.MapKept Go.WideShapes
theorem next0_c (w : World) (p : Nat) (g : Gr) (F : List Nat) (h : GA 106 w p g F) : Calls Tryz.prog 23 #[.pointer (some ⟨p, 0, none⟩)] w fun e w' => e = .returned (.int .i64 g.next) ∧ w' = w := by
  obtain ⟨nv, ev, fn, fe, h, rfl⟩ := h
  have c2 := h.blk.cell 2
  simp only [List.getElem?_toArray, List.getElem?_cons_succ, List.getElem?_cons_zero] at c2
  clear h
  go_enter Tryz.func23, Tryz.ntmps23
  go_wp2
  go_ret
  exact ⟨rfl, rfl⟩
theorem JobAt.len {w : World} {p : Nat} {r : Rule} {chunk at_ : Int} {T : List Int} {ch mp : Nat} (h : JobAt w p r chunk at_ T ch mp) (ty : TypeId) : Sem.run Tryz.prog (Builtin.len_ #[86] ty #[.map (some mp)]) w = .ok (.int .i64 T.length) w := by
  obtain ⟨D, ho, hi⟩ := h.map
  have := ho.len Tryz.underlying86 ty
  rw [hi.size] at this
  exact this
theorem JobAt.drewN {w : World} {p : Nat} {r : Rule} {chunk at_ : Int} {T : List Int} {ch mp : Nat} (h : JobAt w p r chunk at_ T ch mp) (n : Nat) : JobAt (w.drewN n) p r chunk at_ T ch mp := h.keep ((Keep.refl [] w).drewN n) (by simp) (by simp) (by simp)
def endB (at_ : Int) (T : List Int) (g : Gr) : Bool := decide (at_ = g.next) && decide (T.length = 0)
set_option maxRecDepth 100000 in
set_option maxHeartbeats 1600000 in
theorem ended_c (w : World) (p : Nat) (r : Rule) (chunk at_ : Int) (T : List Int) (ch mp pg : Nat) (g : Gr) (F : List Nat) (hJ : JobAt w p r chunk at_ T ch mp) (hG : GA 106 w pg g F) :
    Calls Tryz.prog 43 #[.pointer (some ⟨p, 0, none⟩), .pointer (some ⟨pg, 0, none⟩)] w fun e w' => e = .returned (.bool (endB at_ T g)) ∧ Keep [] w w' := by
  have c9 := hJ.blk.cell 9
  have c11 := hJ.blk.cell 11
  simp only [jobC, List.getElem?_toArray, List.getElem?_cons_succ, List.getElem?_cons_zero] at c9 c11
  have hlen := fun n ty => (hJ.drewN n).len ty
  have HN := Lib.hid (fun n => next0_c (w.drewN n) pg g F (hG.keep ((Keep.refl [] w).drewN n) (fun _ _ => by simp)))
  clear hJ hG
  by_cases h1 : at_ = g.next
  · have E := Lib.hid (show endB at_ T g = decide (T.length = 0) from by unfold endB; rw [decide_eq_true h1, Bool.true_and])
    have h1' : (at_ == g.next) = true := by simpa using h1
    clear h1
    go_enter Tryz.func43, Tryz.ntmps43
    go_wp2_with fail
    go_quiet ((go_at_call 23; exact Calls.quiet_of_same (HN.out _)))
    go_wp2
    go_ret
    exact ⟨ret_b (by rw [E.out, Bool.eq_iff_iff]; simp), (Keep.refl _ _).drewN _⟩
  · have E := Lib.hid (show endB at_ T g = false from by unfold endB; rw [decide_eq_false h1, Bool.false_and])
    have h1' : (at_ == g.next) = false := by simpa using h1
    clear h1
    go_enter Tryz.func43, Tryz.ntmps43
    go_wp2_with fail
    go_quiet ((go_at_call 23; exact Calls.quiet_of_same (HN.out _)))
    go_wp2
    go_ret
    exact ⟨ret_b (by rw [E.out]), (Keep.refl _ _).drewN _⟩
theorem jat_c (w : World) (p : Nat) (r : Rule) (chunk at_ : Int) (T : List Int) (ch mp : Nat) (hJ : JobAt w p r chunk at_ T ch mp) :
    Calls Tryz.prog 19 #[.pointer (some ⟨p, 0, none⟩)] w fun e w' => e = .returned (.int .i64 at_) ∧ w' = w := by
  have c9 := hJ.blk.cell 9
  simp only [jobC, List.getElem?_toArray, List.getElem?_cons_succ, List.getElem?_cons_zero] at c9
  clear hJ
  go_enter Tryz.func19, Tryz.ntmps19
  go_wp2
  go_ret
  exact ⟨rfl, rfl⟩
theorem jat_nil_c (w : World) : Calls Tryz.prog 19 #[.pointer none] w fun e w' => e = .returned (.int .i64 0) ∧ w' = w := by
  go_enter Tryz.func19, Tryz.ntmps19
  go_wp2
  go_ret
  exact ⟨rfl, rfl⟩
theorem jleft_c (w : World) (p : Nat) (r : Rule) (chunk at_ : Int) (T : List Int) (ch mp : Nat) (hJ : JobAt w p r chunk at_ T ch mp) :
    Calls Tryz.prog 22 #[.pointer (some ⟨p, 0, none⟩)] w fun e w' => e = .returned (.int .i64 T.length) ∧ w' = w := by
  have c11 := hJ.blk.cell 11
  simp only [jobC, List.getElem?_toArray, List.getElem?_cons_succ, List.getElem?_cons_zero] at c11
  have hlen := fun ty => hJ.len ty
  clear hJ
  go_enter Tryz.func22, Tryz.ntmps22
  go_wp2
  go_ret
  exact ⟨rfl, rfl⟩
theorem jleft_nil_c (w : World) : Calls Tryz.prog 22 #[.pointer none] w fun e w' => e = .returned (.int .i64 0) ∧ w' = w := by
  go_enter Tryz.func22, Tryz.ntmps22
  go_wp2
  go_ret
  exact ⟨rfl, rfl⟩
theorem step_nil_c (w : World) (v : Option Addr) : Calls Tryz.prog 14 #[.pointer none, .pointer v] w fun e w' => e = .returned (.bool true) ∧ w' = w := by
  go_enter Tryz.func14, Tryz.ntmps14
  go_wp2
  go_ret
  exact ⟨rfl, rfl⟩
theorem verdict_nil_c (w : World) (v : Option Addr) : Calls Tryz.prog 16 #[.pointer none, .pointer v] w fun e w' => e = .returned (.tuple #[.bool false, .int .i64 11]) ∧ w' = w := by
  go_enter Tryz.func16, Tryz.ntmps16
  go_wp2
  go_ret2
  exact ⟨rfl, rfl⟩
def ruleZ : Rule := ⟨0, 0, ⟨#[]⟩, ⟨#[]⟩, ⟨#[]⟩, ⟨#[]⟩, 0, 0⟩
theorem jrule_nil_c (w : World) : Calls Tryz.prog 34 #[.pointer none] w fun e w' => e = .returned (ruleV ruleZ) ∧ Keep [] w w' := by
  have HB := Lib.hid (Blk.new w #[.int .i64 0, .int .i64 0, .string ⟨#[]⟩, .string ⟨#[]⟩, .string ⟨#[]⟩, .string ⟨#[]⟩, .int .i64 0, .int .i64 0] 23)
  go_enter Tryz.func34, Tryz.ntmps34
  go_wp2
  refine bodyPost_ret (results_c rfl _ _ w.heap.size _ _ _ rfl HB.out Tryz.underlying23 rfl (by kernel_rfl)) rfl ⟨rfl, Keep.alloc0 _ _⟩
theorem jrule_c (w : World) (p : Nat) (r : Rule) (chunk at_ : Int) (T : List Int) (ch mp : Nat) (hJ : JobAt w p r chunk at_ T ch mp) :
    Calls Tryz.prog 34 #[.pointer (some ⟨p, 0, none⟩)] w fun e w' => e = .returned (ruleV r) ∧ Keep [] w w' := by
  have c0 := hJ.blk.cell 0
  have c1 := hJ.blk.cell 1
  have c2 := hJ.blk.cell 2
  have c3 := hJ.blk.cell 3
  have c4 := hJ.blk.cell 4
  have c5 := hJ.blk.cell 5
  have c6 := hJ.blk.cell 6
  have c7 := hJ.blk.cell 7
  have lp := hJ.blk.lt
  simp only [jobC, List.getElem?_toArray, List.getElem?_cons_succ, List.getElem?_cons_zero] at c0 c1 c2 c3 c4 c5 c6 c7
  have HB := Lib.hid (Blk.new w (encR r).toArray 23)
  unfold encR at HB
  clear hJ
  go_enter Tryz.func34, Tryz.ntmps34
  go_wp2
  refine bodyPost_ret (results_c rfl _ _ w.heap.size _ _ _ rfl HB.out Tryz.underlying23 rfl (by kernel_rfl)) rfl ⟨rfl, Keep.alloc0 _ _⟩
end Go.Proofs.Hg
namespace Go.Proofs.Hg
open Go Go.RowKit Go.Proofs Go.Shelf Go.ChangeMaps Go.MapKept Go.WideShapes
/-- Where a job is behind a step. -/
def stepAt (g : Gr) (c : Nat) (at_ : Int) (T : List Int) : Int :=
  if T.length < c then (if c - T.length < (idsG g at_).length then ((idsG g at_).getD (c - T.length - 1) 0) + 1 else g.next) else at_
def stepT (c : Nat) (T : List Int) : List Int := T.drop c
theorem MapIs.wf {w : World} {b n : Nat} {R : Value → Option (DataW Unit × List MemPlace)} {D : DataW Unit} {T : List Int} (h : MapIs D T) (ho : w.ownsMap Tryz.prog 2 R b n D) : ∀ x ∈ T, (Lit.int .i64 x).wf = true := fun x hx => by
  have hh := h.has x
  rw [decide_eq_true hx] at hh
  obtain ⟨es, hD, hko⟩ := ho.keysOf
  rw [hD, Maps.has_eq, List.any_eq_true] at hh
  obtain ⟨p, hp, hs⟩ := hh
  obtain ⟨v, hv⟩ := hko p hp
  obtain ⟨y, _, hy, hl⟩ := Maps.keyOf_i64 Tryz.underlying2 hv
  rw [hy] at hs
  have : y = x := by simpa [Lit.sameKey, ikey] using hs
  rw [← this]; exact hl
set_option maxRecDepth 100000 in
set_option maxHeartbeats 3200000 in
theorem step_c (w : World) (p : Nat) (r : Rule) (c : Nat) (at_ : Int) (T : List Int) (ch mp pg : Nat) (g : Gr) (F : List Nat) (hc1 : 1 ≤ c) (hc2 : c ≤ 1024) (hT : T.length ≤ 4096) (hJ : JobAt w p r c at_ T ch mp) (hG : GA 106 w pg g F)
    (hF : ∀ k, k ∈ F → k ≠ p ∧ k ≠ ch ∧ k ≠ mp) (hlN : g.N.length ≤ 100000) (hlE : g.E.length ≤ 100000) (hps : ∀ n ∈ g.N, n.ps.length ≤ 100000) (hpe : ∀ n ∈ g.E, n.ps.length ≤ 100000) (hb : ∀ x ∈ idsAll g, 0 ≤ x ∧ x < 4611686018427387904) :
    Calls Tryz.prog 14 #[.pointer (some ⟨p, 0, none⟩), .pointer (some ⟨pg, 0, none⟩)] w fun e w' => e = .returned (.bool (endB (stepAt g c at_ T) (T.drop c) g)) ∧ JobAt w' p r c (stepAt g c at_ T) (T.drop c) ch mp ∧ Keep [p, ch, mp] w w' := by
  have c11 := hJ.blk.cell 11
  simp only [jobC, List.getElem?_toArray, List.getElem?_cons_succ, List.getElem?_cons_zero] at c11
  obtain ⟨D, ho, hi⟩ := hJ.map
  have HJ := Lib.hid hJ
  have HG := Lib.hid hG
  have HFF := Lib.hid hF
  have HB := Lib.hid hb
  have HSo := Lib.hid (sorted_c w mp T.length D T _ ho hi (by omega))
  have HWF := Lib.hid (hi.wf ho)
  have HPS := Lib.hid hps
  have HPE := Lib.hid hpe
  have lmp := ho.lt
  have lp := hJ.blk.lt
  clear ho hi hJ hG hF hb hps hpe
  go_enter Tryz.func14, Tryz.ntmps14
  go_wp2_with fail
  refine (keys_c (some mp) w).mono ?_
  rintro e w0 ⟨rfl, rfl⟩
  go_wp2_with fail
  refine HSo.out.mono ?_
  rintro e w1 ⟨v, rfl, hr, hk1, hnew⟩
  obtain ⟨A, cap, hv, hcap, hm⟩ := hr.slice
  subst hv
  unfold maxLen at hm
  have HR := Lib.hid hr
  have HK1 := Lib.hid hk1
  have HJ1 := Lib.hid (HJ.out.keep hk1 (by simp) (by simp) (by simp))
  have hnm : (Value.slice A T.length cap).ownBlock ≠ some mp := fun e => by have := hnew mp e; omega
  have HNM := Lib.hid hnm
  clear hr hk1 hnm HSo HJ c11 hnew
  have c8 := HJ1.out.blk.cell 8
  simp only [jobC, List.getElem?_toArray, List.getElem?_cons_succ, List.getElem?_cons_zero] at c8
  obtain ⟨m, e1, hmT, hmc, hdrop⟩ : ∃ m : Nat, min (T.length : Int) (c : Int) = (m : Int) ∧ m ≤ T.length ∧ m ≤ c ∧ T.drop m = T.drop c := by
    by_cases h : T.length ≤ c
    · exact ⟨T.length, by omega, by omega, h, by rw [List.drop_of_length_le (Nat.le_refl _), List.drop_of_length_le h]⟩
    · exact ⟨c, by omega, by omega, by omega, rfl⟩
  have hlm : (m < c) = (T.length < c) := by
    by_cases h : T.length ≤ c <;> simp <;> omega
  have HDR := Lib.hid hdrop
  have HLM := Lib.hid hlm
  have e3 : max (m : Int) 0 = (m : Int) := by omega
  clear hdrop hlm
  go_wp2_with fail
  have E1 := Lib.hid e1
  clear e1 e3 c8
  go_loopw [33] (fun i wr => ∃ k : Nat, k ≤ m ∧ i = .int .i64 k ∧ Hid (JobAt wr p r c at_ (T.drop k) ch mp) ∧ Hid (Keep [mp] w1 wr)) (fun i _ => m - (RowKit.intOf i).toNat)
  case atStart => exact ⟨0, by omega, rfl, HJ1.out, Keep.refl _ _⟩
  case round =>
    obtain ⟨k, hk, rfl, hJ, hK⟩ := hrel
    by_cases hlt : k < m
    · have hkT : k < T.length := by omega
      obtain ⟨b, hA⟩ := row_ptr HR.out (by omega)
      subst hA
      have hRk := HR.out.keep hK.out (fun k e hm => by simp at hm; subst hm; exact HNM.out e)
      obtain ⟨_, _, _, hv, _, _, _, _, _, hcell⟩ := hRk.form (fun _ => rfl) (by omega)
      injection hv with hv _ _
      injection hv with hv
      injection hv with hv
      subst hv
      have c0 := hcell k hkT 0 (by omega)
      simp only [Nat.mul_one, Nat.add_zero, encI, List.getElem?_cons_zero] at c0
      clear hcell hRk
      have c11 := hJ.out.blk.cell 11
      simp only [jobC, List.getElem?_toArray, List.getElem?_cons_succ, List.getElem?_cons_zero] at c11
      obtain ⟨D2, ho2, hi2⟩ := hJ.out.map
      have hw := HWF.out _ (List.getElem_mem hkT)
      have hdk : T.drop k = T[k] :: T.drop (k + 1) := List.drop_eq_getElem_cons hkT
      rw [hdk] at hi2
      have HO2 := Lib.hid ho2
      have HI2 := Lib.hid hi2.del
      have HW := Lib.hid hw
      have hpm : p ≠ mp := fun e => by subst e; obtain ⟨es, clock, h1, _⟩ := ho2; have h2 := hJ.out.blk; unfold Blk at h2; rw [h1] at h2; cases h2
      have hcm : ch ≠ mp := fun e => by subst e; obtain ⟨es, clock, h1, _⟩ := ho2; obtain ⟨s, h2⟩ := hJ.out.chan; rw [h1] at h2; cases h2
      clear ho2 hi2 hw hdk
      go_wp2_with (at_delete; refine wpList_delete_own _ rfl _ _ 86 2 rfl 3 law64 Tryz.underlying86 _ mp _ D2 rfl HO2.out _ _ rfl (Maps.keyOf_int_mk Tryz.underlying2 HW.out) ?_; intro w2 hown2 hturn2; have HO3 := Lib.hid hown2; have HT3 := Lib.hid hturn2; clear hown2 hturn2; go_frame)
      have hJ3 : Hid (JobAt w2 p r c at_ (T.drop (k + 1)) ch mp) := by
        obtain ⟨s, hc⟩ := hJ.out.chan
        refine ⟨hJ.out.blk.grown HT3.out.grown (by simpa using hpm), ⟨s, (HT3.out.grown.block ch (Array.getElem?_eq_some_iff.1 hc).1 (by simpa using hcm)).trans hc⟩, ⟨_, ?_, HI2.out⟩⟩
        have := ownsMap_tight HO3.out
        have e := HI2.out.size
        unfold ikey at e
        rw [e] at this
        exact this
      have hK3 : Hid (Keep [mp] w1 w2) := hK.out.mapTurned HT3.out (.inl (by simp))
      exact ⟨⟨k + 1, by omega, by go_num, hJ3, hK3⟩, by simp [RowKit.intOf]; omega⟩
    · have ek : k = m := by omega
      subst ek
      have HJ2 : Hid (JobAt wr p r c at_ (T.drop c) ch mp) := by show JobAt _ _ _ _ _ _ _ _; rw [← HDR.out]; exact hJ.out
      have c8 := HJ2.out.blk.cell 8
      have c9 := HJ2.out.blk.cell 9
      have f9 := HJ2.out.blk.free 9
      simp only [jobC, List.getElem?_toArray, List.getElem?_cons_succ, List.getElem?_cons_zero] at c8 c9
      have HK2 : Hid (Keep [p, ch, mp] w wr) := (HK1.out.mono (fun _ hm => by simp at hm)).trans hK.out (fun k hk => .inl (by simp at hk; subst hk; simp))
      have HG2 := Lib.hid (HG.out.keep HK2.out (fun k hk hm => by have := HFF.out k hk; simp at hm; rcases hm with rfl | rfl | rfl <;> simp at this))
      clear hJ hK hk hlt
      have hkT : k < c → k = T.length := fun h => by have := E1.out; omega
      have hpc : p ≠ ch := fun e => by subst e; obtain ⟨s, h1⟩ := HJ2.out.chan; have h2 := HJ2.out.blk; unfold Blk at h2; rw [h1] at h2; cases h2
      have hpm : p ≠ mp := fun e => by subst e; obtain ⟨D2, h3, _⟩ := HJ2.out.map; obtain ⟨es, clock, h1, _⟩ := h3; have h2 := HJ2.out.blk; unfold Blk at h2; rw [h1] at h2; cases h2
      have setAt : ∀ (W : World) (a : Int), Keep [] wr W → JobAt (W.setCell ⟨p, 9, none⟩ (.int .i64 a)) p r c a (T.drop c) ch mp ∧ Keep [p, ch, mp] w (W.setCell ⟨p, 9, none⟩ (.int .i64 a)) ∧ GA 106 (W.setCell ⟨p, 9, none⟩ (.int .i64 a)) pg g F := fun W a hk => by
        have hj := HJ2.out.keep hk (by simp) (by simp) (by simp)
        obtain ⟨hb, ⟨s, hc⟩, D2, hm2, hi2⟩ := hj
        have kk : Keep [p] W (W.setCell ⟨p, 9, none⟩ (.int .i64 a)) := (Keep.refl [p] W).setBlk hb (by decide) (by simp) 9 _
        refine ⟨⟨hb.set 9 _, ⟨s, (Below.heap_setCell _ _ _ _ hpc.symm).trans hc⟩, ⟨D2, hm2.setCell hpm.symm _, hi2⟩⟩, ?_, ?_⟩
        · exact (HK2.out.trans0 hk).trans kk (fun k hk => .inl (by simp at hk; subst hk; simp))
        · exact (HG2.out.keep hk (fun _ _ => by simp)).keep kk (fun k hk hm => by have := HFF.out k hk; simp at hm; exact this.1 hm)
      have HSA := Lib.hid setAt
      clear setAt
      by_cases hkc : k < c
      · have hkT := hkT hkc
        obtain ⟨L, hL⟩ : ∃ L, L = idsG g at_ := ⟨_, rfl⟩
        have hmemL : ∀ x ∈ L, 0 ≤ x ∧ x < 4611686018427387904 := fun x hx => by
          rw [hL] at hx
          unfold idsG at hx
          rw [List.mem_mergeSort, List.mem_filter] at hx
          exact HB.out x hx.1
        have HML := Lib.hid hmemL
        have lL : L.length ≤ 200000 := by
          rw [hL]; unfold idsG
          rw [List.length_mergeSort]
          refine Nat.le_trans (List.length_filter_le _ _) ?_
          unfold idsAll; simp; omega
        have EA : Hid (stepAt g c at_ T = if c - k < L.length then L.getD (c - k - 1) 0 + 1 else g.next) := by
          show _ = _; unfold stepAt; rw [if_pos (by omega), ← hL, ← hkT]
        have HL := Lib.hid hL
        clear hmemL hL hkT
        have hleft : ((c : Int) - (k : Int)) = ((c - k : Nat) : Int) := by omega
        have hidx : (((c - k : Nat) : Int) - 1) = ((c - k - 1 : Nat) : Int) := by omega
        obtain ⟨q, hq⟩ : ∃ q, q = c - k := ⟨_, rfl⟩
        rw [← hq] at EA hleft hidx
        have q1 : 1 ≤ q := by omega
        have q2 : q ≤ 1024 := by omega
        clear hq hkc
        go_wp2_with fail
        refine (ids_c wr pg g F at_ hlN hlE HPS.out HPE.out HG2.out).mono ?_
        rintro e w2 ⟨v2, rfl, hr2, hk2⟩
        rw [← HL.out] at hr2
        obtain ⟨A2, cap2, hv2, hcap2, hm2⟩ := hr2.slice
        subst hv2
        unfold maxLen at hm2
        have HR2 := Lib.hid hr2
        have HK3 := Lib.hid hk2
        have hb3 := HJ2.out.blk.keep hk2 (by simp)
        have d9 := hb3.cell 9
        have g9 := hb3.free 9
        simp only [jobC, List.getElem?_toArray, List.getElem?_cons_succ, List.getElem?_cons_zero] at d9
        clear hr2 hk2 hb3 c8 c9 f9
        by_cases hq : q < L.length
        · have hq' : ((q : Int) < (L.length : Int)) := by omega
          have hj : q - 1 < L.length := by omega
          obtain ⟨b, hA⟩ := row_ptr HR2.out (by omega)
          subst hA
          obtain ⟨_, _, _, hv, _, _, _, _, _, hcell⟩ := HR2.out.form (fun _ => rfl) (by omega)
          injection hv with hv _ _
          injection hv with hv
          injection hv with hv
          subst hv
          have c0 := hcell (q - 1) hj 0 (by omega)
          simp only [Nat.mul_one, Nat.add_zero, encI, List.getElem?_cons_zero] at c0
          have hlo := (HML.out _ (List.getElem_mem hj)).1
          have hhi := (HML.out _ (List.getElem_mem hj)).2
          have EB : Hid (stepAt g c at_ T = L[q - 1] + 1) := by
            show _ = _; rw [EA.out, if_pos hq, List.getD_eq_getElem?_getD, List.getElem?_eq_getElem hj]; rfl
          obtain ⟨x, hx⟩ : ∃ x, x = L[q - 1] := ⟨_, rfl⟩
          rw [← hx] at c0 hlo hhi EB
          obtain ⟨s1, s2, s3⟩ := HSA.out w2 (x + 1) HK3.out
          have S1 := Lib.hid s1
          have S2 := Lib.hid s2
          have S3 := Lib.hid s3
          clear hcell hx s1 s2 s3
          go_wp2_with fail
          refine (ended_c _ p r c (x + 1) (T.drop c) ch mp pg g F S1.out S3.out).mono ?_
          rintro e w3 ⟨rfl, hk3⟩
          go_wp2
          go_ret
          exact ⟨ret_b (by rw [EB.out]), by rw [EB.out]; exact S1.out.keep hk3 (by simp) (by simp) (by simp), S2.out.trans0 hk3⟩
        · have hq' : ¬ ((q : Int) < (L.length : Int)) := by omega
          have EB : Hid (stepAt g c at_ T = g.next) := by show _ = _; rw [EA.out, if_neg hq]
          obtain ⟨s1, s2, s3⟩ := HSA.out w2 g.next HK3.out
          have S1 := Lib.hid s1
          have S2 := Lib.hid s2
          have S3 := Lib.hid s3
          clear s1 s2 s3
          have HNx := Lib.hid (next0_c w2 pg g F (HG2.out.keep HK3.out (fun _ _ => by simp)))
          go_wp2_with fail
          refine HNx.out.mono ?_
          rintro e w3 ⟨rfl, rfl⟩
          go_wp2_with fail
          refine (ended_c _ p r c g.next (T.drop c) ch mp pg g F S1.out S3.out).mono ?_
          rintro e w4 ⟨rfl, hk3⟩
          go_wp2
          go_ret
          exact ⟨ret_b (by rw [EB.out]), by rw [EB.out]; exact S1.out.keep hk3 (by simp) (by simp) (by simp), S2.out.trans0 hk3⟩
      · have ekc : k = c := by omega
        have EA : Hid (stepAt g c at_ T = at_) := by
          show _ = _; unfold stepAt; rw [if_neg (by have := E1.out; omega)]
        have hz : (c : Int) - (k : Int) = 0 := by omega
        clear hkc hkT
        go_wp2_with fail
        refine (ended_c wr p r c at_ (T.drop c) ch mp pg g F HJ2.out HG2.out).mono ?_
        rintro e w4 ⟨rfl, hk3⟩
        go_wp2
        go_ret
        exact ⟨ret_b (by rw [EA.out]), by rw [EA.out]; exact HJ2.out.keep hk3 (by simp) (by simp) (by simp), HK2.out.trans0 hk3⟩
end Go.Proofs.Hg
namespace Go.Proofs.Hg
open Go Go.RowKit Go.Proofs Go.Shelf
def KeepsOK (r : Rule) (g : Gr) (b : Bool) : Prop := ∀ W nv ev, NodesAt W nv g.N → EdgesAt W ev g.E → Calls Tryz.prog 45 #[nv, ev, ruleV r] W fun e w' => e = .returned (.bool b) ∧ Keep [] W w'
theorem NodesAt.slice {w : World} {v : Value} {N : List Node} (h : NodesAt w v N) : ∃ A n c, v = .slice A n c := by
  obtain ⟨fk, hr, _⟩ := h
  obtain ⟨A, cap, hv, _, _⟩ := hr.slice
  exact ⟨A, _, cap, hv⟩
theorem EdgesAt.slice {w : World} {v : Value} {N : List Edge} (h : EdgesAt w v N) : ∃ A n c, v = .slice A n c := by
  obtain ⟨fk, hr, _⟩ := h
  obtain ⟨A, cap, hv, _, _⟩ := hr.slice
  exact ⟨A, _, cap, hv⟩
theorem NodesAt.keep {w w' : World} {v : Value} {N : List Node} (h : NodesAt w v N) (hk : Keep [] w w') : NodesAt w' v N := by
  obtain ⟨fk, hr, hv⟩ := h
  exact ⟨fk, hr.keep hk (fun _ _ => by simp), hv.imp (fun _ _ h => ⟨h.1, h.2.1, h.2.2.keep hk⟩)⟩
theorem keepsF (r : Rule) (g : Gr) (hf : formR r = false) : KeepsOK r g false := fun W nv ev hn he => by
  obtain ⟨A, n, c, rfl⟩ := hn.slice
  obtain ⟨B, m, d, rfl⟩ := he.slice
  exact keepsF_c W A B n c m d r hf
theorem keepsX (r : Rule) (g : Gr) (hf : formR r = true) (hk : r.k = 2) (hl : g.N.length ≤ 100000) (hps : ∀ n ∈ g.N, n.ps.length ≤ 100000) : KeepsOK r g (!(g.N.any (lacks r))) := fun W nv ev hn he => by
  obtain ⟨B, m, d, rfl⟩ := he.slice
  obtain ⟨fk, hr, hv⟩ := hn
  exact keepsX_c W nv B m d fk g.N r hf hk (by rw [hv.length]; exact hl) hps hr hv
section
variable (w : World) (p : Nat) (r : Rule) (chunk at_ : Int) (T : List Int) (ch mp pg : Nat) (g : Gr) (F : List Nat) (b : Bool)
set_option maxRecDepth 100000 in
set_option maxHeartbeats 1600000 in
theorem verdict0_c (he : endB at_ T g = false) (hJ : JobAt w p r chunk at_ T ch mp) (hG : GA 106 w pg g F) :
    Calls Tryz.prog 16 #[.pointer (some ⟨p, 0, none⟩), .pointer (some ⟨pg, 0, none⟩)] w fun e w' => e = .returned (.tuple #[.bool false, .int .i64 161]) ∧ Keep [] w w' := by
  have HE := Lib.hid (ended_c w p r chunk at_ T ch mp pg g F hJ hG)
  rw [he] at HE
  clear hJ hG he
  go_enter Tryz.func16, Tryz.ntmps16
  go_wp2_with fail
  refine HE.out.mono ?_
  rintro e w1 ⟨rfl, hk⟩
  go_wp2
  go_ret2
  exact ⟨rfl, hk⟩
set_option maxRecDepth 100000 in
set_option maxHeartbeats 3200000 in
theorem verdict1_c (he : endB at_ T g = true) (hJ : JobAt w p r chunk at_ T ch mp) (hG : GA 106 w pg g F) (hK : KeepsOK r g b)
    (hlN : g.N.length ≤ 100000) (hlE : g.E.length ≤ 100000) (hps : ∀ n ∈ g.N, n.ps.length ≤ 100000) (hpe : ∀ n ∈ g.E, n.ps.length ≤ 100000) :
    Calls Tryz.prog 16 #[.pointer (some ⟨p, 0, none⟩), .pointer (some ⟨pg, 0, none⟩)] w fun e w' => e = .returned (.tuple #[.bool b, .int .i64 0]) ∧ Keep [] w w' := by
  have HE := Lib.hid (ended_c w p r chunk at_ T ch mp pg g F hJ hG)
  rw [he] at HE
  have HJ := Lib.hid hJ
  have HN := Lib.hid (fun W (hk : Keep [] w W) => nodes_c W pg g F hlN hps (hG.keep hk (fun _ _ => by simp)))
  have HEd := Lib.hid (fun W (hk : Keep [] w W) => edges_c W pg g F hlE hpe (hG.keep hk (fun _ _ => by simp)))
  have HKK := Lib.hid hK
  clear hJ hG he hps hpe hK
  go_enter Tryz.func16, Tryz.ntmps16
  go_wp2_with fail
  refine HE.out.mono ?_
  rintro e w1 ⟨rfl, hk⟩
  have HK1 := Lib.hid hk
  have SK : Hid (∀ W, Keep [] w1 W → W.cell? ⟨p, 0, none⟩ = some (.int .i64 r.id) ∧ W.cell? ⟨p, 1, none⟩ = some (.int .i64 r.k) ∧ W.cell? ⟨p, 2, none⟩ = some (.string r.ty) ∧ W.cell? ⟨p, 3, none⟩ = some (.string r.nm) ∧ W.cell? ⟨p, 4, none⟩ = some (.string r.fr) ∧ W.cell? ⟨p, 5, none⟩ = some (.string r.tt) ∧ W.cell? ⟨p, 6, none⟩ = some (.int .i64 r.n) ∧ W.cell? ⟨p, 7, none⟩ = some (.int .i64 r.st)) := fun W hkk => by
    have hb := (HJ.out.keep (HK1.out.trans0 hkk) (by simp) (by simp) (by simp)).blk
    exact ⟨hb.cell 0, hb.cell 1, hb.cell 2, hb.cell 3, hb.cell 4, hb.cell 5, hb.cell 6, hb.cell 7⟩
  clear hk HE
  go_wp2_with fail
  go_region_held3 (fun W => W.cell? ⟨p, 0, none⟩ = some (.int .i64 r.id) ∧ W.cell? ⟨p, 1, none⟩ = some (.int .i64 r.k) ∧ W.cell? ⟨p, 2, none⟩ = some (.string r.ty) ∧ W.cell? ⟨p, 3, none⟩ = some (.string r.nm) ∧ W.cell? ⟨p, 4, none⟩ = some (.string r.fr) ∧ W.cell? ⟨p, 5, none⟩ = some (.string r.tt) ∧ W.cell? ⟨p, 6, none⟩ = some (.int .i64 r.n) ∧ W.cell? ⟨p, 7, none⟩ = some (.int .i64 r.st))
    (first | exact SK.out _ (Keep.refl [] w1) | exact SK.out _ ((Keep.refl [] w1).drew) | exact SK.out _ hkK.out | exact SK.out _ hkE.out | exact SK.out _ hkN.out | go_keep)
    ((first
      | (go_at_call 46; refine (HN.out _ (HK1.out.drew)).mono ?_; rintro e w2 ⟨v2, rfl, hn2, hk2, _⟩; obtain ⟨A2, n2, c2, hv2⟩ := hn2.slice; subst hv2; have HN2 := Lib.hid hn2; have hkN := Lib.hid (((Keep.refl [] w1).drew).trans0 hk2); clear hn2 hk2)
      | (go_at_call 47; refine (HEd.out _ (HK1.out.trans0 hkN.out)).mono ?_; rintro e w3 ⟨v3, rfl, hn3, hk3, _⟩; obtain ⟨A3, n3, c3, hv3⟩ := hn3.slice; subst hv3; have HE3 := Lib.hid hn3; have HN3 := Lib.hid (HN2.out.keep hk3); have hkE := Lib.hid (hkN.out.trans0 hk3); clear hn3 hk3)
      | (go_at_call 45; refine (HKK.out _ _ _ HN3.out HE3.out).mono ?_; rintro e w4 ⟨rfl, hk4⟩; have hkK := Lib.hid (hkE.out.trans0 hk4); clear hk4)))
  all_goals
    go_wp2
    go_ret2
    exact ⟨rfl, HK1.out.trans0 hkK.out⟩
end
end Go.Proofs.Hg
