/-
  AS: fields and elements, and their addresses.
-/
import Derived.Test.YtphcebdhnpbjlaaGreatDoorAsOp2
set_option linter.unusedSectionVars false
set_option linter.unusedSimpArgs false
set_option linter.unusedVariables false
namespace Go.As
open Go.RowKit (Below)
variable [Gh]
section
variable {P : Program} {B : Nat} {X : Cx} {O : Nat → Addr → Prop} {w : World} {h : Heap} {E : Env}

theorem field_at {t : Nat} {fs : List (Nat × Nat × Nat)} (hk : KindOk P t (.st fs)) {k : Nat} {f : Nat × Nat × Nat} (hf : fs[k]? = some f) :
    ∃ (fields : Array Field) (g : Field), P.underlying t = some (.struct fields) ∧ fields[k]? = some g ∧ g.offset = f.1 ∧ P.cellsOf g.type = f.2.1 ∧ g.type = f.2.2 ∧ ∃ i, P.info? g.type = some i := by
  obtain ⟨fields, hu, hm, hn, _⟩ := hk
  subst hm
  rw [List.getElem?_map] at hf
  cases hg : fields.toList[k]? with
  | none => rw [hg] at hf; cases hf
  | some g =>
    rw [hg] at hf
    simp only [Option.map_some, Option.some.injEq] at hf
    subst hf
    refine ⟨fields, g, hu, by rw [← Array.getElem?_toList]; exact hg, rfl, rfl, rfl, (hn g (List.mem_of_getElem? hg)).2⟩

theorem run_fieldAt {t : Nat} {fields : Array Field} (hu : P.underlying t = some (.struct fields)) {k : Nat} {g : Field} (hg : fields[k]? = some g) {i : TypeInfo} (hi : P.info? g.type = some i) (hz : P.cellsOf g.type ≠ 0) (a : Addr) :
    (Instr.fieldAt t (.pointer (some a)) k).run P w = .ok (.pointer (some (a.add g.offset))) w := by
  have hz' : i.size ≠ 0 := by simpa [Program.cellsOf, hi] using hz
  simp [Instr.fieldAt, run_underlying hu, hg, Instr.sureAddr, fieldPlace, Go.sizeOf, typeInfo, hi, hz']

theorem fieldAddr_sound (hE : EnvTy P E) (hr : HR B X O w h) {t k : Nat} {x v : V} {h' : Heap} (e : sFieldAddr E h t x k = some (v, h')) {vx : Value} (r : VREL X x true [vx]) : OpS P B X O w h (Instr.fieldAt t vx k) v h' := by
  unfold sFieldAddr at e
  cases ht : E.ty t with
  | none => rw [ht] at e; cases e
  | some ti =>
    rw [ht] at e
    have hk := (hE.ty t ti ht).kind
    simp only [Option.bind_some] at e
    split at e
    · rename_i fs hfs
      rw [hfs] at hk
      rw [lget_eq] at e
      cases hf : fs[k]? with
      | none => rw [hf] at e; cases e
      | some f =>
        rw [hf] at e
        simp only [Option.bind_some] at e
        obtain ⟨fields, g, hu, hg, h1, h2, h3, i, hi⟩ := field_at hk hf
        cases hz : Nat.beq f.2.1 0 with
        | true => rw [hz] at e; cases e
        | false =>
          rw [hz] at e
          simp only [cond_false] at e
          have hz' : P.cellsOf g.type ≠ 0 := by
            rw [h2]; intro hh; rw [hh] at hz; cases hz
          split at e
          · rename_i b gn p
            cases e
            simp only [VREL] at r
            obtain ⟨y, ey, ⟨a, ea⟩, bi, hM, hgn, hx⟩ := r
            cases ey; subst ea
            refine .same hr (run_fieldAt hu hg hi hz' a) ?_
            simp only [VREL]
            refine ⟨_, rfl, ⟨_, rfl⟩, bi, hM, hgn, fun hq => ?_⟩
            obtain ⟨a0, e1, e2, e3⟩ := hx hq
            refine ⟨a0, e1, e2, ?_⟩
            simp only [Value.pointer.injEq, Option.some.injEq] at e3 ⊢
            subst e3
            rw [Addr.add_add _ _ _ e2, h1]
            congr 1
            simp [pathOff]
          · rename_i d
            cases hc : V.kid (.im d) k f.1 with
            | none => rw [hc] at e; cases e
            | some c =>
              rw [hc] at e
              split at e
              · rename_i d' hd'
                cases hd'
                obtain ⟨hw, e⟩ := bif_some e
                cases e
                simp only [VREL, REL] at r
                obtain ⟨a, ws, ea, hs, rd, hcs⟩ := r
                cases ea
                obtain ⟨cs, pre, post, e1, e2, e3⟩ := kid_part (X := X) (ws := ws) hc (by simpa only [VREL] using rd)
                refine .same hr (run_fieldAt hu hg hi hz' a) ?_
                simp only [VREL, REL] at e3 ⊢
                refine ⟨_, cs, rfl, Addr.add_spot _ _ hs, e3, ?_⟩
                rw [h1, ← e2]
                exact addr_split a hs (by rw [← e1]; exact hcs)
              · cases e
          · cases e
    · cases e

theorem V.kid_agg {v c : V} {k o : Nat} (h : v.kid k o = some c) : v.isAgg = true := by
  unfold V.kid at h
  split at h
  · rfl
  · rfl
  · cases h
theorem field_sound (hE : EnvTy P E) (hr : HR B X O w h) {t k : Nat} {x v : V} {h' : Heap} (e : sField E h t x k = some (v, h')) {vx : Value} (r : VREL X x true [vx]) : OpS P B X O w h (Instr.field t vx k) v h' := by
  unfold sField at e
  cases ht : E.ty t with
  | none => rw [ht] at e; cases e
  | some ti =>
    rw [ht] at e
    have hk := (hE.ty t ti ht).kind
    simp only [Option.bind_some] at e
    split at e
    · rename_i fs hfs
      rw [hfs] at hk
      rw [lget_eq] at e
      cases hf : fs[k]? with
      | none => rw [hf] at e; cases e
      | some f =>
        rw [hf] at e
        simp only [Option.bind_some] at e
        obtain ⟨fields, g, hu, hg, h1, h2, h3, i, hi⟩ := field_at hk hf
        cases htf : E.ty f.2.2 with
        | none => rw [htf] at e; cases e
        | some tf =>
          rw [htf] at e
          simp only [Option.bind_some] at e
          cases hc : x.kid k f.1 with
          | none => rw [hc] at e; cases e
          | some c =>
            rw [hc] at e
            simp only [Option.bind_some] at e
            obtain ⟨hw, e⟩ := bif_some e
            cases e
            rw [Bool.and_eq_true] at hw
            have hok := hE.ty _ _ htf
            have hsz : tf.size = f.2.1 := by rw [← hok.sizeOf, ← h3, h2]
            have hv : okV tf v = true := by
              unfold okV; rw [Bool.and_eq_true, hsz]; exact hw
            obtain ⟨cs, ecs, rcs⟩ := (VREL.agg_iff (V.kid_agg hc)).1 r
            cases ecs
            obtain ⟨ws, pre, post, e1, e2, e3⟩ := kid_part hc rcs
            obtain ⟨y, hy, ry⟩ := run_part_ok (P := P) (w := w) hok hv e1 e3 e2
            refine .same hr (x := y) ?_ ry
            simp only [Instr.field, Sem.run_bind, run_underlying hu, Result.andThen_ok, hg, asAgg, Sem.run_pure, h3, h1, hy]
    · cases e

theorem run_indexAt_arr {t el n : Nat} (hu : P.underlying t = some (.array n el)) {te : TI} (he : TyOk P el te) (a : Addr) (k : IntKind) {i : Int} (h0 : 0 ≤ i) (h1 : i < n) :
    (Instr.indexAt t (.pointer (some a)) (.int k i)).run P w = .ok (.pointer (some (a.add (i.toNat * te.size)))) w := by
  simp [Instr.indexAt, asIntOf, run_underlying hu, Instr.sureAddr, h0, h1, run_sizeOf he]
theorem run_indexAt_slc {t el n cap : Nat} (hu : P.underlying t = some (.slice el)) {te : TI} (he : TyOk P el te) (a : Addr) (k : IntKind) {i : Int} (h0 : 0 ≤ i) (h1 : i < n) :
    (Instr.indexAt t (.slice (some a) n cap) (.int k i)).run P w = .ok (.pointer (some (a.add (i.toNat * te.size)))) w := by
  simp [Instr.indexAt, asIntOf, run_underlying hu, h0, h1, run_sizeOf he]

theorem int_bounds {n : Int} {m : Nat} (h0 : ile 0 n = true) (h1 : ilt n (Int.ofNat m) = true) : 0 ≤ n ∧ n < m ∧ n.toNat < m := by
  rw [ile_eq, decide_eq_true_iff] at h0
  rw [ilt_eq, decide_eq_true_iff] at h1
  have h1' : n < (m : Int) := h1
  omega

theorem RELs.at {C : IV} {l : List D} {wss : List (List Value)} (h : RELs C l false wss) {i : Nat} {d : D} (hd : l[i]? = some d) : ∃ ws, wss[i]? = some ws ∧ REL C d false ws := (RELs_iff.1 h).get hd
theorem REL.wd {C : IV} {d : D} {ws : List Value} (h : REL C d false ws) : ws.length = d.wd := VREL.wd (X := ⟨C, fun _ => none, fun _ => none⟩) (v := .im d) (by simpa only [VREL] using h)

theorem elemRef_sound (hE : EnvTy P E) (hr : HR B X O w h) {t el : Nat} (hu : P.underlying t = some (.slice el)) {l : List D} {n : Int} {k : IntKind} {v : V} {h' : Heap} (e : elemRef E h el l n = some (v, h'))
    {a : Option Addr} {len cap : Nat} (hl : len = l.length) (hc : len = 0 ∨ ∃ a0 wss s, a = some a0 ∧ a0.spot = none ∧ RELs X.C l false wss ∧ (∀ ws ∈ wss, ws.length = s) ∧ cellsAt X.C a0 wss.flatten) :
    OpS P B X O w h (Instr.indexAt t (.slice a len cap) (.int k n)) v h' := by
  unfold elemRef at e
  cases hte : E.ty el with
  | none => rw [hte] at e; cases e
  | some te =>
    rw [hte] at e
    simp only [Option.bind_some] at e
    obtain ⟨h0, e⟩ := bif_some e
    rw [lget_eq] at e
    cases hd : l[n.toNat]? with
    | none => rw [hd] at e; cases e
    | some d =>
      rw [hd] at e
      simp only [Option.bind_some] at e
      obtain ⟨hw, e⟩ := bif_some e
      cases e
      have hw := beq_of hw
      have hlt : n.toNat < l.length := (List.getElem?_eq_some_iff.1 hd).1
      rw [ile_eq, decide_eq_true_iff] at h0
      rcases hc with hc | ⟨a0, wss, s, ea, hs, rl, hev, hcs⟩
      · omega
      · subst ea
        obtain ⟨ws, hws, rd⟩ := rl.at hd
        have hsz : s = te.size := by rw [← hev ws (List.mem_of_getElem? hws), rd.wd, hw]
        subst hsz
        refine .same hr (run_indexAt_slc hu (hE.ty _ _ hte) a0 k h0 (by omega)) ?_
        simp only [VREL, REL]
        exact ⟨_, ws, rfl, Addr.add_spot _ _ hs, rd, cellsAt.row hs hev hcs hws⟩

theorem indexAddr_sound (hE : EnvTy P E) (hr : HR B X O w h) {t : Nat} {x iv v : V} {h' : Heap} (e : sIndexAddr E h t x iv = some (v, h')) {vx vi : Value} (r : VREL X x true [vx]) (ri : VREL X iv true [vi]) :
    OpS P B X O w h (Instr.indexAt t vx vi) v h' := by
  unfold sIndexAddr at e
  split at e
  · rename_i k n
    simp only [VREL, REL] at ri
    obtain ⟨ei, _⟩ := ri; cases ei
    cases ht : E.ty t with
    | none => rw [ht] at e; cases e
    | some ti =>
      rw [ht] at e
      have hk := (hE.ty t ti ht).kind
      simp only [Option.bind_some] at e
      split at e
      · rename_i el hel
        rw [hel] at hk; simp only [KindOk] at hk
        split at e
        · rename_i b g off len lim
          cases hte : E.ty el with
          | none => rw [hte] at e; cases e
          | some te =>
            rw [hte] at e
            simp only [Option.bind_some] at e
            obtain ⟨hc, e⟩ := bif_some e
            cases e
            simp only [Bool.and_eq_true] at hc
            obtain ⟨h0, h1, h2⟩ := int_bounds hc.1 hc.2.1
            simp only [VREL] at r
            obtain ⟨y, ey, ⟨a, cap, ea, hle, hmx, hsm⟩, bi, hM, hgn, hx⟩ := r
            cases ey; subst ea
            rcases hsm with hsm | ⟨a1, hsm⟩
            · omega
            · subst hsm
              refine .same hr (run_indexAt_slc hk (hE.ty _ _ hte) a1 k h0 h1) ?_
              simp only [VREL]
              refine ⟨_, rfl, ⟨_, rfl⟩, bi, hM, hgn, fun hq => ?_⟩
              obtain ⟨a', cap', e1, _, _, hcap, _, e2⟩ := hx hq
              simp only [Value.slice.injEq] at e1
              obtain ⟨e1, _, e1'⟩ := e1
              subst e1'
              rcases e2 with e2 | ⟨a0, e3, e4, e5⟩
              · omega
              · rw [← e1] at e5; cases e5
                refine ⟨a0, e3, e4, ?_⟩
                have hs : off * bi.s = off * te.size := by
                  rcases Bool.or_eq_true_iff.1 hc.2.2 with h3 | h3
                  · rw [beq_of h3]; simp
                  · unfold sizeIs at h3
                    split at h3
                    · rename_i g' s ro l hb
                      obtain ⟨bj, q1, q2, q3, q4, q5, q6⟩ := hr.blk b _ hb
                      rw [hM] at q1; cases q1
                      rcases q6 with q6 | ⟨q6, _⟩
                      · omega
                      · rw [q6, beq_of h3]
                    · rename_i g' s l hb
                      obtain ⟨bj, q1, q2, q3, q4, q5, q6⟩ := hr.blk b _ hb
                      rw [hM] at q1; cases q1
                      rcases q6 with q6 | ⟨q6, _⟩
                      · omega
                      · rw [q6, beq_of h3]
                    · cases h3
                rw [Addr.add_add _ _ _ e4, hs]
                congr 3
                simp [pathOff, Nat.add_mul]
        · simp only [VREL, REL] at r
          obtain ⟨a, m, cap, ea, hn, _, _, hc⟩ := r
          cases ea
          exact elemRef_sound hE hr hk e hn hc
        · simp only [VREL] at r
          obtain ⟨y, ey, a, m, ea, hn, _, hc⟩ := r
          cases ey; subst ea
          exact elemRef_sound hE hr hk e hn hc
        · cases e
      · rename_i m el hel
        rw [hel] at hk; simp only [KindOk] at hk
        cases hte : E.ty el with
        | none => rw [hte] at e; cases e
        | some te =>
          rw [hte] at e
          simp only [Option.bind_some] at e
          replace e := bif_some e
          obtain ⟨hc, e⟩ := e
          simp only [Bool.and_eq_true] at hc
          obtain ⟨h0, h1, h2⟩ := int_bounds hc.1 hc.2.1
          split at e
          · cases e
            simp only [VREL] at r
            obtain ⟨y, ey, ⟨a, ea⟩, bi, hM, hgn, hx⟩ := r
            cases ey; subst ea
            refine .same hr (run_indexAt_arr hk (hE.ty _ _ hte) a k h0 h1) ?_
            simp only [VREL]
            refine ⟨_, rfl, ⟨_, rfl⟩, bi, hM, hgn, fun hq => ?_⟩
            obtain ⟨a0, e1, e2, e3⟩ := hx hq
            refine ⟨a0, e1, e2, ?_⟩
            simp only [Value.pointer.injEq, Option.some.injEq] at e3 ⊢
            subst e3
            rw [Addr.add_add _ _ _ e2]
            congr 1
            simp [pathOff]
          · rename_i d
            cases hcd : V.kid (.im d) n.toNat (n.toNat * te.size) with
            | none => rw [hcd] at e; cases e
            | some c =>
              rw [hcd] at e
              split at e
              · rename_i d' hd'
                cases hd'
                obtain ⟨hw, e⟩ := bif_some e
                cases e
                simp only [VREL, REL] at r
                obtain ⟨a, ws, ea, hs, rd, hcs⟩ := r
                cases ea
                obtain ⟨cs, pre, post, e1, e2, e3⟩ := kid_part (X := X) (ws := ws) hcd (by simpa only [VREL] using rd)
                refine .same hr (run_indexAt_arr hk (hE.ty _ _ hte) a k h0 h1) ?_
                simp only [VREL, REL] at e3 ⊢
                refine ⟨_, cs, rfl, Addr.add_spot _ _ hs, e3, ?_⟩
                rw [← e2]
                exact addr_split a hs (by rw [← e1]; exact hcs)
              · cases e
          · cases e
      · cases e
  · cases e

theorem index_sound (hE : EnvTy P E) (hr : HR B X O w h) {t : Nat} {x iv v : V} {h' : Heap} (e : sIndex E h t x iv = some (v, h')) {vx vi : Value} (r : VREL X x true [vx]) (ri : VREL X iv true [vi]) :
    OpS P B X O w h (Instr.index t vx vi) v h' := by
  unfold sIndex at e
  split at e
  · rename_i k n
    simp only [VREL, REL] at ri
    obtain ⟨ei, _⟩ := ri; cases ei
    split at e
    · rename_i s
      cases ht : E.ty t with
      | none => rw [ht] at e; cases e
      | some ti =>
        rw [ht] at e
        have hk := (hE.ty t ti ht).kind
        simp only [Option.bind_some] at e
        split at e
        · rename_i hel
          rw [hel] at hk; simp only [KindOk] at hk
          obtain ⟨h0, e⟩ := bif_some e
          rw [ile_eq, decide_eq_true_iff] at h0
          rw [lget_eq] at e
          cases hc : s[n.toNat]? with
          | none => rw [hc] at e; cases e
          | some c =>
            rw [hc] at e
            cases e
            simp only [VREL, REL] at r
            obtain ⟨bs, eb, hb, _⟩ := r
            cases eb; subst hb
            unfold bytesL at hc
            rw [List.getElem?_map] at hc
            cases hu : bs.data.toList[n.toNat]? with
            | none => rw [hu] at hc; cases hc
            | some u =>
              rw [hu] at hc
              simp only [Option.map_some, Option.some.injEq] at hc
              subst hc
              have hbs : bs[n.toNat]? = some u := by
                rw [Array.getElem?_toList] at hu
                have hlt : n.toNat < bs.size := (Array.getElem?_eq_some_iff.1 hu).1
                rw [getElem?_pos bs n.toNat hlt]
                obtain ⟨_, hu⟩ := Array.getElem?_eq_some_iff.1 hu
                rw [← hu]; rfl
              refine .same hr (x := .int .u8 u.toNat) ?_ ?_
              · simp only [Instr.index, Sem.run_bind, run_asInt, run_underlying hk, Result.andThen_ok, h0, if_true, hbs]; rfl
              · simp only [byteD, VREL, REL]
                refine ⟨rfl, ?_⟩
                have := u.toNat_lt
                constructor
                · show (0 : Int) ≤ (u.toNat : Int); omega
                · show (u.toNat : Int) ≤ 255; omega
        · cases e
    · cases ht : E.ty t with
      | none => rw [ht] at e; cases e
      | some ti =>
        rw [ht] at e
        have hk := (hE.ty t ti ht).kind
        simp only [Option.bind_some] at e
        split at e
        · rename_i m el hel
          rw [hel] at hk; simp only [KindOk] at hk
          cases hte : E.ty el with
          | none => rw [hte] at e; cases e
          | some te =>
            rw [hte] at e
            simp only [Option.bind_some] at e
            obtain ⟨hc, e⟩ := bif_some e
            simp only [Bool.and_eq_true] at hc
            obtain ⟨h0, h1, h2⟩ := int_bounds hc.1 hc.2
            cases hcd : x.kid n.toNat (n.toNat * te.size) with
            | none => rw [hcd] at e; cases e
            | some c =>
              rw [hcd] at e
              simp only [Option.bind_some] at e
              obtain ⟨hv, e⟩ := bif_some e
              cases e
              have hok := hE.ty _ _ hte
              obtain ⟨cs, ecs, rcs⟩ := (VREL.agg_iff (V.kid_agg hcd)).1 r
              cases ecs
              obtain ⟨ws, pre, post, e1, e2, e3⟩ := kid_part hcd rcs
              obtain ⟨y, hy, ry⟩ := run_part_ok (P := P) (w := w) hok hv e1 e3 e2
              refine .same hr (x := y) ?_ ry
              simp only [Instr.index, Sem.run_bind, run_asInt, run_underlying hk, Result.andThen_ok, h0, h1, and_self, if_true, run_sizeOf hok, hy]
        · cases e
  · cases e
end
end Go.As
