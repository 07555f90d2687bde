/-
  AS: comparisons.
-/
import Derived.Test.YtphcebdhnpbjlaaGreatDoorAsNum
import Derived.Laws.StructEq
import Derived.ChangeKeysEq
set_option linter.unusedSectionVars false
set_option linter.unusedSimpArgs false
set_option linter.unusedVariables false
namespace Go.As
open Go.RowKit (Below)
variable [Gh]

structure EnvTy (P : Program) (E : Env) : Prop where
  ty : ∀ t ti, E.ty t = some ti → TyOk P t ti
  depth : 12 < P.depth

section
variable {P : Program} {w : World} {E : Env}

theorem TyOk.sizeOf {t : Nat} {ti : TI} (h : TyOk P t ti) : P.cellsOf t = ti.size := by
  obtain ⟨i, h1, h2, _⟩ := h.info
  simp [Program.cellsOf, h1, h2]

/-- A part of a struct's or an array's cells. -/
theorem run_part_ok {t : Nat} {ti : TI} (ht : TyOk P t ti) {X : Cx} {v : V} (hv : okV ti v = true) {cs : Array Value} {pre ws post : List Value} (hc : cs.toList = pre ++ (ws ++ post)) (h : VREL X v false ws) {o : Nat} (ho : pre.length = o) :
    ∃ x, (part t cs o).run P w = .ok x w ∧ VREL X v true [x] := by
  obtain ⟨h1, h2, h3⟩ := okV_iff hv
  have hl := h.wd
  subst ho
  cases ha : v.isAgg with
  | true =>
    refine ⟨.agg ws.toArray, ?_, (VREL.agg_iff ha).2 ⟨ws.toArray, rfl, by simpa using h⟩⟩
    have hex : cs.extract pre.length (pre.length + ti.size) = ws.toArray := by
      apply Array.toList_inj.1
      rw [Array.toList_extract, hc]
      simp [List.extract, ← h1, ← hl]
    simp only [part, Sem.run_bind, run_isAgg ht, ← h2, ha, Result.andThen_ok, if_true, run_sizeOf ht, hex]
    simp
  | false =>
    obtain ⟨x, e, ho, r⟩ := h.one h3 ha
    subst e
    refine ⟨x, ?_, r true⟩
    have hx : cs[pre.length]? = some x := by
      rw [← Array.getElem?_toList, hc]; simp
    simp only [part, Sem.run_bind, run_isAgg ht, ← h2, ha, Result.andThen_ok, Bool.false_eq_true, if_false, hx]
    simp

theorem eqGuardType_of (hE : EnvTy P E) : ∀ {n t : Nat}, cmpT E n t = true → ∀ {d : Nat}, n ≤ d → P.eqGuardType d t = false
  | 0, _, h, _, _ => by simp [cmpT] at h
  | n + 1, t, h, 0, hd => by omega
  | n + 1, t, h, d + 1, hd => by
    unfold cmpT at h
    cases ht : E.ty t with
    | none => rw [ht] at h; cases h
    | some ti =>
      rw [ht] at h
      have hk := (hE.ty t ti ht).kind
      simp only at h
      split at h
      · rename_i e; rw [e] at hk; simp only [KindOk] at hk; simp [Program.eqGuardType, hk]
      · rename_i e; rw [e] at hk; simp only [KindOk] at hk; simp [Program.eqGuardType, hk]
      · rename_i e; rw [e] at hk; simp only [KindOk] at hk; simp [Program.eqGuardType, hk]
      · rename_i fs e; rw [e] at hk; simp only [KindOk] at hk
        obtain ⟨fields, hu, hf, _⟩ := hk
        simp only [Program.eqGuardType, hu]
        rw [← hf] at h
        rw [List.all_eq_true] at h
        rw [← Array.any_toList, List.any_eq_false]
        intro f hfm
        have := h _ (List.mem_map.2 ⟨f, hfm, rfl⟩)
        simp [eqGuardType_of hE this (by omega : n ≤ d)]
      · rename_i m e e'; rw [e'] at hk; simp only [KindOk] at hk
        simp only [Program.eqGuardType, hk]
        exact eqGuardType_of hE h (by omega)
      · cases h

theorem eqT_ok {n t : Nat} {x y : D} {b : Bool} (h : eqT E n t x y = some b) : ∃ ti, E.ty t = some ti ∧ okV ti (.im x) = true ∧ okV ti (.im y) = true := by
  cases n with
  | zero => simp [eqT] at h
  | succ n =>
    unfold eqT at h
    cases ht : E.ty t with
    | none => rw [ht] at h; cases h
    | some ti =>
      rw [ht] at h
      simp only [Option.bind_some] at h
      have := (bif_some h).1
      rw [Bool.and_eq_true] at this
      exact ⟨ti, rfl, this⟩
theorem eqFs_sound (hE : EnvTy P E) {C : IV} {n d : Nat} (hrec : ∀ {t : Nat} {x y : D} {b : Bool}, eqT E n t x y = some b → ∀ {vx vy : Value}, REL C x true [vx] → REL C y true [vy] → (Op.equalIn d t vx vy).run P w = .ok b w) {cx cy : Array Value} : ∀ (fl : List Field) {o : Nat} {xs ys : List D} {b : Bool}, (∀ f ∈ fl, f.name ≠ "_") →
    eqT.eqFs (fl.map fun f => (f.offset, P.cellsOf f.type, f.type)) o xs ys (eqT E n) = some b → ∀ {pre pre' : List Value} {wx wy : List (List Value)},
    cx.toList = pre ++ wx.flatten → cy.toList = pre' ++ wy.flatten → pre.length = o → pre'.length = o → RELs C xs false wx → RELs C ys false wy → (Op.eqFields d cx cy fl).run P w = .ok b w
  | [], _, [], [], _, _, h, _, _, _, _, _, _, _, _, _, _ => by cases h; simp [Op.eqFields]
  | [], _, _ :: _, _, _, _, h, _, _, _, _, _, _, _, _, _, _ => by simp [eqT.eqFs] at h
  | [], _, [], _ :: _, _, _, h, _, _, _, _, _, _, _, _, _, _ => by simp [eqT.eqFs] at h
  | f :: fl, _, [], _, _, _, h, _, _, _, _, _, _, _, _, _, _ => by simp [eqT.eqFs] at h
  | f :: fl, _, _ :: _, [], _, _, h, _, _, _, _, _, _, _, _, _, _ => by simp [eqT.eqFs] at h
  | f :: fl, o, x :: xs, y :: ys, b, hn, h, pre, pre', wx, wy, lx, ly, e1, e2, rx, ry => by
    simp only [List.map_cons, eqT.eqFs] at h
    obtain ⟨ho, h⟩ := bif_some h
    have ho := beq_of ho
    split at h
    · rename_i b1 b2 hb1 hb2
      cases h
      simp only [RELs] at rx ry
      obtain ⟨ux, wx', q1, rx1, rx2⟩ := rx
      obtain ⟨uy, wy', q2, ry1, ry2⟩ := ry
      subst q1; subst q2
      obtain ⟨ti, ht, k1, k2⟩ := eqT_ok hb1
      have hty := hE.ty _ _ ht
      have hx : VREL ⟨C, fun _ => none, fun _ => none⟩ (.im x) false ux := by simpa only [VREL] using rx1
      have hy : VREL ⟨C, fun _ => none, fun _ => none⟩ (.im y) false uy := by simpa only [VREL] using ry1
      obtain ⟨vx, p1, p2⟩ := run_part_ok (w := w) hty k1 (cs := cx) (pre := pre) (ws := ux) (post := wx'.flatten) (by rw [lx]; simp) hx (o := f.offset) (by omega)
      obtain ⟨vy, p3, p4⟩ := run_part_ok (w := w) hty k2 (cs := cy) (pre := pre') (ws := uy) (post := wy'.flatten) (by rw [ly]; simp) hy (o := f.offset) (by omega)
      simp only [VREL] at p2 p4
      have p5 := hrec hb1 p2 p4
      have hwx := hx.wd
      have hwy := hy.wd
      have hwo : x.wd = y.wd := by
        have a1 := (okV_iff k1).1; have a2 := (okV_iff k2).1
        simp only [V.wd] at a1 a2; omega
      simp only [V.wd] at hwx hwy
      have p6 := eqFs_sound hE hrec fl (fun g hg => hn g (by simp [hg])) hb2 (pre := pre ++ ux) (by rw [lx]; simp) (pre' := pre' ++ uy) (by rw [ly]; simp) (by simp; omega) (by simp; omega) rx2 ry2
      have hnf : f.name ≠ "_" := hn f (by simp)
      simp only [Op.eqFields, hnf, ne_eq, not_false_eq_true, if_true, Sem.run_bind, p1, p3, p5, Result.andThen_ok]
      cases b1
      · simp
      · simp [p6]
    · cases h
theorem eqEs_sound (hE : EnvTy P E) {C : IV} {n d : Nat} (hrec : ∀ {t : Nat} {x y : D} {b : Bool}, eqT E n t x y = some b → ∀ {vx vy : Value}, REL C x true [vx] → REL C y true [vy] → (Op.equalIn d t vx vy).run P w = .ok b w) {cx cy : Array Value} {el : Nat} {te : TI} (hte : E.ty el = some te) : ∀ (xs : List D) {o : Nat} {ys : List D} {b : Bool},
    eqT.eqEs xs ys (eqT E n el) = some b → ∀ {pre pre' : List Value} {wx wy : List (List Value)},
    cx.toList = pre ++ wx.flatten → cy.toList = pre' ++ wy.flatten → pre.length = o * te.size → pre'.length = o * te.size → RELs C xs false wx → RELs C ys false wy → (Op.eqItems d el te.size cx cy (List.range' o xs.length)).run P w = .ok b w
  | [], _, [], _, h, _, _, _, _, _, _, _, _, _, _ => by cases h; simp [Op.eqItems]
  | [], _, _ :: _, _, h, _, _, _, _, _, _, _, _, _, _ => by simp [eqT.eqEs] at h
  | _ :: _, _, [], _, h, _, _, _, _, _, _, _, _, _, _ => by simp [eqT.eqEs] at h
  | x :: xs, o, y :: ys, b, h, pre, pre', wx, wy, lx, ly, e1, e2, rx, ry => by
    simp only [eqT.eqEs] at h
    split at h
    · rename_i b1 b2 hb1 hb2
      cases h
      simp only [RELs] at rx ry
      obtain ⟨ux, wx', q1, rx1, rx2⟩ := rx
      obtain ⟨uy, wy', q2, ry1, ry2⟩ := ry
      subst q1; subst q2
      obtain ⟨ti, ht, k1, k2⟩ := eqT_ok hb1
      rw [hte] at ht; cases ht
      have hty := hE.ty _ _ hte
      have hx : VREL ⟨C, fun _ => none, fun _ => none⟩ (.im x) false ux := by simpa only [VREL] using rx1
      have hy : VREL ⟨C, fun _ => none, fun _ => none⟩ (.im y) false uy := by simpa only [VREL] using ry1
      obtain ⟨vx, p1, p2⟩ := run_part_ok (w := w) hty k1 (cs := cx) (pre := pre) (ws := ux) (post := wx'.flatten) (by rw [lx]; simp) hx (o := o * te.size) (by omega)
      obtain ⟨vy, p3, p4⟩ := run_part_ok (w := w) hty k2 (cs := cy) (pre := pre') (ws := uy) (post := wy'.flatten) (by rw [ly]; simp) hy (o := o * te.size) (by omega)
      simp only [VREL] at p2 p4
      have p5 := hrec hb1 p2 p4
      have hwx := hx.wd
      have hwy := hy.wd
      have a1 := (okV_iff k1).1
      have a2 := (okV_iff k2).1
      have p6 := eqEs_sound hE hrec hte xs (o := o + 1) hb2 (pre := pre ++ ux) (by rw [lx]; simp) (pre' := pre' ++ uy) (by rw [ly]; simp) (by rw [List.length_append, Nat.add_mul]; omega) (by rw [List.length_append, Nat.add_mul]; omega) rx2 ry2
      simp only [List.length_cons, List.range'_succ, Op.eqItems, Sem.run_bind, p1, p3, p5, Result.andThen_ok]
      cases b1
      · simp
      · simp [p6]
    · cases h
theorem eqT_sound (hE : EnvTy P E) {C : IV} : ∀ {n t : Nat} {x y : D} {b : Bool}, eqT E n t x y = some b → ∀ {d : Nat}, n ≤ d → ∀ {vx vy : Value}, REL C x true [vx] → REL C y true [vy] →
    (Op.equalIn d t vx vy).run P w = .ok b w
  | 0, _, _, _, _, h, _, _, _, _, _, _ => by simp [eqT] at h
  | n + 1, t, x, y, b, h, 0, hd, _, _, _, _ => by omega
  | n + 1, t, x, y, b, h, d + 1, hd, vx, vy, rx, ry => by
    unfold eqT at h
    cases ht : E.ty t with
    | none => rw [ht] at h; cases h
    | some ti =>
      rw [ht] at h
      simp only [Option.bind_some] at h
      replace h := bif_some h
      obtain ⟨hok, h⟩ := h
      rw [Bool.and_eq_true] at hok
      have hty := hE.ty t ti ht
      have hk := hty.kind
      split at h
      · rename_i e; rw [e] at hk; simp only [KindOk] at hk
        simp only [REL] at rx ry; cases rx; cases ry; cases h
        exact run_equalIn_bool' _ _ _ _ _ hk
      · rename_i e; rw [e] at hk; simp only [KindOk] at hk
        simp only [REL] at rx ry; obtain ⟨rx, _⟩ := rx; obtain ⟨ry, _⟩ := ry; cases rx; cases ry
        obtain ⟨hb, h⟩ := bif_some h
        cases h
        rw [← keq_iff hb, ieq_eq]
        exact run_equalIn_int _ _ _ _ _ _ _ hk
      · rename_i e; rw [e] at hk; simp only [KindOk] at hk
        simp only [REL] at rx ry; obtain ⟨s1, rx, e1, _⟩ := rx; obtain ⟨s2, ry, e2, _⟩ := ry; cases rx; cases ry; cases h
        rw [run_equalIn_string _ _ _ _ _ hk]
        subst e1; subst e2
        congr 1
        rw [Bool.eq_iff_iff, seq_iff, beq_iff_eq, toList_eq, toList_eq]
        constructor
        · intro h; unfold bytesL; rw [h]
        · intro h; rw [bytesL_inj h]
      · rename_i fs w1 xs w2 ys e; rw [e] at hk; simp only [KindOk] at hk
        obtain ⟨fields, hu, hf, hn, hp⟩ := hk
        have hfo : P.fieldsOf t = fields := by simp [Program.fieldsOf, hu]
        simp only [REL] at rx ry
        obtain ⟨cx, wx, ex, lx, rx, _⟩ := rx
        obtain ⟨cy, wy, ey, ly, ry, _⟩ := ry
        cases ex; cases ey
        rw [run_equalIn_struct _ _ _ _ _ (by rw [hfo]; exact hu) hp, hfo]
        rw [← hf] at h
        refine eqFs_sound hE (fun h => eqT_sound hE h (Nat.le_of_succ_le_succ hd)) fields.toList (fun f hf => (hn f hf).1) h (pre := []) (by simpa using lx) (pre' := []) (by simpa using ly) rfl rfl rx ry
      · rename_i m el w1 xs w2 ys e; rw [e] at hk; simp only [KindOk] at hk
        cases hte : E.ty el with
        | none => rw [hte] at h; cases h
        | some te =>
          rw [hte] at h
          simp only [Option.bind_some] at h
          obtain ⟨hl, h⟩ := bif_some h
          rw [Bool.and_eq_true, llen_eq, llen_eq] at hl
          simp only [REL] at rx ry
          obtain ⟨cx, wx, ex, lx, rx, _⟩ := rx
          obtain ⟨cy, wy, ey, ly, ry, _⟩ := ry
          cases ex; cases ey
          have htt := hE.ty _ _ hte
          obtain ⟨i, hi, _⟩ := htt.info
          have h1 := beq_of hl.1
          rw [run_equalIn_array _ _ _ _ hk hi, List.range_eq_range', htt.sizeOf, ← h1]
          exact eqEs_sound hE (fun h => eqT_sound hE h (Nat.le_of_succ_le_succ hd)) hte xs (o := 0) h (pre := []) (by simpa using lx) (pre' := []) (by simpa using ly) (by simp) (by simp) rx ry
      · cases h
end
end Go.As
