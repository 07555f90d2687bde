/-
  AS: types; loads and stores of variables; from values to data.
-/
import Derived.Test.YtphcebdhnpbjlaaGreatDoorAsVals
import Derived.WalkKit
set_option linter.unusedSectionVars false
set_option linter.unusedSimpArgs false
set_option linter.unusedVariables false
namespace Go.As
open Go.RowKit (Below)
variable [Gh]

def X0 : Cx := ⟨fun _ => none, fun _ => none, fun _ => none⟩
theorem X0_le (X : Cx) : X0.le 0 X := ⟨fun _ _ h => by simp [X0] at h, fun _ _ h => by omega, fun _ _ h => by simp [X0] at h⟩
theorem X0_lt : X0.lt 0 := fun _ _ h => by simp [X0] at h

def KindOk (P : Program) (t : Nat) : TK → Prop
  | .bool => P.underlying t = some .bool
  | .int k => P.underlying t = some (.int k)
  | .str => P.underlying t = some .string
  | .ptr => ∃ e, P.underlying t = some (.pointer e)
  | .slc e => P.underlying t = some (.slice e)
  | .arr n e => P.underlying t = some (.array n e)
  | .st fs => ∃ fields : Array Field, P.underlying t = some (.struct fields) ∧ fields.toList.map (fun f => (f.offset, P.cellsOf f.type, f.type)) = fs ∧ (∀ f ∈ fields.toList, f.name ≠ "_" ∧ ∃ i, P.info? f.type = some i) ∧ P.stoodInHeld t = false
  | .fn => ∃ a b c, P.underlying t = some (.func a b c)
  | .ifc nm => ∃ ms, P.underlying t = some (.interface ms) ∧ nm = !ms.isEmpty
  | .map k e => P.underlying t = some (.map k e)
  | .oth => ∃ d, P.underlying t = some d ∧ (∀ fs, d ≠ .struct fs) ∧ (∀ n e, d ≠ .array n e) ∧ ∀ ms, d ≠ .interface ms
structure TyOk (P : Program) (t : Nat) (ti : TI) : Prop where
  info : ∃ i, P.info? t = some i ∧ i.size = ti.size ∧ i.bytes = ti.bytes ∧ ∀ x, ti.zero = x → x.plain = true → ∃ z, i.zero = some z ∧ VREL X0 x true [z]
  kind : KindOk P t ti.k

theorem run_sizeOf {P : Program} {t : Nat} {ti : TI} (h : TyOk P t ti) (w : World) : (sizeOf t).run P w = .ok ti.size w := by
  obtain ⟨i, h1, h2, _⟩ := h.info
  simp [sizeOf, typeInfo, h1, h2]
theorem run_isAgg {P : Program} {t : Nat} {ti : TI} (h : TyOk P t ti) (w : World) : (isAgg t).run P w = .ok (okAgg.isA ti.k) w := by
  have hk := h.kind
  cases hti : ti.k with
  | ptr => rw [hti] at hk; obtain ⟨e, hk⟩ := hk; simp [isAgg, run_underlying hk, okAgg.isA]
  | st fs => rw [hti] at hk; obtain ⟨e, hk, _⟩ := hk; simp [isAgg, run_underlying hk, okAgg.isA]
  | fn => rw [hti] at hk; obtain ⟨_, _, _, hk⟩ := hk; simp [isAgg, run_underlying hk, okAgg.isA]
  | ifc nm => rw [hti] at hk; obtain ⟨_, hk, _⟩ := hk; simp [isAgg, run_underlying hk, okAgg.isA]
  | oth =>
    rw [hti] at hk; obtain ⟨d, hk, h1, h2, _⟩ := hk
    cases d <;> simp [isAgg, run_underlying hk, okAgg.isA]
    · exact absurd rfl (h2 _ _)
    · exact absurd rfl (h1 _)
  | _ => rw [hti] at hk; simp only [KindOk] at hk; simp [isAgg, run_underlying hk, okAgg.isA]

theorem okAgg_isAgg {k : TK} {v : V} (h : okAgg k v = true) : v.isAgg = okAgg.isA k ∧ v.plain = true := by
  cases v with
  | im d => cases d <;> simp_all [okAgg, okAgg.okD, V.isAgg, V.plain]
  | _ => simp_all [okAgg, V.isAgg, V.plain]
theorem okV_iff {ti : TI} {v : V} (h : okV ti v = true) : v.wd = ti.size ∧ v.isAgg = okAgg.isA ti.k ∧ v.plain = true := by
  simp only [okV, Bool.and_eq_true] at h
  exact ⟨Nat.eq_of_beq_eq_true h.1, (okAgg_isAgg h.2).1, (okAgg_isAgg h.2).2⟩

theorem run_load_cell {P : Program} {w : World} {a : Addr} {v : Value} (h : w.cell? a = some v) (m : Mode) : (load a m).run P w = .ok v w := by simp [load, Sem.run, h]
/-- A variable is read. -/
theorem run_loadVar_ok {P : Program} {t : Nat} {ti : TI} (ht : TyOk P t ti) {X : Cx} {v : V} (hv : okV ti v = true) {a : Addr} {ws : List Value} {w : World} (h : VREL X v false ws) (hc : cellsAt w.cell? a ws) :
    ∃ x, (loadVar t a).run P w = .ok x w ∧ VREL X v true [x] := by
  obtain ⟨h1, h2, h3⟩ := okV_iff hv
  have hl := h.wd
  cases ha : v.isAgg with
  | true =>
    refine ⟨.agg ws.toArray, ?_, (VREL.agg_iff ha).2 ⟨ws.toArray, rfl, by simpa using h⟩⟩
    have hlc := run_loadCells_list (P := P) (w := w) a ws (fun j v e => hc j v e)
    simp only [loadVar, Sem.run_bind, run_isAgg ht, ← h2, ha, Result.andThen_ok, if_true, run_sizeOf ht, ← h1, ← hl]
    simp [hlc]
  | false =>
    obtain ⟨x, e, ho, r⟩ := h.one h3 ha
    subst e
    refine ⟨x, ?_, r true⟩
    have := hc 0 x rfl
    rw [Addr.add_zero] at this
    simp only [loadVar, Sem.run_bind, run_isAgg ht, ← h2, ha, Result.andThen_ok]
    exact run_load_cell this _
mutual
theorem REL.ones {C : IV} : ∀ {d : D} {ws : List Value}, REL C d false ws → ∀ x ∈ ws, x.oneCell' = true
  | .agg w l, _, h => by
    simp only [REL] at h
    obtain ⟨wss, e, h2, _⟩ := h
    subst e
    exact RELs.ones h2
  | .tup _, _, h => by simp [REL] at h
  | .bool _, ws, h | .int _ _, ws, h | .str _, ws, h | .nil, ws, h | .ref _, ws, h | .slc _, ws, h | .fn _, ws, h | .nfn, ws, h | .ifc _ _, ws, h | .inil, ws, h | .mnil, ws, h => by
    simp only [REL] at h
    first
      | (subst h; simp [Value.oneCell']; done)
      | (obtain ⟨h, _⟩ := h; subst h; simp [Value.oneCell']; done)
      | (obtain ⟨_, h, _⟩ := h; subst h; simp [Value.oneCell']; done)
      | (obtain ⟨_, _, h, _⟩ := h; subst h; simp [Value.oneCell']; done)
      | (obtain ⟨_, _, _, h, _⟩ := h; subst h; simp [Value.oneCell']; done)
theorem RELs.ones {C : IV} : ∀ {l : List D} {wss : List (List Value)}, RELs C l false wss → ∀ x ∈ wss.flatten, x.oneCell' = true
  | [], _, h => by simp only [RELs] at h; subst h; simp
  | d :: l, _, h => by
    simp only [RELs] at h
    obtain ⟨ws, r, e, h1, h2⟩ := h
    subst e
    intro x hx
    rw [List.flatten_cons, List.mem_append] at hx
    exact hx.elim (REL.ones h1 x) (RELs.ones h2 x)
end
mutual
theorem VREL.ones {X : Cx} : ∀ {v : V} {ws : List Value}, VREL X v false ws → ∀ x ∈ ws, x.oneCell' = true
  | .agg w l, _, h => by
    simp only [VREL] at h
    obtain ⟨wss, e, h2, _⟩ := h
    subst e
    exact VRELs.ones h2
  | .im d, _, h => by simp only [VREL] at h; exact h.ones
  | .undef, _, h => by simp [VREL] at h
  | .tup _, _, h => by simp [VREL] at h
  | .own .., ws, h => by simp only [VREL] at h; obtain ⟨x, e, r⟩ := h; subst e; simp [r.one]
  | .full .., ws, h => by simp only [VREL] at h; obtain ⟨x, e, r⟩ := h; subst e; simp [r.one]
  | .ptr .., ws, h => by simp only [VREL] at h; obtain ⟨x, e, r⟩ := h; subst e; simp [r.one]
  | .fn .., ws, h => by simp only [VREL] at h; obtain ⟨_, _, _, _, e, _⟩ := h; subst e; simp [Value.oneCell']
  | .ifc .., ws, h => by simp only [VREL] at h; obtain ⟨_, e, _⟩ := h; subst e; simp [Value.oneCell']
  | .mp _, ws, h => by simp only [VREL] at h; obtain ⟨_, _, e, _⟩ := h; subst e; simp [Value.oneCell']
  | .yld _, ws, h => by simp only [VREL] at h; obtain ⟨_, e, _⟩ := h; subst e; simp [Value.oneCell']
theorem VRELs.ones {X : Cx} : ∀ {l : List V} {wss : List (List Value)}, VRELs X l false wss → ∀ x ∈ wss.flatten, x.oneCell' = true
  | [], _, h => by simp only [VRELs] at h; subst h; simp
  | d :: l, _, h => by
    simp only [VRELs] at h
    obtain ⟨ws, r, e, h1, h2⟩ := h
    subst e
    intro x hx
    rw [List.flatten_cons, List.mem_append] at hx
    exact hx.elim (VREL.ones h1 x) (VRELs.ones h2 x)
end
/-- A variable is written. -/
theorem run_storeVar_ok {P : Program} {t : Nat} {ti : TI} (ht : TyOk P t ti) {X : Cx} {v : V} (hv : okV ti v = true) {x : Value} (h : VREL X v true [x]) {a : Addr} (ha : a.spot = none) {w : World}
    (hc : ∀ j, j < ti.size → (∃ u, w.cell? (a.add j) = some u) ∧ w.frozen? (a.add j) = false) :
    (storeVar t a x).run P w = .ok () (putCells w a x.cells.toList 0) := by
  obtain ⟨h1, _, h3⟩ := okV_iff hv
  have hcs := h.cells h3
  have hl : x.cells.size = ti.size := by rw [← h1, ← hcs.wd]; simp
  have hst := run_storeCells_put (P := P) a ha x.cells.toList w 0 (hcs.ones) (fun j hj => by rw [Nat.zero_add]; exact hc j (by rw [← hl]; simpa using hj))
  simp only [storeVar, Sem.run_bind, run_sizeOf ht, Result.andThen_ok, hl]
  simp [hst]
end Go.As
