/-
  AS: single operations, and that the model does what they say.
-/
import Derived.Test.YtphcebdhnpbjlaaGreatDoorAsData
set_option linter.unusedSectionVars false
set_option linter.unusedSimpArgs false
set_option linter.unusedVariables false
namespace Go.As
open Go.RowKit (Below)
variable [Gh]

/-- A computation of the model does what a step says. -/
def OpS (P : Program) (B : Nat) (X : Cx) (O : Nat → Addr → Prop) (w : World) (h : Heap) (m : Sem Value) (v : V) (h' : Heap) : Prop :=
  ∃ x w' X' O', m.run P w = .ok x w' ∧ HR B X' O' w' h' ∧ Up B X w h.length X' w' ∧ VREL X' v true [x] ∧ h.length ≤ h'.length ∧ FR X O w h X' O' w' h'
def OpU (P : Program) (B : Nat) (X : Cx) (O : Nat → Addr → Prop) (w : World) (h : Heap) (m : Sem Unit) (h' : Heap) : Prop :=
  ∃ w' X' O', m.run P w = .ok () w' ∧ HR B X' O' w' h' ∧ Up B X w h.length X' w' ∧ h.length ≤ h'.length ∧ FR X O w h X' O' w' h'

section
variable {P : Program} {B : Nat} {X : Cx} {O : Nat → Addr → Prop} {w : World} {h : Heap}
theorem OpS.same (hr : HR B X O w h) {m : Sem Value} {v : V} {x : Value} (e : m.run P w = .ok x w) (r : VREL X v true [x]) : OpS P B X O w h m v h :=
  ⟨x, w, X, O, e, hr, .refl _ _ _ _, r, Nat.le_refl _, .refl _ _ _ _⟩

/-- A new variable. -/
theorem newCell_sound (hr : HR B X O w h) {n : Nat} (hn : hget h n = none) (hM : X.M n = none) (hle : n ≤ h.length) {v : V} (hp : v.plain = true) {x : Value} (r : VREL X v true [x]) (T : Nat) :
    ∃ X' O', HR B X' O' (w.alloc (.cells x.cells T)) (hput h n (.cell v)) ∧ Up B X w h.length X' (w.alloc (.cells x.cells T)) ∧ VREL X' (.ptr n 0 []) true [.pointer (some ⟨w.heap.size, 0, none⟩)] ∧ h.length ≤ (hput h n (.cell v)).length ∧ FR X O w h X' O' (w.alloc (.cells x.cells T)) (hput h n (.cell v)) := by
  let bi : BI := ⟨0, some ⟨w.heap.size, 0, none⟩, 0, 1, true⟩
  let On : Addr → Prop := fun a => ∃ j, j < x.cells.size ∧ a = (⟨w.heap.size, 0, none⟩ : Addr).add j
  have hcells := r.cells hp
  have hcell : ∀ j y, x.cells.toList[j]? = some y → (w.alloc (.cells x.cells T)).cell? ((⟨w.heap.size, 0, none⟩ : Addr).add j) = some y := fun j y e => by
    have : (⟨w.heap.size, 0, none⟩ : Addr).add j = ⟨w.heap.size, j, none⟩ := by unfold Addr.add; split <;> simp_all
    rw [this, World.cell?_alloc_new]; simpa using e
  have hfro : ∀ j, (w.alloc (.cells x.cells T)).frozen? ((⟨w.heap.size, 0, none⟩ : Addr).add j) = false := fun j => by
    have : (⟨w.heap.size, 0, none⟩ : Addr).add j = ⟨w.heap.size, j, none⟩ := by unfold Addr.add; split <;> simp_all
    rw [this, World.frozen?_alloc_new]
  have hlow := VREL.low hr.lt _ _ _ hcells
  refine ⟨X.withM n bi, _, hr.add hn hM hle (.alloc _ _) (by simp) bi On (.cell v) (fun a ⟨j, hj, e⟩ => ?_) ?_, Up.add hM ((Below.refl B w).alloc hr.wb _) (.alloc _ _) _ bi, ?_, ?_, .add hM hle (.alloc _ _) bi On _⟩
  · subst e; simp [Addr.add_block]
  · refine ⟨bi, ⟨w.heap.size, 0, none⟩, x.cells.toList, Cx.withM_same _ _ _, rfl, rfl, rfl, rfl, VREL.mono (Cx.withM_le h.length hM) _ _ _ hlow hcells, hcell, fun j _ hj => ⟨⟨j, by simpa using hj, rfl⟩, ⟨x.cells[j]'(by simpa using hj), hcell j _ (by have hj' : j < x.cells.size := (by simpa using hj); simp [hj'])⟩, hfro j⟩⟩
  · simp only [VREL]
    exact ⟨_, rfl, ⟨_, rfl⟩, bi, Cx.withM_same _ _ _, Nat.le_refl _, fun _ => ⟨_, rfl, rfl, by simp [pathOff]⟩⟩
  · rw [hput_len]; split <;> omega

theorem alloc_sound (hr : HR B X O w h) {n : Nat} (hn : hget h n = none) (hM : X.M n = none) (hle : n ≤ h.length) {t : Nat} {ti : TI} (ht : TyOk P t ti) (hz : ti.zero.plain = true) :
    OpS P B X O w h (Instr.alloc t true (.tuple #[])) (.ptr n 0 []) (hput h n (.cell ti.zero)) := by
  obtain ⟨i, h1, h2, h3, h4⟩ := ht.info
  obtain ⟨z, h5, h6⟩ := h4 _ rfl hz
  have h6' : VREL X ti.zero true [z] := VREL.mono (X0_le X) _ _ _ (VREL.low X0_lt _ _ _ h6) h6
  obtain ⟨X', O', q1, q2, q3, q4, q7⟩ := newCell_sound hr hn hM hle hz h6' t
  refine ⟨_, _, X', O', ?_, q1, q2, q3, q4, q7⟩
  simp [Instr.alloc, zeroValue, typeInfo, h1, h5, newVar, newRow, newObj, Sem.run]

theorem box_sound (hr : HR B X O w h) {n : Nat} (hn : hget h n = none) (hM : X.M n = none) (hle : n ≤ h.length) {t : Nat} {v : V} (hp : v.plain = true) {x : Value} (r : VREL X v true [x]) :
    OpS P B X O w h (Instr.box t x) (.ptr n 0 []) (hput h n (.cell v)) := by
  obtain ⟨X', O', q1, q2, q3, q4, q5⟩ := newCell_sound hr hn hM hle hp r t
  refine ⟨_, _, X', O', ?_, q1, q2, q3, q4, q5⟩
  simp [Instr.box, newVar, newRow, newObj, Sem.run]

theorem load_sound (hr : HR B X O w h) {E : Env} {t : Nat} (hE : ∀ ti, E.ty t = some ti → TyOk P t ti) {av v : V} {a : Value} {h' : Heap} (e : sLoad E h t av = some (v, h')) (r : VREL X av true [a]) :
    OpS P B X O w h (Instr.loadAt t a) v h' := by
  unfold sLoad at e
  cases ht : E.ty t with
  | none => rw [ht] at e; cases e
  | some ti =>
    rw [ht] at e
    have hok := hE ti ht
    simp only [Option.bind_some] at e
    split at e
    · rename_i b g p
      cases hl : loadV h b g p with
      | none => rw [hl] at e; cases e
      | some u =>
        rw [hl] at e; simp only [Option.bind_some] at e
        obtain ⟨hv, e⟩ := bif_some e
        cases e
        simp only [VREL] at r
        obtain ⟨y, ey, rp⟩ := r
        cases ey
        obtain ⟨ad, ws, q1, q2, q3, q4⟩ := loadV_sound hr hl rp
        subst q1
        obtain ⟨x, q5, q6⟩ := run_loadVar_ok (P := P) hok hv q3 q4
        exact .same hr (by simp [Instr.loadAt, Instr.sureAddr, q5]) q6
    · rename_i d
      obtain ⟨hv, e⟩ := bif_some e
      cases e
      simp only [VREL, REL] at r
      obtain ⟨ad, ws, q1, q2, q3, q4⟩ := r
      cases q1
      obtain ⟨x, q5, q6⟩ := run_loadVar_ok (P := P) (X := X) (v := .im d) hok hv (ws := ws) (by simpa only [VREL] using q3) (a := ad) (w := w) (fun j v e => hr.ci _ _ (q4 j v e))
      exact .same hr (by simp [Instr.loadAt, Instr.sureAddr, q5]) q6
    · cases e

theorem Owns.sub {O : Addr → Prop} {a : Addr} {i n : Nat} (hO : Owns w O a i n) (ha : a.spot = none) {k m : Nat} (h1 : i ≤ k) (h2 : k + m ≤ n) : Owns w O (a.add k) 0 m := fun j _ hj => by
  rw [Addr.add_add a _ _ ha]; exact hO _ (by omega) (by omega)

theorem flatten_put {s : Nat} {wss : List (List Value)} (hs : Even s wss) {i : Nat} {ws ws' : List Value} (hi : wss[i]? = some ws) (hl : ws'.length = s) : (wss.set i ws').flatten = wss.flatten.take (i * s) ++ (ws' ++ wss.flatten.drop (i * s + s)) := by
  have hk : i < wss.length := (List.getElem?_eq_some_iff.1 hi).1
  rw [List.set_eq_take_append_cons_drop, if_pos hk, List.flatten_append, List.flatten_cons, Even.flatten_take hs, Even.flatten_drop hs]
  congr 3; rw [Nat.add_mul, Nat.one_mul]
theorem flatten_at {s : Nat} {wss : List (List Value)} (hs : Even s wss) {i : Nat} {ws : List Value} (hi : wss[i]? = some ws) : wss.flatten = wss.flatten.take (i * s) ++ (ws ++ wss.flatten.drop (i * s + s)) := by
  have hk : i < wss.length := (List.getElem?_eq_some_iff.1 hi).1
  have := flatten_put hs hi (hs _ (List.mem_of_getElem? hi))
  rw [← this]
  congr 1
  rw [List.ext_getElem?_iff]
  intro j
  rw [List.getElem?_set]
  split
  · rename_i e; subst e; first | exact hi | rw [if_pos hk, hi]
  · rfl
/-- What the cells hold behind a store in their midst. -/
theorem cells_put {a : Addr} (ha : a.spot = none) {pre old post xs : List Value} (hc : cellsAt w.cell? a (pre ++ (old ++ post))) (hl : old.length = xs.length) : cellsAt (putCells w (a.add pre.length) xs 0).cell? a (pre ++ (xs ++ post)) := fun j v e => by
  have hex : ∀ k, k < xs.length → ∃ u, w.cell? ((a.add pre.length).add (0 + k)) = some u := fun k hk => by
    rw [Nat.zero_add, Addr.add_add a _ _ ha]
    exact ⟨_, hc (pre.length + k) old[k] (by rw [List.getElem?_append_right (by omega), Nat.add_sub_cancel_left, List.getElem?_append_left (by omega)]; simp)⟩
  by_cases h1 : j < pre.length
  · rw [putCells_other _ xs w 0 _ (fun k hk he => by rw [Nat.zero_add, Addr.add_add a _ _ ha] at he; have := Addr.add_inj ha he; omega)]
    exact hc j v (by rw [List.getElem?_append_left h1] at e ⊢; exact e)
  · rw [List.getElem?_append_right (by omega)] at e
    by_cases h2 : j - pre.length < xs.length
    · rw [List.getElem?_append_left h2] at e
      have := putCells_at (a.add pre.length) (Addr.add_spot _ _ ha) xs w 0 hex _ v e
      rw [Nat.zero_add, Addr.add_add a _ _ ha, show pre.length + (j - pre.length) = j from by omega] at this
      exact this
    · rw [List.getElem?_append_right (by omega)] at e
      rw [putCells_other _ xs w 0 _ (fun k hk he => by rw [Nat.zero_add, Addr.add_add a _ _ ha] at he; have := Addr.add_inj ha he; omega)]
      exact hc j v (by rw [List.getElem?_append_right (by omega), List.getElem?_append_right (by omega), hl]; exact e)
end
end Go.As
