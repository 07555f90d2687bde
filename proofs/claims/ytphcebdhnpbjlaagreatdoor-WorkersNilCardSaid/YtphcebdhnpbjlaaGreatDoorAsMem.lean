/-
  AS: a new block; a store.
-/
import Derived.Test.YtphcebdhnpbjlaaGreatDoorAsLists
set_option linter.unusedSectionVars false
set_option linter.unusedSimpArgs false
set_option linter.unusedVariables false
namespace Go.As
open Go.RowKit (Below)
variable [Gh]

def Obj.lp : Obj → Bool
  | .loop _ => true
  | _ => false

theorem lp_not_cells {o : Obj} (h : Obj.lp o = true) : o.isCells = false := by cases o <;> simp_all [Obj.lp, Obj.isCells]

/-- What a step may do to memory and to what is known of it. -/
structure Up (B : Nat) (X : Cx) (w : World) (n : Nat) (X' : Cx) (w' : World) : Prop where
  le : X.le n X'
  below : Below B w w'
  fresh : ∀ a v, X'.C a = some v → X.C a = none → B ≤ a.block
  obj : ∀ (r : Nat) (o : Obj), w.heap[r]? = some o → Obj.lp o = true → w'.heap[r]? = some o
theorem Up.refl (B n : Nat) (X : Cx) (w : World) : Up B X w n X w := ⟨.refl _ _, .refl _ _, fun a v e h => (by rw [h] at e; cases e), fun _ _ h _ => h⟩
theorem Up.trans {B n : Nat} {X Y Z : Cx} {a b c : World} (h : Up B X a n Y b) (k : Up B Y b n Z c) : Up B X a n Z c :=
  ⟨h.le.trans k.le, h.below.trans k.below, fun x v e hn => by
    cases hy : Y.C x with
    | none => exact k.fresh x v e hy
    | some u => exact h.fresh x u hy hn, fun r o e l => k.obj r o (h.obj r o e l) l⟩
theorem Up.less {B n n' : Nat} {X Y : Cx} {a b : World} (h : Up B X a n Y b) (hn : n' ≤ n) : Up B X a n' Y b := ⟨h.le.less hn, h.below, h.fresh, h.obj⟩
theorem Up.keep {B n : Nat} {X : Cx} {w w' : World} (hB : Below B w w') (hk : Keep w w') : Up B X w n X w' :=
  ⟨.refl _ _, hB, fun a v e h => (by rw [h] at e; cases e), fun r o e _ => hk.obj r o e⟩

def Cx.withM (X : Cx) (b : Nat) (bi : BI) : Cx := { X with M := fun c => if c = b then some bi else X.M c }
theorem Cx.withM_le {X : Cx} {b : Nat} {bi : BI} (n : Nat) (h : X.M b = none) : X.le n (X.withM b bi) :=
  ⟨.refl _, fun c ci _ e => ⟨ci, by simp only [Cx.withM]; rw [if_neg (fun hc => by subst hc; rw [h] at e; cases e)]; exact e, Nat.le_refl _, fun _ => rfl, fun _ => rfl⟩, fun _ _ e => e⟩
theorem Cx.withM_same (X : Cx) (b : Nat) (bi : BI) : (X.withM b bi).M b = some bi := by simp [Cx.withM]
theorem Cx.withM_other (X : Cx) {b c : Nat} (bi : BI) (h : c ≠ b) : (X.withM b bi).M c = X.M c := by simp [Cx.withM, h]

/-- A new block. -/
theorem HR.add {B : Nat} {X : Cx} {O : Nat → Addr → Prop} {w w' : World} {h : Heap} (hr : HR B X O w h) {n : Nat} (hn : hget h n = none) (hM : X.M n = none) (hle : n ≤ h.length)
    (hk : Keep w w') (hw : w.heap.size ≤ w'.heap.size) (bi : BI) (On : Addr → Prop) (k : Blk) (hnew : ∀ a, On a → w.heap.size ≤ a.block ∧ a.block < w'.heap.size) (hb : BR (X.withM n bi) w' On n k) :
    HR B (X.withM n bi) (fun b => if b = n then On else O b) w' (hput h n k) := by
  have hci : ∀ a v, X.C a = some v → a.block < w.heap.size := fun a v e => World.block_lt_of_cell? w a (hr.ci a v e)
  refine ⟨fun b k' e => ?_, fun b a o => ?_, fun b c a o o' => ?_, fun b bj e => ?_, hr.ci.keep hk, Nat.le_trans hr.wb hw⟩
  · rw [hget_hput h n b k hle] at e
    by_cases hbn : b = n
    · subst hbn
      simp only [if_true] at e ⊢
      cases e; exact hb
    · simp only [if_neg hbn] at e ⊢
      exact (hr.blk b k' e).later hr.lt (Cx.withM_le _ hM) (Cx.withM_other X bi hbn) hk (fun _ h => h)
  · by_cases hbn : b = n
    · simp only [hbn, if_true] at o
      obtain ⟨h1, h2⟩ := hnew a o
      refine ⟨Nat.le_trans hr.wb h1, h2, ?_⟩
      cases hc : X.C a with
      | none => exact hc
      | some v => exact absurd (hci a v hc) (by omega)
    · simp only [if_neg hbn] at o
      obtain ⟨h1, h2, h3⟩ := hr.own b a o
      exact ⟨h1, Nat.lt_of_lt_of_le h2 hw, h3⟩
  · by_cases hbn : b = n <;> by_cases hcn : c = n
    · rw [hbn, hcn]
    · simp only [hbn, if_true] at o; simp only [if_neg hcn] at o'
      have := (hnew a o).1; have := (hr.own c a o').2.1; omega
    · simp only [hcn, if_true] at o'; simp only [if_neg hbn] at o
      have := (hnew a o').1; have := (hr.own b a o).2.1; omega
    · simp only [if_neg hbn] at o; simp only [if_neg hcn] at o'
      exact hr.dis b c a o o'
  · rw [hput_len]
    by_cases hbn : b = n
    · subst hbn; split <;> omega
    · rw [Cx.withM_other X bi hbn] at e
      have := hr.lt b bj e
      split <;> omega

theorem Up.add {B : Nat} {X : Cx} {w w' : World} {n : Nat} (hM : X.M n = none) (hB : Below B w w') (hk : Keep w w') (m : Nat) (bi : BI) : Up B X w m (X.withM n bi) w' :=
  ⟨Cx.withM_le _ hM, hB, fun a v e h => (by simp only [Cx.withM] at e; rw [h] at e; cases e), fun r o e _ => hk.obj r o e⟩

theorem FR.add {X : Cx} {O : Nat → Addr → Prop} {w w' : World} {h : Heap} {n : Nat} (hM : X.M n = none) (hle : n ≤ h.length) (hk : Keep w w') (bi : BI) (On : Addr → Prop) (k : Blk) :
    FR X O w h (X.withM n bi) (fun b => if b = n then On else O b) w' (hput h n k) := by
  have hne : ∀ b bj, X.M b = some bj → b ≠ n := fun b bj e hb => by subst hb; rw [hM] at e; cases e
  refine ⟨fun b bj e hn => ?_, fun b bj e _ => ?_, fun b bj e _ a o => ?_, fun b bj _ _ a _ v ev => ⟨hk.cell _ _ ev, hk.frozen _ _ ev⟩, fun b bj _ _ a _ o eo _ => hk.obj _ _ eo, fun b bj _ _ g _ hg => hk.block g hg, fun b e => ?_, fun b _ e hn => ?_⟩
  · rw [hget_hput h n b k hle, if_neg (hne b bj e)]; exact hn
  · rw [Cx.withM_other X bi (hne b bj e)]; exact e
  · simp only [if_neg (hne b bj e)]; exact o
  · rw [hget_hput h n b k hle] at e
    split at e
    · cases e
    · exact e
  · rw [hget_hput h n b k hle] at hn
    split at hn
    · cases hn
    · rename_i hbn; rw [Cx.withM_other X bi hbn]; exact e

/-! ### stores -/
theorem obj_setCell {w : World} {a : Addr} {v : Value} {r : Nat} {o : Obj} (e : w.heap[r]? = some o) (ho : o.isCells = false) : (w.setCell a v).heap[r]? = some o := by
  simp only [World.setCell, Array.getElem?_modify]
  split
  · rw [e]; cases o <;> simp_all [Obj.isCells]
  · exact e

/-- Stores of the values, one after the other. -/
def putCells (w : World) (a : Addr) (vs : List Value) (i : Nat) : World :=
  match vs with
  | [] => w
  | v :: r => putCells (w.setCell (a.add i) v) a r (i + 1)
theorem putCells_size (a : Addr) : ∀ (vs : List Value) (w : World) (i : Nat), (putCells w a vs i).heap.size = w.heap.size
  | [], _, _ => rfl
  | v :: r, w, i => by rw [putCells, putCells_size a r]; simp
theorem putCells_frozen (a : Addr) : ∀ (vs : List Value) (w : World) (i : Nat) (x : Addr), (putCells w a vs i).frozen? x = w.frozen? x
  | [], _, _, _ => rfl
  | v :: r, w, i, x => by rw [putCells, putCells_frozen a r]; simp
theorem putCells_obj (a : Addr) {r : Nat} {o : Obj} (ho : o.isCells = false) : ∀ (vs : List Value) (w : World) (i : Nat), w.heap[r]? = some o → (putCells w a vs i).heap[r]? = some o
  | [], _, _, e => e
  | v :: t, w, i, e => by rw [putCells]; exact putCells_obj a ho t _ _ (obj_setCell e ho)
theorem putCells_other (a : Addr) : ∀ (vs : List Value) (w : World) (i : Nat) (x : Addr), (∀ j, j < vs.length → x ≠ a.add (i + j)) → (putCells w a vs i).cell? x = w.cell? x
  | [], _, _, _, _ => rfl
  | v :: r, w, i, x, h => by
    rw [putCells, putCells_other a r _ _ x (fun j hj => by have := h (j + 1) (by simp; omega); rwa [show i + (j + 1) = i + 1 + j from by omega] at this)]
    exact World.cell?_setCell_other w (a.add i) x v (fun e => h 0 (by simp) e.symm)
theorem putCells_at (a : Addr) (ha : a.spot = none) : ∀ (vs : List Value) (w : World) (i : Nat), (∀ j, j < vs.length → ∃ u, w.cell? (a.add (i + j)) = some u) →
    ∀ j v, vs[j]? = some v → (putCells w a vs i).cell? (a.add (i + j)) = some v
  | [], _, _, _, _, _, e => by simp at e
  | u :: r, w, i, h, 0, v, e => by
    simp at e; subst e
    rw [putCells, putCells_other a r _ _ _ (fun j _ he => by have := Addr.add_inj ha he; omega)]
    obtain ⟨x, hx⟩ := h 0 (by simp)
    exact World.cell?_setCell_same w (a.add i) _ hx
  | u :: r, w, i, h, j + 1, v, e => by
    rw [putCells, show i + (j + 1) = i + 1 + j from by omega]
    refine putCells_at a ha r _ _ (fun k hk => ?_) j v (by simpa using e)
    obtain ⟨x, hx⟩ := h (k + 1) (by simp; omega)
    rw [show i + (k + 1) = i + 1 + k from by omega] at hx
    refine ⟨x, ?_⟩
    rw [World.cell?_setCell_other w (a.add i) (a.add (i + 1 + k)) u (fun he => by have := Addr.add_inj ha he; omega)]
    exact hx
theorem putCells_below {B : Nat} (a : Addr) (hB : B ≤ a.block) : ∀ (vs : List Value) (w : World) (i : Nat), Below B w (putCells w a vs i)
  | [], _, _ => .refl _ _
  | v :: r, w, i => by
    rw [putCells]
    exact ((Below.refl B w).setCell (p := a.add i) (by rw [Addr.add_block]; exact hB) v).trans (putCells_below a hB r _ _)
theorem putCells_block (a : Addr) (g : Nat) : ∀ (vs : List Value) (w : World) (i : Nat), (0 < vs.length → a.block ≠ g) → (putCells w a vs i).heap[g]? = w.heap[g]?
  | [], _, _, _ => rfl
  | v :: r, w, i, h => by
    rw [putCells, putCells_block a g r _ _ (fun _ => h (by simp)), Below.heap_setCell _ _ _ _ (by rw [Addr.add_block]; exact Ne.symm (h (by simp)))]
theorem run_storeCells_put {P : Program} (a : Addr) (ha : a.spot = none) : ∀ (vs : List Value) (w : World) (i : Nat), (∀ v ∈ vs, v.oneCell' = true) →
    (∀ j, j < vs.length → (∃ u, w.cell? (a.add (i + j)) = some u) ∧ w.frozen? (a.add (i + j)) = false) → (storeCells a vs i).run P w = .ok () (putCells w a vs i)
  | [], w, i, _, _ => rfl
  | v :: r, w, i, h1, h => by
    obtain ⟨⟨u, hu⟩, hf⟩ := h 0 (by simp)
    rw [Nat.add_zero] at hu hf
    have hst : (store (a.add i) v).run P w = .ok () (w.setCell (a.add i) v) := by
      unfold store
      have h1v := h1 v (by simp)
      cases v <;> simp [Sem.run, hu, hf, Value.oneCell'] at h1v ⊢
    have hrest := run_storeCells_put (P := P) a ha r (w.setCell (a.add i) v) (i + 1) (fun x hx => h1 x (by simp [hx])) (fun j hj => by
      obtain ⟨⟨x, hx⟩, hf'⟩ := h (j + 1) (by simp; omega)
      rw [show i + (j + 1) = i + 1 + j from by omega] at hx hf'
      refine ⟨⟨x, ?_⟩, by rw [World.frozen?_setCell]; exact hf'⟩
      rw [World.cell?_setCell_other w (a.add i) (a.add (i + 1 + j)) v (fun he => by have := Addr.add_inj ha he; omega)]
      exact hx)
    simp only [storeCells, Sem.run_bind, putCells, hst, Result.andThen_ok, hrest]

/-! ### what a store into one block leaves alone -/
theorem cellsAt.put {w : World} {a b : Addr} {vs us : List Value} (h : cellsAt w.cell? b us) (i : Nat) (hne : ∀ j k, j < us.length → k < vs.length → b.add j ≠ a.add (i + k)) : cellsAt (putCells w a vs i).cell? b us := fun j v e => by
  have hj : j < us.length := (List.getElem?_eq_some_iff.1 e).1
  rw [putCells_other a vs w i _ (fun k hk => hne j k hj hk)]
  exact h j v e
theorem Owns.put {w : World} {O : Addr → Prop} {b : Addr} {i n : Nat} (h : Owns w O b i n) (a : Addr) (ha : a.spot = none) (vs : List Value) (k : Nat) (hc : ∀ j, j < vs.length → ∃ u, w.cell? (a.add (k + j)) = some u) : Owns (putCells w a vs k) O b i n := fun j h1 h2 => by
  obtain ⟨o, ⟨v, e⟩, f⟩ := h j h1 h2
  refine ⟨o, ?_, by rw [putCells_frozen]; exact f⟩
  by_cases hx : ∃ m, m < vs.length ∧ b.add j = a.add (k + m)
  · obtain ⟨m, hm, he⟩ := hx
    exact ⟨_, by rw [he]; exact putCells_at a ha vs w k hc m vs[m] (by simp [hm])⟩
  · refine ⟨v, ?_⟩
    rw [putCells_other a vs w k _ (fun m hm he => hx ⟨m, hm, he⟩)]
    exact e

/-- Another block does not see a store into places that are not its own and not immutable. -/
theorem BR.put {X : Cx} {w : World} {O : Addr → Prop} {c : Nat} {k : Blk} (h : BR X w O c k) (hci : CI X.C w) (a : Addr) (ha : a.spot = none) (vs : List Value) (i : Nat)
    (hne : ∀ j, j < vs.length → ¬ O (a.add (i + j)) ∧ X.C (a.add (i + j)) = none) (hc : ∀ j, j < vs.length → ∃ u, w.cell? (a.add (i + j)) = some u) : BR X (putCells w a vs i) O c k := by
  have own_ne : ∀ {b : Addr} {m n : Nat}, Owns w O b m n → ∀ j, m ≤ j → j < n → ∀ q, q < vs.length → b.add j ≠ a.add (i + q) := fun ho j h1 h2 q hq e =>
    (hne q hq).1 (by rw [← e]; exact (ho j h1 h2).1)
  cases k with
  | cell v =>
    obtain ⟨bi, a0, ws, h1, h2, h3, h4, h5, h6, h7, h8⟩ := h
    exact ⟨bi, a0, ws, h1, h2, h3, h4, h5, h6, h7.put i (fun j q hj hq => own_ne h8 j (Nat.zero_le _) hj q hq), h8.put a ha vs i hc⟩
  | arr g s ro l =>
    obtain ⟨bi, h1, h2, h3, h4, h5, h6⟩ := h
    refine ⟨bi, h1, h2, h3, h4, h5, h6.imp id ?_⟩
    rintro ⟨e, a0, wss, h7, h8, h9, h10, h11, h12, h13⟩
    refine ⟨e, a0, wss, h7, h8, h9, h10, h11.put i (fun j q hj hq he => ?_), h12, h13.put a ha vs i hc⟩
    have hlen : wss.flatten.length = l.length * s := by rw [Even.len h10, (RELs_iff.1 h9).len]
    by_cases hr : j < ro * s
    · have hx : X.C (a0.add j) = some wss.flatten[j] := h12 j _ (by rw [List.getElem?_take, if_pos hr]; simp [hj])
      rw [he, (hne q hq).2] at hx; cases hx
    · have : l.length * s ≤ bi.cap * s := Nat.mul_le_mul_right _ h4.1
      exact own_ne h13 j (by omega) (by omega) q hq he
  | arv g s l =>
    obtain ⟨bi, h1, h2, h3, h4, h5, h6⟩ := h
    refine ⟨bi, h1, h2, h3, h4, h5, h6.imp id ?_⟩
    rintro ⟨e, a0, wss, h7, h8, h9, h10, h11, h12⟩
    have hlen : wss.flatten.length = l.length * s := by rw [Even.len h10, (VRELs_iff.1 h9).len]
    have : l.length * s ≤ bi.cap * s := Nat.mul_le_mul_right _ h4
    exact ⟨e, a0, wss, h7, h8, h9, h10, h11.put i (fun j q hj hq => own_ne h12 j (Nat.zero_le _) (by omega) q hq), h12.put a ha vs i hc⟩
  | mp es =>
    obtain ⟨bi, r, ms, ck, h1, h2, h3, h4, h5, h6, h7⟩ := h
    exact ⟨bi, r, ms, ck, h1, h2, h3, h4, putCells_obj a rfl vs w i h5, h6, h7⟩
  | bld T e s =>
    obtain ⟨bi, r, h1, h2, h3, h4, h5⟩ := h
    refine ⟨bi, r, h1, h2, h3, h4, h5.kept (fun g hO _ => putCells_block a g vs w i fun hv e => ?_) (fun _ o => o)⟩
    exact (hne 0 hv).1 (hO _ (by rw [Addr.add_block]; exact e))
  | lp f t ps asg body =>
    obtain ⟨bi, l, r, h1, h2, h3, h4, h5, h6, h7⟩ := h
    exact ⟨bi, l, r, h1, h2, h3, h4, putCells_obj a rfl vs w i h5, h6, h7⟩

theorem CI.put {C : IV} {w : World} (h : CI C w) (a : Addr) (vs : List Value) (i : Nat) (hne : ∀ j, j < vs.length → C (a.add (i + j)) = none) : CI C (putCells w a vs i) := fun x v e => by
  rw [putCells_other a vs w i x (fun j hj he => by have := hne j hj; rw [← he, e] at this; cases this)]
  exact h x v e

/-- A store into places of block b, whose content then is k. M may say something new of b. -/
theorem HR.put {B : Nat} {X Y : Cx} {O : Nat → Addr → Prop} {w : World} {h : Heap} (hr : HR B X O w h) {b : Nat} (hb : b < h.length) (hXY : X.le h.length Y) (hC : Y.C = X.C) (hM : ∀ c, c ≠ b → Y.M c = X.M c) (hlt : Y.lt h.length)
    (a : Addr) (ha : a.spot = none) (vs : List Value) (i : Nat) (hO : ∀ j, j < vs.length → O b (a.add (i + j))) (hc : ∀ j, j < vs.length → ∃ u, w.cell? (a.add (i + j)) = some u) (k : Blk) (hbr : BR Y (putCells w a vs i) (O b) b k) :
    HR B Y O (putCells w a vs i) (hput h b k) := by
  refine ⟨fun c k' e => ?_, fun c x o => ?_, hr.dis, fun c bi e => ?_, ?_, ?_⟩
  · rw [hget_hput h b c k (Nat.le_of_lt hb)] at e
    by_cases hcb : c = b
    · subst hcb; simp only [if_true] at e; cases e; exact hbr
    · simp only [if_neg hcb] at e
      have h1 := (hr.blk c k' e).put hr.ci a ha vs i (fun j hj => ⟨fun o => hcb (hr.dis c b _ o (hO j hj)), (hr.own b _ (hO j hj)).2.2⟩) hc
      exact h1.later hr.lt hXY (hM c hcb) (.refl _) (fun _ h => h)
  · rw [putCells_size, hC]; exact hr.own c x o
  · rw [hput_len, if_pos hb]; exact hlt c bi e
  · rw [hC]; exact hr.ci.put a vs i (fun j hj => (hr.own b _ (hO j hj)).2.2)
  · rw [putCells_size]; exact hr.wb

theorem FR.put {B : Nat} {X Y : Cx} {O : Nat → Addr → Prop} {w : World} {h : Heap} (hr : HR B X O w h) {b : Nat} {k0 : Blk} (hb0 : hget h b = some k0) (hM : ∀ c, c ≠ b → Y.M c = X.M c)
    (a : Addr) (vs : List Value) (i : Nat) (hO : ∀ j, j < vs.length → O b (a.add (i + j))) (k : Blk) : FR X O w h Y O (putCells w a vs i) (hput h b k) := by
  have hne : ∀ c bj, X.M c = some bj → hget h c = none → c ≠ b := fun c bj _ hn hc => by subst hc; rw [hb0] at hn; cases hn
  have hoth : ∀ c bj, X.M c = some bj → hget h c = none → ∀ x, O c x → ∀ j, j < vs.length → x ≠ a.add (i + j) := fun c bj e hn x o j hj he => by
    subst he; exact hne c bj e hn (hr.dis c b _ o (hO j hj))
  refine ⟨fun c bj e hn => ?_, fun c bj e hn => ?_, fun _ _ _ _ _ o => o, fun c bj e hn x o v ev => ⟨?_, ?_⟩, fun c bj e hn x o ob eo ho => putCells_obj a ho vs w i eo, fun c bj e hn g hg _ => putCells_block a g vs w i fun hv hag => ?_, fun c e => ?_, fun c _ e hn => ?_⟩
  · rw [hget_hput h b c k (Nat.le_of_lt (hget_lt hb0)), if_neg (hne c bj e hn)]; exact hn
  · rw [hM c (hne c bj e hn)]; exact e
  · rw [putCells_other a vs w i x (hoth c bj e hn x o)]; exact ev
  · rw [putCells_frozen]
  · exact hne c bj e hn (hr.dis c b _ (hg (a.add (i + 0)) (by rw [Addr.add_block]; exact hag)) (hO 0 hv))
  · rw [hget_hput h b c k (Nat.le_of_lt (hget_lt hb0))] at e
    split at e
    · cases e
    · exact e
  · rw [hget_hput h b c k (Nat.le_of_lt (hget_lt hb0))] at hn
    split at hn
    · cases hn
    · rename_i hcb; rw [hM c hcb]; exact e
theorem HR.size {B : Nat} {X : Cx} {O : Nat → Addr → Prop} {w : World} {h : Heap} (_ : HR B X O w h) {w' : World} (hb : Below B w w') : w.heap.size ≤ w'.heap.size := hb.size
end Go.As
