/-
  AS: the heap. How the blocks of a running call stand for memory, and what keeps that.
-/
import Derived.Test.YtphcebdhnpbjlaaGreatDoorAsRel
import Derived.Lib.FrozenHead
set_option linter.unusedSectionVars false
set_option linter.unusedSimpArgs false
set_option linter.unusedVariables false
namespace Go.As
open Go.RowKit (Below)

/-! ### lists -/
@[simp] theorem lget_eq {α : Type} (l : List α) (i : Nat) : lget l i = l[i]? := by
  induction l generalizing i with
  | nil => rfl
  | cons a l ih => cases i with
    | zero => rfl
    | succ i => exact (ih i).trans (by simp)
@[simp] theorem llen_eq {α : Type} (l : List α) : llen l = l.length := by
  induction l with
  | nil => rfl
  | cons a l ih => show llen l + 1 = _; rw [ih]; rfl
@[simp] theorem lset_eq {α : Type} (l : List α) (i : Nat) (x : α) : lset l i x = l.set i x := by
  induction l generalizing i with
  | nil => rfl
  | cons a l ih => cases i with
    | zero => rfl
    | succ i => show a :: lset l i x = _; rw [ih]; rfl
@[simp] theorem reps_eq {α : Type} (n : Nat) (x : α) : reps n x = List.replicate n x := by
  induction n with
  | zero => rfl
  | succ n ih => show x :: reps n x = _; rw [ih]; rfl
@[simp] theorem imap_eq (l : List D) : imap l = l.map V.im := by
  induction l with
  | nil => rfl
  | cons a l ih => show V.im a :: imap l = _; rw [ih]; rfl
theorem hget_eq (h : Heap) (b : Nat) : hget h b = (h[b]?).join := by
  unfold hget; rw [lget_eq]; cases h[b]? <;> rfl
theorem hput_cons (b : Option Blk) (r : Heap) (n : Nat) (x : Blk) : hput (b :: r) (n + 1) x = b :: hput r n x := rfl
theorem hput_len (h : Heap) (n : Nat) (x : Blk) : (hput h n x).length = if n < h.length then h.length else h.length + 1 := by
  induction h generalizing n with
  | nil => rfl
  | cons b r ih => cases n with
    | zero => simp [hput]
    | succ n =>
      rw [hput_cons, List.length_cons, ih]; simp only [List.length_cons]; split <;> split <;> omega
theorem hget_hput (h : Heap) (n m : Nat) (x : Blk) (hn : n ≤ h.length) : hget (hput h n x) m = if m = n then some x else hget h m := by
  induction h generalizing n m with
  | nil =>
    obtain rfl : n = 0 := by simpa using hn
    cases m with
    | zero => rfl
    | succ m => simp [hget_eq, hput]
  | cons b r ih => cases n with
    | zero => cases m with
      | zero => simp [hput, hget_eq]
      | succ m => simp [hput, hget_eq]
    | succ n => cases m with
      | zero => simp [hput_cons, hget_eq]
      | succ m =>
        have := ih n m (by simpa using hn)
        simp only [hput_cons, hget_eq, List.getElem?_cons_succ] at this ⊢
        rw [this]; simp
theorem hget_lt {h : Heap} {b : Nat} {k : Blk} (e : hget h b = some k) : b < h.length := by
  rw [hget_eq] at e
  rcases Nat.lt_or_ge b h.length with g | g
  · exact g
  · simp [List.getElem?_eq_none g] at e

/-! ### what memory keeps -/
/-- No block that was there has turned. -/
structure Keep (w w' : World) : Prop where
  block : ∀ r : Nat, r < w.heap.size → w'.heap[r]? = w.heap[r]?
theorem Keep.cell {w w' : World} (k : Keep w w') : ∀ a v, w.cell? a = some v → w'.cell? a = some v := fun a v e =>
  (World.cell?_of_block (w := w) (k.block a.block (World.block_lt_of_cell? w a e))).trans e
theorem Keep.frozen {w w' : World} (k : Keep w w') : ∀ a v, w.cell? a = some v → w'.frozen? a = w.frozen? a := fun a _ e =>
  World.frozen?_of_block (w := w) (k.block a.block (World.block_lt_of_cell? w a e))
theorem Keep.obj {w w' : World} (k : Keep w w') : ∀ (r : Nat) (o : Obj), w.heap[r]? = some o → w'.heap[r]? = some o := fun r _ e =>
  (k.block r (Array.getElem?_eq_some_iff.1 e).1).trans e
theorem Keep.refl (w : World) : Keep w w := ⟨fun _ _ => rfl⟩
theorem size_of_same {w w' : World} (k : ∀ r : Nat, r < w.heap.size → w'.heap[r]? = w.heap[r]?) : w.heap.size ≤ w'.heap.size := by
  rcases Nat.lt_or_ge w'.heap.size w.heap.size with h | h
  · have := k w'.heap.size h
    rw [Array.getElem?_eq_none (Nat.le_refl _), Array.getElem?_eq_getElem h] at this
    cases this
  · exact h
theorem Keep.trans {a b c : World} (h : Keep a b) (k : Keep b c) : Keep a c :=
  ⟨fun r e => (k.block r (Nat.lt_of_lt_of_le e (size_of_same h.block))).trans (h.block r e)⟩
theorem Keep.of_below {w w' : World} (h : Below w.heap.size w w') : Keep w w' := ⟨h.block⟩
theorem below_alloc (w : World) (o : Obj) : Below w.heap.size w (w.alloc o) := (Below.refl _ _).alloc (Nat.le_refl _) o
theorem below_drew (w : World) : Below w.heap.size w w.drew := (Below.refl _ _).drew
theorem Keep.alloc (w : World) (o : Obj) : Keep w (w.alloc o) := .of_below (below_alloc w o)

def CI (C : IV) (w : World) : Prop := ∀ a v, C a = some v → w.cell? a = some v
theorem CI.keep {C : IV} {w w' : World} (h : CI C w) (k : Keep w w') : CI C w' := fun a v e => k.cell a v (h a v e)
theorem cellsAt.keep {w w' : World} {a : Addr} {vs : List Value} (h : cellsAt w.cell? a vs) (k : Keep w w') : cellsAt w'.cell? a vs := fun j v e => k.cell _ v (h j v e)

/-- The places from i on up to n, behind a, are the block's own: they are there and may be written. -/
def Owns (w : World) (O : Addr → Prop) (a : Addr) (i n : Nat) : Prop := ∀ j, i ≤ j → j < n → O (a.add j) ∧ (∃ v, w.cell? (a.add j) = some v) ∧ w.frozen? (a.add j) = false
theorem Owns.keep {w w' : World} {O : Addr → Prop} {a : Addr} {i n : Nat} (h : Owns w O a i n) (k : Keep w w') : Owns w' O a i n := fun j h1 h2 =>
  let ⟨o, ⟨v, e⟩, f⟩ := h j h1 h2
  ⟨o, ⟨v, k.cell _ v e⟩, (k.frozen _ v e).trans f⟩

/-- A strings.Builder in a block of its own, and its bytes. -/
def BLD (T e : TypeId) (w : World) (O : Addr → Prop) (r : Nat) (s : List Nat) : Prop :=
  ∃ p v, w.heap[r]? = some (.cells #[p, v] T (0, 0)) ∧ (p = .pointer none ∨ p = .pointer (some ⟨r, 0, none⟩)) ∧ w.ownsRowF 0 e 1 v s.length (s.map fun c => Value.int .u8 (Int.ofNat c)) ∧
    (∀ c ∈ s, c < 256) ∧ v.ownBlock ≠ some r ∧ (∀ a, a.block = r → O a) ∧ (∀ g, v.ownBlock = some g → ∀ a : Addr, a.block = g → O a)
theorem BLD.kept {T e : TypeId} {w w' : World} {O O' : Addr → Prop} {r : Nat} {s : List Nat} (h : BLD T e w O r s) (hk : ∀ g, (∀ a : Addr, a.block = g → O a) → g < w.heap.size → w'.heap[g]? = w.heap[g]?) (hO : ∀ a, O a → O' a) : BLD T e w' O' r s := by
  obtain ⟨p, v, h1, h2, h3, h4, h5, h6, h7⟩ := h
  refine ⟨p, v, (hk r h6 (Array.getElem?_eq_some_iff.1 h1).1).trans h1, h2, ⟨h3.1, ?_⟩, h4, h5, fun a e => hO a (h6 a e), fun g e a ea => hO a (h7 g e a ea)⟩
  rcases h3.2 with h | ⟨g, cap, cur, fz, q1, q2, q3, q4⟩
  · exact .inl h
  · refine .inr ⟨g, cap, cur, fz, q1, q2, (hk g (h7 g ?_) (Array.getElem?_eq_some_iff.1 q3).1).trans q3, q4⟩
    subst q1; rfl

/-- Code that has been looked at. -/
class Gh where
  K : Nat → Nat → Code → Prop
variable [Gh]
/-- What a range over a function that runs is: the loop's record. -/
structure LpR (X : Cx) (f : Nat) (t : Tm) (ps : List Nat) (asg body : Code) (r : Loop) : Prop where
  qst : r.state = .ready
  qpend : r.pending = none
  qps : r.params.toList = ps
  qasg : r.assign = asg
  qbody : r.body = body
  qt : ∀ i, VREL X (t.get i) true [r.tmps.getD i undef]
  qlt : ∀ p ∈ ps, p < r.tmps.size
  k1 : Gh.K f r.tmps.size asg
  k2 : Gh.K f r.tmps.size body
theorem LpR.mono {n : Nat} {X Y : Cx} {f : Nat} {t : Tm} {ps : List Nat} {asg body : Code} {r : Loop} (h : LpR X f t ps asg body r) (hl : ∀ i, (t.get i).low n) (hxy : X.le n Y) : LpR Y f t ps asg body r :=
  ⟨h.qst, h.qpend, h.qps, h.qasg, h.qbody, fun i => (h.qt i).mono hxy _ _ _ (hl i), h.qlt, h.k1, h.k2⟩

/-- Entries of a map. -/
def ENT (X : Cx) : List (D × V) → List MapEntry → Prop
  | [], ms => ms = []
  | e :: es, ms => ∃ m r, ms = m :: r ∧ REL X.C e.1 true [m.key] ∧ VREL X e.2 true [m.val] ∧ ENT X es r

def BR (X : Cx) (w : World) (O : Addr → Prop) (b : Nat) : Blk → Prop
  | .cell v => ∃ bi a0 ws, X.M b = some bi ∧ bi.g = 0 ∧ bi.fix = true ∧ bi.base = some a0 ∧ a0.spot = none ∧ VREL X v false ws ∧ cellsAt w.cell? a0 ws ∧ Owns w O a0 0 ws.length
  | .arr g s ro l => ∃ bi, X.M b = some bi ∧ bi.g = g ∧ bi.fix = false ∧ (l.length ≤ bi.cap ∧ ro ≤ l.length) ∧ bi.cap ≤ LMX ∧ (bi.cap = 0 ∨ (bi.s = s ∧ ∃ a0 wss, bi.base = some a0 ∧ a0.spot = none ∧
      RELs X.C l false wss ∧ (∀ ws ∈ wss, ws.length = s) ∧ cellsAt w.cell? a0 wss.flatten ∧ cellsAt X.C a0 (wss.flatten.take (ro * s)) ∧ Owns w O a0 (ro * s) (bi.cap * s)))
  | .arv g s l => ∃ bi, X.M b = some bi ∧ bi.g = g ∧ bi.fix = false ∧ l.length ≤ bi.cap ∧ bi.cap ≤ LMX ∧ (bi.cap = 0 ∨ (bi.s = s ∧ ∃ a0 wss, bi.base = some a0 ∧ a0.spot = none ∧
      VRELs X l false wss ∧ (∀ ws ∈ wss, ws.length = s) ∧ cellsAt w.cell? a0 wss.flatten ∧ Owns w O a0 0 (bi.cap * s)))
  | .mp es => ∃ bi r ms ck, X.M b = some bi ∧ bi.g = 0 ∧ bi.fix = true ∧ bi.base = some ⟨r, 0, none⟩ ∧ w.heap[r]? = some (.map ms ck) ∧ O ⟨r, 0, none⟩ ∧ ENT X es ms.toList
  | .bld T e s => ∃ bi r, X.M b = some bi ∧ bi.g = 0 ∧ bi.fix = true ∧ bi.base = some ⟨r, 0, none⟩ ∧ BLD T e w O r s
  | .lp f t ps asg body => ∃ bi l r, X.M b = some bi ∧ bi.g = 0 ∧ bi.fix = true ∧ bi.base = some ⟨l, 0, none⟩ ∧ w.heap[l]? = some (.loop r) ∧ O ⟨l, 0, none⟩ ∧ LpR X f t ps asg body r

structure HR (B : Nat) (X : Cx) (O : Nat → Addr → Prop) (w : World) (h : Heap) : Prop where
  blk : ∀ b k, hget h b = some k → BR X w (O b) b k
  own : ∀ b a, O b a → B ≤ a.block ∧ a.block < w.heap.size ∧ X.C a = none
  dis : ∀ b c a, O b a → O c a → b = c
  lt : X.lt h.length
  ci : CI X.C w
  wb : B ≤ w.heap.size

def Blk.lows (n : Nat) : Blk → Prop
  | .cell v => v.low n
  | .arr _ _ _ _ => True
  | .arv _ _ l => V.lows n l
  | .mp es => ∀ e ∈ es, e.2.low n
  | .bld _ _ _ => True
  | .lp _ t _ _ _ => ∀ i, (t.get i).low n

theorem ENT.mono {n : Nat} {X Y : Cx} (h : X.le n Y) : ∀ {es : List (D × V)} {ms : List MapEntry}, (∀ e ∈ es, e.2.low n) → ENT X es ms → ENT Y es ms
  | [], _, _, k => by simpa [ENT] using k
  | e :: es, _, hl, k => by
    simp only [ENT] at k ⊢
    obtain ⟨m, r, e1, h1, h2, h3⟩ := k
    exact ⟨m, r, e1, h1.mono h.C, h2.mono h _ _ _ (hl _ (by simp)), ENT.mono h (fun x hx => hl x (by simp [hx])) h3⟩
theorem ENT.low {n : Nat} {X : Cx} (hX : X.lt n) : ∀ {es : List (D × V)} {ms : List MapEntry}, ENT X es ms → ∀ e ∈ es, e.2.low n
  | [], _, _ => by simp
  | e :: es, _, k => by
    simp only [ENT] at k
    obtain ⟨m, r, e1, h1, h2, h3⟩ := k
    intro x hx
    rcases List.mem_cons.1 hx with rfl | hx
    · exact VREL.low hX _ _ _ h2
    · exact ENT.low hX h3 x hx

theorem BR.low {n : Nat} {X : Cx} {w : World} {O : Addr → Prop} {b : Nat} {k : Blk} (hX : X.lt n) (h : BR X w O b k) : k.lows n := by
  cases k with
  | cell v => obtain ⟨bi, a0, ws, _, _, _, _, _, h, _⟩ := h; exact VREL.low hX _ _ _ h
  | arr g s ro l => trivial
  | arv g s l =>
    obtain ⟨bi, hM, hg, hf, hl, _, h⟩ := h
    rcases h with h | ⟨_, a0, wss, _, _, h, _⟩
    · have : l = [] := List.eq_nil_of_length_eq_zero (by omega)
      subst this; simp [Blk.lows, V.lows]
    · exact VRELs.low hX _ _ _ h
  | mp es => obtain ⟨bi, r, ms, ck, _, _, _, _, _, _, h⟩ := h; exact ENT.low hX h
  | bld => trivial
  | lp f t ps asg body => obtain ⟨bi, l, r, _, _, _, _, _, _, h⟩ := h; exact fun i => VREL.low hX _ _ _ (h.qt i)

/-- A block that nothing has touched. -/
theorem BR.later {n : Nat} {X Y : Cx} {w w' : World} {O O' : Addr → Prop} {b : Nat} {k : Blk} (h : BR X w O b k) (hX : X.lt n) (hxy : X.le n Y) (hM : Y.M b = X.M b) (hk : Keep w w') (hO : ∀ a, O a → O' a) : BR Y w' O' b k := by
  have hlow := h.low hX
  cases k with
  | cell v =>
    obtain ⟨bi, a0, ws, h1, h2, h3, h4, h5, h6, h7, h8⟩ := h
    exact ⟨bi, a0, ws, hM.trans h1, h2, h3, h4, h5, h6.mono hxy _ _ _ hlow, h7.keep hk, fun j a b => let ⟨x, y⟩ := h8.keep hk j a b; ⟨hO _ x, y⟩⟩
  | arr g s ro l =>
    obtain ⟨bi, h1, h2, h3, h4, h5, h6⟩ := h
    refine ⟨bi, hM.trans h1, h2, h3, h4, h5, h6.imp id ?_⟩
    rintro ⟨e, a0, wss, h7, h8, h9, h10, h11, h12, h13⟩
    exact ⟨e, a0, wss, h7, h8, h9.mono hxy.C, h10, h11.keep hk, h12.mono hxy.C, fun j a b => let ⟨x, y⟩ := h13.keep hk j a b; ⟨hO _ x, y⟩⟩
  | arv g s l =>
    obtain ⟨bi, h1, h2, h3, h4, h5, h6⟩ := h
    refine ⟨bi, hM.trans h1, h2, h3, h4, h5, h6.imp id ?_⟩
    rintro ⟨e, a0, wss, h7, h8, h9, h10, h11, h12⟩
    exact ⟨e, a0, wss, h7, h8, h9.mono hxy _ _ _ hlow, h10, h11.keep hk, fun j a b => let ⟨x, y⟩ := h12.keep hk j a b; ⟨hO _ x, y⟩⟩
  | mp es =>
    obtain ⟨bi, r, ms, ck, h1, h2, h3, h4, h5, h6, h7⟩ := h
    exact ⟨bi, r, ms, ck, hM.trans h1, h2, h3, h4, hk.obj _ _ h5, hO _ h6, h7.mono hxy hlow⟩
  | bld T e s =>
    obtain ⟨bi, r, h1, h2, h3, h4, h5⟩ := h
    exact ⟨bi, r, hM.trans h1, h2, h3, h4, h5.kept (fun g _ hg => hk.block g hg) hO⟩
  | lp f t ps asg body =>
    obtain ⟨bi, l, r, h1, h2, h3, h4, h5, h6, h7⟩ := h
    exact ⟨bi, l, r, hM.trans h1, h2, h3, h4, hk.obj _ _ h5, hO _ h6, h7.mono hlow hxy⟩

/-- Memory has grown; no block has. -/
theorem HR.keep {B : Nat} {X : Cx} {O : Nat → Addr → Prop} {w w' : World} {h : Heap} (hr : HR B X O w h) (hk : Keep w w') (hw : w.heap.size ≤ w'.heap.size) : HR B X O w' h :=
  ⟨fun b k e => (hr.blk b k e).later hr.lt (.refl _ _) rfl hk (fun _ h => h), fun b a o => let ⟨x, y, z⟩ := hr.own b a o; ⟨x, Nat.lt_of_lt_of_le y hw, z⟩, hr.dis, hr.lt, hr.ci.keep hk, Nat.le_trans hr.wb hw⟩

/-- What is hidden stays: a block that is known, but not in sight, is not touched. -/
structure FR (X : Cx) (O : Nat → Addr → Prop) (w : World) (h : Heap) (X' : Cx) (O' : Nat → Addr → Prop) (w' : World) (h' : Heap) : Prop where
  hid : ∀ b bi, X.M b = some bi → hget h b = none → hget h' b = none
  M : ∀ b bi, X.M b = some bi → hget h b = none → X'.M b = some bi
  own : ∀ b bi, X.M b = some bi → hget h b = none → ∀ a, O b a → O' b a
  cell : ∀ b bi, X.M b = some bi → hget h b = none → ∀ a, O b a → ∀ v, w.cell? a = some v → w'.cell? a = some v ∧ w'.frozen? a = w.frozen? a
  obj : ∀ b bi, X.M b = some bi → hget h b = none → ∀ r : Nat, O b ⟨r, 0, none⟩ → ∀ o, w.heap[r]? = some o → o.isCells = false → w'.heap[r]? = some o
  blk : ∀ b bi, X.M b = some bi → hget h b = none → ∀ g, (∀ a : Addr, a.block = g → O b a) → g < w.heap.size → w'.heap[g]? = w.heap[g]?
  vis : ∀ b, hget h' b = none → hget h b = none
  unk : ∀ b, b < h.length → X.M b = none → hget h' b = none → X'.M b = none
theorem FR.refl (X : Cx) (O : Nat → Addr → Prop) (w : World) (h : Heap) : FR X O w h X O w h :=
  ⟨fun _ _ _ e => e, fun _ _ e _ => e, fun _ _ _ _ _ o => o, fun _ _ _ _ _ _ _ e => ⟨e, rfl⟩, fun _ _ _ _ _ _ _ e _ => e, fun _ _ _ _ _ _ _ => rfl, fun _ e => e, fun _ _ e _ => e⟩
theorem FR.trans {X Y Z : Cx} {O O' O'' : Nat → Addr → Prop} {a b c : World} {h h' h'' : Heap} (f : FR X O a h Y O' b h') (g : FR Y O' b h' Z O'' c h'') (hs : a.heap.size ≤ b.heap.size) (hl : h.length ≤ h'.length) : FR X O a h Z O'' c h'' where
  hid := fun n bi e hn => g.hid n bi (f.M n bi e hn) (f.hid n bi e hn)
  M := fun n bi e hn => g.M n bi (f.M n bi e hn) (f.hid n bi e hn)
  own := fun n bi e hn x o => g.own n bi (f.M n bi e hn) (f.hid n bi e hn) x (f.own n bi e hn x o)
  cell := fun n bi e hn x o v ev =>
    let ⟨p, q⟩ := f.cell n bi e hn x o v ev
    let ⟨p', q'⟩ := g.cell n bi (f.M n bi e hn) (f.hid n bi e hn) x (f.own n bi e hn x o) v p
    ⟨p', q'.trans q⟩
  obj := fun n bi e hn x o ob eo ho => g.obj n bi (f.M n bi e hn) (f.hid n bi e hn) x (f.own n bi e hn _ o) ob (f.obj n bi e hn x o ob eo ho) ho
  blk := fun n bi e hn k ho hk => (g.blk n bi (f.M n bi e hn) (f.hid n bi e hn) k (fun a ea => f.own n bi e hn a (ho a ea)) (Nat.lt_of_lt_of_le hk hs)).trans (f.blk n bi e hn k ho hk)
  vis := fun n e => f.vis n (g.vis n e)
  unk := fun n hln e hn => g.unk n (Nat.lt_of_lt_of_le hln hl) (f.unk n hln e (g.vis n hn)) hn
theorem FR.keep {X : Cx} {O : Nat → Addr → Prop} {w w' : World} {h : Heap} (hk : Keep w w') : FR X O w h X O w' h :=
  ⟨fun _ _ _ e => e, fun _ _ e _ => e, fun _ _ _ _ _ o => o, fun _ _ _ _ _ _ _ e => ⟨hk.cell _ _ e, hk.frozen _ _ e⟩, fun _ _ _ _ _ _ _ e _ => hk.obj _ _ e, fun _ _ _ _ g _ hg => hk.block g hg, fun _ e => e, fun _ _ e _ => e⟩

/-- A hidden block, behind a step that does not see it. -/
theorem BR.framed {n : Nat} {X Y : Cx} {w w' : World} {O O' : Nat → Addr → Prop} {h h' : Heap} (f : FR X O w h Y O' w' h') (hci : CI Y.C w') {b : Nat} {bi : BI} (hb : X.M b = some bi) (hh : hget h b = none)
    {k : Blk} (r : BR X w (O b) b k) (hX : X.lt n) (hxy : X.le n Y) : BR Y w' (O' b) b k := by
  have hlow := r.low hX
  have hM : Y.M b = X.M b := (f.M b bi hb hh).trans hb.symm
  have hown : ∀ {a : Addr} {i n : Nat}, Owns w (O b) a i n → Owns w' (O' b) a i n := fun ho j h1 h2 =>
    let ⟨o, ⟨v, e⟩, fz⟩ := ho j h1 h2
    let ⟨p, q⟩ := f.cell b bi hb hh _ o v e
    ⟨f.own b bi hb hh _ o, ⟨v, p⟩, q.trans fz⟩
  cases k with
  | cell v =>
    obtain ⟨bi, a0, ws, h1, h2, h3, h4, h5, h6, h7, h8⟩ := r
    exact ⟨bi, a0, ws, hM.trans h1, h2, h3, h4, h5, h6.mono hxy _ _ _ hlow, fun j v e => (f.cell b _ hb hh _ (h8 j (Nat.zero_le _) (List.getElem?_eq_some_iff.1 e).1).1 v (h7 j v e)).1, hown h8⟩
  | arr g s ro l =>
    obtain ⟨bi, h1, h2, h3, h4, h5, h6⟩ := r
    refine ⟨bi, hM.trans h1, h2, h3, h4, h5, h6.imp id ?_⟩
    rintro ⟨e, a0, wss, h7, h8, h9, h10, h11, h12, h13⟩
    refine ⟨e, a0, wss, h7, h8, h9.mono hxy.C, h10, fun j v ev => ?_, h12.mono hxy.C, hown h13⟩
    by_cases hj : j < ro * s
    · exact hci _ _ (hxy.C _ _ (h12 j v (by rw [List.getElem?_take, if_pos hj]; exact ev)))
    · have hlen : wss.flatten.length = l.length * s := by
        have : wss.flatten.length = wss.length * s := by
          have key : ∀ l : List (List Value), (∀ ws ∈ l, ws.length = s) → l.flatten.length = l.length * s := by
            intro l hl
            induction l with
            | nil => simp
            | cons a l ih => rw [List.flatten_cons, List.length_append, hl a (by simp), ih (fun x hx => hl x (by simp [hx])), List.length_cons, Nat.add_mul, Nat.one_mul, Nat.add_comm]
          exact key wss h10
        rw [this]
        have key2 : ∀ {l : List D} {wss : List (List Value)}, RELs X.C l false wss → wss.length = l.length := by
          intro l
          induction l with
          | nil => intro wss h; simp only [RELs] at h; subst h; rfl
          | cons a l ih => intro wss h; simp only [RELs] at h; obtain ⟨ws, r, e, _, h2⟩ := h; subst e; simp [ih h2]
        rw [key2 h9]
      have hj2 : j < bi.cap * s := by
        have := (List.getElem?_eq_some_iff.1 ev).1
        rw [hlen] at this
        exact Nat.lt_of_lt_of_le this (Nat.mul_le_mul_right _ h4.1)
      exact (f.cell b _ hb hh _ (h13 j (by omega) hj2).1 v (h11 j v ev)).1
  | arv g s l =>
    obtain ⟨bi, h1, h2, h3, h4, h5, h6⟩ := r
    refine ⟨bi, hM.trans h1, h2, h3, h4, h5, h6.imp id ?_⟩
    rintro ⟨e, a0, wss, h7, h8, h9, h10, h11, h12⟩
    refine ⟨e, a0, wss, h7, h8, h9.mono hxy _ _ _ hlow, h10, fun j v ev => ?_, hown h12⟩
    have hlen : wss.flatten.length = l.length * s := by
      have key : ∀ l : List (List Value), (∀ ws ∈ l, ws.length = s) → l.flatten.length = l.length * s := by
        intro l hl
        induction l with
        | nil => simp
        | cons a l ih => rw [List.flatten_cons, List.length_append, hl a (by simp), ih (fun x hx => hl x (by simp [hx])), List.length_cons, Nat.add_mul, Nat.one_mul, Nat.add_comm]
      rw [key wss h10]
      have key2 : ∀ {l : List V} {wss : List (List Value)}, VRELs X l false wss → wss.length = l.length := by
        intro l
        induction l with
        | nil => intro wss h; simp only [VRELs] at h; subst h; rfl
        | cons a l ih => intro wss h; simp only [VRELs] at h; obtain ⟨ws, r, e, _, h2⟩ := h; subst e; simp [ih h2]
      rw [key2 h9]
    have hj2 : j < bi.cap * s := by
      have := (List.getElem?_eq_some_iff.1 ev).1
      rw [hlen] at this
      exact Nat.lt_of_lt_of_le this (Nat.mul_le_mul_right _ h4)
    exact (f.cell b _ hb hh _ (h12 j (Nat.zero_le _) hj2).1 v (h11 j v ev)).1
  | mp es =>
    obtain ⟨bi, r, ms, ck, h1, h2, h3, h4, h5, h6, h7⟩ := r
    exact ⟨bi, r, ms, ck, hM.trans h1, h2, h3, h4, f.obj b _ hb hh _ h6 _ h5 rfl, f.own b _ hb hh _ h6, h7.mono hxy hlow⟩
  | bld T e s =>
    obtain ⟨bi, r, h1, h2, h3, h4, h5⟩ := r
    exact ⟨bi, r, hM.trans h1, h2, h3, h4, h5.kept (fun g hO hg => f.blk b _ hb hh g hO hg) (fun a o => f.own b _ hb hh a o)⟩
  | lp f0 t ps asg body =>
    obtain ⟨bi, l, r, h1, h2, h3, h4, h5, h6, h7⟩ := r
    exact ⟨bi, l, r, hM.trans h1, h2, h3, h4, f.obj b _ hb hh _ h6 _ h5 rfl, f.own b _ hb hh _ h6, h7.mono hlow hxy⟩

/-- More is immutable. -/
def Cx.withC (X : Cx) (C : IV) : Cx := { X with C }
theorem HR.more {B : Nat} {X : Cx} {O : Nat → Addr → Prop} {w : World} {h : Heap} (hr : HR B X O w h) {C : IV} (hC : X.C.le C) (hci : CI C w) (hn : ∀ b a, O b a → C a = none) : HR B (X.withC C) O w h :=
  ⟨fun b k e => (hr.blk b k e).later hr.lt ⟨hC, fun _ bi _ e => ⟨bi, e, Nat.le_refl _, fun _ => rfl, fun _ => rfl⟩, fun _ _ e => e⟩ rfl (.refl w) (fun _ h => h),
    fun b a o => ⟨(hr.own b a o).1, (hr.own b a o).2.1, hn b a o⟩, hr.dis, hr.lt, hci, hr.wb⟩
end Go.As
