/-
  AS: values in cells: children, paths, replacing a part.
-/
import Derived.Test.YtphcebdhnpbjlaaGreatDoorAsMem
set_option linter.unusedSectionVars false
set_option linter.unusedSimpArgs false
set_option linter.unusedVariables false
namespace Go.As
variable [Gh]

theorem allIm_some : ∀ {l : List V} {ds : List D}, allIm l = some ds → l = ds.map V.im
  | [], ds, h => by simp [allIm] at h; subst h; rfl
  | v :: l, ds, h => by
    cases v <;> simp only [allIm] at h <;> try contradiction
    rename_i d
    cases hr : allIm l with
    | none => simp only [allIm] at hr; rw [hr] at h; contradiction
    | some es =>
      have := allIm_some hr
      simp only [allIm] at hr; rw [hr] at h; simp at h; subst h; simp [this]
theorem VRELs_im {X : Cx} {m : Bool} {ds : List D} {wss : List (List Value)} : VRELs X (ds.map V.im) m wss ↔ RELs X.C ds m wss := by
  rw [VRELs_iff, RELs_iff, ← All2.map_left]; simp only [VREL]
theorem VREL_mkAgg {X : Cx} {w : Nat} {l : List V} {m : Bool} {ws : List Value} (h : VREL X (.agg w l) m ws) : VREL X (mkAgg w l) m ws := by
  unfold mkAgg
  cases hl : allIm l with
  | none => exact h
  | some ds =>
    have := allIm_some hl; subst this
    cases m <;> simp only [VREL, REL] at h ⊢ <;> simpa only [VRELs_im] using h
theorem VREL_mkTup {X : Cx} {l : List V} {ws : List Value} (h : VREL X (.tup l) true ws) : VREL X (mkTup l) true ws := by
  unfold mkTup
  cases hl : allIm l with
  | none => exact h
  | some ds =>
    have := allIm_some hl; subst this
    simp only [VREL, REL] at h ⊢; simpa only [VRELs_im] using h
theorem VREL_imAgg {X : Cx} {w : Nat} {l : List D} {m : Bool} {ws : List Value} : VREL X (.im (.agg w l)) m ws ↔ VREL X (.agg w (l.map V.im)) m ws := by
  cases m <;> simp only [VREL, REL, VRELs_im]
theorem mkAgg_wd (w : Nat) (l : List V) : (mkAgg w l).wd = w := by unfold mkAgg; cases allIm l <;> rfl

theorem VREL.wd {X : Cx} : ∀ {v : V} {ws : List Value}, VREL X v false ws → ws.length = v.wd
  | .undef, _, h => by simp [VREL] at h
  | .im d, ws, h => by
    simp only [VREL] at h
    cases d <;> simp only [REL, V.wd, D.wd] at h ⊢ <;> try contradiction
    all_goals first
      | (subst h; rfl)
      | (obtain ⟨h, _⟩ := h; subst h; rfl)
      | (obtain ⟨_, h, _⟩ := h; subst h; rfl)
      | (obtain ⟨_, _, h, _⟩ := h; subst h; rfl)
      | (obtain ⟨_, _, _, h, _⟩ := h; subst h; rfl)
      | (obtain ⟨_, _, _, h⟩ := h; exact h)
  | .agg w l, ws, h => by simp only [VREL] at h; obtain ⟨_, _, _, h⟩ := h; exact h
  | .tup _, _, h => by simp [VREL] at h
  | .own .., _, h => by simp only [VREL] at h; obtain ⟨_, h, _⟩ := h; subst h; rfl
  | .full _, _, h => by simp only [VREL] at h; obtain ⟨_, h, _⟩ := h; subst h; rfl
  | .ptr .., _, h => by simp only [VREL] at h; obtain ⟨_, h, _⟩ := h; subst h; rfl
  | .fn .., _, h => by simp only [VREL] at h; obtain ⟨_, _, _, _, h, _⟩ := h; subst h; rfl
  | .ifc .., _, h => by simp only [VREL] at h; obtain ⟨_, h, _⟩ := h; subst h; rfl
  | .mp _, _, h => by simp only [VREL] at h; obtain ⟨_, _, h, _⟩ := h; subst h; rfl
  | .yld _, _, h => by simp only [VREL] at h; obtain ⟨_, h, _⟩ := h; subst h; rfl

/-- Is it a struct or an array? -/
def V.isAgg : V → Bool
  | .im (.agg _ _) | .agg _ _ => true
  | _ => false
def V.plain : V → Bool
  | .undef | .tup _ | .im (.tup _) => false
  | _ => true

theorem FullR.one {C : IV} {l : List D} {v : Value} (h : FullR C l v) : v.oneCell' = true := by obtain ⟨a, n, e, _⟩ := h; subst e; rfl
/-- A value that is neither a struct nor an array lies in one cell. -/
theorem VREL.one {X : Cx} {v : V} (hp : v.plain = true) (ha : v.isAgg = false) {m : Bool} {ws : List Value} (h : VREL X v m ws) : ∃ x, ws = [x] ∧ x.oneCell' = true ∧ ∀ m', VREL X v m' [x] := by
  cases v with
  | undef => simp [V.plain] at hp
  | im d =>
    cases d <;> simp only [VREL, REL] at h <;> simp only [V.plain, V.isAgg] at hp ha <;> try contradiction
    all_goals first
      | (subst h; refine ⟨_, rfl, rfl, fun m' => ?_⟩; simp only [VREL, REL]; done)
      | (have r := h.2; have e := h.1; subst e; refine ⟨_, rfl, rfl, fun m' => ?_⟩; simp only [VREL, REL]; first | exact ⟨rfl, r⟩ | exact ⟨trivial, r⟩ | exact r)
      | (obtain ⟨b, e, r⟩ := h; subst e; refine ⟨_, rfl, rfl, fun m' => ?_⟩; simp only [VREL, REL]; exact ⟨b, rfl, r⟩)
      | (obtain ⟨b, c, e, r⟩ := h; subst e; refine ⟨_, rfl, rfl, fun m' => ?_⟩; simp only [VREL, REL]; exact ⟨b, c, rfl, r⟩)
      | (obtain ⟨b, c, d, e, r⟩ := h; subst e; refine ⟨_, rfl, rfl, fun m' => ?_⟩; simp only [VREL, REL]; exact ⟨b, c, d, rfl, r⟩)
  | agg w l => simp [V.isAgg] at ha
  | tup l => simp [V.plain] at hp
  | own b g off len lim => simp only [VREL] at h; obtain ⟨x, e, r⟩ := h; exact ⟨x, e, r.one, fun m' => by simp only [VREL]; exact ⟨x, rfl, r⟩⟩
  | full l => simp only [VREL] at h; obtain ⟨x, e, r⟩ := h; exact ⟨x, e, r.one, fun m' => by simp only [VREL]; exact ⟨x, rfl, r⟩⟩
  | ptr b g p => simp only [VREL] at h; obtain ⟨x, e, r⟩ := h; exact ⟨x, e, r.one, fun m' => by simp only [VREL]; exact ⟨x, rfl, r⟩⟩
  | fn f a c => simp only [VREL] at h; obtain ⟨fs, cs, w1, w2, e, r⟩ := h; subst e; exact ⟨_, rfl, rfl, fun m' => by simp only [VREL]; exact ⟨fs, cs, w1, w2, rfl, r⟩⟩
  | ifc t v => simp only [VREL] at h; obtain ⟨x, e, r⟩ := h; subst e; exact ⟨_, rfl, rfl, fun m' => by simp only [VREL]; exact ⟨x, rfl, r⟩⟩
  | mp b => simp only [VREL] at h; obtain ⟨r, bi, e, h⟩ := h; subst e; exact ⟨_, rfl, rfl, fun m' => by simp only [VREL]; exact ⟨r, bi, rfl, h⟩⟩
  | yld i => simp only [VREL] at h; obtain ⟨l, e, r⟩ := h; subst e; exact ⟨_, rfl, rfl, fun m' => by simp only [VREL]; exact ⟨l, rfl, r⟩⟩
theorem VREL.agg_iff {X : Cx} {v : V} (ha : v.isAgg = true) {ws : List Value} : VREL X v true ws ↔ ∃ cs : Array Value, ws = [.agg cs] ∧ VREL X v false cs.toList := by
  have key : ∀ (w : Nat) (l : List V), VREL X (.agg w l) true ws ↔ ∃ cs : Array Value, ws = [.agg cs] ∧ VREL X (.agg w l) false cs.toList := fun w l => by
    simp only [VREL]
    exact ⟨fun ⟨cs, wss, e, h1, h2, h3⟩ => ⟨cs, e, wss, h1, h2, by simpa using h3⟩, fun ⟨cs, e, wss, h1, h2, h3⟩ => ⟨cs, wss, e, h1, h2, by simpa using h3⟩⟩
  cases v with
  | im d => cases d <;> simp only [V.isAgg] at ha <;> try contradiction
            simpa only [VREL_imAgg] using key _ _
  | agg w l => exact key w l
  | _ => simp [V.isAgg] at ha

theorem oneCell_cells {x : Value} (h : x.oneCell' = true) : x.cells = #[x] := by cases x <;> first | rfl | simp [Value.oneCell'] at h
/-- A value as cells. -/
theorem VREL.cells {X : Cx} {v : V} (hp : v.plain = true) {x : Value} (h : VREL X v true [x]) : VREL X v false x.cells.toList := by
  cases ha : v.isAgg with
  | true =>
    obtain ⟨cs, e, r⟩ := (VREL.agg_iff ha).1 h
    cases e; exact r
  | false =>
    obtain ⟨y, e, ho, r⟩ := h.one hp ha
    cases e; rw [oneCell_cells ho]; exact r false

/-! ### children -/
theorem wdsTo_eq (l : List V) (k : Nat) : wdsTo l k = ((l.take k).map V.wd).sum := by
  induction l generalizing k with
  | nil => simp [wdsTo]
  | cons a l ih => cases k with
    | zero => rfl
    | succ k => show a.wd + wdsTo l k = _; rw [ih]; simp
theorem wdsToD_eq (l : List D) (k : Nat) : wdsToD l k = wdsTo (l.map V.im) k := by
  induction l generalizing k with
  | nil => simp [wdsToD, wdsTo]
  | cons a l ih => cases k with
    | zero => rfl
    | succ k => show a.wd + wdsToD l k = (V.im a).wd + wdsTo (l.map V.im) k; rw [ih]; rfl
theorem rows_len {X : Cx} : ∀ {l : List V} {wss : List (List Value)}, VRELs X l false wss → wss.flatten.length = (l.map V.wd).sum
  | [], _, h => by simp only [VRELs] at h; subst h; rfl
  | v :: l, _, h => by
    simp only [VRELs] at h
    obtain ⟨ws, r, e, h1, h2⟩ := h
    subst e; simp [h1.wd, rows_len h2]
theorem VREL.split {X : Cx} {w : Nat} {l : List V} {ws : List Value} (h : VREL X (.agg w l) false ws) {k o : Nat} (ho : wdsTo l k = o) {c : V} (hc : l[k]? = some c) :
    ∃ pre cs post, ws = pre ++ (cs ++ post) ∧ pre.length = o ∧ VREL X c false cs ∧ ∀ c' cs', VREL X c' false cs' → cs'.length = cs.length → VREL X (.agg w (l.set k c')) false (pre ++ (cs' ++ post)) := by
  simp only [VREL] at h
  obtain ⟨wss, e, h2, h3⟩ := h
  have h2' := VRELs_iff.1 h2
  obtain ⟨cs, ec, hcs⟩ := h2'.get hc
  have hk : k < wss.length := (List.getElem?_eq_some_iff.1 ec).1
  have hsplit : wss = wss.take k ++ (cs :: wss.drop (k + 1)) := by
    have : wss.drop k = cs :: wss.drop (k + 1) := by
      rw [List.drop_eq_getElem_cons hk]
      congr 1
      exact (List.getElem?_eq_some_iff.1 ec).2
    rw [← this, List.take_append_drop]
  refine ⟨(wss.take k).flatten, cs, (wss.drop (k + 1)).flatten, ?_, ?_, hcs, fun c' cs' hc' hl => ?_⟩
  · rw [e]; conv => lhs; rw [hsplit]
    simp
  · have := rows_len (X := X) (l := l.take k) (wss := wss.take k) (VRELs_iff.2 (h2'.take k))
    rw [this, ← ho, wdsTo_eq]
  · simp only [VREL]
    refine ⟨wss.set k cs', ?_, VRELs_iff.2 (h2'.set hc'), ?_⟩
    · have : wss.set k cs' = wss.take k ++ (cs' :: wss.drop (k + 1)) := by
        rw [List.set_eq_take_append_cons_drop, if_pos hk]
      rw [this]; simp
    · rw [← h3, e]
      conv => rhs; rw [hsplit]
      simp [hl]

/-- A path leads to a part of the cells. -/
def Part (X : Cx) (v : V) (ws : List Value) (o : Nat) (c : V) (cs : List Value) : Prop :=
  ∃ pre post, ws = pre ++ (cs ++ post) ∧ pre.length = o ∧ VREL X c false cs

theorem kid_part {X : Cx} {v c : V} {k o : Nat} (h : v.kid k o = some c) {ws : List Value} (hv : VREL X v false ws) : ∃ cs, Part X v ws o c cs := by
  have key : ∀ (w : Nat) (l : List V), VREL X (.agg w l) false ws → wdsTo l k = o → l[k]? = some c → ∃ cs, Part X v ws o c cs := fun w l hv ho hc => by
    obtain ⟨pre, cs, post, h1, h2, h3, _⟩ := hv.split ho hc
    exact ⟨cs, pre, post, h1, h2, h3⟩
  unfold V.kid at h
  split at h
  · rename_i w l
    cases hb : Nat.beq (wdsToD l k) o <;> rw [hb] at h <;> simp only [cond_false, cond_true] at h
    · cases h
    · have hb' := Nat.eq_of_beq_eq_true hb
      rw [wdsToD_eq] at hb'
      rw [lget_eq] at h
      exact key w (l.map V.im) (VREL_imAgg.1 hv) hb' (by simpa using h)
  · rename_i w l
    cases hb : Nat.beq (wdsTo l k) o <;> rw [hb] at h <;> simp only [cond_false, cond_true] at h
    · cases h
    · rw [lget_eq] at h
      exact key w l hv (Nat.eq_of_beq_eq_true hb) h
  · cases h

theorem nav_part {X : Cx} : ∀ {p : List (Nat × Nat)} {v c : V}, v.nav p = some c → ∀ {ws : List Value}, VREL X v false ws → ∃ cs, Part X v ws (pathOff p) c cs
  | [], v, c, h, ws, hv => by
    simp only [V.nav] at h; cases h
    exact ⟨ws, [], [], by simp, rfl, hv⟩
  | s :: p, v, c, h, ws, hv => by
    have h' : (V.kid v s.1 s.2).bind (fun v => V.nav v p) = some c := h
    cases hk : V.kid v s.1 s.2 with
    | none => rw [hk] at h'; cases h'
    | some d =>
      rw [hk] at h'
      obtain ⟨ds, pre, post, e1, l1, r1⟩ := kid_part hk hv
      obtain ⟨cs, pre2, post2, e2, l2, r2⟩ := nav_part (p := p) h' r1
      refine ⟨cs, pre ++ pre2, post2 ++ post, ?_, ?_, r2⟩
      · rw [e1, e2]; simp
      · simp only [pathOff] at l2; simp [pathOff, l1, l2]

theorem kids_agg {X : Cx} {v : V} {l : List V} (h : v.kids = some l) {ws : List Value} (hv : VREL X v false ws) : VREL X (.agg v.wd l) false ws := by
  unfold V.kids at h
  split at h
  · cases h; rw [imap_eq]; exact VREL_imAgg.1 hv
  · cases h; exact hv
  · cases h
theorem put_part {X : Cx} {x : V} {xs : List Value} (hx : VREL X x false xs) : ∀ {p : List (Nat × Nat)} {v v' : V}, V.put x p v = some v' → ∀ {ws : List Value}, VREL X v false ws →
    ∃ pre old post, ws = pre ++ (old ++ post) ∧ pre.length = pathOff p ∧ old.length = xs.length ∧ VREL X v' false (pre ++ (xs ++ post)) ∧ v'.wd = v.wd
  | [], v, v', h, ws, hv => by
    have h' : (bif Nat.beq x.wd v.wd then some x else none) = some v' := h
    cases hb : Nat.beq x.wd v.wd <;> rw [hb] at h' <;> simp only [cond_false, cond_true] at h'
    · cases h'
    · cases h'
      have e := Nat.eq_of_beq_eq_true hb
      exact ⟨[], ws, [], by simp, rfl, by rw [hv.wd, hx.wd, e], by simpa using hx, e⟩
  | s :: p, v, v', h, ws, hv => by
    have h' : (v.kids.bind fun l => bif Nat.beq (wdsTo l s.1) s.2 then (lget l s.1).bind fun c => (V.put x p c).map fun c' => mkAgg v.wd (lset l s.1 c') else none) = some v' := h
    cases hk : v.kids with
    | none => rw [hk] at h'; cases h'
    | some l =>
      rw [hk] at h'
      simp only [Option.bind_some, lget_eq, lset_eq] at h'
      cases hb : Nat.beq (wdsTo l s.1) s.2 <;> rw [hb] at h' <;> simp only [cond_false, cond_true] at h'
      · cases h'
      · cases hc : l[s.1]? with
        | none => rw [hc] at h'; cases h'
        | some c =>
          rw [hc] at h'
          simp only [Option.bind_some] at h'
          cases hp : V.put x p c with
          | none => rw [hp] at h'; cases h'
          | some c' =>
            rw [hp] at h'; simp only [Option.map_some, Option.some.injEq] at h'
            subst h'
            obtain ⟨pre, cs, post, e1, l1, r1, f1⟩ := (kids_agg hk hv).split (Nat.eq_of_beq_eq_true hb) hc
            obtain ⟨pre2, old, post2, e2, l2, l3, r2, hw⟩ := put_part hx hp r1
            refine ⟨pre ++ pre2, old, post2 ++ post, ?_, ?_, l3, ?_, mkAgg_wd _ _⟩
            · rw [e1, e2]; simp
            · simp only [pathOff] at l2; simp [pathOff, l1, l2]
            · have := f1 c' (pre2 ++ (xs ++ post2)) r2 (by rw [e2]; simp [l3])
              have := VREL_mkAgg this
              simpa using this
end Go.As
