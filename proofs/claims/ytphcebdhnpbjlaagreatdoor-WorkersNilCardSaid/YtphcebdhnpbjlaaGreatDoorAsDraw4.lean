/-
  AS: operations that no order binds may change places.
-/
import Derived.Test.YtphcebdhnpbjlaaGreatDoorAsDraw3
set_option linter.unusedSectionVars false
set_option linter.unusedSimpArgs false
set_option linter.unusedVariables false
namespace Go.As
variable [Gh]

theorem heap_ext {a b : Heap} (hl : a.length = b.length) (h : ∀ i, hget a i = hget b i) : a = b := by
  refine List.ext_getElem? fun i => ?_
  by_cases hi : i < a.length
  · have := h i
    rw [hget_eq, hget_eq, List.getElem?_eq_getElem hi, List.getElem?_eq_getElem (hl ▸ hi)] at this
    rw [List.getElem?_eq_getElem hi, List.getElem?_eq_getElem (hl ▸ hi)]
    simpa using this
  · rw [List.getElem?_eq_none (by omega), List.getElem?_eq_none (by omega)]
theorem putBlk_len {h : Heap} {i : Nat} {r : Option Blk} (hi : i < h.length) : (putBlk h i r).length = h.length := by
  cases r with
  | none => rfl
  | some b => show (hput h i b).length = _; rw [hput_len, if_pos hi]
theorem hget_putBlk {h : Heap} {i : Nat} {r : Option Blk} (hi : i < h.length) (j : Nat) : hget (putBlk h i r) j = if j = i ∧ r ≠ none then r else hget h j := by
  cases r with
  | none => simp [putBlk]
  | some b => show hget (hput h i b) j = _; rw [hget_hput h i j b (by omega)]; simp
theorem putBlk_comm {h : Heap} {i j : Nat} {r s : Option Blk} (hi : i < h.length) (hj : j < h.length) (hij : i ≠ j) : putBlk (putBlk h i r) j s = putBlk (putBlk h j s) i r := by
  have h1 := putBlk_len (r := r) hi
  have h2 := putBlk_len (r := s) hj
  refine heap_ext ((putBlk_len (by omega)).trans (h1.trans (h2.symm.trans (putBlk_len (by omega)).symm))) fun b => ?_
  rw [hget_putBlk (by omega), hget_putBlk (by omega), hget_putBlk (by omega), hget_putBlk (by omega)]
  by_cases h3 : b = j ∧ s ≠ none
  · have : ¬ (b = i ∧ r ≠ none) := fun h => hij (h.1.symm.trans h3.1)
    rw [if_pos h3, if_neg this]
    rw [if_pos h3]
  · rw [if_neg h3]
    split
    · rfl
    · rfl
theorem hide_put {k i : Nat} {m : List Nat} {h : Heap} {r : Option Blk} (hi : k + i < h.length) (hm : r ≠ none → i ∈ m) : hide k m (putBlk h (k + i) r) = hide k m h := by
  refine heap_ext (by rw [hide_length, hide_length, putBlk_len hi]) fun b => ?_
  rw [hget_hide, hget_hide, hget_putBlk hi]
  by_cases h1 : ∃ j ∈ m, b = k + j
  · rw [if_pos h1, if_pos h1]
  · rw [if_neg h1, if_neg h1, if_neg]
    rintro ⟨e, hr⟩
    exact h1 ⟨i, hm hr, e⟩
theorem hide_take_put {k i n : Nat} {m : List Nat} {h : Heap} {r : Option Blk} (hi : k + i < h.length) (hm : r ≠ none → i ∈ m) : hide k m ((putBlk h (k + i) r).take n) = hide k m (h.take n) := by
  refine heap_ext (by rw [hide_length, hide_length, List.length_take, List.length_take, putBlk_len hi]) fun b => ?_
  rw [hget_hide, hget_hide, hget_take, hget_take, hget_putBlk hi]
  by_cases h1 : ∃ j ∈ m, b = k + j
  · rw [if_pos h1, if_pos h1]
  · have : ¬ (b = k + i ∧ r ≠ none) := fun h => h1 ⟨i, hm h.2, h.1⟩
    rw [if_neg h1, if_neg h1, if_neg this]

section
variable {F : Fence} {P : Program} {B : Nat} {X : Cx} {O : Nat → Addr → Prop} {w : World} {E : Env} {ih : Nat → Nat → Nat → Code → St → Option (Ex × St)}
  {keep : Bool} {ops : Array Oper} {k n i na nb ca cb cls : Nat} {m ma mb : List Nat} {o a b : Oper} {t : Tm} {h h1 h2 : Heap} {lp lp1 lp2 : List Rec} {df df1 df2 : List (Nat × List V)} {u v : V}

/-- Nothing but slots. -/
def Idle (E : Env) (ih : Nat → Nat → Nat → Code → St → Option (Ex × St)) (keep : Bool) (ops : Array Oper) (k n i cls : Nat) (m : List Nat) (o : Oper) (t : Tm) (v : V) : Prop := ∀ h lp df, opX E ih keep ops k n i cls m o t h lp df = some (v, h, lp, df)

theorem opX_off (hg : guardOf ops t o.guard = some false) : Idle E ih keep ops k n i cls m o t (.im (.tup [])) := fun h lp df => by unfold opX; rw [hg]
theorem opX_none (e : opX E ih keep ops k n i cls m o t h lp df = some (v, h1, lp1, df1)) : guardOf ops t o.guard = some false ∨ guardOf ops t o.guard = some true := by
  unfold opX at e
  cases hg : guardOf ops t o.guard with
  | none => rw [hg] at e; cases e
  | some b => cases b <;> simp
theorem opX_idle (e : opX E ih keep ops k n i cls m o t h lp df = some (v, h1, lp1, df1)) (hc : guardOf ops t o.guard = some false ∨ cls = 0) : h1 = h ∧ lp1 = lp ∧ df1 = df ∧ Idle E ih keep ops k n i cls m o t v := by
  rcases opX_none e with hg | hg
  · have := opX_off (E := E) (ih := ih) (keep := keep) (k := k) (n := n) (i := i) (cls := cls) (m := m) hg
    rw [this h lp df] at e
    cases e
    exact ⟨rfl, rfl, rfl, this⟩
  · obtain rfl := hc.resolve_left (by rw [hg]; simp)
    unfold opX at e
    rw [hg] at e
    simp only [Option.map_eq_some_iff] at e
    obtain ⟨r, hr, e⟩ := e
    cases e
    refine ⟨rfl, rfl, rfl, fun h lp df => ?_⟩
    unfold opX
    rw [hg]
    simp only [hr, Option.map_some]

/-- What is simple looks at the region's start. -/
theorem opX_simple (hg : guardOf ops t o.guard = some true) (e : opX E ih keep ops k n i 2 m o t h lp df = some (v, h1, lp1, df1)) : h1 = h ∧ lp1 = lp ∧ df1 = df ∧
    ∀ h' lp' df', hide k m (h'.take (k + n)) = hide k m (h.take (k + n)) → opX E ih keep ops k n i 2 m o t h' lp' df' = some (v, h', lp', df') := by
  unfold opX at e
  rw [hg] at e
  simp only [Option.map_eq_some_iff] at e
  obtain ⟨r, hr, e⟩ := e
  cases e
  refine ⟨rfl, rfl, rfl, fun h lp df hh => ?_⟩
  unfold opX
  rw [hg]
  simp only [hh, hr, Option.map_some]

/-- What is quiet sets a block of its own, if any. -/
theorem opX_quiet (hc : cls = 1 ∨ cls = 2 ∨ cls = 5) (hg : guardOf ops t o.guard = some true) (e : opX E ih keep ops k n i cls m o t h lp df = some (v, h1, lp1, df1)) :
    lp1 = lp ∧ df1 = df ∧ ∃ r, h1 = putBlk h (k + i) r ∧ (r ≠ none → (isNew E o.op && Nat.beq cls 1) = true) ∧ ((isNew E o.op && Nat.beq cls 1) = true → hget h (k + i) = none) ∧
    ∀ h' lp' df', h'.length = h.length → hide k m h' = hide k m h → hide k m (h'.take (k + n)) = hide k m (h.take (k + n)) → ((isNew E o.op && Nat.beq cls 1) = true → hget h' (k + i) = none) →
      opX E ih keep ops k n i cls m o t h' lp' df' = some (v, putBlk h' (k + i) r, lp', df') := by
  rcases hc with rfl | rfl | rfl
  · have e0 := e
    unfold opX at e
    rw [hg] at e
    simp only at e
    cases hnew : isNew E o.op with
    | true =>
      rw [hnew, cond_true] at e
      split at e
      · rename_i hn
        simp only [Option.map_eq_some_iff] at e
        obtain ⟨r, hr, e⟩ := e
        cases e
        refine ⟨rfl, rfl, r.2, rfl, fun _ => rfl, fun _ => hn, fun h' lp' df' hl hv _ hn' => ?_⟩
        unfold opX
        rw [hg]
        simp only [hnew, cond_true, hn' rfl, hv, hr, Option.map_some]
      · cases e
    | false =>
      rw [hnew, cond_false] at e
      simp only [Option.bind_eq_some_iff] at e
      obtain ⟨r, hr, e⟩ := e
      split at e
      · rename_i hn
        cases e
        refine ⟨rfl, rfl, none, rfl, fun h => absurd rfl h, fun h => by simp at h, fun h' lp' df' hl hv _ _ => ?_⟩
        unfold opX
        rw [hg]
        simp only [hnew, cond_false, llen_eq, hl, hv]
        simp only [llen_eq] at hr
        rw [hr]
        simp only [Option.bind_some, hn]
        rfl
      · cases e
  · obtain ⟨rfl, rfl, rfl, hx⟩ := opX_simple hg e
    exact ⟨rfl, rfl, none, rfl, fun h => absurd rfl h, fun h => by simp at h, fun h' lp' df' _ _ ht _ => hx h' lp' df' ht⟩
  · unfold opX at e
    rw [hg] at e
    simp only at e
    split at e
    · rename_i c hop
      simp only [Option.bind_eq_some_iff] at e
      obtain ⟨g, hg', ds, hds, r, hr, e⟩ := e
      cases hf : r.flat with
      | false => rw [hf] at e; cases e
      | true =>
        rw [hf, cond_true] at e
        cases e
        refine ⟨rfl, rfl, none, rfl, fun h => absurd rfl h, fun h => by simp at h, fun h' lp' df' _ hv _ _ => ?_⟩
        unfold opX
        rw [hg]
        simp only [hop, hg', Option.bind_some, hv, hds, hr, hf, cond_true]
        rfl
    · cases e
/-- What is apart adds to the heap's end. -/
theorem opX_apart (hg : guardOf ops t o.guard = some true) (e : opX E ih keep ops k n i 4 m o t h lp df = some (v, h1, lp1, df1)) : ∃ x, h1 = h ++ x := by
  unfold opX at e
  rw [hg] at e
  simp only at e
  split at e
  · simp only [Option.bind_eq_some_iff] at e
    obtain ⟨g, _, r, _, e⟩ := e
    obtain ⟨_, e⟩ := bif_some e
    cases e
    exact ⟨_, rfl⟩
  · cases e

theorem beq_or3 {c : Nat} (h : quietC c = true) : c = 1 ∨ c = 2 ∨ c = 5 := by
  unfold quietC at h
  simpa only [Bool.or_eq_true, Nat.beq_eq] using h
/-- A load of a block that was there when the region began. -/
theorem opX_old (hg : guardOf ops t o.guard = some true) (e : opX E ih keep ops k n i 7 m o t h lp df = some (v, h1, lp1, df1)) : h1 = h ∧ lp1 = lp ∧ df1 = df ∧ ∃ ty a b g p, o.op = .load ty a ∧ ev t a = .ptr b g p ∧
    ∀ h' lp' df', hget (h'.take k) b = hget (h.take k) b → opX E ih keep ops k n i 7 m o t h' lp' df' = some (v, h', lp', df') := by
  unfold opX at e
  rw [hg] at e
  simp only at e
  split at e
  · rename_i ty a hop
    split at e
    · rename_i b g p hev
      obtain ⟨r, hr, e⟩ := Option.map_eq_some_iff.1 e
      cases e
      refine ⟨rfl, rfl, rfl, ty, a, b, g, p, hop, hev, fun h' lp' df' hh => ?_⟩
      unfold opX
      rw [hg]
      simp only [hop, hev]
      have hl : loadV (h'.take k) b g p = loadV (h.take k) b g p := by unfold loadV; rw [hh]
      unfold sLoad at hr ⊢
      obtain ⟨ti, hti, hr⟩ := Option.bind_eq_some_iff.1 hr
      simp only [hti, Option.bind_some, hl]
      obtain ⟨u, hu, hr⟩ := Option.bind_eq_some_iff.1 hr
      obtain ⟨hok, hr⟩ := bif_some hr
      cases hr
      simp only [hu, Option.bind_some, hok, cond_true, Option.map_some]
    · cases e
  · cases e
theorem notAt_ne {m : List Nat} {b s c g : Nat} {p : List (Nat × Nat)} (h : notAt t b m = true) (hs : s ∈ m) (hg : t.get s = .ptr c g p) : c ≠ b := by
  induction m with
  | nil => cases hs
  | cons x m ih =>
    have e : notAt t b (x :: m) = (match t.get x with | .ptr c _ _ => bif Nat.beq b c then false else notAt t b m | _ => false) := rfl
    rw [e] at h
    split at h
    · rename_i c' g' p' hx
      cases hb : Nat.beq b c' with
      | true => rw [hb] at h; cases h
      | false =>
        rw [hb, cond_false] at h
        rcases List.mem_cons.1 hs with rfl | hs
        · rw [hg] at hx; cases hx
          exact fun he => by rw [he, Nat.beq_refl] at hb; cases hb
        · exact ih h hs
    · cases h
/-- A store to a variable. -/
theorem opX_store (hg : guardOf ops t o.guard = some true) (e : opX E ih keep ops k n i 6 m o t h lp df = some (v, h1, lp1, df1)) : lp1 = lp ∧ df1 = df ∧ ∃ b x, b < h.length ∧ h1 = hput h b x ∧ notAt t b m = true ∧ isCell (hget h b) = true ∧ isCell (some x) = true ∧
    ∀ lp' df', opX E ih keep ops k n i 6 m o t h lp' df' = some (v, h1, lp', df') := by
  unfold opX at e
  rw [hg] at e
  simp only at e
  split at e
  · rename_i ty a x hop
    split at e
    · rename_i b g p hev
      obtain ⟨hc, e⟩ := bif_some e
      obtain ⟨r, hr, e⟩ := Option.map_eq_some_iff.1 e
      cases e
      have hc2 := hc
      rw [Bool.and_eq_true] at hc
      have hr2 := hr
      unfold sStore at hr
      obtain ⟨ti, hti, hr⟩ := Option.bind_eq_some_iff.1 hr
      obtain ⟨hok, hr⟩ := bif_some hr
      obtain ⟨h', hs, hr⟩ := Option.map_eq_some_iff.1 hr
      cases hr
      unfold isCell at hc
      cases hb : hget h b with
      | none => rw [hb] at hc; cases hc.2
      | some bk =>
        have hlt := hget_lt hb
        rw [hb] at hc
        cases bk <;> simp only at hc <;> try (cases hc.2; done)
        unfold storeV at hs
        rw [hb] at hs
        obtain ⟨_, hs⟩ := bif_some hs
        obtain ⟨v', _, hs⟩ := Option.map_eq_some_iff.1 hs
        subst hs
        refine ⟨rfl, rfl, b, _, hlt, rfl, hc.1, by rw [hb]; rfl, rfl, fun lp' df' => ?_⟩
        unfold opX
        rw [hg]
        simp only [hop, hev, hc2, cond_true, hr2, Option.map_some]
    · cases e
  · cases e
/-- A store to a variable of the region's own. -/
theorem opX_own (hg : guardOf ops t o.guard = some true) (e : opX E ih keep ops k n i 9 m o t h lp df = some (v, h1, lp1, df1)) : lp1 = lp ∧ df1 = df ∧ ∃ b x, k ≤ b ∧ b < h.length ∧ h1 = hput h b x := by
  unfold opX at e
  rw [hg] at e
  simp only at e
  split at e
  · rename_i ty a x hop
    split at e
    · rename_i b g p hev
      obtain ⟨hc, e⟩ := bif_some e
      obtain ⟨r, hr, e⟩ := Option.map_eq_some_iff.1 e
      cases e
      rw [Bool.and_eq_true] at hc
      unfold sStore at hr
      obtain ⟨ti, hti, hr⟩ := Option.bind_eq_some_iff.1 hr
      obtain ⟨hok, hr⟩ := bif_some hr
      obtain ⟨h', hs, hr⟩ := Option.map_eq_some_iff.1 hr
      cases hr
      unfold isCell at hc
      cases hb : hget h b with
      | none => rw [hb] at hc; cases hc.2
      | some bk =>
        have hlt := hget_lt hb
        rw [hb] at hc
        cases bk <;> simp only at hc <;> try (cases hc.2; done)
        unfold storeV at hs
        rw [hb] at hs
        obtain ⟨_, hs⟩ := bif_some hs
        obtain ⟨v', _, hs⟩ := Option.map_eq_some_iff.1 hs
        subst hs
        exact ⟨rfl, rfl, b, _, ble_of hc.1, hlt, rfl⟩
    · cases e
  · cases e
theorem hget_take_own {b : Nat} {x : Blk} (hk : k ≤ b) (hb : b < h.length) (c : Nat) : hget ((hput h b x).take k) c = hget (h.take k) c := by
  rw [hget_take, hget_take, hget_hput h b c x (Nat.le_of_lt hb)]
  by_cases hc : c < k
  · rw [if_pos hc, if_pos hc, if_neg (by omega)]
  · rw [if_neg hc, if_neg hc]
theorem hget_take_put {b c : Nat} {x : Blk} (hb : b < h.length) (hne : c ≠ b) : hget ((hput h b x).take k) c = hget (h.take k) c := by
  rw [hget_take, hget_take, hget_hput h b c x (Nat.le_of_lt hb), if_neg hne]
theorem hget_take_putBlk {j c : Nat} {r : Option Blk} (hj : r ≠ none → k + j < h.length) : hget ((putBlk h (k + j) r).take k) c = hget (h.take k) c := by
  cases r with
  | none => rfl
  | some x =>
    rw [hget_take, hget_take]
    split
    · show hget (hput h (k + j) x) c = _
      rw [hget_hput h _ c x (Nat.le_of_lt (hj (by simp))), if_neg (by omega)]
    · rfl
theorem inM_slot {m : List Nat} {o : Oper} (hi : inM m o = true) : ∃ ty s, o.op = .load ty (.tmp s) ∧ s ∈ m := by
  unfold inM at hi
  split at hi
  · rename_i ty s hop; exact ⟨ty, s, hop, hasN_mem hi⟩
  · cases hi
theorem sizeIs_of {h h' : Heap} (hh : ∀ b, hget h' b = hget h b ∨ (isCell (hget h' b) = true ∧ isCell (hget h b) = true)) (b sz : Nat) : sizeIs h' b sz = sizeIs h b sz := by
  unfold sizeIs
  rcases hh b with e | ⟨e1, e2⟩
  · rw [e]
  · unfold isCell at e1 e2
    split at e1
    · rename_i h3
      split at e2
      · rename_i h4; rw [h3, h4]
      · cases e2
    · cases e1
theorem size_put {b : Nat} {x : Blk} (hb : b < h.length) (h1 : isCell (hget h b) = true) (h2 : isCell (some x) = true) (c sz : Nat) : sizeIs ((hput h b x).take k) c sz = sizeIs (h.take k) c sz := by
  refine sizeIs_of (fun c => ?_) c sz
  rw [hget_take, hget_take, hget_hput h b c x (Nat.le_of_lt hb)]
  by_cases hc : c < k
  · rw [if_pos hc, if_pos hc]
    by_cases hcb : c = b
    · rw [if_pos hcb]; subst hcb; exact .inr ⟨h2, h1⟩
    · rw [if_neg hcb]; exact .inl rfl
  · rw [if_neg hc, if_neg hc]; exact .inl rfl
theorem size_putBlk {j : Nat} {r : Option Blk} (hj : r ≠ none → k + j < h.length) (c sz : Nat) : sizeIs ((putBlk h (k + j) r).take k) c sz = sizeIs (h.take k) c sz := sizeIs_of (fun c => .inl (hget_take_putBlk hj)) c sz
/-- The place of an element. -/
theorem opX_place (hg : guardOf ops t o.guard = some true) (e : opX E ih keep ops k n i 8 m o t h lp df = some (v, h1, lp1, df1)) : h1 = h ∧ lp1 = lp ∧ df1 = df ∧
    ∀ h' lp' df', (∀ b sz, sizeIs (h'.take k) b sz = sizeIs (h.take k) b sz) → opX E ih keep ops k n i 8 m o t h' lp' df' = some (v, h', lp', df') := by
  unfold opX at e
  rw [hg] at e
  simp only at e
  split at e
  · rename_i ty x i' hop
    obtain ⟨r, hr, e⟩ := Option.map_eq_some_iff.1 e
    cases e
    refine ⟨rfl, rfl, rfl, fun h' lp' df' hh => ?_⟩
    unfold opX
    rw [hg]
    simp only [hop]
    have key : ∀ (x i : V) (r : V × Heap), sIndexAddr E (h.take k) ty x i = some r → ∃ r', sIndexAddr E (h'.take k) ty x i = some r' ∧ r'.1 = r.1 := fun x i r hr => by
      unfold sIndexAddr at hr ⊢
      split at hr
      · rename_i ki n'
        obtain ⟨ti, hti, hr⟩ := Option.bind_eq_some_iff.1 hr
        simp only [hti, Option.bind_some]
        split at hr
        · rename_i el hk; try rw [hk]
          split at hr
          · rename_i b g off len lim
            obtain ⟨te, hte, hr⟩ := Option.bind_eq_some_iff.1 hr
            simp only [hte, Option.bind_some, hh]
            obtain ⟨hc, hr⟩ := bif_some hr
            cases hr
            simp only [hc, cond_true]
            exact ⟨_, rfl, rfl⟩
          · unfold elemRef at hr ⊢
            obtain ⟨te, hte, hr⟩ := Option.bind_eq_some_iff.1 hr
            simp only [hte, Option.bind_some]
            obtain ⟨hc, hr⟩ := bif_some hr
            obtain ⟨d, hd, hr⟩ := Option.bind_eq_some_iff.1 hr
            obtain ⟨hc2, hr⟩ := bif_some hr
            cases hr
            simp only [hc, cond_true, hd, Option.bind_some, hc2]
            exact ⟨_, rfl, rfl⟩
          · unfold elemRef at hr ⊢
            obtain ⟨te, hte, hr⟩ := Option.bind_eq_some_iff.1 hr
            simp only [hte, Option.bind_some]
            obtain ⟨hc, hr⟩ := bif_some hr
            obtain ⟨d, hd, hr⟩ := Option.bind_eq_some_iff.1 hr
            obtain ⟨hc2, hr⟩ := bif_some hr
            cases hr
            simp only [hc, cond_true, hd, Option.bind_some, hc2]
            exact ⟨_, rfl, rfl⟩
          · cases hr
        · rename_i m' el hk; try rw [hk]
          obtain ⟨te, hte, hr⟩ := Option.bind_eq_some_iff.1 hr
          simp only [hte, Option.bind_some]
          obtain ⟨hc, hr⟩ := bif_some hr
          simp only [hc, cond_true]
          split at hr
          · cases hr; exact ⟨_, rfl, rfl⟩
          · split at hr
            · rename_i d' hd'
              obtain ⟨hc2, hr⟩ := bif_some hr
              cases hr
              simp only [hd', hc2, cond_true]
              exact ⟨_, rfl, rfl⟩
            · cases hr
          · cases hr
        · cases hr
      · cases hr
    obtain ⟨r', h1, h2⟩ := key _ _ _ hr
    rw [h1]
    simp only [Option.map_some, h2]
  · cases e
def Apt67 (a b : Oper) (ca cb : Nat) (ma mb : List Nat) : Prop :=
  (ca = 9 ∧ (cb = 7 ∨ cb = 8)) ∨ (cb = 9 ∧ (ca = 7 ∨ ca = 8)) ∨ (ca = 8 ∧ ((cb = 1 ∨ cb = 2 ∨ cb = 5) ∨ cb = 7 ∨ cb = 8 ∨ cb = 6)) ∨ (cb = 8 ∧ ((ca = 1 ∨ ca = 2 ∨ ca = 5) ∨ ca = 7 ∨ ca = 6)) ∨ (ca = 7 ∧ ((cb = 1 ∨ cb = 2 ∨ cb = 5) ∨ cb = 7)) ∨ ((ca = 1 ∨ ca = 2 ∨ ca = 5) ∧ cb = 7) ∨ (ca = 6 ∧ cb = 7 ∧ inM ma b = true) ∨ (ca = 7 ∧ cb = 6 ∧ inM mb a = true)
theorem apart67_ok (hh : apart67 a b ca cb ma mb = true) : Apt67 a b ca cb ma mb := by
  unfold apart67 at hh
  simp only [Bool.or_eq_true, Bool.and_eq_true, Nat.beq_eq] at hh
  rcases hh with ⟨h1, h2⟩ | ⟨h1, h2⟩ | ⟨h1, h2⟩ | ⟨h1, h2⟩ | ⟨h1, h2⟩ | ⟨h1, h2⟩ | h | h
  · exact .inl ⟨h1, h2⟩
  · exact .inr (.inl ⟨h1, h2⟩)
  · exact .inr (.inr (.inl ⟨h1, h2.imp beq_or3 id⟩))
  · exact .inr (.inr (.inr (.inl ⟨h1, h2.imp beq_or3 id⟩)))
  · exact .inr (.inr (.inr (.inr (.inl ⟨h1, h2.imp beq_or3 id⟩))))
  · exact .inr (.inr (.inr (.inr (.inr (.inl ⟨beq_or3 h1, h2⟩)))))
  · exact .inr (.inr (.inr (.inr (.inr (.inr (.inl h))))))
  · exact .inr (.inr (.inr (.inr (.inr (.inr (.inr h))))))
def Apt (E : Env) (a b : Oper) (ca cb : Nat) (ma mb : List Nat) (na nb : Nat) : Prop :=
  ca = 0 ∨ cb = 0 ∨ Apt67 a b ca cb ma mb ∨ (ca = 4 ∧ cb = 2) ∨ (ca = 2 ∧ cb = 4) ∨ ((ca = 1 ∨ ca = 2 ∨ ca = 5) ∧ (cb = 1 ∨ cb = 2 ∨ cb = 5) ∧ ((isNew E a.op && Nat.beq ca 1) = true → na ∈ mb) ∧ ((isNew E b.op && Nat.beq cb 1) = true → nb ∈ ma))
theorem apartC_split (hap : apartC E ops a b ca cb ma mb na nb = true) : (apartS ops a b = true ∧ (ca = 6 → dstNot b ma = true) ∧ (cb = 6 → dstNot a mb = true)) ∧ Apt E a b ca cb ma mb na nb := by
  unfold apartC at hap
  rw [Bool.and_eq_true] at hap
  have hap1 := hap.1
  rw [Bool.and_eq_true, Bool.and_eq_true] at hap1
  have hd : ∀ {c : Nat} {x : Bool}, (!Nat.beq c 6 || x) = true → c = 6 → x = true := fun {c x} hh hc => by subst hc; simpa using hh
  refine ⟨⟨hap1.1, hd hap1.2.1, hd hap1.2.2⟩, ?_⟩
  have := hap.2
  simp only [Bool.or_eq_true, Bool.and_eq_true, Nat.beq_eq, Bool.not_eq_true'] at this
  rcases this with h | h | h | h | h | h
  · exact .inl h
  · exact .inr (.inl h)
  · exact .inr (.inr (.inl (apart67_ok h)))
  · exact .inr (.inr (.inr (.inl h)))
  · exact .inr (.inr (.inr (.inr (.inl h))))
  · refine .inr (.inr (.inr (.inr (.inr ⟨h.1, h.2.1, fun hn => ?_, fun hn => ?_⟩))))
    · rcases h.2.2.1 with h | h
      · rw [hn] at h; cases h
      · exact hasN_mem h
    · rcases h.2.2.2 with h | h
      · rw [hn] at h; cases h
      · exact hasN_mem h

/-- At one and the same slots. -/
theorem opX_swap (hap : Apt E a b ca cb ma mb na nb) (hlen : ca = 0 ∨ cb = 0 ∨ k + n ≤ h.length) (hna : isNew E a.op = true → na < n ∧ na ≠ nb) (hnb : isNew E b.op = true → nb < n)
    (e1 : opX E ih keep ops k n na ca ma a t h lp df = some (v, h1, lp1, df1)) (e2 : opX E ih keep ops k n nb cb mb b t h1 lp1 df1 = some (u, h2, lp2, df2)) :
    ∃ h' lp' df', opX E ih keep ops k n nb cb mb b t h lp df = some (u, h', lp', df') ∧ opX E ih keep ops k n na ca ma a t h' lp' df' = some (v, h2, lp2, df2) := by
  by_cases hia : guardOf ops t a.guard = some false ∨ ca = 0
  · obtain ⟨rfl, rfl, rfl, hi⟩ := opX_idle e1 hia
    exact ⟨_, _, _, e2, hi _ _ _⟩
  by_cases hib : guardOf ops t b.guard = some false ∨ cb = 0
  · obtain ⟨rfl, rfl, rfl, hi⟩ := opX_idle e2 hib
    exact ⟨_, _, _, hi _ _ _, e1⟩
  rw [not_or] at hia hib
  have hga := (opX_none e1).resolve_left hia.1
  have hgb := (opX_none e2).resolve_left hib.1
  have hkn := (hlen.resolve_left hia.2).resolve_left hib.2
  clear hlen
  rcases (hap.resolve_left hia.2).resolve_left hib.2 with h67 | ⟨rfl, rfl⟩ | ⟨rfl, rfl⟩ | ⟨hqa, hqb, hma, hmb⟩
  · have hnew : ∀ {o : Oper} {c : Nat}, (isNew E o.op && Nat.beq c 1) = true → isNew E o.op = true := fun h => by rw [Bool.and_eq_true] at h; exact h.1
    rcases h67 with ⟨rfl, rfl | rfl⟩ | ⟨rfl, rfl | rfl⟩ | ⟨rfl, hqb | rfl | rfl | rfl⟩ | ⟨rfl, hqa | rfl | rfl⟩ | ⟨rfl, hqb | rfl⟩ | ⟨hqa, rfl⟩ | ⟨rfl, rfl, hin⟩ | ⟨rfl, rfl, hin⟩
    · obtain ⟨rfl, rfl, b1, x, hkb, hlt, rfl⟩ := opX_own hga e1
      obtain ⟨rfl, rfl, rfl, ty, a0, b0, g, p, hop, hev, hb⟩ := opX_old hgb e2
      exact ⟨_, _, _, hb _ _ _ (hget_take_own hkb hlt _).symm, e1⟩
    · obtain ⟨rfl, rfl, b1, x, hkb, hlt, rfl⟩ := opX_own hga e1
      obtain ⟨rfl, rfl, rfl, hb⟩ := opX_place hgb e2
      exact ⟨_, _, _, hb _ _ _ (sizeIs_of fun c => .inl (hget_take_own hkb hlt c).symm), e1⟩
    · obtain ⟨rfl, rfl, rfl, ty, a0, b0, g, p, hop, hev, ha⟩ := opX_old hga e1
      obtain ⟨rfl, rfl, b1, x, hkb, hlt, rfl⟩ := opX_own hgb e2
      exact ⟨_, _, _, e2, ha _ _ _ (hget_take_own hkb hlt _)⟩
    · obtain ⟨rfl, rfl, rfl, ha⟩ := opX_place hga e1
      obtain ⟨rfl, rfl, b1, x, hkb, hlt, rfl⟩ := opX_own hgb e2
      exact ⟨_, _, _, e2, ha _ _ _ (sizeIs_of fun c => .inl (hget_take_own hkb hlt c))⟩
    · obtain ⟨rfl, rfl, rfl, ha⟩ := opX_place hga e1
      obtain ⟨rfl, rfl, s, rfl, hsb, _, _⟩ := opX_quiet hqb hgb e2
      exact ⟨_, _, _, e2, ha _ _ _ (size_putBlk fun hs => by have := hnb (hnew (hsb hs)); omega)⟩
    · obtain ⟨rfl, rfl, rfl, ha⟩ := opX_place hga e1
      obtain ⟨rfl, rfl, rfl, _⟩ := opX_old hgb e2
      exact ⟨_, _, _, e2, e1⟩
    · obtain ⟨rfl, rfl, rfl, ha⟩ := opX_place hga e1
      obtain ⟨rfl, rfl, rfl, _⟩ := opX_place hgb e2
      exact ⟨_, _, _, e2, e1⟩
    · obtain ⟨rfl, rfl, rfl, ha⟩ := opX_place hga e1
      obtain ⟨rfl, rfl, b1, x, hlt, rfl, _, hc1, hc2, _⟩ := opX_store hgb e2
      exact ⟨_, _, _, e2, ha _ _ _ (size_put hlt hc1 hc2)⟩
    · obtain ⟨rfl, rfl, r, rfl, hra, _, _⟩ := opX_quiet hqa hga e1
      obtain ⟨rfl, rfl, rfl, hb⟩ := opX_place hgb e2
      exact ⟨_, _, _, hb _ _ _ (fun c sz => (size_putBlk (fun hs => by have := (hna (hnew (hra hs))).1; omega) c sz).symm), e1⟩
    · obtain ⟨rfl, rfl, rfl, _⟩ := opX_old hga e1
      obtain ⟨rfl, rfl, rfl, hb⟩ := opX_place hgb e2
      exact ⟨_, _, _, e2, e1⟩
    · obtain ⟨rfl, rfl, b1, x, hlt, rfl, _, hc1, hc2, _⟩ := opX_store hga e1
      obtain ⟨rfl, rfl, rfl, hb⟩ := opX_place hgb e2
      exact ⟨_, _, _, hb _ _ _ (fun c sz => (size_put hlt hc1 hc2 c sz).symm), e1⟩
    · obtain ⟨rfl, rfl, rfl, ty, a0, b0, g, p, _, _, ha⟩ := opX_old hga e1
      obtain ⟨rfl, rfl, s, rfl, hsb, _, _⟩ := opX_quiet hqb hgb e2
      exact ⟨_, _, _, e2, ha _ _ _ (hget_take_putBlk fun hs => by have := hnb (hnew (hsb hs)); omega)⟩
    · obtain ⟨rfl, rfl, rfl, ty, a0, b0, g, p, _, _, ha⟩ := opX_old hga e1
      obtain ⟨rfl, rfl, rfl, _, _, _, _, _, _, _, hb⟩ := opX_old hgb e2
      exact ⟨_, _, _, e2, e1⟩
    · obtain ⟨rfl, rfl, r, rfl, hra, _, _⟩ := opX_quiet hqa hga e1
      obtain ⟨rfl, rfl, rfl, _, _, _, _, _, _, _, hb⟩ := opX_old hgb e2
      exact ⟨_, _, _, hb _ _ _ (hget_take_putBlk fun hs => by have := (hna (hnew (hra hs))).1; omega).symm, e1⟩
    · obtain ⟨rfl, rfl, b1, x, hlt, rfl, hnot, _, _, _⟩ := opX_store hga e1
      obtain ⟨rfl, rfl, rfl, ty, a0, b0, g, p, hop, hev, hb⟩ := opX_old hgb e2
      obtain ⟨ty', s, hop', hs⟩ := inM_slot hin
      rw [hop] at hop'; cases hop'
      have hne := notAt_ne hnot hs hev
      exact ⟨_, _, _, hb _ _ _ (hget_take_put hlt hne).symm, e1⟩
    · obtain ⟨rfl, rfl, rfl, ty, a0, b0, g, p, hop, hev, ha⟩ := opX_old hga e1
      obtain ⟨rfl, rfl, b1, x, hlt, rfl, hnot, _, _, _⟩ := opX_store hgb e2
      obtain ⟨ty', s, hop', hs⟩ := inM_slot hin
      rw [hop] at hop'; cases hop'
      have hne := notAt_ne hnot hs hev
      exact ⟨_, _, _, e2, ha _ _ _ (hget_take_put hlt hne)⟩
  · obtain ⟨x, rfl⟩ := opX_apart hga e1
    obtain ⟨rfl, rfl, rfl, hx⟩ := opX_simple hgb e2
    refine ⟨_, _, _, hx _ _ _ ?_, e1⟩
    rw [List.take_append_of_le_length hkn]
  · obtain ⟨rfl, rfl, rfl, hx⟩ := opX_simple hga e1
    obtain ⟨x, rfl⟩ := opX_apart hgb e2
    refine ⟨_, _, _, e2, hx _ _ _ ?_⟩
    rw [List.take_append_of_le_length hkn]
  · obtain ⟨rfl, rfl, r, rfl, hra, hpa, ha⟩ := opX_quiet hqa hga e1
    obtain ⟨rfl, rfl, s, rfl, hsb, hpb, hb⟩ := opX_quiet hqb hgb e2
    have hnew : ∀ {o : Oper} {c : Nat}, (isNew E o.op && Nat.beq c 1) = true → isNew E o.op = true := fun h => by rw [Bool.and_eq_true] at h; exact h.1
    -- the two places
    by_cases hr : r = none
    · subst hr
      have hb' := hb h lp2 df2 rfl rfl rfl hpb
      refine ⟨_, _, _, hb', ?_⟩
      by_cases hs : s = none
      · subst hs; exact e1
      · have hsn := hsb hs
        have hlb : k + nb < h.length := by have := hnb (hnew hsn); omega
        refine (ha (putBlk h (k + nb) s) lp2 df2 (putBlk_len hlb) (hide_put hlb fun _ => hmb hsn) (hide_take_put hlb fun _ => hmb hsn) fun hh => ?_).trans rfl
        rw [hget_putBlk hlb, if_neg (fun e => (hna (hnew hh)).2 (by omega))]
        exact hpa hh
    · have hrn := hra hr
      have hla : k + na < h.length := by have := (hna (hnew hrn)).1; omega
      have hab : na ≠ nb := (hna (hnew hrn)).2
      have hb' := hb h lp2 df2 (putBlk_len hla).symm (hide_put hla fun _ => hma hrn).symm (hide_take_put hla fun _ => hma hrn).symm fun hh => by
        have := hpb hh
        rw [hget_putBlk hla, if_neg (fun e => hab (by omega))] at this
        exact this
      refine ⟨_, _, _, hb', ?_⟩
      by_cases hs : s = none
      · subst hs; exact e1
      · have hsn := hsb hs
        have hlb : k + nb < h.length := by have := hnb (hnew hsn); omega
        rw [putBlk_comm hla hlb (by omega)]
        refine ha (putBlk h (k + nb) s) lp2 df2 (putBlk_len hlb) (hide_put hlb fun _ => hmb hsn) (hide_take_put hlb fun _ => hmb hsn) fun hh => ?_
        rw [hget_putBlk hlb, if_neg (fun e => hab (by omega))]
        exact hpa hh

/-- An operation that is not class 3 shortens no heap. -/
theorem opX_len (hc : cls = 0 ∨ cls = 1 ∨ cls = 2 ∨ cls = 4 ∨ cls = 5 ∨ cls = 6 ∨ cls = 7 ∨ cls = 8 ∨ cls = 9) (hi : isNew E o.op = true → i < n) (hkn : k + n ≤ h.length) (e : opX E ih keep ops k n i cls m o t h lp df = some (v, h1, lp1, df1)) : k + n ≤ h1.length := by
  by_cases hid : guardOf ops t o.guard = some false ∨ cls = 0
  · obtain ⟨rfl, _⟩ := opX_idle e hid; exact hkn
  rw [not_or] at hid
  have hg := (opX_none e).resolve_left hid.1
  by_cases h4 : cls = 4
  · subst h4
    obtain ⟨x, rfl⟩ := opX_apart hg e
    simp; omega
  by_cases h6 : cls = 6
  · subst h6
    obtain ⟨_, _, b, x, hlt, rfl, _⟩ := opX_store hg e
    rw [hput_len, if_pos hlt]; exact hkn
  by_cases h7 : cls = 7
  · subst h7
    obtain ⟨rfl, _⟩ := opX_old hg e
    exact hkn
  by_cases h8 : cls = 8
  · subst h8
    obtain ⟨rfl, _⟩ := opX_place hg e
    exact hkn
  by_cases h9 : cls = 9
  · subst h9
    obtain ⟨_, _, b, x, _, hlt, rfl⟩ := opX_own hg e
    rw [hput_len, if_pos hlt]; exact hkn
  · obtain ⟨_, _, r, rfl, hr, _⟩ := opX_quiet (by omega) hg e
    cases r with
    | none => exact hkn
    | some b =>
      have := hr (by simp)
      rw [Bool.and_eq_true] at this
      have := hi this.1
      rw [putBlk_len (by omega)]; exact hkn

/-- A whole step. -/
theorem opD_swap {st s1 s2 : St} (hap : apartC E ops a b ca cb ma mb na nb = true) (hlen : ca = 0 ∨ cb = 0 ∨ k + n ≤ st.h.length) (hna : isNew E a.op = true → na < n ∧ na ≠ nb) (hnb : isNew E b.op = true → nb < n)
    (e1 : opD E ih keep ops k n na ca ma a st = some s1) (e2 : opD E ih keep ops k n nb cb mb b s1 = some s2) :
    ∃ s', opD E ih keep ops k n nb cb mb b st = some s' ∧ opD E ih keep ops k n na ca ma a s' = some s2 := by
  obtain ⟨⟨hS, hda, hdb⟩, hC⟩ := apartC_split hap
  have hAg : ∀ {o : Oper} {m : List Nat} {t : Tm} {v : V}, dstNot o m = true → Ag m t (putDst t o.dst v) := fun {o m t v} hd => Ag.put fun d he => by
    unfold dstNot at hd
    rw [he] at hd
    exact hasN_not (by simpa using hd)
  unfold apartS at hS
  rw [Bool.and_eq_true] at hS
  obtain ⟨hS1, hS2⟩ := hS
  have h1 : ∀ d, a.dst = some d → d ∉ reads ops b ∧ b.dst ≠ some d := fun d hd => by
    rw [hd] at hS1
    simp only [Bool.and_eq_true, Bool.not_eq_true'] at hS1
    exact ⟨hasN_not hS1.1, fun e => by rw [e] at hS1; simp at hS1⟩
  have h2 : ∀ d, b.dst = some d → d ∉ reads ops a := fun d hd => by
    rw [hd] at hS2
    simp only [Bool.not_eq_true'] at hS2
    exact hasN_not hS2
  obtain ⟨t, h, lp, df⟩ := st
  rw [opD_eq, Option.map_eq_some_iff] at e1
  obtain ⟨⟨v, g1, l1, d1⟩, e1, rfl⟩ := e1
  simp only [wrapX] at e2
  rw [opD_eq, Option.map_eq_some_iff] at e2
  obtain ⟨⟨u, g2, l2, d2⟩, e2, rfl⟩ := e2
  rw [← opX_congr (t := t) (Ag.put fun d hd => (h1 d hd).1) (fun hc => hAg (hdb hc))] at e2
  obtain ⟨h', lp', df', f1, f2⟩ := opX_swap hC hlen hna hnb e1 e2
  refine ⟨⟨putDst t b.dst u, h', lp', df'⟩, by rw [opD_eq, f1]; rfl, ?_⟩
  rw [opD_eq, ← opX_congr (t := t) (Ag.put fun d hd => h2 d hd) (fun hc => hAg (hda hc)), f2]
  simp only [Option.map_some, wrapX]
  rw [putDst_comm t (fun d hd => (h1 d hd).2)]
end
end Go.As
