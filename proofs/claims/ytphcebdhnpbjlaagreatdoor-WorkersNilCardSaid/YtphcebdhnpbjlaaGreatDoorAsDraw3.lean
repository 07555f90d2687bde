/-
  AS: regions that draw their order: every order comes to the same end.
-/
import Derived.Test.YtphcebdhnpbjlaaGreatDoorAsDraw2
set_option linter.unusedSectionVars false
set_option linter.unusedSimpArgs false
set_option linter.unusedVariables false
namespace Go.As
open Go.RowKit (Below)
variable [Gh]

/-! ### slots that are looked at -/
def Ag (l : List Nat) (t t' : Tm) : Prop := ∀ i ∈ l, t.get i = t'.get i
theorem tmpsOf_mem {l : List Operand} {i : Nat} (h : Operand.tmp i ∈ l) : i ∈ tmpsOf l := by
  induction l with
  | nil => cases h
  | cons o l ih =>
    rcases List.mem_cons.1 h with rfl | h
    · exact List.mem_cons_self
    · have := ih h
      cases o
      · exact List.mem_cons_of_mem _ this
      all_goals exact this
theorem Ag.ev {ops : Array Oper} {o : Oper} {t t' : Tm} (h : Ag (reads ops o) t t') {x : Operand} (hx : x ∈ o.op.operands.toList) : ev t x = ev t' x := by
  cases x with
  | tmp i => exact h i (List.mem_append_left _ (tmpsOf_mem hx))
  | _ => rfl
theorem Ag.guard {ops : Array Oper} {o : Oper} {t t' : Tm} (h : Ag (reads ops o) t t') : guardOf ops t o.guard = guardOf ops t' o.guard := by
  unfold guardOf
  cases hg : o.guard with
  | none => rfl
  | some g =>
    obtain ⟨j, want⟩ := g
    simp only
    cases ho : lget ops.toList j with
    | none => rfl
    | some o' =>
      simp only [Option.bind_some]
      cases hd : o'.dst with
      | none => rfl
      | some d =>
        simp only [Option.bind_some]
        rw [h d (List.mem_append_right _ (by rw [hg]; simp only [ho, hd]; simp))]
theorem hasN_mem {l : List Nat} {b : Nat} (h : hasN l b = true) : b ∈ l := by
  induction l with
  | nil => cases h
  | cons a l ih =>
    have e : hasN (a :: l) b = (bif Nat.beq a b then true else hasN l b) := rfl
    rw [e] at h
    cases hb : Nat.beq a b with
    | true => rw [beq_of hb]; simp
    | false => rw [hb, cond_false] at h; simp [ih h]
theorem hasN_not {l : List Nat} {b : Nat} (h : hasN l b = false) : b ∉ l := fun hb => by
  induction l with
  | nil => cases hb
  | cons a l ih =>
    have e : hasN (a :: l) b = (bif Nat.beq a b then true else hasN l b) := rfl
    rw [e] at h
    cases hc : Nat.beq a b with
    | true => rw [hc] at h; cases h
    | false =>
      rw [hc, cond_false] at h
      rcases List.mem_cons.1 hb with rfl | hb
      · rw [Nat.beq_refl] at hc; cases hc
      · exact ih h hb
theorem Ag.put {l : List Nat} {t : Tm} {dst : Option Nat} {v : V} (h : ∀ d, dst = some d → d ∉ l) : Ag l t (putDst t dst v) := fun i hi => by
  cases dst with
  | none => rfl
  | some d => exact (Tm.get_set_other t d i v (fun e => h d rfl (by rw [← e]; exact hi))).symm
theorem Tm.set_comm (t : Tm) : ∀ {i j : Nat} (_ : i ≠ j) (x y : V), (t.set i x).set j y = (t.set j y).set i x := by
  induction t with
  | e => intros; rfl
  | n v l r ihl ihr =>
    intro i j hij x y
    by_cases hi : i = 0
    · subst hi
      have hj : j ≠ 0 := Ne.symm hij
      by_cases hj2 : j % 2 = 1 <;> simp [Tm.set_n, hj, hj2]
    · by_cases hj : j = 0
      · subst hj
        by_cases hi2 : i % 2 = 1 <;> simp [Tm.set_n, hi, hi2]
      · by_cases hi2 : i % 2 = 1 <;> by_cases hj2 : j % 2 = 1 <;> simp only [Tm.set_n, hi, hj, hi2, hj2, if_true, if_false]
        · rw [ihl (by omega)]
        · rw [ihr (by omega)]
theorem putDst_comm (t : Tm) {x y : Option Nat} (h : ∀ d, x = some d → y ≠ some d) (u v : V) : putDst (putDst t x u) y v = putDst (putDst t y v) x u := by
  cases x with
  | none => rfl
  | some d =>
    cases y with
    | none => rfl
    | some c => exact Tm.set_comm t (fun e => h d rfl (by rw [e])) u v

section
variable {F : Fence} {P : Program} {B : Nat} {X : Cx} {O : Nat → Addr → Prop} {w : World} {E : Env} {ih : Nat → Nat → Nat → Code → St → Option (Ex × St)}

theorem evs_congr {t t' : Tm} {l : Array Operand} (h : ∀ x ∈ l.toList, ev t x = ev t' x) : evs t l = evs t' l := by
  rw [evs_eq, evs_eq]; exact List.map_congr_left h
theorem evP_congr {t t' : Tm} {l : Array (Nat × Operand)} (h : ∀ p ∈ l.toList, ev t p.2 = ev t' p.2) : evP (ev t) l = evP (ev t') l := by
  rw [evP_eq, evP_eq]; exact List.map_congr_left fun p hp => by rw [h p hp]
theorem rec_congr {t t' : Tm} {l : List Operand} (h : ∀ x ∈ l, ev t x = ev t' x) : (List.rec [] (fun o _ ih => ev t o :: ih) l : List V) = List.rec [] (fun o _ ih => ev t' o :: ih) l := by
  induction l with
  | nil => rfl
  | cons a l ih => show ev t a :: _ = ev t' a :: _; rw [h a (by simp), ih fun x hx => h x (by simp [hx])]
theorem opt_congr {t t' : Tm} {x : Option Operand} (h : ∀ y, x = some y → ev t y = ev t' y) : x.map (ev t) = x.map (ev t') := by
  cases x with
  | none => rfl
  | some y => simp [h y rfl]

theorem stepOp_congr {keep : Bool} {nid : Nat} {t t' : Tm} {h : Heap} {op : Op} (hev : ∀ x ∈ op.operands.toList, ev t x = ev t' x) : stepOp E keep nid t h op = stepOp E keep nid t' h op := by
  cases op <;> simp only [stepOp]
  case move x => rw [hev x (by simp [Op.operands])]
  case assign x => rw [hev x (by simp [Op.operands])]
  case pick c a b => rw [hev c (by simp [Op.operands]), hev a (by simp [Op.operands]), hev b (by simp [Op.operands])]
  case box ty x => rw [hev x (by simp [Op.operands])]
  case build ty ps => rw [evP_congr fun p hp => hev p.2 (by simp [Op.operands]; exact ⟨p.1, by simpa using hp⟩)]
  case buildSlice ty n ps => rw [evP_congr fun p hp => hev p.2 (by simp [Op.operands]; exact ⟨p.1, by simpa using hp⟩)]
  case load ty a => rw [hev a (by simp [Op.operands])]
  case store ty a x => rw [hev a (by simp [Op.operands]), hev x (by simp [Op.operands])]
  case nilCheck x => rw [hev x (by simp [Op.operands])]
  case binOp op ty x y yt => rw [hev x (by simp [Op.operands]), hev y (by simp [Op.operands])]
  case unOp op ty x => rw [hev x (by simp [Op.operands])]
  case convert s d x => rw [hev x (by simp [Op.operands])]
  case makeInterface ty x => rw [hev x (by simp [Op.operands])]
  case makeFunc f a c =>
    unfold sFunc
    rw [rec_congr (l := a.toList) fun x hx => hev x (by simp [Op.operands]; exact .inl (by simpa using hx)), rec_congr (l := c.toList) fun x hx => hev x (by simp [Op.operands]; exact .inr (by simpa using hx))]
  case makeSlice ty l c => rw [hev l (by simp [Op.operands]), hev c (by simp [Op.operands])]
  case slice ty x lo hi mx => rw [hev x (by simp [Op.operands]), opt_congr fun y hy => hev y (by subst hy; simp [Op.operands]), opt_congr (x := hi) fun y hy => hev y (by subst hy; simp [Op.operands]), opt_congr (x := mx) fun y hy => hev y (by subst hy; simp [Op.operands])]
  case fieldAddr ty x k => rw [hev x (by simp [Op.operands])]
  case field ty x k => rw [hev x (by simp [Op.operands])]
  case indexAddr ty x i => rw [hev x (by simp [Op.operands]), hev i (by simp [Op.operands])]
  case index ty x i => rw [hev x (by simp [Op.operands]), hev i (by simp [Op.operands])]
  case extract x i => rw [hev x (by simp [Op.operands])]
  case makeMap ty r => rw [opt_congr fun y hy => hev y (by subst hy; simp [Op.operands])]
  case lookup ty m k ok => rw [hev m (by simp [Op.operands]), hev k (by simp [Op.operands])]
  case mapUpdate ty m k x => rw [hev m (by simp [Op.operands]), hev k (by simp [Op.operands]), hev x (by simp [Op.operands])]
  case insert ty m k x => rw [hev m (by simp [Op.operands]), hev k (by simp [Op.operands]), hev x (by simp [Op.operands])]
  case typeAssert x xt ty ok => rw [hev x (by simp [Op.operands])]
  case call c =>
    split
    · rw [evs_congr fun x hx => hev x (by simp only [Op.operands, Call.operands, Array.toList_append, List.mem_append]; exact .inr hx)]
    · rfl
theorem target_congr {t t' : Tm} {c : Call} (hev : ∀ x ∈ c.operands.toList, ev t x = ev t' x) : target E t c = target E t' c := by
  have ha : evs t c.args = evs t' c.args := evs_congr fun x hx => hev x (by simp only [Call.operands, Array.toList_append, List.mem_append]; exact .inr hx)
  unfold target
  split
  · rfl
  · rename_i f hf
    rw [ha, hev f (by simp [Call.operands, hf])]
  · rename_i r nm hf
    rw [ha, hev r (by simp [Call.operands, hf])]
theorem goCall_congr {nid : Nat} {t t' : Tm} {c : Call} {h : Heap} {lp : List Rec} (hev : ∀ x ∈ c.operands.toList, ev t x = ev t' x) : goCall E ih nid t c h lp = goCall E ih nid t' c h lp := by
  have ha : evs t c.args = evs t' c.args := evs_congr fun x hx => hev x (by simp only [Call.operands, Array.toList_append, List.mem_append]; exact .inr hx)
  have hy : yldOf t c = yldOf t' c := by
    unfold yldOf
    split
    · rename_i f hf
      rw [ha, hev f (by simp [Call.operands, hf])]
    · rfl
  unfold goCall
  rw [hy, target_congr hev]
theorem quietV_congr {keep : Bool} {nid : Nat} {t t' : Tm} {h : Heap} {op : Op} (hev : ∀ x ∈ op.operands.toList, ev t x = ev t' x) : quietV E ih keep nid t h op = quietV E ih keep nid t' h op := by
  unfold quietV
  split
  · rfl
  · rfl
  · rfl
  · rename_i c
    have ha : evs t c.args = evs t' c.args := evs_congr fun x hx => hev x (by simp only [Op.operands, Call.operands, Array.toList_append, List.mem_append]; exact .inr hx)
    rw [ha, target_congr (c := c) hev]
  · rename_i ty n ps
    rw [evP_congr fun p hp => hev p.2 (by simp [Op.operands]; exact ⟨p.1, by simpa using hp⟩)]
  · rw [stepOp_congr hev]

theorem simpleV_congr {keep : Bool} {nid : Nat} {t t' : Tm} {h : Heap} {op : Op} (hev : ∀ x ∈ op.operands.toList, ev t x = ev t' x) : simpleV E ih keep nid t h op = simpleV E ih keep nid t' h op := by
  unfold simpleV
  split
  · rename_i c
    have ha : evs t c.args = evs t' c.args := evs_congr fun x hx => hev x (by simp only [Op.operands, Call.operands, Array.toList_append, List.mem_append]; exact .inr hx)
    rw [ha, target_congr (c := c) hev]
  · rw [stepOp_congr hev]

/-- An operation of a region that draws: its value, and what else is left. -/
noncomputable def opX (E : Env) (ih : Nat → Nat → Nat → Code → St → Option (Ex × St)) (keep : Bool) (ops : Array Oper) (k n i cls : Nat) (m : List Nat) (o : Oper) (t : Tm) (h : Heap) (lp : List Rec) (df : List (Nat × List V)) : Option (V × Heap × List Rec × List (Nat × List V)) :=
  match guardOf ops t o.guard with
  | none => none
  | some false => some (.im (.tup []), h, lp, df)
  | some true => match cls with
    | 0 => (stepOp E keep (k + i) t [] o.op).map fun r => (r.1, h, lp, df)
    | 1 => bif isNew E o.op then (match hget h (k + i) with
        | none => (quietV E ih keep (k + i) t (hide k m h) o.op).map fun r => (r.1, putBlk h (k + i) r.2, lp, df)
        | some _ => none)
      else (quietV E ih keep (llen h) t (hide k m h) o.op).bind fun r => (match r.2 with
        | none => some (r.1, h, lp, df)
        | some _ => none)
    | 2 => (simpleV E ih keep (k + i) t (hide k m (h.take (k + n))) o.op).map fun v => (v, h, lp, df)
    | 3 => (match o.op with
      | .defer c => (match c.callee with
        | .value f => (match ev t f with
          | .fn g a cap => bif isMark (g, a ++ (evs t c.args ++ cap)) then none else some (.undef, h, lp, (g, a ++ (evs t c.args ++ cap)) :: df)
          | _ => none)
        | _ => none)
      | op => ((match op with
          | .call c => (match c.callee with
            | .builtin _ => lift lp (stepOp E keep (llen h) t h op)
            | _ => goCall E ih (llen h) t c h lp)
          | op => lift lp (stepOp E keep (llen h) t h op) : RC)).map fun r => (r.1, r.2.1, r.2.2, df))
    | 4 => (match o.op with
      | .call c => (target E t c).bind fun g => (inlineV E ih g.1 g.2 (only (reachIn h 0 64 (addNew 0 (refsL g.2) [])) h) lp).bind fun r =>
          bif sameH (only (reachIn h 0 64 (addNew 0 (refsL g.2) [])) h) (r.2.1.take (llen h)) then some (r.1, h ++ r.2.1.drop (llen h), r.2.2, df) else none
      | _ => none)
    | 6 => (match o.op with
      | .store ty a x => (match ev t a with
        | .ptr b g p => bif notAt t b m && isCell (hget h b) then (sStore E h ty (.ptr b g p) (ev t x)).map fun r => (r.1, r.2, lp, df) else none
        | _ => none)
      | _ => none)
    | 9 => (match o.op with
      | .store ty a x => (match ev t a with
        | .ptr b g p => bif Nat.ble k b && isCell (hget h b) then (sStore E h ty (.ptr b g p) (ev t x)).map fun r => (r.1, r.2, lp, df) else none
        | _ => none)
      | _ => none)
    | 7 => (match o.op with
      | .load ty a => (match ev t a with
        | .ptr b g p => (sLoad E (h.take k) ty (.ptr b g p)).map fun r => (r.1, h, lp, df)
        | _ => none)
      | _ => none)
    | 8 => (match o.op with
      | .indexAddr ty x i => (sIndexAddr E (h.take k) ty (ev t x) (ev t i)).map fun r => (r.1, h, lp, df)
      | _ => none)
    | _ => (match o.op with
      | .call c => (target E t c).bind fun g => (allSnap (hide k m h) g.2).bind fun ds => (dataC E ih g.1 ds).bind fun r =>
          bif r.flat then some (.im r, h, lp, df) else none
      | _ => none)
noncomputable def wrapX (o : Oper) (t : Tm) (r : V × Heap × List Rec × List (Nat × List V)) : St := ⟨putDst t o.dst r.1, r.2.1, r.2.2.1, r.2.2.2⟩

theorem opD_eq (keep : Bool) (ops : Array Oper) (k n i cls : Nat) (m : List Nat) (o : Oper) (t : Tm) (h : Heap) (lp : List Rec) (df : List (Nat × List V)) :
    opD E ih keep ops k n i cls m o ⟨t, h, lp, df⟩ = (opX E ih keep ops k n i cls m o t h lp df).map (wrapX o t) := by
  unfold opD opX
  simp only
  cases hg : guardOf ops t o.guard with
  | none => rfl
  | some b =>
    cases b with
    | false => rfl
    | true =>
      rcases cls with _ | _ | _ | _ | _ | _ | _ | _ | _ | _ | cls
      all_goals simp only
      · simp only [Option.map_map]; rfl
      · cases hnew : isNew E o.op
        · simp only [cond_false]
          cases quietV E ih keep (llen h) t (hide k m h) o.op with
          | none => rfl
          | some r =>
            simp only [Option.bind_some]
            cases r.2 <;> rfl
        · simp only [cond_true]
          cases hget h (k + i) with
          | none => simp only [Option.map_map]; rfl
          | some _ => rfl
      · simp only [Option.map_map]; rfl
      · unfold opV
        simp only [hg]
        cases hop : o.op with
        | defer c =>
          simp only
          cases c.callee with
          | value f => simp only; cases ev t f <;> try rfl
                       rename_i g a cap; simp only; cases isMark (g, a ++ (evs t c.args ++ cap)) <;> rfl
          | _ => rfl
        | call c =>
          simp only
          cases c.callee with
          | builtin b => simp only; cases lift lp (stepOp E keep (llen h) t h (.call c)) <;> rfl
          | _ => simp only; cases (goCall E ih (llen h) t c h lp) <;> rfl
        | _ =>
          simp only
          generalize lift lp _ = r; cases r <;> rfl
      · cases o.op with
        | call c =>
          simp only
          cases target E t c with
          | none => rfl
          | some g =>
            simp only [Option.bind_some]
            cases inlineV E ih g.1 g.2 (only (reachIn h 0 64 (addNew 0 (refsL g.2) [])) h) lp with
            | none => rfl
            | some r => simp only [Option.bind_some]; cases sameH (only (reachIn h 0 64 (addNew 0 (refsL g.2) [])) h) (r.2.1.take (llen h)) <;> rfl
        | _ => rfl
      · cases o.op with
        | call c =>
          simp only
          cases target E t c with
          | none => rfl
          | some g =>
            simp only [Option.bind_some]
            cases allSnap (hide k m h) g.2 with
            | none => rfl
            | some ds =>
              simp only [Option.bind_some]
              cases dataC E ih g.1 ds with
              | none => rfl
              | some r => simp only [Option.bind_some]; cases r.flat <;> rfl
        | _ => rfl
      · cases o.op with
        | store ty a x =>
          simp only
          cases ev t a with
          | ptr b g p => simp only; cases (notAt t b m && isCell (hget h b)) with
            | true => simp only [cond_true, Option.map_map]; rfl
            | false => rfl
          | _ => rfl
        | _ => rfl
      · cases o.op with
        | load ty a =>
          simp only
          cases ev t a with
          | ptr b g p => simp only [Option.map_map]; rfl
          | _ => rfl
        | _ => rfl
      · cases o.op with
        | indexAddr ty x i => simp only [Option.map_map]; rfl
        | _ => rfl
      · cases o.op with
        | store ty a x =>
          simp only
          cases ev t a with
          | ptr b g p => simp only; cases (Nat.ble k b && isCell (hget h b)) with
            | true => simp only [cond_true, Option.map_map]; rfl
            | false => rfl
          | _ => rfl
        | _ => rfl
      · cases o.op with
        | call c =>
          simp only
          cases target E t c with
          | none => rfl
          | some g =>
            simp only [Option.bind_some]
            cases allSnap (hide k m h) g.2 with
            | none => rfl
            | some ds =>
              simp only [Option.bind_some]
              cases dataC E ih g.1 ds with
              | none => rfl
              | some r => simp only [Option.bind_some]; cases r.flat <;> rfl
        | _ => rfl

theorem notAt_congr {m : List Nat} {t t' : Tm} (h : Ag m t t') (b : Nat) : notAt t b m = notAt t' b m := by
  induction m with
  | nil => rfl
  | cons s m ih =>
    have e : ∀ t : Tm, notAt t b (s :: m) = (match t.get s with | .ptr c _ _ => bif Nat.beq b c then false else notAt t b m | _ => false) := fun _ => rfl
    rw [e, e, h s (by simp), ih fun x hx => h x (by simp [hx])]
/-- An operation hangs on the slots that it looks at alone. -/
theorem opX_congr {keep : Bool} {ops : Array Oper} {k n i cls : Nat} {m : List Nat} {o : Oper} {t t' : Tm} {h : Heap} {lp : List Rec} {df : List (Nat × List V)} (hag : Ag (reads ops o) t t') (hm : cls = 6 → Ag m t t') :
    opX E ih keep ops k n i cls m o t h lp df = opX E ih keep ops k n i cls m o t' h lp df := by
  have hev : ∀ x ∈ o.op.operands.toList, ev t x = ev t' x := fun x hx => hag.ev hx
  have htar : ∀ c, o.op = .call c → target E t c = target E t' c := fun c hop => target_congr fun x hx => hev x (by rw [hop]; exact hx)
  have hst := stepOp_congr (E := E) (keep := keep) (nid := llen h) (h := h) hev
  unfold opX
  rw [hag.guard]
  cases guardOf ops t' o.guard with
  | none => rfl
  | some b =>
    cases b with
    | false => rfl
    | true =>
      simp only
      split
      · rw [stepOp_congr hev]
      · rw [quietV_congr (nid := k + i) hev, quietV_congr (nid := llen h) hev]
      · rw [simpleV_congr hev]
      · split
        · rename_i c hop
          split
          · rename_i f hf
            have hc : ∀ x ∈ c.operands.toList, ev t x = ev t' x := fun x hx => hev x (by rw [hop]; exact hx)
            rw [evs_congr (t := t) (t' := t') fun x hx => hc x (by simp only [Call.operands, Array.toList_append, List.mem_append]; exact .inr hx), hc f (by simp [Call.operands, hf])]
          · rfl
        · split
          · rename_i c hop
            rw [goCall_congr (t' := t') (fun x hx => hev x (by rw [hop]; exact hx)), hst]
          · rw [hst]
      · split
        · rename_i c hop
          rw [htar c hop]
        · rfl
      · split
        · rename_i ty a x hop
          have h1 : ev t a = ev t' a := hev a (by rw [hop]; simp [Op.operands])
          have h2 : ev t x = ev t' x := hev x (by rw [hop]; simp [Op.operands])
          have h3 : ∀ b, notAt t b m = notAt t' b m := notAt_congr (hm rfl)
          rw [h1, h2]
          simp only [h3]
        · rfl
      · split
        · rename_i ty a x hop
          have h1 : ev t a = ev t' a := hev a (by rw [hop]; simp [Op.operands])
          have h2 : ev t x = ev t' x := hev x (by rw [hop]; simp [Op.operands])
          rw [h1, h2]
        · rfl
      · split
        · rename_i ty a hop
          have h1 : ev t a = ev t' a := hev a (by rw [hop]; simp [Op.operands])
          rw [h1]
        · rfl
      · split
        · rename_i ty x i' hop
          have h1 : ev t x = ev t' x := hev x (by rw [hop]; simp [Op.operands])
          have h2 : ev t i' = ev t' i' := hev i' (by rw [hop]; simp [Op.operands])
          rw [h1, h2]
        · rfl
      · split
        · rename_i c hop
          rw [htar c hop]
        · rfl
end
end Go.As
