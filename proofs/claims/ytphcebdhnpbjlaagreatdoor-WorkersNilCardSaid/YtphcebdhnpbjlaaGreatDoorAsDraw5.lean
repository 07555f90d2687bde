/-
  AS: regions that draw, whole.
-/
import Derived.Test.YtphcebdhnpbjlaaGreatDoorAsDraw4
import Derived.OrdersIn
set_option linter.unusedSectionVars false
set_option linter.unusedSimpArgs false
set_option linter.unusedVariables false
namespace Go.As
open Go.RowKit (Below)
variable [Gh]

/-! ### places -/
theorem news_append (E : Env) : ∀ (a b : List Oper), news E (a ++ b) = news E a + news E b
  | [], b => by show news E b = 0 + news E b; omega
  | o :: a, b => by show _ + news E (a ++ b) = (_ + news E a) + news E b; rw [news_append E a b]; omega
theorem news_cons (E : Env) (o : Oper) (l : List Oper) : news E (o :: l) = (bif isNew E o.op then 1 else 0) + news E l := rfl

section
variable {F : Fence} {P : Program} {B : Nat} {X : Cx} {O : Nat → Addr → Prop} {w : World} {E : Env} {ih : Nat → Nat → Nat → Code → St → Option (Ex × St)}

/-- How many blocks of their own the operations before it have. -/
noncomputable def nwAt (E : Env) (ops : Array Oper) (j : Nat) : Nat := news E (ops.toList.take j)
theorem nwAt_succ {ops : Array Oper} {j : Nat} {o : Oper} (h : ops.toList[j]? = some o) : nwAt E ops (j + 1) = nwAt E ops j + (bif isNew E o.op then 1 else 0) := by
  unfold nwAt
  rw [List.take_add_one, h, news_append]
  rfl
theorem nwAt_mono {ops : Array Oper} {i j : Nat} (h : i ≤ j) : nwAt E ops i ≤ nwAt E ops j := by
  unfold nwAt
  obtain ⟨d, rfl⟩ : ∃ d, j = i + d := ⟨j - i, by omega⟩
  rw [List.take_add, news_append]; omega
theorem nwAt_lt {ops : Array Oper} {i j : Nat} {o : Oper} (hi : ops.toList[i]? = some o) (hn : isNew E o.op = true) (h : i < j) : nwAt E ops i < nwAt E ops j := by
  have h1 := nwAt_succ (E := E) hi
  rw [hn, cond_true] at h1
  have h2 := nwAt_mono (E := E) (ops := ops) (show i + 1 ≤ j by omega)
  omega
theorem nwAt_all {ops : Array Oper} {i : Nat} {o : Oper} (hi : ops.toList[i]? = some o) (hn : isNew E o.op = true) : nwAt E ops i < news E ops.toList := by
  have hlt := (List.getElem?_eq_some_iff.1 hi).1
  have := nwAt_lt (E := E) hi hn hlt
  rwa [nwAt, nwAt, List.take_length] at this

noncomputable def opAt (E : Env) (ih : Nat → Nat → Nat → Code → St → Option (Ex × St)) (keep : Bool) (ops : Array Oper) (ds : List (Nat × List Nat)) (k n : Nat) (j : Nat) (st : St) : Option St :=
  match ops.toList[j]?, ds[j]? with
  | some o, some d => opD E ih keep ops k n (nwAt E ops j) d.1 d.2 o st
  | _, _ => none
noncomputable def runL (E : Env) (ih : Nat → Nat → Nat → Code → St → Option (Ex × St)) (keep : Bool) (ops : Array Oper) (ds : List (Nat × List Nat)) (k n : Nat) : List Nat → St → Option St
  | [], st => some st
  | j :: l, st => (opAt E ih keep ops ds k n j st).bind (runL E ih keep ops ds k n l)

theorem runOpsD_cons (keep : Bool) (ops : Array Oper) (k n : Nat) (o : Oper) (l : List Oper) (ds : List (Nat × List Nat)) (i : Nat) (st : St) :
    runOpsD E ih keep ops k n (o :: l) ds i st = (match ds with
      | [] => none
      | (c, m) :: ds => match opD E ih keep ops k n i c m o st with
        | none => none
        | some st' => runOpsD E ih keep ops k n l ds (bif isNew E o.op then i + 1 else i) st') := rfl
theorem runOpsD_runL {keep : Bool} {ops : Array Oper} {ds : List (Nat × List Nat)} {k n : Nat} : ∀ (l : List Oper) (j : Nat) (st : St), l = ops.toList.drop j →
    ∀ st', runOpsD E ih keep ops k n l (ds.drop j) (nwAt E ops j) st = some st' → runL E ih keep ops ds k n (List.range' j l.length) st = some st'
  | [], j, st, hl, st', e => e
  | o :: l, j, st, hl, st', e => by
    have hj : ops.toList[j]? = some o := by
      have : (ops.toList.drop j)[0]? = some o := by rw [← hl]; rfl
      rwa [List.getElem?_drop] at this
    have hl' : l = ops.toList.drop (j + 1) := by
      have : (ops.toList.drop j).drop 1 = l := by rw [← hl]; rfl
      rw [← this, List.drop_drop]
    rw [runOpsD_cons] at e
    cases hd : ds.drop j with
    | nil => rw [hd] at e; cases e
    | cons d ds' =>
      obtain ⟨c, m⟩ := d
      rw [hd] at e
      simp only at e
      have hdj : ds[j]? = some (c, m) := by
        have : (ds.drop j)[0]? = some (c, m) := by rw [hd]; rfl
        rwa [List.getElem?_drop] at this
      have hds : ds' = ds.drop (j + 1) := by
        have : (ds.drop j).drop 1 = ds' := by rw [hd]; rfl
        rw [← this, List.drop_drop]
      cases h1 : opD E ih keep ops k n (nwAt E ops j) c m o st with
      | none => rw [h1] at e; cases e
      | some s1 =>
        rw [h1] at e
        simp only at e
        have hn : (bif isNew E o.op then nwAt E ops j + 1 else nwAt E ops j) = nwAt E ops (j + 1) := by
          rw [nwAt_succ hj]; cases isNew E o.op <;> rfl
        rw [hn, hds] at e
        have := runOpsD_runL l (j + 1) s1 hl' st' e
        show runL E ih keep ops ds k n (j :: List.range' (j + 1) l.length) st = some st'
        unfold runL opAt
        rw [hj, hdj]
        simp only [h1, Option.bind_some]
        exact this

/-! ### what has been looked at -/
theorem okFrom_cons (ops : Array Oper) (bfs : List Nat) (ds0 : List (Nat × List Nat)) (o : Oper) (l : List Oper) (ds : List (Nat × List Nat)) (i nw : Nat) :
    okFrom E ops bfs ds0 (o :: l) ds i nw = (match ds with
      | [] => false
      | (c, m) :: ds => okOne o i c && (okAll E ops o ((lget bfs i).getD 0) c m nw (ops.toList.take i) (ds0.take i) 0 0 && okFrom E ops bfs ds0 l ds (i + 1) (bif isNew E o.op then nw + 1 else nw))) := rfl
theorem okFrom_at {ops : Array Oper} {bfs : List Nat} {ds0 : List (Nat × List Nat)} : ∀ (l : List Oper) (j : Nat), l = ops.toList.drop j → okFrom E ops bfs ds0 l (ds0.drop j) j (nwAt E ops j) = true →
    ∀ i o, j ≤ i → ops.toList[i]? = some o → ∃ d, ds0[i]? = some d ∧ okOne o i d.1 = true ∧ okAll E ops o ((lget bfs i).getD 0) d.1 d.2 (nwAt E ops i) (ops.toList.take i) (ds0.take i) 0 0 = true
  | [], j, hl, e, i, o, hji, hi => by
    have := (List.getElem?_eq_some_iff.1 hi).1
    have : ops.toList.length ≤ j := by
      have h := congrArg List.length hl
      simp only [List.length_nil, List.length_drop] at h; omega
    omega
  | p :: l, j, hl, e, i, o, hji, hi => by
    have hj : ops.toList[j]? = some p := by
      have : (ops.toList.drop j)[0]? = some p := by rw [← hl]; rfl
      rwa [List.getElem?_drop] at this
    have hl' : l = ops.toList.drop (j + 1) := by
      have : (ops.toList.drop j).drop 1 = l := by rw [← hl]; rfl
      rw [← this, List.drop_drop]
    rw [okFrom_cons] at e
    cases hd : ds0.drop j with
    | nil => rw [hd] at e; cases e
    | cons d ds' =>
      obtain ⟨c, m⟩ := d
      rw [hd] at e
      simp only [Bool.and_eq_true] at e
      have hdj : ds0[j]? = some (c, m) := by
        have : (ds0.drop j)[0]? = some (c, m) := by rw [hd]; rfl
        rwa [List.getElem?_drop] at this
      have hds : ds' = ds0.drop (j + 1) := by
        have : (ds0.drop j).drop 1 = ds' := by rw [hd]; rfl
        rw [← this, List.drop_drop]
      by_cases hij : i = j
      · subst hij
        rw [hj] at hi; cases hi
        exact ⟨_, hdj, e.1, e.2.1⟩
      · have hn : (bif isNew E p.op then nwAt E ops j + 1 else nwAt E ops j) = nwAt E ops (j + 1) := by
          rw [nwAt_succ hj]; cases isNew E p.op <;> rfl
        refine okFrom_at l (j + 1) hl' ?_ i o (by omega) hi
        rw [← hn, ← hds]; exact e.2.2
theorem okAll_cons (ops : Array Oper) (o : Oper) (bf c : Nat) (m : List Nat) (nw : Nat) (p : Oper) (l : List Oper) (ds : List (Nat × List Nat)) (j nj : Nat) :
    okAll E ops o bf c m nw (p :: l) ds j nj = (match ds with
      | [] => true
      | (cj, mj) :: ds => (Nat.testBit bf j || apartC E ops p o cj c mj m nj nw) && okAll E ops o bf c m nw l ds (j + 1) (bif isNew E p.op then nj + 1 else nj)) := rfl
theorem okAll_at {ops : Array Oper} {o : Oper} {bf c : Nat} {m : List Nat} {nw : Nat} {l0 : List Oper} {ds0 : List (Nat × List Nat)} : ∀ (l : List Oper) (j : Nat), l = l0.drop j → okAll E ops o bf c m nw l (ds0.drop j) j (news E (l0.take j)) = true →
    ∀ i p d, j ≤ i → l0[i]? = some p → ds0[i]? = some d → Nat.testBit bf i = true ∨ apartC E ops p o d.1 c d.2 m (news E (l0.take i)) nw = true
  | [], j, hl, e, i, p, d, hji, hi, hdi => by
    have := (List.getElem?_eq_some_iff.1 hi).1
    have : l0.length ≤ j := by
      have h := congrArg List.length hl
      simp only [List.length_nil, List.length_drop] at h; omega
    omega
  | q :: l, j, hl, e, i, p, d, hji, hi, hdi => by
    have hj : l0[j]? = some q := by
      have : (l0.drop j)[0]? = some q := by rw [← hl]; rfl
      rwa [List.getElem?_drop] at this
    have hl' : l = l0.drop (j + 1) := by
      have : (l0.drop j).drop 1 = l := by rw [← hl]; rfl
      rw [← this, List.drop_drop]
    rw [okAll_cons] at e
    cases hd : ds0.drop j with
    | nil =>
      have h := congrArg List.length hd
      have := (List.getElem?_eq_some_iff.1 hdi).1
      simp only [List.length_nil, List.length_drop] at h; omega
    | cons d' ds' =>
      obtain ⟨c', m'⟩ := d'
      rw [hd] at e
      simp only [Bool.and_eq_true, Bool.or_eq_true] at e
      have hdj : ds0[j]? = some (c', m') := by
        have : (ds0.drop j)[0]? = some (c', m') := by rw [hd]; rfl
        rwa [List.getElem?_drop] at this
      have hds : ds' = ds0.drop (j + 1) := by
        have : (ds0.drop j).drop 1 = ds' := by rw [hd]; rfl
        rw [← this, List.drop_drop]
      by_cases hij : i = j
      · subst hij
        rw [hj] at hi; cases hi
        rw [hdj] at hdi; cases hdi
        exact e.1
      · have hn : (bif isNew E q.op then news E (l0.take j) + 1 else news E (l0.take j)) = news E (l0.take (j + 1)) := by
          rw [List.take_add_one, hj, news_append]
          show _ = _ + (_ + 0)
          cases isNew E q.op <;> rfl
        refine okAll_at l (j + 1) hl' ?_ i p d (by omega) hi hdi
        rw [← hn, ← hds]; exact e.2

/-- What comes before. -/
noncomputable def bfOf (acc : List Nat) (o : Oper) : Nat := o.after.toList.foldl (fun s e => bif Region.binds .any e then Nat.lor s (Nat.lor (2 ^ e.on) ((lget acc e.on).getD 0)) else s) 0
theorem befores_cons (o : Oper) (l : List Oper) (acc : List Nat) : befores (o :: l) acc = befores l (acc ++ [bfOf acc o]) := rfl
theorem befores_prefix : ∀ (l : List Oper) (acc : List Nat) (i x : Nat), acc[i]? = some x → (befores l acc)[i]? = some x
  | [], _, _, _, h => h
  | o :: l, acc, i, x, h => by
    rw [befores_cons]
    refine befores_prefix l _ i x ?_
    rw [List.getElem?_append_left (List.getElem?_eq_some_iff.1 h).1]; exact h
theorem befores_at (l : List Oper) : ∀ (acc : List Nat) (i : Nat) (o : Oper), l[i]? = some o → ∃ acc' : List Nat, (befores l acc)[acc.length + i]? = some (bfOf acc' o) ∧ ∀ (j x : Nat), acc'[j]? = some x → (befores l acc)[j]? = some x := by
  induction l with
  | nil => intro acc i o h; simp at h
  | cons o l ih =>
    intro acc i p h
    rw [befores_cons]
    cases i with
    | zero =>
      simp only [List.getElem?_cons_zero, Option.some.injEq] at h
      subst h
      refine ⟨acc, befores_prefix l _ _ _ ?_, fun j x hj => befores_prefix l _ _ _ ?_⟩
      · simp
      · rw [List.getElem?_append_left (List.getElem?_eq_some_iff.1 hj).1]; exact hj
    | succ i =>
      simp only [List.getElem?_cons_succ] at h
      obtain ⟨acc', h1, h2⟩ := ih (acc ++ [bfOf acc o]) i p h
      refine ⟨acc', ?_, h2⟩
      rw [← h1, List.length_append, List.length_singleton, Nat.add_assoc, Nat.add_comm 1 i]
/-- A bit of what comes before: an edge's, or of what comes before that. -/
theorem bf_bit {acc : List Nat} {b : Nat} : ∀ (l : List Edge) (s : Nat), Nat.testBit (l.foldl (fun s e => bif Region.binds .any e then Nat.lor s (Nat.lor (2 ^ e.on) ((lget acc e.on).getD 0)) else s) s) b = true →
    Nat.testBit s b = true ∨ ∃ e ∈ l, Region.binds .any e = true ∧ (b = e.on ∨ ∃ x, acc[e.on]? = some x ∧ Nat.testBit x b = true)
  | [], s, h => .inl h
  | e :: l, s, h => by
    rw [List.foldl_cons] at h
    rcases bf_bit l _ h with h | ⟨e', he, hb⟩
    · cases hbi : Region.binds .any e with
      | false => rw [hbi, cond_false] at h; exact .inl h
      | true =>
        rw [hbi, cond_true] at h
        have h : Nat.testBit (s ||| (2 ^ e.on ||| (lget acc e.on).getD 0)) b = true := h
        rw [Nat.testBit_or, Nat.testBit_or, Bool.or_eq_true, Bool.or_eq_true] at h
        rcases h with h | h | h
        · exact .inl h
        · refine .inr ⟨e, by simp, hbi, .inl ?_⟩
          rw [Nat.testBit_two_pow] at h
          simpa using (of_decide_eq_true h).symm
        · refine .inr ⟨e, by simp, hbi, .inr ?_⟩
          rw [lget_eq] at h
          cases hx : acc[e.on]? with
          | none => rw [hx] at h; simp at h
          | some x => rw [hx] at h; exact ⟨x, rfl, h⟩
    · exact .inr ⟨e', by simp [he], hb⟩

/-- All that drOk says. -/
structure DrOk (E : Env) (ops : Array Oper) (ds : List (Nat × List Nat)) (bf : Nat → Nat) : Prop where
  one : ∀ i o, ops.toList[i]? = some o → ∃ d, ds[i]? = some d ∧ okOne o i d.1 = true
  all : ∀ i j o p d c, j < i → ops.toList[i]? = some o → ops.toList[j]? = some p → ds[i]? = some d → ds[j]? = some c → Nat.testBit (bf i) j = true ∨ apartC E ops p o c.1 d.1 c.2 d.2 (nwAt E ops j) (nwAt E ops i) = true
  bit : ∀ i o b, ops.toList[i]? = some o → Nat.testBit (bf i) b = true → ∃ e ∈ o.after, Region.binds .any e = true ∧ (b = e.on ∨ Nat.testBit (bf e.on) b = true)
theorem drOk_all {ops : Array Oper} {ds : List (Nat × List Nat)} (h : drOk E ops ds = true) : ∃ bf, DrOk E ops ds bf := by
  unfold drOk at h
  have key := okFrom_at (E := E) (ops := ops) (bfs := befores ops.toList []) (ds0 := ds) ops.toList 0 rfl h
  refine ⟨fun i => (lget (befores ops.toList []) i).getD 0, ⟨fun i o hi => ?_, fun i j o p d c hji hi hj hd hc => ?_, fun i o b hi hb => ?_⟩⟩
  · obtain ⟨d, h1, h2, _⟩ := key i o (Nat.zero_le _) hi
    exact ⟨d, h1, h2⟩
  · obtain ⟨d', h1, _, h2⟩ := key i o (Nat.zero_le _) hi
    rw [hd] at h1; cases h1
    have := okAll_at (E := E) (l0 := ops.toList.take i) (ds0 := ds.take i) (ops.toList.take i) 0 rfl h2 j p c (Nat.zero_le _) (by rw [List.getElem?_take, if_pos hji]; exact hj) (by rw [List.getElem?_take, if_pos hji]; exact hc)
    rw [List.take_take, Nat.min_eq_left (by omega)] at this
    exact this
  · obtain ⟨acc, h1, h2⟩ := befores_at ops.toList [] i o hi
    simp only [List.length_nil, Nat.zero_add] at h1
    rw [lget_eq, h1] at hb
    rcases bf_bit _ _ hb with hb | ⟨e, he, hbi, hb⟩
    · simp at hb
    · refine ⟨e, by simpa using he, hbi, ?_⟩
      rcases hb with hb | ⟨x, hx, hb⟩
      · exact .inl hb
      · refine .inr ?_
        rw [lget_eq, h2 _ _ hx]; exact hb
end
end Go.As
