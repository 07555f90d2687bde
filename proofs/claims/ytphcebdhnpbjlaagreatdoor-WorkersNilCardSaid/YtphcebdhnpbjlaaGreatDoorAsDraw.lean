/-
  AS: an operation of a region that draws its order, from its own view of the heap.
-/
import Derived.Test.YtphcebdhnpbjlaaGreatDoorAsOper
set_option linter.unusedSectionVars false
set_option linter.unusedSimpArgs false
set_option linter.unusedVariables false
namespace Go.As
open Go.RowKit (Below)
variable [Gh]
section
variable {F : Fence} {P : Program} {B : Nat} {X : Cx} {O : Nat → Addr → Prop} {w : World} {h : Heap} {E : Env} {ih : Nat → Nat → Nat → Code → St → Option (Ex × St)}

/-! ### views -/
theorem hide_cons (k i : Nat) (m : List Nat) (h : Heap) : hide k (i :: m) h = hide k m (lset h (k + i) none) := rfl
theorem hide_length (k : Nat) : ∀ (m : List Nat) (h : Heap), (hide k m h).length = h.length
  | [], h => rfl
  | i :: m, h => by rw [hide_cons, hide_length k m, lset_eq, List.length_set]
theorem hget_set_none (h : Heap) (j b : Nat) : hget (h.set j none) b = if b = j then none else hget h b := by
  rw [hget_eq, hget_eq, List.getElem?_set]
  by_cases hb : j = b
  · subst hb; simp; split <;> rfl
  · rw [if_neg hb, if_neg (Ne.symm hb)]
theorem hget_hide (k : Nat) : ∀ (m : List Nat) (h : Heap) (b : Nat), hget (hide k m h) b = if ∃ i ∈ m, b = k + i then none else hget h b
  | [], h, b => by simp [hide]
  | i :: m, h, b => by
    rw [hide_cons, hget_hide k m, lset_eq, hget_set_none]
    by_cases h1 : ∃ j ∈ m, b = k + j
    · rw [if_pos h1, if_pos]; obtain ⟨j, hj, e⟩ := h1; exact ⟨j, by simp [hj], e⟩
    · rw [if_neg h1]
      by_cases h2 : b = k + i
      · rw [if_pos h2, if_pos ⟨i, by simp, h2⟩]
      · rw [if_neg h2, if_neg]
        rintro ⟨j, hj, e⟩
        rcases List.mem_cons.1 hj with rfl | hj
        · exact h2 e
        · exact h1 ⟨j, hj, e⟩
theorem hide_sub (k : Nat) (m : List Nat) (h : Heap) : Sub (hide k m h) h := fun b x e => by
  rw [hget_hide] at e; split at e
  · cases e
  · exact e
theorem take_sub (n : Nat) (h : Heap) : Sub (h.take n) h := fun b x e => by
  rw [hget_eq, List.getElem?_take] at e
  rw [hget_eq]
  split at e
  · exact e
  · cases e
theorem Sub.trans {a b c : Heap} (h : Sub a b) (k : Sub b c) : Sub a c := fun i x e => k i x (h i x e)
/-! ### operations that look at slots alone, or at one block -/
theorem pure_any {keep : Bool} {nid : Nat} {t : Tm} {op : Op} (hp : isPure op = true) {v : V} {h1 h2 : Heap} (e : stepOp E keep nid t h1 op = some (v, h2)) (nid' : Nat) (h' : Heap) : stepOp E keep nid' t h' op = some (v, h') := by
  cases op <;> simp only [isPure] at hp <;> try (cases hp; done)
  all_goals simp only [stepOp] at e ⊢
  case move x => cases e; rfl
  case assign x => cases e; rfl
  case pick c a b =>
    unfold sPick at e ⊢
    split at e
    · rename_i q hq; cases q <;> simp_all
    · cases e
  case build ty ps =>
    unfold sBuild at e ⊢
    obtain ⟨ti, hti, e⟩ := Option.bind_eq_some_iff.1 e
    obtain ⟨l, hl, e⟩ := Option.bind_eq_some_iff.1 e
    rw [hti]; simp only [Option.bind_some, hl]
    split at e
    · rename_i fs hk; try rw [hk]
      obtain ⟨l', hf, e⟩ := Option.map_eq_some_iff.1 e
      cases e; simp only [hf, Option.map_some]
    · rename_i n el hk; try rw [hk]
      obtain ⟨te, hte, e⟩ := Option.bind_eq_some_iff.1 e
      obtain ⟨l', hf, e⟩ := Option.map_eq_some_iff.1 e
      cases e; simp only [hte, Option.bind_some, hf, Option.map_some]
    · cases e
  case nilCheck x =>
    unfold sNilCheck at e ⊢
    split at e <;> first | (cases e; rfl) | (cases e; done)
  case binOp op ty x y yt =>
    cases hb : binV E op ty (isConst x || isConst y) (ev t x) (ev t y) <;> rw [hb] at e <;> first | cases e; done | (cases e; rfl)
  case unOp op ty x =>
    cases hb : unV op (ev t x) <;> rw [hb] at e <;> first | cases e; done | (cases e; rfl)
  case makeInterface ty x =>
    unfold sIface at e ⊢
    split at e
    · cases e
    · rename_i k hne hk; try rw [hk]
      split at e
      · cases e; rfl
      · cases e
      · cases e; rfl
    · cases e
  case makeFunc f a c =>
    unfold sFunc at e ⊢
    split at e
    · cases e; rfl
    · cases e
  case fieldAddr ty x k =>
    unfold sFieldAddr at e ⊢
    obtain ⟨ti, hti, e⟩ := Option.bind_eq_some_iff.1 e
    rw [hti]; simp only [Option.bind_some]
    split at e
    · rename_i fs hk; try rw [hk]
      obtain ⟨f, hf, e⟩ := Option.bind_eq_some_iff.1 e
      simp only [hf, Option.bind_some]
      cases hz : Nat.beq f.2.1 0 <;> rw [hz] at e <;> simp only [cond_true, cond_false] at e ⊢
      · split at e
        · cases e; rfl
        · split at e
          · obtain ⟨hc, e⟩ := bif_some e
            cases e; simp only [hc, cond_true]
          · cases e
        · cases e
      · cases e
    · cases e
  case field ty x k =>
    unfold sField at e ⊢
    obtain ⟨ti, hti, e⟩ := Option.bind_eq_some_iff.1 e
    rw [hti]; simp only [Option.bind_some]
    split at e
    · rename_i fs hk; try rw [hk]
      obtain ⟨f, hf, e⟩ := Option.bind_eq_some_iff.1 e
      obtain ⟨tf, htf, e⟩ := Option.bind_eq_some_iff.1 e
      obtain ⟨u, hu, e⟩ := Option.bind_eq_some_iff.1 e
      obtain ⟨hc, e⟩ := bif_some e
      cases e
      simp only [hf, htf, hu, Option.bind_some, hc, cond_true]
    · cases e
  case extract x i =>
    cases hb : (ev t x).part i <;> rw [hb] at e <;> first | cases e; done | (cases e; rfl)

theorem loadV_sub {v : Heap} (hs : Sub v h) {b g : Nat} {p : List (Nat × Nat)} {x : V} (e : loadV v b g p = some x) : loadV h b g p = some x := by
  unfold loadV at e ⊢
  cases hb : hget v b with
  | none => rw [hb] at e; cases e
  | some k => rw [hb] at e; rw [hs b k hb]; exact e
theorem simple_sub {v : Heap} (hs : Sub v h) {keep : Bool} {nid : Nat} {t : Tm} {op : Op} (hp : isSimple op = true) (hnc : ∀ c, op ≠ .call c) {x : V} {h2 : Heap} (e : stepOp E keep nid t v op = some (x, h2)) (nid' : Nat) : stepOp E keep nid' t h op = some (x, h) := by
  cases op <;> simp only [isSimple] at hp <;> try (cases hp; done)
  case call c => exact absurd rfl (hnc c)
  all_goals simp only [stepOp] at e ⊢
  case load ty a =>
    unfold sLoad at e ⊢
    obtain ⟨ti, hti, e⟩ := Option.bind_eq_some_iff.1 e
    rw [hti]; simp only [Option.bind_some]
    split at e
    · rename_i b g p hx; try rw [hx]
      obtain ⟨u, hu, e⟩ := Option.bind_eq_some_iff.1 e
      obtain ⟨hc, e⟩ := bif_some e
      cases e
      simp only [loadV_sub hs hu, Option.bind_some, hc, cond_true]
    · rename_i d hx; try rw [hx]
      obtain ⟨hc, e⟩ := bif_some e
      cases e; simp only [hc, cond_true]
    · cases e
  case indexAddr ty a i =>
    unfold sIndexAddr at e ⊢
    split at e
    · rename_i k n hi; try rw [hi]
      obtain ⟨ti, hti, e⟩ := Option.bind_eq_some_iff.1 e
      rw [hti]; simp only [Option.bind_some]
      split at e
      · rename_i el hk; try rw [hk]
        have hel : ∀ {l : List D}, elemRef E v el l n = some (x, h2) → elemRef E h el l n = some (x, h) := fun {l} e => by
          unfold elemRef at e ⊢
          obtain ⟨te, hte, e⟩ := Option.bind_eq_some_iff.1 e
          obtain ⟨hc, e⟩ := bif_some e
          obtain ⟨d, hd, e⟩ := Option.bind_eq_some_iff.1 e
          obtain ⟨hc2, e⟩ := bif_some e
          cases e
          simp only [hte, Option.bind_some, hc, hd, hc2, cond_true]
        split at e
        · rename_i b g off len lim hx; try rw [hx]
          obtain ⟨te, hte, e⟩ := Option.bind_eq_some_iff.1 e
          obtain ⟨hc, e⟩ := bif_some e
          cases e
          simp only [hte, Option.bind_some]
          have hc' : (ile 0 n && (ilt n (Int.ofNat len) && (Nat.beq off 0 || sizeIs h b te.size))) = true := by
            simp only [Bool.and_eq_true, Bool.or_eq_true] at hc ⊢
            refine ⟨hc.1, hc.2.1, hc.2.2.imp id fun hz => ?_⟩
            unfold sizeIs at hz ⊢
            cases hb : hget v b with
            | none => rw [hb] at hz; cases hz
            | some k => rw [hb] at hz; rw [hs b k hb]; exact hz
          rw [hc']; rfl
        · exact hel e
        · exact hel e
        · cases e
      · rename_i m el hk; try rw [hk]
        obtain ⟨te, hte, e⟩ := Option.bind_eq_some_iff.1 e
        obtain ⟨hc, e⟩ := bif_some e
        simp only [hte, Option.bind_some, hc, cond_true]
        split at e
        · cases e; rfl
        · split at e
          · obtain ⟨hc2, e⟩ := bif_some e
            cases e; simp only [hc2, cond_true]
          · cases e
        · cases e
      · cases e
    · cases e
  case index ty a i =>
    unfold sIndex at e ⊢
    split at e
    · rename_i k n hi; try rw [hi]
      split at e
      · rename_i s hx; try rw [hx]
        obtain ⟨ti, hti, e⟩ := Option.bind_eq_some_iff.1 e
        rw [hti]; simp only [Option.bind_some]
        split at e
        · rename_i hk; try rw [hk]
          obtain ⟨hc, e⟩ := bif_some e
          obtain ⟨c, hcc, e⟩ := Option.map_eq_some_iff.1 e
          cases e; simp only [hc, cond_true, hcc, Option.map_some]
        · cases e
      · rename_i hns
        obtain ⟨ti, hti, e⟩ := Option.bind_eq_some_iff.1 e
        split at e
        · rename_i m el hk
          obtain ⟨te, hte, e⟩ := Option.bind_eq_some_iff.1 e
          obtain ⟨hc, e⟩ := bif_some e
          obtain ⟨u, hu, e⟩ := Option.bind_eq_some_iff.1 e
          obtain ⟨hc2, e⟩ := bif_some e
          cases e
          simp only [hti, Option.bind_some, hk, hte, hc, cond_true, hu, hc2]
        · cases e
    · cases e

/-! ### from a part of the heap to the whole -/
mutual
theorem dataR_sub {o o' : Nat → Nat → Nat → Nat → Option (List D)} (ho : ∀ b g off len l, o b g off len = some l → o' b g off len = some l) : ∀ {x : V} {d : D}, x.dataR o = some d → x.dataR o' = some d
  | .im _, _, e => e
  | .full _, _, e => e
  | .own b g off len _, d, e => by
    simp only [V.dataR, Option.map_eq_some_iff] at e ⊢
    obtain ⟨l, h, rfl⟩ := e
    exact ⟨l, ho _ _ _ _ _ h, rfl⟩
  | .agg w l, d, e => by
    simp only [V.dataR, Option.map_eq_some_iff] at e ⊢
    obtain ⟨l, h, rfl⟩ := e
    exact ⟨l, dataRs_sub ho h, rfl⟩
  | .tup l, d, e => by
    simp only [V.dataR, Option.map_eq_some_iff] at e ⊢
    obtain ⟨l, h, rfl⟩ := e
    exact ⟨l, dataRs_sub ho h, rfl⟩
  | .fn f [] [], d, e => e
  | .fn f (_ :: _) _, d, e => by simp [V.dataR] at e
  | .fn f [] (_ :: _), d, e => by simp [V.dataR] at e
  | .ifc t v, d, e => by
    simp only [V.dataR, Option.map_eq_some_iff] at e ⊢
    obtain ⟨l, h, rfl⟩ := e
    exact ⟨l, dataR_sub ho h, rfl⟩
  | .undef, d, e => by simp [V.dataR] at e
  | .ptr .., d, e => by simp [V.dataR] at e
  | .mp _, d, e => by simp [V.dataR] at e
  | .yld _, d, e => by simp [V.dataR] at e
theorem dataRs_sub {o o' : Nat → Nat → Nat → Nat → Option (List D)} (ho : ∀ b g off len l, o b g off len = some l → o' b g off len = some l) : ∀ {x : List V} {d : List D}, V.dataRs o x = some d → V.dataRs o' x = some d
  | [], _, e => e
  | v :: l, d, e => by
    simp only [V.dataRs] at e ⊢
    cases h1 : v.dataR o with
    | none => rw [h1] at e; cases e
    | some a =>
      rw [h1] at e
      cases h2 : V.dataRs o l with
      | none => rw [h2] at e; cases e
      | some b =>
        rw [h2] at e
        rw [dataR_sub ho h1, dataRs_sub ho h2]; exact e
end
theorem ownElemsN_sub {v : Heap} (hs : Sub v h) : ∀ (n : Nat) (b g off len : Nat) (l : List D), ownElemsN v n b g off len = some l → ownElemsN h n b g off len = some l
  | 0, _, _, _, _, _, e => by cases e
  | n + 1, b, g, off, len, l, e => by
    have e : (match hget v b with
      | some (.arr g' _ _ l) => bif cutOk g g' off len l then some (cutAll l off len) else none
      | some (.arv g' _ l) => bif cutOk g g' off len l then V.dataRs (ownElemsN v n) (cutAll l off len) else none
      | _ => none) = some l := e
    show (match hget h b with
      | some (.arr g' _ _ l) => bif cutOk g g' off len l then some (cutAll l off len) else none
      | some (.arv g' _ l) => bif cutOk g g' off len l then V.dataRs (ownElemsN h n) (cutAll l off len) else none
      | _ => none) = some l
    split at e
    · rename_i hb; rw [hs _ _ hb]; exact e
    · rename_i hb
      rw [hs _ _ hb]
      obtain ⟨hc, e⟩ := bif_some e
      simp only [hc, cond_true]
      exact dataRs_sub (ownElemsN_sub hs n) e
    · cases e
theorem data_sub {v : Heap} (hs : Sub v h) {x : V} {d : D} (e : V.data v x = some d) : V.data h x = some d := by
  rw [data_eq] at e ⊢
  exact dataR_sub (ownElemsN_sub hs 4) e
theorem allData_cons (x : V) (l : List V) : allData h (x :: l) = (V.data h x).bind fun d => (allData h l).map (d :: ·) := rfl
theorem allData_sub {v : Heap} (hs : Sub v h) : ∀ {l : List V} {ds : List D}, allData v l = some ds → allData h l = some ds
  | [], _, e => e
  | x :: l, ds, e => by
    rw [allData_cons] at e ⊢
    obtain ⟨d, h1, e⟩ := Option.bind_eq_some_iff.1 e
    obtain ⟨r, h2, e⟩ := Option.map_eq_some_iff.1 e
    rw [data_sub hs h1, allData_sub hs h2]
    simp only [Option.bind_some, Option.map_some, e]
theorem len_sub {v : Heap} (hs : Sub v h) {nid : Nat} {ts : Array Nat} {xs : List V} {r : V × Heap} (e : builtinV E nid .len ts xs v = some r) (nid' : Nat) : builtinV E nid' .len ts xs h = some (r.1, h) := by
  unfold builtinV at e ⊢
  simp only at e ⊢
  split at e
  · rename_i x
    obtain ⟨t, ht, e⟩ := Option.bind_eq_some_iff.1 e
    rw [ht]
    simp only [Option.bind_some]
    unfold bLen at e ⊢
    split at e <;> first | (cases e; rfl) | (cases e; done) | skip
    rename_i b hk
    split at e
    · rename_i es hb
      rw [hs _ _ hb]
      obtain ⟨hc, e⟩ := bif_some e
      cases e
      simp only [hk, hc, cond_true]
    · cases e
  · cases e
theorem simpleV_sub {v : Heap} (hs : Sub v h) {keep : Bool} {nid : Nat} {t : Tm} {op : Op} (hp : isSimple op = true) {x : V} (e : simpleV E ih keep nid t v op = some x) (nid' : Nat) : quietV E ih keep nid' t h op = some (x, none) := by
  have plain : (∀ c, op ≠ .call c) → (stepOp E keep nid t v op).map (fun r => r.1) = some x → (stepOp E keep nid' t h op).map (fun r => (r.1, bif isNew E op then hget r.2 nid' else none)) = some (x, none) := fun hnc e => by
    obtain ⟨r, h1, e⟩ := Option.map_eq_some_iff.1 e
    have := simple_sub hs hp hnc (show stepOp E keep nid t v op = some (r.1, r.2) from h1) nid'
    rw [this, Option.map_some, e]
    have hn : isNew E op = false := by cases op <;> simp only [isSimple] at hp <;> first | (cases hp; done) | rfl | exact absurd rfl (hnc _)
    rw [hn]; rfl
  cases op with
  | call c =>
    simp only [simpleV] at e
    simp only [quietV]
    split at e
    · rename_i hc
      rw [hc]
      obtain ⟨r, h1, e⟩ := Option.map_eq_some_iff.1 e
      simp only [len_sub hs h1 nid', Option.map_some, e]
    · cases e
    · rename_i hc1 hc2
      obtain ⟨g, hg, e⟩ := Option.bind_eq_some_iff.1 e
      cases hi : E.inl g.1 with
      | true => rw [hi] at e; cases e
      | false =>
        rw [hi, cond_false] at e
        split at e
        · rename_i hcl hex
          have key : ((target E t c).bind fun g => match E.clone g.1 with
            | some sz => (cloneV E nid' sz g.2 h).map fun r => (r.1, hget r.2 nid')
            | none => match E.ext g.1 with
              | 1 => (extV 1 g.2 h).map fun r => (r.1, none)
              | 2 => (extV 2 g.2 h).map fun r => (r.1, none)
              | 0 => bif E.inl g.1 then none else (allData h g.2).bind fun ds => (dataC E ih g.1 ds).bind fun r =>
                (match V.ownsL g.2 with
                | [] => some (.im r, none)
                | _ => bif r.flat then some (.im r, none) else none)
              | _ => none) = some (x, none) := by
            rw [hg]
            simp only [Option.bind_some, hcl, hex, hi, cond_false]
            obtain ⟨ds, hds, e⟩ := Option.bind_eq_some_iff.1 e
            obtain ⟨r, hr, e⟩ := Option.bind_eq_some_iff.1 e
            simp only [allData_sub hs hds, Option.bind_some, hr]
            split at e
            · rename_i ho; rw [ho]; cases e; rfl
            · rename_i ho
              split
              · rename_i ho2; exact absurd ho2 ho
              · obtain ⟨hf, e⟩ := bif_some e; cases e; simp only [hf, cond_true]
          cases hcal : c.callee with
          | builtin b => exact absurd hcal (hc2 b)
          | value _ => simp only [hcal]; exact key
          | invoke _ _ => simp only [hcal]; exact key
        · cases e
  | _ => first | (cases hp; done) | exact plain (fun c h => by cases h) e

/-! ### the same -/
theorem natsEq_ok : ∀ {a b : List Nat}, natsEq a b = true → a = b
  | [], [], _ => rfl
  | [], _ :: _, h => by cases h
  | _ :: _, [], h => by cases h
  | a :: l, b :: r, h => by
    have h : (bif Nat.beq a b then natsEq l r else false) = true := h
    cases h1 : Nat.beq a b with
    | false => rw [h1] at h; cases h
    | true => rw [h1, cond_true] at h; rw [beq_of h1, natsEq_ok h]
theorem pairsEq_ok : ∀ {a b : List (Nat × Nat)}, pairsEq a b = true → a = b
  | [], [], _ => rfl
  | [], _ :: _, h => by cases h
  | _ :: _, [], h => by cases h
  | (a1, a2) :: l, (b1, b2) :: r, h => by
    have h : (bif Nat.beq a1 b1 && Nat.beq a2 b2 then pairsEq l r else false) = true := h
    cases h1 : Nat.beq a1 b1 && Nat.beq a2 b2 with
    | false => rw [h1] at h; cases h
    | true =>
      rw [h1, cond_true] at h
      rw [Bool.and_eq_true] at h1
      rw [beq_of h1.1, beq_of h1.2, pairsEq_ok h]
mutual
theorem D.same_ok : ∀ {a b : D}, D.same a b = true → a = b := fun {a b} h => by
  cases a <;> cases b <;> simp only [D.same, Bool.and_eq_true, decide_eq_true_eq, Bool.false_eq_true] at h
  case bool.bool => rw [h]
  case int.int => rw [h.1, h.2]
  case str.str => rw [natsEq_ok h]
  case ref.ref => rw [D.same_ok h]
  case slc.slc => rw [D.sames_ok h]
  case agg.agg => rw [beq_of h.1, D.sames_ok h.2]
  case tup.tup => rw [D.sames_ok h]
  case fn.fn => rw [beq_of h]
  case ifc.ifc => rw [beq_of h.1, D.same_ok h.2]
  all_goals rfl
theorem D.sames_ok : ∀ {a b : List D}, D.sames a b = true → a = b := fun {a b} h => by
  cases a <;> cases b
  · rfl
  · simp [D.sames] at h
  · simp [D.sames] at h
  · simp only [D.sames] at h
    rename_i a l b r
    cases h1 : D.same a b with
    | false => rw [h1] at h; cases h
    | true => rw [h1, cond_true] at h; rw [D.same_ok h1, D.sames_ok h]
end
mutual
theorem V.same_ok : ∀ {a b : V}, V.same a b = true → a = b := fun {a b} h => by
  cases a <;> cases b <;> simp only [V.same, Bool.and_eq_true, decide_eq_true_eq, Bool.false_eq_true] at h
  case im.im => rw [D.same_ok h]
  case agg.agg => rw [beq_of h.1, V.sames_ok h.2]
  case own.own => rw [beq_of h.1, beq_of h.2.1, beq_of h.2.2.1, beq_of h.2.2.2.1, h.2.2.2.2]
  case full.full => rw [D.sames_ok h]
  case ptr.ptr => rw [beq_of h.1, beq_of h.2.1, pairsEq_ok h.2.2]
  case fn.fn => rw [beq_of h.1, V.sames_ok h.2.1, V.sames_ok h.2.2]
  case ifc.ifc => rw [beq_of h.1, V.same_ok h.2]
  case mp.mp => rw [beq_of h]
theorem V.sames_ok : ∀ {a b : List V}, V.sames a b = true → a = b := fun {a b} h => by
  cases a <;> cases b
  · rfl
  · simp [V.sames] at h
  · simp [V.sames] at h
  · simp only [V.sames] at h
    rename_i a l b r
    cases h1 : V.same a b with
    | false => rw [h1] at h; cases h
    | true => rw [h1, cond_true] at h; rw [V.same_ok h1, V.sames_ok h]
end
theorem Blk.same_ok {a b : Blk} (h : Blk.same a b = true) : a = b := by
  cases a <;> cases b <;> simp only [Blk.same, Bool.and_eq_true, Bool.false_eq_true] at h
  case cell.cell => rw [V.same_ok h]
  case arr.arr => rw [beq_of h.1, beq_of h.2.1, beq_of h.2.2.1, D.sames_ok h.2.2.2]
  case arv.arv => rw [beq_of h.1, beq_of h.2.1, V.sames_ok h.2.2]
theorem sameH_ok : ∀ {a b : Heap}, sameH a b = true → a = b
  | [], [], _ => rfl
  | [], _ :: _, h => by simp [sameH] at h
  | _ :: _, [], h => by simp [sameH] at h
  | none :: l, none :: r, h => by simp only [sameH] at h; rw [sameH_ok h]
  | none :: l, some _ :: r, h => by simp [sameH] at h
  | some _ :: l, none :: r, h => by simp [sameH] at h
  | some a :: l, some b :: r, h => by
    simp only [sameH] at h
    cases h1 : Blk.same a b with
    | false => rw [h1] at h; cases h
    | true => rw [h1, cond_true] at h; rw [Blk.same_ok h1, sameH_ok h]
theorem only_get (bs : List Nat) (h : Heap) (b : Nat) : hget (only bs h) b = if hasN bs b = true then hget h b else none := by
  have key : ∀ (h : Heap) (i b : Nat), hget (List.rec (fun _ => []) (fun b _ ih i => (bif hasN bs i then b else none) :: ih (i + 1)) h i : Heap) b = if hasN bs (i + b) = true then hget h b else none := by
    intro h
    induction h with
    | nil => intro i b; show hget [] b = _; rw [hget_eq]; simp
    | cons a l ih =>
      intro i b
      cases b with
      | zero =>
        show (hget ((bif hasN bs i then a else none) :: _) 0) = _
        rw [hget_eq, hget_eq]
        simp only [List.getElem?_cons_zero, Nat.add_zero]
        cases hasN bs i <;> rfl
      | succ b =>
        have := ih (i + 1) b
        rw [hget_eq] at this
        show hget (_ :: (List.rec (fun _ => []) (fun b _ ih i => (bif hasN bs i then b else none) :: ih (i + 1)) l (i + 1) : Heap)) (b + 1) = _
        rw [hget_eq, List.getElem?_cons_succ, this, hget_eq, hget_eq, List.getElem?_cons_succ, Nat.add_assoc, Nat.add_comm 1 b]
  have := key h 0 b
  rw [Nat.zero_add] at this
  exact this
theorem only_length (bs : List Nat) (h : Heap) : (only bs h).length = h.length := by
  have key : ∀ (h : Heap) (i : Nat), (List.rec (fun _ => []) (fun b _ ih i => (bif hasN bs i then b else none) :: ih (i + 1)) h i : Heap).length = h.length := by
    intro h
    induction h with
    | nil => intro i; rfl
    | cons a l ih => intro i; show (_ :: (List.rec (fun _ => []) (fun b _ ih i => (bif hasN bs i then b else none) :: ih (i + 1)) l (i + 1) : Heap)).length = _; rw [List.length_cons, ih, List.length_cons]
  exact key h 0
theorem only_sub (bs : List Nat) (h : Heap) : Sub (only bs h) h := fun b x e => by
  rw [only_get] at e
  split at e
  · exact e
  · cases e
end
end Go.As
