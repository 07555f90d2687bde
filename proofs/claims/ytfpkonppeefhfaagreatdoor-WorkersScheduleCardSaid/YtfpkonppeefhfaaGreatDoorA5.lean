/-
  AS: an operation of a region that draws its order, from its own view of the heap.
-/
import Derived.Test.YtfpkonppeefhfaaGreatDoorA4
import Derived.OrdersIn
import Derived.Scope
set_option linter.unusedSectionVars false
set_option linter.unusedSimpArgs false
set_option linter.unusedVariables false
namespace Go.As
open Go.RowKit (Below)
variable [Gh]
section
variable {F : Fence} {P : Program} {B : Nat} {X : Cx} {O : Nat → Addr → Prop} {w : World} {h : Heap} {E : Env} {ih : Nat → Nat → Nat → Code → St → Option (Ex × St)}
theorem hide_cons (k i : Nat) (m : List Nat) (h : Heap) : hide k (i :: m) h = hide k m (lset h (k + i) none) := rfl
theorem hide_length (k : Nat) : ∀ (m : List Nat) (h : Heap), (hide k m h).length = h.length
 | [], h => rfl
 | i :: m, h => by rw [hide_cons, hide_length k m, lset_eq, List.length_set]
theorem hget_set_none (h : Heap) (j b : Nat) : hget (h.set j none) b = if b = j then none else hget h b := by
 rw [hget_eq, hget_eq, List.getElem?_set]
 by_cases hb : j = b
 ·subst hb; simp; split <;> rfl
 ·rw [if_neg hb, if_neg (Ne.symm hb)]
theorem hget_hide (k : Nat) : ∀ (m : List Nat) (h : Heap) (b : Nat), hget (hide k m h) b = if ∃ i ∈ m, b = k + i then none else hget h b
 | [], h, b => by simp [hide]
 | i :: m, h, b => by
  rw [hide_cons, hget_hide k m, lset_eq, hget_set_none]
  by_cases h1 : ∃ j ∈ m, b = k + j
  ·rw [if_pos h1, if_pos]; obtain ⟨j, hj, e⟩ := h1; exact ⟨j, by simp [hj], e⟩
  ·rw [if_neg h1]
   by_cases h2 : b = k + i
   ·rw [if_pos h2, if_pos ⟨i, by simp, h2⟩]
   ·rw [if_neg h2, if_neg]
    rintro ⟨j, hj, e⟩
    rcases List.mem_cons.1 hj with rfl | hj
    ·exact h2 e
    ·exact h1 ⟨j, hj, e⟩
theorem hide_sub (k : Nat) (m : List Nat) (h : Heap) : Sub (hide k m h) h := fun b x e => by
 rw [hget_hide] at e; split at e
 ·cases e
 ·exact e
theorem take_sub (n : Nat) (h : Heap) : Sub (h.take n) h := fun b x e => by
 rw [hget_eq, List.getElem?_take] at e
 rw [hget_eq]
 split at e
 ·exact e
 ·cases e
theorem Sub.trans {a b c : Heap} (h : Sub a b) (k : Sub b c) : Sub a c := fun i x e => k i x (h i x e)
theorem pure_any {keep : Bool} {nid : Nat} {t : Tm} {op : Op} (hp : isPure op = true) {v : V} {h1 h2 : Heap} (e : stepOp E keep nid t h1 op = some (v, h2)) (nid' : Nat) (h' : Heap) : stepOp E keep nid' t h' op = some (v, h') := by
 cases op <;> simp only [isPure] at hp <;> try (cases hp; done)
 all_goals simp only [stepOp] at e ⊢
 case move x => cases e; rfl
 case assign x => cases e; rfl
 case pick c a b =>
  unfold sPick at e ⊢
  split at e
  ·rename_i q hq; cases q <;> simp_all
  ·cases e
 case build ty ps =>
  unfold sBuild at e ⊢
  obtain ⟨ti, hti, e⟩ := Option.bind_eq_some_iff.1 e
  obtain ⟨l, hl, e⟩ := Option.bind_eq_some_iff.1 e
  rw [hti]; simp only [Option.bind_some, hl]
  split at e
  ·rename_i fs hk; try rw [hk]
   obtain ⟨l', hf, e⟩ := Option.map_eq_some_iff.1 e
   cases e; simp only [hf, Option.map_some]
  ·rename_i n el hk; try rw [hk]
   obtain ⟨te, hte, e⟩ := Option.bind_eq_some_iff.1 e
   obtain ⟨l', hf, e⟩ := Option.map_eq_some_iff.1 e
   cases e; simp only [hte, Option.bind_some, hf, Option.map_some]
  ·cases e
 case nilCheck x =>
  unfold sNilCheck at e ⊢
  split at e <;> first | (cases e; rfl) | (cases e; done)
 case binOp op ty x y yt =>
  cases hb : binV E op ty (isConst x || isConst y) (ev t x) (ev t y) <;> rw [hb] at e <;> first | cases e; done | (cases e; rfl)
 case unOp op ty x =>
  cases hb : unV op (ev t x) <;> rw [hb] at e <;> first | cases e; done | (cases e; rfl)
 case makeInterface ty x =>
  unfold sIface at e ⊢
  split at e
  ·cases e
  ·rename_i k hne hk; try rw [hk]
   split at e
   ·cases e; rfl
   ·cases e
   ·cases e; rfl
  ·cases e
 case makeFunc f a c =>
  unfold sFunc at e ⊢
  split at e
  ·cases e; rfl
  ·cases e
 case fieldAddr ty x k =>
  unfold sFieldAddr at e ⊢
  obtain ⟨ti, hti, e⟩ := Option.bind_eq_some_iff.1 e
  rw [hti]; simp only [Option.bind_some]
  split at e
  ·rename_i fs hk; try rw [hk]
   obtain ⟨f, hf, e⟩ := Option.bind_eq_some_iff.1 e
   simp only [hf, Option.bind_some]
   cases hz : Nat.beq f.2.1 0 <;> rw [hz] at e <;> simp only [cond_true, cond_false] at e ⊢
   ·split at e
    ·cases e; rfl
    ·split at e
     ·obtain ⟨hc, e⟩ := bif_some e
      cases e; simp only [hc, cond_true]
     ·cases e
    ·cases e
   ·cases e
  ·cases e
 case field ty x k =>
  unfold sField at e ⊢
  obtain ⟨ti, hti, e⟩ := Option.bind_eq_some_iff.1 e
  rw [hti]; simp only [Option.bind_some]
  split at e
  ·rename_i fs hk; try rw [hk]
   obtain ⟨f, hf, e⟩ := Option.bind_eq_some_iff.1 e
   obtain ⟨tf, htf, e⟩ := Option.bind_eq_some_iff.1 e
   obtain ⟨u, hu, e⟩ := Option.bind_eq_some_iff.1 e
   obtain ⟨hc, e⟩ := bif_some e
   cases e
   simp only [hf, htf, hu, Option.bind_some, hc, cond_true]
  ·cases e
 case extract x i =>
  cases hb : (ev t x).part i <;> rw [hb] at e <;> first | cases e; done | (cases e; rfl)
theorem loadV_sub {v : Heap} (hs : Sub v h) {b g : Nat} {p : List (Nat × Nat)} {x : V} (e : loadV v b g p = some x) : loadV h b g p = some x := by
 unfold loadV at e ⊢
 cases hb : hget v b with
 | none => rw [hb] at e; cases e
 | some k => rw [hb] at e; rw [hs b k hb]; exact e
theorem simple_sub {v : Heap} (hs : Sub v h) {keep : Bool} {nid : Nat} {t : Tm} {op : Op} (hp : isSimple op = true) (hnc : ∀ c, op ≠ .call c) {x : V} {h2 : Heap} (e : stepOp E keep nid t v op = some (x, h2)) (nid' : Nat) : stepOp E keep nid' t h op = some (x, h) := by
 cases op <;> simp only [isSimple] at hp <;> try (cases hp; done)
 case call c => exact absurd rfl (hnc c)
 all_goals simp only [stepOp] at e ⊢
 case load ty a =>
  unfold sLoad at e ⊢
  obtain ⟨ti, hti, e⟩ := Option.bind_eq_some_iff.1 e
  rw [hti]; simp only [Option.bind_some]
  split at e
  ·rename_i b g p hx; try rw [hx]
   obtain ⟨u, hu, e⟩ := Option.bind_eq_some_iff.1 e
   obtain ⟨hc, e⟩ := bif_some e
   cases e
   simp only [loadV_sub hs hu, Option.bind_some, hc, cond_true]
  ·rename_i d hx; try rw [hx]
   obtain ⟨hc, e⟩ := bif_some e
   cases e; simp only [hc, cond_true]
  ·cases e
 case indexAddr ty a i =>
  unfold sIndexAddr at e ⊢
  split at e
  ·rename_i k n hi; try rw [hi]
   obtain ⟨ti, hti, e⟩ := Option.bind_eq_some_iff.1 e
   rw [hti]; simp only [Option.bind_some]
   split at e
   ·rename_i el hk; try rw [hk]
    have hel : ∀ {l : List D}, elemRef E v el l n = some (x, h2) → elemRef E h el l n = some (x, h) := fun {l} e => by
     unfold elemRef at e ⊢
     obtain ⟨te, hte, e⟩ := Option.bind_eq_some_iff.1 e
     obtain ⟨hc, e⟩ := bif_some e
     obtain ⟨d, hd, e⟩ := Option.bind_eq_some_iff.1 e
     obtain ⟨hc2, e⟩ := bif_some e
     cases e
     simp only [hte, Option.bind_some, hc, hd, hc2, cond_true]
    split at e
    ·rename_i b g off len lim hx; try rw [hx]
     obtain ⟨te, hte, e⟩ := Option.bind_eq_some_iff.1 e
     obtain ⟨hc, e⟩ := bif_some e
     cases e
     simp only [hte, Option.bind_some]
     have hc' : (ile 0 n && (ilt n (Int.ofNat len) && (Nat.beq off 0 || sizeIs h b te.size))) = true := by
      simp only [Bool.and_eq_true, Bool.or_eq_true] at hc ⊢
      refine ⟨hc.1, hc.2.1, hc.2.2.imp id fun hz => ?_⟩
      unfold sizeIs at hz ⊢
      cases hb : hget v b with
      | none => rw [hb] at hz; cases hz
      | some k => rw [hb] at hz; rw [hs b k hb]; exact hz
     rw [hc']; rfl
    ·exact hel e
    ·exact hel e
    ·cases e
   ·rename_i m el hk; try rw [hk]
    obtain ⟨te, hte, e⟩ := Option.bind_eq_some_iff.1 e
    obtain ⟨hc, e⟩ := bif_some e
    simp only [hte, Option.bind_some, hc, cond_true]
    split at e
    ·cases e; rfl
    ·split at e
     ·obtain ⟨hc2, e⟩ := bif_some e
      cases e; simp only [hc2, cond_true]
     ·cases e
    ·cases e
   ·cases e
  ·cases e
 case index ty a i =>
  unfold sIndex at e ⊢
  split at e
  ·rename_i k n hi; try rw [hi]
   split at e
   ·rename_i s hx; try rw [hx]
    obtain ⟨ti, hti, e⟩ := Option.bind_eq_some_iff.1 e
    rw [hti]; simp only [Option.bind_some]
    split at e
    ·rename_i hk; try rw [hk]
     obtain ⟨hc, e⟩ := bif_some e
     obtain ⟨c, hcc, e⟩ := Option.map_eq_some_iff.1 e
     cases e; simp only [hc, cond_true, hcc, Option.map_some]
    ·cases e
   ·rename_i hns
    obtain ⟨ti, hti, e⟩ := Option.bind_eq_some_iff.1 e
    split at e
    ·rename_i m el hk
     obtain ⟨te, hte, e⟩ := Option.bind_eq_some_iff.1 e
     obtain ⟨hc, e⟩ := bif_some e
     obtain ⟨u, hu, e⟩ := Option.bind_eq_some_iff.1 e
     obtain ⟨hc2, e⟩ := bif_some e
     cases e
     simp only [hti, Option.bind_some, hk, hte, hc, cond_true, hu, hc2]
    ·cases e
  ·cases e
mutual
theorem dataR_sub {o o' : Nat → Nat → Nat → Nat → Option (List D)} (ho : ∀ b g off len l, o b g off len = some l → o' b g off len = some l) : ∀ {x : V} {d : D}, x.dataR o = some d → x.dataR o' = some d
 | .im _, _, e => e
 | .full _, _, e => e
 | .own b g off len _, d, e => by
  simp only [V.dataR, Option.map_eq_some_iff] at e ⊢
  obtain ⟨l, h, rfl⟩ := e
  exact ⟨l, ho _ _ _ _ _ h, rfl⟩
 | .agg w l, d, e => by
  simp only [V.dataR, Option.map_eq_some_iff] at e ⊢
  obtain ⟨l, h, rfl⟩ := e
  exact ⟨l, dataRs_sub ho h, rfl⟩
 | .tup l, d, e => by
  simp only [V.dataR, Option.map_eq_some_iff] at e ⊢
  obtain ⟨l, h, rfl⟩ := e
  exact ⟨l, dataRs_sub ho h, rfl⟩
 | .fn f [] [], d, e => e
 | .fn f (_ :: _) _, d, e => by simp [V.dataR] at e
 | .fn f [] (_ :: _), d, e => by simp [V.dataR] at e
 | .ifc t v, d, e => by
  simp only [V.dataR, Option.map_eq_some_iff] at e ⊢
  obtain ⟨l, h, rfl⟩ := e
  exact ⟨l, dataR_sub ho h, rfl⟩
 | .undef, d, e => by simp [V.dataR] at e
 | .ptr .., d, e => by simp [V.dataR] at e
 | .mp _, d, e => by simp [V.dataR] at e
 | .yld _, d, e => by simp [V.dataR] at e
theorem dataRs_sub {o o' : Nat → Nat → Nat → Nat → Option (List D)} (ho : ∀ b g off len l, o b g off len = some l → o' b g off len = some l) : ∀ {x : List V} {d : List D}, V.dataRs o x = some d → V.dataRs o' x = some d
 | [], _, e => e
 | v :: l, d, e => by
  simp only [V.dataRs] at e ⊢
  cases h1 : v.dataR o with
  | none => rw [h1] at e; cases e
  | some a =>
   rw [h1] at e
   cases h2 : V.dataRs o l with
   | none => rw [h2] at e; cases e
   | some b =>
    rw [h2] at e
    rw [dataR_sub ho h1, dataRs_sub ho h2]; exact e
end
theorem ownElemsN_sub {v : Heap} (hs : Sub v h) : ∀ (n : Nat) (b g off len : Nat) (l : List D), ownElemsN v n b g off len = some l → ownElemsN h n b g off len = some l
 | 0, _, _, _, _, _, e => by cases e
 | n + 1, b, g, off, len, l, e => by
  have e : (match hget v b with
   | some (.arr g' _ _ l) => bif cutOk g g' off len l then some (cutAll l off len) else none
   | some (.arv g' _ l) => bif cutOk g g' off len l then V.dataRs (ownElemsN v n) (cutAll l off len) else none
   | _ => none) = some l := e
  show (match hget h b with
   | some (.arr g' _ _ l) => bif cutOk g g' off len l then some (cutAll l off len) else none
   | some (.arv g' _ l) => bif cutOk g g' off len l then V.dataRs (ownElemsN h n) (cutAll l off len) else none
   | _ => none) = some l
  split at e
  ·rename_i hb; rw [hs _ _ hb]; exact e
  ·rename_i hb
   rw [hs _ _ hb]
   obtain ⟨hc, e⟩ := bif_some e
   simp only [hc, cond_true]
   exact dataRs_sub (ownElemsN_sub hs n) e
  ·cases e
theorem data_sub {v : Heap} (hs : Sub v h) {x : V} {d : D} (e : V.data v x = some d) : V.data h x = some d := by
 rw [data_eq] at e ⊢
 exact dataR_sub (ownElemsN_sub hs 4) e
theorem allData_cons (x : V) (l : List V) : allData h (x :: l) = (V.data h x).bind fun d => (allData h l).map (d :: ·) := rfl
theorem allData_sub {v : Heap} (hs : Sub v h) : ∀ {l : List V} {ds : List D}, allData v l = some ds → allData h l = some ds
 | [], _, e => e
 | x :: l, ds, e => by
  rw [allData_cons] at e ⊢
  obtain ⟨d, h1, e⟩ := Option.bind_eq_some_iff.1 e
  obtain ⟨r, h2, e⟩ := Option.map_eq_some_iff.1 e
  rw [data_sub hs h1, allData_sub hs h2]
  simp only [Option.bind_some, Option.map_some, e]
theorem len_sub {v : Heap} (hs : Sub v h) {nid : Nat} {ts : Array Nat} {xs : List V} {r : V × Heap} (e : builtinV E nid .len ts xs v = some r) (nid' : Nat) : builtinV E nid' .len ts xs h = some (r.1, h) := by
 unfold builtinV at e ⊢
 simp only at e ⊢
 split at e
 ·rename_i x
  obtain ⟨t, ht, e⟩ := Option.bind_eq_some_iff.1 e
  rw [ht]
  simp only [Option.bind_some]
  unfold bLen at e ⊢
  split at e <;> first | (cases e; rfl) | (cases e; done) | skip
  rename_i b hk
  split at e
  ·rename_i es hb
   rw [hs _ _ hb]
   obtain ⟨hc, e⟩ := bif_some e
   cases e
   simp only [hk, hc, cond_true]
  ·cases e
 ·cases e
theorem simpleV_sub {v : Heap} (hs : Sub v h) {keep : Bool} {nid : Nat} {t : Tm} {op : Op} (hp : isSimple op = true) {x : V} (e : simpleV E ih keep nid t v op = some x) (nid' : Nat) : quietV E ih keep nid' t h op = some (x, none) := by
 have plain : (∀ c, op ≠ .call c) → (stepOp E keep nid t v op).map (fun r => r.1) = some x → (stepOp E keep nid' t h op).map (fun r => (r.1, bif isNew E op then hget r.2 nid' else none)) = some (x, none) := fun hnc e => by
  obtain ⟨r, h1, e⟩ := Option.map_eq_some_iff.1 e
  have := simple_sub hs hp hnc (show stepOp E keep nid t v op = some (r.1, r.2) from h1) nid'
  rw [this, Option.map_some, e]
  have hn : isNew E op = false := by cases op <;> simp only [isSimple] at hp <;> first | (cases hp; done) | rfl | exact absurd rfl (hnc _)
  rw [hn]; rfl
 cases op with
 | call c =>
  simp only [simpleV] at e
  simp only [quietV]
  split at e
  ·rename_i hc
   rw [hc]
   obtain ⟨r, h1, e⟩ := Option.map_eq_some_iff.1 e
   simp only [len_sub hs h1 nid', Option.map_some, e]
  ·cases e
  ·rename_i hc1 hc2
   obtain ⟨g, hg, e⟩ := Option.bind_eq_some_iff.1 e
   cases hi : E.inl g.1 with
   | true => rw [hi] at e; cases e
   | false =>
    rw [hi, cond_false] at e
    split at e
    ·rename_i hcl hex
     have key : ((target E t c).bind fun g => match E.clone g.1 with
      | some sz => (cloneV E nid' sz g.2 h).map fun r => (r.1, hget r.2 nid')
      | none => match E.ext g.1 with
       | 1 => (extV 1 g.2 h).map fun r => (r.1, none)
       | 2 => (extV 2 g.2 h).map fun r => (r.1, none)
       | 0 => bif E.inl g.1 then none else (allData h g.2).bind fun ds => (dataC E ih g.1 ds).bind fun r =>
        (match V.ownsL g.2 with
        | [] => some (.im r, none)
        | _ => bif r.flat then some (.im r, none) else none)
       | _ => none) = some (x, none) := by
      rw [hg]
      simp only [Option.bind_some, hcl, hex, hi, cond_false]
      obtain ⟨ds, hds, e⟩ := Option.bind_eq_some_iff.1 e
      obtain ⟨r, hr, e⟩ := Option.bind_eq_some_iff.1 e
      simp only [allData_sub hs hds, Option.bind_some, hr]
      split at e
      ·rename_i ho; rw [ho]; cases e; rfl
      ·rename_i ho
       split
       ·rename_i ho2; exact absurd ho2 ho
       ·obtain ⟨hf, e⟩ := bif_some e; cases e; simp only [hf, cond_true]
     cases hcal : c.callee with
     | builtin b => exact absurd hcal (hc2 b)
     | value _ => simp only [hcal]; exact key
     | invoke _ _ => simp only [hcal]; exact key
    ·cases e
 | _ => first | (cases hp; done) | exact plain (fun c h => by cases h) e
theorem natsEq_ok : ∀ {a b : List Nat}, natsEq a b = true → a = b
 | [], [], _ => rfl
 | [], _ :: _, h => by cases h
 | _ :: _, [], h => by cases h
 | a :: l, b :: r, h => by
  have h : (bif Nat.beq a b then natsEq l r else false) = true := h
  cases h1 : Nat.beq a b with
  | false => rw [h1] at h; cases h
  | true => rw [h1, cond_true] at h; rw [beq_of h1, natsEq_ok h]
theorem pairsEq_ok : ∀ {a b : List (Nat × Nat)}, pairsEq a b = true → a = b
 | [], [], _ => rfl
 | [], _ :: _, h => by cases h
 | _ :: _, [], h => by cases h
 | (a1, a2) :: l, (b1, b2) :: r, h => by
  have h : (bif Nat.beq a1 b1 && Nat.beq a2 b2 then pairsEq l r else false) = true := h
  cases h1 : Nat.beq a1 b1 && Nat.beq a2 b2 with
  | false => rw [h1] at h; cases h
  | true =>
   rw [h1, cond_true] at h
   rw [Bool.and_eq_true] at h1
   rw [beq_of h1.1, beq_of h1.2, pairsEq_ok h]
mutual
theorem D.same_ok : ∀ {a b : D}, D.same a b = true → a = b := fun {a b} h => by
 cases a <;> cases b <;> simp only [D.same, Bool.and_eq_true, decide_eq_true_eq, Bool.false_eq_true] at h
 case bool.bool => rw [h]
 case int.int => rw [h.1, h.2]
 case str.str => rw [natsEq_ok h]
 case ref.ref => rw [D.same_ok h]
 case slc.slc => rw [D.sames_ok h]
 case agg.agg => rw [beq_of h.1, D.sames_ok h.2]
 case tup.tup => rw [D.sames_ok h]
 case fn.fn => rw [beq_of h]
 case ifc.ifc => rw [beq_of h.1, D.same_ok h.2]
 all_goals rfl
theorem D.sames_ok : ∀ {a b : List D}, D.sames a b = true → a = b := fun {a b} h => by
 cases a <;> cases b
 ·rfl
 ·simp [D.sames] at h
 ·simp [D.sames] at h
 ·simp only [D.sames] at h
  rename_i a l b r
  cases h1 : D.same a b with
  | false => rw [h1] at h; cases h
  | true => rw [h1, cond_true] at h; rw [D.same_ok h1, D.sames_ok h]
end
mutual
theorem V.same_ok : ∀ {a b : V}, V.same a b = true → a = b := fun {a b} h => by
 cases a <;> cases b <;> simp only [V.same, Bool.and_eq_true, decide_eq_true_eq, Bool.false_eq_true] at h
 case im.im => rw [D.same_ok h]
 case agg.agg => rw [beq_of h.1, V.sames_ok h.2]
 case own.own => rw [beq_of h.1, beq_of h.2.1, beq_of h.2.2.1, beq_of h.2.2.2.1, h.2.2.2.2]
 case full.full => rw [D.sames_ok h]
 case ptr.ptr => rw [beq_of h.1, beq_of h.2.1, pairsEq_ok h.2.2]
 case fn.fn => rw [beq_of h.1, V.sames_ok h.2.1, V.sames_ok h.2.2]
 case ifc.ifc => rw [beq_of h.1, V.same_ok h.2]
 case mp.mp => rw [beq_of h]
theorem V.sames_ok : ∀ {a b : List V}, V.sames a b = true → a = b := fun {a b} h => by
 cases a <;> cases b
 ·rfl
 ·simp [V.sames] at h
 ·simp [V.sames] at h
 ·simp only [V.sames] at h
  rename_i a l b r
  cases h1 : V.same a b with
  | false => rw [h1] at h; cases h
  | true => rw [h1, cond_true] at h; rw [V.same_ok h1, V.sames_ok h]
end
theorem Blk.same_ok {a b : Blk} (h : Blk.same a b = true) : a = b := by
 cases a <;> cases b <;> simp only [Blk.same, Bool.and_eq_true, Bool.false_eq_true] at h
 case cell.cell => rw [V.same_ok h]
 case arr.arr => rw [beq_of h.1, beq_of h.2.1, beq_of h.2.2.1, D.sames_ok h.2.2.2]
 case arv.arv => rw [beq_of h.1, beq_of h.2.1, V.sames_ok h.2.2]
theorem sameH_ok : ∀ {a b : Heap}, sameH a b = true → a = b
 | [], [], _ => rfl
 | [], _ :: _, h => by simp [sameH] at h
 | _ :: _, [], h => by simp [sameH] at h
 | none :: l, none :: r, h => by simp only [sameH] at h; rw [sameH_ok h]
 | none :: l, some _ :: r, h => by simp [sameH] at h
 | some _ :: l, none :: r, h => by simp [sameH] at h
 | some a :: l, some b :: r, h => by
  simp only [sameH] at h
  cases h1 : Blk.same a b with
  | false => rw [h1] at h; cases h
  | true => rw [h1, cond_true] at h; rw [Blk.same_ok h1, sameH_ok h]
theorem only_get (bs : List Nat) (h : Heap) (b : Nat) : hget (only bs h) b = if hasN bs b = true then hget h b else none := by
 have key : ∀ (h : Heap) (i b : Nat), hget (List.rec (fun _ => []) (fun b _ ih i => (bif hasN bs i then b else none) :: ih (i + 1)) h i : Heap) b = if hasN bs (i + b) = true then hget h b else none := by
  intro h
  induction h with
  | nil => intro i b; show hget [] b = _; rw [hget_eq]; simp
  | cons a l ih =>
   intro i b
   cases b with
   | zero =>
    show (hget ((bif hasN bs i then a else none) :: _) 0) = _
    rw [hget_eq, hget_eq]
    simp only [List.getElem?_cons_zero, Nat.add_zero]
    cases hasN bs i <;> rfl
   | succ b =>
    have := ih (i + 1) b
    rw [hget_eq] at this
    show hget (_ :: (List.rec (fun _ => []) (fun b _ ih i => (bif hasN bs i then b else none) :: ih (i + 1)) l (i + 1) : Heap)) (b + 1) = _
    rw [hget_eq, List.getElem?_cons_succ, this, hget_eq, hget_eq, List.getElem?_cons_succ, Nat.add_assoc, Nat.add_comm 1 b]
 have := key h 0 b
 rw [Nat.zero_add] at this
 exact this
theorem only_length (bs : List Nat) (h : Heap) : (only bs h).length = h.length := by
 have key : ∀ (h : Heap) (i : Nat), (List.rec (fun _ => []) (fun b _ ih i => (bif hasN bs i then b else none) :: ih (i + 1)) h i : Heap).length = h.length := by
  intro h
  induction h with
  | nil => intro i; rfl
  | cons a l ih => intro i; show (_ :: (List.rec (fun _ => []) (fun b _ ih i => (bif hasN bs i then b else none) :: ih (i + 1)) l (i + 1) : Heap)).length = _; rw [List.length_cons, ih, List.length_cons]
 exact key h 0
theorem only_sub (bs : List Nat) (h : Heap) : Sub (only bs h) h := fun b x e => by
 rw [only_get] at e
 split at e
 ·exact e
 ·cases e
end
end Go.As
/-
 AS: an operation of a region that draws its order is sound.
-/
namespace Go.As
open Go.RowKit (Below)
variable [Gh]
section
variable {F : Fence} {P : Program} {B : Nat} {X : Cx} {O : Nat → Addr → Prop} {w : World} {h : Heap} {E : Env} {ih : Nat → Nat → Nat → Code → St → Option (Ex × St)}
theorem putBlk_none (h : Heap) (n : Nat) : putBlk h n none = h := rfl
theorem hput_get {n : Nat} (hle : n ≤ h.length) (k : Blk) : putBlk h n (hget (hput h n k) n) = hput h n k := by rw [hget_hput h n n k hle, if_pos rfl]; rfl
theorem same_get {n : Nat} (hn : hget h n = none) : putBlk h n (hget h n) = h := by rw [hn]; rfl
theorem noRefs_owns : ∀ {l : List V}, noRefs l = true → ∀ v ∈ l, V.refs v = []
 | [], _, v, hv => by cases hv
 | u :: l, hh, v, hv => by
  have e : refsL (u :: l) = (match V.refs u with | [] => refsL l | r => r ++ refsL l) := rfl
  unfold noRefs at hh
  rw [e] at hh
  cases hu : V.refs u with
  | cons a r => rw [hu] at hh; cases hh
  | nil =>
   rw [hu] at hh
   rcases List.mem_cons.1 hv with rfl | hv
   ·exact hu
   ·exact noRefs_owns (l := l) hh v hv
mutual
theorem ownsR_refsR : ∀ (v : V) (b : Nat), b ∈ v.ownsR → b ∈ v.refsR
 | .own c _ _ _ _, b, h => by simpa [V.ownsR, V.refsR] using h
 | .agg _ l, b, h => by simp only [V.ownsR, V.refsR] at h ⊢; exact ownsRs_refsRs l b h
 | .tup l, b, h => by simp only [V.ownsR, V.refsR] at h ⊢; exact ownsRs_refsRs l b h
 | .ifc _ v, b, h => by simp only [V.ownsR, V.refsR] at h ⊢; exact ownsR_refsR v b h
 | .undef, b, h | .im _, b, h | .full _, b, h | .ptr _ _ _, b, h | .fn _ _ _, b, h | .mp _, b, h | .yld _, b, h => by simp [V.ownsR] at h
theorem ownsRs_refsRs : ∀ (l : List V) (b : Nat), b ∈ V.ownsRs l → b ∈ V.refsRs l
 | [], b, h => by simp [V.ownsRs] at h
 | v :: l, b, h => by
  simp only [V.ownsRs, V.refsRs, List.mem_append] at h ⊢
  exact h.imp (ownsR_refsR v b) (ownsRs_refsRs l b)
end
theorem refs_nil_owns {v : V} (h : V.refs v = []) : v.owns = [] := by
 rw [owns_eq]
 have hr : v.refsR = [] := by cases v <;> simp_all [V.refs, V.refsR]
 cases ho : v.ownsR with
 | nil => rfl
 | cons b r => have := ownsR_refsR v b (by rw [ho]; simp); rw [hr] at this; cases this
theorem ownsP_nil {ps : List (Nat × V)} (h : ∀ p ∈ ps, V.owns p.2 = []) : ownsP ps = [] := by
 induction ps with
 | nil => rfl
 | cons p ps ih => rw [ownsP_cons, h p (by simp)]; exact ih fun q hq => h q (by simp [hq])
theorem step_quiet {keep : Bool} {n : Nat} {t : Tm} {op : Op} {v : V} {h' : Heap} (hn : hget h n = none) (hle : n ≤ h.length) (e : stepOp E keep n t h op = some (v, h'))
  (h1 : ∀ ty a x, op ≠ .store ty a x) (h2 : ∀ ty m k x, op ≠ .mapUpdate ty m k x) (h3 : ∀ ty m k x, op ≠ .insert ty m k x) (h4 : ∀ c, op ≠ .call c) (h5 : ∀ ty len ps, op = .buildSlice ty len ps → noRefs ((evP (ev t) ps).map Prod.snd) = true) (h6 : ∀ ty x, op ≠ .range ty x) (h7 : ∀ x b, op ≠ .next x b) (h8 : ∀ x, op ≠ .entry x) :
  h' = putBlk h n (bif isNew E op then hget h' n else none) := by
 have same : ∀ {b : Bool}, h' = h → h' = putBlk h n (bif b then hget h' n else none) := fun {b} e => by
  subst e; cases b
  ·rfl
  ·exact (same_get hn).symm
 have new : isNew E op = true → (∃ k, h' = hput h n k) → h' = putBlk h n (bif isNew E op then hget h' n else none) := fun hb ⟨k, e⟩ => by
  subst e; rw [hb, cond_true]; exact (hput_get hle k).symm
 cases op <;> simp only [stepOp] at e <;> try (cases e; done)
 case move x => cases e; exact same rfl
 case range ty x => exact absurd rfl (h6 ty x)
 case next x b => exact absurd rfl (h7 x b)
 case entry x => exact absurd rfl (h8 x)
 case assign x => cases e; exact same rfl
 case pick c a b =>
  unfold sPick at e
  split at e
  ·rename_i q _; cases q <;> (cases e; exact same rfl)
  ·cases e
 case alloc ty =>
  unfold sAlloc at e
  obtain ⟨ti, hti, e⟩ := Option.bind_eq_some_iff.1 e
  obtain ⟨hz, e⟩ := bif_some e
  cases hb : Nat.beq ty E.bty.1 <;> rw [hb] at e <;> (cases e; exact new rfl ⟨_, rfl⟩)
 case box ty x =>
  unfold sBox at e
  obtain ⟨ti, hti, e⟩ := Option.bind_eq_some_iff.1 e
  obtain ⟨hz, e⟩ := bif_some e
  cases e; exact new rfl ⟨_, rfl⟩
 case build ty ps => have := pure_any (op := .build ty ps) rfl (show stepOp E keep n t h (.build ty ps) = some (v, h') from e) n h; simp only [stepOp] at this; rw [e] at this; cases this; exact same rfl
 case buildSlice ty len ps =>
  have hno := h5 ty len ps rfl
  have how : ownsP (evP (ev t) ps) = [] := ownsP_nil fun p hp => refs_nil_owns (noRefs_owns hno p.2 (List.mem_map.2 ⟨p, hp, rfl⟩))
  unfold sBuildSlice at e
  obtain ⟨ti, hti, e⟩ := Option.bind_eq_some_iff.1 e
  split at e
  ·obtain ⟨te, hte, e⟩ := Option.bind_eq_some_iff.1 e
   obtain ⟨_, e⟩ := bif_some e
   obtain ⟨z, hz, e⟩ := Option.bind_eq_some_iff.1 e
   cases hv : okV te (.im z) <;> rw [hv] at e <;> simp only [Bool.not_false, Bool.not_true, cond_true, cond_false] at e
   ·cases e
   ·split at e
    ·obtain ⟨_, e⟩ := bif_some e
     rw [how] at e
     cases e; exact new rfl ⟨_, rfl⟩
    ·obtain ⟨l, hl, e⟩ := Option.map_eq_some_iff.1 e
     cases e; exact new rfl ⟨_, rfl⟩
  ·cases e
 case load ty a =>
  unfold sLoad at e
  obtain ⟨ti, hti, e⟩ := Option.bind_eq_some_iff.1 e
  split at e
  ·obtain ⟨u, hu, e⟩ := Option.bind_eq_some_iff.1 e
   obtain ⟨_, e⟩ := bif_some e
   cases e; exact same rfl
  ·obtain ⟨_, e⟩ := bif_some e
   cases e; exact same rfl
  ·cases e
 case store ty a x => exact absurd rfl (h1 ty a x)
 case nilCheck x =>
  unfold sNilCheck at e
  split at e <;> first | (cases e; exact same rfl) | (cases e; done)
 case binOp op ty x y yt => cases hb : binV E op ty (isConst x || isConst y) (ev t x) (ev t y) <;> rw [hb] at e <;> first | (cases e; done) | (cases e; exact same rfl)
 case unOp op ty x => cases hb : unV op (ev t x) <;> rw [hb] at e <;> first | (cases e; done) | (cases e; exact same rfl)
 case convert s d x =>
  unfold convV at e
  split at e
  ·cases e; exact same rfl
  ·cases e; exact same rfl
  ·split at e
   ·cases e; exact new rfl ⟨_, rfl⟩
   ·cases e
  ·split at e
   ·obtain ⟨bs, _, e⟩ := Option.map_eq_some_iff.1 e
    cases e; exact same rfl
   ·cases e
  ·cases e
 case makeInterface ty x => have := pure_any (op := .makeInterface ty x) rfl (show stepOp E keep n t h (.makeInterface ty x) = some (v, h') from e) n h; simp only [stepOp] at this; rw [e] at this; cases this; exact same rfl
 case makeFunc f a c => have := pure_any (op := .makeFunc f a c) rfl (show stepOp E keep n t h (.makeFunc f a c) = some (v, h') from e) n h; simp only [stepOp] at this; rw [e] at this; cases this; exact same rfl
 case makeSlice ty l c =>
  unfold sMakeSlice at e
  obtain ⟨ti, hti, e⟩ := Option.bind_eq_some_iff.1 e
  split at e
  ·obtain ⟨te, hte, e⟩ := Option.bind_eq_some_iff.1 e
   obtain ⟨z, hz, e⟩ := Option.bind_eq_some_iff.1 e
   split at e
   ·obtain ⟨_, e⟩ := bif_some e
    cases e; exact new rfl ⟨_, rfl⟩
   ·cases e
  ·cases e
 case slice ty x lo hi mx => cases hb : sliceV E ty h (ev t x) (lo.map (ev t)) (hi.map (ev t)) (mx.map (ev t)) <;> rw [hb] at e <;> first | (cases e; done) | (cases e; exact same rfl)
 case fieldAddr ty x k => have := pure_any (op := .fieldAddr ty x k) rfl (show stepOp E keep n t h (.fieldAddr ty x k) = some (v, h') from e) n h; simp only [stepOp] at this; rw [e] at this; cases this; exact same rfl
 case field ty x k => have := pure_any (op := .field ty x k) rfl (show stepOp E keep n t h (.field ty x k) = some (v, h') from e) n h; simp only [stepOp] at this; rw [e] at this; cases this; exact same rfl
 case indexAddr ty x i => have := simple_sub (op := .indexAddr ty x i) (fun _ _ hh => hh) rfl (fun c h => by cases h) (show stepOp E keep n t h (.indexAddr ty x i) = some (v, h') from e) n; simp only [stepOp] at this; rw [e] at this; cases this; exact same rfl
 case index ty x i => have := simple_sub (op := .index ty x i) (fun _ _ hh => hh) rfl (fun c h => by cases h) (show stepOp E keep n t h (.index ty x i) = some (v, h') from e) n; simp only [stepOp] at this; rw [e] at this; cases this; exact same rfl
 case extract x i => cases hb : (ev t x).part i <;> rw [hb] at e <;> first | (cases e; done) | (cases e; exact same rfl)
 case makeMap ty r =>
  unfold sMakeMap at e
  split at e
  ·split at e <;> first | (cases e; exact new rfl ⟨_, rfl⟩) | (cases e; done)
  ·cases e
 case lookup ty m k ok =>
  unfold sLookup at e
  split at e
  ·obtain ⟨_, e⟩ := bif_some e
   obtain ⟨es, _, e⟩ := Option.bind_eq_some_iff.1 e
   obtain ⟨i, _, e⟩ := Option.bind_eq_some_iff.1 e
   split at e
   ·cases e; exact same rfl
   ·obtain ⟨te, _, e⟩ := Option.bind_eq_some_iff.1 e
    obtain ⟨_, e⟩ := bif_some e
    cases e; exact same rfl
  ·cases e
 case mapUpdate ty m k x => exact absurd rfl (h2 ty m k x)
 case insert ty m k x => exact absurd rfl (h3 ty m k x)
 case typeAssert x xt ty ok =>
  unfold sAssert at e
  split at e
  ·cases e
  ·split at e
   ·rename_i u d _
    cases hb : Nat.beq u ty <;> rw [hb] at e <;> simp only [cond_true, cond_false] at e
    ·obtain ⟨_, e⟩ := bif_some e; cases e; exact same rfl
    ·cases e; exact same rfl
   ·rename_i u d _
    cases hb : Nat.beq u ty <;> rw [hb] at e <;> simp only [cond_true, cond_false] at e
    ·obtain ⟨_, e⟩ := bif_some e; cases e; exact same rfl
    ·cases e; exact same rfl
   ·obtain ⟨_, e⟩ := bif_some e; cases e; exact same rfl
   ·cases e
  ·cases e
 case call c => exact absurd rfl (h4 c)
theorem exec_call {a : Act} {o : Oper} {c : Call} (hop : o.op = .call c) : execOp a.eval o = (do let d ← resolve a.eval c o.type; invoke d.target d.args) := by unfold execOp; rw [hop]
theorem call_builtin {a : Act} {o : Oper} {c : Call} {b : Builtin} (hop : o.op = .call c) (hcal : c.callee = .builtin b) :
  execOp a.eval o = builtin b c.argTypes o.type (c.args.map fun | .const _ => true | _ => false) (c.args.map a.eval) := by
 rw [exec_call hop]
 have hres : (resolve a.eval c o.type) = pure { target := .builtin b c.argTypes o.type (c.args.map fun | .const _ => true | _ => false), args := c.args.map a.eval } := by
  unfold resolve; rw [hcal]; rfl
 simp only [hres, pure_bind]
 rfl
theorem quiet_sound (hih : CodeS F P E ih) (hE : EnvOk F P E) (hF : Fen F) (hr : HR B X O w h) {keep : Bool} {nid : Nat} (hn : hget h nid = none) (hM : X.M nid = none) (hle : nid ≤ h.length) {t : Tm} {a : Act} (ht : TR X t a.tmps) {o : Oper} (ho : ∀ x ∈ o.op.operands.toList, okOpd x = true) {v : V} {bo : Option Blk}
  (e : quietV E ih keep nid t h o.op = some (v, bo)) (n : Nat) : CallN F n P B X O w h (execOp a.eval o) v (putBlk h nid bo) := by
 have plain : ∀ {h' : Heap}, stepOp E keep nid t h o.op = some (v, h') → (h' = putBlk h nid bo) → CallN F n P B X O w h (execOp a.eval o) v (putBlk h nid bo) := fun {h'} e1 e2 => by
  rw [← e2]; exact .inl (stepOp_sound hE.toEnvB hr hn hM hle ht ho e1)
 unfold quietV at e
 split at e
 ·cases e
 ·cases e
 ·cases e
 ·cases e
 ·cases e
 ·cases e
 ·rename_i c hop
  have bi : ∀ {b : Builtin} {h' : Heap}, c.callee = .builtin b → builtinV E nid b c.argTypes (evs t c.args) h = some (v, h') → h' = putBlk h nid bo → CallN F n P B X O w h (execOp a.eval o) v (putBlk h nid bo) := fun {b h'} hcal e1 e2 =>
   plain (h' := h') (by rw [hop]; simp only [stepOp, hcal]; exact e1) e2
  split at e
  ·rename_i hcal
   split at e
   ·rename_i b g off len l h1 hb
    obtain ⟨hbn, e⟩ := bif_some e
    have hbn := beq_of hbn; subst hbn
    cases e
    refine bi hcal hb ?_
    unfold builtinV at hb
    simp only at hb
    split at hb
    ·obtain ⟨k, rfl⟩ := bAppend_new hn hb
     exact (hput_get hle _).symm
    ·cases hb
   ·cases e
  ·rename_i hcal
   obtain ⟨r, hb, e⟩ := Option.map_eq_some_iff.1 e
   cases e
   refine bi (h' := r.2) hcal hb ?_
   unfold builtinV at hb
   simp only at hb
   split at hb
   ·obtain ⟨t', _, hb⟩ := Option.bind_eq_some_iff.1 hb
    unfold bLen at hb
    split at hb <;> first | (cases hb; rfl) | (cases hb; done) | skip
    split at hb
    ·obtain ⟨_, hb⟩ := bif_some hb; cases hb; rfl
    ·cases hb
   ·cases hb
  ·rename_i hcal
   obtain ⟨r, hb, e⟩ := Option.map_eq_some_iff.1 e
   cases e
   refine bi (h' := r.2) hcal hb ?_
   unfold builtinV at hb
   simp only at hb
   split at hb
   ·obtain ⟨m, _, hb⟩ := Option.map_eq_some_iff.1 hb; cases hb; rfl
   ·cases hb
  ·rename_i hcal
   obtain ⟨r, hb, e⟩ := Option.map_eq_some_iff.1 e
   cases e
   refine bi (h' := r.2) hcal hb ?_
   unfold builtinV at hb
   simp only at hb
   split at hb
   ·obtain ⟨m, _, hb⟩ := Option.map_eq_some_iff.1 hb; cases hb; rfl
   ·cases hb
  ·cases e
  ·-- a function
   rename_i _ _ _ _ hnb
   obtain ⟨⟨g, xs⟩, htar, e⟩ := Option.bind_eq_some_iff.1 e
   obtain ⟨args, ha, hrun⟩ := target_sound hE ht (c := c) (fun x hx => ho x (by rw [hop]; exact hx)) htar o.type
   have fin : ∀ {h' : Heap}, CallN F n P B X O w h (callFunc g args) v h' → CallN F n P B X O w h (execOp a.eval o) v h' := fun {h'} hc => hc.of_run (by rw [exec_call hop]; exact hrun w)
   split at e
   ·rename_i sz hsz
    obtain ⟨r, hr', e⟩ := Option.map_eq_some_iff.1 e
    cases e
    have hc := hE.clone g sz hsz n B X O w h hr xs args ha nid hn hM hle r.1 r.2 hr'
    have : r.2 = putBlk h nid (hget r.2 nid) := by
     unfold cloneV at hr'
     split at hr'
     ·obtain ⟨te, _, hr'⟩ := Option.bind_eq_some_iff.1 hr'
      obtain ⟨l, _, hr'⟩ := Option.bind_eq_some_iff.1 hr'
      obtain ⟨_, hr'⟩ := bif_some hr'
      cases hr'; exact (hput_get hle _).symm
     ·cases hr'
    rw [← this]; exact fin hc
   ·have ex : ∀ {x : Nat} {r : V × Heap}, E.ext g = x → x ≠ 0 → extV x xs h = some r → r.2 = h → r.1 = v → bo = none → CallN F n P B X O w h (execOp a.eval o) v (putBlk h nid bo) := fun {x r} e1 e2 e3 e4 e5 e6 => by
     subst e6
     obtain ⟨r1, r2⟩ := r
     simp only at e4 e5
     subst e4; subst e5
     exact fin (hE.ext g (by rw [e1]; exact e2) n B X O w _ hr xs args ha _ _ (by rw [e1]; exact e3))
    split at e
    ·rename_i hx
     obtain ⟨r, hr', e⟩ := Option.map_eq_some_iff.1 e
     cases e
     refine ex hx (by decide) hr' ?_ rfl rfl
     unfold extV at hr'
     split at hr' <;> first | (cases hr'; rfl) | (cases hr'; done) | (simp at *; done)
    ·rename_i hx
     obtain ⟨r, hr', e⟩ := Option.map_eq_some_iff.1 e
     cases e
     refine ex hx (by decide) hr' ?_ rfl rfl
     unfold extV at hr'
     split at hr' <;> first | (cases hr'; rfl) | (cases hr'; done) | (simp at *; done)
    ·cases hinl : E.inl g with
     | true => simp only [hinl, cond_true] at e; cases e
     | false =>
      simp only [hinl, cond_false] at e
      obtain ⟨ds, hds, e⟩ := Option.bind_eq_some_iff.1 e
      obtain ⟨r, hr', e⟩ := Option.bind_eq_some_iff.1 e
      obtain ⟨⟨fn, cd, hpf, hb, hnm⟩, hdata⟩ := dataC_sound hih hE hF hr'
      have hent := callFunc_enter (w := w) hpf hb hnm args
      split at e
      ·rename_i hno
       cases e
       refine fin (.inr ⟨g, args, hent, ?_⟩)
       have hS : Shows X w h X.C (fun _ => False) := ⟨.refl _, fun b bi a0 hb => hb.elim⟩
       have hrel := data_REL hr hS hds (fun v hv b hb => nil_of_ownsL hno v hv b hb) ha
       refine (hdata n X.C w args hr.ci hrel).mono fun x w' ⟨C', q1, q2, q3, q4, q5⟩ => ?_
       obtain ⟨g1, g2⟩ := grown_ok hr q1 q2 q3 q4
       exact ⟨X.withC C', O, g1, by simp only [VREL]; exact q5, g2⟩
      ·obtain ⟨hfl, e⟩ := bif_some e
       cases e
       refine fin (.inr ⟨g, args, hent, ?_⟩)
       have hrel := data_REL hr (bigView_shows hr) hds (fun _ _ _ _ => trivial) ha
       refine (hdata n _ w args (bigView_ci hr.ci) hrel).mono fun x w' ⟨C', q1, q2, q3, q4, q5⟩ => ?_
       obtain ⟨g1, g2⟩ := grown_same hr q3
       exact ⟨X, O, g1, by simp only [VREL]; exact r.flat_REL true [x] hfl q5, g2⟩
    ·cases e
 ·rename_i ty len ps hop
  obtain ⟨hno, e⟩ := bif_some e
  obtain ⟨r, hr', e⟩ := Option.map_eq_some_iff.1 e
  cases e
  have he : stepOp E keep nid t h o.op = some (r.1, r.2) := by rw [hop]; simp only [stepOp]; exact hr'
  refine plain he ?_
  have := step_quiet hn hle he (fun _ _ _ hh => by rw [hop] at hh; cases hh) (fun _ _ _ _ hh => by rw [hop] at hh; cases hh) (fun _ _ _ _ hh => by rw [hop] at hh; cases hh) (fun _ hh => by rw [hop] at hh; cases hh) (fun ty' len' ps' hh => by rw [hop] at hh; cases hh; exact hno) (fun _ _ hh => by rw [hop] at hh; cases hh) (fun _ _ hh => by rw [hop] at hh; cases hh) (fun _ hh => by rw [hop] at hh; cases hh)
  rw [hop] at this
  exact this
 ·rename_i h1 h2 h3 r1 r2 r3 h4 h5
  obtain ⟨r, hr', e⟩ := Option.map_eq_some_iff.1 e
  cases e
  exact plain hr' (step_quiet hn hle hr' (fun a b c hh => h1 a b c hh) (fun a b c d hh => h2 a b c d hh) (fun a b c d hh => h3 a b c d hh) (fun c hh => h4 c hh) (fun a b c hh => absurd hh (h5 a b c)) (fun a b hh => r1 a b hh) (fun a b hh => r2 a b hh) (fun a hh => r3 a hh))
def PS (X : Cx) (k n : Nat) (h : Heap) : Prop := ∀ b, k ≤ b → b < k + n → hget h b = none → X.M b = none
theorem PS.step {k n : Nat} (hp : PS X k n h) (hkn : k + n ≤ h.length) {X' : Cx} {O' : Nat → Addr → Prop} {w' : World} {h' : Heap} (st : Step B X O w h X' O' w' h') : PS X' k n h' := fun b h1 h2 hn =>
 st.fr.unk b (by omega) (hp b h1 h2 (st.fr.vis b hn)) hn
theorem hide_hget_none {k i : Nat} {m : List Nat} (hn : hget h i = none) : hget (hide k m h) i = none := by
 rw [hget_hide]; split
 ·rfl
 ·exact hn
theorem allNone_get : ∀ {l : Heap}, allNone l = true → ∀ b, hget l b = none
 | [], _, b => by simp [hget_eq]
 | none :: l, e, 0 => by simp [hget_eq]
 | none :: l, e, b + 1 => by have := allNone_get (l := l) e b; simpa [hget_eq] using this
 | some _ :: l, e, b => by cases e
theorem hget_append (a b : Heap) (i : Nat) : hget (a ++ b) i = if i < a.length then hget a i else hget b (i - a.length) := by
 rw [hget_eq, hget_eq, hget_eq, List.getElem?_append]; split <;> rfl
theorem hget_drop (a : Heap) (n i : Nat) : hget (a.drop n) i = hget a (n + i) := by rw [hget_eq, hget_eq, List.getElem?_drop]
theorem hget_take (a : Heap) (n i : Nat) : hget (a.take n) i = if i < n then hget a i else none := by
 rw [hget_eq, hget_eq, List.getElem?_take]; split <;> rfl
theorem snap_REL (hr : HR B X O w h) {v : V} {d : D} (e : V.snap h v = some d) {x : Value} (r : VREL X v true [x]) : REL (bigView B X w) d true [x] := by
 unfold V.snap at e
 split at e
 ·rename_i b
  split at e
  ·rename_i u hb
   obtain ⟨d', hd, e⟩ := Option.map_eq_some_iff.1 e
   subst e
   obtain ⟨bi, a0, ws, h1, h2, h3, h4, h5, h6, h7, h8⟩ := hr.blk b _ hb
   simp only [VREL] at r
   obtain ⟨y, ey, _, bj, hM, hg, hx⟩ := r
   rw [h1] at hM; cases hM
   obtain ⟨a1, e1, e2, e3⟩ := hx h2.symm
   rw [h4] at e1; cases e1
   have hdr := data_sound hr (bigView_shows hr) hd (fun _ _ => trivial) h6
   simp only [REL]
   refine ⟨a0, ws, by rw [ey, e3]; simp [pathOff], h5, hdr, fun j v ev => ?_⟩
   have hj : j < ws.length := (List.getElem?_eq_some_iff.1 ev).1
   have hB := (hr.own b _ (h8 j (Nat.zero_le _) hj).1).1
   unfold bigView
   rw [if_pos hB]; exact h7 j v ev
  ·cases e
 ·exact data_sound hr (bigView_shows hr) e (fun _ _ => trivial) r
theorem snaps_REL (hr : HR B X O w h) : ∀ {l : List V} {ds : List D} {xs : List Value}, allSnap h l = some ds → All2 (fun v x => VREL X v true [x]) l xs → All2 (fun d x => REL (bigView B X w) d true [x]) ds xs
 | [], ds, xs, e, r => by simp [allSnap] at e; subst e; cases r; exact All2.nil
 | v :: l, ds, xs, e, r => by
  have e : ((V.snap h v).bind fun d => (allSnap h l).map (d :: ·)) = some ds := e
  obtain ⟨d, hd, e⟩ := Option.bind_eq_some_iff.1 e
  obtain ⟨ds', hds, e⟩ := Option.map_eq_some_iff.1 e
  subst e
  obtain ⟨x, r', rfl, rx, rr⟩ := r
  exact All2.cons (snap_REL hr hd rx) (snaps_REL hr hds rr)
theorem opD_sound (hih : CodeS F P E ih) (hE : EnvOk F P E) (hF : Fen F) {keep : Bool} {ops : Array Oper} {k n i cls : Nat} {m : List Nat} {st st' : St} {nt q : Nat} {a : Act} {o : Oper} (e : opD E ih keep ops k n i cls m o st = some st') (s : SR nt B X O w a st) (hok : opOk nt o = true)
  (hpure : cls = 0 → isPure o.op = true) (hsimple : cls = 2 → isSimple o.op = true) (hps : PS X k n st.h) (hi : isNew E o.op = true → i < n) (hkn : k + n ≤ st.h.length)
  {K : Act → World → Prop} {Q : Exit → Act → World → Prop} (hK : ∀ X' O' w' a', SR nt B X' O' w' a' st' → Step B X O w st.h X' O' w' st'.h → K a' w') :
  if Region.wanted o (yielded ops a.tmps) = true then o.wpIn F q P a w K Q else (∀ f, o.about P w a.eval = some f → F.fn f) ∧ K (a.put o.dst undef) w := by
 obtain ⟨hd, ho⟩ := opOk_dst hok
 unfold opD at e
 cases hg : guardOf ops st.t o.guard with
 | none => rw [hg] at e; cases e
 | some b =>
  rw [hg] at e
  have hw := guard_sound s.t hg
  cases b with
  | false =>
   simp only at e
   cases e
   rw [hw, if_neg (by simp)]
   exact ⟨fun f _ => hF.fn f, hK X O w _ (s.put hd (undefRel X)) (.refl _ _ _ _ _)⟩
  | true =>
   simp only at e
   have fin : ∀ {v : V} {h' : Heap}, st' = ⟨putDst st.t o.dst v, h', st.lp, st.df⟩ → CallN F (q - 1) P B X O w st.h (execOp a.eval o) v h' →
     if Region.wanted o (yielded ops a.tmps) = true then o.wpIn F q P a w K Q else (∀ f, o.about P w a.eval = some f → F.fn f) ∧ K (a.put o.dst undef) w := fun {v h'} he hc => by
    subst he
    rw [hw, if_pos rfl]
    unfold Oper.wpIn
    refine ⟨fun f _ => hF.fn f, ?_⟩
    rw [hF.round, Oper.semAt_none]
    refine hc.upon hF fun x w' ⟨X', O', q1, q2, q3⟩ => ?_
    exact hK X' O' w' _ ((s.step q1 q3).put hd q2) q3
   have viewed : ∀ {view v' h' : Heap} {v : V} {m : Sem Next}, Sub view st.h → view.length = st.h.length → h'.length = v'.length →
     (∀ b k, hget h' b = some k → (hget st.h b = some k ∧ hget view b = none) ∨ hget v' b = some k) → (∀ b, hget h' b = none → hget st.h b = none ∧ hget v' b = none) →
     CallN F (q - 1) P B X O w view m v v' → CallN F (q - 1) P B X O w st.h m v h' := fun {view v' h' v m} c1 c2 c3 c4 c5 hc => by
    rcases hc with ⟨x, w', X', O', r1, r2, r3, r4⟩ | ⟨f, args, r1, r2⟩
    ·obtain ⟨u1, u2⟩ := unhide s.h c1 c2 c3 r2 r4 c4 c5
     exact .inl ⟨x, w', X', O', r1, u1, r3, u2⟩
    ·refine .inr ⟨f, args, r1, r2.mono fun x w' ⟨X', O', t1, t2, t3⟩ => ?_⟩
     obtain ⟨u1, u2⟩ := unhide s.h c1 c2 c3 t1 t3 c4 c5
     exact ⟨X', O', u1, t2, u2⟩
   have hhide : ∀ m, HR B X O w (hide k m st.h) := fun m => s.h.view (hide_sub k m st.h) (hide_length k m st.h)
   have hidden : ∀ {nid : Nat} {bo : Option Blk} {v : V} {m : List Nat}, hget st.h nid = none → (bo ≠ none → nid < st.h.length) → nid ≤ st.h.length → CallN F (q - 1) P B X O w (hide k m st.h) (execOp a.eval o) v (putBlk (hide k m st.h) nid bo) →
     CallN F (q - 1) P B X O w st.h (execOp a.eval o) v (putBlk st.h nid bo) := fun {nid bo v m} hn hlt hle hc => by
    cases bo with
    | none =>
     simp only [putBlk_none] at hc ⊢
     refine viewed (hide_sub k m st.h) (hide_length k m st.h) (hide_length k m st.h).symm (fun b kk hb => ?_) (fun b hb => ⟨hb, hide_hget_none hb⟩) hc
     cases hv : hget (hide k m st.h) b with
     | none => exact .inl ⟨hb, rfl⟩
     | some k2 => right; rw [hide_sub k m st.h b k2 hv] at hb; exact hb
    | some bk =>
     have hlt := hlt (by simp)
     have hle2 : nid ≤ (hide k m st.h).length := by rw [hide_length]; exact hle
     have g1 : ∀ b, hget (putBlk st.h nid (some bk)) b = if b = nid then some bk else hget st.h b := fun b => hget_hput st.h nid b bk hle
     have g2 : ∀ b, hget (putBlk (hide k m st.h) nid (some bk)) b = if b = nid then some bk else hget (hide k m st.h) b := fun b => hget_hput _ nid b bk hle2
     refine viewed (hide_sub k m st.h) (hide_length k m st.h) ?_ (fun b kk hb => ?_) (fun b hb => ?_) hc
     ·show (hput st.h nid bk).length = (hput (hide k m st.h) nid bk).length
      rw [hput_len, hput_len, hide_length]
     ·rw [g1] at hb
      by_cases hbn : b = nid
      ·rw [if_pos hbn] at hb
       right; rw [g2, if_pos hbn]; exact hb
      ·rw [if_neg hbn] at hb
       cases hv : hget (hide k m st.h) b with
       | none => exact .inl ⟨hb, rfl⟩
       | some k2 => right; rw [g2, if_neg hbn, hv]; rw [hide_sub k m st.h b k2 hv] at hb; exact hb
     ·rw [g1] at hb
      by_cases hbn : b = nid
      ·rw [if_pos hbn] at hb; cases hb
      ·rw [if_neg hbn] at hb
       exact ⟨hb, by rw [g2, if_neg hbn]; exact hide_hget_none hb⟩
   split at e
   ·-- by the slots alone
    obtain ⟨r, hr', e⟩ := Option.map_eq_some_iff.1 e
    have hany := pure_any (hpure rfl) (show stepOp E keep (k + i) st.t [] o.op = some (r.1, r.2) from hr') st.h.length st.h
    exact fin e.symm (.inl (stepOp_sound hE.toEnvB s.h (nid_none rfl) (nid_M s.h) (Nat.le_refl _) s.t ho hany))
   ·cases hnew : isNew E o.op with
    | true =>
     rw [hnew, cond_true] at e
     have hin := hi hnew
     split at e
     ·rename_i hnone
      obtain ⟨r, hr', e⟩ := Option.map_eq_some_iff.1 e
      have hM := hps (k + i) (by omega) (by omega) hnone
      have hc := quiet_sound hih hE hF (hhide m) (hide_hget_none hnone) hM (by rw [hide_length]; omega) s.t ho (v := r.1) (bo := r.2) hr' (q - 1)
      exact fin e.symm (hidden hnone (fun _ => by omega) (by omega) hc)
     ·cases e
    | false =>
     rw [hnew, cond_false] at e
     obtain ⟨r, hr', e⟩ := Option.bind_eq_some_iff.1 e
     split at e
     ·rename_i hbo
      rw [llen_eq] at hr'
      have hc := quiet_sound hih hE hF (hhide m) (hide_hget_none (nid_none rfl)) (nid_M s.h) (by rw [hide_length]; exact Nat.le_refl _) s.t ho (v := r.1) (bo := r.2) hr' (q - 1)
      rw [hbo] at hc
      have := hidden (nid_none rfl) (fun hh => absurd rfl hh) (Nat.le_refl _) hc
      exact fin (Option.some.inj e).symm this
     ·cases e
   ·obtain ⟨r, hr', e⟩ := Option.map_eq_some_iff.1 e
    have hsub : Sub (hide k m (st.h.take (k + n))) st.h := (hide_sub k m _).trans (take_sub _ _)
    have hq := simpleV_sub hsub (hsimple rfl) hr' st.h.length
    exact fin e.symm (quiet_sound hih hE hF s.h (nid_none rfl) (nid_M s.h) (Nat.le_refl _) s.t ho hq (q - 1))
   ·rw [llen_eq] at e
    exact opV_sound hih hE hF e s hok (nid_none rfl) (nid_M s.h) (Nat.le_refl _) hK
   ·split at e
    ·rename_i c hop
     obtain ⟨⟨g, xs⟩, htar, e⟩ := Option.bind_eq_some_iff.1 e
     obtain ⟨⟨v, h', lp'⟩, hin, e⟩ := Option.bind_eq_some_iff.1 e
     obtain ⟨hall, e⟩ := bif_some e
     have hvsub : Sub (only (reachIn st.h 0 64 (addNew 0 (refsL xs) [])) st.h) st.h := only_sub _ _
     have hvlen : (only (reachIn st.h 0 64 (addNew 0 (refsL xs) [])) st.h).length = st.h.length := only_length _ _
     have hall := sameH_ok hall
     generalize only (reachIn st.h 0 64 (addNew 0 (refsL xs) [])) st.h = vw at hin hall hvsub hvlen
     rw [s.lp] at hin
     have hvr : HR B X O w vw := s.h.view hvsub hvlen
     obtain ⟨args, ha, hrun⟩ := target_sound hE s.t (c := c) (fun x hx => ho x (by rw [hop]; exact hx)) htar o.type
     obtain ⟨hlp, ⟨fn, cd, hpf, hb, hnm⟩, hcall⟩ := inline_sound hih hE hF hin hvr ha
     have hlen : st.h.length ≤ h'.length := by
      obtain ⟨e1, w1, _, hR, _⟩ := (hcall 0).2 [] (room_all hF _)
      cases e1 with
      | returned x =>
       obtain ⟨X', O', _, _, t3⟩ := hR
       have := t3.len; rw [hvlen] at this; exact this
      | panicked => exact hR.elim
      | outgrown => exact hR.elim
     have hc : CallN F (q - 1) P B X O w vw (execOp a.eval o) v h' :=
      .inr ⟨g, args, by rw [exec_call hop, hrun w]; exact callFunc_enter hpf hb hnm args, hcall (q - 1)⟩
     have hall' : ∀ b, b < st.h.length → hget h' b = hget vw b := fun b hb => by
      rw [hall, llen_eq, hget_take, if_pos hb]
     have hget' : ∀ b, hget (st.h ++ h'.drop (llen st.h)) b = if b < st.h.length then hget st.h b else hget h' b := fun b => by
      rw [hget_append]; split
      ·rfl
      ·rename_i hb; rw [hget_drop, llen_eq]; congr 1; omega
     have := viewed (h' := st.h ++ h'.drop (llen st.h)) hvsub hvlen (by rw [List.length_append, List.length_drop, llen_eq]; omega) (fun b kk hb => by
       rw [hget'] at hb; split at hb
       ·rename_i hlt
        cases hv : hget vw b with
        | none => exact .inl ⟨hb, rfl⟩
        | some k2 =>
         have := hvsub b k2 hv
         rw [hb] at this; cases this
         exact .inr (by rw [hall' b hlt]; exact hv)
       ·exact .inr hb) (fun b hb => by
       rw [hget'] at hb; split at hb
       ·rename_i hlt
        refine ⟨hb, ?_⟩
        rw [hall' b hlt]
        cases hv : hget vw b with
        | none => rfl
        | some k2 => have := hvsub b k2 hv; rw [hb] at this; cases this
       ·rename_i hge
        refine ⟨?_, hb⟩
        rw [hget_eq, List.getElem?_eq_none (by omega)]; rfl) hc
     have e := Option.some.inj e
     subst hlp
     exact fin (by rw [← e, s.lp]) this
    ·cases e
   ·split at e
    ·rename_i ty a' x hop
     split at e
     ·rename_i b g p hev
      obtain ⟨_, e⟩ := bif_some e
      obtain ⟨r, hr', e⟩ := Option.map_eq_some_iff.1 e
      have hst : stepOp E keep st.h.length st.t st.h o.op = some (r.1, r.2) := by
       rw [hop]; simp only [stepOp]; rw [hev]; exact hr'
      exact fin e.symm (.inl (stepOp_sound hE.toEnvB s.h (nid_none rfl) (nid_M s.h) (Nat.le_refl _) s.t ho hst))
     ·cases e
    ·cases e
   ·split at e
    ·rename_i ty a' x hop
     split at e
     ·rename_i b g p hev
      obtain ⟨_, e⟩ := bif_some e
      obtain ⟨r, hr', e⟩ := Option.map_eq_some_iff.1 e
      have hst : stepOp E keep st.h.length st.t st.h o.op = some (r.1, r.2) := by
       rw [hop]; simp only [stepOp]; rw [hev]; exact hr'
      exact fin e.symm (.inl (stepOp_sound hE.toEnvB s.h (nid_none rfl) (nid_M s.h) (Nat.le_refl _) s.t ho hst))
     ·cases e
    ·cases e
   ·split at e
    ·rename_i ty a' hop
     split at e
     ·rename_i b g p hev
      obtain ⟨r, hr', e⟩ := Option.map_eq_some_iff.1 e
      have hsv : simpleV E ih keep st.h.length st.t (st.h.take k) o.op = some r.1 := by
       rw [hop]; simp only [simpleV, stepOp]; rw [hev, hr']; rfl
      have hq := simpleV_sub (take_sub k st.h) (by rw [hop]; rfl) hsv st.h.length
      exact fin e.symm (quiet_sound hih hE hF s.h (nid_none rfl) (nid_M s.h) (Nat.le_refl _) s.t ho hq (q - 1))
     ·cases e
    ·cases e
   ·split at e
    ·rename_i ty x i' hop
     obtain ⟨r, hr', e⟩ := Option.map_eq_some_iff.1 e
     have hsv : simpleV E ih keep st.h.length st.t (st.h.take k) o.op = some r.1 := by
      rw [hop]; simp only [simpleV, stepOp]; rw [hr']; rfl
     have hq := simpleV_sub (take_sub k st.h) (by rw [hop]; rfl) hsv st.h.length
     exact fin e.symm (quiet_sound hih hE hF s.h (nid_none rfl) (nid_M s.h) (Nat.le_refl _) s.t ho hq (q - 1))
    ·cases e
   ·split at e
    ·rename_i c hop
     obtain ⟨⟨g, xs⟩, htar, e⟩ := Option.bind_eq_some_iff.1 e
     obtain ⟨ds, hds, e⟩ := Option.bind_eq_some_iff.1 e
     obtain ⟨r, hr', e⟩ := Option.bind_eq_some_iff.1 e
     obtain ⟨hfl, e⟩ := bif_some e
     obtain ⟨args, ha, hrun⟩ := target_sound hE s.t (c := c) (fun x hx => ho x (by rw [hop]; exact hx)) htar o.type
     obtain ⟨⟨fn, cd, hpf, hb, hnm⟩, hdata⟩ := dataC_sound hih hE hF hr'
     have hrel := snaps_REL (hhide m) hds ha
     have hc : CallN F (q - 1) P B X O w st.h (execOp a.eval o) (.im r) st.h := by
      refine .inr ⟨g, args, by rw [exec_call hop, hrun w]; exact callFunc_enter hpf hb hnm args, ?_⟩
      refine (hdata (q - 1) _ w args (bigView_ci s.h.ci) hrel).mono fun x w' ⟨C', q1, q2, q3, q4, q5⟩ => ?_
      obtain ⟨g1, g2⟩ := grown_same s.h q3
      exact ⟨X, O, g1, by simp only [VREL]; exact r.flat_REL true [x] hfl q5, g2⟩
     exact fin (Option.some.inj e).symm hc
    ·cases e
end
end Go.As
/-
 AS: regions that draw their order: every order comes to the same end.
-/
namespace Go.As
open Go.RowKit (Below)
variable [Gh]
def Ag (l : List Nat) (t t' : Tm) : Prop := ∀ i ∈ l, t.get i = t'.get i
theorem tmpsOf_mem {l : List Operand} {i : Nat} (h : Operand.tmp i ∈ l) : i ∈ tmpsOf l := by
 induction l with
 | nil => cases h
 | cons o l ih =>
  rcases List.mem_cons.1 h with rfl | h
  ·exact List.mem_cons_self
  ·have := ih h
   cases o
   ·exact List.mem_cons_of_mem _ this
   all_goals exact this
theorem Ag.ev {ops : Array Oper} {o : Oper} {t t' : Tm} (h : Ag (reads ops o) t t') {x : Operand} (hx : x ∈ o.op.operands.toList) : ev t x = ev t' x := by
 cases x with
 | tmp i => exact h i (List.mem_append_left _ (tmpsOf_mem hx))
 | _ => rfl
theorem Ag.guard {ops : Array Oper} {o : Oper} {t t' : Tm} (h : Ag (reads ops o) t t') : guardOf ops t o.guard = guardOf ops t' o.guard := by
 unfold guardOf
 cases hg : o.guard with
 | none => rfl
 | some g =>
  obtain ⟨j, want⟩ := g
  simp only
  cases ho : lget ops.toList j with
  | none => rfl
  | some o' =>
   simp only [Option.bind_some]
   cases hd : o'.dst with
   | none => rfl
   | some d =>
    simp only [Option.bind_some]
    rw [h d (List.mem_append_right _ (by rw [hg]; simp only [ho, hd]; simp))]
theorem hasN_mem {l : List Nat} {b : Nat} (h : hasN l b = true) : b ∈ l := by
 induction l with
 | nil => cases h
 | cons a l ih =>
  have e : hasN (a :: l) b = (bif Nat.beq a b then true else hasN l b) := rfl
  rw [e] at h
  cases hb : Nat.beq a b with
  | true => rw [beq_of hb]; simp
  | false => rw [hb, cond_false] at h; simp [ih h]
theorem hasN_not {l : List Nat} {b : Nat} (h : hasN l b = false) : b ∉ l := fun hb => by
 induction l with
 | nil => cases hb
 | cons a l ih =>
  have e : hasN (a :: l) b = (bif Nat.beq a b then true else hasN l b) := rfl
  rw [e] at h
  cases hc : Nat.beq a b with
  | true => rw [hc] at h; cases h
  | false =>
   rw [hc, cond_false] at h
   rcases List.mem_cons.1 hb with rfl | hb
   ·rw [Nat.beq_refl] at hc; cases hc
   ·exact ih h hb
theorem Ag.put {l : List Nat} {t : Tm} {dst : Option Nat} {v : V} (h : ∀ d, dst = some d → d ∉ l) : Ag l t (putDst t dst v) := fun i hi => by
 cases dst with
 | none => rfl
 | some d => exact (Tm.get_set_other t d i v (fun e => h d rfl (by rw [← e]; exact hi))).symm
theorem Tm.set_comm (t : Tm) : ∀ {i j : Nat} (_ : i ≠ j) (x y : V), (t.set i x).set j y = (t.set j y).set i x := by
 induction t with
 | e => intros; rfl
 | n v l r ihl ihr =>
  intro i j hij x y
  by_cases hi : i = 0
  ·subst hi
   have hj : j ≠ 0 := Ne.symm hij
   by_cases hj2 : j % 2 = 1 <;> simp [Tm.set_n, hj, hj2]
  ·by_cases hj : j = 0
   ·subst hj
    by_cases hi2 : i % 2 = 1 <;> simp [Tm.set_n, hi, hi2]
   ·by_cases hi2 : i % 2 = 1 <;> by_cases hj2 : j % 2 = 1 <;> simp only [Tm.set_n, hi, hj, hi2, hj2, if_true, if_false]
    ·rw [ihl (by omega)]
    ·rw [ihr (by omega)]
theorem putDst_comm (t : Tm) {x y : Option Nat} (h : ∀ d, x = some d → y ≠ some d) (u v : V) : putDst (putDst t x u) y v = putDst (putDst t y v) x u := by
 cases x with
 | none => rfl
 | some d =>
  cases y with
  | none => rfl
  | some c => exact Tm.set_comm t (fun e => h d rfl (by rw [e])) u v
section
variable {F : Fence} {P : Program} {B : Nat} {X : Cx} {O : Nat → Addr → Prop} {w : World} {E : Env} {ih : Nat → Nat → Nat → Code → St → Option (Ex × St)}
theorem evs_congr {t t' : Tm} {l : Array Operand} (h : ∀ x ∈ l.toList, ev t x = ev t' x) : evs t l = evs t' l := by
 rw [evs_eq, evs_eq]; exact List.map_congr_left h
theorem evP_congr {t t' : Tm} {l : Array (Nat × Operand)} (h : ∀ p ∈ l.toList, ev t p.2 = ev t' p.2) : evP (ev t) l = evP (ev t') l := by
 rw [evP_eq, evP_eq]; exact List.map_congr_left fun p hp => by rw [h p hp]
theorem rec_congr {t t' : Tm} {l : List Operand} (h : ∀ x ∈ l, ev t x = ev t' x) : (List.rec [] (fun o _ ih => ev t o :: ih) l : List V) = List.rec [] (fun o _ ih => ev t' o :: ih) l := by
 induction l with
 | nil => rfl
 | cons a l ih => show ev t a :: _ = ev t' a :: _; rw [h a (by simp), ih fun x hx => h x (by simp [hx])]
theorem opt_congr {t t' : Tm} {x : Option Operand} (h : ∀ y, x = some y → ev t y = ev t' y) : x.map (ev t) = x.map (ev t') := by
 cases x with
 | none => rfl
 | some y => simp [h y rfl]
theorem stepOp_congr {keep : Bool} {nid : Nat} {t t' : Tm} {h : Heap} {op : Op} (hev : ∀ x ∈ op.operands.toList, ev t x = ev t' x) : stepOp E keep nid t h op = stepOp E keep nid t' h op := by
 cases op <;> simp only [stepOp]
 case move x => rw [hev x (by simp [Op.operands])]
 case assign x => rw [hev x (by simp [Op.operands])]
 case pick c a b => rw [hev c (by simp [Op.operands]), hev a (by simp [Op.operands]), hev b (by simp [Op.operands])]
 case box ty x => rw [hev x (by simp [Op.operands])]
 case build ty ps => rw [evP_congr fun p hp => hev p.2 (by simp [Op.operands]; exact ⟨p.1, by simpa using hp⟩)]
 case buildSlice ty n ps => rw [evP_congr fun p hp => hev p.2 (by simp [Op.operands]; exact ⟨p.1, by simpa using hp⟩)]
 case load ty a => rw [hev a (by simp [Op.operands])]
 case store ty a x => rw [hev a (by simp [Op.operands]), hev x (by simp [Op.operands])]
 case nilCheck x => rw [hev x (by simp [Op.operands])]
 case binOp op ty x y yt => rw [hev x (by simp [Op.operands]), hev y (by simp [Op.operands])]
 case unOp op ty x => rw [hev x (by simp [Op.operands])]
 case convert s d x => rw [hev x (by simp [Op.operands])]
 case makeInterface ty x => rw [hev x (by simp [Op.operands])]
 case makeFunc f a c =>
  unfold sFunc
  rw [rec_congr (l := a.toList) fun x hx => hev x (by simp [Op.operands]; exact .inl (by simpa using hx)), rec_congr (l := c.toList) fun x hx => hev x (by simp [Op.operands]; exact .inr (by simpa using hx))]
 case makeSlice ty l c => rw [hev l (by simp [Op.operands]), hev c (by simp [Op.operands])]
 case slice ty x lo hi mx => rw [hev x (by simp [Op.operands]), opt_congr fun y hy => hev y (by subst hy; simp [Op.operands]), opt_congr (x := hi) fun y hy => hev y (by subst hy; simp [Op.operands]), opt_congr (x := mx) fun y hy => hev y (by subst hy; simp [Op.operands])]
 case fieldAddr ty x k => rw [hev x (by simp [Op.operands])]
 case field ty x k => rw [hev x (by simp [Op.operands])]
 case indexAddr ty x i => rw [hev x (by simp [Op.operands]), hev i (by simp [Op.operands])]
 case index ty x i => rw [hev x (by simp [Op.operands]), hev i (by simp [Op.operands])]
 case extract x i => rw [hev x (by simp [Op.operands])]
 case makeMap ty r => rw [opt_congr fun y hy => hev y (by subst hy; simp [Op.operands])]
 case lookup ty m k ok => rw [hev m (by simp [Op.operands]), hev k (by simp [Op.operands])]
 case mapUpdate ty m k x => rw [hev m (by simp [Op.operands]), hev k (by simp [Op.operands]), hev x (by simp [Op.operands])]
 case insert ty m k x => rw [hev m (by simp [Op.operands]), hev k (by simp [Op.operands]), hev x (by simp [Op.operands])]
 case typeAssert x xt ty ok => rw [hev x (by simp [Op.operands])]
 case range ty x => rw [hev x (by simp [Op.operands])]
 case next x str => rw [hev x (by simp [Op.operands])]
 case entry x => rw [hev x (by simp [Op.operands])]
 case call c =>
  split
  ·rw [evs_congr fun x hx => hev x (by simp only [Op.operands, Call.operands, Array.toList_append, List.mem_append]; exact .inr hx)]
  ·rfl
theorem target_congr {t t' : Tm} {c : Call} (hev : ∀ x ∈ c.operands.toList, ev t x = ev t' x) : target E t c = target E t' c := by
 have ha : evs t c.args = evs t' c.args := evs_congr fun x hx => hev x (by simp only [Call.operands, Array.toList_append, List.mem_append]; exact .inr hx)
 unfold target
 split
 ·rfl
 ·rename_i f hf
  rw [ha, hev f (by simp [Call.operands, hf])]
 ·rename_i r nm hf
  rw [ha, hev r (by simp [Call.operands, hf])]
theorem goCall_congr {nid : Nat} {t t' : Tm} {c : Call} {h : Heap} {lp : List Rec} (hev : ∀ x ∈ c.operands.toList, ev t x = ev t' x) : goCall E ih nid t c h lp = goCall E ih nid t' c h lp := by
 have ha : evs t c.args = evs t' c.args := evs_congr fun x hx => hev x (by simp only [Call.operands, Array.toList_append, List.mem_append]; exact .inr hx)
 have hy : yldOf t c = yldOf t' c := by
  unfold yldOf
  split
  ·rename_i f hf
   rw [ha, hev f (by simp [Call.operands, hf])]
  ·rfl
 unfold goCall
 rw [hy, target_congr hev]
theorem quietV_congr {keep : Bool} {nid : Nat} {t t' : Tm} {h : Heap} {op : Op} (hev : ∀ x ∈ op.operands.toList, ev t x = ev t' x) : quietV E ih keep nid t h op = quietV E ih keep nid t' h op := by
 unfold quietV
 split
 ·rfl
 ·rfl
 ·rfl
 ·rfl
 ·rfl
 ·rfl
 ·rename_i c
  have ha : evs t c.args = evs t' c.args := evs_congr fun x hx => hev x (by simp only [Op.operands, Call.operands, Array.toList_append, List.mem_append]; exact .inr hx)
  rw [ha, target_congr (c := c) hev]
 ·rename_i ty n ps
  rw [evP_congr fun p hp => hev p.2 (by simp [Op.operands]; exact ⟨p.1, by simpa using hp⟩)]
 ·rw [stepOp_congr hev]
theorem simpleV_congr {keep : Bool} {nid : Nat} {t t' : Tm} {h : Heap} {op : Op} (hev : ∀ x ∈ op.operands.toList, ev t x = ev t' x) : simpleV E ih keep nid t h op = simpleV E ih keep nid t' h op := by
 unfold simpleV
 split
 ·rename_i c
  have ha : evs t c.args = evs t' c.args := evs_congr fun x hx => hev x (by simp only [Op.operands, Call.operands, Array.toList_append, List.mem_append]; exact .inr hx)
  rw [ha, target_congr (c := c) hev]
 ·rw [stepOp_congr hev]
noncomputable def opX (E : Env) (ih : Nat → Nat → Nat → Code → St → Option (Ex × St)) (keep : Bool) (ops : Array Oper) (k n i cls : Nat) (m : List Nat) (o : Oper) (t : Tm) (h : Heap) (lp : List Rec) (df : List (Nat × List V)) : Option (V × Heap × List Rec × List (Nat × List V)) :=
 match guardOf ops t o.guard with
 | none => none
 | some false => some (.im (.tup []), h, lp, df)
 | some true => match cls with
  | 0 => (stepOp E keep (k + i) t [] o.op).map fun r => (r.1, h, lp, df)
  | 1 => bif isNew E o.op then (match hget h (k + i) with
    | none => (quietV E ih keep (k + i) t (hide k m h) o.op).map fun r => (r.1, putBlk h (k + i) r.2, lp, df)
    | some _ => none)
   else (quietV E ih keep (llen h) t (hide k m h) o.op).bind fun r => (match r.2 with
    | none => some (r.1, h, lp, df)
    | some _ => none)
  | 2 => (simpleV E ih keep (k + i) t (hide k m (h.take (k + n))) o.op).map fun v => (v, h, lp, df)
  | 3 => (match o.op with
   | .defer c => (match c.callee with
    | .value f => (match ev t f with
     | .fn g a cap => bif isMark (g, a ++ (evs t c.args ++ cap)) then none else some (.undef, h, lp, (g, a ++ (evs t c.args ++ cap)) :: df)
     | _ => none)
    | _ => none)
   | op => ((match op with
     | .call c => (match c.callee with
      | .builtin _ => lift lp (stepOp E keep (llen h) t h op)
      | _ => goCall E ih (llen h) t c h lp)
     | op => lift lp (stepOp E keep (llen h) t h op) : RC)).map fun r => (r.1, r.2.1, r.2.2, df))
  | 4 => (match o.op with
   | .call c => (target E t c).bind fun g => (inlineV E ih g.1 g.2 (only (reachIn h 0 64 (addNew 0 (refsL g.2) [])) h) lp).bind fun r =>
     bif sameH (only (reachIn h 0 64 (addNew 0 (refsL g.2) [])) h) (r.2.1.take (llen h)) then some (r.1, h ++ r.2.1.drop (llen h), r.2.2, df) else none
   | _ => none)
  | 6 => (match o.op with
   | .store ty a x => (match ev t a with
    | .ptr b g p => bif notAt t b m && isCell (hget h b) then (sStore E h ty (.ptr b g p) (ev t x)).map fun r => (r.1, r.2, lp, df) else none
    | _ => none)
   | _ => none)
  | 9 => (match o.op with
   | .store ty a x => (match ev t a with
    | .ptr b g p => bif Nat.ble k b && isCell (hget h b) then (sStore E h ty (.ptr b g p) (ev t x)).map fun r => (r.1, r.2, lp, df) else none
    | _ => none)
   | _ => none)
  | 7 => (match o.op with
   | .load ty a => (match ev t a with
    | .ptr b g p => (sLoad E (h.take k) ty (.ptr b g p)).map fun r => (r.1, h, lp, df)
    | _ => none)
   | _ => none)
  | 8 => (match o.op with
   | .indexAddr ty x i => (sIndexAddr E (h.take k) ty (ev t x) (ev t i)).map fun r => (r.1, h, lp, df)
   | _ => none)
  | _ => (match o.op with
   | .call c => (target E t c).bind fun g => (allSnap (hide k m h) g.2).bind fun ds => (dataC E ih g.1 ds).bind fun r =>
     bif r.flat then some (.im r, h, lp, df) else none
   | _ => none)
noncomputable def wrapX (o : Oper) (t : Tm) (r : V × Heap × List Rec × List (Nat × List V)) : St := ⟨putDst t o.dst r.1, r.2.1, r.2.2.1, r.2.2.2⟩
theorem opD_eq (keep : Bool) (ops : Array Oper) (k n i cls : Nat) (m : List Nat) (o : Oper) (t : Tm) (h : Heap) (lp : List Rec) (df : List (Nat × List V)) :
  opD E ih keep ops k n i cls m o ⟨t, h, lp, df⟩ = (opX E ih keep ops k n i cls m o t h lp df).map (wrapX o t) := by
 unfold opD opX
 simp only
 cases hg : guardOf ops t o.guard with
 | none => rfl
 | some b =>
  cases b with
  | false => rfl
  | true =>
   rcases cls with _ | _ | _ | _ | _ | _ | _ | _ | _ | _ | cls
   all_goals simp only
   ·simp only [Option.map_map]; rfl
   ·cases hnew : isNew E o.op
    ·simp only [cond_false]
     cases quietV E ih keep (llen h) t (hide k m h) o.op with
     | none => rfl
     | some r =>
      simp only [Option.bind_some]
      cases r.2 <;> rfl
    ·simp only [cond_true]
     cases hget h (k + i) with
     | none => simp only [Option.map_map]; rfl
     | some _ => rfl
   ·simp only [Option.map_map]; rfl
   ·unfold opV
    simp only [hg]
    cases hop : o.op with
    | defer c =>
     simp only
     cases c.callee with
     | value f =>
      simp only; cases ev t f <;> try rfl
      rename_i g a cap; simp only; cases isMark (g, a ++ (evs t c.args ++ cap)) <;> rfl
     | _ => rfl
    | call c =>
     simp only
     cases c.callee with
     | builtin b => simp only; cases lift lp (stepOp E keep (llen h) t h (.call c)) <;> rfl
     | _ => simp only; cases (goCall E ih (llen h) t c h lp) <;> rfl
    | _ =>
     simp only
     generalize lift lp _ = r; cases r <;> rfl
   ·cases o.op with
    | call c =>
     simp only
     cases target E t c with
     | none => rfl
     | some g =>
      simp only [Option.bind_some]
      cases inlineV E ih g.1 g.2 (only (reachIn h 0 64 (addNew 0 (refsL g.2) [])) h) lp with
      | none => rfl
      | some r => simp only [Option.bind_some]; cases sameH (only (reachIn h 0 64 (addNew 0 (refsL g.2) [])) h) (r.2.1.take (llen h)) <;> rfl
    | _ => rfl
   ·cases o.op with
    | call c =>
     simp only
     cases target E t c with
     | none => rfl
     | some g =>
      simp only [Option.bind_some]
      cases allSnap (hide k m h) g.2 with
      | none => rfl
      | some ds =>
       simp only [Option.bind_some]
       cases dataC E ih g.1 ds with
       | none => rfl
       | some r => simp only [Option.bind_some]; cases r.flat <;> rfl
    | _ => rfl
   ·cases o.op with
    | store ty a x =>
     simp only
     cases ev t a with
     | ptr b g p => simp only; cases (notAt t b m && isCell (hget h b)) with
      | true => simp only [cond_true, Option.map_map]; rfl
      | false => rfl
     | _ => rfl
    | _ => rfl
   ·cases o.op with
    | load ty a =>
     simp only
     cases ev t a with
     | ptr b g p => simp only [Option.map_map]; rfl
     | _ => rfl
    | _ => rfl
   ·cases o.op with
    | indexAddr ty x i => simp only [Option.map_map]; rfl
    | _ => rfl
   ·cases o.op with
    | store ty a x =>
     simp only
     cases ev t a with
     | ptr b g p => simp only; cases (Nat.ble k b && isCell (hget h b)) with
      | true => simp only [cond_true, Option.map_map]; rfl
      | false => rfl
     | _ => rfl
    | _ => rfl
   ·cases o.op with
    | call c =>
     simp only
     cases target E t c with
     | none => rfl
     | some g =>
      simp only [Option.bind_some]
      cases allSnap (hide k m h) g.2 with
      | none => rfl
      | some ds =>
       simp only [Option.bind_some]
       cases dataC E ih g.1 ds with
       | none => rfl
       | some r => simp only [Option.bind_some]; cases r.flat <;> rfl
    | _ => rfl
theorem notAt_congr {m : List Nat} {t t' : Tm} (h : Ag m t t') (b : Nat) : notAt t b m = notAt t' b m := by
 induction m with
 | nil => rfl
 | cons s m ih =>
  have e : ∀ t : Tm, notAt t b (s :: m) = (match t.get s with | .ptr c _ _ => bif Nat.beq b c then false else notAt t b m | _ => false) := fun _ => rfl
  rw [e, e, h s (by simp), ih fun x hx => h x (by simp [hx])]
theorem opX_congr {keep : Bool} {ops : Array Oper} {k n i cls : Nat} {m : List Nat} {o : Oper} {t t' : Tm} {h : Heap} {lp : List Rec} {df : List (Nat × List V)} (hag : Ag (reads ops o) t t') (hm : cls = 6 → Ag m t t') :
  opX E ih keep ops k n i cls m o t h lp df = opX E ih keep ops k n i cls m o t' h lp df := by
 have hev : ∀ x ∈ o.op.operands.toList, ev t x = ev t' x := fun x hx => hag.ev hx
 have htar : ∀ c, o.op = .call c → target E t c = target E t' c := fun c hop => target_congr fun x hx => hev x (by rw [hop]; exact hx)
 have hst := stepOp_congr (E := E) (keep := keep) (nid := llen h) (h := h) hev
 unfold opX
 rw [hag.guard]
 cases guardOf ops t' o.guard with
 | none => rfl
 | some b =>
  cases b with
  | false => rfl
  | true =>
   simp only
   split
   ·rw [stepOp_congr hev]
   ·rw [quietV_congr (nid := k + i) hev, quietV_congr (nid := llen h) hev]
   ·rw [simpleV_congr hev]
   ·split
    ·rename_i c hop
     split
     ·rename_i f hf
      have hc : ∀ x ∈ c.operands.toList, ev t x = ev t' x := fun x hx => hev x (by rw [hop]; exact hx)
      rw [evs_congr (t := t) (t' := t') fun x hx => hc x (by simp only [Call.operands, Array.toList_append, List.mem_append]; exact .inr hx), hc f (by simp [Call.operands, hf])]
     ·rfl
    ·split
     ·rename_i c hop
      rw [goCall_congr (t' := t') (fun x hx => hev x (by rw [hop]; exact hx)), hst]
     ·rw [hst]
   ·split
    ·rename_i c hop
     rw [htar c hop]
    ·rfl
   ·split
    ·rename_i ty a x hop
     have h1 : ev t a = ev t' a := hev a (by rw [hop]; simp [Op.operands])
     have h2 : ev t x = ev t' x := hev x (by rw [hop]; simp [Op.operands])
     have h3 : ∀ b, notAt t b m = notAt t' b m := notAt_congr (hm rfl)
     rw [h1, h2]
     simp only [h3]
    ·rfl
   ·split
    ·rename_i ty a x hop
     have h1 : ev t a = ev t' a := hev a (by rw [hop]; simp [Op.operands])
     have h2 : ev t x = ev t' x := hev x (by rw [hop]; simp [Op.operands])
     rw [h1, h2]
    ·rfl
   ·split
    ·rename_i ty a hop
     have h1 : ev t a = ev t' a := hev a (by rw [hop]; simp [Op.operands])
     rw [h1]
    ·rfl
   ·split
    ·rename_i ty x i' hop
     have h1 : ev t x = ev t' x := hev x (by rw [hop]; simp [Op.operands])
     have h2 : ev t i' = ev t' i' := hev i' (by rw [hop]; simp [Op.operands])
     rw [h1, h2]
    ·rfl
   ·split
    ·rename_i c hop
     rw [htar c hop]
    ·rfl
end
end Go.As
/-
 AS: operations that no order binds may change places.
-/
namespace Go.As
variable [Gh]
theorem heap_ext {a b : Heap} (hl : a.length = b.length) (h : ∀ i, hget a i = hget b i) : a = b := by
 refine List.ext_getElem? fun i => ?_
 by_cases hi : i < a.length
 ·have := h i
  rw [hget_eq, hget_eq, List.getElem?_eq_getElem hi, List.getElem?_eq_getElem (hl ▸ hi)] at this
  rw [List.getElem?_eq_getElem hi, List.getElem?_eq_getElem (hl ▸ hi)]
  simpa using this
 ·rw [List.getElem?_eq_none (by omega), List.getElem?_eq_none (by omega)]
theorem putBlk_len {h : Heap} {i : Nat} {r : Option Blk} (hi : i < h.length) : (putBlk h i r).length = h.length := by
 cases r with
 | none => rfl
 | some b => show (hput h i b).length = _; rw [hput_len, if_pos hi]
theorem hget_putBlk {h : Heap} {i : Nat} {r : Option Blk} (hi : i < h.length) (j : Nat) : hget (putBlk h i r) j = if j = i ∧ r ≠ none then r else hget h j := by
 cases r with
 | none => simp [putBlk]
 | some b => show hget (hput h i b) j = _; rw [hget_hput h i j b (by omega)]; simp
theorem putBlk_comm {h : Heap} {i j : Nat} {r s : Option Blk} (hi : i < h.length) (hj : j < h.length) (hij : i ≠ j) : putBlk (putBlk h i r) j s = putBlk (putBlk h j s) i r := by
 have h1 := putBlk_len (r := r) hi
 have h2 := putBlk_len (r := s) hj
 refine heap_ext ((putBlk_len (by omega)).trans (h1.trans (h2.symm.trans (putBlk_len (by omega)).symm))) fun b => ?_
 rw [hget_putBlk (by omega), hget_putBlk (by omega), hget_putBlk (by omega), hget_putBlk (by omega)]
 by_cases h3 : b = j ∧ s ≠ none
 ·have : ¬ (b = i ∧ r ≠ none) := fun h => hij (h.1.symm.trans h3.1)
  rw [if_pos h3, if_neg this]
  rw [if_pos h3]
 ·rw [if_neg h3]
  split
  ·rfl
  ·rfl
theorem hide_put {k i : Nat} {m : List Nat} {h : Heap} {r : Option Blk} (hi : k + i < h.length) (hm : r ≠ none → i ∈ m) : hide k m (putBlk h (k + i) r) = hide k m h := by
 refine heap_ext (by rw [hide_length, hide_length, putBlk_len hi]) fun b => ?_
 rw [hget_hide, hget_hide, hget_putBlk hi]
 by_cases h1 : ∃ j ∈ m, b = k + j
 ·rw [if_pos h1, if_pos h1]
 ·rw [if_neg h1, if_neg h1, if_neg]
  rintro ⟨e, hr⟩
  exact h1 ⟨i, hm hr, e⟩
theorem hide_take_put {k i n : Nat} {m : List Nat} {h : Heap} {r : Option Blk} (hi : k + i < h.length) (hm : r ≠ none → i ∈ m) : hide k m ((putBlk h (k + i) r).take n) = hide k m (h.take n) := by
 refine heap_ext (by rw [hide_length, hide_length, List.length_take, List.length_take, putBlk_len hi]) fun b => ?_
 rw [hget_hide, hget_hide, hget_take, hget_take, hget_putBlk hi]
 by_cases h1 : ∃ j ∈ m, b = k + j
 ·rw [if_pos h1, if_pos h1]
 ·have : ¬ (b = k + i ∧ r ≠ none) := fun h => h1 ⟨i, hm h.2, h.1⟩
  rw [if_neg h1, if_neg h1, if_neg this]
section
variable {F : Fence} {P : Program} {B : Nat} {X : Cx} {O : Nat → Addr → Prop} {w : World} {E : Env} {ih : Nat → Nat → Nat → Code → St → Option (Ex × St)}
 {keep : Bool} {ops : Array Oper} {k n i na nb ca cb cls : Nat} {m ma mb : List Nat} {o a b : Oper} {t : Tm} {h h1 h2 : Heap} {lp lp1 lp2 : List Rec} {df df1 df2 : List (Nat × List V)} {u v : V}
def Idle (E : Env) (ih : Nat → Nat → Nat → Code → St → Option (Ex × St)) (keep : Bool) (ops : Array Oper) (k n i cls : Nat) (m : List Nat) (o : Oper) (t : Tm) (v : V) : Prop := ∀ h lp df, opX E ih keep ops k n i cls m o t h lp df = some (v, h, lp, df)
theorem opX_off (hg : guardOf ops t o.guard = some false) : Idle E ih keep ops k n i cls m o t (.im (.tup [])) := fun h lp df => by unfold opX; rw [hg]
theorem opX_none (e : opX E ih keep ops k n i cls m o t h lp df = some (v, h1, lp1, df1)) : guardOf ops t o.guard = some false ∨ guardOf ops t o.guard = some true := by
 unfold opX at e
 cases hg : guardOf ops t o.guard with
 | none => rw [hg] at e; cases e
 | some b => cases b <;> simp
theorem opX_idle (e : opX E ih keep ops k n i cls m o t h lp df = some (v, h1, lp1, df1)) (hc : guardOf ops t o.guard = some false ∨ cls = 0) : h1 = h ∧ lp1 = lp ∧ df1 = df ∧ Idle E ih keep ops k n i cls m o t v := by
 rcases opX_none e with hg | hg
 ·have := opX_off (E := E) (ih := ih) (keep := keep) (k := k) (n := n) (i := i) (cls := cls) (m := m) hg
  rw [this h lp df] at e
  cases e
  exact ⟨rfl, rfl, rfl, this⟩
 ·obtain rfl := hc.resolve_left (by rw [hg]; simp)
  unfold opX at e
  rw [hg] at e
  simp only [Option.map_eq_some_iff] at e
  obtain ⟨r, hr, e⟩ := e
  cases e
  refine ⟨rfl, rfl, rfl, fun h lp df => ?_⟩
  unfold opX
  rw [hg]
  simp only [hr, Option.map_some]
theorem opX_simple (hg : guardOf ops t o.guard = some true) (e : opX E ih keep ops k n i 2 m o t h lp df = some (v, h1, lp1, df1)) : h1 = h ∧ lp1 = lp ∧ df1 = df ∧
  ∀ h' lp' df', hide k m (h'.take (k + n)) = hide k m (h.take (k + n)) → opX E ih keep ops k n i 2 m o t h' lp' df' = some (v, h', lp', df') := by
 unfold opX at e
 rw [hg] at e
 simp only [Option.map_eq_some_iff] at e
 obtain ⟨r, hr, e⟩ := e
 cases e
 refine ⟨rfl, rfl, rfl, fun h lp df hh => ?_⟩
 unfold opX
 rw [hg]
 simp only [hh, hr, Option.map_some]
theorem opX_quiet (hc : cls = 1 ∨ cls = 2 ∨ cls = 5) (hg : guardOf ops t o.guard = some true) (e : opX E ih keep ops k n i cls m o t h lp df = some (v, h1, lp1, df1)) :
  lp1 = lp ∧ df1 = df ∧ ∃ r, h1 = putBlk h (k + i) r ∧ (r ≠ none → (isNew E o.op && Nat.beq cls 1) = true) ∧ ((isNew E o.op && Nat.beq cls 1) = true → hget h (k + i) = none) ∧
  ∀ h' lp' df', h'.length = h.length → hide k m h' = hide k m h → hide k m (h'.take (k + n)) = hide k m (h.take (k + n)) → ((isNew E o.op && Nat.beq cls 1) = true → hget h' (k + i) = none) →
   opX E ih keep ops k n i cls m o t h' lp' df' = some (v, putBlk h' (k + i) r, lp', df') := by
 rcases hc with rfl | rfl | rfl
 ·have e0 := e
  unfold opX at e
  rw [hg] at e
  simp only at e
  cases hnew : isNew E o.op with
  | true =>
   rw [hnew, cond_true] at e
   split at e
   ·rename_i hn
    simp only [Option.map_eq_some_iff] at e
    obtain ⟨r, hr, e⟩ := e
    cases e
    refine ⟨rfl, rfl, r.2, rfl, fun _ => rfl, fun _ => hn, fun h' lp' df' hl hv _ hn' => ?_⟩
    unfold opX
    rw [hg]
    simp only [hnew, cond_true, hn' rfl, hv, hr, Option.map_some]
   ·cases e
  | false =>
   rw [hnew, cond_false] at e
   simp only [Option.bind_eq_some_iff] at e
   obtain ⟨r, hr, e⟩ := e
   split at e
   ·rename_i hn
    cases e
    refine ⟨rfl, rfl, none, rfl, fun h => absurd rfl h, fun h => by simp at h, fun h' lp' df' hl hv _ _ => ?_⟩
    unfold opX
    rw [hg]
    simp only [hnew, cond_false, llen_eq, hl, hv]
    simp only [llen_eq] at hr
    rw [hr]
    simp only [Option.bind_some, hn]
    rfl
   ·cases e
 ·obtain ⟨rfl, rfl, rfl, hx⟩ := opX_simple hg e
  exact ⟨rfl, rfl, none, rfl, fun h => absurd rfl h, fun h => by simp at h, fun h' lp' df' _ _ ht _ => hx h' lp' df' ht⟩
 ·unfold opX at e
  rw [hg] at e
  simp only at e
  split at e
  ·rename_i c hop
   simp only [Option.bind_eq_some_iff] at e
   obtain ⟨g, hg', ds, hds, r, hr, e⟩ := e
   cases hf : r.flat with
   | false => rw [hf] at e; cases e
   | true =>
    rw [hf, cond_true] at e
    cases e
    refine ⟨rfl, rfl, none, rfl, fun h => absurd rfl h, fun h => by simp at h, fun h' lp' df' _ hv _ _ => ?_⟩
    unfold opX
    rw [hg]
    simp only [hop, hg', Option.bind_some, hv, hds, hr, hf, cond_true]
    rfl
  ·cases e
theorem opX_apart (hg : guardOf ops t o.guard = some true) (e : opX E ih keep ops k n i 4 m o t h lp df = some (v, h1, lp1, df1)) : ∃ x, h1 = h ++ x := by
 unfold opX at e
 rw [hg] at e
 simp only at e
 split at e
 ·simp only [Option.bind_eq_some_iff] at e
  obtain ⟨g, _, r, _, e⟩ := e
  obtain ⟨_, e⟩ := bif_some e
  cases e
  exact ⟨_, rfl⟩
 ·cases e
theorem beq_or3 {c : Nat} (h : quietC c = true) : c = 1 ∨ c = 2 ∨ c = 5 := by
 unfold quietC at h
 simpa only [Bool.or_eq_true, Nat.beq_eq] using h
theorem opX_old (hg : guardOf ops t o.guard = some true) (e : opX E ih keep ops k n i 7 m o t h lp df = some (v, h1, lp1, df1)) : h1 = h ∧ lp1 = lp ∧ df1 = df ∧ ∃ ty a b g p, o.op = .load ty a ∧ ev t a = .ptr b g p ∧
  ∀ h' lp' df', hget (h'.take k) b = hget (h.take k) b → opX E ih keep ops k n i 7 m o t h' lp' df' = some (v, h', lp', df') := by
 unfold opX at e
 rw [hg] at e
 simp only at e
 split at e
 ·rename_i ty a hop
  split at e
  ·rename_i b g p hev
   obtain ⟨r, hr, e⟩ := Option.map_eq_some_iff.1 e
   cases e
   refine ⟨rfl, rfl, rfl, ty, a, b, g, p, hop, hev, fun h' lp' df' hh => ?_⟩
   unfold opX
   rw [hg]
   simp only [hop, hev]
   have hl : loadV (h'.take k) b g p = loadV (h.take k) b g p := by unfold loadV; rw [hh]
   unfold sLoad at hr ⊢
   obtain ⟨ti, hti, hr⟩ := Option.bind_eq_some_iff.1 hr
   simp only [hti, Option.bind_some, hl]
   obtain ⟨u, hu, hr⟩ := Option.bind_eq_some_iff.1 hr
   obtain ⟨hok, hr⟩ := bif_some hr
   cases hr
   simp only [hu, Option.bind_some, hok, cond_true, Option.map_some]
  ·cases e
 ·cases e
theorem notAt_ne {m : List Nat} {b s c g : Nat} {p : List (Nat × Nat)} (h : notAt t b m = true) (hs : s ∈ m) (hg : t.get s = .ptr c g p) : c ≠ b := by
 induction m with
 | nil => cases hs
 | cons x m ih =>
  have e : notAt t b (x :: m) = (match t.get x with | .ptr c _ _ => bif Nat.beq b c then false else notAt t b m | _ => false) := rfl
  rw [e] at h
  split at h
  ·rename_i c' g' p' hx
   cases hb : Nat.beq b c' with
   | true => rw [hb] at h; cases h
   | false =>
    rw [hb, cond_false] at h
    rcases List.mem_cons.1 hs with rfl | hs
    ·rw [hg] at hx; cases hx
     exact fun he => by rw [he, Nat.beq_refl] at hb; cases hb
    ·exact ih h hs
  ·cases h
theorem opX_store (hg : guardOf ops t o.guard = some true) (e : opX E ih keep ops k n i 6 m o t h lp df = some (v, h1, lp1, df1)) : lp1 = lp ∧ df1 = df ∧ ∃ b x, b < h.length ∧ h1 = hput h b x ∧ notAt t b m = true ∧ isCell (hget h b) = true ∧ isCell (some x) = true ∧
  ∀ lp' df', opX E ih keep ops k n i 6 m o t h lp' df' = some (v, h1, lp', df') := by
 unfold opX at e
 rw [hg] at e
 simp only at e
 split at e
 ·rename_i ty a x hop
  split at e
  ·rename_i b g p hev
   obtain ⟨hc, e⟩ := bif_some e
   obtain ⟨r, hr, e⟩ := Option.map_eq_some_iff.1 e
   cases e
   have hc2 := hc
   rw [Bool.and_eq_true] at hc
   have hr2 := hr
   unfold sStore at hr
   obtain ⟨ti, hti, hr⟩ := Option.bind_eq_some_iff.1 hr
   obtain ⟨hok, hr⟩ := bif_some hr
   obtain ⟨h', hs, hr⟩ := Option.map_eq_some_iff.1 hr
   cases hr
   unfold isCell at hc
   cases hb : hget h b with
   | none => rw [hb] at hc; cases hc.2
   | some bk =>
    have hlt := hget_lt hb
    rw [hb] at hc
    cases bk <;> simp only at hc <;> try (cases hc.2; done)
    unfold storeV at hs
    rw [hb] at hs
    obtain ⟨_, hs⟩ := bif_some hs
    obtain ⟨v', _, hs⟩ := Option.map_eq_some_iff.1 hs
    subst hs
    refine ⟨rfl, rfl, b, _, hlt, rfl, hc.1, by rw [hb]; rfl, rfl, fun lp' df' => ?_⟩
    unfold opX
    rw [hg]
    simp only [hop, hev, hc2, cond_true, hr2, Option.map_some]
  ·cases e
 ·cases e
theorem opX_own (hg : guardOf ops t o.guard = some true) (e : opX E ih keep ops k n i 9 m o t h lp df = some (v, h1, lp1, df1)) : lp1 = lp ∧ df1 = df ∧ ∃ b x, k ≤ b ∧ b < h.length ∧ h1 = hput h b x := by
 unfold opX at e
 rw [hg] at e
 simp only at e
 split at e
 ·rename_i ty a x hop
  split at e
  ·rename_i b g p hev
   obtain ⟨hc, e⟩ := bif_some e
   obtain ⟨r, hr, e⟩ := Option.map_eq_some_iff.1 e
   cases e
   rw [Bool.and_eq_true] at hc
   unfold sStore at hr
   obtain ⟨ti, hti, hr⟩ := Option.bind_eq_some_iff.1 hr
   obtain ⟨hok, hr⟩ := bif_some hr
   obtain ⟨h', hs, hr⟩ := Option.map_eq_some_iff.1 hr
   cases hr
   unfold isCell at hc
   cases hb : hget h b with
   | none => rw [hb] at hc; cases hc.2
   | some bk =>
    have hlt := hget_lt hb
    rw [hb] at hc
    cases bk <;> simp only at hc <;> try (cases hc.2; done)
    unfold storeV at hs
    rw [hb] at hs
    obtain ⟨_, hs⟩ := bif_some hs
    obtain ⟨v', _, hs⟩ := Option.map_eq_some_iff.1 hs
    subst hs
    exact ⟨rfl, rfl, b, _, ble_of hc.1, hlt, rfl⟩
  ·cases e
 ·cases e
theorem hget_take_own {b : Nat} {x : Blk} (hk : k ≤ b) (hb : b < h.length) (c : Nat) : hget ((hput h b x).take k) c = hget (h.take k) c := by
 rw [hget_take, hget_take, hget_hput h b c x (Nat.le_of_lt hb)]
 by_cases hc : c < k
 ·rw [if_pos hc, if_pos hc, if_neg (by omega)]
 ·rw [if_neg hc, if_neg hc]
theorem hget_take_put {b c : Nat} {x : Blk} (hb : b < h.length) (hne : c ≠ b) : hget ((hput h b x).take k) c = hget (h.take k) c := by
 rw [hget_take, hget_take, hget_hput h b c x (Nat.le_of_lt hb), if_neg hne]
theorem hget_take_putBlk {j c : Nat} {r : Option Blk} (hj : r ≠ none → k + j < h.length) : hget ((putBlk h (k + j) r).take k) c = hget (h.take k) c := by
 cases r with
 | none => rfl
 | some x =>
  rw [hget_take, hget_take]
  split
  ·show hget (hput h (k + j) x) c = _
   rw [hget_hput h _ c x (Nat.le_of_lt (hj (by simp))), if_neg (by omega)]
  ·rfl
theorem inM_slot {m : List Nat} {o : Oper} (hi : inM m o = true) : ∃ ty s, o.op = .load ty (.tmp s) ∧ s ∈ m := by
 unfold inM at hi
 split at hi
 ·rename_i ty s hop; exact ⟨ty, s, hop, hasN_mem hi⟩
 ·cases hi
theorem sizeIs_of {h h' : Heap} (hh : ∀ b, hget h' b = hget h b ∨ (isCell (hget h' b) = true ∧ isCell (hget h b) = true)) (b sz : Nat) : sizeIs h' b sz = sizeIs h b sz := by
 unfold sizeIs
 rcases hh b with e | ⟨e1, e2⟩
 ·rw [e]
 ·unfold isCell at e1 e2
  split at e1
  ·rename_i h3
   split at e2
   ·rename_i h4; rw [h3, h4]
   ·cases e2
  ·cases e1
theorem size_put {b : Nat} {x : Blk} (hb : b < h.length) (h1 : isCell (hget h b) = true) (h2 : isCell (some x) = true) (c sz : Nat) : sizeIs ((hput h b x).take k) c sz = sizeIs (h.take k) c sz := by
 refine sizeIs_of (fun c => ?_) c sz
 rw [hget_take, hget_take, hget_hput h b c x (Nat.le_of_lt hb)]
 by_cases hc : c < k
 ·rw [if_pos hc, if_pos hc]
  by_cases hcb : c = b
  ·rw [if_pos hcb]; subst hcb; exact .inr ⟨h2, h1⟩
  ·rw [if_neg hcb]; exact .inl rfl
 ·rw [if_neg hc, if_neg hc]; exact .inl rfl
theorem size_putBlk {j : Nat} {r : Option Blk} (hj : r ≠ none → k + j < h.length) (c sz : Nat) : sizeIs ((putBlk h (k + j) r).take k) c sz = sizeIs (h.take k) c sz := sizeIs_of (fun c => .inl (hget_take_putBlk hj)) c sz
theorem opX_place (hg : guardOf ops t o.guard = some true) (e : opX E ih keep ops k n i 8 m o t h lp df = some (v, h1, lp1, df1)) : h1 = h ∧ lp1 = lp ∧ df1 = df ∧
  ∀ h' lp' df', (∀ b sz, sizeIs (h'.take k) b sz = sizeIs (h.take k) b sz) → opX E ih keep ops k n i 8 m o t h' lp' df' = some (v, h', lp', df') := by
 unfold opX at e
 rw [hg] at e
 simp only at e
 split at e
 ·rename_i ty x i' hop
  obtain ⟨r, hr, e⟩ := Option.map_eq_some_iff.1 e
  cases e
  refine ⟨rfl, rfl, rfl, fun h' lp' df' hh => ?_⟩
  unfold opX
  rw [hg]
  simp only [hop]
  have key : ∀ (x i : V) (r : V × Heap), sIndexAddr E (h.take k) ty x i = some r → ∃ r', sIndexAddr E (h'.take k) ty x i = some r' ∧ r'.1 = r.1 := fun x i r hr => by
   unfold sIndexAddr at hr ⊢
   split at hr
   ·rename_i ki n'
    obtain ⟨ti, hti, hr⟩ := Option.bind_eq_some_iff.1 hr
    simp only [hti, Option.bind_some]
    split at hr
    ·rename_i el hk; try rw [hk]
     split at hr
     ·rename_i b g off len lim
      obtain ⟨te, hte, hr⟩ := Option.bind_eq_some_iff.1 hr
      simp only [hte, Option.bind_some, hh]
      obtain ⟨hc, hr⟩ := bif_some hr
      cases hr
      simp only [hc, cond_true]
      exact ⟨_, rfl, rfl⟩
     ·unfold elemRef at hr ⊢
      obtain ⟨te, hte, hr⟩ := Option.bind_eq_some_iff.1 hr
      simp only [hte, Option.bind_some]
      obtain ⟨hc, hr⟩ := bif_some hr
      obtain ⟨d, hd, hr⟩ := Option.bind_eq_some_iff.1 hr
      obtain ⟨hc2, hr⟩ := bif_some hr
      cases hr
      simp only [hc, cond_true, hd, Option.bind_some, hc2]
      exact ⟨_, rfl, rfl⟩
     ·unfold elemRef at hr ⊢
      obtain ⟨te, hte, hr⟩ := Option.bind_eq_some_iff.1 hr
      simp only [hte, Option.bind_some]
      obtain ⟨hc, hr⟩ := bif_some hr
      obtain ⟨d, hd, hr⟩ := Option.bind_eq_some_iff.1 hr
      obtain ⟨hc2, hr⟩ := bif_some hr
      cases hr
      simp only [hc, cond_true, hd, Option.bind_some, hc2]
      exact ⟨_, rfl, rfl⟩
     ·cases hr
    ·rename_i m' el hk; try rw [hk]
     obtain ⟨te, hte, hr⟩ := Option.bind_eq_some_iff.1 hr
     simp only [hte, Option.bind_some]
     obtain ⟨hc, hr⟩ := bif_some hr
     simp only [hc, cond_true]
     split at hr
     ·cases hr; exact ⟨_, rfl, rfl⟩
     ·split at hr
      ·rename_i d' hd'
       obtain ⟨hc2, hr⟩ := bif_some hr
       cases hr
       simp only [hd', hc2, cond_true]
       exact ⟨_, rfl, rfl⟩
      ·cases hr
     ·cases hr
    ·cases hr
   ·cases hr
  obtain ⟨r', h1, h2⟩ := key _ _ _ hr
  rw [h1]
  simp only [Option.map_some, h2]
 ·cases e
def Apt67 (a b : Oper) (ca cb : Nat) (ma mb : List Nat) : Prop :=
 (ca = 9 ∧ (cb = 7 ∨ cb = 8)) ∨ (cb = 9 ∧ (ca = 7 ∨ ca = 8)) ∨ (ca = 8 ∧ ((cb = 1 ∨ cb = 2 ∨ cb = 5) ∨ cb = 7 ∨ cb = 8 ∨ cb = 6)) ∨ (cb = 8 ∧ ((ca = 1 ∨ ca = 2 ∨ ca = 5) ∨ ca = 7 ∨ ca = 6)) ∨ (ca = 7 ∧ ((cb = 1 ∨ cb = 2 ∨ cb = 5) ∨ cb = 7)) ∨ ((ca = 1 ∨ ca = 2 ∨ ca = 5) ∧ cb = 7) ∨ (ca = 6 ∧ cb = 7 ∧ inM ma b = true) ∨ (ca = 7 ∧ cb = 6 ∧ inM mb a = true)
theorem apart67_ok (hh : apart67 a b ca cb ma mb = true) : Apt67 a b ca cb ma mb := by
 unfold apart67 at hh
 simp only [Bool.or_eq_true, Bool.and_eq_true, Nat.beq_eq] at hh
 rcases hh with ⟨h1, h2⟩ | ⟨h1, h2⟩ | ⟨h1, h2⟩ | ⟨h1, h2⟩ | ⟨h1, h2⟩ | ⟨h1, h2⟩ | h | h
 ·exact .inl ⟨h1, h2⟩
 ·exact .inr (.inl ⟨h1, h2⟩)
 ·exact .inr (.inr (.inl ⟨h1, h2.imp beq_or3 id⟩))
 ·exact .inr (.inr (.inr (.inl ⟨h1, h2.imp beq_or3 id⟩)))
 ·exact .inr (.inr (.inr (.inr (.inl ⟨h1, h2.imp beq_or3 id⟩))))
 ·exact .inr (.inr (.inr (.inr (.inr (.inl ⟨beq_or3 h1, h2⟩)))))
 ·exact .inr (.inr (.inr (.inr (.inr (.inr (.inl h))))))
 ·exact .inr (.inr (.inr (.inr (.inr (.inr (.inr h))))))
def Apt (E : Env) (a b : Oper) (ca cb : Nat) (ma mb : List Nat) (na nb : Nat) : Prop :=
 ca = 0 ∨ cb = 0 ∨ Apt67 a b ca cb ma mb ∨ (ca = 4 ∧ cb = 2) ∨ (ca = 2 ∧ cb = 4) ∨ ((ca = 1 ∨ ca = 2 ∨ ca = 5) ∧ (cb = 1 ∨ cb = 2 ∨ cb = 5) ∧ ((isNew E a.op && Nat.beq ca 1) = true → na ∈ mb) ∧ ((isNew E b.op && Nat.beq cb 1) = true → nb ∈ ma))
theorem apartC_split (hap : apartC E ops a b ca cb ma mb na nb = true) : (apartS ops a b = true ∧ (ca = 6 → dstNot b ma = true) ∧ (cb = 6 → dstNot a mb = true)) ∧ Apt E a b ca cb ma mb na nb := by
 unfold apartC at hap
 rw [Bool.and_eq_true] at hap
 have hap1 := hap.1
 rw [Bool.and_eq_true, Bool.and_eq_true] at hap1
 have hd : ∀ {c : Nat} {x : Bool}, (!Nat.beq c 6 || x) = true → c = 6 → x = true := fun {c x} hh hc => by subst hc; simpa using hh
 refine ⟨⟨hap1.1, hd hap1.2.1, hd hap1.2.2⟩, ?_⟩
 have := hap.2
 simp only [Bool.or_eq_true, Bool.and_eq_true, Nat.beq_eq, Bool.not_eq_true'] at this
 rcases this with h | h | h | h | h | h
 ·exact .inl h
 ·exact .inr (.inl h)
 ·exact .inr (.inr (.inl (apart67_ok h)))
 ·exact .inr (.inr (.inr (.inl h)))
 ·exact .inr (.inr (.inr (.inr (.inl h))))
 ·refine .inr (.inr (.inr (.inr (.inr ⟨h.1, h.2.1, fun hn => ?_, fun hn => ?_⟩))))
  ·rcases h.2.2.1 with h | h
   ·rw [hn] at h; cases h
   ·exact hasN_mem h
  ·rcases h.2.2.2 with h | h
   ·rw [hn] at h; cases h
   ·exact hasN_mem h
theorem opX_swap (hap : Apt E a b ca cb ma mb na nb) (hlen : ca = 0 ∨ cb = 0 ∨ k + n ≤ h.length) (hna : isNew E a.op = true → na < n ∧ na ≠ nb) (hnb : isNew E b.op = true → nb < n)
  (e1 : opX E ih keep ops k n na ca ma a t h lp df = some (v, h1, lp1, df1)) (e2 : opX E ih keep ops k n nb cb mb b t h1 lp1 df1 = some (u, h2, lp2, df2)) :
  ∃ h' lp' df', opX E ih keep ops k n nb cb mb b t h lp df = some (u, h', lp', df') ∧ opX E ih keep ops k n na ca ma a t h' lp' df' = some (v, h2, lp2, df2) := by
 by_cases hia : guardOf ops t a.guard = some false ∨ ca = 0
 ·obtain ⟨rfl, rfl, rfl, hi⟩ := opX_idle e1 hia
  exact ⟨_, _, _, e2, hi _ _ _⟩
 by_cases hib : guardOf ops t b.guard = some false ∨ cb = 0
 ·obtain ⟨rfl, rfl, rfl, hi⟩ := opX_idle e2 hib
  exact ⟨_, _, _, hi _ _ _, e1⟩
 rw [not_or] at hia hib
 have hga := (opX_none e1).resolve_left hia.1
 have hgb := (opX_none e2).resolve_left hib.1
 have hkn := (hlen.resolve_left hia.2).resolve_left hib.2
 clear hlen
 rcases (hap.resolve_left hia.2).resolve_left hib.2 with h67 | ⟨rfl, rfl⟩ | ⟨rfl, rfl⟩ | ⟨hqa, hqb, hma, hmb⟩
 ·have hnew : ∀ {o : Oper} {c : Nat}, (isNew E o.op && Nat.beq c 1) = true → isNew E o.op = true := fun h => by rw [Bool.and_eq_true] at h; exact h.1
  rcases h67 with ⟨rfl, rfl | rfl⟩ | ⟨rfl, rfl | rfl⟩ | ⟨rfl, hqb | rfl | rfl | rfl⟩ | ⟨rfl, hqa | rfl | rfl⟩ | ⟨rfl, hqb | rfl⟩ | ⟨hqa, rfl⟩ | ⟨rfl, rfl, hin⟩ | ⟨rfl, rfl, hin⟩
  ·obtain ⟨rfl, rfl, b1, x, hkb, hlt, rfl⟩ := opX_own hga e1
   obtain ⟨rfl, rfl, rfl, ty, a0, b0, g, p, hop, hev, hb⟩ := opX_old hgb e2
   exact ⟨_, _, _, hb _ _ _ (hget_take_own hkb hlt _).symm, e1⟩
  ·obtain ⟨rfl, rfl, b1, x, hkb, hlt, rfl⟩ := opX_own hga e1
   obtain ⟨rfl, rfl, rfl, hb⟩ := opX_place hgb e2
   exact ⟨_, _, _, hb _ _ _ (sizeIs_of fun c => .inl (hget_take_own hkb hlt c).symm), e1⟩
  ·obtain ⟨rfl, rfl, rfl, ty, a0, b0, g, p, hop, hev, ha⟩ := opX_old hga e1
   obtain ⟨rfl, rfl, b1, x, hkb, hlt, rfl⟩ := opX_own hgb e2
   exact ⟨_, _, _, e2, ha _ _ _ (hget_take_own hkb hlt _)⟩
  ·obtain ⟨rfl, rfl, rfl, ha⟩ := opX_place hga e1
   obtain ⟨rfl, rfl, b1, x, hkb, hlt, rfl⟩ := opX_own hgb e2
   exact ⟨_, _, _, e2, ha _ _ _ (sizeIs_of fun c => .inl (hget_take_own hkb hlt c))⟩
  ·obtain ⟨rfl, rfl, rfl, ha⟩ := opX_place hga e1
   obtain ⟨rfl, rfl, s, rfl, hsb, _, _⟩ := opX_quiet hqb hgb e2
   exact ⟨_, _, _, e2, ha _ _ _ (size_putBlk fun hs => by have := hnb (hnew (hsb hs)); omega)⟩
  ·obtain ⟨rfl, rfl, rfl, ha⟩ := opX_place hga e1
   obtain ⟨rfl, rfl, rfl, _⟩ := opX_old hgb e2
   exact ⟨_, _, _, e2, e1⟩
  ·obtain ⟨rfl, rfl, rfl, ha⟩ := opX_place hga e1
   obtain ⟨rfl, rfl, rfl, _⟩ := opX_place hgb e2
   exact ⟨_, _, _, e2, e1⟩
  ·obtain ⟨rfl, rfl, rfl, ha⟩ := opX_place hga e1
   obtain ⟨rfl, rfl, b1, x, hlt, rfl, _, hc1, hc2, _⟩ := opX_store hgb e2
   exact ⟨_, _, _, e2, ha _ _ _ (size_put hlt hc1 hc2)⟩
  ·obtain ⟨rfl, rfl, r, rfl, hra, _, _⟩ := opX_quiet hqa hga e1
   obtain ⟨rfl, rfl, rfl, hb⟩ := opX_place hgb e2
   exact ⟨_, _, _, hb _ _ _ (fun c sz => (size_putBlk (fun hs => by have := (hna (hnew (hra hs))).1; omega) c sz).symm), e1⟩
  ·obtain ⟨rfl, rfl, rfl, _⟩ := opX_old hga e1
   obtain ⟨rfl, rfl, rfl, hb⟩ := opX_place hgb e2
   exact ⟨_, _, _, e2, e1⟩
  ·obtain ⟨rfl, rfl, b1, x, hlt, rfl, _, hc1, hc2, _⟩ := opX_store hga e1
   obtain ⟨rfl, rfl, rfl, hb⟩ := opX_place hgb e2
   exact ⟨_, _, _, hb _ _ _ (fun c sz => (size_put hlt hc1 hc2 c sz).symm), e1⟩
  ·obtain ⟨rfl, rfl, rfl, ty, a0, b0, g, p, _, _, ha⟩ := opX_old hga e1
   obtain ⟨rfl, rfl, s, rfl, hsb, _, _⟩ := opX_quiet hqb hgb e2
   exact ⟨_, _, _, e2, ha _ _ _ (hget_take_putBlk fun hs => by have := hnb (hnew (hsb hs)); omega)⟩
  ·obtain ⟨rfl, rfl, rfl, ty, a0, b0, g, p, _, _, ha⟩ := opX_old hga e1
   obtain ⟨rfl, rfl, rfl, _, _, _, _, _, _, _, hb⟩ := opX_old hgb e2
   exact ⟨_, _, _, e2, e1⟩
  ·obtain ⟨rfl, rfl, r, rfl, hra, _, _⟩ := opX_quiet hqa hga e1
   obtain ⟨rfl, rfl, rfl, _, _, _, _, _, _, _, hb⟩ := opX_old hgb e2
   exact ⟨_, _, _, hb _ _ _ (hget_take_putBlk fun hs => by have := (hna (hnew (hra hs))).1; omega).symm, e1⟩
  ·obtain ⟨rfl, rfl, b1, x, hlt, rfl, hnot, _, _, _⟩ := opX_store hga e1
   obtain ⟨rfl, rfl, rfl, ty, a0, b0, g, p, hop, hev, hb⟩ := opX_old hgb e2
   obtain ⟨ty', s, hop', hs⟩ := inM_slot hin
   rw [hop] at hop'; cases hop'
   have hne := notAt_ne hnot hs hev
   exact ⟨_, _, _, hb _ _ _ (hget_take_put hlt hne).symm, e1⟩
  ·obtain ⟨rfl, rfl, rfl, ty, a0, b0, g, p, hop, hev, ha⟩ := opX_old hga e1
   obtain ⟨rfl, rfl, b1, x, hlt, rfl, hnot, _, _, _⟩ := opX_store hgb e2
   obtain ⟨ty', s, hop', hs⟩ := inM_slot hin
   rw [hop] at hop'; cases hop'
   have hne := notAt_ne hnot hs hev
   exact ⟨_, _, _, e2, ha _ _ _ (hget_take_put hlt hne)⟩
 ·obtain ⟨x, rfl⟩ := opX_apart hga e1
  obtain ⟨rfl, rfl, rfl, hx⟩ := opX_simple hgb e2
  refine ⟨_, _, _, hx _ _ _ ?_, e1⟩
  rw [List.take_append_of_le_length hkn]
 ·obtain ⟨rfl, rfl, rfl, hx⟩ := opX_simple hga e1
  obtain ⟨x, rfl⟩ := opX_apart hgb e2
  refine ⟨_, _, _, e2, hx _ _ _ ?_⟩
  rw [List.take_append_of_le_length hkn]
 ·obtain ⟨rfl, rfl, r, rfl, hra, hpa, ha⟩ := opX_quiet hqa hga e1
  obtain ⟨rfl, rfl, s, rfl, hsb, hpb, hb⟩ := opX_quiet hqb hgb e2
  have hnew : ∀ {o : Oper} {c : Nat}, (isNew E o.op && Nat.beq c 1) = true → isNew E o.op = true := fun h => by rw [Bool.and_eq_true] at h; exact h.1
  by_cases hr : r = none
  ·subst hr
   have hb' := hb h lp2 df2 rfl rfl rfl hpb
   refine ⟨_, _, _, hb', ?_⟩
   by_cases hs : s = none
   ·subst hs; exact e1
   ·have hsn := hsb hs
    have hlb : k + nb < h.length := by have := hnb (hnew hsn); omega
    refine (ha (putBlk h (k + nb) s) lp2 df2 (putBlk_len hlb) (hide_put hlb fun _ => hmb hsn) (hide_take_put hlb fun _ => hmb hsn) fun hh => ?_).trans rfl
    rw [hget_putBlk hlb, if_neg (fun e => (hna (hnew hh)).2 (by omega))]
    exact hpa hh
  ·have hrn := hra hr
   have hla : k + na < h.length := by have := (hna (hnew hrn)).1; omega
   have hab : na ≠ nb := (hna (hnew hrn)).2
   have hb' := hb h lp2 df2 (putBlk_len hla).symm (hide_put hla fun _ => hma hrn).symm (hide_take_put hla fun _ => hma hrn).symm fun hh => by
    have := hpb hh
    rw [hget_putBlk hla, if_neg (fun e => hab (by omega))] at this
    exact this
   refine ⟨_, _, _, hb', ?_⟩
   by_cases hs : s = none
   ·subst hs; exact e1
   ·have hsn := hsb hs
    have hlb : k + nb < h.length := by have := hnb (hnew hsn); omega
    rw [putBlk_comm hla hlb (by omega)]
    refine ha (putBlk h (k + nb) s) lp2 df2 (putBlk_len hlb) (hide_put hlb fun _ => hmb hsn) (hide_take_put hlb fun _ => hmb hsn) fun hh => ?_
    rw [hget_putBlk hlb, if_neg (fun e => hab (by omega))]
    exact hpa hh
theorem opX_len (hc : cls = 0 ∨ cls = 1 ∨ cls = 2 ∨ cls = 4 ∨ cls = 5 ∨ cls = 6 ∨ cls = 7 ∨ cls = 8 ∨ cls = 9) (hi : isNew E o.op = true → i < n) (hkn : k + n ≤ h.length) (e : opX E ih keep ops k n i cls m o t h lp df = some (v, h1, lp1, df1)) : k + n ≤ h1.length := by
 by_cases hid : guardOf ops t o.guard = some false ∨ cls = 0
 ·obtain ⟨rfl, _⟩ := opX_idle e hid; exact hkn
 rw [not_or] at hid
 have hg := (opX_none e).resolve_left hid.1
 by_cases h4 : cls = 4
 ·subst h4
  obtain ⟨x, rfl⟩ := opX_apart hg e
  simp; omega
 by_cases h6 : cls = 6
 ·subst h6
  obtain ⟨_, _, b, x, hlt, rfl, _⟩ := opX_store hg e
  rw [hput_len, if_pos hlt]; exact hkn
 by_cases h7 : cls = 7
 ·subst h7
  obtain ⟨rfl, _⟩ := opX_old hg e
  exact hkn
 by_cases h8 : cls = 8
 ·subst h8
  obtain ⟨rfl, _⟩ := opX_place hg e
  exact hkn
 by_cases h9 : cls = 9
 ·subst h9
  obtain ⟨_, _, b, x, _, hlt, rfl⟩ := opX_own hg e
  rw [hput_len, if_pos hlt]; exact hkn
 ·obtain ⟨_, _, r, rfl, hr, _⟩ := opX_quiet (by omega) hg e
  cases r with
  | none => exact hkn
  | some b =>
   have := hr (by simp)
   rw [Bool.and_eq_true] at this
   have := hi this.1
   rw [putBlk_len (by omega)]; exact hkn
theorem opD_swap {st s1 s2 : St} (hap : apartC E ops a b ca cb ma mb na nb = true) (hlen : ca = 0 ∨ cb = 0 ∨ k + n ≤ st.h.length) (hna : isNew E a.op = true → na < n ∧ na ≠ nb) (hnb : isNew E b.op = true → nb < n)
  (e1 : opD E ih keep ops k n na ca ma a st = some s1) (e2 : opD E ih keep ops k n nb cb mb b s1 = some s2) :
  ∃ s', opD E ih keep ops k n nb cb mb b st = some s' ∧ opD E ih keep ops k n na ca ma a s' = some s2 := by
 obtain ⟨⟨hS, hda, hdb⟩, hC⟩ := apartC_split hap
 have hAg : ∀ {o : Oper} {m : List Nat} {t : Tm} {v : V}, dstNot o m = true → Ag m t (putDst t o.dst v) := fun {o m t v} hd => Ag.put fun d he => by
  unfold dstNot at hd
  rw [he] at hd
  exact hasN_not (by simpa using hd)
 unfold apartS at hS
 rw [Bool.and_eq_true] at hS
 obtain ⟨hS1, hS2⟩ := hS
 have h1 : ∀ d, a.dst = some d → d ∉ reads ops b ∧ b.dst ≠ some d := fun d hd => by
  rw [hd] at hS1
  simp only [Bool.and_eq_true, Bool.not_eq_true'] at hS1
  exact ⟨hasN_not hS1.1, fun e => by rw [e] at hS1; simp at hS1⟩
 have h2 : ∀ d, b.dst = some d → d ∉ reads ops a := fun d hd => by
  rw [hd] at hS2
  simp only [Bool.not_eq_true'] at hS2
  exact hasN_not hS2
 obtain ⟨t, h, lp, df⟩ := st
 rw [opD_eq, Option.map_eq_some_iff] at e1
 obtain ⟨⟨v, g1, l1, d1⟩, e1, rfl⟩ := e1
 simp only [wrapX] at e2
 rw [opD_eq, Option.map_eq_some_iff] at e2
 obtain ⟨⟨u, g2, l2, d2⟩, e2, rfl⟩ := e2
 rw [← opX_congr (t := t) (Ag.put fun d hd => (h1 d hd).1) (fun hc => hAg (hdb hc))] at e2
 obtain ⟨h', lp', df', f1, f2⟩ := opX_swap hC hlen hna hnb e1 e2
 refine ⟨⟨putDst t b.dst u, h', lp', df'⟩, by rw [opD_eq, f1]; rfl, ?_⟩
 rw [opD_eq, ← opX_congr (t := t) (Ag.put fun d hd => h2 d hd) (fun hc => hAg (hda hc)), f2]
 simp only [Option.map_some, wrapX]
 rw [putDst_comm t (fun d hd => (h1 d hd).2)]
end
end Go.As
/-
 AS: regions that draw, whole.
-/
namespace Go.As
open Go.RowKit (Below)
variable [Gh]
theorem news_append (E : Env) : ∀ (a b : List Oper), news E (a ++ b) = news E a + news E b
 | [], b => by show news E b = 0 + news E b; omega
 | o :: a, b => by show _ + news E (a ++ b) = (_ + news E a) + news E b; rw [news_append E a b]; omega
theorem news_cons (E : Env) (o : Oper) (l : List Oper) : news E (o :: l) = (bif isNew E o.op then 1 else 0) + news E l := rfl
section
variable {F : Fence} {P : Program} {B : Nat} {X : Cx} {O : Nat → Addr → Prop} {w : World} {E : Env} {ih : Nat → Nat → Nat → Code → St → Option (Ex × St)}
noncomputable def nwAt (E : Env) (ops : Array Oper) (j : Nat) : Nat := news E (ops.toList.take j)
theorem nwAt_succ {ops : Array Oper} {j : Nat} {o : Oper} (h : ops.toList[j]? = some o) : nwAt E ops (j + 1) = nwAt E ops j + (bif isNew E o.op then 1 else 0) := by
 unfold nwAt
 rw [List.take_add_one, h, news_append]
 rfl
theorem nwAt_mono {ops : Array Oper} {i j : Nat} (h : i ≤ j) : nwAt E ops i ≤ nwAt E ops j := by
 unfold nwAt
 obtain ⟨d, rfl⟩ : ∃ d, j = i + d := ⟨j - i, by omega⟩
 rw [List.take_add, news_append]; omega
theorem nwAt_lt {ops : Array Oper} {i j : Nat} {o : Oper} (hi : ops.toList[i]? = some o) (hn : isNew E o.op = true) (h : i < j) : nwAt E ops i < nwAt E ops j := by
 have h1 := nwAt_succ (E := E) hi
 rw [hn, cond_true] at h1
 have h2 := nwAt_mono (E := E) (ops := ops) (show i + 1 ≤ j by omega)
 omega
theorem nwAt_all {ops : Array Oper} {i : Nat} {o : Oper} (hi : ops.toList[i]? = some o) (hn : isNew E o.op = true) : nwAt E ops i < news E ops.toList := by
 have hlt := (List.getElem?_eq_some_iff.1 hi).1
 have := nwAt_lt (E := E) hi hn hlt
 rwa [nwAt, nwAt, List.take_length] at this
noncomputable def opAt (E : Env) (ih : Nat → Nat → Nat → Code → St → Option (Ex × St)) (keep : Bool) (ops : Array Oper) (ds : List (Nat × List Nat)) (k n : Nat) (j : Nat) (st : St) : Option St :=
 match ops.toList[j]?, ds[j]? with
 | some o, some d => opD E ih keep ops k n (nwAt E ops j) d.1 d.2 o st
 | _, _ => none
noncomputable def runL (E : Env) (ih : Nat → Nat → Nat → Code → St → Option (Ex × St)) (keep : Bool) (ops : Array Oper) (ds : List (Nat × List Nat)) (k n : Nat) : List Nat → St → Option St
 | [], st => some st
 | j :: l, st => (opAt E ih keep ops ds k n j st).bind (runL E ih keep ops ds k n l)
theorem runOpsD_cons (keep : Bool) (ops : Array Oper) (k n : Nat) (o : Oper) (l : List Oper) (ds : List (Nat × List Nat)) (i : Nat) (st : St) :
  runOpsD E ih keep ops k n (o :: l) ds i st = (match ds with
   | [] => none
   | (c, m) :: ds => match opD E ih keep ops k n i c m o st with
    | none => none
    | some st' => runOpsD E ih keep ops k n l ds (bif isNew E o.op then i + 1 else i) st') := rfl
theorem runOpsD_runL {keep : Bool} {ops : Array Oper} {ds : List (Nat × List Nat)} {k n : Nat} : ∀ (l : List Oper) (j : Nat) (st : St), l = ops.toList.drop j →
  ∀ st', runOpsD E ih keep ops k n l (ds.drop j) (nwAt E ops j) st = some st' → runL E ih keep ops ds k n (List.range' j l.length) st = some st'
 | [], j, st, hl, st', e => e
 | o :: l, j, st, hl, st', e => by
  have hj : ops.toList[j]? = some o := by
   have : (ops.toList.drop j)[0]? = some o := by rw [← hl]; rfl
   rwa [List.getElem?_drop] at this
  have hl' : l = ops.toList.drop (j + 1) := by
   have : (ops.toList.drop j).drop 1 = l := by rw [← hl]; rfl
   rw [← this, List.drop_drop]
  rw [runOpsD_cons] at e
  cases hd : ds.drop j with
  | nil => rw [hd] at e; cases e
  | cons d ds' =>
   obtain ⟨c, m⟩ := d
   rw [hd] at e
   simp only at e
   have hdj : ds[j]? = some (c, m) := by
    have : (ds.drop j)[0]? = some (c, m) := by rw [hd]; rfl
    rwa [List.getElem?_drop] at this
   have hds : ds' = ds.drop (j + 1) := by
    have : (ds.drop j).drop 1 = ds' := by rw [hd]; rfl
    rw [← this, List.drop_drop]
   cases h1 : opD E ih keep ops k n (nwAt E ops j) c m o st with
   | none => rw [h1] at e; cases e
   | some s1 =>
    rw [h1] at e
    simp only at e
    have hn : (bif isNew E o.op then nwAt E ops j + 1 else nwAt E ops j) = nwAt E ops (j + 1) := by
     rw [nwAt_succ hj]; cases isNew E o.op <;> rfl
    rw [hn, hds] at e
    have := runOpsD_runL l (j + 1) s1 hl' st' e
    show runL E ih keep ops ds k n (j :: List.range' (j + 1) l.length) st = some st'
    unfold runL opAt
    rw [hj, hdj]
    simp only [h1, Option.bind_some]
    exact this
theorem okFrom_cons (ops : Array Oper) (bfs : List Nat) (ds0 : List (Nat × List Nat)) (o : Oper) (l : List Oper) (ds : List (Nat × List Nat)) (i nw : Nat) :
  okFrom E ops bfs ds0 (o :: l) ds i nw = (match ds with
   | [] => false
   | (c, m) :: ds => okOne o i c && (okAll E ops o ((lget bfs i).getD 0) c m nw (ops.toList.take i) (ds0.take i) 0 0 && okFrom E ops bfs ds0 l ds (i + 1) (bif isNew E o.op then nw + 1 else nw))) := rfl
theorem okFrom_at {ops : Array Oper} {bfs : List Nat} {ds0 : List (Nat × List Nat)} : ∀ (l : List Oper) (j : Nat), l = ops.toList.drop j → okFrom E ops bfs ds0 l (ds0.drop j) j (nwAt E ops j) = true →
  ∀ i o, j ≤ i → ops.toList[i]? = some o → ∃ d, ds0[i]? = some d ∧ okOne o i d.1 = true ∧ okAll E ops o ((lget bfs i).getD 0) d.1 d.2 (nwAt E ops i) (ops.toList.take i) (ds0.take i) 0 0 = true
 | [], j, hl, e, i, o, hji, hi => by
  have := (List.getElem?_eq_some_iff.1 hi).1
  have : ops.toList.length ≤ j := by
   have h := congrArg List.length hl
   simp only [List.length_nil, List.length_drop] at h; omega
  omega
 | p :: l, j, hl, e, i, o, hji, hi => by
  have hj : ops.toList[j]? = some p := by
   have : (ops.toList.drop j)[0]? = some p := by rw [← hl]; rfl
   rwa [List.getElem?_drop] at this
  have hl' : l = ops.toList.drop (j + 1) := by
   have : (ops.toList.drop j).drop 1 = l := by rw [← hl]; rfl
   rw [← this, List.drop_drop]
  rw [okFrom_cons] at e
  cases hd : ds0.drop j with
  | nil => rw [hd] at e; cases e
  | cons d ds' =>
   obtain ⟨c, m⟩ := d
   rw [hd] at e
   simp only [Bool.and_eq_true] at e
   have hdj : ds0[j]? = some (c, m) := by
    have : (ds0.drop j)[0]? = some (c, m) := by rw [hd]; rfl
    rwa [List.getElem?_drop] at this
   have hds : ds' = ds0.drop (j + 1) := by
    have : (ds0.drop j).drop 1 = ds' := by rw [hd]; rfl
    rw [← this, List.drop_drop]
   by_cases hij : i = j
   ·subst hij
    rw [hj] at hi; cases hi
    exact ⟨_, hdj, e.1, e.2.1⟩
   ·have hn : (bif isNew E p.op then nwAt E ops j + 1 else nwAt E ops j) = nwAt E ops (j + 1) := by
     rw [nwAt_succ hj]; cases isNew E p.op <;> rfl
    refine okFrom_at l (j + 1) hl' ?_ i o (by omega) hi
    rw [← hn, ← hds]; exact e.2.2
theorem okAll_cons (ops : Array Oper) (o : Oper) (bf c : Nat) (m : List Nat) (nw : Nat) (p : Oper) (l : List Oper) (ds : List (Nat × List Nat)) (j nj : Nat) :
  okAll E ops o bf c m nw (p :: l) ds j nj = (match ds with
   | [] => true
   | (cj, mj) :: ds => (Nat.testBit bf j || apartC E ops p o cj c mj m nj nw) && okAll E ops o bf c m nw l ds (j + 1) (bif isNew E p.op then nj + 1 else nj)) := rfl
theorem okAll_at {ops : Array Oper} {o : Oper} {bf c : Nat} {m : List Nat} {nw : Nat} {l0 : List Oper} {ds0 : List (Nat × List Nat)} : ∀ (l : List Oper) (j : Nat), l = l0.drop j → okAll E ops o bf c m nw l (ds0.drop j) j (news E (l0.take j)) = true →
  ∀ i p d, j ≤ i → l0[i]? = some p → ds0[i]? = some d → Nat.testBit bf i = true ∨ apartC E ops p o d.1 c d.2 m (news E (l0.take i)) nw = true
 | [], j, hl, e, i, p, d, hji, hi, hdi => by
  have := (List.getElem?_eq_some_iff.1 hi).1
  have : l0.length ≤ j := by
   have h := congrArg List.length hl
   simp only [List.length_nil, List.length_drop] at h; omega
  omega
 | q :: l, j, hl, e, i, p, d, hji, hi, hdi => by
  have hj : l0[j]? = some q := by
   have : (l0.drop j)[0]? = some q := by rw [← hl]; rfl
   rwa [List.getElem?_drop] at this
  have hl' : l = l0.drop (j + 1) := by
   have : (l0.drop j).drop 1 = l := by rw [← hl]; rfl
   rw [← this, List.drop_drop]
  rw [okAll_cons] at e
  cases hd : ds0.drop j with
  | nil =>
   have h := congrArg List.length hd
   have := (List.getElem?_eq_some_iff.1 hdi).1
   simp only [List.length_nil, List.length_drop] at h; omega
  | cons d' ds' =>
   obtain ⟨c', m'⟩ := d'
   rw [hd] at e
   simp only [Bool.and_eq_true, Bool.or_eq_true] at e
   have hdj : ds0[j]? = some (c', m') := by
    have : (ds0.drop j)[0]? = some (c', m') := by rw [hd]; rfl
    rwa [List.getElem?_drop] at this
   have hds : ds' = ds0.drop (j + 1) := by
    have : (ds0.drop j).drop 1 = ds' := by rw [hd]; rfl
    rw [← this, List.drop_drop]
   by_cases hij : i = j
   ·subst hij
    rw [hj] at hi; cases hi
    rw [hdj] at hdi; cases hdi
    exact e.1
   ·have hn : (bif isNew E q.op then news E (l0.take j) + 1 else news E (l0.take j)) = news E (l0.take (j + 1)) := by
     rw [List.take_add_one, hj, news_append]
     show _ = _ + (_ + 0)
     cases isNew E q.op <;> rfl
    refine okAll_at l (j + 1) hl' ?_ i p d (by omega) hi hdi
    rw [← hn, ← hds]; exact e.2
noncomputable def bfOf (acc : List Nat) (o : Oper) : Nat := o.after.toList.foldl (fun s e => bif Region.binds .any e then Nat.lor s (Nat.lor (2 ^ e.on) ((lget acc e.on).getD 0)) else s) 0
theorem befores_cons (o : Oper) (l : List Oper) (acc : List Nat) : befores (o :: l) acc = befores l (acc ++ [bfOf acc o]) := rfl
theorem befores_prefix : ∀ (l : List Oper) (acc : List Nat) (i x : Nat), acc[i]? = some x → (befores l acc)[i]? = some x
 | [], _, _, _, h => h
 | o :: l, acc, i, x, h => by
  rw [befores_cons]
  refine befores_prefix l _ i x ?_
  rw [List.getElem?_append_left (List.getElem?_eq_some_iff.1 h).1]; exact h
theorem befores_at (l : List Oper) : ∀ (acc : List Nat) (i : Nat) (o : Oper), l[i]? = some o → ∃ acc' : List Nat, (befores l acc)[acc.length + i]? = some (bfOf acc' o) ∧ ∀ (j x : Nat), acc'[j]? = some x → (befores l acc)[j]? = some x := by
 induction l with
 | nil => intro acc i o h; simp at h
 | cons o l ih =>
  intro acc i p h
  rw [befores_cons]
  cases i with
  | zero =>
   simp only [List.getElem?_cons_zero, Option.some.injEq] at h
   subst h
   refine ⟨acc, befores_prefix l _ _ _ ?_, fun j x hj => befores_prefix l _ _ _ ?_⟩
   ·simp
   ·rw [List.getElem?_append_left (List.getElem?_eq_some_iff.1 hj).1]; exact hj
  | succ i =>
   simp only [List.getElem?_cons_succ] at h
   obtain ⟨acc', h1, h2⟩ := ih (acc ++ [bfOf acc o]) i p h
   refine ⟨acc', ?_, h2⟩
   rw [← h1, List.length_append, List.length_singleton, Nat.add_assoc, Nat.add_comm 1 i]
theorem bf_bit {acc : List Nat} {b : Nat} : ∀ (l : List Edge) (s : Nat), Nat.testBit (l.foldl (fun s e => bif Region.binds .any e then Nat.lor s (Nat.lor (2 ^ e.on) ((lget acc e.on).getD 0)) else s) s) b = true →
  Nat.testBit s b = true ∨ ∃ e ∈ l, Region.binds .any e = true ∧ (b = e.on ∨ ∃ x, acc[e.on]? = some x ∧ Nat.testBit x b = true)
 | [], s, h => .inl h
 | e :: l, s, h => by
  rw [List.foldl_cons] at h
  rcases bf_bit l _ h with h | ⟨e', he, hb⟩
  ·cases hbi : Region.binds .any e with
   | false => rw [hbi, cond_false] at h; exact .inl h
   | true =>
    rw [hbi, cond_true] at h
    have h : Nat.testBit (s ||| (2 ^ e.on ||| (lget acc e.on).getD 0)) b = true := h
    rw [Nat.testBit_or, Nat.testBit_or, Bool.or_eq_true, Bool.or_eq_true] at h
    rcases h with h | h | h
    ·exact .inl h
    ·refine .inr ⟨e, by simp, hbi, .inl ?_⟩
     rw [Nat.testBit_two_pow] at h
     simpa using (of_decide_eq_true h).symm
    ·refine .inr ⟨e, by simp, hbi, .inr ?_⟩
     rw [lget_eq] at h
     cases hx : acc[e.on]? with
     | none => rw [hx] at h; simp at h
     | some x => rw [hx] at h; exact ⟨x, rfl, h⟩
  ·exact .inr ⟨e', by simp [he], hb⟩
structure DrOk (E : Env) (ops : Array Oper) (ds : List (Nat × List Nat)) (bf : Nat → Nat) : Prop where
 one : ∀ i o, ops.toList[i]? = some o → ∃ d, ds[i]? = some d ∧ okOne o i d.1 = true
 all : ∀ i j o p d c, j < i → ops.toList[i]? = some o → ops.toList[j]? = some p → ds[i]? = some d → ds[j]? = some c → Nat.testBit (bf i) j = true ∨ apartC E ops p o c.1 d.1 c.2 d.2 (nwAt E ops j) (nwAt E ops i) = true
 bit : ∀ i o b, ops.toList[i]? = some o → Nat.testBit (bf i) b = true → ∃ e ∈ o.after, Region.binds .any e = true ∧ (b = e.on ∨ Nat.testBit (bf e.on) b = true)
theorem drOk_all {ops : Array Oper} {ds : List (Nat × List Nat)} (h : drOk E ops ds = true) : ∃ bf, DrOk E ops ds bf := by
 unfold drOk at h
 have key := okFrom_at (E := E) (ops := ops) (bfs := befores ops.toList []) (ds0 := ds) ops.toList 0 rfl h
 refine ⟨fun i => (lget (befores ops.toList []) i).getD 0, ⟨fun i o hi => ?_, fun i j o p d c hji hi hj hd hc => ?_, fun i o b hi hb => ?_⟩⟩
 ·obtain ⟨d, h1, h2, _⟩ := key i o (Nat.zero_le _) hi
  exact ⟨d, h1, h2⟩
 ·obtain ⟨d', h1, _, h2⟩ := key i o (Nat.zero_le _) hi
  rw [hd] at h1; cases h1
  have := okAll_at (E := E) (l0 := ops.toList.take i) (ds0 := ds.take i) (ops.toList.take i) 0 rfl h2 j p c (Nat.zero_le _) (by rw [List.getElem?_take, if_pos hji]; exact hj) (by rw [List.getElem?_take, if_pos hji]; exact hc)
  rw [List.take_take, Nat.min_eq_left (by omega)] at this
  exact this
 ·obtain ⟨acc, h1, h2⟩ := befores_at ops.toList [] i o hi
  simp only [List.length_nil, Nat.zero_add] at h1
  rw [lget_eq, h1] at hb
  rcases bf_bit _ _ hb with hb | ⟨e, he, hbi, hb⟩
  ·simp at hb
  ·refine ⟨e, by simpa using he, hbi, ?_⟩
   rcases hb with hb | ⟨x, hx, hb⟩
   ·exact .inl hb
   ·refine .inr ?_
    rw [lget_eq, h2 _ _ hx]; exact hb
end
end Go.As
/-
 AS: regions that draw: every order comes to the same end.
-/
namespace Go.As
open Go.RowKit (Below)
variable [Gh]
section
variable {F : Fence} {P : Program} {B : Nat} {X : Cx} {O : Nat → Addr → Prop} {w : World} {E : Env} {ih : Nat → Nat → Nat → Code → St → Option (Ex × St)}
 {keep : Bool} {ops : Array Oper} {ds : List (Nat × List Nat)} {bf : Nat → Nat} {k : Nat}
theorem runL_cons (j : Nat) (l : List Nat) (st : St) {n : Nat} : runL E ih keep ops ds k n (j :: l) st = (opAt E ih keep ops ds k n j st).bind (runL E ih keep ops ds k n l) := rfl
theorem opAt_some {n j : Nat} {st st' : St} (e : opAt E ih keep ops ds k n j st = some st') : ∃ o d, ops.toList[j]? = some o ∧ ds[j]? = some d ∧ opD E ih keep ops k n (nwAt E ops j) d.1 d.2 o st = some st' := by
 unfold opAt at e
 split at e
 ·rename_i o d ho hd
  exact ⟨o, d, ho, hd, e⟩
 ·cases e
theorem opAt_of {n j : Nat} {st st' : St} {o : Oper} {d : Nat × List Nat} (ho : ops.toList[j]? = some o) (hd : ds[j]? = some d) (e : opD E ih keep ops k n (nwAt E ops j) d.1 d.2 o st = some st') : opAt E ih keep ops ds k n j st = some st' := by
 unfold opAt
 rw [ho, hd]; exact e
theorem bubble (hd : DrOk E ops ds bf) {q : Nat} {oq : Oper} {dq : Nat × List Nat} (hq : ops.toList[q]? = some oq) (hdq : ds[q]? = some dq) : ∀ (l1 : List Nat), (∀ p ∈ l1, p < q ∧ Nat.testBit (bf q) p = false) → ∀ (l2 : List Nat) (st st' : St),
  (dq.1 = 0 ∨ k + news E ops.toList ≤ st.h.length) → runL E ih keep ops ds k (news E ops.toList) (l1 ++ q :: l2) st = some st' →
  ∃ mid, opAt E ih keep ops ds k (news E ops.toList) q st = some mid ∧ runL E ih keep ops ds k (news E ops.toList) (l1 ++ l2) mid = some st'
 | [], _, l2, st, st', _, e => by
  rw [List.nil_append, runL_cons, Option.bind_eq_some_iff] at e
  exact e
 | p :: l1, hl, l2, st, st', hlen, e => by
  rw [List.cons_append, runL_cons, Option.bind_eq_some_iff] at e
  obtain ⟨s1, e1, e2⟩ := e
  obtain ⟨op, dp, hp, hdp, e1'⟩ := opAt_some e1
  obtain ⟨hpq, hbit⟩ := hl p (by simp)
  have hap := (hd.all q p oq op dq dp hpq hq hp hdq hdp).resolve_left (by rw [hbit]; simp)
  obtain ⟨_, hC⟩ := apartC_split hap
  have hlen1 : dq.1 = 0 ∨ k + news E ops.toList ≤ s1.h.length := by
   by_cases h0 : dq.1 = 0
   ·exact .inl h0
   ·refine .inr ?_
    have hk := hlen.resolve_left h0
    obtain ⟨t, h, lp, df⟩ := st
    rw [opD_eq, Option.map_eq_some_iff] at e1'
    obtain ⟨⟨v, g1, l1', d1⟩, e1', rfl⟩ := e1'
    refine opX_len ?_ (fun hn => nwAt_all hp hn) hk e1'
    rcases hC with h | h | h | h | h | h
    ·exact .inl h
    ·exact absurd h h0
    ·rcases h with h | h | h | h | h | h | h | h <;> omega
    ·omega
    ·omega
    ·omega
  obtain ⟨s2, f1, f2⟩ := bubble hd hq hdq l1 (fun p hp => hl p (by simp [hp])) l2 s1 st' hlen1 e2
  obtain ⟨oq', dq', hq', hdq', f1'⟩ := opAt_some f1
  rw [hq] at hq'; cases hq'
  rw [hdq] at hdq'; cases hdq'
  obtain ⟨s', g1, g2⟩ := opD_swap hap (hlen.elim (fun h => .inr (.inl h)) fun h => .inr (.inr h)) (fun hn => ⟨nwAt_all hp hn, by have := nwAt_lt (E := E) hp hn hpq; omega⟩) (fun hn => nwAt_all hq hn) e1' f1'
  refine ⟨s', opAt_of hq hdq g1, ?_⟩
  rw [List.cons_append, runL_cons, opAt_of hp hdp g2]
  exact f2
theorem any_sound (hih : CodeS F P E ih) (hE : EnvOk F P E) (hF : Fen F) (hd : DrOk E ops ds bf) {q nt : Nat} (hops : ∀ o ∈ ops.toList, opOk nt o = true) {st' : St} {X0 : Cx} {O0 : Nat → Addr → Prop} {w0 : World} {h0 : Heap}
  {Q : Exit → Act → World → Prop} (hQ : ∀ X' O' w' a', SR nt B X' O' w' a' st' → Step B X0 O0 w0 h0 X' O' w' st'.h → Q .normal a' w') :
  ∀ (fuel : Nat) (R : List Nat) (listed : Array Bool) (st : St) (X : Cx) (O : Nat → Addr → Prop) (w : World) (a : Act), R.length ≤ fuel → R.Pairwise (· < ·) → listed.size = ops.size →
   (∀ j, listed.getD j true = false ↔ j ∈ R) → (∀ j, j ∉ R → j < ops.size → ∀ b, Nat.testBit (bf j) b = true → b ∉ R) →
   runL E ih keep ops ds k (news E ops.toList) R st = some st' → SR nt B X O w a st → PS X k (news E ops.toList) st.h → k + news E ops.toList ≤ st.h.length → Step B X0 O0 w0 h0 X O w st.h →
   wpAnyIn F q P .any ops Q fuel listed a w := by
 intro fuel
 have ready : ∀ (R : List Nat) (listed : Array Bool), R.Pairwise (· < ·) → listed.size = ops.size → (∀ j, listed.getD j true = false ↔ j ∈ R) → Region.ready .any ops listed = [] → R = [] := by
  intro R listed hR hsz hli hr
  cases R with
  | nil => rfl
  | cons j R =>
   exfalso
   have hj : j ∈ Region.ready .any ops listed := by
    rw [mem_ready]
    have hjl := (hli j).2 (by simp)
    refine ⟨hjl, ?_⟩
    have hjs : j < ops.size := by
     rcases Nat.lt_or_ge j ops.size with h | h
     ·exact h
     ·rw [Array.getD_eq_getD_getElem?, Array.getElem?_eq_none (by omega)] at hjl; cases hjl
    refine ⟨ops[j], by simp [hjs], fun e he hb => ?_⟩
    obtain ⟨d, _, h1⟩ := hd.one j ops[j] (by simp [hjs])
    unfold okOne at h1
    rw [Bool.and_eq_true] at h1
    have h2 := List.all_eq_true.1 h1.1 e (by simpa using he)
    rw [hb] at h2
    have h2 : e.on < j := by simpa [Nat.blt_eq] using h2
    cases hg : listed.getD e.on true with
    | false =>
     have := (hli e.on).1 hg
     rcases List.mem_cons.1 this with h | h
     ·omega
     ·have := (List.pairwise_cons.1 hR).1 _ h; omega
    | true =>
     rw [Array.getD_eq_getD_getElem?, Array.getElem?_eq_getElem (by omega)] at hg ⊢
     exact hg
   rw [hr] at hj; cases hj
 induction fuel with
 | zero =>
  intro R listed st X O w a hl hR hsz hli hbf e s hps hkn hst
  obtain rfl : R = [] := List.length_eq_zero_iff.1 (by omega)
  cases e
  refine ⟨?_, hQ X O w a s hst⟩
  cases hr : Region.ready .any ops listed with
  | nil => rfl
  | cons j l =>
   have : j ∈ Region.ready .any ops listed := by rw [hr]; simp
   rw [mem_ready] at this
   exact absurd ((hli j).1 this.1) (by simp)
 | succ fuel ihf =>
  intro R listed st X O w a hl hR hsz hli hbf e s hps hkn hst
  refine ⟨fun hr => ?_, fun q' hq' => ?_⟩
  ·obtain rfl := ready R listed hR hsz hli hr
   cases e
   exact hQ X O w a s hst
  ·rw [mem_ready] at hq'
   obtain ⟨hlq, oq, hoq, hafter⟩ := hq'
   have hqR := (hli q').1 hlq
   obtain ⟨l1, l2, rfl⟩ := List.append_of_mem hqR
   have hoq' : ops.toList[q']? = some oq := by simpa using hoq
   have hqs : q' < ops.size := (Array.getElem?_eq_some_iff.1 hoq).1
   obtain ⟨dq, hdq, hone⟩ := hd.one q' oq hoq'
   have hclosed : ∀ b, Nat.testBit (bf q') b = true → b ∉ l1 ++ q' :: l2 := fun b hb hbR => by
    obtain ⟨e', he, hbi, hb⟩ := hd.bit q' oq b hoq' hb
    have hon := hafter e' he hbi
    have hnR : e'.on ∉ l1 ++ q' :: l2 := fun h => by
     have := (hli e'.on).2 h
     rw [Array.getD_eq_getD_getElem?] at hon this
     cases hx : listed[e'.on]? with
     | none => rw [hx] at hon; cases hon
     | some x => rw [hx] at hon this; simp only [Option.getD_some] at hon this; rw [hon] at this; cases this
    rcases hb with rfl | hb
    ·exact hnR hbR
    ·refine hbf e'.on hnR ?_ b hb hbR
     rcases Nat.lt_or_ge e'.on ops.size with h | h
     ·exact h
     ·rw [Array.getD_eq_getD_getElem?, Array.getElem?_eq_none (by omega)] at hon; cases hon
   have hsplit := List.pairwise_append.1 hR
   obtain ⟨mid, e1, e2⟩ := bubble hd hoq' hdq l1 (fun p hp => ⟨hsplit.2.2 p hp q' (by simp), by
    cases hx : Nat.testBit (bf q') p with
    | false => rfl
    | true => exact absurd (by simp [hp]) (hclosed p hx)⟩) l2 st st' (.inr hkn) e
   obtain ⟨oq2, dq2, h1, h2, e1'⟩ := opAt_some e1
   rw [hoq'] at h1; cases h1
   rw [hdq] at h2; cases h2
   have hone' : (dq.1 = 0 → isPure oq.op = true) ∧ (dq.1 = 2 → isSimple oq.op = true) := by
    unfold okOne at hone
    rw [Bool.and_eq_true] at hone
    refine ⟨fun h => ?_, fun h => ?_⟩
    ·have := hone.2; rw [h] at this; exact this
    ·have := hone.2; rw [h] at this; exact this
   unfold wpOpIn
   rw [hoq]
   simp only
   refine opD_sound hih hE hF e1' s (hops oq (List.mem_of_getElem? hoq')) hone'.1 hone'.2 hps (fun hn => nwAt_all hoq' hn) hkn fun X' O' w' a' s' hs => ?_
   have hnq : ∀ x ∈ l1 ++ l2, x ≠ q' := fun x hx he => by
    subst he
    rcases List.mem_append.1 hx with hx | hx
    ·exact Nat.lt_irrefl _ (hsplit.2.2 _ hx _ (by simp))
    ·exact Nat.lt_irrefl _ ((List.pairwise_cons.1 hsplit.2.1).1 _ hx)
   have hmem : ∀ x, x ∈ l1 ++ q' :: l2 ↔ x = q' ∨ x ∈ l1 ++ l2 := fun x => by simp only [List.mem_append, List.mem_cons]; constructor <;> (intro h; rcases h with h | h | h <;> simp [h])
   refine ihf (l1 ++ l2) _ mid X' O' w' a' (by simp only [List.length_append, List.length_cons] at hl ⊢; omega) ?_ (by simp [hsz]) (fun j => ?_) (fun j hj hjs b hb hbR => ?_) e2 s' (hps.step hkn hs) (Nat.le_trans hkn hs.len) (hst.trans hs)
   ·exact hR.sublist ((List.Sublist.refl l1).append (List.sublist_cons_self q' l2))
   ·by_cases hjq : q' = j
    ·subst hjq
     constructor
     ·intro h
      exfalso
      rw [Array.getD_eq_getD_getElem?, Array.getElem?_setIfInBounds_self_of_lt (by omega)] at h; cases h
     ·intro h; exact absurd rfl (hnq _ h)
    ·rw [getD_set_ne true hjq, hli j, hmem]
     constructor
     ·intro h; exact h.resolve_left (fun e => hjq e.symm)
     ·exact .inr
   ·by_cases hjq : j = q'
    ·subst hjq
     exact hclosed b hb ((hmem b).2 (.inr hbR))
    ·exact hbf j (fun h => ((hmem j).1 h).elim hjq hj) hjs b hb ((hmem b).2 (.inr hbR))
end
end Go.As
/-
 AS: the evaluator is right.
-/
namespace Go.As
open Go.RowKit (Below)
variable [Gh]
section
variable {F : Fence} {n : Nat} {P : Program} {Q : Exit → Act → World → Prop} {a : Act} {w : World}
theorem least {p : Nat → Prop} (h : ∃ m, p m) : ∃ m, p m ∧ ∀ k, p k → m ≤ k := by
 obtain ⟨m, hm⟩ := h
 induction m using Nat.strongRecOn with
 | _ m ih =>
  by_cases hx : ∃ k, k < m ∧ p k
  ·obtain ⟨k, hk, hp⟩ := hx; exact ih k hk hp
  ·exact ⟨m, hm, fun k hp => Nat.le_of_not_lt fun hk => hx ⟨k, hk, hp⟩⟩
open Classical in
theorem wpIn_loop_fuel {c : Code} (J : Nat → Act → World → Prop) {m : Nat} (h0 : J m a w)
  (round : ∀ m a w, J m a w → c.wpIn F n P (Exit.then (fun a' w' => ∃ m', m' < m ∧ J m' a' w') Q) a w) : (Code.loop c).wpIn F n P Q a w := by
 refine wpIn_loop (fun a w => ∃ m, J m a w) (fun a w => if h : ∃ m, J m a w then Classical.choose (least h) else 0) ⟨m, h0⟩ fun a w h => ?_
 refine wpIn_mono (round _ a w (Classical.choose_spec (least h)).1) fun e a' w' he => ?_
 cases e with
 | normal =>
  obtain ⟨m', hlt, hj⟩ := he
  refine ⟨⟨m', hj⟩, ?_⟩
  rw [dif_pos ⟨m', hj⟩, dif_pos h]
  exact Nat.lt_of_le_of_lt ((Classical.choose_spec (least ⟨m', hj⟩)).2 _ hj) hlt
 | _ => exact he
theorem stepR_scope {b : Frame} {k : List Item} {cs : List Frame} {c : Code} : step P (lone (b.atR a (.code (.scope c) :: k)) cs w) = .next (lone (b.atR a (.code c :: .inScope c :: k)) cs w) :=
 step_lone_go (by simp [stepG, stepG.exec, Frame.atR])
theorem stepR_inScope {b : Frame} {k : List Item} {cs : List Frame} {c : Code} : step P (lone (b.atR a (.inScope c :: k)) cs w) = .next (lone (b.atR a k) cs w) :=
 step_lone_go (by simp [stepG, stepG.exec, Frame.atR])
theorem wpIn_scope {c : Code} (h : c.wpIn F n P (Exit.noGoto Q) a w) : (Code.scope c).wpIn F n P Q a w := by
 intro b k cs hro hb hr
 have h0 : (lone (b.atR a (.code (.scope c) :: k)) cs w).fenced P F := fenced_calm hb hr rfl
 obtain ⟨e, a₁, w₁, hq, harr⟩ := h b (.inScope c :: k) cs hro hb hr
 cases e with
 | normal => exact ⟨.normal, a₁, w₁, hq, .head h0 stepR_scope (StepsIn.trans harr (.one (fenced_calm hb hr rfl) stepR_inScope))⟩
 | exit id =>
  have hx : exitTo id (.inScope c :: k) = exitTo id k := by simp [exitTo]
  exact ⟨.exit id, a₁, w₁, hq, fun k' hk => .head h0 stepR_scope (harr.1 k' (by rw [hx]; exact hk)),
   fun hr' hk => let ⟨k₁, h1, h2⟩ := harr.2 hr' (by rw [hx]; exact hk); ⟨k₁, h1, .head h0 stepR_scope h2⟩⟩
 | goto l => exact hq.elim
 | ret => exact ⟨_, a₁, w₁, hq, .of_steps (.one h0 stepR_scope) harr⟩
 | panic ch => exact ⟨_, a₁, w₁, hq, .of_steps (.one h0 stepR_scope) harr⟩
 | outgrown => exact ⟨_, a₁, w₁, hq, .of_steps (.one h0 stepR_scope) harr⟩
end
section
variable {F : Fence} {P : Program} {B : Nat} {X : Cx} {O : Nat → Addr → Prop} {w : World} {h : Heap} {E : Env} {ih : Nat → Nat → Nat → Code → St → Option (Ex × St)}
theorem room_ok (hr : HR B X O w h) (n : Nat) {w' : World} (hb : Below w.heap.size w w') : HR B X O w' (h ++ reps n none) ∧ Step B X O w h X O w' (h ++ reps n none) := by
 obtain ⟨g1, g2⟩ := grown_same hr hb
 have hge : ∀ b, hget (h ++ reps n none) b = hget h b := fun b => by
  rw [hget_append]; split
  ·rfl
  ·rename_i hlt
   have h2 : hget h b = none := by rw [hget_eq, List.getElem?_eq_none (by omega)]; rfl
   rw [h2, hget_eq, reps_eq, List.getElem?_replicate]; split <;> rfl
 refine ⟨⟨fun b k e => g1.blk b k (by rw [← hge]; exact e), g1.own, g1.dis, fun b bi e => by have := g1.lt b bi e; simp; omega, g1.ci, g1.wb⟩, g2.up, by simp, ?_⟩
 exact ⟨fun b bi e hn => by rw [hge]; exact hn, g2.fr.M, g2.fr.own, g2.fr.cell, g2.fr.obj, g2.fr.blk, fun b e => by rw [← hge]; exact e, fun b _ e _ => e⟩
def noD (o : Oper) : Bool := match o.op with | .defer _ => false | _ => true
theorem noD_sem {o : Oper} (h : noD o = true) (rd : Option Nat) (ρ : Operand → Value) : o.semAt rd ρ = execOp ρ o := by
 unfold noD at h
 cases rd with
 | none => rfl
 | some l => unfold Oper.semAt; cases ho : o.op <;> first | rfl | (rw [ho] at h; cases h)
theorem upon_at {F : Fence} {n : Nat} {o : Oper} {a : Act} {K K' : Act → World → Prop} {Q : Exit → Act → World → Prop} (rd : Option Nat) (hK : ∀ a w, K a w → K' a w) {r : Result Next} (h : o.uponIn F n P a K Q r) : o.uponIn (fAt F rd) n P a K' Q r := by
 cases r with
 | ok x w' =>
  cases x <;> simp only [Oper.uponIn] at h ⊢
  case value u => exact hK _ _ h
  case skip => exact hK _ _ h
  case defer d => exact hK _ _ h
  case enter f args =>
   refine ⟨h.1, CallsIn.mono (F := F) h.2 fun e w'' he => ?_⟩
   cases e with
   | returned u => exact hK _ _ he
   | panicked c => exact he
   | outgrown => exact he
  case row row args => exact ⟨h.1, RowsIn.mono (F := F) h.2 fun u w'' he => hK _ _ he⟩
  case round l f tmps assign body =>
   refine ⟨h.1, RoundIn.mono (F := F) h.2 fun e w'' he => ?_⟩
   cases e with
   | returned u => exact hK _ _ he
   | panicked c => exact he
   | outgrown => exact he
 | halt x w' =>
  cases x <;> simp only [Oper.uponIn] at h ⊢
  case panic u => exact h
theorem oper_at {F : Fence} (hF : F.round = none) {n : Nat} {o : Oper} {a : Act} {w : World} {K K' : Act → World → Prop} {Q : Exit → Act → World → Prop} {rd : Option Nat} (hd : rd = none ∨ noD o = true) (hK : ∀ a w, K a w → K' a w) (h : o.wpIn F n P a w K Q) : o.wpIn (fAt F rd) n P a w K' Q := by
 unfold Oper.wpIn at h ⊢
 refine ⟨h.1, ?_⟩
 have h2 := h.2
 rw [hF] at h2
 have : o.semAt (fAt F rd).round a.eval = o.semAt none a.eval := by
  show o.semAt rd a.eval = _
  rcases hd with rfl | hd
  ·rfl
  ·rw [noD_sem hd, noD_sem hd]
 rw [this]
 exact upon_at rd hK h2
theorem wpOps_at {F : Fence} (hF : F.round = none) {n : Nat} {ops : Array Oper} {Q : Exit → Act → World → Prop} {rd : Option Nat} (hd : rd = none ∨ ∀ o ∈ ops.toList, noD o = true) : ∀ (l : List Nat) (a : Act) (w : World), wpOpsIn F n P ops Q l a w → wpOpsIn (fAt F rd) n P ops Q l a w
 | [], _, _, h => h
 | i :: l, a, w, h => by
  simp only [wpOpsIn] at h ⊢
  cases ho : ops[i]? with
  | none => rw [ho] at h; exact wpOps_at hF hd l a w h
  | some o =>
   rw [ho] at h
   simp only at h ⊢
   have hmem : o ∈ ops.toList := by
    rw [← Array.getElem?_toList] at ho; exact List.mem_of_getElem? ho
   split
   ·rename_i hw
    rw [if_pos hw] at h
    exact oper_at hF (hd.imp id fun h => h o hmem) (fun a w h => wpOps_at hF hd l a w h) h
   ·rename_i hw
    rw [if_neg hw] at h
    exact ⟨h.1, wpOps_at hF hd l _ w h.2⟩
theorem wpAny_at {F : Fence} (hF : F.round = none) {n : Nat} {md : Region.Mode} {ops : Array Oper} {Q : Exit → Act → World → Prop} {rd : Option Nat} (hd : rd = none ∨ ∀ o ∈ ops.toList, noD o = true) : ∀ (fuel : Nat) (listed : Array Bool) (a : Act) (w : World), wpAnyIn F n P md ops Q fuel listed a w → wpAnyIn (fAt F rd) n P md ops Q fuel listed a w
 | 0, _, _, _, h => h
 | fuel + 1, listed, a, w, h => by
  refine ⟨h.1, fun i hi => ?_⟩
  have h2 := h.2 i hi
  unfold wpOpIn at h2 ⊢
  cases ho : ops[i]? with
  | none => rw [ho] at h2; exact wpAny_at hF hd fuel _ a w h2
  | some o =>
   rw [ho] at h2
   simp only at h2 ⊢
   have hmem : o ∈ ops.toList := by
    rw [← Array.getElem?_toList] at ho; exact List.mem_of_getElem? ho
   split
   ·rename_i hw
    rw [if_pos hw] at h2
    exact oper_at hF (hd.imp id fun h => h o hmem) (fun a w h => wpAny_at hF hd fuel _ a w h) h2
   ·rename_i hw
    rw [if_neg hw] at h2
    exact ⟨h2.1, wpAny_at hF hd fuel _ _ w h2.2⟩
theorem RdOk.step {fb : Nat} {c c' : Code} {rd : Option Nat} (h : RdOk w fb c rd) {X' : Cx} {O' : Nat → Addr → Prop} {w' : World} {h0 h' : Heap} (s : Step B X O w h0 X' O' w' h') (hc : noDefer c = true → noDefer c' = true) : RdOk w' fb c' rd := by
 cases rd with
 | none => exact h
 | some l =>
  obtain ⟨h1, h2, r, h3⟩ := h
  exact ⟨h1, hc h2, r, s.up.obj l _ h3 rfl⟩
theorem RdOk.sub {fb : Nat} {c c' : Code} {rd : Option Nat} (h : RdOk w fb c rd) (hc : noDefer c = true → noDefer c' = true) : RdOk w fb c' rd := by
 cases rd with
 | none => exact h
 | some l =>
  obtain ⟨h1, h2, r, h3⟩ := h
  exact ⟨h1, hc h2, r, h3⟩
theorem RdOk.ops {fb id : Nat} {ops : Array Oper} {d : Bool} {rd : Option Nat} (h : RdOk w fb (.region id ops d) rd) : rd = none ∨ ∀ o ∈ ops.toList, noD o = true := by
 cases rd with
 | none => exact .inl rfl
 | some l =>
  obtain ⟨h1, h2, r, h3⟩ := h
  refine .inr fun o ho => ?_
  have := List.all_eq_true.1 h2 o ho
  unfold noD; exact this
theorem regionD_sound (hih : CodeS F P E ih) (hE : EnvOk F P E) (hF : Fen F) {f id : Nat} {ops : Array Oper} {st st' : St} {nt q : Nat} {a : Act} (e : regionD E ih f id ops st = some st') (s : SR nt B X O w a st)
  (hops : ∀ o ∈ ops.toList, opOk nt o = true) (hdr : (match E.dr f id with | some ds => drOk E ops ds | none => true) = true) {rd : Option Nat} (hrd : rd = none ∨ ∀ o ∈ ops.toList, noD o = true) : (Code.region id ops true).wpIn (fAt F rd) q P (Post nt B X O w st (.nm, st')) a w := by
 unfold regionD at e
 rw [Option.bind_eq_some_iff] at e
 obtain ⟨ds, hds, e⟩ := e
 rw [hds] at hdr
 simp only at hdr e
 obtain ⟨bf, hd⟩ := drOk_all hdr
 refine wpIn_region_any hE.mixed (wpAny_at hF.round hrd _ _ _ _ ?_)
 obtain ⟨g1, g2⟩ := room_ok s.h (news E ops.toList) (w' := { w with drawn := w.drawn + 1 }) ((Below.refl w.heap.size w).drew)
 have hlen : (st.h ++ reps (news E ops.toList) none).length = st.h.length + news E ops.toList := by simp
 have e1 := runOpsD_runL (ds := ds) ops.toList 0 _ rfl st' e
 rw [llen_eq] at e1
 refine any_sound (F := F) (X0 := X) (O0 := O) (w0 := w) (h0 := st.h) hih hE hF hd hops (fun X' O' w' a' s' p' => ⟨trivial, X', O', s', p'⟩) ops.size (List.range' 0 ops.toList.length) _ ⟨st.t, st.h ++ reps (news E ops.toList) none, st.lp, st.df⟩ X O _ a (by simp) List.pairwise_lt_range' (by simp) (fun j => ?_) (fun j hj hjs => ?_) e1 (s.step g1 g2) (fun b h1 h2 _ => ?_) (by rw [hlen]; exact Nat.le_refl _) g2
 ·rw [List.mem_range'_1, Array.getD_eq_getD_getElem?, Array.getElem?_replicate]
  simp only [Array.length_toList, Nat.zero_le, true_and, Nat.zero_add]
  split <;> simp [*]
 ·exact absurd (by rw [List.mem_range'_1]; simp; exact hjs) hj
 ·cases hm : X.M b with
  | none => rfl
  | some bi => have := s.h.lt b bi hm; omega
theorem hput_end (h : Heap) (k : Blk) : hput h h.length k = h ++ [some k] := by
 induction h with
 | nil => rfl
 | cons b h ih => rw [List.length_cons, hput_cons, ih]; rfl
theorem hidden_ok (hr : HR B X O w h) {w' : World} (hk : Keep w w') (hB : Below w.heap.size w w') (D : Nat) (h1 : w.heap.size ≤ D) (h2 : D < w'.heap.size) : HR B (X.withM h.length ⟨0, none, 0, 0, true⟩) (fun b => if b = h.length then (fun a => a = ⟨D, 0, none⟩) else O b) w' (h ++ [none]) ∧
  Step B X O w h (X.withM h.length ⟨0, none, 0, 0, true⟩) (fun b => if b = h.length then (fun a => a = ⟨D, 0, none⟩) else O b) w' (h ++ [none]) := by
 have hM := nid_M hr
 have hge : ∀ b, hget (h ++ [none]) b = hget h b := fun b => by
  have := (hget_append h [none] b); rw [this]; split
  ·rfl
  ·rename_i hlt
   have h2 : hget h b = none := by rw [hget_eq, List.getElem?_eq_none (by omega)]; rfl
   rw [h2, hget_eq]; cases b - h.length <;> rfl
 have hlt : ∀ b k, hget h b = some k → b ≠ h.length := fun b k e => Nat.ne_of_lt (hget_lt e)
 have hne : ∀ b bj, X.M b = some bj → b ≠ h.length := fun b bj e hb => by subst hb; rw [hM] at e; cases e
 have hci : ∀ a v, X.C a = some v → a.block < w.heap.size := fun a v e => World.block_lt_of_cell? w a (hr.ci a v e)
 refine ⟨⟨fun b k e => ?_, fun b a o => ?_, fun b c a o o' => ?_, fun b bj e => ?_, hr.ci.keep hk, Nat.le_trans hr.wb hB.size⟩, ⟨Up.add hM (hB.mono hr.wb) hk _ _, by simp, ⟨fun b bj e hn => by rw [hge]; exact hn, fun b bj e _ => by rw [Cx.withM_other X _ (hne b bj e)]; exact e, fun b bj e _ a o => by simp only [if_neg (hne b bj e)]; exact o,
  fun b bj _ _ a _ v ev => ⟨hk.cell _ _ ev, hk.frozen _ _ ev⟩, fun b bj _ _ a _ o eo _ => hk.obj _ _ eo, fun b bj _ _ g _ hg => hk.block g hg, fun b e => by rw [← hge]; exact e, fun b hb e _ => by rw [Cx.withM_other X _ (Nat.ne_of_lt hb)]; exact e⟩⟩⟩
 ·rw [hge] at e
  simp only [if_neg (hlt b k e)]
  exact (hr.blk b k e).later hr.lt (Cx.withM_le _ hM) (Cx.withM_other X _ (hlt b k e)) hk (fun _ h => h)
 ·by_cases hbn : b = h.length
  ·simp only [hbn, if_true] at o
   subst o
   refine ⟨Nat.le_trans hr.wb h1, h2, ?_⟩
   show X.C _ = none
   cases hc : X.C ⟨D, 0, none⟩ with
   | none => rfl
   | some v => have := hci _ v hc; simp only at this; omega
  ·simp only [if_neg hbn] at o
   obtain ⟨q1, q2, q3⟩ := hr.own b a o
   exact ⟨q1, Nat.lt_of_lt_of_le q2 hB.size, q3⟩
 ·by_cases hbn : b = h.length <;> by_cases hcn : c = h.length
  ·rw [hbn, hcn]
  ·simp only [hbn, if_true] at o; simp only [if_neg hcn] at o'
   subst o
   have := (hr.own c _ o').2.1; simp only at this; omega
  ·simp only [hcn, if_true] at o'; simp only [if_neg hbn] at o
   subst o'
   have := (hr.own b _ o).2.1; simp only at this; omega
  ·simp only [if_neg hbn] at o; simp only [if_neg hcn] at o'
   exact hr.dis b c a o o'
 ·by_cases hbn : b = h.length
  ·subst hbn; simp
  ·rw [Cx.withM_other X _ hbn] at e
   have := hr.lt b bj e
   simp; omega
theorem plain_ok (hr : HR B X O w h) : HR B X O w (h ++ [none]) ∧ Step B X O w h X O w (h ++ [none]) := by
 have := room_ok hr 1 (Below.refl w.heap.size w)
 exact this
theorem enter_ok (hr : HR B X O w h) {fb : Nat} {c : Code} {rd : Option Nat} (hrd : RdOk w fb c rd) (fn : Nat) (tmps : Array Value) (ps : Array Nat) (asg body : Code) {f : Nat} {t : Tm} (ht : TR X t tmps) (hps : ∀ p ∈ ps.toList, p < tmps.size) (k1 : Gh.K f tmps.size asg) (k2 : Gh.K f tmps.size body) :
  ∃ (l : Nat) (mark : List Deferred) (w1 : World) (r : Loop) (X1 : Cx) (O1 : Nat → Addr → Prop) (bi : BI), (Instr.enterLoop fn tmps ps asg body rd).run P w = .ok (l, mark) w1 ∧ w1.heap[l]? = some (.loop r) ∧ r.state = .ready ∧ r.pending = none ∧ w.heap.size ≤ l ∧
   HR B X1 O1 w1 (h ++ [none, some (.lp f t ps.toList asg body)]) ∧ Step B X O w h X1 O1 w1 (h ++ [none, some (.lp f t ps.toList asg body)]) ∧ X1.M (h.length + 1) = some bi ∧ bi.base = some ⟨l, 0, none⟩ ∧ bi.fix = true ∧
   ((fb = 0 ∧ ∃ D bd, mark = [{ target := .collected D, args := #[] }] ∧ w.heap.size ≤ D ∧ D ≠ l ∧ w1.heap[D]? = some (.deferred (some [])) ∧ X1.M h.length = some bd ∧ O1 h.length ⟨D, 0, none⟩) ∨ (fb ≠ 0 ∧ mark = [])) := by
 have last : ∀ {X' : Cx} {O' : Nat → Addr → Prop} {w' : World} (r : Loop), HR B X' O' w' (h ++ [none]) → Step B X O w h X' O' w' (h ++ [none]) → r.state = .ready → r.pending = none → r.params = ps → r.assign = asg → r.body = body → r.tmps = tmps →
   HR B (X'.withM (h.length + 1) ⟨0, some ⟨w'.heap.size, 0, none⟩, 0, 0, true⟩) (fun b => if b = h.length + 1 then (fun a => a = ⟨w'.heap.size, 0, none⟩) else O' b) (w'.alloc (.loop r)) (h ++ [none, some (.lp f t ps.toList asg body)]) ∧
   Step B X O w h (X'.withM (h.length + 1) ⟨0, some ⟨w'.heap.size, 0, none⟩, 0, 0, true⟩) (fun b => if b = h.length + 1 then (fun a => a = ⟨w'.heap.size, 0, none⟩) else O' b) (w'.alloc (.loop r)) (h ++ [none, some (.lp f t ps.toList asg body)]) := fun {X' O' w'} r hr' st e1 e2 e3 e4 e5 e6 => by
  have hlen : (h ++ [none]).length = h.length + 1 := by simp
  have hM : X'.M (h.length + 1) = none := by have := nid_M hr'; rwa [hlen] at this
  have hk := Keep.alloc w' (.loop r)
  have hsz : (w'.alloc (.loop r)).heap.size = w'.heap.size + 1 := by simp
  have heq : h ++ [none, some (.lp f t ps.toList asg body)] = hput (h ++ [none]) (h.length + 1) (.lp f t ps.toList asg body) := by
   rw [← hlen, hput_end]; simp
  have hn : hget (h ++ [none]) (h.length + 1) = none := by rw [hget_eq, List.getElem?_eq_none (by simp)]; rfl
  have htm : TR X' t tmps := ht.mono hr.lt st.up.le
  have hbr : BR (X'.withM (h.length + 1) ⟨0, some ⟨w'.heap.size, 0, none⟩, 0, 0, true⟩) (w'.alloc (.loop r)) (fun a => a = ⟨w'.heap.size, 0, none⟩) (h.length + 1) (.lp f t ps.toList asg body) := by
   refine ⟨_, w'.heap.size, r, Cx.withM_same _ _ _, rfl, rfl, rfl, World.alloc_heap_new w' _, rfl, ⟨e1, e2, by rw [e3], e4, e5, ?_, by rw [e6]; exact hps, by rw [e6]; exact k1, by rw [e6]; exact k2⟩⟩
   rw [e6]
   exact htm.mono hr'.lt (Cx.withM_le _ hM)
  rw [heq]
  have hadd := hr'.add hn hM (by rw [hlen]; exact Nat.le_refl _) hk (by rw [hsz]; omega) ⟨0, some ⟨w'.heap.size, 0, none⟩, 0, 0, true⟩ (fun a => a = ⟨w'.heap.size, 0, none⟩) (.lp f t ps.toList asg body) (fun a ha => by subst ha; simp) hbr
  refine ⟨hadd, st.trans ⟨Up.add hM ((below_alloc w' (.loop r)).mono hr'.wb) hk _ _, by rw [hput_len]; split <;> omega, FR.add hM (by rw [hlen]; exact Nat.le_refl _) hk _ _ _⟩⟩
 cases rd with
 | none =>
  let w' := w.alloc (.deferred (some []))
  have hsz : w'.heap.size = w.heap.size + 1 := by simp [w']
  obtain ⟨q1, q2⟩ := hidden_ok hr (Keep.alloc w (.deferred (some []))) (below_alloc w (.deferred (some []))) w.heap.size (Nat.le_refl _) (by simp)
  let r : Loop := { state := .ready, pending := none, fn, tmps, params := ps, assign := asg, body, defers := w.heap.size }
  obtain ⟨u1, u2⟩ := last r q1 q2 rfl rfl rfl rfl rfl rfl
  refine ⟨w.heap.size + 1, [{ target := .collected w.heap.size, args := #[] }], w'.alloc (.loop r), r, _, _, _, run_enterLoop_outer _ _ _ _ _, ?_, rfl, rfl, by omega, u1, u2, Cx.withM_same _ _ _, by rw [hsz], rfl, .inl ⟨hrd, w.heap.size, ⟨0, none, 0, 0, true⟩, rfl, Nat.le_refl _, by omega, ?_, ?_, ?_⟩⟩
  ·have := World.alloc_heap_new w' (.loop r); rwa [hsz] at this
  ·exact (Below.heap_alloc w' _ _ (by rw [hsz]; omega)).trans (World.alloc_heap_new w _)
  ·rw [Cx.withM_other _ _ (by omega)]; exact Cx.withM_same _ _ _
  ·simp
 | some l0 =>
  obtain ⟨h1, h2, r0, h3⟩ := hrd
  obtain ⟨q1, q2⟩ := plain_ok hr
  let r : Loop := { state := .ready, pending := none, fn, tmps, params := ps, assign := asg, body, defers := r0.defers }
  obtain ⟨u1, u2⟩ := last r q1 q2 rfl rfl rfl rfl rfl rfl
  exact ⟨w.heap.size, _, _, r, _, _, _, run_enterLoop_inner h3 _ _ _ _ _, World.alloc_heap_new w _, rfl, rfl, Nat.le_refl _, u1, u2, Cx.withM_same _ _ _, rfl, rfl, .inr ⟨h1, rfl⟩⟩
theorem All2.mem_right {α β : Type} {R : α → β → Prop} : ∀ {l : List α} {r : List β}, All2 R l r → ∀ {y : β}, y ∈ r → ∃ x, R x y
 | [], r, h, y, hy => by simp [All2] at h; subst h; cases hy
 | x :: l, r, h, y, hy => by
  obtain ⟨z, zs, rfl, h1, h2⟩ := h
  rcases List.mem_cons.1 hy with rfl | hy
  ·exact ⟨x, h1⟩
  ·exact All2.mem_right h2 hy
theorem exec_sound (hE : EnvOk F P E) (hF : Fen F) : ∀ m, CodeS F P E (exec E m) := by
 intro m
 induction m using Nat.strongRecOn with
 | _ m ihs =>
 cases m with
 | zero => intro f fb cur c st r e; cases e
 | succ m =>
  have ihm := ihs m (Nat.lt_succ_self m)
  intro f fb cur c st r e nt hc n B X O w a s rd hrd
  have e : execB E (exec E m) f fb cur c st = some r := e
  cases c with
  | skip => cases e; exact wpIn_skip ⟨trivial, X, O, s, .refl _ _ _ _ _⟩
  | label l => cases e; exact wpIn_label ⟨trivial, X, O, s, .refl _ _ _ _ _⟩
  | exit id => cases e; exact wpIn_exit ⟨rfl, X, O, s, .refl _ _ _ _ _⟩
  | ret => cases e; exact wpIn_ret ⟨trivial, X, O, s, .refl _ _ _ _ _⟩
  | region id ops draw =>
   simp only [codeOk, Bool.and_eq_true] at hc
   simp only [execB] at e
   split at e
   ·rename_i st' h1
    cases e
    cases draw with
    | true => exact regionD_sound ihm hE hF h1 s (fun o ho => List.all_eq_true.1 hc.1 o ho) hc.2 hrd.ops
    | false =>
     refine wpIn_region ?_
     have := runOps_sound (n := n) (Q := Post nt B X O w st (.nm, st')) ihm hE hF ops.toList 0 (by simp) (fun o ho => List.all_eq_true.1 hc.1 o ho) s h1 fun X' O' w' a' s' p' => ⟨trivial, X', O', s', p'⟩
     rw [List.range_eq_range']
     refine wpOps_at hF.round hrd.ops _ _ _ ?_
     simpa using this
   ·cases e
  | seq x y =>
   simp only [codeOk, Bool.and_eq_true] at hc
   simp only [execB] at e
   refine wpIn_seq ?_
   split at e
   ·rename_i st1 h1
    refine wpIn_mono (ihm _ _ _ _ _ _ h1 nt hc.1 n B X O w a s rd (hrd.sub fun h => by simp only [noDefer, Bool.and_eq_true] at h; exact h.1)) fun e1 a1 w1 h => ?_
    obtain ⟨hex, X1, O1, s1, p1⟩ := h
    cases e1 <;> simp only [ExR] at hex
    refine wpIn_mono (ihm _ _ _ _ _ _ e nt hc.2 n B X1 O1 w1 a1 s1 rd (hrd.step p1 fun h => by simp only [noDefer, Bool.and_eq_true] at h; exact h.2)) fun e2 a2 w2 h => ?_
    obtain ⟨hex2, X2, O2, s2, p2⟩ := h
    exact ⟨hex2, X2, O2, s2, p1.trans p2⟩
   ·rename_i hne
    refine wpIn_mono (ihm _ _ _ _ _ _ e nt hc.1 n B X O w a s rd (hrd.sub fun h => by simp only [noDefer, Bool.and_eq_true] at h; exact h.1)) fun e1 a1 w1 h => ?_
    obtain ⟨hex, X1, O1, s1, p1⟩ := h
    obtain ⟨r1, r2⟩ := r
    cases e1 with
    | normal =>
     cases r1 <;> simp only [ExR] at hex
     exact absurd e (hne r2)
    | _ => exact ⟨hex, X1, O1, s1, p1⟩
  | cond x y z =>
   simp only [codeOk, Bool.and_eq_true] at hc
   simp only [execB] at e
   split at e
   ·rename_i t ht
    refine wpIn_cond (cond_sound s hc.1 ht) ?_
    cases t with
    | true => exact ihm _ _ _ _ _ _ e nt hc.2.1 n B X O w a s rd (hrd.sub fun h => by simp only [noDefer, Bool.and_eq_true] at h; exact h.1)
    | false => exact ihm _ _ _ _ _ _ e nt hc.2.2 n B X O w a s rd (hrd.sub fun h => by simp only [noDefer, Bool.and_eq_true] at h; exact h.2)
   ·cases e
  | block id x =>
   simp only [codeOk] at hc
   simp only [execB] at e
   refine wpIn_block ?_
   split at e
   ·rename_i j st1 h1
    refine wpIn_mono (ihm _ _ _ _ _ _ h1 nt hc n B X O w a s rd (hrd.sub fun h => h)) fun e1 a1 w1 h => ?_
    obtain ⟨hex, X1, O1, s1, p1⟩ := h
    cases e1 <;> simp only [ExR] at hex
    subst hex
    simp only [Exit.inBlock]
    cases hj : Nat.beq j id with
    | true =>
     rw [hj, cond_true] at e
     cases e
     rw [if_pos (beq_of hj)]
     exact ⟨trivial, X1, O1, s1, p1⟩
    | false =>
     rw [hj, cond_false] at e
     cases e
     rw [if_neg (fun h => by rw [h, Nat.beq_refl] at hj; cases hj)]
     exact ⟨rfl, X1, O1, s1, p1⟩
   ·rename_i hne
    refine wpIn_mono (ihm _ _ _ _ _ _ e nt hc n B X O w a s rd (hrd.sub fun h => h)) fun e1 a1 w1 h => ?_
    obtain ⟨hex, X1, O1, s1, p1⟩ := h
    obtain ⟨r1, r2⟩ := r
    cases e1 with
    | exit id' =>
     cases r1 <;> simp only [ExR] at hex
     exact absurd e (hne _ r2)
    | _ => exact ⟨hex, X1, O1, s1, p1⟩
  | loop x =>
   simp only [codeOk] at hc
   refine wpIn_loop_fuel (fun m' a' w' => m' ≤ m + 1 ∧ ∃ st1 X1 O1, SR nt B X1 O1 w' a' st1 ∧ Step B X O w st.h X1 O1 w' st1.h ∧ exec E m' f fb cur (.loop x) st1 = some r) (m := m + 1) ⟨Nat.le_refl _, st, X, O, s, .refl _ _ _ _ _, e⟩ fun m' a1 w1 h => ?_
   obtain ⟨hm, st1, X1, O1, s1, p1, e1⟩ := h
   cases m' with
   | zero => cases e1
   | succ m' =>
    have e1 : execB E (exec E m') f fb cur (.loop x) st1 = some r := e1
    simp only [execB] at e1
    have hm' := ihs m' (by omega)
    split at e1
    ·rename_i st2 h2
     refine wpIn_mono (hm' _ _ _ _ _ _ h2 nt hc n B X1 O1 w1 a1 s1 rd (hrd.step p1 fun h => h)) fun e2 a2 w2 h => ?_
     obtain ⟨hex, X2, O2, s2, p2⟩ := h
     cases e2 <;> simp only [ExR] at hex
     exact ⟨m', by omega, by omega, st2, X2, O2, s2, p1.trans p2, e1⟩
    ·rename_i hne
     refine wpIn_mono (hm' _ _ _ _ _ _ e1 nt hc n B X1 O1 w1 a1 s1 rd (hrd.step p1 fun h => h)) fun e2 a2 w2 h => ?_
     obtain ⟨hex, X2, O2, s2, p2⟩ := h
     obtain ⟨r1, r2⟩ := r
     cases e2 with
     | normal =>
      cases r1 <;> simp only [ExR] at hex
      exact absurd e1 (hne r2)
     | _ => exact ⟨hex, X2, O2, s2, p1.trans p2⟩
  | scope x =>
   simp only [codeOk] at hc
   refine wpIn_scope ?_
   refine wpIn_mono (ihm _ _ _ _ _ _ e nt hc n B X O w a s rd (hrd.sub fun h => h)) fun e1 a1 w1 h => ?_
   cases e1 with
   | goto l => obtain ⟨hex, _⟩ := h; cases hr : r.1 <;> rw [hr] at hex <;> exact hex.elim
   | _ => exact h
  | rangeFunc g ps asg bdy =>
   simp only [codeOk, Bool.and_eq_true] at hc
   obtain ⟨hg, hps, ⟨ha1, ha2⟩, hb1, hb2⟩ := hc
   have hps' : ∀ p ∈ ps.toList, p < a.tmps.size := fun p hp => by
    rw [s.n]; exact Nat.le_of_ble_eq_true (List.all_eq_true.1 hps p hp)
   have k1 : Gh.K f a.tmps.size asg := by rw [s.n]; exact (hE.gh _ _ _).2 ⟨ha1, ha2⟩
   have k2 : Gh.K f a.tmps.size bdy := by rw [s.n]; exact (hE.gh _ _ _).2 ⟨hb1, hb2⟩
   simp only [execB] at e
   split at e
   ·rename_i q g0 fa cap hev
    split at e
    ·rename_i v h' lp hin
     split at e
     ·rename_i bk f1 t1 ps1 as1 bd1 hbk
      cases e
      rw [s.lp, llen_eq] at hin
      rw [llen_eq] at hbk
      refine wpIn_rangeFunc fun fn hfn => ?_
      obtain ⟨l, mark, w1, rr, X1, O1, bi, c1, c2, c3, c4, c5, c6, c7, c8, c9, c10, c11⟩ := enter_ok (P := P) s.h hrd fn a.tmps ps asg bdy s.t hps' k1 k2
      have hgv : ∃ fs cs : Array Value, a.eval g = .func (.func g0) fs cs ∧ All2 (fun v x => VREL X v true [x]) fa fs.toList ∧ All2 (fun v x => VREL X v true [x]) cap cs.toList := by
       have hf : VREL X (ev st.t g) true [a.eval g] := ev_sound s.t hg
       have hflat : ∀ {l : List V} {wss : List (List Value)}, VRELs X l true wss → All2 (fun v x => VREL X v true [x]) l wss.flatten := by
        intro l
        induction l with
        | nil => intro wss h; simp only [VRELs] at h; subst h; exact All2.nil
        | cons v l ih =>
         intro wss h
         simp only [VRELs] at h
         obtain ⟨ws, r, rfl, h1, h2⟩ := h
         obtain ⟨y, rfl⟩ := VREL.single h1
         exact All2.cons h1 (ih h2)
       split at hev
       ·rename_i g' as' cap' he
        cases hev
        rw [he] at hf
        simp only [VREL] at hf
        obtain ⟨fs, cs, w1, w2, e1, h1, h2, h3, h4⟩ := hf
        refine ⟨fs, cs, (List.cons.inj e1).1, ?_, ?_⟩
        ·rw [h2]; exact hflat h1
        ·rw [h4]; exact hflat h3
       ·rename_i g' he
        cases hev
        rw [he] at hf
        simp only [VREL, REL] at hf
        exact ⟨#[], #[], (List.cons.inj hf).1, All2.nil, All2.nil⟩
       ·cases hev
      obtain ⟨fs, cs, hgv, hfa, hcap⟩ := hgv
      have hX := s.h.lt
      have hargs : All2 (fun v x => VREL X1 v true [x]) (fa ++ (.yld (st.h.length + 1) :: cap)) ((fs ++ #[Value.func (.yield l) #[] #[]]) ++ cs).toList := by
       simp only [Array.toList_append, List.append_assoc]
       refine (vals_mono hX c7.up.le hfa).app (All2.cons ?_ (vals_mono hX c7.up.le hcap))
       simp only [VREL]
       exact ⟨l, rfl, bi, c8, c9, c10⟩
      obtain ⟨hlp, ⟨fn0, cd, hpf, hbody, hnm⟩, hcall⟩ := inline_sound ihm hE hF hin c6 hargs
      have hres : (resolve a.eval (rangeCall g l) 0).run P w1 = .ok { target := .fn (.func g0) cs, args := fs ++ #[.func (.yield l) #[] #[]] } w1 := by
       have : (rangeCall g l).args.map a.eval = #[Value.func (.yield l) #[] #[]] := by simp [rangeCall, Act.eval]
       unfold resolve
       show (Deferred.ofValue (a.eval g) ((rangeCall g l).args.map a.eval)).run P w1 = _
       rw [hgv, this]; rfl
      refine ⟨l, mark, w1, _, w1, g0, (fs ++ #[Value.func (.yield l) #[] #[]]) ++ cs, w1, c1, hres, fun f' _ => hF.fn f', ?_, hF.room, ?_⟩
      ·show (callFunc g0 _).run P w1 = _
       exact callFunc_enter hpf hbody hnm _
      have hcl : CallsIn F (n - 1) P g0 ((fs ++ #[Value.func (.yield l) #[] #[]]) ++ cs) w1 _ := hcall (n - 1)
      refine CallsIn.mono (F := F) hcl fun e3 w3 he => ?_
      cases e3 with
      | panicked c => exact he.elim
      | outgrown => exact he.elim
      | returned x =>
       obtain ⟨X3, O3, d1, d2, d3⟩ := he
       have l3 := d3.up.obj l _ c2 rfl
       have hend := run_endLoop (P := P) l3 (by rw [c3]; simp)
       have hw4 : ∀ {o : Obj}, World.putObj w3 l o = objW w3 l o := fun {_} => rfl
       rw [hw4] at hend
       generalize hoe : Obj.loop { rr with state := .exhausted } = oe at hend
       rw [c4] at hend
       refine ⟨none, _, hend, ?_⟩
       show Post nt B X O w st _ .normal _ _
       have hoc : oe.isCells = false := by rw [← hoe]; rfl
       have S13 := c7.trans d3
       have hsub : ∀ c k, hget (lset h' (st.h.length + 1) none) c = some k → hget h' c = some k ∧ c ≠ st.h.length + 1 := fun c k hc => by
        rw [lset_eq, hget_eq, List.getElem?_set] at hc
        by_cases hcb : st.h.length + 1 = c
        ·subst hcb; simp at hc; split at hc <;> simp at hc
        ·rw [if_neg hcb] at hc; exact ⟨by rw [hget_eq]; exact hc, Ne.symm hcb⟩
       have hnone : ∀ c, hget (lset h' (st.h.length + 1) none) c = none → c = st.h.length + 1 ∨ hget h' c = none := fun c hc => by
        by_cases hcb : c = st.h.length + 1
        ·exact .inl hcb
        ·right
         rw [lset_eq, hget_eq, List.getElem?_set, if_neg (Ne.symm hcb)] at hc
         rw [hget_eq]; exact hc
       have hlen : (lset h' (st.h.length + 1) none).length = h'.length := by rw [lset_eq, List.length_set]
       have hO3 : O3 (st.h.length + 1) ⟨l, 0, none⟩ := by
        obtain ⟨bi', l', r', b1, b2, b3, b4, b5, b6, b7⟩ := d1.blk _ _ hbk
        obtain ⟨bj, m1, m2, m3, m4⟩ := d3.up.le.M _ _ (by simp) c8
        have := m4 c10; subst this
        rw [b1] at m1; cases m1
        rw [c9] at b4; cases b4
        exact b6
       have hno : ∀ c k, hget (lset h' (st.h.length + 1) none) c = some k → ¬ O3 c ⟨l, 0, none⟩ := fun c k hc o => (hsub c k hc).2 (d1.dis c _ _ o hO3)
       have hv : HR B X3 O3 w3 (lset h' (st.h.length + 1) none) := ⟨fun c k hc => d1.blk c k (hsub c k hc).1, d1.own, d1.dis, by rw [hlen]; exact d1.lt, d1.ci, d1.wb⟩
       have hr4 : HR B X3 O3 (objW w3 l oe) (lset h' (st.h.length + 1) none) := hv.obj l3 rfl hoc hno
       have hB : B ≤ l := (d1.own _ _ hO3).1
       have hwl : ∀ (g : Nat) (o : Obj), w.heap[g]? = some o → g ≠ l := fun g o e hgl => by
        have := (Array.getElem?_eq_some_iff.1 e).1; omega
       have hsz := S13.up.below.size
       have hst : Step B X O w st.h X3 O3 (objW w3 l oe) (lset h' (st.h.length + 1) none) := by
        refine ⟨⟨S13.up.le, S13.up.below.trans (objW_below w3 _ hB), S13.up.fresh, fun r o e lp => ?_⟩, by rw [hlen]; exact S13.len, ⟨fun c ci e hn => ?_, S13.fr.M, S13.fr.own, fun c ci e hn x o u eu => ?_, fun c ci e hn r o ob eo ho => ?_, fun c ci e hn g ho hg => ?_, fun c hc => ?_, fun c hcl e hn => ?_⟩⟩
        ·rw [objW_other w3 _ (hwl r o e)]; exact S13.up.obj r o e lp
        ·cases hq : hget (lset h' (st.h.length + 1) none) c with
         | none => rfl
         | some k => exact absurd (hsub c k hq).1 (by rw [S13.fr.hid c ci e hn]; simp)
        ·rw [objW_cell l3 rfl hoc, objW_frozen l3 rfl hoc]; exact S13.fr.cell c ci e hn x o u eu
        ·rw [objW_other w3 _ (hwl r ob eo)]; exact S13.fr.obj c ci e hn r o ob eo ho
        ·rw [objW_other w3 _ (by omega)]; exact S13.fr.blk c ci e hn g ho hg
        ·rcases hnone c hc with rfl | hc
         ·rw [hget_eq, List.getElem?_eq_none (by omega)]; rfl
         ·exact S13.fr.vis c hc
        ·exact S13.fr.unk c hcl e ((hnone c hn).resolve_left (by omega))
       refine ⟨trivial, X3, O3, ⟨s.t.mono hX hst.up.le, s.n, by simpa using hr4, ?_, hlp⟩, by simpa using hst⟩
       have hdf : DF X3 O3 (objW w3 l oe) (lset h' (st.h.length + 1) none) a.defers st.df := s.df.step hX hst
       rcases c11 with ⟨hf0, D, bd, m1, m2, m3, m4, m5, m6⟩ | ⟨hf0, m1⟩
       ·subst hf0
        subst m1
        have hhid : hget (st.h ++ [none, some (.lp f st.t ps.toList asg bdy)]) st.h.length = none := by
         rw [hget_append, if_neg (Nat.lt_irrefl _), Nat.sub_self]; rfl
        have hD3 := d3.fr.obj _ _ m5 hhid D m6 _ m4 rfl
        have hM3 := d3.fr.M _ _ m5 hhid
        have hO3D := d3.fr.own _ _ m5 hhid _ m6
        have hh3 := d3.fr.hid _ _ m5 hhid
        simp only [Nat.beq_refl, cond_true, llen_eq]
        refine ⟨All2.cons (.inl ⟨rfl, D, bd, rfl, ?_, hM3, ?_, hO3D⟩) hdf.1, List.pairwise_cons.2 ⟨fun d' hd' D' hD' h2 => ?_, hdf.2⟩⟩
        ·rw [objW_other w3 _ m3]; exact hD3
        ·cases hq : hget (lset h' (st.h.length + 1) none) st.h.length with
         | none => rfl
         | some k => have := (hsub _ k hq).1; rw [hh3] at this; cases this
        ·cases hD'
         obtain ⟨p, hp⟩ := All2.mem_right s.df.1 hd'
         rcases hp with ⟨_, D2, _, t1, t2, _⟩ | ⟨_, cp, t1, _⟩
         ·rw [h2] at t1; cases t1
          have := (Array.getElem?_eq_some_iff.1 t2).1; omega
         ·rw [h2] at t1; cases t1
       ·subst m1
        have : Nat.beq fb 0 = false := by
         cases hb : Nat.beq fb 0 with
         | false => rfl
         | true => exact absurd (beq_of hb) hf0
        simp only [this, cond_false]
        simpa using hdf
     ·cases e
    ·cases e
   ·cases e
  | _ => cases e
end
end Go.As
