/-
  AS: the evaluator is right.
-/
import Derived.Test.YtphcebdhnpbjlaaGreatDoorAsDraw6
import Derived.Scope
set_option linter.unusedSectionVars false
set_option linter.unusedSimpArgs false
set_option linter.unusedVariables false
namespace Go.As
open Go.RowKit (Below)
variable [Gh]

section
variable {F : Fence} {n : Nat} {P : Program} {Q : Exit → Act → World → Prop} {a : Act} {w : World}

theorem least {p : Nat → Prop} (h : ∃ m, p m) : ∃ m, p m ∧ ∀ k, p k → m ≤ k := by
  obtain ⟨m, hm⟩ := h
  induction m using Nat.strongRecOn with
  | _ m ih =>
    by_cases hx : ∃ k, k < m ∧ p k
    · obtain ⟨k, hk, hp⟩ := hx; exact ih k hk hp
    · exact ⟨m, hm, fun k hp => Nat.le_of_not_lt fun hk => hx ⟨k, hk, hp⟩⟩
open Classical in
/-- A loop, a number that every round lowers being handed along. -/
theorem wpIn_loop_fuel {c : Code} (J : Nat → Act → World → Prop) {m : Nat} (h0 : J m a w)
    (round : ∀ m a w, J m a w → c.wpIn F n P (Exit.then (fun a' w' => ∃ m', m' < m ∧ J m' a' w') Q) a w) : (Code.loop c).wpIn F n P Q a w := by
  refine wpIn_loop (fun a w => ∃ m, J m a w) (fun a w => if h : ∃ m, J m a w then Classical.choose (least h) else 0) ⟨m, h0⟩ fun a w h => ?_
  refine wpIn_mono (round _ a w (Classical.choose_spec (least h)).1) fun e a' w' he => ?_
  cases e with
  | normal =>
    obtain ⟨m', hlt, hj⟩ := he
    refine ⟨⟨m', hj⟩, ?_⟩
    rw [dif_pos ⟨m', hj⟩, dif_pos h]
    exact Nat.lt_of_le_of_lt ((Classical.choose_spec (least ⟨m', hj⟩)).2 _ hj) hlt
  | _ => exact he

theorem stepR_scope {b : Frame} {k : List Item} {cs : List Frame} {c : Code} : step P (lone (b.atR a (.code (.scope c) :: k)) cs w) = .next (lone (b.atR a (.code c :: .inScope c :: k)) cs w) :=
  step_lone_go (by simp [stepG, stepG.exec, Frame.atR])
theorem stepR_inScope {b : Frame} {k : List Item} {cs : List Frame} {c : Code} : step P (lone (b.atR a (.inScope c :: k)) cs w) = .next (lone (b.atR a k) cs w) :=
  step_lone_go (by simp [stepG, stepG.exec, Frame.atR])
theorem wpIn_scope {c : Code} (h : c.wpIn F n P (Exit.noGoto Q) a w) : (Code.scope c).wpIn F n P Q a w := by
  intro b k cs hro hb hr
  have h0 : (lone (b.atR a (.code (.scope c) :: k)) cs w).fenced P F := fenced_calm hb hr rfl
  obtain ⟨e, a₁, w₁, hq, harr⟩ := h b (.inScope c :: k) cs hro hb hr
  cases e with
  | normal => exact ⟨.normal, a₁, w₁, hq, .head h0 stepR_scope (StepsIn.trans harr (.one (fenced_calm hb hr rfl) stepR_inScope))⟩
  | exit id =>
    have hx : exitTo id (.inScope c :: k) = exitTo id k := by simp [exitTo]
    exact ⟨.exit id, a₁, w₁, hq, fun k' hk => .head h0 stepR_scope (harr.1 k' (by rw [hx]; exact hk)),
      fun hr' hk => let ⟨k₁, h1, h2⟩ := harr.2 hr' (by rw [hx]; exact hk); ⟨k₁, h1, .head h0 stepR_scope h2⟩⟩
  | goto l => exact hq.elim
  | ret => exact ⟨_, a₁, w₁, hq, .of_steps (.one h0 stepR_scope) harr⟩
  | panic ch => exact ⟨_, a₁, w₁, hq, .of_steps (.one h0 stepR_scope) harr⟩
  | outgrown => exact ⟨_, a₁, w₁, hq, .of_steps (.one h0 stepR_scope) harr⟩
end

section
variable {F : Fence} {P : Program} {B : Nat} {X : Cx} {O : Nat → Addr → Prop} {w : World} {h : Heap} {E : Env} {ih : Nat → Nat → Nat → Code → St → Option (Ex × St)}

/-- Room for a region's own blocks. -/
theorem room_ok (hr : HR B X O w h) (n : Nat) {w' : World} (hb : Below w.heap.size w w') : HR B X O w' (h ++ reps n none) ∧ Step B X O w h X O w' (h ++ reps n none) := by
  obtain ⟨g1, g2⟩ := grown_same hr hb
  have hge : ∀ b, hget (h ++ reps n none) b = hget h b := fun b => by
    rw [hget_append]; split
    · rfl
    · rename_i hlt
      have h2 : hget h b = none := by rw [hget_eq, List.getElem?_eq_none (by omega)]; rfl
      rw [h2, hget_eq, reps_eq, List.getElem?_replicate]; split <;> rfl
  refine ⟨⟨fun b k e => g1.blk b k (by rw [← hge]; exact e), g1.own, g1.dis, fun b bi e => by have := g1.lt b bi e; simp; omega, g1.ci, g1.wb⟩, g2.up, by simp, ?_⟩
  exact ⟨fun b bi e hn => by rw [hge]; exact hn, g2.fr.M, g2.fr.own, g2.fr.cell, g2.fr.obj, g2.fr.blk, fun b e => by rw [← hge]; exact e, fun b _ e _ => e⟩

/-! ### an activation, and a round -/
def noD (o : Oper) : Bool := match o.op with | .defer _ => false | _ => true
theorem noD_sem {o : Oper} (h : noD o = true) (rd : Option Nat) (ρ : Operand → Value) : o.semAt rd ρ = execOp ρ o := by
  unfold noD at h
  cases rd with
  | none => rfl
  | some l => unfold Oper.semAt; cases ho : o.op <;> first | rfl | (rw [ho] at h; cases h)
theorem upon_at {F : Fence} {n : Nat} {o : Oper} {a : Act} {K K' : Act → World → Prop} {Q : Exit → Act → World → Prop} (rd : Option Nat) (hK : ∀ a w, K a w → K' a w) {r : Result Next} (h : o.uponIn F n P a K Q r) : o.uponIn (fAt F rd) n P a K' Q r := by
  cases r with
  | ok x w' =>
    cases x <;> simp only [Oper.uponIn] at h ⊢
    case value u => exact hK _ _ h
    case skip => exact hK _ _ h
    case defer d => exact hK _ _ h
    case enter f args =>
      refine ⟨h.1, CallsIn.mono (F := F) h.2 fun e w'' he => ?_⟩
      cases e with
      | returned u => exact hK _ _ he
      | panicked c => exact he
      | outgrown => exact he
    case row row args => exact ⟨h.1, RowsIn.mono (F := F) h.2 fun u w'' he => hK _ _ he⟩
    case round l f tmps assign body =>
      refine ⟨h.1, RoundIn.mono (F := F) h.2 fun e w'' he => ?_⟩
      cases e with
      | returned u => exact hK _ _ he
      | panicked c => exact he
      | outgrown => exact he
  | halt x w' =>
    cases x <;> simp only [Oper.uponIn] at h ⊢
    case panic u => exact h
theorem oper_at {F : Fence} (hF : F.round = none) {n : Nat} {o : Oper} {a : Act} {w : World} {K K' : Act → World → Prop} {Q : Exit → Act → World → Prop} {rd : Option Nat} (hd : rd = none ∨ noD o = true) (hK : ∀ a w, K a w → K' a w) (h : o.wpIn F n P a w K Q) : o.wpIn (fAt F rd) n P a w K' Q := by
  unfold Oper.wpIn at h ⊢
  refine ⟨h.1, ?_⟩
  have h2 := h.2
  rw [hF] at h2
  have : o.semAt (fAt F rd).round a.eval = o.semAt none a.eval := by
    show o.semAt rd a.eval = _
    rcases hd with rfl | hd
    · rfl
    · rw [noD_sem hd, noD_sem hd]
  rw [this]
  exact upon_at rd hK h2
theorem wpOps_at {F : Fence} (hF : F.round = none) {n : Nat} {ops : Array Oper} {Q : Exit → Act → World → Prop} {rd : Option Nat} (hd : rd = none ∨ ∀ o ∈ ops.toList, noD o = true) : ∀ (l : List Nat) (a : Act) (w : World), wpOpsIn F n P ops Q l a w → wpOpsIn (fAt F rd) n P ops Q l a w
  | [], _, _, h => h
  | i :: l, a, w, h => by
    simp only [wpOpsIn] at h ⊢
    cases ho : ops[i]? with
    | none => rw [ho] at h; exact wpOps_at hF hd l a w h
    | some o =>
      rw [ho] at h
      simp only at h ⊢
      have hmem : o ∈ ops.toList := by
        rw [← Array.getElem?_toList] at ho; exact List.mem_of_getElem? ho
      split
      · rename_i hw
        rw [if_pos hw] at h
        exact oper_at hF (hd.imp id fun h => h o hmem) (fun a w h => wpOps_at hF hd l a w h) h
      · rename_i hw
        rw [if_neg hw] at h
        exact ⟨h.1, wpOps_at hF hd l _ w h.2⟩
theorem wpAny_at {F : Fence} (hF : F.round = none) {n : Nat} {md : Region.Mode} {ops : Array Oper} {Q : Exit → Act → World → Prop} {rd : Option Nat} (hd : rd = none ∨ ∀ o ∈ ops.toList, noD o = true) : ∀ (fuel : Nat) (listed : Array Bool) (a : Act) (w : World), wpAnyIn F n P md ops Q fuel listed a w → wpAnyIn (fAt F rd) n P md ops Q fuel listed a w
  | 0, _, _, _, h => h
  | fuel + 1, listed, a, w, h => by
    refine ⟨h.1, fun i hi => ?_⟩
    have h2 := h.2 i hi
    unfold wpOpIn at h2 ⊢
    cases ho : ops[i]? with
    | none => rw [ho] at h2; exact wpAny_at hF hd fuel _ a w h2
    | some o =>
      rw [ho] at h2
      simp only at h2 ⊢
      have hmem : o ∈ ops.toList := by
        rw [← Array.getElem?_toList] at ho; exact List.mem_of_getElem? ho
      split
      · rename_i hw
        rw [if_pos hw] at h2
        exact oper_at hF (hd.imp id fun h => h o hmem) (fun a w h => wpAny_at hF hd fuel _ a w h) h2
      · rename_i hw
        rw [if_neg hw] at h2
        exact ⟨h2.1, wpAny_at hF hd fuel _ _ w h2.2⟩
theorem RdOk.step {fb : Nat} {c c' : Code} {rd : Option Nat} (h : RdOk w fb c rd) {X' : Cx} {O' : Nat → Addr → Prop} {w' : World} {h0 h' : Heap} (s : Step B X O w h0 X' O' w' h') (hc : noDefer c = true → noDefer c' = true) : RdOk w' fb c' rd := by
  cases rd with
  | none => exact h
  | some l =>
    obtain ⟨h1, h2, r, h3⟩ := h
    exact ⟨h1, hc h2, r, s.up.obj l _ h3 rfl⟩
theorem RdOk.sub {fb : Nat} {c c' : Code} {rd : Option Nat} (h : RdOk w fb c rd) (hc : noDefer c = true → noDefer c' = true) : RdOk w fb c' rd := by
  cases rd with
  | none => exact h
  | some l =>
    obtain ⟨h1, h2, r, h3⟩ := h
    exact ⟨h1, hc h2, r, h3⟩
theorem RdOk.ops {fb id : Nat} {ops : Array Oper} {d : Bool} {rd : Option Nat} (h : RdOk w fb (.region id ops d) rd) : rd = none ∨ ∀ o ∈ ops.toList, noD o = true := by
  cases rd with
  | none => exact .inl rfl
  | some l =>
    obtain ⟨h1, h2, r, h3⟩ := h
    refine .inr fun o ho => ?_
    have := List.all_eq_true.1 h2 o ho
    unfold noD; exact this

theorem regionD_sound (hih : CodeS F P E ih) (hE : EnvOk F P E) (hF : Fen F) {f id : Nat} {ops : Array Oper} {st st' : St} {nt q : Nat} {a : Act} (e : regionD E ih f id ops st = some st') (s : SR nt B X O w a st)
    (hops : ∀ o ∈ ops.toList, opOk nt o = true) (hdr : (match E.dr f id with | some ds => drOk E ops ds | none => true) = true) {rd : Option Nat} (hrd : rd = none ∨ ∀ o ∈ ops.toList, noD o = true) : (Code.region id ops true).wpIn (fAt F rd) q P (Post nt B X O w st (.nm, st')) a w := by
  unfold regionD at e
  rw [Option.bind_eq_some_iff] at e
  obtain ⟨ds, hds, e⟩ := e
  rw [hds] at hdr
  simp only at hdr e
  obtain ⟨bf, hd⟩ := drOk_all hdr
  refine wpIn_region_any hE.mixed (wpAny_at hF.round hrd _ _ _ _ ?_)
  obtain ⟨g1, g2⟩ := room_ok s.h (news E ops.toList) (w' := { w with drawn := w.drawn + 1 }) ((Below.refl w.heap.size w).drew)
  have hlen : (st.h ++ reps (news E ops.toList) none).length = st.h.length + news E ops.toList := by simp
  have e1 := runOpsD_runL (ds := ds) ops.toList 0 _ rfl st' e
  rw [llen_eq] at e1
  refine any_sound (F := F) (X0 := X) (O0 := O) (w0 := w) (h0 := st.h) hih hE hF hd hops (fun X' O' w' a' s' p' => ⟨trivial, X', O', s', p'⟩) ops.size (List.range' 0 ops.toList.length) _ ⟨st.t, st.h ++ reps (news E ops.toList) none, st.lp, st.df⟩ X O _ a (by simp) List.pairwise_lt_range' (by simp) (fun j => ?_) (fun j hj hjs => ?_) e1 (s.step g1 g2) (fun b h1 h2 _ => ?_) (by rw [hlen]; exact Nat.le_refl _) g2
  · rw [List.mem_range'_1, Array.getD_eq_getD_getElem?, Array.getElem?_replicate]
    simp only [Array.length_toList, Nat.zero_le, true_and, Nat.zero_add]
    split <;> simp [*]
  · exact absurd (by rw [List.mem_range'_1]; simp; exact hjs) hj
  · cases hm : X.M b with
    | none => rfl
    | some bi => have := s.h.lt b bi hm; omega

theorem hput_end (h : Heap) (k : Blk) : hput h h.length k = h ++ [some k] := by
  induction h with
  | nil => rfl
  | cons b h ih => rw [List.length_cons, hput_cons, ih]; rfl
/-- A block that nobody sees: an object that shall stay. -/
theorem hidden_ok (hr : HR B X O w h) {w' : World} (hk : Keep w w') (hB : Below w.heap.size w w') (D : Nat) (h1 : w.heap.size ≤ D) (h2 : D < w'.heap.size) : HR B (X.withM h.length ⟨0, none, 0, 0, true⟩) (fun b => if b = h.length then (fun a => a = ⟨D, 0, none⟩) else O b) w' (h ++ [none]) ∧
    Step B X O w h (X.withM h.length ⟨0, none, 0, 0, true⟩) (fun b => if b = h.length then (fun a => a = ⟨D, 0, none⟩) else O b) w' (h ++ [none]) := by
  have hM := nid_M hr
  have hge : ∀ b, hget (h ++ [none]) b = hget h b := fun b => by
    have := (hget_append h [none] b); rw [this]; split
    · rfl
    · rename_i hlt
      have h2 : hget h b = none := by rw [hget_eq, List.getElem?_eq_none (by omega)]; rfl
      rw [h2, hget_eq]; cases b - h.length <;> rfl
  have hlt : ∀ b k, hget h b = some k → b ≠ h.length := fun b k e => Nat.ne_of_lt (hget_lt e)
  have hne : ∀ b bj, X.M b = some bj → b ≠ h.length := fun b bj e hb => by subst hb; rw [hM] at e; cases e
  have hci : ∀ a v, X.C a = some v → a.block < w.heap.size := fun a v e => World.block_lt_of_cell? w a (hr.ci a v e)
  refine ⟨⟨fun b k e => ?_, fun b a o => ?_, fun b c a o o' => ?_, fun b bj e => ?_, hr.ci.keep hk, Nat.le_trans hr.wb hB.size⟩, ⟨Up.add hM (hB.mono hr.wb) hk _ _, by simp, ⟨fun b bj e hn => by rw [hge]; exact hn, fun b bj e _ => by rw [Cx.withM_other X _ (hne b bj e)]; exact e, fun b bj e _ a o => by simp only [if_neg (hne b bj e)]; exact o,
    fun b bj _ _ a _ v ev => ⟨hk.cell _ _ ev, hk.frozen _ _ ev⟩, fun b bj _ _ a _ o eo _ => hk.obj _ _ eo, fun b bj _ _ g _ hg => hk.block g hg, fun b e => by rw [← hge]; exact e, fun b hb e _ => by rw [Cx.withM_other X _ (Nat.ne_of_lt hb)]; exact e⟩⟩⟩
  · rw [hge] at e
    simp only [if_neg (hlt b k e)]
    exact (hr.blk b k e).later hr.lt (Cx.withM_le _ hM) (Cx.withM_other X _ (hlt b k e)) hk (fun _ h => h)
  · by_cases hbn : b = h.length
    · simp only [hbn, if_true] at o
      subst o
      refine ⟨Nat.le_trans hr.wb h1, h2, ?_⟩
      show X.C _ = none
      cases hc : X.C ⟨D, 0, none⟩ with
      | none => rfl
      | some v => have := hci _ v hc; simp only at this; omega
    · simp only [if_neg hbn] at o
      obtain ⟨q1, q2, q3⟩ := hr.own b a o
      exact ⟨q1, Nat.lt_of_lt_of_le q2 hB.size, q3⟩
  · by_cases hbn : b = h.length <;> by_cases hcn : c = h.length
    · rw [hbn, hcn]
    · simp only [hbn, if_true] at o; simp only [if_neg hcn] at o'
      subst o
      have := (hr.own c _ o').2.1; simp only at this; omega
    · simp only [hcn, if_true] at o'; simp only [if_neg hbn] at o
      subst o'
      have := (hr.own b _ o).2.1; simp only at this; omega
    · simp only [if_neg hbn] at o; simp only [if_neg hcn] at o'
      exact hr.dis b c a o o'
  · by_cases hbn : b = h.length
    · subst hbn; simp
    · rw [Cx.withM_other X _ hbn] at e
      have := hr.lt b bj e
      simp; omega
theorem plain_ok (hr : HR B X O w h) : HR B X O w (h ++ [none]) ∧ Step B X O w h X O w (h ++ [none]) := by
  have := room_ok hr 1 (Below.refl w.heap.size w)
  exact this

/-- Where a range over a function is entered: the record and, in an activation, the mark's block. -/
theorem enter_ok (hr : HR B X O w h) {fb : Nat} {c : Code} {rd : Option Nat} (hrd : RdOk w fb c rd) (fn : Nat) (tmps : Array Value) (ps : Array Nat) (asg body : Code) {f : Nat} {t : Tm} (ht : TR X t tmps) (hps : ∀ p ∈ ps.toList, p < tmps.size) (k1 : Gh.K f tmps.size asg) (k2 : Gh.K f tmps.size body) :
    ∃ (l : Nat) (mark : List Deferred) (w1 : World) (r : Loop) (X1 : Cx) (O1 : Nat → Addr → Prop) (bi : BI), (Instr.enterLoop fn tmps ps asg body rd).run P w = .ok (l, mark) w1 ∧ w1.heap[l]? = some (.loop r) ∧ r.state = .ready ∧ r.pending = none ∧ w.heap.size ≤ l ∧
      HR B X1 O1 w1 (h ++ [none, some (.lp f t ps.toList asg body)]) ∧ Step B X O w h X1 O1 w1 (h ++ [none, some (.lp f t ps.toList asg body)]) ∧ X1.M (h.length + 1) = some bi ∧ bi.base = some ⟨l, 0, none⟩ ∧ bi.fix = true ∧
      ((fb = 0 ∧ ∃ D bd, mark = [{ target := .collected D, args := #[] }] ∧ w.heap.size ≤ D ∧ D ≠ l ∧ w1.heap[D]? = some (.deferred (some [])) ∧ X1.M h.length = some bd ∧ O1 h.length ⟨D, 0, none⟩) ∨ (fb ≠ 0 ∧ mark = [])) := by
  have last : ∀ {X' : Cx} {O' : Nat → Addr → Prop} {w' : World} (r : Loop), HR B X' O' w' (h ++ [none]) → Step B X O w h X' O' w' (h ++ [none]) → r.state = .ready → r.pending = none → r.params = ps → r.assign = asg → r.body = body → r.tmps = tmps →
      HR B (X'.withM (h.length + 1) ⟨0, some ⟨w'.heap.size, 0, none⟩, 0, 0, true⟩) (fun b => if b = h.length + 1 then (fun a => a = ⟨w'.heap.size, 0, none⟩) else O' b) (w'.alloc (.loop r)) (h ++ [none, some (.lp f t ps.toList asg body)]) ∧
      Step B X O w h (X'.withM (h.length + 1) ⟨0, some ⟨w'.heap.size, 0, none⟩, 0, 0, true⟩) (fun b => if b = h.length + 1 then (fun a => a = ⟨w'.heap.size, 0, none⟩) else O' b) (w'.alloc (.loop r)) (h ++ [none, some (.lp f t ps.toList asg body)]) := fun {X' O' w'} r hr' st e1 e2 e3 e4 e5 e6 => by
    have hlen : (h ++ [none]).length = h.length + 1 := by simp
    have hM : X'.M (h.length + 1) = none := by have := nid_M hr'; rwa [hlen] at this
    have hk := Keep.alloc w' (.loop r)
    have hsz : (w'.alloc (.loop r)).heap.size = w'.heap.size + 1 := by simp
    have heq : h ++ [none, some (.lp f t ps.toList asg body)] = hput (h ++ [none]) (h.length + 1) (.lp f t ps.toList asg body) := by
      rw [← hlen, hput_end]; simp
    have hn : hget (h ++ [none]) (h.length + 1) = none := by rw [hget_eq, List.getElem?_eq_none (by simp)]; rfl
    have htm : TR X' t tmps := ht.mono hr.lt st.up.le
    have hbr : BR (X'.withM (h.length + 1) ⟨0, some ⟨w'.heap.size, 0, none⟩, 0, 0, true⟩) (w'.alloc (.loop r)) (fun a => a = ⟨w'.heap.size, 0, none⟩) (h.length + 1) (.lp f t ps.toList asg body) := by
      refine ⟨_, w'.heap.size, r, Cx.withM_same _ _ _, rfl, rfl, rfl, World.alloc_heap_new w' _, rfl, ⟨e1, e2, by rw [e3], e4, e5, ?_, by rw [e6]; exact hps, by rw [e6]; exact k1, by rw [e6]; exact k2⟩⟩
      rw [e6]
      exact htm.mono hr'.lt (Cx.withM_le _ hM)
    rw [heq]
    have hadd := hr'.add hn hM (by rw [hlen]; exact Nat.le_refl _) hk (by rw [hsz]; omega) ⟨0, some ⟨w'.heap.size, 0, none⟩, 0, 0, true⟩ (fun a => a = ⟨w'.heap.size, 0, none⟩) (.lp f t ps.toList asg body) (fun a ha => by subst ha; simp) hbr
    refine ⟨hadd, st.trans ⟨Up.add hM ((below_alloc w' (.loop r)).mono hr'.wb) hk _ _, by rw [hput_len]; split <;> omega, FR.add hM (by rw [hlen]; exact Nat.le_refl _) hk _ _ _⟩⟩
  cases rd with
  | none =>
    let w' := w.alloc (.deferred (some []))
    have hsz : w'.heap.size = w.heap.size + 1 := by simp [w']
    obtain ⟨q1, q2⟩ := hidden_ok hr (Keep.alloc w (.deferred (some []))) (below_alloc w (.deferred (some []))) w.heap.size (Nat.le_refl _) (by simp)
    let r : Loop := { state := .ready, pending := none, fn, tmps, params := ps, assign := asg, body, defers := w.heap.size }
    obtain ⟨u1, u2⟩ := last r q1 q2 rfl rfl rfl rfl rfl rfl
    refine ⟨w.heap.size + 1, [{ target := .collected w.heap.size, args := #[] }], w'.alloc (.loop r), r, _, _, _, run_enterLoop_outer _ _ _ _ _, ?_, rfl, rfl, by omega, u1, u2, Cx.withM_same _ _ _, by rw [hsz], rfl, .inl ⟨hrd, w.heap.size, ⟨0, none, 0, 0, true⟩, rfl, Nat.le_refl _, by omega, ?_, ?_, ?_⟩⟩
    · have := World.alloc_heap_new w' (.loop r); rwa [hsz] at this
    · exact (Below.heap_alloc w' _ _ (by rw [hsz]; omega)).trans (World.alloc_heap_new w _)
    · rw [Cx.withM_other _ _ (by omega)]; exact Cx.withM_same _ _ _
    · simp
  | some l0 =>
    obtain ⟨h1, h2, r0, h3⟩ := hrd
    obtain ⟨q1, q2⟩ := plain_ok hr
    let r : Loop := { state := .ready, pending := none, fn, tmps, params := ps, assign := asg, body, defers := r0.defers }
    obtain ⟨u1, u2⟩ := last r q1 q2 rfl rfl rfl rfl rfl rfl
    exact ⟨w.heap.size, _, _, r, _, _, _, run_enterLoop_inner h3 _ _ _ _ _, World.alloc_heap_new w _, rfl, rfl, Nat.le_refl _, u1, u2, Cx.withM_same _ _ _, rfl, rfl, .inr ⟨h1, rfl⟩⟩

theorem All2.mem_right {α β : Type} {R : α → β → Prop} : ∀ {l : List α} {r : List β}, All2 R l r → ∀ {y : β}, y ∈ r → ∃ x, R x y
  | [], r, h, y, hy => by simp [All2] at h; subst h; cases hy
  | x :: l, r, h, y, hy => by
    obtain ⟨z, zs, rfl, h1, h2⟩ := h
    rcases List.mem_cons.1 hy with rfl | hy
    · exact ⟨x, h1⟩
    · exact All2.mem_right h2 hy
theorem exec_sound (hE : EnvOk F P E) (hF : Fen F) : ∀ m, CodeS F P E (exec E m) := by
  intro m
  induction m using Nat.strongRecOn with
  | _ m ihs =>
  cases m with
  | zero => intro f fb cur c st r e; cases e
  | succ m =>
    have ihm := ihs m (Nat.lt_succ_self m)
    intro f fb cur c st r e nt hc n B X O w a s rd hrd
    have e : execB E (exec E m) f fb cur c st = some r := e
    cases c with
    | skip => cases e; exact wpIn_skip ⟨trivial, X, O, s, .refl _ _ _ _ _⟩
    | label l => cases e; exact wpIn_label ⟨trivial, X, O, s, .refl _ _ _ _ _⟩
    | exit id => cases e; exact wpIn_exit ⟨rfl, X, O, s, .refl _ _ _ _ _⟩
    | ret => cases e; exact wpIn_ret ⟨trivial, X, O, s, .refl _ _ _ _ _⟩
    | region id ops draw =>
      simp only [codeOk, Bool.and_eq_true] at hc
      simp only [execB] at e
      split at e
      · rename_i st' h1
        cases e
        cases draw with
        | true => exact regionD_sound ihm hE hF h1 s (fun o ho => List.all_eq_true.1 hc.1 o ho) hc.2 hrd.ops
        | false =>
          refine wpIn_region ?_
          have := runOps_sound (n := n) (Q := Post nt B X O w st (.nm, st')) ihm hE hF ops.toList 0 (by simp) (fun o ho => List.all_eq_true.1 hc.1 o ho) s h1 fun X' O' w' a' s' p' => ⟨trivial, X', O', s', p'⟩
          rw [List.range_eq_range']
          refine wpOps_at hF.round hrd.ops _ _ _ ?_
          simpa using this
      · cases e
    | seq x y =>
      simp only [codeOk, Bool.and_eq_true] at hc
      simp only [execB] at e
      refine wpIn_seq ?_
      split at e
      · rename_i st1 h1
        refine wpIn_mono (ihm _ _ _ _ _ _ h1 nt hc.1 n B X O w a s rd (hrd.sub fun h => by simp only [noDefer, Bool.and_eq_true] at h; exact h.1)) fun e1 a1 w1 h => ?_
        obtain ⟨hex, X1, O1, s1, p1⟩ := h
        cases e1 <;> simp only [ExR] at hex
        refine wpIn_mono (ihm _ _ _ _ _ _ e nt hc.2 n B X1 O1 w1 a1 s1 rd (hrd.step p1 fun h => by simp only [noDefer, Bool.and_eq_true] at h; exact h.2)) fun e2 a2 w2 h => ?_
        obtain ⟨hex2, X2, O2, s2, p2⟩ := h
        exact ⟨hex2, X2, O2, s2, p1.trans p2⟩
      · rename_i hne
        refine wpIn_mono (ihm _ _ _ _ _ _ e nt hc.1 n B X O w a s rd (hrd.sub fun h => by simp only [noDefer, Bool.and_eq_true] at h; exact h.1)) fun e1 a1 w1 h => ?_
        obtain ⟨hex, X1, O1, s1, p1⟩ := h
        obtain ⟨r1, r2⟩ := r
        cases e1 with
        | normal =>
          cases r1 <;> simp only [ExR] at hex
          exact absurd e (hne r2)
        | _ => exact ⟨hex, X1, O1, s1, p1⟩
    | cond x y z =>
      simp only [codeOk, Bool.and_eq_true] at hc
      simp only [execB] at e
      split at e
      · rename_i t ht
        refine wpIn_cond (cond_sound s hc.1 ht) ?_
        cases t with
        | true => exact ihm _ _ _ _ _ _ e nt hc.2.1 n B X O w a s rd (hrd.sub fun h => by simp only [noDefer, Bool.and_eq_true] at h; exact h.1)
        | false => exact ihm _ _ _ _ _ _ e nt hc.2.2 n B X O w a s rd (hrd.sub fun h => by simp only [noDefer, Bool.and_eq_true] at h; exact h.2)
      · cases e
    | block id x =>
      simp only [codeOk] at hc
      simp only [execB] at e
      refine wpIn_block ?_
      split at e
      · rename_i j st1 h1
        refine wpIn_mono (ihm _ _ _ _ _ _ h1 nt hc n B X O w a s rd (hrd.sub fun h => h)) fun e1 a1 w1 h => ?_
        obtain ⟨hex, X1, O1, s1, p1⟩ := h
        cases e1 <;> simp only [ExR] at hex
        subst hex
        simp only [Exit.inBlock]
        cases hj : Nat.beq j id with
        | true =>
          rw [hj, cond_true] at e
          cases e
          rw [if_pos (beq_of hj)]
          exact ⟨trivial, X1, O1, s1, p1⟩
        | false =>
          rw [hj, cond_false] at e
          cases e
          rw [if_neg (fun h => by rw [h, Nat.beq_refl] at hj; cases hj)]
          exact ⟨rfl, X1, O1, s1, p1⟩
      · rename_i hne
        refine wpIn_mono (ihm _ _ _ _ _ _ e nt hc n B X O w a s rd (hrd.sub fun h => h)) fun e1 a1 w1 h => ?_
        obtain ⟨hex, X1, O1, s1, p1⟩ := h
        obtain ⟨r1, r2⟩ := r
        cases e1 with
        | exit id' =>
          cases r1 <;> simp only [ExR] at hex
          exact absurd e (hne _ r2)
        | _ => exact ⟨hex, X1, O1, s1, p1⟩
    | loop x =>
      simp only [codeOk] at hc
      refine wpIn_loop_fuel (fun m' a' w' => m' ≤ m + 1 ∧ ∃ st1 X1 O1, SR nt B X1 O1 w' a' st1 ∧ Step B X O w st.h X1 O1 w' st1.h ∧ exec E m' f fb cur (.loop x) st1 = some r) (m := m + 1) ⟨Nat.le_refl _, st, X, O, s, .refl _ _ _ _ _, e⟩ fun m' a1 w1 h => ?_
      obtain ⟨hm, st1, X1, O1, s1, p1, e1⟩ := h
      cases m' with
      | zero => cases e1
      | succ m' =>
        have e1 : execB E (exec E m') f fb cur (.loop x) st1 = some r := e1
        simp only [execB] at e1
        have hm' := ihs m' (by omega)
        split at e1
        · rename_i st2 h2
          refine wpIn_mono (hm' _ _ _ _ _ _ h2 nt hc n B X1 O1 w1 a1 s1 rd (hrd.step p1 fun h => h)) fun e2 a2 w2 h => ?_
          obtain ⟨hex, X2, O2, s2, p2⟩ := h
          cases e2 <;> simp only [ExR] at hex
          exact ⟨m', by omega, by omega, st2, X2, O2, s2, p1.trans p2, e1⟩
        · rename_i hne
          refine wpIn_mono (hm' _ _ _ _ _ _ e1 nt hc n B X1 O1 w1 a1 s1 rd (hrd.step p1 fun h => h)) fun e2 a2 w2 h => ?_
          obtain ⟨hex, X2, O2, s2, p2⟩ := h
          obtain ⟨r1, r2⟩ := r
          cases e2 with
          | normal =>
            cases r1 <;> simp only [ExR] at hex
            exact absurd e1 (hne r2)
          | _ => exact ⟨hex, X2, O2, s2, p1.trans p2⟩
    | scope x =>
      simp only [codeOk] at hc
      refine wpIn_scope ?_
      refine wpIn_mono (ihm _ _ _ _ _ _ e nt hc n B X O w a s rd (hrd.sub fun h => h)) fun e1 a1 w1 h => ?_
      cases e1 with
      | goto l => obtain ⟨hex, _⟩ := h; cases hr : r.1 <;> rw [hr] at hex <;> exact hex.elim
      | _ => exact h
    | rangeFunc g ps asg bdy =>
      simp only [codeOk, Bool.and_eq_true] at hc
      obtain ⟨hg, hps, ⟨ha1, ha2⟩, hb1, hb2⟩ := hc
      have hps' : ∀ p ∈ ps.toList, p < a.tmps.size := fun p hp => by
        rw [s.n]; exact Nat.le_of_ble_eq_true (List.all_eq_true.1 hps p hp)
      have k1 : Gh.K f a.tmps.size asg := by rw [s.n]; exact (hE.gh _ _ _).2 ⟨ha1, ha2⟩
      have k2 : Gh.K f a.tmps.size bdy := by rw [s.n]; exact (hE.gh _ _ _).2 ⟨hb1, hb2⟩
      simp only [execB] at e
      split at e
      · rename_i q g0 fa cap hev
        split at e
        · rename_i v h' lp hin
          split at e
          · rename_i bk f1 t1 ps1 as1 bd1 hbk
            cases e
            rw [s.lp, llen_eq] at hin
            rw [llen_eq] at hbk
            refine wpIn_rangeFunc fun fn hfn => ?_
            obtain ⟨l, mark, w1, rr, X1, O1, bi, c1, c2, c3, c4, c5, c6, c7, c8, c9, c10, c11⟩ := enter_ok (P := P) s.h hrd fn a.tmps ps asg bdy s.t hps' k1 k2
            -- the function that is ranged over
            have hgv : ∃ fs cs : Array Value, a.eval g = .func (.func g0) fs cs ∧ All2 (fun v x => VREL X v true [x]) fa fs.toList ∧ All2 (fun v x => VREL X v true [x]) cap cs.toList := by
              have hf : VREL X (ev st.t g) true [a.eval g] := ev_sound s.t hg
              have hflat : ∀ {l : List V} {wss : List (List Value)}, VRELs X l true wss → All2 (fun v x => VREL X v true [x]) l wss.flatten := by
                intro l
                induction l with
                | nil => intro wss h; simp only [VRELs] at h; subst h; exact All2.nil
                | cons v l ih =>
                  intro wss h
                  simp only [VRELs] at h
                  obtain ⟨ws, r, rfl, h1, h2⟩ := h
                  obtain ⟨y, rfl⟩ := VREL.single h1
                  exact All2.cons h1 (ih h2)
              split at hev
              · rename_i g' as' cap' he
                cases hev
                rw [he] at hf
                simp only [VREL] at hf
                obtain ⟨fs, cs, w1, w2, e1, h1, h2, h3, h4⟩ := hf
                refine ⟨fs, cs, (List.cons.inj e1).1, ?_, ?_⟩
                · rw [h2]; exact hflat h1
                · rw [h4]; exact hflat h3
              · rename_i g' he
                cases hev
                rw [he] at hf
                simp only [VREL, REL] at hf
                exact ⟨#[], #[], (List.cons.inj hf).1, All2.nil, All2.nil⟩
              · cases hev
            obtain ⟨fs, cs, hgv, hfa, hcap⟩ := hgv
            have hX := s.h.lt
            have hargs : All2 (fun v x => VREL X1 v true [x]) (fa ++ (.yld (st.h.length + 1) :: cap)) ((fs ++ #[Value.func (.yield l) #[] #[]]) ++ cs).toList := by
              simp only [Array.toList_append, List.append_assoc]
              refine (vals_mono hX c7.up.le hfa).app (All2.cons ?_ (vals_mono hX c7.up.le hcap))
              simp only [VREL]
              exact ⟨l, rfl, bi, c8, c9, c10⟩
            obtain ⟨hlp, ⟨fn0, cd, hpf, hbody, hnm⟩, hcall⟩ := inline_sound ihm hE hF hin c6 hargs
            have hres : (resolve a.eval (rangeCall g l) 0).run P w1 = .ok { target := .fn (.func g0) cs, args := fs ++ #[.func (.yield l) #[] #[]] } w1 := by
              have : (rangeCall g l).args.map a.eval = #[Value.func (.yield l) #[] #[]] := by simp [rangeCall, Act.eval]
              unfold resolve
              show (Deferred.ofValue (a.eval g) ((rangeCall g l).args.map a.eval)).run P w1 = _
              rw [hgv, this]; rfl
            refine ⟨l, mark, w1, _, w1, g0, (fs ++ #[Value.func (.yield l) #[] #[]]) ++ cs, w1, c1, hres, fun f' _ => hF.fn f', ?_, hF.room, ?_⟩
            · show (callFunc g0 _).run P w1 = _
              exact callFunc_enter hpf hbody hnm _
            have hcl : CallsIn F (n - 1) P g0 ((fs ++ #[Value.func (.yield l) #[] #[]]) ++ cs) w1 _ := hcall (n - 1)
            refine CallsIn.mono (F := F) hcl fun e3 w3 he => ?_
            cases e3 with
            | panicked c => exact he.elim
            | outgrown => exact he.elim
            | returned x =>
              obtain ⟨X3, O3, d1, d2, d3⟩ := he
              have l3 := d3.up.obj l _ c2 rfl
              have hend := run_endLoop (P := P) l3 (by rw [c3]; simp)
              have hw4 : ∀ {o : Obj}, World.putObj w3 l o = objW w3 l o := fun {_} => rfl
              rw [hw4] at hend
              generalize hoe : Obj.loop { rr with state := .exhausted } = oe at hend
              rw [c4] at hend
              refine ⟨none, _, hend, ?_⟩
              show Post nt B X O w st _ .normal _ _
              have hoc : oe.isCells = false := by rw [← hoe]; rfl
              have S13 := c7.trans d3
              -- the loop's block is hidden for good
              have hsub : ∀ c k, hget (lset h' (st.h.length + 1) none) c = some k → hget h' c = some k ∧ c ≠ st.h.length + 1 := fun c k hc => by
                rw [lset_eq, hget_eq, List.getElem?_set] at hc
                by_cases hcb : st.h.length + 1 = c
                · subst hcb; simp at hc; split at hc <;> simp at hc
                · rw [if_neg hcb] at hc; exact ⟨by rw [hget_eq]; exact hc, Ne.symm hcb⟩
              have hnone : ∀ c, hget (lset h' (st.h.length + 1) none) c = none → c = st.h.length + 1 ∨ hget h' c = none := fun c hc => by
                by_cases hcb : c = st.h.length + 1
                · exact .inl hcb
                · right
                  rw [lset_eq, hget_eq, List.getElem?_set, if_neg (Ne.symm hcb)] at hc
                  rw [hget_eq]; exact hc
              have hlen : (lset h' (st.h.length + 1) none).length = h'.length := by rw [lset_eq, List.length_set]
              have hO3 : O3 (st.h.length + 1) ⟨l, 0, none⟩ := by
                obtain ⟨bi', l', r', b1, b2, b3, b4, b5, b6, b7⟩ := d1.blk _ _ hbk
                obtain ⟨bj, m1, m2, m3, m4⟩ := d3.up.le.M _ _ (by simp) c8
                have := m4 c10; subst this
                rw [b1] at m1; cases m1
                rw [c9] at b4; cases b4
                exact b6
              have hno : ∀ c k, hget (lset h' (st.h.length + 1) none) c = some k → ¬ O3 c ⟨l, 0, none⟩ := fun c k hc o => (hsub c k hc).2 (d1.dis c _ _ o hO3)
              have hv : HR B X3 O3 w3 (lset h' (st.h.length + 1) none) := ⟨fun c k hc => d1.blk c k (hsub c k hc).1, d1.own, d1.dis, by rw [hlen]; exact d1.lt, d1.ci, d1.wb⟩
              have hr4 : HR B X3 O3 (objW w3 l oe) (lset h' (st.h.length + 1) none) := hv.obj l3 rfl hoc hno
              have hB : B ≤ l := (d1.own _ _ hO3).1
              have hwl : ∀ (g : Nat) (o : Obj), w.heap[g]? = some o → g ≠ l := fun g o e hgl => by
                have := (Array.getElem?_eq_some_iff.1 e).1; omega
              have hsz := S13.up.below.size
              have hst : Step B X O w st.h X3 O3 (objW w3 l oe) (lset h' (st.h.length + 1) none) := by
                refine ⟨⟨S13.up.le, S13.up.below.trans (objW_below w3 _ hB), S13.up.fresh, fun r o e lp => ?_⟩, by rw [hlen]; exact S13.len, ⟨fun c ci e hn => ?_, S13.fr.M, S13.fr.own, fun c ci e hn x o u eu => ?_, fun c ci e hn r o ob eo ho => ?_, fun c ci e hn g ho hg => ?_, fun c hc => ?_, fun c hcl e hn => ?_⟩⟩
                · rw [objW_other w3 _ (hwl r o e)]; exact S13.up.obj r o e lp
                · cases hq : hget (lset h' (st.h.length + 1) none) c with
                  | none => rfl
                  | some k => exact absurd (hsub c k hq).1 (by rw [S13.fr.hid c ci e hn]; simp)
                · rw [objW_cell l3 rfl hoc, objW_frozen l3 rfl hoc]; exact S13.fr.cell c ci e hn x o u eu
                · rw [objW_other w3 _ (hwl r ob eo)]; exact S13.fr.obj c ci e hn r o ob eo ho
                · rw [objW_other w3 _ (by omega)]; exact S13.fr.blk c ci e hn g ho hg
                · rcases hnone c hc with rfl | hc
                  · rw [hget_eq, List.getElem?_eq_none (by omega)]; rfl
                  · exact S13.fr.vis c hc
                · exact S13.fr.unk c hcl e ((hnone c hn).resolve_left (by omega))
              refine ⟨trivial, X3, O3, ⟨s.t.mono hX hst.up.le, s.n, by simpa using hr4, ?_, hlp⟩, by simpa using hst⟩
              have hdf : DF X3 O3 (objW w3 l oe) (lset h' (st.h.length + 1) none) a.defers st.df := s.df.step hX hst
              rcases c11 with ⟨hf0, D, bd, m1, m2, m3, m4, m5, m6⟩ | ⟨hf0, m1⟩
              · subst hf0
                subst m1
                have hhid : hget (st.h ++ [none, some (.lp f st.t ps.toList asg bdy)]) st.h.length = none := by
                  rw [hget_append, if_neg (Nat.lt_irrefl _), Nat.sub_self]; rfl
                have hD3 := d3.fr.obj _ _ m5 hhid D m6 _ m4 rfl
                have hM3 := d3.fr.M _ _ m5 hhid
                have hO3D := d3.fr.own _ _ m5 hhid _ m6
                have hh3 := d3.fr.hid _ _ m5 hhid
                simp only [Nat.beq_refl, cond_true, llen_eq]
                refine ⟨All2.cons (.inl ⟨rfl, D, bd, rfl, ?_, hM3, ?_, hO3D⟩) hdf.1, List.pairwise_cons.2 ⟨fun d' hd' D' hD' h2 => ?_, hdf.2⟩⟩
                · rw [objW_other w3 _ m3]; exact hD3
                · cases hq : hget (lset h' (st.h.length + 1) none) st.h.length with
                  | none => rfl
                  | some k => have := (hsub _ k hq).1; rw [hh3] at this; cases this
                · cases hD'
                  obtain ⟨p, hp⟩ := All2.mem_right s.df.1 hd'
                  rcases hp with ⟨_, D2, _, t1, t2, _⟩ | ⟨_, cp, t1, _⟩
                  · rw [h2] at t1; cases t1
                    have := (Array.getElem?_eq_some_iff.1 t2).1; omega
                  · rw [h2] at t1; cases t1
              · subst m1
                have : Nat.beq fb 0 = false := by
                  cases hb : Nat.beq fb 0 with
                  | false => rfl
                  | true => exact absurd (beq_of hb) hf0
                simp only [this, cond_false]
                simpa using hdf
          · cases e
        · cases e
      · cases e
    | _ => cases e
end
end Go.As
