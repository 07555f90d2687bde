/-
  AS: maps; type assertions.
-/
import Derived.Test.YtphcebdhnpbjlaaGreatDoorAsBuild
set_option linter.unusedSectionVars false
set_option linter.unusedSimpArgs false
set_option linter.unusedVariables false
namespace Go.As
open Go.RowKit (Below)
variable [Gh]
section
variable {P : Program} {B : Nat} {X : Cx} {O : Nat → Addr → Prop} {w : World} {h : Heap} {E : Env}

/-! ### an object is put in another's place -/
def objW (w : World) (r : Nat) (o : Obj) : World := { w with heap := w.heap.setIfInBounds r o }
theorem objW_size (w : World) (r : Nat) (o : Obj) : (objW w r o).heap.size = w.heap.size := by simp [objW]
theorem objW_other (w : World) {r g : Nat} (o : Obj) (hg : g ≠ r) : (objW w r o).heap[g]? = w.heap[g]? := by
  simp [objW, Ne.symm hg]
theorem objW_same {w : World} {r : Nat} {o o' : Obj} (h : w.heap[r]? = some o') : (objW w r o).heap[r]? = some o := by
  have hr : r < w.heap.size := (Array.getElem?_eq_some_iff.1 h).1
  simp [objW, hr]
theorem objW_cell {w : World} {r : Nat} {o o' : Obj} (h : w.heap[r]? = some o') (h1 : o'.isCells = false) (h2 : o.isCells = false) (a : Addr) : (objW w r o).cell? a = w.cell? a := by
  by_cases ha : a.block = r
  · have e1 : (objW w r o).heap[a.block]? = some o := by rw [ha]; exact objW_same h
    have e2 : w.heap[a.block]? = some o' := by rw [ha]; exact h
    unfold World.cell?
    rw [e1, e2]
    cases o <;> simp [Obj.isCells] at h2 <;> cases o' <;> simp [Obj.isCells] at h1 <;> simp
  · exact World.cell?_of_block (w := w) (objW_other w o ha)
theorem objW_frozen {w : World} {r : Nat} {o o' : Obj} (h : w.heap[r]? = some o') (h1 : o'.isCells = false) (h2 : o.isCells = false) (a : Addr) : (objW w r o).frozen? a = w.frozen? a := by
  by_cases ha : a.block = r
  · have e1 : (objW w r o).heap[a.block]? = some o := by rw [ha]; exact objW_same h
    have e2 : w.heap[a.block]? = some o' := by rw [ha]; exact h
    unfold World.frozen?
    rw [e1, e2]
    cases o <;> simp [Obj.isCells] at h2 <;> cases o' <;> simp [Obj.isCells] at h1 <;> simp
  · exact World.frozen?_of_block (w := w) (objW_other w o ha)
theorem objW_below {B r : Nat} (w : World) (o : Obj) (hB : B ≤ r) : Below B w (objW w r o) :=
  ⟨rfl, rfl, rfl, by simp [objW], fun k hk => objW_other w o (by omega)⟩

theorem Owns.obj {w : World} {r : Nat} {o o' : Obj} (h : w.heap[r]? = some o') (h1 : o'.isCells = false) (h2 : o.isCells = false) {Q : Addr → Prop} {a : Addr} {i n : Nat} (ho : Owns w Q a i n) : Owns (objW w r o) Q a i n := fun j e1 e2 => by
  obtain ⟨q, ⟨v, e⟩, f⟩ := ho j e1 e2
  exact ⟨q, ⟨v, by rw [objW_cell h h1 h2]; exact e⟩, by rw [objW_frozen h h1 h2]; exact f⟩
theorem cellsAt.obj {w : World} {r : Nat} {o o' : Obj} (h : w.heap[r]? = some o') (h1 : o'.isCells = false) (h2 : o.isCells = false) {a : Addr} {vs : List Value} (hc : cellsAt w.cell? a vs) : cellsAt (objW w r o).cell? a vs := fun j v e => by
  rw [objW_cell h h1 h2]; exact hc j v e

theorem BR.obj {Q : Addr → Prop} {c : Nat} {k : Blk} (hb : BR X w Q c k) {r : Nat} {o o' : Obj} (h : w.heap[r]? = some o') (h1 : o'.isCells = false) (h2 : o.isCells = false) (hQ : ¬ Q ⟨r, 0, none⟩) : BR X (objW w r o) Q c k := by
  cases k with
  | cell v =>
    obtain ⟨bi, a0, ws, e1, e2, e3, e4, e5, e6, e7, e8⟩ := hb
    exact ⟨bi, a0, ws, e1, e2, e3, e4, e5, e6, e7.obj h h1 h2, e8.obj h h1 h2⟩
  | arr g s ro l =>
    obtain ⟨bi, e1, e2, e3, e4, e5, e6⟩ := hb
    refine ⟨bi, e1, e2, e3, e4, e5, e6.imp id ?_⟩
    rintro ⟨e, a0, wss, e7, e8, e9, e10, e11, e12, e13⟩
    exact ⟨e, a0, wss, e7, e8, e9, e10, e11.obj h h1 h2, e12, e13.obj h h1 h2⟩
  | arv g s l =>
    obtain ⟨bi, e1, e2, e3, e4, e5, e6⟩ := hb
    refine ⟨bi, e1, e2, e3, e4, e5, e6.imp id ?_⟩
    rintro ⟨e, a0, wss, e7, e8, e9, e10, e11, e12⟩
    exact ⟨e, a0, wss, e7, e8, e9, e10, e11.obj h h1 h2, e12.obj h h1 h2⟩
  | mp es =>
    obtain ⟨bi, r', ms, ck, e1, e2, e3, e4, e5, e6, e7⟩ := hb
    refine ⟨bi, r', ms, ck, e1, e2, e3, e4, ?_, e6, e7⟩
    rw [objW_other w o (fun e => hQ (by rw [← e]; exact e6))]; exact e5
  | bld T e s =>
    obtain ⟨bi, r', e1, e2, e3, e4, e5⟩ := hb
    exact ⟨bi, r', e1, e2, e3, e4, e5.kept (fun g hg _ => objW_other w o (fun e => hQ (hg _ e.symm))) (fun _ q => q)⟩
  | lp f t ps asg body =>
    obtain ⟨bi, l, r', e1, e2, e3, e4, e5, e6, e7⟩ := hb
    refine ⟨bi, l, r', e1, e2, e3, e4, ?_, e6, e7⟩
    rw [objW_other w o (fun e => hQ (by rw [← e]; exact e6))]; exact e5
/-- Another object at a place that no block in sight has. -/
theorem HR.obj (hr : HR B X O w h) {r : Nat} {o o' : Obj} (hb : w.heap[r]? = some o') (h1 : o'.isCells = false) (h2 : o.isCells = false) (hno : ∀ b k, hget h b = some k → ¬ O b ⟨r, 0, none⟩) : HR B X O (objW w r o) h :=
  ⟨fun b k e => (hr.blk b k e).obj hb h1 h2 (hno b k e), fun b a o => by rw [objW_size]; exact hr.own b a o, hr.dis, hr.lt, fun a v e => by rw [objW_cell hb h1 h2]; exact hr.ci a v e, by rw [objW_size]; exact hr.wb⟩

/-- The map in block b holds something else. -/
theorem setMap_sound (hr : HR B X O w h) {b r : Nat} {es es' : List (D × V)} {bi : BI} {ms ms' : Array MapEntry} {ck ck' : Nat} (hb : hget h b = some (.mp es)) (hM : X.M b = some bi) (hg : bi.g = 0) (hf : bi.fix = true) (hbase : bi.base = some ⟨r, 0, none⟩)
    (ho : w.heap[r]? = some (.map ms ck)) (hO : O b ⟨r, 0, none⟩) (he : ENT X es' ms'.toList) :
    HR B X O (objW w r (.map ms' ck')) (hput h b (.mp es')) ∧ Up B X w h.length X (objW w r (.map ms' ck')) ∧ h.length ≤ (hput h b (.mp es')).length ∧ FR X O w h X O (objW w r (.map ms' ck')) (hput h b (.mp es')) := by
  have hbl := hget_lt hb
  have hle := Nat.le_of_lt hbl
  have hne : ∀ c, c ≠ b → ¬ O c ⟨r, 0, none⟩ := fun c hc o => hc (hr.dis c b _ o hO)
  have hcell := objW_cell ho rfl (o := .map ms' ck') rfl
  refine ⟨⟨fun c k e => ?_, fun c a o => ?_, hr.dis, fun c bj e => ?_, fun a v e => ?_, ?_⟩, ⟨.refl _ _, objW_below w _ (hr.own b _ hO).1, fun a v e hn => (by rw [hn] at e; cases e), fun r' o e l => ?_⟩, ?_, ⟨fun c bj e hn => ?_, fun _ _ e _ => e, fun _ _ _ _ _ o => o, fun c bj e hn a o v ev => ?_, fun c bj e hn a o ob eo _ => ?_, fun c bj e hn g hg _ => ?_, fun c e => ?_, fun _ _ e _ => e⟩⟩
  · rw [hget_hput h b c _ hle] at e
    by_cases hc : c = b
    · subst hc
      simp only [if_true] at e; cases e
      exact ⟨bi, r, ms', ck', hM, hg, hf, hbase, objW_same ho, hO, he⟩
    · simp only [if_neg hc] at e
      exact (hr.blk c k e).obj ho rfl rfl (hne c hc)
  · rw [objW_size]; exact hr.own c a o
  · rw [hput_len, if_pos hbl]; exact hr.lt c bj e
  · rw [hcell]; exact hr.ci a v e
  · rw [objW_size]; exact hr.wb
  · rw [objW_other w _ (fun e2 => by subst e2; rw [ho] at e; cases e; cases l)]; exact e
  · rw [hput_len, if_pos hbl]; exact Nat.le_refl _
  · rw [hget_hput h b c _ hle, if_neg (fun hc => by subst hc; rw [hb] at hn; cases hn)]; exact hn
  · exact ⟨by rw [hcell]; exact ev, objW_frozen ho rfl rfl a⟩
  · have hc : c ≠ b := fun hc => by subst hc; rw [hb] at hn; cases hn
    rw [objW_other w _ (fun e => hne c hc (by rw [← e]; exact o))]; exact eo
  · have hc : c ≠ b := fun hc => by subst hc; rw [hb] at hn; cases hn
    exact objW_other w _ (fun e => hne c hc (hg _ e.symm))
  · rw [hget_hput h b c _ hle] at e
    split at e
    · cases e
    · exact e

theorem makeMap_sound (hE : EnvTy P E) (hr : HR B X O w h) {n t : Nat} (hn : hget h n = none) (hM : X.M n = none) (hle : n ≤ h.length) {r : Option V} {v : V} {h' : Heap} (e : sMakeMap E n h t r = some (v, h')) {vr : Option Value} (rr : OptR X r vr) :
    OpS P B X O w h (Instr.makeMap t vr) v h' := by
  unfold sMakeMap Env.kind at e
  cases ht : E.ty t with
  | none => rw [ht] at e; cases e
  | some ti =>
  rw [ht] at e
  have hk := (hE.ty t ti ht).kind
  simp only [Option.map_some] at e
  split at e
  · rename_i kt et hti
    cases hti' : ti.k <;> rw [hti'] at hti <;> cases hti
    rw [hti'] at hk; simp only [KindOk] at hk
    have key : v = .mp n ∧ h' = hput h n (.mp []) ∧ (Instr.makeMap t vr).run P w = .ok (.map (some w.heap.size)) (w.alloc (.map #[] 0)) := by
      split at e
      · cases e
        cases vr with
        | none => exact ⟨rfl, rfl, by simp [Instr.makeMap, newObj, Sem.run]⟩
        | some x => exact absurd rr (by simp [OptR])
      · rename_i k m
        cases e
        cases vr with
        | none => exact absurd rr (by simp [OptR])
        | some x =>
          simp only [OptR, VREL, REL] at rr
          obtain ⟨rr, _⟩ := rr; cases rr
          refine ⟨rfl, rfl, ?_⟩
          simp [Instr.makeMap, run_underlying hk, asInt, asIntOf, newObj, Sem.run]
      · cases e
    obtain ⟨rfl, rfl, hrun⟩ := key
    let bi : BI := ⟨0, some ⟨w.heap.size, 0, none⟩, 0, 1, true⟩
    let On : Addr → Prop := fun a => a = ⟨w.heap.size, 0, none⟩
    have hbr : BR (X.withM n bi) (w.alloc (.map #[] 0)) On n (.mp []) := ⟨bi, w.heap.size, #[], 0, Cx.withM_same _ _ _, rfl, rfl, rfl, heap_alloc_new w _, rfl, by simp [ENT]⟩
    refine ⟨_, _, X.withM n bi, _, hrun, hr.add hn hM hle (.alloc _ _) (by simp) bi On (.mp []) (fun a ea => ?_) hbr, Up.add hM ((Below.refl B w).alloc hr.wb _) (.alloc _ _) _ bi, ?_, ?_, .add hM hle (.alloc _ _) bi On _⟩
    · subst ea; simp
    · simp only [VREL]
      exact ⟨w.heap.size, bi, rfl, Cx.withM_same _ _ _, rfl, rfl⟩
    · rw [hput_len]; split <;> omega
  · cases e

/-! ### keys -/
theorem okKey_sound (hE : EnvTy P E) {kt : Nat} {kd : D} (hk : okKey E kt kd = true) {C : IV} {vk : Value} (r : REL C kd true [vk]) :
    (∃ k n, P.underlying kt = some (.int k) ∧ kd = .int k n ∧ vk = .int k n) ∨ (∃ s b, P.underlying kt = some .string ∧ kd = .str s ∧ vk = .string b ∧ bytesL b = s) ∨ (∃ b, P.underlying kt = some .bool ∧ kd = .bool b ∧ vk = .bool b) := by
  unfold okKey Env.kind at hk
  cases ht : E.ty kt with
  | none => rw [ht] at hk; cases hk
  | some ti =>
    rw [ht] at hk
    have hkk := (hE.ty kt ti ht).kind
    simp only [Option.map_some] at hk
    cases hti : ti.k <;> rw [hti] at hk hkk <;> cases kd <;> simp only [KindOk] at hkk <;> try (simp at hk; done)
    · rename_i b
      simp only [REL] at r; cases r
      exact .inr (.inr ⟨b, hkk, rfl, rfl⟩)
    · rename_i k k' n
      have := keq_iff hk; subst this
      simp only [REL] at r
      obtain ⟨r, _⟩ := r; cases r
      exact .inl ⟨k, n, hkk, rfl, rfl⟩
    · rename_i s
      simp only [REL] at r
      obtain ⟨b, r, hb, _⟩ := r; cases r
      exact .inr (.inl ⟨s, b, hkk, rfl, rfl, hb⟩)

theorem checkKey_ok {kt : Nat} {vk : Value} {d : TypeDesc} (hu : P.underlying kt = some d) (hd : (∃ k, d = .int k) ∨ d = .string ∨ d = .bool) (b : Bool) : (Instr.checkKey b 10000 kt vk).run P w = .ok () w := by
  rw [show (10000 : Nat) = 9999 + 1 from rfl]
  unfold Instr.checkKey
  simp only [Sem.run_bind, run_underlying hu, Result.andThen_ok]
  rcases hd with ⟨k, rfl⟩ | rfl | rfl <;> rfl

theorem bytes_beq_seq (a b : ByteArray) : (a == b) = seq (bytesL a) (bytesL b) := by
  rw [beq_toListBytes, Bool.eq_iff_iff, seq_iff, beq_iff_eq, toList_eq, toList_eq]
  constructor
  · intro h; unfold bytesL; rw [h]
  · intro h; rw [bytesL_inj h]

theorem keyEq_now (hE : EnvTy P E) {kt : Nat} {kd : D} (hk : okKey E kt kd = true) {C : IV} {vk : Value} (r : REL C kd true [vk]) {e : D} {b : Bool} (he : keyEq kd e = some b) {ve : Value} (re : REL C e true [ve]) :
    ∃ d, P.underlying kt = some d ∧ ((∃ k, d = .int k) ∨ d = .string ∨ d = .bool) ∧ Instr.sameNow d vk ve = some b ∧ (b = true → Instr.sameBits 10000 ve vk = true) := by
  rcases okKey_sound hE hk r with ⟨k, n, h1, rfl, rfl⟩ | ⟨s, bs, h1, rfl, rfl, h2⟩ | ⟨x, h1, rfl, rfl⟩
  · cases e <;> simp only [keyEq] at he <;> try contradiction
    rename_i k' n'
    obtain ⟨hq, he2⟩ := bif_some he
    clear he
    have hq := keq_iff hq; subst hq
    simp only [REL] at re
    obtain ⟨re, _⟩ := re; cases re
    have he3 : b = ieq n n' := (Option.some.inj he2).symm
    subst he3
    refine ⟨_, h1, .inl ⟨_, rfl⟩, ?_, fun hb => ?_⟩
    · simp [Instr.sameNow, ieq_eq]; by_cases h : n = n' <;> simp [h]
    · rw [ieq_eq] at hb; have := of_decide_eq_true hb; subst this
      rw [show (10000 : Nat) = 9999 + 1 from rfl]; simp [Instr.sameBits]
  · cases e <;> simp only [keyEq] at he <;> try contradiction
    rename_i s'
    cases he
    simp only [REL] at re
    obtain ⟨b', re, h3, _⟩ := re; cases re
    subst h2; subst h3
    refine ⟨_, h1, .inr (.inl rfl), ?_, fun hb => ?_⟩
    · simp only [Instr.sameNow, bytes_beq_seq]
    · rw [show (10000 : Nat) = 9999 + 1 from rfl]; simp only [Instr.sameBits, bytes_beq_seq]
      rw [seq_iff] at hb ⊢; exact hb.symm
  · cases e <;> simp only [keyEq] at he <;> try contradiction
    rename_i y
    simp only [REL] at re; cases re
    cases he
    refine ⟨_, h1, .inr (.inr rfl), ?_, fun hb => ?_⟩
    · cases x <;> cases y <;> rfl
    · rw [show (10000 : Nat) = 9999 + 1 from rfl]; cases x <;> cases y <;> simp_all [Instr.sameBits]

theorem findK_cons (k : D) (e : D × V) (es : List (D × V)) : findK k (e :: es) = ((keyEq k e.1).bind fun b => bif b then some 0 else (findK k es).map (· + 1)) := rfl

/-- Where a key is. -/
theorem findNow_sound (hE : EnvTy P E) {kt : Nat} {kd : D} (hk : okKey E kt kd = true) {vk : Value} (r : REL X.C kd true [vk]) {d : TypeDesc} (hd : P.underlying kt = some d) : ∀ {es : List (D × V)} {ms : List MapEntry} {i j : Nat}, ENT X es ms → findK kd es = some i →
    (i < es.length → ∃ m, ms[i]? = some m ∧ Instr.findNow d vk ms j = some (some (j + i, m.val)) ∧ Instr.sameBits 10000 m.key vk = true) ∧ (¬ i < es.length → i = es.length ∧ Instr.findNow d vk ms j = some none)
  | [], ms, i, j, he, hf => by
    simp only [ENT] at he; subst he
    simp [findK] at hf; subst hf
    exact ⟨fun h => absurd h (by simp), fun _ => ⟨rfl, rfl⟩⟩
  | e :: es, ms, i, j, he, hf => by
    simp only [ENT] at he
    obtain ⟨m, r', rfl, h1, h2, h3⟩ := he
    rw [findK_cons] at hf
    obtain ⟨b, hb, hf⟩ := Option.bind_eq_some_iff.1 hf
    obtain ⟨d', hd', _, hs, hbits⟩ := keyEq_now hE hk r hb h1
    rw [hd] at hd'; cases hd'
    cases b with
    | true =>
      simp only [cond_true] at hf; cases hf
      exact ⟨fun _ => ⟨m, rfl, by simp [Instr.findNow, hs], hbits rfl⟩, fun h => absurd (by simp) h⟩
    | false =>
      simp only [cond_false] at hf
      obtain ⟨i', hi', hf⟩ := Option.map_eq_some_iff.1 hf
      subst hf
      obtain ⟨q1, q2⟩ := findNow_sound hE hk r hd (j := j + 1) h3 hi'
      refine ⟨fun hlt => ?_, fun hge => ?_⟩
      · obtain ⟨m', e1, e2, e3⟩ := q1 (by simpa using hlt)
        refine ⟨m', by simpa using e1, ?_, e3⟩
        simp only [Instr.findNow, hs]
        rw [e2, show j + 1 + i' = j + (i' + 1) from by omega]
      · obtain ⟨e1, e2⟩ := q2 (fun h => hge (by simpa using h))
        exact ⟨by simp [e1], by simp only [Instr.findNow, hs]; exact e2⟩

theorem run_findKey {kt : Nat} {d : TypeDesc} (hd : P.underlying kt = some d) {vk : Value} {ms : List MapEntry} {x : Option (Nat × Value)} (hf : Instr.findNow d vk ms 0 = some x) : (Instr.findKey kt vk ms).run P w = .ok x w := by
  simp [Instr.findKey, run_underlying hd, hf]

theorem run_getObj {r : Nat} {o : Obj} (h : w.heap[r]? = some o) (ho : o.isCells = false) : (getObj r).run P w = .ok o w := by
  cases o <;> simp [Obj.isCells] at ho <;> simp [getObj, Sem.run, h]
theorem run_setObj {r : Nat} {o o' : Obj} (h : w.heap[r]? = some o') (ho : o'.isCells = false) : (setObj r o).run P w = .ok () (objW w r o) := by
  cases o' <;> simp [Obj.isCells] at ho <;> simp [setObj, Sem.run, h, objW]

theorem zero_val (hE : EnvTy P E) {t : Nat} {ti : TI} (ht : E.ty t = some ti) (hp : isPlain ti.zero = true) : ∃ z, (zeroValue t).run P w = .ok z w ∧ VREL X ti.zero true [z] := by
  obtain ⟨i, i1, _, _, i4⟩ := (hE.ty t ti ht).info
  rw [isPlain_eq] at hp
  obtain ⟨z, z1, z2⟩ := i4 _ rfl hp
  exact ⟨z, by simp [zeroValue, typeInfo, i1, z1], VREL.mono (X0_le X) _ _ _ (VREL.low X0_lt _ _ _ z2) z2⟩

theorem tup2 {v : V} {x : Value} (r : VREL X v true [x]) (b : Bool) : VREL X (.tup [v, .im (.bool b)]) true [.tuple #[x, .bool b]] := by
  simp only [VREL, VRELs, REL]
  exact ⟨_, [[x], [.bool b]], rfl, ⟨_, _, rfl, r, _, _, rfl, rfl, rfl⟩, rfl⟩

theorem entries_sound (hr : HR B X O w h) {m : V} {es : List (D × V)} (he : entries h m = some es) {vm : Value} (rm : VREL X m true [vm]) :
    (vm = .map none ∧ es = []) ∨ ∃ b r ms ck bi, m = .mp b ∧ vm = .map (some r) ∧ hget h b = some (.mp es) ∧ X.M b = some bi ∧ bi.g = 0 ∧ bi.fix = true ∧ bi.base = some ⟨r, 0, none⟩ ∧ w.heap[r]? = some (.map ms ck) ∧ O b ⟨r, 0, none⟩ ∧ ENT X es ms.toList := by
  unfold entries at he
  split at he
  · cases he
    simp only [VREL, REL] at rm; cases rm
    exact .inl ⟨rfl, rfl⟩
  · rename_i b
    split at he
    · rename_i es' hb
      cases he
      obtain ⟨bi, r, ms, ck, h1, h2, h3, h4, h5, h6, h7⟩ := hr.blk b _ hb
      simp only [VREL] at rm
      obtain ⟨r', bj, e, h8, h9, _⟩ := rm
      cases e
      rw [h1] at h8; cases h8
      rw [h4] at h9; cases h9
      exact .inr ⟨b, r, ms, ck, bi, rfl, rfl, hb, h1, h2, h3, h4, h5, h6, h7⟩
    · cases he
  · cases he

theorem lookup_sound (hE : EnvTy P E) (hr : HR B X O w h) {t : Nat} {m k v : V} {ok : Bool} {h' : Heap} (e : sLookup E h t m k ok = some (v, h')) {vm vk : Value} (rm : VREL X m true [vm]) (rk : VREL X k true [vk]) :
    OpS P B X O w h (Instr.lookup t vm vk ok) v h' := by
  unfold sLookup at e
  split at e
  · rename_i kt et kd hkind
    obtain ⟨hkey, e⟩ := bif_some e
    obtain ⟨es, hes, e⟩ := Option.bind_eq_some_iff.1 e
    obtain ⟨i, hi, e⟩ := Option.bind_eq_some_iff.1 e
    unfold Env.kind at hkind
    obtain ⟨ti, ht, hti⟩ := Option.map_eq_some_iff.1 hkind
    have hk := (hE.ty t ti ht).kind
    rw [hti] at hk; simp only [KindOk] at hk
    simp only [VREL] at rk
    obtain ⟨d, hd, hdk⟩ : ∃ d, P.underlying kt = some d ∧ ((∃ k, d = .int k) ∨ d = .string ∨ d = .bool) := by
      rcases okKey_sound hE hkey rk with ⟨k, n, h1, _⟩ | ⟨s, bs, h1, _⟩ | ⟨x, h1, _⟩
      · exact ⟨_, h1, .inl ⟨_, rfl⟩⟩
      · exact ⟨_, h1, .inr (.inl rfl)⟩
      · exact ⟨_, h1, .inr (.inr rfl)⟩
    have hck : ∀ b, (Instr.checkKey b 10000 kt vk).run P w = .ok () w := checkKey_ok hd hdk
    -- the entries
    obtain ⟨ms, hms, hlk⟩ : ∃ ms : Array MapEntry, ENT X es ms.toList ∧ ∀ x, Instr.findNow d vk ms.toList 0 = some x → (Instr.lookup t vm vk ok).run P w = ((do
        let (v, ok') ← match x with
          | some (_, v) => pure (v, true)
          | none => pure (← zeroValue et, false)
        pure (if ok then .tuple #[v, .bool ok'] else v)) : Sem Value).run P w := by
      rcases entries_sound hr hes rm with ⟨rfl, rfl⟩ | ⟨b, r, ms, ck, bi, _, rfl, _, _, _, _, _, ho, _, hent⟩
      · refine ⟨#[], by simp [ENT], fun x hx => ?_⟩
        have hfk := run_findKey (w := w) hd hx
        cases x <;> simp [Instr.lookup, run_underlying hk, hck, hfk]
      · refine ⟨ms, hent, fun x hx => ?_⟩
        have hfk := run_findKey (w := w) hd hx
        cases x <;> simp [Instr.lookup, run_underlying hk, run_getObj ho rfl, hck, hfk]
    obtain ⟨q1, q2⟩ := findNow_sound hE hkey rk hd (j := 0) hms hi
    rw [lget_eq] at e
    split at e
    · rename_i ent hent
      cases e
      have hlt : i < es.length := (List.getElem?_eq_some_iff.1 hent).1
      obtain ⟨m', e1, e2, _⟩ := q1 hlt
      have hv : VREL X ent.2 true [m'.val] := by
        obtain ⟨y, ey, _, hy⟩ := (ENT_iff.1 hms).get hent
        rw [e1] at ey; cases ey; exact hy
      have hrun := hlk _ e2
      cases ok with
      | true => exact .same hr (by rw [hrun]; simp) (tup2 hv true)
      | false => exact .same hr (by rw [hrun]; simp) hv
    · rename_i hent
      have hge : ¬ i < es.length := fun h => by rw [List.getElem?_eq_getElem h] at hent; cases hent
      obtain ⟨_, e2⟩ := q2 hge
      obtain ⟨te, hte, e⟩ := Option.bind_eq_some_iff.1 e
      obtain ⟨hp, e⟩ := bif_some e
      cases e
      obtain ⟨z, hz, rz⟩ := zero_val (X := X) (w := w) hE hte hp
      have hrun := hlk _ e2
      cases ok with
      | true => exact .same hr (by rw [hrun]; simp [hz]) (tup2 rz false)
      | false => exact .same hr (by rw [hrun]; simp [hz]) rz
  · cases e

theorem ENT.set {es : List (D × V)} {ms : List MapEntry} (h : ENT X es ms) {i : Nat} {k : D} {v : V} {m : MapEntry} (hk : REL X.C k true [m.key]) (hv : VREL X v true [m.val]) : ENT X (es.set i (k, v)) (ms.set i m) :=
  ENT_iff.2 ((ENT_iff.1 h).set ⟨hk, hv⟩)

theorem modify_set {α : Type} (f : α → α) : ∀ {l : List α} {i : Nat} {x : α}, l[i]? = some x → l.modify i f = l.set i (f x)
  | [], _, _, e => by simp at e
  | a :: l, 0, x, e => by simp at e; subst e; rfl
  | a :: l, i + 1, x, e => by simp only [List.modify_succ_cons, List.set_cons_succ]; rw [modify_set f (by simpa using e)]

theorem mapUpdate_sound (hE : EnvTy P E) (hr : HR B X O w h) {t : Nat} {m k u v : V} {h' : Heap} (e : sMapUpdate E h t m k u = some (v, h')) {vm vk vu : Value} (rm : VREL X m true [vm]) (rk : VREL X k true [vk]) (ru : VREL X u true [vu]) :
    v = .undef ∧ OpU P B X O w h (Instr.mapUpdate t vm vk vu) h' := by
  unfold sMapUpdate at e
  split at e
  · rename_i kt et b kd hkind
    obtain ⟨hkey, e⟩ := bif_some e
    obtain ⟨es, hes, e⟩ := Option.bind_eq_some_iff.1 e
    obtain ⟨i, hi, e⟩ := Option.bind_eq_some_iff.1 e
    obtain ⟨te, hte, e⟩ := Option.bind_eq_some_iff.1 e
    obtain ⟨hok, e⟩ := bif_some e
    cases e
    refine ⟨rfl, ?_⟩
    unfold Env.kind at hkind
    obtain ⟨ti, ht, hti⟩ := Option.map_eq_some_iff.1 hkind
    have hk := (hE.ty t ti ht).kind
    rw [hti] at hk; simp only [KindOk] at hk
    simp only [VREL] at rk
    obtain ⟨d, hd, hdk⟩ : ∃ d, P.underlying kt = some d ∧ ((∃ k, d = .int k) ∨ d = .string ∨ d = .bool) := by
      rcases okKey_sound hE hkey rk with ⟨k, n, h1, _⟩ | ⟨s, bs, h1, _⟩ | ⟨x, h1, _⟩
      · exact ⟨_, h1, .inl ⟨_, rfl⟩⟩
      · exact ⟨_, h1, .inr (.inl rfl)⟩
      · exact ⟨_, h1, .inr (.inr rfl)⟩
    have hck : ∀ b, (Instr.checkKey b 10000 kt vk).run P w = .ok () w := checkKey_ok hd hdk
    rcases entries_sound hr hes rm with ⟨rfl, _⟩ | ⟨b', r, ms, ck, bi, eb, rfl, hb, hM, hg, hf, hbase, ho, hO, hent⟩
    · simp only [VREL] at rm; obtain ⟨_, _, rm, _⟩ := rm; cases rm
    · cases eb
      obtain ⟨q1, q2⟩ := findNow_sound hE hkey rk hd (j := 0) hent hi
      have hlen : ms.toList.length = es.length := (ENT_iff.1 hent).len
      rw [llen_eq]
      by_cases hlt : i < es.length
      · obtain ⟨me, e1, e2, e3⟩ := q1 hlt
        have hb1 : Nat.blt i es.length = true := by rw [Nat.blt]; exact Nat.ble_eq_true_of_le hlt
        rw [hb1, cond_true, lset_eq]
        have hgd : ((ms[i]?).map (·.key)).getD vk = me.key := by
          have : ms[i]? = some me := by rw [← Array.getElem?_toList]; exact e1
          rw [this]; rfl
        have hkt : (Instr.keyThatStays me.key vk).run P w = .ok vk w := by simp [Instr.keyThatStays, e3]
        have hfk := run_findKey (w := w) hd e2
        rw [Nat.zero_add] at hfk
        have hent2 : ENT X (es.set i (kd, u)) (ms.modify i fun e => { e with key := vk, val := vu }).toList := by
          have : (ms.modify i fun e => { e with key := vk, val := vu }).toList = ms.toList.set i { me with key := vk, val := vu } := by
            rw [Array.toList_modify]; exact modify_set _ e1
          rw [this]
          exact hent.set rk ru
        obtain ⟨s1, s2, s3, s4⟩ := setMap_sound (ck' := ck) hr hb hM hg hf hbase ho hO hent2
        refine ⟨_, X, O, ?_, s1, s2, s3, s4⟩
        simp [Instr.mapUpdate, run_underlying hk, run_getObj ho rfl, hck, hfk, hgd, hkt, run_setObj ho rfl]
      · obtain ⟨e1, e2⟩ := q2 hlt
        have hb1 : Nat.blt i es.length = false := by
          cases hq : Nat.blt i es.length with
          | false => rfl
          | true => exact absurd (Nat.le_of_ble_eq_true hq) hlt
        rw [hb1, cond_false]
        have hfk := run_findKey (w := w) hd e2
        have hent2 : ENT X (es ++ [(kd, u)]) (ms.push { key := vk, val := vu, born := ck }).toList := by
          rw [Array.toList_push]
          exact ENT_iff.2 ((ENT_iff.1 hent).app (All2.cons ⟨rk, ru⟩ All2.nil))
        obtain ⟨s1, s2, s3, s4⟩ := setMap_sound (ck' := ck + 1) hr hb hM hg hf hbase ho hO hent2
        refine ⟨_, X, O, ?_, s1, s2, s3, s4⟩
        simp [Instr.mapUpdate, run_underlying hk, run_getObj ho rfl, hck, hfk, run_setObj ho rfl]
  · cases e

theorem tupD {d : D} {C : IV} {x : Value} (r : REL C d true [x]) (b : Bool) : REL C (.tup [d, .bool b]) true [.tuple #[x, .bool b]] := by
  simp only [REL, RELs]
  exact ⟨_, [[x], [.bool b]], rfl, ⟨_, _, rfl, r, _, _, rfl, rfl, rfl⟩, rfl⟩

theorem assert_sound (hE : EnvTy P E) (hr : HR B X O w h) {t xt : Nat} {x v : V} {ok : Bool} {h' : Heap} (e : sAssert E h x t ok = some (v, h')) {vx : Value} (r : VREL X x true [vx]) : OpS P B X O w h (Instr.typeAssert vx xt t ok) v h' := by
  unfold sAssert Env.kind at e
  cases ht : E.ty t with
  | none => rw [ht] at e; simp at e
  | some ti =>
  rw [ht] at e
  have hk := (hE.ty t ti ht).kind
  simp only [Option.map_some] at e
  have hni : (∀ nm, ti.k ≠ .ifc nm) → ∃ d, P.underlying t = some d ∧ ∀ ms, d ≠ .interface ms := by
    intro hne
    cases hti : ti.k <;> rw [hti] at hk <;> simp only [KindOk] at hk
    case ptr => obtain ⟨e, hk⟩ := hk; exact ⟨_, hk, by simp⟩
    case st => obtain ⟨e, hk, _⟩ := hk; exact ⟨_, hk, by simp⟩
    case fn => obtain ⟨_, _, _, hk⟩ := hk; exact ⟨_, hk, by simp⟩
    case ifc nm => exact absurd hti (hne nm)
    case oth => obtain ⟨d, hk, _, _, h3⟩ := hk; exact ⟨_, hk, h3⟩
    all_goals exact ⟨_, hk, by simp⟩
  split at e
  · cases e
  · rename_i k ti' hne hk1 hk2
    cases hk2
    obtain ⟨d, hd, hn⟩ := hni (fun nm hh => by rw [hh] at hk1; cases hk1; exact hne nm rfl)
    -- a value of the type; of another; nil
    have hyes : ∀ y, (Instr.typeAssert (.iface t y) xt t ok).run P w = .ok (if ok then .tuple #[y, .bool true] else y) w := fun y => by
      unfold Instr.typeAssert
      simp only [Sem.run_bind, run_underlying hd, Result.andThen_ok]
      cases d <;> first | (simp; done) | exact absurd rfl (hn _)
    have hno : ∀ u y, u ≠ t → ok = true → isPlain ti.zero = true → ∃ z, (Instr.typeAssert (.iface u y) xt t ok).run P w = .ok (.tuple #[z, .bool false]) w ∧ VREL X ti.zero true [z] := fun u y hu hok hp => by
      obtain ⟨z, hz, rz⟩ := zero_val (X := X) (w := w) hE ht hp
      refine ⟨z, ?_, rz⟩
      subst hok
      unfold Instr.typeAssert
      simp only [Sem.run_bind, run_underlying hd, Result.andThen_ok]
      cases d <;> first | (simp [hu, hz]; done) | exact absurd rfl (hn _)
    have hnil : ok = true → isPlain ti.zero = true → ∃ z, (Instr.typeAssert .nilIface xt t ok).run P w = .ok (.tuple #[z, .bool false]) w ∧ VREL X ti.zero true [z] := fun hok hp => by
      obtain ⟨z, hz, rz⟩ := zero_val (X := X) (w := w) hE ht hp
      refine ⟨z, ?_, rz⟩
      subst hok
      unfold Instr.typeAssert
      simp only [Sem.run_bind, run_underlying hd, Result.andThen_ok]
      cases d <;> first | (simp [hz]; done) | exact absurd rfl (hn _)
    split at e
    · rename_i u d'
      simp only [VREL, REL] at r
      obtain ⟨y, ey, ry⟩ := r
      cases ey
      cases hb : Nat.beq u t with
      | true =>
        rw [hb, cond_true] at e
        have := beq_of hb; subst this
        cases e
        cases ok with
        | true => exact .same hr (by rw [hyes]; try rfl) (by simp only [cond_true, VREL]; exact tupD ry true)
        | false => exact .same hr (by rw [hyes]; try rfl) (by simp only [cond_false, VREL]; exact ry)
      | false =>
        rw [hb, cond_false] at e
        obtain ⟨hc, e⟩ := bif_some e
        rw [Bool.and_eq_true] at hc
        cases e
        obtain ⟨z, hz, rz⟩ := hno u y (fun h => by subst h; rw [Nat.beq_refl] at hb; cases hb) hc.1 hc.2
        exact .same hr hz (tup2 rz false)
    · rename_i u v'
      simp only [VREL] at r
      obtain ⟨y, ey, ry⟩ := r
      cases ey
      cases hb : Nat.beq u t with
      | true =>
        rw [hb, cond_true] at e
        have := beq_of hb; subst this
        cases e
        cases ok with
        | true => exact .same hr (by rw [hyes]; try rfl) (tup2 ry true)
        | false => exact .same hr (by rw [hyes]; try rfl) ry
      | false =>
        rw [hb, cond_false] at e
        obtain ⟨hc, e⟩ := bif_some e
        rw [Bool.and_eq_true] at hc
        cases e
        obtain ⟨z, hz, rz⟩ := hno u y (fun h => by subst h; rw [Nat.beq_refl] at hb; cases hb) hc.1 hc.2
        exact .same hr hz (tup2 rz false)
    · obtain ⟨hc, e⟩ := bif_some e
      rw [Bool.and_eq_true] at hc
      cases e
      simp only [VREL, REL] at r
      cases r
      obtain ⟨z, hz, rz⟩ := hnil hc.1 hc.2
      exact .same hr hz (tup2 rz false)
    · cases e
  · cases e
end
end Go.As
