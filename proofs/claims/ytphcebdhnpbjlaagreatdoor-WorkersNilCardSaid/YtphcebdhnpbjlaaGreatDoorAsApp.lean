/-
  AS: len, min, max, append.
-/
import Derived.Test.YtphcebdhnpbjlaaGreatDoorAsMap
import Derived.Deep.AppendSrc
import Derived.Lib.MinMax
set_option linter.unusedSectionVars false
set_option linter.unusedSimpArgs false
set_option linter.unusedVariables false
namespace Go.As
open Go.RowKit (Below)
variable [Gh]
section
variable {P : Program} {B : Nat} {X : Cx} {O : Nat → Addr → Prop} {w : World} {h : Heap} {E : Env}

theorem inR64 {n : Nat} (h : n ≤ LMX) : inR .i64 (Int.ofNat n) := by
  have h1 : IntKind.i64.max = 9223372036854775807 := by decide
  have h2 : IntKind.i64.min = -9223372036854775808 := by decide
  simp only [LMX] at h
  constructor
  · rw [h2]; exact Int.le_trans (by decide) (Int.natCast_nonneg n)
  · rw [h1]; show (n : Int) ≤ _; omega
theorem lenR {n : Nat} (h : n ≤ LMX) : VREL X (.im (.int .i64 (Int.ofNat n))) true [.int .i64 n] := by
  simp only [VREL, REL]; exact ⟨rfl, inR64 h⟩

theorem len_sound (hE : EnvTy P E) (hr : HR B X O w h) {t ty : Nat} {ts : Array Nat} (h0 : ts[0]? = some t) {x v : V} {h' : Heap} (e : bLen E t h x = some (v, h')) {vx : Value} (r : VREL X x true [vx]) :
    OpS P B X O w h (Builtin.len_ ts ty #[vx]) v h' := by
  unfold bLen Env.kind at e
  cases ht : E.ty t with
  | none => rw [ht] at e; simp at e
  | some ti =>
  rw [ht] at e
  have hk := (hE.ty t ti ht).kind
  simp only [Option.map_some] at e
  split at e <;> first | (cases e; done) | skip
  · rename_i k b g off n lim hti
    rw [Option.some.inj hti] at hk; simp only [KindOk] at hk
    cases e
    simp only [VREL] at r
    obtain ⟨y, ey, ⟨a, cap, e1, _, e2, _⟩, _⟩ := r
    cases ey; subst e1
    exact .same hr (by simp [Builtin.len_, h0, run_underlying hk, goInt]) (lenR e2)
  · rename_i k l hti
    rw [Option.some.inj hti] at hk; simp only [KindOk] at hk
    cases e
    simp only [VREL, REL] at r
    obtain ⟨a, n, cap, e1, e2, _, e3, _⟩ := r
    cases e1; rw [llen_eq, ← e2]
    exact .same hr (by simp [Builtin.len_, h0, run_underlying hk, goInt]) (lenR e3)
  · rename_i k l hti
    rw [Option.some.inj hti] at hk; simp only [KindOk] at hk
    cases e
    simp only [VREL] at r
    obtain ⟨y, ey, a, n, e1, e2, e3, _⟩ := r
    cases ey; subst e1; rw [llen_eq, ← e2]
    exact .same hr (by simp [Builtin.len_, h0, run_underlying hk, goInt]) (lenR e3)
  · rename_i s hti
    rw [Option.some.inj hti] at hk; simp only [KindOk] at hk
    cases e
    simp only [VREL, REL] at r
    obtain ⟨b, e1, e2, e3⟩ := r
    cases e1; rw [llen_eq, ← e2, bytesL_len]
    exact .same hr (by simp [Builtin.len_, h0, run_underlying hk, goInt]) (lenR e3)
  · rename_i kt et hti
    rw [Option.some.inj hti] at hk; simp only [KindOk] at hk
    cases e
    simp only [VREL, REL] at r
    cases r
    exact .same hr (by simp [Builtin.len_, h0, run_underlying hk, goInt]) (lenR (n := 0) (by decide))
  · rename_i kt et b hti
    rw [Option.some.inj hti] at hk; simp only [KindOk] at hk
    split at e
    · rename_i es hb
      obtain ⟨hc, e⟩ := bif_some e
      cases e
      rcases entries_sound hr (m := .mp b) (es := es) (by simp [entries, hb]) r with ⟨rfl, _⟩ | ⟨b', r', ms, ck, bi, eb, rfl, _, _, _, _, _, ho, _, hent⟩
      · simp only [VREL] at r; obtain ⟨_, _, r, _⟩ := r; cases r
      · have hl : ms.size = es.length := by have := (ENT_iff.1 hent).len; simpa using this
        rw [llen_eq] at hc ⊢
        rw [← hl] at hc ⊢
        exact .same hr (by simp [Builtin.len_, h0, run_underlying hk, run_getObj ho rfl, goInt]) (lenR (by have := ble_of hc; simpa [LMX] using this))
    · cases e

theorem evs_all {X : Cx} {ρ : Operand → Value} {ev : Operand → V} (hρ : ∀ x, VREL X (ev x) true [ρ x]) (l : List Operand) : All2 (fun v x => VREL X v true [x]) (l.map ev) (l.map ρ) := by
  induction l with
  | nil => exact All2.nil
  | cons a l ih => exact All2.cons (hρ a) ih

theorem minV_cons (k : IntKind) (v : V) (l : List V) (a : Int) : minV k (v :: l) a = (match v with | .im (.int k' b) => bif keq k k' then minV k l (bif ile a b then a else b) else none | _ => none) := rfl
theorem maxV_cons (k : IntKind) (v : V) (l : List V) (a : Int) : maxV k (v :: l) a = (match v with | .im (.int k' b) => bif keq k k' then maxV k l (bif ile a b then b else a) else none | _ => none) := rfl
theorem min_run {k : IntKind} : ∀ {l : List V} {xs : List Value} {a n : Int}, minV k l a = some n → All2 (fun v x => VREL X v true [x]) l xs → inR k a → (xs.foldlM Builtin.min2 (.int k a)).run P w = .ok (.int k n) w ∧ inR k n
  | [], _, a, n, e, r, ha => by cases r; simp [minV] at e; subst e; exact ⟨rfl, ha⟩
  | v :: l, _, a, n, e, ⟨x, xs, rfl, rx, rl⟩, ha => by
    rw [minV_cons] at e
    split at e
    · rename_i k' b
      obtain ⟨hk, e2⟩ := bif_some e
      clear e
      have := keq_iff hk; subst this
      simp only [VREL, REL] at rx
      obtain ⟨rx, hb⟩ := rx; cases rx
      have hs : (bif ile a b then a else b) = if b < a then b else a := by
        rw [ile_eq]; by_cases h : a ≤ b
        · simp [h, show ¬ b < a from by omega]
        · simp [h, show b < a from by omega]
      rw [hs] at e2
      obtain ⟨q1, q2⟩ := min_run e2 rl (by split <;> assumption)
      exact ⟨by simp only [List.foldlM_cons, Builtin.min2]; simpa using q1, q2⟩
    · cases e
theorem max_run {k : IntKind} : ∀ {l : List V} {xs : List Value} {a n : Int}, maxV k l a = some n → All2 (fun v x => VREL X v true [x]) l xs → inR k a → (xs.foldlM Builtin.max2 (.int k a)).run P w = .ok (.int k n) w ∧ inR k n
  | [], _, a, n, e, r, ha => by cases r; simp [maxV] at e; subst e; exact ⟨rfl, ha⟩
  | v :: l, _, a, n, e, ⟨x, xs, rfl, rx, rl⟩, ha => by
    rw [maxV_cons] at e
    split at e
    · rename_i k' b
      obtain ⟨hk, e2⟩ := bif_some e
      clear e
      have := keq_iff hk; subst this
      simp only [VREL, REL] at rx
      obtain ⟨rx, hb⟩ := rx; cases rx
      have hs : (bif ile a b then b else a) = if b > a then b else a := by
        rw [ile_eq]; by_cases h : a ≤ b
        · by_cases h2 : b > a
          · simp [h, h2]
          · have : a = b := by omega
            subst this; simp
        · simp [h, show ¬ b > a from by omega]
      rw [hs] at e2
      obtain ⟨q1, q2⟩ := max_run e2 rl (by split <;> assumption)
      exact ⟨by simp only [List.foldlM_cons, Builtin.max2]; simpa using q1, q2⟩
    · cases e

/-! ### append -/
theorem delems_cells (hr : HR B X O w h) {x : V} {l : List D} (e : x.delems h = some l) {m : Bool} {vx : Value} (r : VREL X x m [vx]) :
    ∃ a n cap, vx = .slice a n cap ∧ n = l.length ∧ n ≤ cap ∧ n ≤ LMX ∧ (n = 0 ∨ ∃ a0 wss s, a = some a0 ∧ a0.spot = none ∧ RELs X.C l false wss ∧ Even s wss ∧ cellsAt w.cell? a0 wss.flatten) := by
  unfold V.delems at e
  split at e
  · cases e
    simp only [VREL, REL] at r
    obtain ⟨a, n, cap, e1, e2, e3, e4, e5⟩ := r
    cases e1
    refine ⟨a, n, cap, rfl, e2, e3, e4, e5.imp id ?_⟩
    rintro ⟨a0, wss, s, q1, q2, q3, q4, q5⟩
    exact ⟨a0, wss, s, q1, q2, q3, q4, fun j v hj => hr.ci _ _ (q5 j v hj)⟩
  · cases e
    simp only [VREL] at r
    obtain ⟨y, ey, a, n, e1, e2, e3, e5⟩ := r
    cases ey; subst e1
    refine ⟨a, n, n, rfl, e2, Nat.le_refl _, e3, e5.imp id ?_⟩
    rintro ⟨a0, wss, s, q1, q2, q3, q4, q5⟩
    exact ⟨a0, wss, s, q1, q2, q3, q4, fun j v hj => hr.ci _ _ (q5 j v hj)⟩
  · rename_i b g off len lim
    split at e
    · rename_i g' s ro l' hb
      obtain ⟨hc, e⟩ := bif_some e
      cases e
      obtain ⟨hg, hol⟩ := cutOk_iff hc
      rw [cutAll_eq l' off len hol]
      simp only [VREL] at r
      obtain ⟨y, ey, _, bi, hM, hgb, hown⟩ := r
      cases ey
      obtain ⟨bj, h1, h2, h3, h4, h5, h6⟩ := hr.blk b _ hb
      rw [hM] at h1; cases h1
      obtain ⟨a, cap, e1, e2, e3, e4, e5, e6⟩ := hown (by rw [h2]; exact hg)
      subst e1
      have hll : ((l'.drop off).take len).length = len := by rw [List.length_take, List.length_drop]; omega
      refine ⟨a, len, cap, rfl, hll.symm, e2, e3, ?_⟩
      by_cases hz : len = 0
      · exact .inl hz
      · right
        rcases e6 with e6 | ⟨a0, q1, q2, q3⟩
        · omega
        · rcases h6 with h6 | ⟨es, a1, wss, k1, k2, k3, k4, k5, k6, k7⟩
          · omega
          · rw [q1] at k1; cases k1
            refine ⟨_, (wss.drop off).take len, s, q3, Addr.add_spot _ _ q2, RELs_iff.2 (((RELs_iff.1 k3).drop off).take len), Even.take (Even.drop k4 off) len, ?_⟩
            rw [Even.flatten_take (Even.drop k4 off), Even.flatten_drop k4, es]
            exact (k5.drop q2 (off * s)).take _
    · cases e
  · cases e

theorem newElems_sound (hE : EnvTy P E) (hr : HR B X O w h) {te : TI} {tx : Nat} {x : V} {new : List D} (e : newElems E te tx x h = some new) {vx : Value} (r : VREL X x true [vx]) :
    ∃ wss, Src P te.size tx vx new.length wss.flatten w ∧ RELs X.C new false wss ∧ Even te.size wss := by
  unfold newElems Env.kind at e
  cases ht : E.ty tx with
  | none => rw [ht] at e; simp at e
  | some ti =>
  rw [ht] at e
  have hk := (hE.ty tx ti ht).kind
  simp only [Option.map_some] at e
  split at e
  · rename_i s hti
    rw [Option.some.inj hti] at hk; simp only [KindOk] at hk
    obtain ⟨h1, e⟩ := bif_some e
    have h1 := beq_of h1
    cases e
    simp only [VREL, REL] at r
    obtain ⟨b, e1, e2, e3⟩ := r
    cases e1
    subst e2
    have hm : (bytesL b).map byteD = b.data.toList.map fun u => byteD u.toNat := by unfold bytesL; rw [List.map_map]; rfl
    have hlen : ((bytesL b).map byteD).length = b.size := by rw [List.length_map, bytesL_len]
    refine ⟨b.data.toList.map fun u => [Value.int .u8 u.toNat], ?_, ?_, ?_⟩
    · rw [hlen, h1, bytes_flat]
      exact Src.ofString w hk b
    · rw [hm]; exact byteD_rows b.data.toList
    · rw [h1]; intro ws hw; obtain ⟨u, _, rfl⟩ := List.mem_map.1 hw; rfl
  · rename_i k hti
    rw [Option.some.inj hti] at hk; simp only [KindOk] at hk
    obtain ⟨l, hl, e⟩ := Option.bind_eq_some_iff.1 e
    obtain ⟨hf, e⟩ := bif_some e
    cases e
    obtain ⟨a, n, cap, e1, e2, e3, e4, e5⟩ := delems_cells hr hl r
    subst e1
    by_cases hz : n = 0
    · subst hz
      have hn : new = [] := List.eq_nil_of_length_eq_zero e2.symm
      subst hn
      refine ⟨[], ?_, by simp [RELs], fun _ h => by cases h⟩
      cases a with
      | none => exact Src.ofNil w hk cap
      | some a0 => exact Src.ofSlice w hk a0 0 cap [] (by simp) (fun j u e => by simp at e) (fun _ h => by cases h)
    · obtain ⟨a0, wss, s, q1, q2, q3, q4, q5⟩ := e5.resolve_left hz
      subst q1
      have hs := firstWd_of hf q3 q4 (fun h => by subst h; simp at e2; exact hz e2)
      subst hs
      refine ⟨wss, ?_, q3, q4⟩
      rw [← e2]
      exact Src.ofSlice w hk a0 n cap wss.flatten (by rw [q4.len, (RELs_iff.1 q3).len, e2]) q5 q3.ones
  · cases e

theorem append_types {ts : Array TypeId} {t tx ty : TypeId} (h0 : ts[0]? = some t) (h1 : ts[1]? = some tx) (s x : Value) : Builtin.append_ ts ty #[s, x] = Builtin.append_ #[t, tx] ty #[s, x] := by
  simp [Builtin.append_, h0, h1]

theorem run_append_room_put {t tx ty el : TypeId} {i : TypeInfo} (ht : P.underlying t = some (.slice el)) (hi : P.info? el = some i) {base : Option Addr} {sLen sCap n : Nat} {x : Value} {news : List Value} (hs : Src P i.size tx x n news w)
    (hroom : sLen + n ≤ sCap) {a : Addr} (hb : news ≠ [] → base = some a) (ha : a.spot = none) (hc : ∀ j, j < news.length → (∃ u, w.cell? ((a.add (sLen * i.size)).add j) = some u) ∧ w.frozen? ((a.add (sLen * i.size)).add j) = false) :
    (Builtin.append_ #[t, tx] ty #[.slice base sLen sCap, x]).run P w = .ok (.slice base (sLen + n) sCap) (putCells w (a.add (sLen * i.size)) news 0) := by
  by_cases hn : news = []
  · subst hn
    have hst : ∀ b : Addr, (storeCells b [] 0).run P w = .ok () w := fun b => rfl
    rcases hs.kind with ⟨e', hk⟩ | hk <;> cases base <;> simp [Builtin.append_, run_underlying ht, run_underlying hk, sizeOf, typeInfo, hi, hs.len, hroom, hs.cells, hst, putCells]
  · obtain rfl := hb hn
    have hst := run_storeCells_put (P := P) (a.add (sLen * i.size)) (Addr.add_spot _ _ ha) news w 0 hs.one (fun j hj => by rw [Nat.zero_add]; exact hc j hj)
    rcases hs.kind with ⟨e', hk⟩ | hk <;> simp [Builtin.append_, run_underlying ht, run_underlying hk, sizeOf, typeInfo, hi, hs.len, hroom, hs.cells, hst]

theorem room_iff {n b : Nat} (h : room n b = true) : n * b ≤ 70368744177664 ∧ n ≤ 70368744177664 := by
  unfold room at h; rw [Bool.and_eq_true] at h; exact ⟨ble_of h.1, ble_of h.2⟩

/-- An array that makes room: what it held, and more, in a new block. -/
theorem run_append_grow_ok {t tx ty el : TypeId} {te : TI} (hok : TyOk P el te) (hz : okV te te.zero = true) (ht : P.underlying t = some (.slice el)) {base : Option Addr} {sLen sCap n : Nat} {x : Value} {olds news : List Value}
    (hold : sLen = 0 ∧ olds = [] ∨ ∃ a, base = some a ∧ olds.length = sLen * te.size ∧ ∀ j v, olds[j]? = some v → w.cell? (a.add j) = some v) (hs : Src P te.size tx x n news w) (hg : sCap < sLen + n) (hr : room (sLen + n) te.bytes = true) :
    ∃ (cap : Nat) (rest : List Value) (w' : World), (Builtin.append_ #[t, tx] ty #[.slice base sLen sCap, x]).run P w = .ok (.slice (some ⟨w.heap.size, 0, none⟩) (sLen + n) cap) w' ∧ NewRow w w' ((olds ++ news) ++ rest) ∧ Below w.heap.size w w' ∧
      ((olds ++ news) ++ rest).length = cap * te.size ∧ sLen + n ≤ cap ∧ cap ≤ LMX := by
  obtain ⟨r1, r2⟩ := room_iff hr
  obtain ⟨i, i1, i2, i3, i4⟩ := hok.info
  obtain ⟨k1, _, k3⟩ := okV_iff hz
  obtain ⟨z, z1, z2⟩ := i4 _ rfl k3
  have hzs : z.cells.size = te.size := by have := (z2.cells k3).wd; simp at this; rw [this, k1]
  rw [← i2] at hs hold
  have hfit : Builtin.nextslicecap (sLen + n) sCap * i.bytes ≤ 281474976710656 := growslice_fits hg (by rw [i3]; omega)
  have holds : (Builtin.firstCells i.size sLen (.slice base sLen sCap)).run P w.drew = .ok olds.toArray w.drew := by
    rcases hold with ⟨rfl, rfl⟩ | ⟨a, rfl, h1, h2⟩
    · cases base with
      | none => exact run_firstCells_none _ _ _ _ _
      | some a => exact run_firstCells_some w.drew i.size 0 a 0 sCap [] (by simp) (fun j v e => by simp at e)
    · exact run_firstCells_some w.drew i.size sLen a sLen sCap olds h1 (by simpa using h2)
  have hrun := run_append_grow_src w t tx ty el i z ht i1 z1 base sLen sCap olds holds x n news hs hg (by omega) hfit
  have hge := grownCap_ge w (sLen + n) sCap el
  have hle := grownCap_le_maxLen w (sLen + n) sCap el (by simp only [maxLen]; omega)
  have hsz0 : (Builtin.zeroCells z.cells (grownCap w (sLen + n) sCap el - (sLen + n))).toList.length = (grownCap w (sLen + n) sCap el - (sLen + n)) * te.size := by simp [size_zeroCells, hzs]
  have hol : olds.length = sLen * i.size := by
    rcases hold with ⟨rfl, rfl⟩ | ⟨a, _, h1, _⟩
    · simp
    · exact h1
  refine ⟨grownCap w (sLen + n) sCap el, (Builtin.zeroCells z.cells (grownCap w (sLen + n) sCap el - (sLen + n))).toList, _, hrun, ?_, ?_, ?_, hge, ?_⟩
  · have h1 := NewRow.alloc w.drew ((olds ++ news).toArray ++ Builtin.zeroCells z.cells (grownCap w (sLen + n) sCap el - (sLen + n))) el
    have h2 : ((olds ++ news).toArray ++ Builtin.zeroCells z.cells (grownCap w (sLen + n) sCap el - (sLen + n))).toList = (olds ++ news) ++ (Builtin.zeroCells z.cells (grownCap w (sLen + n) sCap el - (sLen + n))).toList := by simp
    rw [h2] at h1
    exact ⟨(Keep.of_below (below_drew w)).trans h1.keep, h1.size, h1.cell, h1.frozen⟩
  · exact (below_drew w).alloc (Nat.le_refl _) _
  · rw [List.length_append, List.length_append, hol, hs.newsLen, hsz0, i2, ← Nat.add_mul, ← Nat.add_mul]
    congr 1; omega
  · simp only [maxLen, LMX] at hle ⊢; omega

/-- Block b's array has moved into new memory; of its elements the first ro are shared. -/
theorem HR.regrow (hr : HR B X O w h) {w' : World} {b g s0 ro0 : Nat} {l0 : List D} {bi : BI} (hb : hget h b = some (.arr g s0 ro0 l0)) (hM : X.M b = some bi) (hg : bi.g = g) (hfx : bi.fix = false) (hB : Below B w w') {cs : List Value} (hw : NewRow w w' cs)
    {s cap ro : Nat} {l : List D} {wss : List (List Value)} {rest : List Value} (hcs : cs.length = cap * s) (hcap : cap ≤ LMX) (hlen : l.length ≤ cap) (hro : ro ≤ l.length) (hl : RELs X.C l false wss) (hev : Even s wss) (hrest : cs = wss.flatten ++ rest) :
    ∃ X' O', HR B X' O' w' (hput h b (.arr (g + 1) s ro l)) ∧ Up B X w h.length X' w' ∧ VREL X' (.own b (g + 1) 0 l.length false) true [.slice (some ⟨w.heap.size, 0, none⟩) l.length cap] ∧ h.length ≤ (hput h b (.arr (g + 1) s ro l)).length ∧ FR X O w h X' O' w' (hput h b (.arr (g + 1) s ro l)) := by
  have hbl := hget_lt hb
  have hle := Nat.le_of_lt hbl
  let a0 : Addr := ⟨w.heap.size, 0, none⟩
  let bj : BI := ⟨g + 1, some a0, s, cap, false⟩
  let C : IV := fun a => if ∃ j, j < ro * s ∧ a = a0.add j then w'.cell? a else X.C a
  let Y : Cx := { X with C := C, M := fun c => if c = b then some bj else X.M c }
  let Q : Nat → Addr → Prop := fun c => if c = b then fun a => ∃ j, ro * s ≤ j ∧ j < cap * s ∧ a = a0.add j else O c
  have hQb : ∀ a, (∃ j, ro * s ≤ j ∧ j < cap * s ∧ a = a0.add j) → Q b a := fun a hh => by simp only [Q, if_pos]; exact hh
  have hQo : ∀ c a, c ≠ b → O c a → Q c a := fun c a hc hh => by simp only [Q, if_neg hc]; exact hh
  have hsz := hw.size
  have hC0 : ∀ a v, X.C a = some v → a.block < w.heap.size := fun a v e => World.block_lt_of_cell? w a (hr.ci a v e)
  have hnew : ∀ j, (a0.add j).block = w.heap.size := fun j => by rw [Addr.add_block]
  have hci' : CI X.C w' := hr.ci.keep hw.keep
  have hCle : X.C.le C := fun a v e => by
    show (if _ then _ else _) = _
    rw [if_neg]
    · exact e
    · rintro ⟨j, _, rfl⟩; have := hC0 _ v e; rw [hnew] at this; omega
  have hCI : CI C w' := fun a v e => by
    have e : (if ∃ j, j < ro * s ∧ a = a0.add j then w'.cell? a else X.C a) = some v := e
    split at e
    · exact e
    · exact hci' a v e
  have hfresh : ∀ a v, C a = some v → X.C a = none → B ≤ a.block := fun a v e hn => by
    have e : (if ∃ j, j < ro * s ∧ a = a0.add j then w'.cell? a else X.C a) = some v := e
    split at e
    · rename_i hh; obtain ⟨j, _, rfl⟩ := hh; rw [hnew]; exact hr.wb
    · rw [hn] at e; cases e
  have hXY : X.le h.length Y := ⟨hCle, fun c ci hc e => by
    by_cases hcb : c = b
    · subst hcb; rw [hM] at e; cases e
      exact ⟨bj, by simp [Y], by show bi.g ≤ g + 1; omega, fun hh => absurd hh (by show bi.g ≠ g + 1; omega), fun hh => by rw [hfx] at hh; cases hh⟩
    · exact ⟨ci, by simp [Y, hcb, e], Nat.le_refl _, fun _ => rfl, fun _ => rfl⟩, fun _ _ e => e⟩
  have hcell : cellsAt w'.cell? a0 cs := fun j v e => by rw [show a0.add j = ⟨w.heap.size, j, none⟩ from addr_new _ _]; exact hw.cell j v e
  have hflen : wss.flatten.length = l.length * s := by rw [hev.len, (RELs_iff.1 hl).len]
  have hmul : l.length * s ≤ cap * s := Nat.mul_le_mul_right _ hlen
  have hmul2 : ro * s ≤ l.length * s := Nat.mul_le_mul_right _ hro
  refine ⟨Y, Q, ⟨fun c k e => ?_, fun c a o => ?_, fun c d a o o' => ?_, fun c ci e => ?_, hCI, Nat.le_trans hr.wb (Nat.le_of_lt hsz)⟩, ⟨hXY, hB, hfresh, fun r o e _ => hw.keep.obj r o e⟩, ?_, ?_, ⟨fun c ci e hn => ?_, fun c ci e hn => ?_, fun c ci e hn a o => ?_, fun c ci e hn a o v ev => ⟨hw.keep.cell _ _ ev, hw.keep.frozen _ _ ev⟩, fun c ci e hn r o ob eo _ => hw.keep.obj _ _ eo, fun c ci e hn g' _ hg' => hw.keep.block g' hg', fun c e => ?_, fun c _ e hn => ?_⟩⟩
  · rw [hget_hput h b c _ hle] at e
    by_cases hcb : c = b
    · subst hcb
      simp only [if_true] at e; cases e
      refine ⟨bj, by simp [Y], rfl, rfl, ⟨hlen, hro⟩, hcap, .inr ⟨rfl, a0, wss, rfl, rfl, hl.mono hCle, hev, ?_, ?_, ?_⟩⟩
      · exact fun j v e => hcell j v (by rw [hrest, List.getElem?_append_left (List.getElem?_eq_some_iff.1 e).1]; exact e)
      · intro j v e
        rw [List.getElem?_take] at e
        split at e
        · rename_i hj
          show (if _ then _ else _) = _
          rw [if_pos ⟨j, hj, rfl⟩]
          exact hcell j v (by rw [hrest, List.getElem?_append_left (List.getElem?_eq_some_iff.1 e).1]; exact e)
        · cases e
      · intro j h1 h2
        have hj2 : j < cs.length := by rw [hcs]; exact h2
        refine ⟨hQb _ ⟨j, h1, h2, rfl⟩, ⟨cs[j], hcell j _ (by simp [hj2])⟩, ?_⟩
        rw [show a0.add j = ⟨w.heap.size, j, none⟩ from addr_new _ _]; exact hw.frozen j hj2
    · simp only [if_neg hcb] at e
      exact (hr.blk c k e).later hr.lt hXY (by simp [Y, hcb]) hw.keep (fun a o => hQo c a hcb o)
  · by_cases hcb : c = b
    · have o : (if c = b then fun a => ∃ j, ro * s ≤ j ∧ j < cap * s ∧ a = a0.add j else O c) a := o
      rw [if_pos hcb] at o
      obtain ⟨j, h1, h2, rfl⟩ := o
      refine ⟨by rw [hnew]; exact hr.wb, by rw [hnew]; exact hsz, ?_⟩
      show (if _ then _ else _) = _
      rw [if_neg]
      · cases hx : X.C (a0.add j) with
        | none => rfl
        | some v => have := hC0 _ v hx; rw [hnew] at this; omega
      · rintro ⟨i, hi, he⟩
        have := Addr.add_inj (a := a0) rfl he
        omega
    · have o : (if c = b then fun a => ∃ j, ro * s ≤ j ∧ j < cap * s ∧ a = a0.add j else O c) a := o
      rw [if_neg hcb] at o
      obtain ⟨q1, q2, q3⟩ := hr.own c a o
      refine ⟨q1, by omega, ?_⟩
      show (if _ then _ else _) = _
      rw [if_neg]
      · exact q3
      · rintro ⟨i, _, rfl⟩; rw [hnew] at q2; omega
  · have o : (if c = b then fun a => ∃ j, ro * s ≤ j ∧ j < cap * s ∧ a = a0.add j else O c) a := o
    have o' : (if d = b then fun a => ∃ j, ro * s ≤ j ∧ j < cap * s ∧ a = a0.add j else O d) a := o'
    by_cases hcb : c = b <;> by_cases hdb : d = b
    · rw [hcb, hdb]
    · rw [if_pos hcb] at o; rw [if_neg hdb] at o'
      obtain ⟨j, _, _, rfl⟩ := o
      have := (hr.own d _ o').2.1; rw [hnew] at this; omega
    · rw [if_neg hcb] at o; rw [if_pos hdb] at o'
      obtain ⟨j, _, _, rfl⟩ := o'
      have := (hr.own c _ o).2.1; rw [hnew] at this; omega
    · rw [if_neg hcb] at o; rw [if_neg hdb] at o'
      exact hr.dis c d a o o'
  · rw [hput_len, if_pos hbl]
    have e : (if c = b then some bj else X.M c) = some ci := e
    split at e
    · rename_i hcb; rw [hcb]; exact hbl
    · exact hr.lt c ci e
  · simp only [VREL]
    refine ⟨_, rfl, ⟨_, _, rfl, hlen, by omega, .inr ⟨_, rfl⟩⟩, bj, by simp [Y], Nat.le_refl _, fun _ => ⟨_, _, rfl, hlen, by omega, by show 0 + cap ≤ cap; omega, (fun h => by cases h), .inr ⟨a0, rfl, rfl, by simp [a0]⟩⟩⟩
  · rw [hput_len, if_pos hbl]; exact Nat.le_refl _
  · have hcb : c ≠ b := fun hh => by subst hh; rw [hb] at hn; cases hn
    rw [hget_hput h b c _ hle, if_neg hcb]; exact hn
  · have hcb : c ≠ b := fun hh => by subst hh; rw [hb] at hn; cases hn
    simp [Y, hcb, e]
  · have hcb : c ≠ b := fun hh => by subst hh; rw [hb] at hn; cases hn
    exact hQo c a hcb o
  · rw [hget_hput h b c _ hle] at e
    split at e
    · cases e
    · exact e
  · rw [hget_hput h b c _ hle] at hn
    split at hn
    · cases hn
    · rename_i hcb; simp [Y, hcb, e]

theorem take_whole {α : Type} {l : List α} {n : Nat} (h : n ≤ l.length) : cutAll l 0 n = l.take n := by rw [cutAll_eq l 0 n (by omega)]; simp

theorem isNone_iff {l : List D} : isNone l = true ↔ l = [] := by cases l <;> simp [isNone]
theorem no_news {size tx n : Nat} {x : Value} {news : List Value} (hs : Src P size tx x n news w) (h : n = 0) : news = [] := List.eq_nil_of_length_eq_zero (by rw [hs.newsLen, h, Nat.zero_mul])

theorem appendTo_sound (hr : HR B X O w h) {nid t tx ty el : Nat} {te : TI} (hok : TyOk P el te) (hz : okV te te.zero = true) (hk : P.underlying t = some (.slice el)) (hn : hget h nid = none) (hM : X.M nid = none) (hle : nid ≤ h.length) {s v : V} {new : List D} {h' : Heap}
    (e : appendTo te nid s new h = some (v, h')) {vs vx : Value} (rs : VREL X s true [vs]) {wss : List (List Value)} (hs : Src P te.size tx vx new.length wss.flatten w) (hrel : RELs X.C new false wss) (hev : Even te.size wss) :
    OpS P B X O w h (Builtin.append_ #[t, tx] ty #[vs, vx]) v h' := by
  obtain ⟨i, i1, i2, i3, i4⟩ := hok.info
  unfold appendTo at e
  split at e
  · rename_i b g off len lim
    have rs0 := rs
    simp only [VREL] at rs
    obtain ⟨y, ey, ⟨a, cap, e1, e2, e3, e4⟩, bi, hMb, hgb, hown⟩ := rs
    cases ey; subst e1
    split at e
    · rename_i g' sz ro l hb
      obtain ⟨bj, b1, b2, b3, b4, b5, b6⟩ := hr.blk b _ hb
      rw [hMb] at b1; cases b1
      cases lim with
      | true =>
        simp only [cond_true] at e
        cases hni : isNone new with
        | true =>
          rw [hni, cond_true] at e
          cases e
          have := isNone_iff.1 hni; subst this
          have hnn : wss.flatten = [] := no_news hs rfl
          rw [hnn, ← i2] at hs
          have hrun := run_append_room_put (w := w) (ty := ty) hk i1 hs (base := a) (sLen := len) (sCap := cap) (by simpa using e2) (a := ⟨0, 0, none⟩) (fun h => absurd rfl h) rfl (fun j hj => by simp at hj)
          simp only [putCells] at hrun
          exact .same hr hrun rs0
        | false =>
          rw [hni, cond_false] at e
          obtain ⟨hc, e⟩ := bif_some e
          simp only [Bool.and_eq_true] at hc
          obtain ⟨hcut, hsz, hroom⟩ := hc
          obtain ⟨hgg, hol⟩ := cutOk_iff hcut
          cases e
          rw [llen_eq] at hroom
          have hsz := beq_of hsz; subst hsz
          obtain ⟨a', cap', w1, w2, w3, w4, w5, w6⟩ := hown (by rw [b2]; exact hgg)
          cases w1
          have hcl := w5 rfl; rw [hcl] at w2 w4 w6 ⊢; clear hcl
          have hpos : 0 < new.length := by
            rcases Nat.eq_zero_or_pos new.length with h | h
            · have := List.eq_nil_of_length_eq_zero h; subst this; cases hni
            · exact h
          rw [cutAll_eq l off len hol]
          have hll : ((l.drop off).take len).length = len := by rw [List.length_take, List.length_drop]; omega
          -- the old elements
          obtain ⟨wo, o1, o2, o3⟩ : ∃ wo, RELs X.C ((l.drop off).take len) false wo ∧ Even te.size wo ∧ (len = 0 ∧ wo.flatten = [] ∨ ∃ a0, a = some a0 ∧ wo.flatten.length = len * te.size ∧ ∀ j v, wo.flatten[j]? = some v → w.cell? (a0.add j) = some v) := by
            by_cases hz0 : len = 0
            · subst hz0; exact ⟨[], by simp [RELs], (fun _ h => by cases h), .inl ⟨rfl, rfl⟩⟩
            · rcases w6 with w6 | ⟨a0, q1, q2, q3⟩
              · exact absurd w6 hz0
              · rcases b6 with b6 | ⟨es, a1, wss0, k1, k2, k3, k4, k5, k6, k7⟩
                · omega
                · rw [q1] at k1; cases k1
                  refine ⟨(wss0.drop off).take len, RELs_iff.2 (((RELs_iff.1 k3).drop off).take len), Even.take (Even.drop k4 off) len, .inr ⟨_, q3, ?_, ?_⟩⟩
                  · rw [(Even.take (Even.drop k4 off) len).len, (((RELs_iff.1 k3).drop off).take len).len, hll]
                  · rw [Even.flatten_take (Even.drop k4 off), Even.flatten_drop k4, es]
                    exact (k5.drop q2 (off * te.size)).take _
          obtain ⟨cap2, rest, w', g1, g2, g3, g4, g5, g6⟩ := run_append_grow_ok (w := w) (ty := ty) hok hz hk (base := a) (sLen := len) (sCap := len) (olds := wo.flatten) o3 hs (by omega) hroom
          have hfl : wo.flatten ++ wss.flatten = (wo ++ wss).flatten := by simp
          rw [hfl] at g2 g4
          have hlen2 : ((l.drop off).take len ++ new).length = len + new.length := by rw [List.length_append, hll]
          obtain ⟨X', O', q1, q2, q3, q4, q5⟩ := newData_sound hr hn hM hle (g3.mono hr.wb) g2 (s := te.size) (cap := cap2) (l := (l.drop off).take len ++ new) (wss := wo ++ wss) (rest := rest) g4 g6 (by rw [hlen2]; exact g5) (RELs_iff.2 ((RELs_iff.1 o1).app (RELs_iff.1 hrel))) (o2.app hev) rfl
          rw [hlen2] at q3
          exact ⟨_, _, X', O', g1, q1, q2, by rw [llen_eq]; exact q3, q4, q5⟩
      | false =>
        simp only [cond_false] at e
        obtain ⟨hc, e2'⟩ := bif_some e
        clear e
        cases e2'
        simp only [Bool.and_eq_true] at hc
        obtain ⟨hcut, hoff, hro, hsz, hroom⟩ := hc
        obtain ⟨hgg, hol⟩ := cutOk_iff hcut
        subst hgg
        have hoff := beq_of hoff; subst hoff
        have hro := ble_of hro
        have hsz := beq_of hsz; subst hsz
        rw [llen_eq] at hroom ⊢
        have hlen : len ≤ l.length := by omega
        rw [take_whole hlen]
        have hll : (l.take len).length = len := by rw [List.length_take]; omega
        have hlen2 : (l.take len ++ new).length = len + new.length := by rw [List.length_append, hll]
        obtain ⟨a', cap', w1, w2, w3, w4, _, w6⟩ := hown b2.symm
        cases w1
        rw [Nat.zero_add] at w4
        obtain ⟨wo, o1, o2, o3⟩ : ∃ wo, RELs X.C (l.take len) false wo ∧ Even te.size wo ∧ (len = 0 ∧ wo.flatten = [] ∨ ∃ a0, a = some a0 ∧ wo.flatten.length = len * te.size ∧ ∀ j v, wo.flatten[j]? = some v → w.cell? (a0.add j) = some v) := by
          by_cases hz0 : len = 0
          · subst hz0; exact ⟨[], by simp [RELs], (fun _ h => by cases h), .inl ⟨rfl, rfl⟩⟩
          · rcases w6 with w6 | ⟨a0, q1, q2, q3⟩
            · omega
            · rcases b6 with b6 | ⟨es, a1, wss0, k1, k2, k3, k4, k5, k6, k7⟩
              · omega
              · rw [q1] at k1; cases k1
                rw [Nat.zero_mul, Addr.add_zero] at q3
                refine ⟨wss0.take len, RELs_iff.2 ((RELs_iff.1 k3).take len), Even.take k4 len, .inr ⟨_, q3, ?_, ?_⟩⟩
                · rw [(Even.take k4 len).len, ((RELs_iff.1 k3).take len).len, hll]
                · rw [Even.flatten_take k4]
                  exact k5.take _
        by_cases hfit : len + new.length ≤ cap
        · -- in its place
          rw [← i2] at hs
          let bk : BI := ⟨g + 1, bi.base, te.size, cap, false⟩
          by_cases hcz : cap = 0
          · have hl0 : len = 0 := by omega
            have hn0 : new.length = 0 := by omega
            have hnn : wss.flatten = [] := no_news hs hn0
            rw [hnn] at hs
            have hrun := run_append_room_put (w := w) (ty := ty) hk i1 hs (base := a) (sLen := len) (sCap := cap) hfit (a := ⟨0, 0, none⟩) (fun h => absurd rfl h) rfl (fun j hj => by simp at hj)
            simp only [putCells] at hrun
            have hXY : X.le h.length (X.withM b bk) := ⟨.refl _, fun c ci hc e => by
              by_cases hcb : c = b
              · subst hcb; rw [hMb] at e; cases e
                exact ⟨bk, Cx.withM_same _ _ _, by show bi.g ≤ g + 1; omega, fun hh => absurd hh (by show bi.g ≠ g + 1; omega), fun hh => by rw [b3] at hh; cases hh⟩
              · exact ⟨ci, by rw [Cx.withM_other _ _ hcb]; exact e, Nat.le_refl _, fun _ => rfl, fun _ => rfl⟩, fun _ _ e => e⟩
            have hlt : (X.withM b bk).lt h.length := fun c ci e => by
              by_cases hcb : c = b
              · subst hcb; exact hget_lt hb
              · rw [Cx.withM_other _ _ hcb] at e; exact hr.lt c ci e
            have hput := hr.put (hget_lt hb) hXY rfl (fun c hc => Cx.withM_other _ _ hc) hlt ⟨0, 0, none⟩ rfl [] 0 (fun j hj => by simp at hj) (fun j hj => by simp at hj) (.arr (g + 1) te.size ro (l.take len ++ new)) ⟨bk, Cx.withM_same _ _ _, rfl, rfl, ⟨by rw [hlen2]; exact hfit, by rw [hlen2]; omega⟩, by simp only [LMX]; show cap ≤ _; omega, .inl hcz⟩
            refine ⟨_, w, _, O, hrun, hput, ⟨hXY, .refl _ _, fun a v e hn => (by simp only [Cx.withM] at e; rw [hn] at e; cases e), fun _ _ e _ => e⟩, ?_, by rw [hput_len, if_pos (hget_lt hb)]; exact Nat.le_refl _, FR.put hr hb (fun c hc => Cx.withM_other _ _ hc) ⟨0, 0, none⟩ [] 0 (fun j hj => by simp at hj) _⟩
            simp only [VREL]
            rw [show len + new.length = 0 from by omega]
            exact ⟨_, rfl, ⟨a, cap, rfl, Nat.zero_le _, by decide, .inl hcz⟩, bk, Cx.withM_same _ _ _, Nat.le_refl _, fun _ => ⟨a, cap, rfl, Nat.zero_le _, by decide, by show 0 + cap ≤ cap; omega, (fun h => by cases h), .inl hcz⟩⟩
          · obtain ⟨a0, q1, q2, q3⟩ := w6.resolve_left hcz
            rw [Nat.zero_mul, Addr.add_zero] at q3
            obtain ⟨es, a1, wss0, k1, k2, k3, k4, k5, k6, k7⟩ := b6.resolve_left (by omega)
            rw [q1] at k1; cases k1
            subst q3
            have hnl : wss.flatten.length = new.length * te.size := by rw [hev.len, (RELs_iff.1 hrel).len]
            have hm1 : ro * te.size ≤ len * te.size := Nat.mul_le_mul_right _ hro
            have hm2 : (len + new.length) * te.size ≤ bi.cap * te.size := Nat.mul_le_mul_right _ (by omega)
            rw [Nat.add_mul] at hm2
            have hsub : Owns w (O b) (a0.add (len * te.size)) 0 wss.flatten.length := k7.sub k2 hm1 (by omega)
            have hsp := Addr.add_spot a0 (len * te.size) k2
            have hrun := run_append_room_put (w := w) (ty := ty) hk i1 hs (base := some a0) (sLen := len) (sCap := cap) hfit (a := a0) (fun _ => rfl) k2 (fun j hj => by rw [i2]; exact (hsub j (Nat.zero_le _) hj).2)
            rw [i2] at hrun
            have hXY : X.le h.length (X.withM b bk) := ⟨.refl _, fun c ci hc e => by
              by_cases hcb : c = b
              · subst hcb; rw [hMb] at e; cases e
                exact ⟨bk, Cx.withM_same _ _ _, by show bi.g ≤ g + 1; omega, fun hh => absurd hh (by show bi.g ≠ g + 1; omega), fun hh => by rw [b3] at hh; cases hh⟩
              · exact ⟨ci, by rw [Cx.withM_other _ _ hcb]; exact e, Nat.le_refl _, fun _ => rfl, fun _ => rfl⟩, fun _ _ e => e⟩
            have hlt : (X.withM b bk).lt h.length := fun c ci e => by
              by_cases hcb : c = b
              · subst hcb; exact hget_lt hb
              · rw [Cx.withM_other _ _ hcb] at e; exact hr.lt c ci e
            have hO2 : ∀ j, j < wss.flatten.length → O b ((a0.add (len * te.size)).add (0 + j)) := fun j hj => by rw [Nat.zero_add]; exact (hsub j (Nat.zero_le _) hj).1
            have hex : ∀ j, j < wss.flatten.length → ∃ u, w.cell? ((a0.add (len * te.size)).add (0 + j)) = some u := fun j hj => by rw [Nat.zero_add]; exact (hsub j (Nat.zero_le _) hj).2.1
            have hfl0 : wss0.flatten.length = l.length * te.size := by rw [Even.len k4, (RELs_iff.1 k3).len]
            have hm3 : len * te.size ≤ l.length * te.size := Nat.mul_le_mul_right _ hlen
            have hcells : cellsAt (putCells w (a0.add (len * te.size)) wss.flatten 0).cell? a0 ((wss0.take len) ++ wss).flatten := fun j v e => by
              rw [List.flatten_append, Even.flatten_take k4] at e
              have htl : (wss0.flatten.take (len * te.size)).length = len * te.size := by rw [List.length_take, hfl0]; omega
              by_cases hj : j < len * te.size
              · rw [List.getElem?_append_left (by rw [htl]; exact hj)] at e
                rw [putCells_other _ wss.flatten w 0 _ (fun m hm he => by rw [Nat.zero_add, Addr.add_add a0 _ _ k2] at he; have := Addr.add_inj k2 he; omega)]
                exact (k5.take _) j v e
              · rw [List.getElem?_append_right (by rw [htl]; omega), htl] at e
                have := putCells_at (a0.add (len * te.size)) hsp wss.flatten w 0 hex (j - len * te.size) v e
                rw [Nat.zero_add, Addr.add_add a0 _ _ k2, show len * te.size + (j - len * te.size) = j from by omega] at this
                exact this
            have hput := hr.put (hget_lt hb) hXY rfl (fun c hc => Cx.withM_other _ _ hc) hlt (a0.add (len * te.size)) hsp wss.flatten 0 hO2 hex (.arr (g + 1) te.size ro (l.take len ++ new)) ⟨bk, Cx.withM_same _ _ _, rfl, rfl, ⟨by rw [hlen2]; exact hfit, by rw [hlen2]; omega⟩, by show cap ≤ LMX; omega, .inr ⟨rfl, a0, wss0.take len ++ wss, q1, k2,
              RELs_iff.2 (((RELs_iff.1 k3).take len).app (RELs_iff.1 hrel)), (Even.take k4 len).app hev, hcells, ?_, ?_⟩⟩
            · refine ⟨_, _, _, O, hrun, hput, ⟨hXY, below_block (fun hne => own_block hr hsub (Nat.le_refl _) (by cases hq : wss.flatten with | nil => exact absurd hq hne | cons _ _ => simp)), fun a v e hn => (by simp only [Cx.withM] at e; rw [hn] at e; cases e), fun _ _ e l => putCells_obj _ (lp_not_cells l) _ w 0 e⟩, ?_, by rw [hput_len, if_pos (hget_lt hb)]; exact Nat.le_refl _, FR.put hr hb (fun c hc => Cx.withM_other _ _ hc) _ wss.flatten 0 hO2 _⟩
              simp only [VREL]
              exact ⟨_, rfl, ⟨some a0, cap, rfl, hfit, by omega, .inr ⟨a0, rfl⟩⟩, bk, Cx.withM_same _ _ _, Nat.le_refl _, fun _ => ⟨some a0, cap, rfl, hfit, by omega, by show 0 + cap ≤ cap; omega, (fun h => by cases h), .inr ⟨a0, q1, k2, by simp⟩⟩⟩
            · rw [List.flatten_append, Even.flatten_take k4, List.take_append_of_le_length (by rw [List.length_take, hfl0]; omega), List.take_take, Nat.min_eq_left hm1]
              exact k6
            · exact fun j h1 h2 => k7.put _ hsp wss.flatten 0 hex j h1 (Nat.lt_of_lt_of_le h2 (Nat.mul_le_mul_right _ w4))
        · -- in new memory
          obtain ⟨cap2, rest, w', g1, g2, g3, g4, g5, g6⟩ := run_append_grow_ok (w := w) (ty := ty) hok hz hk (base := a) (sLen := len) (sCap := cap) (olds := wo.flatten) o3 hs (by omega) hroom
          have hfl : wo.flatten ++ wss.flatten = (wo ++ wss).flatten := by simp
          rw [hfl] at g2 g4
          obtain ⟨X', O', q1, q2, q3, q4, q5⟩ := HR.regrow hr hb hMb b2 b3 (g3.mono hr.wb) g2 (s := te.size) (cap := cap2) (ro := ro) (l := l.take len ++ new) (wss := wo ++ wss) (rest := rest) g4 g6 (by rw [hlen2]; exact g5) (by rw [hlen2]; omega) (RELs_iff.2 ((RELs_iff.1 o1).app (RELs_iff.1 hrel))) (o2.app hev) rfl
          rw [hlen2] at q3
          exact ⟨_, _, X', O', g1, q1, q2, q3, q4, q5⟩
    · cases e
  · rename_i l
    obtain ⟨hc, e⟩ := bif_some e
    rw [Bool.and_eq_true] at hc
    obtain ⟨hf, hroom⟩ := hc
    cases e
    rw [llen_eq, llen_eq] at hroom ⊢
    simp only [VREL] at rs
    obtain ⟨y, ey, a, n, e1, e2, e3, e4⟩ := rs
    cases ey; subst e1
    obtain ⟨wo, o1, o2, o3⟩ : ∃ wo, RELs X.C l false wo ∧ Even te.size wo ∧ (n = 0 ∧ wo.flatten = [] ∨ ∃ a0, a = some a0 ∧ a0.spot = none ∧ wo.flatten.length = n * te.size ∧ cellsAt X.C a0 wo.flatten) := by
      by_cases hz0 : n = 0
      · have : l = [] := List.eq_nil_of_length_eq_zero (by omega)
        subst this
        exact ⟨[], by simp [RELs], (fun _ h => by cases h), .inl ⟨hz0, rfl⟩⟩
      · obtain ⟨a0, wss0, s0, q1, q2, q3, q4, q5⟩ := e4.resolve_left hz0
        have hs0 := firstWd_of hf q3 q4 (fun h => by subst h; simp at e2; exact hz0 e2)
        subst hs0
        exact ⟨wss0, q3, q4, .inr ⟨a0, q1, q2, by rw [Even.len q4, (RELs_iff.1 q3).len, e2], q5⟩⟩
    cases hni : isNone new with
    | true =>
      have := isNone_iff.1 hni; subst this
      simp only [cond_true, List.append_nil, List.length_nil, Nat.add_zero]
      have hnn : wss.flatten = [] := no_news hs rfl
      rw [hnn, ← i2] at hs
      have hrun := run_append_room_put (w := w) (ty := ty) hk i1 hs (base := a) (sLen := n) (sCap := n) (by simp) (a := ⟨0, 0, none⟩) (fun h => absurd rfl h) rfl (fun j hj => by simp at hj)
      simp only [putCells, Nat.add_zero, List.length_nil] at hrun
      have hcast : ∀ b : Addr, a = some b → True := fun _ _ => trivial
      let bi : BI := ⟨0, a, te.size, n, false⟩
      have hbr : BR (X.withM nid bi) w (fun _ => False) nid (.arr 0 te.size l.length l) := by
        refine ⟨bi, Cx.withM_same _ _ _, rfl, rfl, ⟨by show l.length ≤ n; omega, Nat.le_refl _⟩, e3, ?_⟩
        rcases o3 with ⟨h0, _⟩ | ⟨a0, p1, p2, p3, p4⟩
        · exact .inl h0
        · refine .inr ⟨rfl, a0, wo, p1, p2, o1, o2, fun j v e => hr.ci _ _ (p4 j v e), fun j v e => p4 j v (by rw [List.getElem?_take] at e; split at e; exact e; cases e), fun j h1 h2 => ?_⟩
          exfalso
          have : n = l.length := e2
          show False
          rw [← this] at h1
          exact absurd h2 (by show ¬ j < n * te.size; omega)
      refine ⟨_, w, X.withM nid bi, _, hrun, hr.add hn hM hle (.refl w) (Nat.le_refl _) bi (fun _ => False) _ (fun _ h => h.elim) hbr, Up.add hM (.refl _ _) (.refl w) _ bi, ?_, ?_, .add hM hle (.refl w) bi _ _⟩
      · simp only [VREL]
        have hnl : n = l.length := e2
        refine ⟨_, rfl, ⟨a, n, by rw [hnl], by omega, by rw [← hnl]; exact e3, ?_⟩, bi, Cx.withM_same _ _ _, Nat.le_refl _, fun _ => ⟨a, n, by rw [hnl], by omega, by rw [← hnl]; exact e3, by show 0 + n ≤ n; omega, (fun h => by cases h), ?_⟩⟩
        · rcases o3 with ⟨h0, _⟩ | ⟨a0, p1, _⟩
          · exact .inl h0
          · exact .inr ⟨a0, p1⟩
        · rcases o3 with ⟨h0, _⟩ | ⟨a0, p1, p2, _⟩
          · exact .inl h0
          · exact .inr ⟨a0, p1, p2, by rw [Nat.zero_mul, Addr.add_zero]; exact p1⟩
      · rw [hput_len]; split <;> omega
    | false =>
      simp only [cond_false]
      have hpos : 0 < new.length := by
        rcases Nat.eq_zero_or_pos new.length with h | h
        · have := List.eq_nil_of_length_eq_zero h; subst this; cases hni
        · exact h
      obtain ⟨cap2, rest, w', g1, g2, g3, g4, g5, g6⟩ := run_append_grow_ok (w := w) (ty := ty) hok hz hk (base := a) (sLen := n) (sCap := n) (olds := wo.flatten) (o3.imp id (fun ⟨a0, p1, _, p3, p4⟩ => ⟨a0, p1, p3, fun j v e => hr.ci _ _ (p4 j v e)⟩)) hs (by omega) (by rw [e2]; exact hroom)
      have hfl : wo.flatten ++ wss.flatten = (wo ++ wss).flatten := by simp
      rw [hfl] at g2 g4
      have hlen2 : (l ++ new).length = n + new.length := by rw [List.length_append, e2]
      obtain ⟨X', O', q1, q2, q3, q4, q5⟩ := newData_sound hr hn hM hle (g3.mono hr.wb) g2 (s := te.size) (cap := cap2) (l := l ++ new) (wss := wo ++ wss) (rest := rest) g4 g6 (by rw [hlen2]; exact g5) (RELs_iff.2 ((RELs_iff.1 o1).app (RELs_iff.1 hrel))) (o2.app hev) rfl
      rw [hlen2] at q3
      rw [← e2]
      exact ⟨_, _, X', O', g1, q1, q2, q3, q4, q5⟩
  · cases e

end
end Go.As
