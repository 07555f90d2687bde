/-
  AS: slice expressions.
-/
import Derived.Test.YtphcebdhnpbjlaaGreatDoorAsOp3
set_option linter.unusedSectionVars false
set_option linter.unusedSimpArgs false
set_option linter.unusedVariables false
namespace Go.As
open Go.RowKit (Below)
variable [Gh]
section
variable {P : Program} {B : Nat} {X : Cx} {O : Nat → Addr → Prop} {w : World} {h : Heap} {E : Env}

def OptR (X : Cx) : Option V → Option Value → Prop
  | none, none => True
  | some a, some b => VREL X a true [b]
  | _, _ => False

theorem bound_some {X : Cx} {y : Nat} {x : V} {d k : Nat} (e : bound y (some x) d = some k) {v : Value} (r : VREL X x true [v]) (c : BoundsCode) : k ≤ y ∧ (Instr.sliceBound v y c).run P w = .ok k w := by
  unfold bound at e
  split at e
  · rename_i hh; cases hh
  · rename_i hh; cases hh
    obtain ⟨hc, e⟩ := bif_some e
    rw [Bool.and_eq_true, ile_eq, ile_eq, decide_eq_true_iff, decide_eq_true_iff] at hc
    cases e
    simp only [VREL, REL] at r
    obtain ⟨ev, _⟩ := r; cases ev
    obtain ⟨h0, h1⟩ := hc
    have h1' : _ ≤ (y : Int) := h1
    refine ⟨by omega, ?_⟩
    simp [Instr.sliceBound, asIntOf, h0, h1']
  · cases e

theorem bound_le {y y' d d' k : Nat} {x : V} (e : bound y (some x) d = some k) (hy : y ≤ y') : bound y' (some x) d' = some k := by
  unfold bound at e ⊢
  split at e
  · rename_i hh; cases hh
  · rename_i k0 n0 hh; cases hh
    obtain ⟨hc, e⟩ := bif_some e
    rw [Bool.and_eq_true, ile_eq, ile_eq, decide_eq_true_iff, decide_eq_true_iff] at hc
    have h1' : n0 ≤ (y : Int) := hc.2
    have : (ile 0 n0 && ile n0 (Int.ofNat y')) = true := by
      rw [Bool.and_eq_true, ile_eq, ile_eq, decide_eq_true_iff, decide_eq_true_iff]
      exact ⟨hc.1, by show n0 ≤ (y' : Int); omega⟩
    simp only [this, cond_true]; exact e
  · cases e
theorem bound_none (y d : Nat) : bound y none d = some d := rfl

theorem bounds_sound {X : Cx} {isS : Bool} {len cap : Nat} (hlc : len ≤ cap) {lo hi mx : Option V} {i j m : Nat} (e : bounds len lo hi mx = some (i, j, m)) {vl vh vm : Option Value}
    (rl : OptR X lo vl) (rh : OptR X hi vh) (rm : OptR X mx vm) :
    i ≤ j ∧ j ≤ m ∧ m ≤ len ∧ (mx = none → m = len) ∧ vm.isSome = mx.isSome ∧ (Instr.sliceBounds isS len cap vl vh vm).run P w = .ok (i, j, if mx.isSome then m else cap) w := by
  unfold bounds at e
  obtain ⟨m', hm, e⟩ := Option.bind_eq_some_iff.1 e
  obtain ⟨j', hj, e⟩ := Option.bind_eq_some_iff.1 e
  cases hl : bound j' lo 0 with
  | none => rw [hl] at e; cases e
  | some i' =>
  rw [hl] at e
  simp only [Option.map_some, Option.some.injEq, Prod.mk.injEq] at e
  obtain ⟨rfl, rfl, rfl⟩ := e
  have hlo : ∀ c, i' ≤ j' ∧ (vl = none ∧ i' = 0 ∨ ∃ v, vl = some v ∧ (Instr.sliceBound v j' c).run P w = .ok i' w) := by
    intro c
    cases lo with
    | none =>
      cases vl with
      | some _ => exact rl.elim
      | none => rw [bound_none] at hl; cases hl; exact ⟨Nat.zero_le _, .inl ⟨rfl, rfl⟩⟩
    | some x =>
      cases vl with
      | none => exact rl.elim
      | some v =>
        obtain ⟨h1, h2⟩ := bound_some (P := P) (w := w) hl rl c
        exact ⟨h1, .inr ⟨v, rfl, h2⟩⟩
  cases mx with
  | none =>
    cases vm with
    | some _ => exact rm.elim
    | none =>
    rw [bound_none] at hm; cases hm
    cases hi with
    | none =>
      cases vh with
      | some _ => exact rh.elim
      | none =>
      have hj : some len = some j' := hj
      cases hj
      refine ⟨(hlo .sliceB).1, Nat.le_refl _, Nat.le_refl _, fun _ => rfl, rfl, ?_⟩
      rcases (hlo .sliceB).2 with ⟨rfl, rfl⟩ | ⟨v, rfl, hv⟩
      · simp [Instr.sliceBounds]
      · simp [Instr.sliceBounds, hv]
    | some x =>
      cases vh with
      | none => exact rh.elim
      | some v =>
      have hj : bound len (some x) len = some j' := hj
      refine ⟨(hlo .sliceB).1, (bound_some (P := P) (w := w) hj rh .sliceB).1, Nat.le_refl _, fun _ => rfl, rfl, ?_⟩
      have h2 := (bound_some (P := P) (w := w) (bound_le (d' := 0) hj hlc) rh (if isS then .sliceAcap else .sliceAlen)).2
      rcases (hlo .sliceB).2 with ⟨rfl, rfl⟩ | ⟨v, rfl, hv⟩
      · simp [Instr.sliceBounds, h2]
      · simp [Instr.sliceBounds, h2, hv]
  | some z =>
    cases vm with
    | none => exact rm.elim
    | some vz =>
    have h3 := (bound_some (P := P) (w := w) (bound_le (d' := 0) hm hlc) rm (if isS then .slice3Acap else .slice3Alen)).2
    have h4 := (bound_some (P := P) (w := w) hm rm .slice3B).1
    cases hi with
    | none => cases hj
    | some x =>
      cases vh with
      | none => exact rh.elim
      | some v =>
      have hj : bound m' (some x) len = some j' := hj
      obtain ⟨h5, h2⟩ := bound_some (P := P) (w := w) hj rh .slice3B
      refine ⟨(hlo .slice3C).1, h5, h4, (fun h => by cases h), rfl, ?_⟩
      rcases (hlo .slice3C).2 with ⟨rfl, rfl⟩ | ⟨v, rfl, hv⟩
      · simp [Instr.sliceBounds, h2, h3]
      · simp [Instr.sliceBounds, h2, h3, hv]

theorem cut_eq {α : Type} (l : List α) (i j : Nat) : cut l i j = (l.drop i).take (j - i) := rfl
theorem cut_len {α : Type} {l : List α} {i j : Nat} (hij : i ≤ j) (hj : j ≤ l.length) : (cut l i j).length = j - i := by
  rw [cut_eq, List.length_take, List.length_drop]; omega
theorem firstWd_of {C : IV} {sz s : Nat} {l : List D} {wss : List (List Value)} (h : firstWd sz l = true) (hr : RELs C l false wss) (hs : ∀ ws ∈ wss, ws.length = s) (hl : l ≠ []) : s = sz := by
  cases l with
  | nil => exact absurd rfl hl
  | cons d l =>
    simp only [RELs] at hr
    obtain ⟨ws, r, e, h1, _⟩ := hr
    subst e
    have := beq_of h
    rw [← this, ← h1.wd, hs ws (by simp)]
/-- A slice of data that is cut anew. -/
theorem cut_row {C : IV} {a : Option Addr} {n sz i j m' : Nat} {l : List D} (hn : n = l.length) (hf : firstWd sz l = true) (hij : i ≤ j) (hj : j ≤ n) (hc : j ≤ m')
    (h : n = 0 ∨ ∃ a0 wss s, a = some a0 ∧ a0.spot = none ∧ RELs C l false wss ∧ (∀ ws ∈ wss, ws.length = s) ∧ cellsAt C a0 wss.flatten) :
    j - i = 0 ∨ ∃ a0 wss s, (if m' = i then a else a.map (·.add (i * sz))) = some a0 ∧ a0.spot = none ∧ RELs C (cut l i j) false wss ∧ (∀ ws ∈ wss, ws.length = s) ∧ cellsAt C a0 wss.flatten := by
  by_cases hz : j - i = 0
  · exact .inl hz
  · rcases h with h | ⟨a0, wss, s, e, hs, hr, he, hcs⟩
    · omega
    · have hs' : s = sz := firstWd_of hf hr he (by intro hh; subst hh; simp at hn; omega)
      subst hs'
      refine .inr ⟨a0.add (i * s), (wss.drop i).take (j - i), s, ?_, Addr.add_spot _ _ hs, ?_, fun ws hw => he ws (List.mem_of_mem_drop (List.mem_of_mem_take hw)), ?_⟩
      · rw [if_neg (by omega), e]; rfl
      · exact RELs_iff.2 (((RELs_iff.1 hr).drop i).take (j - i))
      · rw [Even.flatten_take (Even.drop he i), Even.flatten_drop he]
        exact (cellsAt.drop hs hcs _).take _

theorem run_sliceAt_slc {t el : Nat} (hu : P.underlying t = some (.slice el)) {te : TI} (he : TyOk P el te) {a : Option Addr} {len cap l hh m : Nat} {vl vh vm : Option Value}
    (hb : (Instr.sliceBounds true len cap vl vh vm).run P w = .ok (l, hh, m) w) :
    (Instr.sliceAt t (.slice a len cap) vl vh vm).run P w = .ok (.slice (if m = l then a else a.map (·.add (l * te.size))) (hh - l) (m - l)) w := by
  simp [Instr.sliceAt, run_underlying hu, Instr.slice, hb, run_sizeOf he]
theorem run_sliceAt_str {t : Nat} (hu : P.underlying t = some .string) {s : ByteArray} {l hh m : Nat} {vl vh : Option Value}
    (hb : (Instr.sliceBounds false s.size s.size vl vh none).run P w = .ok (l, hh, m) w) :
    (Instr.sliceAt t (.string s) vl vh none).run P w = .ok (.string (s.extract l hh)) w := by
  simp [Instr.sliceAt, run_underlying hu, Instr.slice, hb]

theorem blk_size (hr : HR B X O w h) {b g s : Nat} {n : Nat} (hb : (∃ ro l, hget h b = some (.arr g s ro l) ∧ n = l.length) ∨ ∃ l, hget h b = some (.arv g s l) ∧ n = l.length) :
    ∃ bi, X.M b = some bi ∧ bi.g = g ∧ (bi.cap = 0 ∨ bi.s = s) ∧ n ≤ bi.cap := by
  rcases hb with ⟨ro, l, hb, rfl⟩ | ⟨l, hb, rfl⟩
  · obtain ⟨bi, h1, h2, h3, h4, h5, h6⟩ := hr.blk b _ hb
    exact ⟨bi, h1, h2, h6.imp id (fun h => h.1), h4.1⟩
  · obtain ⟨bi, h1, h2, h3, h4, h5, h6⟩ := hr.blk b _ hb
    exact ⟨bi, h1, h2, h6.imp id (fun h => h.1), h4⟩

theorem sliceOwn_sound (hr : HR B X O w h) {t el : Nat} (hu : P.underlying t = some (.slice el)) {te : TI} (hte : TyOk P el te) {b g off len : Nat} {lim : Bool} {v : V} {lo hi mx : Option V} {vx : Value} {vl vh vm : Option Value}
    (r : OwnR X b g off len lim vx) (rl : OptR X lo vl) (rh : OptR X hi vh) (rm : OptR X mx vm) {bi : BI} (hM : X.M b = some bi) (hg : g = bi.g) (hs : bi.cap = 0 ∨ bi.s = te.size ∨ len = 0)
    (e : sliceOwn b g off len lim lo hi mx = some v) : OpS P B X O w h (Instr.sliceAt t vx vl vh vm) v h := by
  obtain ⟨⟨a, cap, ea, hle, hmx, hsm⟩, bj, hMj, hgj, hx⟩ := r
  rw [hM] at hMj; cases hMj
  subst ea
  obtain ⟨a', cap', e1, e2, e3, e4, e5, e6⟩ := hx hg
  cases e1
  unfold sliceOwn at e
  obtain ⟨⟨i, j, m⟩, hb, e⟩ := Option.bind_eq_some_iff.1 e
  obtain ⟨q1, q2, q3, q4, q5, q6⟩ := bounds_sound (P := P) (w := w) (isS := true) hle hb rl rh rm
  have hrun := run_sliceAt_slc (a := a) hu hte q6
  have key : ∀ (m' : Nat) (lm : Bool), j ≤ m' → m' ≤ cap → (lm = true → m' = j) →
      VREL X (.own b g (off + i) (j - i) lm) true [.slice (if m' = i then a else a.map (·.add (i * te.size))) (j - i) (m' - i)] := by
    intro m' lm h1 h2 h3
    simp only [VREL]
    have hbase : m' - i = 0 ∨ ∃ a0, bi.base = some a0 ∧ a0.spot = none ∧ (if m' = i then a else a.map (·.add (i * te.size))) = some (a0.add ((off + i) * bi.s)) := by
      by_cases hz : m' - i = 0
      · exact .inl hz
      · rcases e6 with e6 | ⟨a0, k1, k2, k3⟩
        · omega
        · refine .inr ⟨a0, k1, k2, ?_⟩
          rw [if_neg (by omega), k3]
          simp only [Option.map_some]
          rw [Addr.add_add _ _ _ k2]
          congr 2
          have : i * te.size = i * bi.s := by
            rcases hs with hs | hs | hs
            · omega
            · rw [hs]
            · have : i = 0 := by omega
              subst this; simp
          rw [this, Nat.add_mul]
    refine ⟨_, rfl, ⟨_, _, rfl, by omega, by omega, hbase.imp id (fun ⟨a0, _, _, k⟩ => ⟨_, k⟩)⟩, bi, hM, hgj, fun _ => ⟨_, _, rfl, by omega, by omega, by omega, fun hl => by rw [h3 hl], hbase⟩⟩
  cases mx with
  | none =>
    simp only at e
    cases e
    refine .same hr hrun (key cap _ (by omega) (Nat.le_refl _) ?_)
    intro hl
    rw [Bool.and_eq_true] at hl
    rw [e5 hl.1, beq_of hl.2]
  | some z =>
    simp only at e
    obtain ⟨hj, e⟩ := bif_some e
    cases e
    have hj := beq_of hj
    refine .same hr hrun (key m _ (by omega) (by omega) (fun _ => hj.symm))

theorem bytesL_extract (s : ByteArray) {i j : Nat} : bytesL (s.extract i j) = cut (bytesL s) i j := by
  unfold bytesL cut
  rw [ByteArray.data_extract, Array.toList_extract, List.map_take, List.map_drop]

theorem slice_sound (hE : EnvTy P E) (hr : HR B X O w h) {t : Nat} {x v : V} {lo hi mx : Option V} (e : sliceV E t h x lo hi mx = some v) {vx : Value} {vl vh vm : Option Value}
    (r : VREL X x true [vx]) (rl : OptR X lo vl) (rh : OptR X hi vh) (rm : OptR X mx vm) : OpS P B X O w h (Instr.sliceAt t vx vl vh vm) v h := by
  unfold sliceV at e
  cases ht : E.ty t with
  | none => rw [ht] at e; cases e
  | some ti =>
  rw [ht] at e
  have hk := (hE.ty t ti ht).kind
  simp only [Option.bind_some] at e
  split at e
  · rename_i hti
    rw [hti] at hk; simp only [KindOk] at hk
    unfold sliceS at e
    split at e
    · rename_i s
      simp only [VREL, REL] at r
      obtain ⟨bs, eb, hb, hsz⟩ := r
      cases eb; subst hb
      cases mx with
      | some z => cases e
      | none =>
        cases vm with
        | some _ => exact rm.elim
        | none =>
        simp only at e
        cases hbd : bounds (llen (bytesL bs)) lo hi none with
        | none => rw [hbd] at e; cases e
        | some b =>
          obtain ⟨i, j, m⟩ := b
          rw [hbd] at e
          cases e
          rw [llen_eq, bytesL_len] at hbd
          obtain ⟨q1, q2, q3, q4, q5, q6⟩ := bounds_sound (P := P) (w := w) (isS := false) (Nat.le_refl _) hbd rl rh rm
          refine .same hr (run_sliceAt_str hk q6) ?_
          simp only [VREL, REL]
          refine ⟨_, rfl, bytesL_extract _, ?_⟩
          rw [ByteArray.size_extract]; omega
    · cases e
  · rename_i el hti
    rw [hti] at hk; simp only [KindOk] at hk
    cases hte : E.ty el with
    | none => rw [hte] at e; cases e
    | some te =>
    rw [hte] at e
    simp only [Option.bind_some] at e
    have hok := hE.ty _ _ hte
    unfold sliceT at e
    split at e
    · rename_i l
      obtain ⟨hf, e⟩ := bif_some e
      obtain ⟨⟨i, j, m⟩, hb, e⟩ := Option.bind_eq_some_iff.1 e
      simp only [VREL, REL] at r
      obtain ⟨a, n, cap, ea, hn, hle, hmx, hc⟩ := r
      cases ea
      rw [llen_eq, ← hn] at hb
      obtain ⟨q1, q2, q3, q4, q5, q6⟩ := bounds_sound (P := P) (w := w) (isS := true) hle hb rl rh rm
      have hrun := run_sliceAt_slc (a := a) hk hok q6
      cases mx with
      | none =>
        simp only at e
        cases e
        refine .same hr hrun ?_
        simp only [VREL, REL]
        refine ⟨_, _, _, rfl, (cut_len q1 (by omega)).symm, ?_, by omega, cut_row hn hf q1 (by omega) (by simp; omega) hc⟩
        simp; omega
      | some z =>
        simp only at e
        obtain ⟨hj, e⟩ := bif_some e
        cases e
        have hj := beq_of hj
        refine .same hr hrun ?_
        simp only [VREL]
        refine ⟨_, rfl, _, j - i, ?_, (cut_len q1 (by omega)).symm, by omega, cut_row (m' := m) hn hf q1 (by omega) (by omega) hc⟩
        simp [hj]
    · rename_i l
      obtain ⟨hf, e⟩ := bif_some e
      cases hb : bounds (llen l) lo hi mx with
      | none => rw [hb] at e; cases e
      | some b =>
      obtain ⟨i, j, m⟩ := b
      rw [hb] at e
      simp only [Option.map_some, Option.some.injEq] at e
      simp only [VREL] at r
      obtain ⟨y, ey, a, n, ea, hn, hmx, hc⟩ := r
      cases ey; subst ea
      rw [llen_eq, ← hn] at hb
      obtain ⟨q1, q2, q3, q4, q5, q6⟩ := bounds_sound (P := P) (w := w) (isS := true) (Nat.le_refl _) hb rl rh rm
      have hrun := run_sliceAt_slc (a := a) hk hok q6
      have hm : (if mx.isSome then m else n) = m := by
        cases mx with
        | none => simp [q4 rfl]
        | some z => simp
      rw [hm] at hrun
      refine .same hr hrun ?_
      cases hjm : Nat.beq j m with
      | true =>
        rw [hjm] at e
        simp only [cond_true] at e
        subst e
        have := beq_of hjm
        subst this
        simp only [VREL]
        exact ⟨_, rfl, _, j - i, rfl, (cut_len q1 (by omega)).symm, by omega, cut_row (m' := j) hn hf q1 (by omega) (by omega) hc⟩
      | false =>
        rw [hjm] at e
        simp only [cond_false] at e
        subst e
        simp only [VREL, REL]
        exact ⟨_, _, _, rfl, (cut_len q1 (by omega)).symm, by omega, by omega, cut_row hn hf q1 (by omega) (by omega) hc⟩
    · rename_i b g off len lim
      simp only [VREL] at r
      obtain ⟨y, ey, r⟩ := r
      cases ey
      split at e
      · rename_i g' s ro l hb
        obtain ⟨hc, e⟩ := bif_some e
        rw [Bool.and_eq_true] at hc
        obtain ⟨k1, k2⟩ := cutOk_iff hc.1
        obtain ⟨bi, p1, p2, p3, p4⟩ := blk_size hr (.inl ⟨ro, l, hb, rfl⟩)
        refine sliceOwn_sound hr hk hok r rl rh rm p1 (by omega) ?_ e
        rcases p3 with p3 | p3
        · exact .inl p3
        · rcases Bool.or_eq_true_iff.1 hc.2 with h1 | h1
          · exact .inr (.inl (by rw [p3, beq_of h1]))
          · cases l with
            | nil => exact .inr (.inr (by simp at k2; omega))
            | cons => cases h1
      · rename_i g' s l hb
        obtain ⟨hc, e⟩ := bif_some e
        rw [Bool.and_eq_true] at hc
        obtain ⟨k1, k2⟩ := cutOk_iff hc.1
        obtain ⟨bi, p1, p2, p3, p4⟩ := blk_size hr (.inr ⟨l, hb, rfl⟩)
        refine sliceOwn_sound hr hk hok r rl rh rm p1 (by omega) ?_ e
        rcases p3 with p3 | p3
        · exact .inl p3
        · rcases Bool.or_eq_true_iff.1 hc.2 with h1 | h1
          · exact .inr (.inl (by rw [p3, beq_of h1]))
          · cases l with
            | nil => exact .inr (.inr (by simp at k2; omega))
            | cons => cases h1
      · cases e
    · cases e
  · cases e
end
end Go.As
