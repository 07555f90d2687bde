/-
  AS: appends to arrays of values.
-/
import Derived.Test.YtphcebdhnpbjlaaGreatDoorAsApp
set_option linter.unusedSectionVars false
set_option linter.unusedSimpArgs false
set_option linter.unusedVariables false
namespace Go.As
open Go.RowKit (Below)
variable [Gh]
section
variable {P : Program} {B : Nat} {X : Cx} {O : Nat → Addr → Prop} {w : World} {h : Heap} {E : Env}

theorem allOkV_mem {te : TI} : ∀ {l : List V}, allOkV te l = true → ∀ v ∈ l, okV te v = true
  | [], _, v, hv => by cases hv
  | u :: l, e, v, hv => by
    have e : (bif okV te u then allOkV te l else false) = true := e
    cases hu : okV te u with
    | false => rw [hu] at e; cases e
    | true =>
      rw [hu, cond_true] at e
      rcases List.mem_cons.1 hv with rfl | hv
      · exact hu
      · exact allOkV_mem e v hv
theorem vals_even {te : TI} {l : List V} (hl : allOkV te l = true) {wss : List (List Value)} (r : VRELs X l false wss) : Even te.size wss := by
  have h1 := allOkV_mem hl
  clear hl
  intro ws hw
  induction l generalizing wss with
  | nil => simp only [VRELs] at r; subst r; cases hw
  | cons v l ih =>
    simp only [VRELs] at r
    obtain ⟨ws', r', rfl, r1, r2⟩ := r
    rcases List.mem_cons.1 hw with rfl | hw
    · have := VREL.wd r1
      rw [this]; exact (okV_iff (h1 v (by simp))).1
    · exact ih r2 (fun u hu => h1 u (by simp [hu])) hw
theorem velems_sound (hr : HR B X O w h) {x : V} {new : List V} (e : x.velems h = some new) {vx : Value} (r : VREL X x true [vx]) :
    ∃ a n cap, vx = .slice a n cap ∧ n = new.length ∧ (n = 0 ∨ ∃ a0 wss, a = some a0 ∧ VRELs X new false wss ∧ cellsAt w.cell? a0 wss.flatten) := by
  have base : (x.delems h).map imap = some new → ∃ a n cap, vx = .slice a n cap ∧ n = new.length ∧ (n = 0 ∨ ∃ a0 wss, a = some a0 ∧ VRELs X new false wss ∧ cellsAt w.cell? a0 wss.flatten) := fun e => by
    obtain ⟨l, hl, e⟩ := Option.map_eq_some_iff.1 e
    subst e
    obtain ⟨a, n, cap, q1, q2, _, _, q5⟩ := delems_cells hr hl r
    refine ⟨a, n, cap, q1, by rw [imap_eq, List.length_map]; exact q2, q5.imp id ?_⟩
    rintro ⟨a0, wss, s, k1, _, k3, _, k5⟩
    exact ⟨a0, wss, k1, by rw [imap_eq]; exact VRELs_im.2 k3, k5⟩
  unfold V.velems at e
  split at e
  · rename_i b g off len lim
    split at e
    · rename_i g' sz l' hb
      obtain ⟨hc, e⟩ := bif_some e
      cases e
      obtain ⟨hg, hol⟩ := cutOk_iff hc
      rw [cutAll_eq l' off len hol]
      simp only [VREL] at r
      obtain ⟨y, ey, _, bi, hM, hgb, hown⟩ := r
      cases ey
      obtain ⟨bj, h1, h2, h3, h4, h5, h6⟩ := hr.blk b _ hb
      rw [hM] at h1; cases h1
      obtain ⟨a, cap, e1, e2, e3, e4, e5, e6⟩ := hown (by rw [h2]; exact hg)
      subst e1
      have hll : ((l'.drop off).take len).length = len := by rw [List.length_take, List.length_drop]; omega
      refine ⟨a, len, cap, rfl, hll.symm, ?_⟩
      by_cases hz : len = 0
      · exact .inl hz
      · right
        rcases e6 with e6 | ⟨a0, q1, q2, q3⟩
        · omega
        · rcases h6 with h6 | ⟨es, a1, wss, k1, k2, k3, k4, k5, k6⟩
          · omega
          · rw [q1] at k1; cases k1
            refine ⟨_, (wss.drop off).take len, q3, VRELs_iff.2 (((VRELs_iff.1 k3).drop off).take len), ?_⟩
            rw [Even.flatten_take (Even.drop k4 off), Even.flatten_drop k4, es]
            exact (k5.drop q2 (off * sz)).take _
    · exact base e
  · exact base e
theorem VRELs.ones2 {X : Cx} : ∀ {l : List V} {wss : List (List Value)}, VRELs X l false wss → ∀ v ∈ wss.flatten, v.oneCell' = true
  | [], wss, r, v, hv => by simp only [VRELs] at r; subst r; cases hv
  | u :: l, wss, r, v, hv => by
    simp only [VRELs] at r
    obtain ⟨ws, r', rfl, r1, r2⟩ := r
    rw [List.flatten_cons, List.mem_append] at hv
    rcases hv with hv | hv
    · exact VREL.ones r1 v hv
    · exact VRELs.ones2 r2 v hv
theorem newVals_src (hE : EnvTy P E) (hr : HR B X O w h) {te : TI} {tx : Nat} {x : V} {new : List V} (hk : ∃ k, E.kind tx = some (.slc k)) (e : x.velems h = some new) (hok : allOkV te new = true) {vx : Value} (r : VREL X x true [vx]) :
    ∃ wss, Src P te.size tx vx new.length wss.flatten w ∧ VRELs X new false wss ∧ Even te.size wss := by
  obtain ⟨k, hk⟩ := hk
  unfold Env.kind at hk
  cases ht : E.ty tx with
  | none => rw [ht] at hk; cases hk
  | some ti =>
  rw [ht] at hk
  have hkk := (hE.ty tx ti ht).kind
  simp only [Option.map_some] at hk
  rw [Option.some.inj hk] at hkk; simp only [KindOk] at hkk
  obtain ⟨a, n, cap, e1, e2, e5⟩ := velems_sound hr e r
  subst e1
  by_cases hz : n = 0
  · subst hz
    have hn : new = [] := List.eq_nil_of_length_eq_zero e2.symm
    subst hn
    refine ⟨[], ?_, by simp [VRELs], fun _ h => by cases h⟩
    cases a with
    | none => exact Src.ofNil w hkk cap
    | some a0 => exact Src.ofSlice w hkk a0 0 cap [] (by simp) (fun j u e => by simp at e) (fun _ h => by cases h)
  · obtain ⟨a0, wss, q1, q3, q5⟩ := e5.resolve_left hz
    subst q1
    have q4 := vals_even hok q3
    refine ⟨wss, ?_, q3, q4⟩
    rw [← e2]
    exact Src.ofSlice w hkk a0 n cap wss.flatten (by rw [q4.len, (VRELs_iff.1 q3).len, e2]) q5 (VRELs.ones2 q3)

/-- Block b's array of values has moved into new memory. -/
theorem HR.regrowV (hr : HR B X O w h) {w' : World} {b g s0 : Nat} {l0 : List V} {bi : BI} (hb : hget h b = some (.arv g s0 l0)) (hM : X.M b = some bi) (hg : bi.g = g) (hfx : bi.fix = false) (hB : Below B w w') {cs : List Value} (hw : NewRow w w' cs)
    {s cap : Nat} {l : List V} {wss : List (List Value)} {rest : List Value} (hcs : cs.length = cap * s) (hcap : cap ≤ LMX) (hlen : l.length ≤ cap) (hl : VRELs X l false wss) (hev : Even s wss) (hrest : cs = wss.flatten ++ rest) :
    ∃ X' O', HR B X' O' w' (hput h b (.arv (g + 1) s l)) ∧ Up B X w h.length X' w' ∧ VREL X' (.own b (g + 1) 0 l.length false) true [.slice (some ⟨w.heap.size, 0, none⟩) l.length cap] ∧ h.length ≤ (hput h b (.arv (g + 1) s l)).length ∧ FR X O w h X' O' w' (hput h b (.arv (g + 1) s l)) := by
  have hbl := hget_lt hb
  have hle := Nat.le_of_lt hbl
  let a0 : Addr := ⟨w.heap.size, 0, none⟩
  let bj : BI := ⟨g + 1, some a0, s, cap, false⟩
  let Q : Nat → Addr → Prop := fun c => if c = b then fun a => ∃ j, j < cap * s ∧ a = a0.add j else O c
  have hQb : ∀ a, (∃ j, j < cap * s ∧ a = a0.add j) → Q b a := fun a hh => by simp only [Q, if_pos]; exact hh
  have hQo : ∀ c a, c ≠ b → O c a → Q c a := fun c a hc hh => by simp only [Q, if_neg hc]; exact hh
  have hsz := hw.size
  have hC0 : ∀ a v, X.C a = some v → a.block < w.heap.size := fun a v e => World.block_lt_of_cell? w a (hr.ci a v e)
  have hnew : ∀ j, (a0.add j).block = w.heap.size := fun j => by rw [Addr.add_block]
  have hXY : X.le h.length (X.withM b bj) := ⟨.refl _, fun c ci hc e => by
    by_cases hcb : c = b
    · subst hcb; rw [hM] at e; cases e
      exact ⟨bj, Cx.withM_same _ _ _, by show bi.g ≤ g + 1; omega, fun hh => absurd hh (by show bi.g ≠ g + 1; omega), fun hh => by rw [hfx] at hh; cases hh⟩
    · exact ⟨ci, by rw [Cx.withM_other _ _ hcb]; exact e, Nat.le_refl _, fun _ => rfl, fun _ => rfl⟩, fun _ _ e => e⟩
  have hcell : cellsAt w'.cell? a0 cs := fun j v e => by rw [show a0.add j = ⟨w.heap.size, j, none⟩ from addr_new _ _]; exact hw.cell j v e
  refine ⟨X.withM b bj, Q, ⟨fun c k e => ?_, fun c a o => ?_, fun c d a o o' => ?_, fun c ci e => ?_, hr.ci.keep hw.keep, Nat.le_trans hr.wb (Nat.le_of_lt hsz)⟩, ⟨hXY, hB, fun a v e hn => (by simp only [Cx.withM] at e; rw [hn] at e; cases e), fun r o e _ => hw.keep.obj r o e⟩, ?_, ?_, ⟨fun c ci e hn => ?_, fun c ci e hn => ?_, fun c ci e hn a o => ?_, fun c ci e hn a o v ev => ⟨hw.keep.cell _ _ ev, hw.keep.frozen _ _ ev⟩, fun c ci e hn r o ob eo _ => hw.keep.obj _ _ eo, fun c ci e hn g' _ hg' => hw.keep.block g' hg', fun c e => ?_, fun c _ e hn => ?_⟩⟩
  · rw [hget_hput h b c _ hle] at e
    by_cases hcb : c = b
    · subst hcb
      simp only [if_true] at e; cases e
      refine ⟨bj, Cx.withM_same _ _ _, rfl, rfl, hlen, hcap, .inr ⟨rfl, a0, wss, rfl, rfl, hl.mono hXY _ _ _ (VRELs.low hr.lt _ _ _ hl), hev, ?_, ?_⟩⟩
      · exact fun j v e => hcell j v (by rw [hrest, List.getElem?_append_left (List.getElem?_eq_some_iff.1 e).1]; exact e)
      · intro j _ h2
        have hj2 : j < cs.length := by rw [hcs]; exact h2
        refine ⟨hQb _ ⟨j, h2, rfl⟩, ⟨cs[j], hcell j _ (by simp [hj2])⟩, ?_⟩
        rw [show a0.add j = ⟨w.heap.size, j, none⟩ from addr_new _ _]; exact hw.frozen j hj2
    · simp only [if_neg hcb] at e
      exact (hr.blk c k e).later hr.lt hXY (Cx.withM_other _ _ hcb) hw.keep (fun a o => hQo c a hcb o)
  · by_cases hcb : c = b
    · have o : (if c = b then fun a => ∃ j, j < cap * s ∧ a = a0.add j else O c) a := o
      rw [if_pos hcb] at o
      obtain ⟨j, h2, rfl⟩ := o
      refine ⟨by rw [hnew]; exact hr.wb, by rw [hnew]; exact hsz, ?_⟩
      show X.C _ = none
      cases hx : X.C (a0.add j) with
      | none => rfl
      | some v => have := hC0 _ v hx; rw [hnew] at this; omega
    · have o : (if c = b then fun a => ∃ j, j < cap * s ∧ a = a0.add j else O c) a := o
      rw [if_neg hcb] at o
      obtain ⟨q1, q2, q3⟩ := hr.own c a o
      exact ⟨q1, by omega, q3⟩
  · have o : (if c = b then fun a => ∃ j, j < cap * s ∧ a = a0.add j else O c) a := o
    have o' : (if d = b then fun a => ∃ j, j < cap * s ∧ a = a0.add j else O d) a := o'
    by_cases hcb : c = b <;> by_cases hdb : d = b
    · rw [hcb, hdb]
    · rw [if_pos hcb] at o; rw [if_neg hdb] at o'
      obtain ⟨j, _, rfl⟩ := o
      have := (hr.own d _ o').2.1; rw [hnew] at this; omega
    · rw [if_neg hcb] at o; rw [if_pos hdb] at o'
      obtain ⟨j, _, rfl⟩ := o'
      have := (hr.own c _ o).2.1; rw [hnew] at this; omega
    · rw [if_neg hcb] at o; rw [if_neg hdb] at o'
      exact hr.dis c d a o o'
  · rw [hput_len, if_pos hbl]
    by_cases hcb : c = b
    · rw [hcb]; exact hbl
    · rw [Cx.withM_other _ _ hcb] at e; exact hr.lt c ci e
  · simp only [VREL]
    refine ⟨_, rfl, ⟨_, _, rfl, hlen, by omega, .inr ⟨_, rfl⟩⟩, bj, Cx.withM_same _ _ _, Nat.le_refl _, fun _ => ⟨_, _, rfl, hlen, by omega, by show 0 + cap ≤ cap; omega, (fun h => by cases h), .inr ⟨a0, rfl, rfl, by simp [a0]⟩⟩⟩
  · rw [hput_len, if_pos hbl]; exact Nat.le_refl _
  · have hcb : c ≠ b := fun hh => by subst hh; rw [hb] at hn; cases hn
    rw [hget_hput h b c _ hle, if_neg hcb]; exact hn
  · have hcb : c ≠ b := fun hh => by subst hh; rw [hb] at hn; cases hn
    rw [Cx.withM_other _ _ hcb]; exact e
  · have hcb : c ≠ b := fun hh => by subst hh; rw [hb] at hn; cases hn
    exact hQo c a hcb o
  · rw [hget_hput h b c _ hle] at e
    split at e
    · cases e
    · exact e
  · rw [hget_hput h b c _ hle] at hn
    split at hn
    · cases hn
    · rename_i hcb; rw [Cx.withM_other _ _ hcb]; exact e

theorem appendV_sound (hr : HR B X O w h) {nid t tx ty el : Nat} {te : TI} (hok : TyOk P el te) (hz : okV te te.zero = true) (hk : P.underlying t = some (.slice el)) (hn : hget h nid = none) (hM : X.M nid = none) (hle : nid ≤ h.length) {s v : V} {new : List V} {h' : Heap}
    (e : appendV te nid s new h = some (v, h')) {vs vx : Value} (rs : VREL X s true [vs]) {wss : List (List Value)} (hs : Src P te.size tx vx new.length wss.flatten w) (hrel : VRELs X new false wss) (hev : Even te.size wss) :
    OpS P B X O w h (Builtin.append_ #[t, tx] ty #[vs, vx]) v h' := by
  obtain ⟨i, i1, i2, i3, i4⟩ := hok.info
  unfold appendV at e
  split at e
  · rename_i b g off len lim
    simp only [VREL] at rs
    obtain ⟨y, ey, ⟨a, cap, e1, e2, e3, e4⟩, bi, hMb, hgb, hown⟩ := rs
    cases ey; subst e1
    split at e
    · rename_i g' sz l hb
      obtain ⟨bj, b1, b2, b3, b4, b5, b6⟩ := hr.blk b _ hb
      rw [hMb] at b1; cases b1
      obtain ⟨hc, e2'⟩ := bif_some e
      clear e
      cases e2'
      simp only [Bool.and_eq_true] at hc
      obtain ⟨hlim, hcut, hoff, hsz, hroom⟩ := hc
      obtain ⟨hgg, hol⟩ := cutOk_iff hcut
      subst hgg
      have hoff := beq_of hoff; subst hoff
      have hsz := beq_of hsz; subst hsz
      rw [llen_eq] at hroom ⊢
      have hlen : len ≤ l.length := by omega
      rw [take_whole hlen]
      have hll : (l.take len).length = len := by rw [List.length_take]; omega
      have hlen2 : (l.take len ++ new).length = len + new.length := by rw [List.length_append, hll]
      obtain ⟨a', cap', w1, w2, w3, w4, _, w6⟩ := hown b2.symm
      cases w1
      rw [Nat.zero_add] at w4
      obtain ⟨wo, o1, o2, o3⟩ : ∃ wo, VRELs X (l.take len) false wo ∧ Even te.size wo ∧ (len = 0 ∧ wo.flatten = [] ∨ ∃ a0, a = some a0 ∧ wo.flatten.length = len * te.size ∧ ∀ j v, wo.flatten[j]? = some v → w.cell? (a0.add j) = some v) := by
        by_cases hz0 : len = 0
        · subst hz0; exact ⟨[], by simp [VRELs], (fun _ h => by cases h), .inl ⟨rfl, rfl⟩⟩
        · rcases w6 with w6 | ⟨a0, q1, q2, q3⟩
          · omega
          · rcases b6 with b6 | ⟨es, a1, wss0, k1, k2, k3, k4, k5, k6⟩
            · omega
            · rw [q1] at k1; cases k1
              rw [Nat.zero_mul, Addr.add_zero] at q3
              refine ⟨wss0.take len, VRELs_iff.2 ((VRELs_iff.1 k3).take len), Even.take k4 len, .inr ⟨_, q3, ?_, ?_⟩⟩
              · rw [(Even.take k4 len).len, ((VRELs_iff.1 k3).take len).len, hll]
              · rw [Even.flatten_take k4]
                exact k5.take _
      by_cases hfit : len + new.length ≤ cap
      · -- in its place
        rw [← i2] at hs
        let bk : BI := ⟨g + 1, bi.base, te.size, cap, false⟩
        have hXY : X.le h.length (X.withM b bk) := ⟨.refl _, fun c ci hc e => by
          by_cases hcb : c = b
          · subst hcb; rw [hMb] at e; cases e
            exact ⟨bk, Cx.withM_same _ _ _, by show bi.g ≤ g + 1; omega, fun hh => absurd hh (by show bi.g ≠ g + 1; omega), fun hh => by rw [b3] at hh; cases hh⟩
          · exact ⟨ci, by rw [Cx.withM_other _ _ hcb]; exact e, Nat.le_refl _, fun _ => rfl, fun _ => rfl⟩, fun _ _ e => e⟩
        have hlt : (X.withM b bk).lt h.length := fun c ci e => by
          by_cases hcb : c = b
          · subst hcb; exact hget_lt hb
          · rw [Cx.withM_other _ _ hcb] at e; exact hr.lt c ci e
        by_cases hcz : cap = 0
        · have hl0 : len = 0 := by omega
          have hn0 : new.length = 0 := by omega
          have hnn : wss.flatten = [] := no_news hs hn0
          rw [hnn] at hs
          have hrun := run_append_room_put (w := w) (ty := ty) hk i1 hs (base := a) (sLen := len) (sCap := cap) hfit (a := ⟨0, 0, none⟩) (fun h => absurd rfl h) rfl (fun j hj => by simp at hj)
          simp only [putCells] at hrun
          have hput := hr.put (hget_lt hb) hXY rfl (fun c hc => Cx.withM_other _ _ hc) hlt ⟨0, 0, none⟩ rfl [] 0 (fun j hj => by simp at hj) (fun j hj => by simp at hj) (.arv (g + 1) te.size (l.take len ++ new)) ⟨bk, Cx.withM_same _ _ _, rfl, rfl, by rw [hlen2]; exact hfit, by simp only [LMX]; show cap ≤ _; omega, .inl hcz⟩
          refine ⟨_, w, _, O, hrun, hput, ⟨hXY, .refl _ _, fun a v e hn => (by simp only [Cx.withM] at e; rw [hn] at e; cases e), fun _ _ e _ => e⟩, ?_, by rw [hput_len, if_pos (hget_lt hb)]; exact Nat.le_refl _, FR.put hr hb (fun c hc => Cx.withM_other _ _ hc) ⟨0, 0, none⟩ [] 0 (fun j hj => by simp at hj) _⟩
          simp only [VREL]
          rw [show len + new.length = 0 from by omega]
          exact ⟨_, rfl, ⟨a, cap, rfl, Nat.zero_le _, by decide, .inl hcz⟩, bk, Cx.withM_same _ _ _, Nat.le_refl _, fun _ => ⟨a, cap, rfl, Nat.zero_le _, by decide, by show 0 + cap ≤ cap; omega, (fun h => by cases h), .inl hcz⟩⟩
        · obtain ⟨a0, q1, q2, q3⟩ := w6.resolve_left hcz
          rw [Nat.zero_mul, Addr.add_zero] at q3
          obtain ⟨es, a1, wss0, k1, k2, k3, k4, k5, k7⟩ := b6.resolve_left (by omega)
          rw [q1] at k1; cases k1
          subst q3
          have hnl : wss.flatten.length = new.length * te.size := by rw [hev.len, (VRELs_iff.1 hrel).len]
          have hm2 : (len + new.length) * te.size ≤ bi.cap * te.size := Nat.mul_le_mul_right _ (by omega)
          rw [Nat.add_mul] at hm2
          have hsub : Owns w (O b) (a0.add (len * te.size)) 0 wss.flatten.length := k7.sub k2 (Nat.zero_le _) (by omega)
          have hsp := Addr.add_spot a0 (len * te.size) k2
          have hrun := run_append_room_put (w := w) (ty := ty) hk i1 hs (base := some a0) (sLen := len) (sCap := cap) hfit (a := a0) (fun _ => rfl) k2 (fun j hj => by rw [i2]; exact (hsub j (Nat.zero_le _) hj).2)
          rw [i2] at hrun
          have hO2 : ∀ j, j < wss.flatten.length → O b ((a0.add (len * te.size)).add (0 + j)) := fun j hj => by rw [Nat.zero_add]; exact (hsub j (Nat.zero_le _) hj).1
          have hex : ∀ j, j < wss.flatten.length → ∃ u, w.cell? ((a0.add (len * te.size)).add (0 + j)) = some u := fun j hj => by rw [Nat.zero_add]; exact (hsub j (Nat.zero_le _) hj).2.1
          have hfl0 : wss0.flatten.length = l.length * te.size := by rw [Even.len k4, (VRELs_iff.1 k3).len]
          have hm3 : len * te.size ≤ l.length * te.size := Nat.mul_le_mul_right _ hlen
          have hcells : cellsAt (putCells w (a0.add (len * te.size)) wss.flatten 0).cell? a0 ((wss0.take len) ++ wss).flatten := fun j v e => by
            rw [List.flatten_append, Even.flatten_take k4] at e
            have htl : (wss0.flatten.take (len * te.size)).length = len * te.size := by rw [List.length_take, hfl0]; omega
            by_cases hj : j < len * te.size
            · rw [List.getElem?_append_left (by rw [htl]; exact hj)] at e
              rw [putCells_other _ wss.flatten w 0 _ (fun m hm he => by rw [Nat.zero_add, Addr.add_add a0 _ _ k2] at he; have := Addr.add_inj k2 he; omega)]
              exact (k5.take _) j v e
            · rw [List.getElem?_append_right (by rw [htl]; omega), htl] at e
              have := putCells_at (a0.add (len * te.size)) hsp wss.flatten w 0 hex (j - len * te.size) v e
              rw [Nat.zero_add, Addr.add_add a0 _ _ k2, show len * te.size + (j - len * te.size) = j from by omega] at this
              exact this
          have hlow : V.lows h.length (l.take len ++ new) := VRELs.low hr.lt _ _ _ (VRELs_iff.2 (((VRELs_iff.1 k3).take len).app (VRELs_iff.1 hrel)))
          have hput := hr.put (hget_lt hb) hXY rfl (fun c hc => Cx.withM_other _ _ hc) hlt (a0.add (len * te.size)) hsp wss.flatten 0 hO2 hex (.arv (g + 1) te.size (l.take len ++ new)) ⟨bk, Cx.withM_same _ _ _, rfl, rfl, by rw [hlen2]; exact hfit, by show cap ≤ LMX; omega, .inr ⟨rfl, a0, wss0.take len ++ wss, q1, k2,
            (VRELs_iff.2 (((VRELs_iff.1 k3).take len).app (VRELs_iff.1 hrel))).mono hXY _ _ _ hlow, (Even.take k4 len).app hev, hcells, ?_⟩⟩
          · refine ⟨_, _, _, O, hrun, hput, ⟨hXY, below_block (fun hne => own_block hr hsub (Nat.le_refl _) (by cases hq : wss.flatten with | nil => exact absurd hq hne | cons _ _ => simp)), fun a v e hn => (by simp only [Cx.withM] at e; rw [hn] at e; cases e), fun _ _ e l => putCells_obj _ (lp_not_cells l) _ w 0 e⟩, ?_, by rw [hput_len, if_pos (hget_lt hb)]; exact Nat.le_refl _, FR.put hr hb (fun c hc => Cx.withM_other _ _ hc) _ wss.flatten 0 hO2 _⟩
            simp only [VREL]
            exact ⟨_, rfl, ⟨some a0, cap, rfl, hfit, by omega, .inr ⟨a0, rfl⟩⟩, bk, Cx.withM_same _ _ _, Nat.le_refl _, fun _ => ⟨some a0, cap, rfl, hfit, by omega, by show 0 + cap ≤ cap; omega, (fun h => by cases h), .inr ⟨a0, q1, k2, by simp⟩⟩⟩
          · exact fun j h1 h2 => k7.put _ hsp wss.flatten 0 hex j h1 (Nat.lt_of_lt_of_le h2 (Nat.mul_le_mul_right _ w4))
      · -- in new memory
        obtain ⟨cap2, rest, w', g1, g2, g3, g4, g5, g6⟩ := run_append_grow_ok (w := w) (ty := ty) hok hz hk (base := a) (sLen := len) (sCap := cap) (olds := wo.flatten) o3 hs (by omega) hroom
        have hfl : wo.flatten ++ wss.flatten = (wo ++ wss).flatten := by simp
        rw [hfl] at g2 g4
        obtain ⟨X', O', q1, q2, q3, q4, q5⟩ := HR.regrowV hr hb hMb b2 b3 (g3.mono hr.wb) g2 (s := te.size) (cap := cap2) (l := l.take len ++ new) (wss := wo ++ wss) (rest := rest) g4 g6 (by rw [hlen2]; exact g5) (VRELs_iff.2 ((VRELs_iff.1 o1).app (VRELs_iff.1 hrel))) (o2.app hev) rfl
        rw [hlen2] at q3
        exact ⟨_, _, X', O', g1, q1, q2, q3, q4, q5⟩
    · cases e
  · rename_i l
    obtain ⟨hc, e⟩ := bif_some e
    simp only [Bool.and_eq_true] at hc
    obtain ⟨hf, hni, hroom⟩ := hc
    cases e
    rw [llen_eq, llen_eq] at hroom ⊢
    simp only [VREL] at rs
    obtain ⟨y, ey, a, n, e1, e2, e3, e4⟩ := rs
    cases ey; subst e1
    obtain ⟨wo, o1, o2, o3⟩ : ∃ wo, RELs X.C l false wo ∧ Even te.size wo ∧ (n = 0 ∧ wo.flatten = [] ∨ ∃ a0, a = some a0 ∧ a0.spot = none ∧ wo.flatten.length = n * te.size ∧ cellsAt X.C a0 wo.flatten) := by
      by_cases hz0 : n = 0
      · have : l = [] := List.eq_nil_of_length_eq_zero (by omega)
        subst this
        exact ⟨[], by simp [RELs], (fun _ h => by cases h), .inl ⟨hz0, rfl⟩⟩
      · obtain ⟨a0, wss0, s0, q1, q2, q3, q4, q5⟩ := e4.resolve_left hz0
        have hs0 := firstWd_of hf q3 q4 (fun h => by subst h; simp at e2; exact hz0 e2)
        subst hs0
        exact ⟨wss0, q3, q4, .inr ⟨a0, q1, q2, by rw [Even.len q4, (RELs_iff.1 q3).len, e2], q5⟩⟩
    have hpos : 0 < new.length := by
      rcases Nat.eq_zero_or_pos new.length with h | h
      · have := List.eq_nil_of_length_eq_zero h; subst this; cases hni
      · exact h
    obtain ⟨cap2, rest, w', g1, g2, g3, g4, g5, g6⟩ := run_append_grow_ok (w := w) (ty := ty) hok hz hk (base := a) (sLen := n) (sCap := n) (olds := wo.flatten) (o3.imp id (fun ⟨a0, p1, _, p3, p4⟩ => ⟨a0, p1, p3, fun j v e => hr.ci _ _ (p4 j v e)⟩)) hs (by omega) (by rw [e2]; exact hroom)
    have hfl : wo.flatten ++ wss.flatten = (wo ++ wss).flatten := by simp
    rw [hfl] at g2 g4
    have hlen2 : (imap l ++ new).length = n + new.length := by rw [List.length_append, imap_eq, List.length_map, e2]
    obtain ⟨X', O', q1, q2, q3, q4, q5⟩ := newVals_sound hr hn hM hle (g3.mono hr.wb) g2 (s := te.size) (cap := cap2) (l := imap l ++ new) (wss := wo ++ wss) (rest := rest) g4 g6 (by rw [hlen2]; exact g5) (VRELs_iff.2 ((VRELs_iff.1 (by rw [imap_eq]; exact VRELs_im.2 o1)).app (VRELs_iff.1 hrel))) (o2.app hev) rfl
    rw [hlen2] at q3
    rw [← e2]
    exact ⟨_, _, X', O', g1, q1, q2, q3, q4, q5⟩
  · cases e

end
end Go.As
