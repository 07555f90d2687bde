/-
  AS: stores through pointers.
-/
import Derived.Test.YtphcebdhnpbjlaaGreatDoorAsOp1
set_option linter.unusedSectionVars false
set_option linter.unusedSimpArgs false
set_option linter.unusedVariables false
namespace Go.As
open Go.RowKit (Below)
variable [Gh]
section
variable {P : Program} {B : Nat} {X : Cx} {O : Nat → Addr → Prop} {w : World} {h : Heap}

theorem Up.put {n : Nat} {a : Addr} (hB : B ≤ a.block) (vs : List Value) (i : Nat) {Y : Cx} (hXY : X.le n Y) (hC : Y.C = X.C) : Up B X w n Y (putCells w a vs i) :=
  ⟨hXY, putCells_below a hB vs w i, fun x v e hn => (by rw [hC, hn] at e; cases e), fun _ _ e l => putCells_obj a (lp_not_cells l) vs w i e⟩

theorem own_block {b : Nat} {a : Addr} {i n : Nat} (hr : HR B X O w h) (hO : Owns w (O b) a i n) {j : Nat} (h1 : i ≤ j) (h2 : j < n) : B ≤ a.block := by
  have := (hr.own b _ (hO j h1 h2).1).1
  rwa [Addr.add_block] at this
theorem below_block {xs : List Value} {a : Addr} (hB : xs ≠ [] → B ≤ a.block) : Below B w (putCells w a xs 0) := by
  cases xs with
  | nil => exact .refl _ _
  | cons x xs => exact putCells_below a (hB (by simp)) _ _ _

theorem hasN_iff {l : List Nat} {b : Nat} (h : hasN l b = false) : b ∉ l := by
  induction l with
  | nil => simp
  | cons a l ih =>
    have h' : (bif Nat.beq a b then true else hasN l b) = false := h
    cases hb : Nat.beq a b <;> rw [hb] at h' <;> simp at h'
    simp only [List.mem_cons, not_or]
    refine ⟨?_, ih h'⟩
    rintro rfl
    rw [Nat.beq_refl] at hb; cases hb

/-- A store through a pointer of the call's own. -/
theorem storeV_sound (hr : HR B X O w h) {b g : Nat} {p : List (Nat × Nat)} {xv : V} {h' : Heap} (hl : storeV h b g p xv = some h') {x : Value} (hp : PtrR X b g p x) {xs : List Value} (rx : VREL X xv false xs) :
    ∃ a X' O', x = .pointer (some a) ∧ a.spot = none ∧ (∀ j, j < xs.length → (∃ u, w.cell? (a.add j) = some u) ∧ w.frozen? (a.add j) = false) ∧ HR B X' O' (putCells w a xs 0) h' ∧ Up B X w h.length X' (putCells w a xs 0) ∧ h.length ≤ h'.length ∧ FR X O w h X' O' (putCells w a xs 0) h' := by
  obtain ⟨_, bi, hM, hg, hx⟩ := hp
  unfold storeV at hl
  split at hl
  · rename_i c hb
    have hbl := hget_lt hb
    obtain ⟨hg0, hn⟩ := bif_some hl
    obtain ⟨bj, a0, ws, h1, h2, h3, h4, h5, h6, h7, h8⟩ := hr.blk b _ hb
    rw [hM] at h1; cases h1
    obtain ⟨a1, e1, _, e3⟩ := hx (by rw [h2]; exact beq_of hg0)
    rw [h4] at e1; cases e1
    cases hv : V.put xv p c with
    | none => rw [hv] at hn; cases hn
    | some v' =>
      rw [hv] at hn; simp only [Option.map_some, Option.some.injEq] at hn; subst hn
      obtain ⟨pre, old, post, q1, q2, q3, q4, q5⟩ := put_part rx hv h6
      have hlen : ws.length = pre.length + (xs.length + post.length) := by rw [q1]; simp [q3]
      have hsub : Owns w (O b) (a0.add pre.length) 0 xs.length := h8.sub h5 (Nat.zero_le _) (by omega)
      rw [← q2] at e3
      refine ⟨_, X, O, e3, Addr.add_spot _ _ h5, fun j hj => (hsub j (Nat.zero_le _) hj).2, ?_, ?_, by rw [hput_len, if_pos hbl]; exact Nat.le_refl _, FR.put hr hb (fun _ _ => rfl) _ xs 0 (fun j hj => by rw [Nat.zero_add]; exact (hsub j (Nat.zero_le _) hj).1) _⟩
      · refine hr.put hbl (.refl _ _) rfl (fun _ _ => rfl) hr.lt _ (Addr.add_spot _ _ h5) xs 0 (fun j hj => by rw [Nat.zero_add]; exact (hsub j (Nat.zero_le _) hj).1) (fun j hj => by rw [Nat.zero_add]; exact (hsub j (Nat.zero_le _) hj).2.1) _ ?_
        refine ⟨bi, a0, _, hM, h2, h3, h4, h5, q4, cells_put h5 (by rw [← q1]; exact h7) q3, ?_⟩
        have : (pre ++ (xs ++ post)).length = ws.length := by simp [hlen]
        rw [this]
        exact h8.put _ (Addr.add_spot _ _ h5) xs 0 (fun j hj => by rw [Nat.zero_add]; exact (hsub j (Nat.zero_le _) hj).2.1)
      · exact ⟨.refl _ _, below_block (fun hne => own_block hr hsub (Nat.le_refl _) (by cases xs <;> simp_all)), fun y v e hn => (by rw [hn] at e; cases e), fun _ _ e l => putCells_obj _ (lp_not_cells l) xs w 0 e⟩
  · rename_i g' s ro l hb
    split at hl
    · rename_i i o q
      obtain ⟨hc, hn⟩ := bif_some hl
      simp only [Bool.and_eq_true] at hc
      obtain ⟨hg1, ho1, hro1⟩ := hc
      rw [lget_eq] at hn
      cases hi : l[i]? with
      | none => rw [hi] at hn; cases hn
      | some d =>
        rw [hi] at hn; simp only [Option.bind_some] at hn
        cases hd : xv.data h with
        | none => rw [hd] at hn; cases hn
        | some dx =>
          rw [hd] at hn; simp only [Option.bind_some] at hn
          cases hpv : V.put (.im dx) q (.im d) with
          | none => rw [hpv] at hn; cases hn
          | some v' =>
            rw [hpv] at hn; simp only [Option.bind_some] at hn
            split at hn
            · rename_i d'
              obtain ⟨hal, hn⟩ := bif_some hn
              cases hn
              rw [Bool.and_eq_true] at hal
              obtain ⟨ha, hnb⟩ := hal
              have hnb' : b ∉ xv.owns := hasN_iff (by simpa using hnb)
              -- what is stored is shared first
              obtain ⟨C, O1, k1, k2, k3, k4, k5, k6, k7, k8, k9⟩ := close_sound xv.owns hr ha
              have hshow := close_shows ha k2 k7
              have rdx : REL C dx false xs := data_sound hr hshow hd (fun b hb => hb) rx
              obtain ⟨ro', hb', hro'⟩ := (k8 b).1 _ _ _ _ hb
              have hroe := hro' hnb'; subst hroe
              have hbl : b < (close h xv.owns).length := hget_lt hb'
              obtain ⟨bj, h1, h2, h3, h4, h5, h6⟩ := k1.blk b _ hb'
              have h1' : X.M b = some bj := h1
              rw [hM] at h1'; cases h1'
              obtain ⟨a1, e1, s1, e3⟩ := hx (by rw [h2]; exact beq_of hg1)
              have hil : i < l.length := (List.getElem?_eq_some_iff.1 hi).1
              rcases h6 with h6 | ⟨es, a0, wss, h7, h8, h9, h10, h11, h12, h13⟩
              · omega
              · rw [h7] at e1; cases e1
                obtain ⟨ws, ew, rws⟩ := (RELs_iff.1 h9).get hi
                have hwl : ws.length = s := h10 ws (List.mem_of_getElem? ew)
                obtain ⟨pre, old, post, q1, q2, q3, q4, q5⟩ := put_part (X := X.withC C) (x := .im dx) (xs := xs) (by simp only [VREL]; exact rdx) hpv (ws := ws) (by simp only [VREL]; exact rws)
                have hwlen : pre.length + (xs.length + post.length) = s := by rw [← hwl, q1]; simp [q3]
                have hrow : (i + 1) * s ≤ bi.cap * s := Nat.mul_le_mul_right _ (by omega)
                rw [Nat.add_mul, Nat.one_mul] at hrow
                have hros : ro' * s ≤ i * s := Nat.mul_le_mul_right _ (ble_of hro1)
                have hpo : pathOff ((i, o) :: q) = i * s + pre.length := by rw [q2]; simp [pathOff, beq_of ho1]
                rw [hpo] at e3
                have hsub : Owns w (O1 b) (a1.add (i * s + pre.length)) 0 xs.length := h13.sub h8 (by omega) (by omega)
                have hex : ∀ j, j < xs.length → ∃ u, w.cell? ((a1.add (i * s + pre.length)).add (0 + j)) = some u := fun j hj => by rw [Nat.zero_add]; exact (hsub j (Nat.zero_le _) hj).2.1
                have hsp := Addr.add_spot a1 (i * s + pre.length) h8
                refine ⟨_, X.withC C, O1, e3, hsp, fun j hj => (hsub j (Nat.zero_le _) hj).2, ?_, ?_, ?_⟩
                · refine k1.put hbl (.refl _ _) rfl (fun _ _ => rfl) k1.lt _ hsp xs 0 (fun j hj => by rw [Nat.zero_add]; exact (hsub j (Nat.zero_le _) hj).1) hex _ ?_
                  have hnl : (pre ++ (xs ++ post)).length = s := by simp [hwlen]
                  refine ⟨bi, hM, h2, h3, by simpa using h4, h5, .inr ⟨es, a1, wss.set i (pre ++ (xs ++ post)), h7, h8, ?_, Even.set h10 hnl, ?_, ?_, ?_⟩⟩
                  · rw [lset_eq]
                    exact RELs_iff.2 ((RELs_iff.1 h9).set (by simp only [VREL] at q4; exact q4))
                  · rw [flatten_put h10 ew hnl]
                    have hfl := flatten_at h10 ew
                    rw [q1] at hfl
                    have := cells_put (w := w) (pre := wss.flatten.take (i * s) ++ pre) (old := old) (post := post ++ wss.flatten.drop (i * s + s)) (xs := xs) h8 (by rw [hfl] at h11; simpa using h11) q3
                    have hl2 : (wss.flatten.take (i * s) ++ pre).length = i * s + pre.length := by
                      have : i * s ≤ wss.flatten.length := by rw [Even.len h10, (RELs_iff.1 h9).len]; exact Nat.mul_le_mul_right _ (by omega)
                      rw [List.length_append, List.length_take, Nat.min_eq_left this]
                    rw [hl2] at this
                    simpa using this
                  · rw [flatten_put h10 ew hnl, List.take_append_of_le_length (by
                      have : i * s ≤ wss.flatten.length := by rw [Even.len h10, (RELs_iff.1 h9).len]; exact Nat.mul_le_mul_right _ (by omega)
                      rw [List.length_take, Nat.min_eq_left this]; exact hros), List.take_take, Nat.min_eq_left hros]
                    exact h12
                  · exact h13.put _ hsp xs 0 hex
                · refine ⟨⟨k2, fun _ bi _ e => ⟨bi, e, Nat.le_refl _, fun _ => rfl, fun _ => rfl⟩, fun _ _ e => e⟩, below_block (fun hne => own_block k1 hsub (Nat.le_refl _) (by cases xs <;> simp_all)), k4, fun _ _ e l => putCells_obj _ (lp_not_cells l) xs w 0 e⟩
                · rw [hput_len, if_pos hbl, k5]
                  exact ⟨Nat.le_refl _, (close_FR (w := w) ha (fun b hb => (k8 b).2 hb) (fun b => (k8 b).1) k9).trans (FR.put (Y := X.withC C) k1 hb' (fun _ _ => rfl) _ xs 0 (fun j hj => by rw [Nat.zero_add]; exact (hsub j (Nat.zero_le _) hj).1) _) (Nat.le_refl _) (by rw [k5]; exact Nat.le_refl _)⟩
            · cases hn
    · cases hl
  · rename_i g' s l hb
    split at hl
    · rename_i i o q
      obtain ⟨hc, hn⟩ := bif_some hl
      simp only [Bool.and_eq_true] at hc
      obtain ⟨hg1, ho1⟩ := hc
      rw [lget_eq] at hn
      cases hi : l[i]? with
      | none => rw [hi] at hn; cases hn
      | some d =>
        rw [hi] at hn; simp only [Option.bind_some] at hn
        cases hpv : V.put xv q d with
        | none => rw [hpv] at hn; cases hn
        | some v' =>
          rw [hpv] at hn; simp only [Option.map_some, Option.some.injEq] at hn; subst hn
          have hbl := hget_lt hb
          obtain ⟨bj, h1, h2, h3, h4, h5, h6⟩ := hr.blk b _ hb
          rw [hM] at h1; cases h1
          obtain ⟨a1, e1, s1, e3⟩ := hx (by rw [h2]; exact beq_of hg1)
          have hil : i < l.length := (List.getElem?_eq_some_iff.1 hi).1
          rcases h6 with h6 | ⟨es, a0, wss, h7, h8, h9, h10, h11, h13⟩
          · omega
          · rw [h7] at e1; cases e1
            obtain ⟨ws, ew, rws⟩ := (VRELs_iff.1 h9).get hi
            have hwl : ws.length = s := h10 ws (List.mem_of_getElem? ew)
            obtain ⟨pre, old, post, q1, q2, q3, q4, q5⟩ := put_part rx hpv rws
            have hwlen : pre.length + (xs.length + post.length) = s := by rw [← hwl, q1]; simp [q3]
            have hrow : (i + 1) * s ≤ bi.cap * s := Nat.mul_le_mul_right _ (by omega)
            rw [Nat.add_mul, Nat.one_mul] at hrow
            have hpo : pathOff ((i, o) :: q) = i * s + pre.length := by rw [q2]; simp [pathOff, beq_of ho1]
            rw [hpo] at e3
            have hsub : Owns w (O b) (a1.add (i * s + pre.length)) 0 xs.length := h13.sub h8 (by omega) (by omega)
            have hex : ∀ j, j < xs.length → ∃ u, w.cell? ((a1.add (i * s + pre.length)).add (0 + j)) = some u := fun j hj => by rw [Nat.zero_add]; exact (hsub j (Nat.zero_le _) hj).2.1
            have hsp := Addr.add_spot a1 (i * s + pre.length) h8
            refine ⟨_, X, O, e3, hsp, fun j hj => (hsub j (Nat.zero_le _) hj).2, ?_, ?_, by rw [hput_len, if_pos hbl]; exact Nat.le_refl _, FR.put hr hb (fun _ _ => rfl) _ xs 0 (fun j hj => by rw [Nat.zero_add]; exact (hsub j (Nat.zero_le _) hj).1) _⟩
            · refine hr.put hbl (.refl _ _) rfl (fun _ _ => rfl) hr.lt _ hsp xs 0 (fun j hj => by rw [Nat.zero_add]; exact (hsub j (Nat.zero_le _) hj).1) hex _ ?_
              have hnl : (pre ++ (xs ++ post)).length = s := by simp [hwlen]
              refine ⟨bi, hM, h2, h3, by simpa using h4, h5, .inr ⟨es, a1, wss.set i (pre ++ (xs ++ post)), h7, h8, ?_, Even.set h10 hnl, ?_, ?_⟩⟩
              · rw [lset_eq]
                exact VRELs_iff.2 ((VRELs_iff.1 h9).set q4)
              · rw [flatten_put h10 ew hnl]
                have hfl := flatten_at h10 ew
                rw [q1] at hfl
                have := cells_put (w := w) (pre := wss.flatten.take (i * s) ++ pre) (old := old) (post := post ++ wss.flatten.drop (i * s + s)) (xs := xs) h8 (by rw [hfl] at h11; simpa using h11) q3
                have hl2 : (wss.flatten.take (i * s) ++ pre).length = i * s + pre.length := by
                  have : i * s ≤ wss.flatten.length := by rw [Even.len h10, (VRELs_iff.1 h9).len]; exact Nat.mul_le_mul_right _ (by omega)
                  rw [List.length_append, List.length_take, Nat.min_eq_left this]
                rw [hl2] at this
                simpa using this
              · exact h13.put _ hsp xs 0 hex
            · exact ⟨.refl _ _, below_block (fun hne => own_block hr hsub (Nat.le_refl _) (by cases xs <;> simp_all)), fun y v e hn => (by rw [hn] at e; cases e), fun _ _ e l => putCells_obj _ (lp_not_cells l) xs w 0 e⟩
    · cases hl
  · cases hl

theorem store_sound (hr : HR B X O w h) {E : Env} {t : Nat} (hE : ∀ ti, E.ty t = some ti → TyOk P t ti) {av xv v : V} {a x : Value} {h' : Heap} (e : sStore E h t av xv = some (v, h')) (ra : VREL X av true [a]) (rx : VREL X xv true [x]) :
    v = .undef ∧ OpU P B X O w h (Instr.storeAt t a x) h' := by
  unfold sStore at e
  cases ht : E.ty t with
  | none => rw [ht] at e; cases e
  | some ti =>
    rw [ht] at e
    have hok := hE ti ht
    simp only [Option.bind_some] at e
    split at e
    · rename_i b g p
      obtain ⟨hv, e⟩ := bif_some e
      cases hs : storeV h b g p xv with
      | none => rw [hs] at e; cases e
      | some h1 =>
        rw [hs] at e; simp only [Option.map_some, Option.some.injEq, Prod.mk.injEq] at e
        obtain ⟨e1, e2⟩ := e
        subst e1; subst e2
        simp only [VREL] at ra
        obtain ⟨y, ey, rp⟩ := ra
        cases ey
        obtain ⟨k1, _, k3⟩ := okV_iff hv
        have hcs := rx.cells k3
        obtain ⟨ad, X', O', q1, q2, q3, q4, q5, q6, q7⟩ := storeV_sound hr hs rp hcs
        subst q1
        have hlen : x.cells.toList.length = ti.size := by rw [hcs.wd, k1]
        have := run_storeVar_ok (P := P) hok hv rx q2 (w := w) (fun j hj => q3 j (by rw [hlen]; exact hj))
        exact ⟨rfl, _, X', O', by simp [Instr.storeAt, Instr.sureAddr, this], q4, q5, q6, q7⟩
    · cases e
end
end Go.As
