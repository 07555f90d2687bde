/-
  AS: composite literals.
-/
import Derived.Test.YtphcebdhnpbjlaaGreatDoorAsConv
set_option linter.unusedSectionVars false
set_option linter.unusedSimpArgs false
set_option linter.unusedVariables false
namespace Go.As
open Go.RowKit (Below)
variable [Gh]
section
variable {P : Program} {B : Nat} {X : Cx} {O : Nat → Addr → Prop} {w : World} {h : Heap} {E : Env}

theorem foldl_put (off : Nat) : ∀ (xs : List Value) (k : Nat) (cs : Array Value), off + k + xs.length ≤ cs.size →
    ((xs.zipIdx k).foldl (fun cs (x : Value × Nat) => cs.setIfInBounds (off + x.2) x.1) cs).toList = cs.toList.take (off + k) ++ (xs ++ cs.toList.drop (off + k + xs.length))
  | [], k, cs, _ => by simp
  | x :: xs, k, cs, hl => by
    simp only [List.length_cons] at hl
    rw [List.zipIdx_cons, List.foldl_cons, foldl_put off xs (k + 1) _ (by simp; omega)]
    dsimp only
    have hk : off + k < cs.toList.length := by simp; omega
    rw [Array.toList_setIfInBounds, List.set_eq_take_append_cons_drop, if_pos hk]
    have h1 : (cs.toList.take (off + k)).length = off + k := by rw [List.length_take]; omega
    rw [show off + (k + 1) = (off + k) + 1 from by omega]
    rw [List.take_append, h1, List.take_of_length_le (by omega), Nat.add_sub_cancel_left, List.take_succ_cons, List.take_zero]
    rw [List.drop_append, h1, List.drop_of_length_le (by rw [h1]; omega), show off + k + 1 + xs.length - (off + k) = xs.length + 1 from by omega, List.drop_succ_cons, List.drop_drop]
    simp only [List.length_cons, List.append_assoc, List.cons_append, List.nil_append]
    congr 4; omega

theorem fill_cons (place : Nat → Option (Nat × Nat)) (cs : Array Value) (i : Nat) (v : Value) (rest : List (Nat × Value)) {off size : Nat} (hp : place i = some (off, size)) (h1 : v.cells.size = size) {pre old post : List Value}
    (hcs : cs.toList = pre ++ (old ++ post)) (hpre : pre.length = off) (hold : old.length = size) :
    ∃ cs' : Array Value, Instr.fill place cs ((i, v) :: rest) = Instr.fill place cs' rest ∧ cs'.toList = pre ++ (v.cells.toList ++ post) := by
  have hsz : cs.size = pre.length + (old.length + post.length) := by rw [← Array.length_toList, hcs]; simp
  refine ⟨_, by rw [Instr.fill, hp]; simp only; rw [if_neg (by rw [Bool.or_eq_true]; simp; omega)], ?_⟩
  rw [← Array.foldl_toList, Array.toList_zipIdx]
  have := foldl_put off v.cells.toList 0 cs (by simp; omega)
  simp only [Nat.add_zero] at this
  rw [this, hcs]
  subst hpre
  simp only [Array.length_toList, h1, ← hold]
  simp

theorem fillAt_cons (place : Nat → Option (Nat × Nat)) (p : Nat × V) (ps : List (Nat × V)) (l : List V) : fillAt l place (p :: ps) = ((place p.1).bind fun os => (lget l p.1).bind fun c =>
    bif Nat.beq (wdsTo l p.1) os.1 && (Nat.beq c.wd os.2 && (Nat.beq p.2.wd os.2 && isPlain p.2)) then fillAt (lset l p.1 p.2) place ps else none) := rfl
theorem isPlain_eq (v : V) : isPlain v = v.plain := by cases v <;> first | rfl | (rename_i d; cases d <;> rfl)

/-- Parts that stand for the values of a literal. -/
def PartsR (X : Cx) (ps : List (Nat × V)) (qs : List (Nat × Value)) : Prop := All2 (fun p q => p.1 = q.1 ∧ VREL X p.2 true [q.2]) ps qs

theorem fill_sound {X : Cx} {place : Nat → Option (Nat × Nat)} {W : Nat} : ∀ (ps : List (Nat × V)) {qs : List (Nat × Value)} {l l' : List V} {cs : Array Value}, PartsR X ps qs → fillAt l place ps = some l' → VREL X (.agg W l) false cs.toList →
    ∃ cs', Instr.fill place cs qs = some cs' ∧ VREL X (.agg W l') false cs'.toList
  | [], qs, l, l', cs, hq, e, r => by
    cases hq
    simp [fillAt] at e; subst e
    exact ⟨cs, rfl, r⟩
  | p :: ps, qs, l, l', cs, hq, e, r => by
    obtain ⟨q, qs', rfl, ⟨hp, hv⟩, hq'⟩ := hq
    rw [fillAt_cons] at e
    obtain ⟨os, hos, e⟩ := Option.bind_eq_some_iff.1 e
    obtain ⟨c, hc, e⟩ := Option.bind_eq_some_iff.1 e
    obtain ⟨hk, e⟩ := bif_some e
    simp only [Bool.and_eq_true] at hk
    obtain ⟨k1, k2, k3, k4⟩ := hk
    rw [lget_eq] at hc
    rw [isPlain_eq] at k4
    obtain ⟨pre, cc, post, h1, h2, h3, h4⟩ := r.split (beq_of k1) hc
    have hcells := hv.cells k4
    have hsz : q.2.cells.size = os.2 := by have := hcells.wd; simp at this; rw [this]; exact beq_of k3
    have hold : cc.length = os.2 := by rw [h3.wd]; exact beq_of k2
    obtain ⟨cs', f1, f2⟩ := fill_cons place cs q.1 q.2 qs' (by rw [← hp]; exact hos) hsz h1 (by rw [h2]) hold
    have r' := h4 p.2 q.2.cells.toList hcells (by rw [Array.length_toList, hsz, hold])
    rw [← f2, ← lset_eq] at r'
    obtain ⟨cs2, g1, g2⟩ := fill_sound ps hq' e r'
    exact ⟨cs2, by rw [f1]; exact g1, g2⟩

theorem places_mapM {P : Program} : ∀ (fs : List Field), (∀ f ∈ fs, ∃ i, P.info? f.type = some i) → fs.mapM (fun f => (P.info? f.type).map fun i => (f.offset, i.size)) = some (fs.map fun f => (f.offset, P.cellsOf f.type))
  | [], _ => rfl
  | f :: fs, h => by
    obtain ⟨i, hi⟩ := h f (by simp)
    have hc : P.cellsOf f.type = i.size := by simp [Program.cellsOf, hi]
    rw [List.mapM_cons, places_mapM fs (fun g hg => h g (by simp [hg]))]
    simp [hi, hc]

theorem build_sound (hE : EnvTy P E) (hr : HR B X O w h) {t : Nat} {ps : List (Nat × V)} {v : V} {h' : Heap} (e : sBuild E h t ps = some (v, h')) {qs : Array (Nat × Value)} (r : PartsR X ps qs.toList) : OpS P B X O w h (Instr.build t qs) v h' := by
  unfold sBuild at e
  cases ht : E.ty t with
  | none => rw [ht] at e; cases e
  | some ti =>
  rw [ht] at e
  have hok := hE.ty t ti ht
  have hk := hok.kind
  obtain ⟨i, i1, i2, i3, i4⟩ := hok.info
  simp only [Option.bind_some] at e
  obtain ⟨l, hl, e⟩ := Option.bind_eq_some_iff.1 e
  have hplain : ti.zero.plain = true := by
    unfold V.kids at hl; split at hl
    · rename_i hz; rw [hz]; rfl
    · rename_i hz; rw [hz]; rfl
    · cases hl
  obtain ⟨z, z1, z2⟩ := i4 _ rfl hplain
  have z3 : VREL X ti.zero false z.cells.toList := VREL.mono (X0_le X) _ _ _ (VREL.low X0_lt _ _ _ (z2.cells hplain)) (z2.cells hplain)
  have z4 := kids_agg hl z3
  split at e
  · rename_i fs hti
    rw [hti] at hk; simp only [KindOk] at hk
    obtain ⟨fields, u1, u2, u3, _⟩ := hk
    obtain ⟨l', hf, e⟩ := Option.map_eq_some_iff.1 e
    cases e
    have hp := places_mapM (P := P) fields.toList (fun f hf => (u3 f hf).2)
    have hplace : (fun x => ((fields.toList.map fun f => (f.offset, P.cellsOf f.type)).toArray[x]?)) = fun i => (lget fs i).map (fun f => (f.1, f.2.1)) := by
      funext x
      rw [lget_eq, ← u2]
      simp [List.getElem?_map]
      cases fields[x]? <;> rfl
    rw [← hplace] at hf
    obtain ⟨cs', f1, f2⟩ := fill_sound ps r hf z4
    have hb : P.built t qs.toList = some cs' := by
      simp only [Program.built, i1, u1, z1, hp]
      exact f1
    refine .same hr (run_build w t qs cs' hb) ?_
    have hw : VREL X (.agg ti.zero.wd l') true [.agg cs'] := by
      simp only [VREL] at f2 ⊢
      obtain ⟨wss, h1, h2, h3⟩ := f2
      exact ⟨cs', wss, rfl, h1, h2, by simpa using h3⟩
    exact VREL_mkAgg hw
  · rename_i n el hti
    rw [hti] at hk; simp only [KindOk] at hk
    cases hte : E.ty el with
    | none => rw [hte] at e; cases e
    | some te =>
    rw [hte] at e
    obtain ⟨j, j1, j2, _⟩ := (hE.ty _ _ hte).info
    simp only [Option.bind_some] at e
    obtain ⟨l', hf, e⟩ := Option.map_eq_some_iff.1 e
    cases e
    obtain ⟨cs', f1, f2⟩ := fill_sound ps r hf z4
    have hb : P.built t qs.toList = some cs' := by
      simp only [Program.built, i1, hk, z1, j1, j2]
      exact f1
    refine .same hr (run_build w t qs cs' hb) ?_
    have hw : VREL X (.agg ti.zero.wd l') true [.agg cs'] := by
      simp only [VREL] at f2 ⊢
      obtain ⟨wss, h1, h2, h3⟩ := f2
      exact ⟨cs', wss, rfl, h1, h2, by simpa using h3⟩
    exact VREL_mkAgg hw
  · cases e

/-! ### slices -/
theorem Up.withC {C : IV} (n : Nat) (hC : X.C.le C) (hf : ∀ a v, C a = some v → X.C a = none → B ≤ a.block) : Up B X w n (X.withC C) w :=
  ⟨⟨hC, fun _ bi _ e => ⟨bi, e, Nat.le_refl _, fun _ => rfl, fun _ => rfl⟩, fun _ _ e => e⟩, .refl _ _, hf, fun _ _ e _ => e⟩

theorem fillD_cons (h : Heap) (sz : Nat) (p : Nat × V) (ps : List (Nat × V)) (l : List D) : fillD h sz l (p :: ps) = ((p.2.data h).bind fun d => (lget l p.1).bind fun _ => bif Nat.beq d.wd sz && isPlain p.2 then fillD h sz (lset l p.1 d) ps else none) := rfl
theorem ownsP_cons (p : Nat × V) (ps : List (Nat × V)) : ownsP (p :: ps) = (match V.owns p.2 with | [] => ownsP ps | bs => bs ++ ownsP ps) := rfl
theorem ownsP_mem {p : Nat × V} {ps : List (Nat × V)} (hp : p ∈ ps) {b : Nat} (hb : b ∈ V.owns p.2) : b ∈ ownsP ps := by
  induction ps with
  | nil => cases hp
  | cons q ps ih =>
    rw [ownsP_cons]
    rcases List.mem_cons.1 hp with rfl | hp
    · split
      · rename_i h; rw [h] at hb; cases hb
      · exact List.mem_append_left _ hb
    · split
      · exact ih hp
      · exact List.mem_append_right _ (ih hp)

theorem fillD_sound {C : IV} {S : Nat → Prop} (hr : HR B X O w h) (hS : Shows X w h C S) {sz : Nat} : ∀ (ps : List (Nat × V)) {qs : List (Nat × Value)} {l l' : List D} {cs : Array Value} {wss : List (List Value)}, PartsR X ps qs → (∀ p ∈ ps, ∀ b ∈ p.2.owns, S b) → fillD h sz l ps = some l' →
    RELs C l false wss → Even sz wss → cs.toList = wss.flatten →
    ∃ cs' wss', Instr.fill (fun i => some (i * sz, sz)) cs qs = some cs' ∧ RELs C l' false wss' ∧ Even sz wss' ∧ cs'.toList = wss'.flatten ∧ l'.length = l.length
  | [], qs, l, l', cs, wss, hq, _, e, r, ev, hc => by
    cases hq
    simp [fillD] at e; subst e
    exact ⟨cs, wss, rfl, r, ev, hc, rfl⟩
  | p :: ps, qs, l, l', cs, wss, hq, hs, e, r, ev, hc => by
    obtain ⟨q, qs', rfl, ⟨hp, hv⟩, hq'⟩ := hq
    rw [fillD_cons] at e
    obtain ⟨d, hd, e⟩ := Option.bind_eq_some_iff.1 e
    obtain ⟨c, hcc, e⟩ := Option.bind_eq_some_iff.1 e
    obtain ⟨hk, e⟩ := bif_some e
    rw [lget_eq] at hcc
    rw [lset_eq] at e
    obtain ⟨ws, ew, _⟩ := r.at hcc
    have hd1 : REL C d true [q.2] := data_sound hr hS hd (hs p (by simp)) hv
    simp only [Bool.and_eq_true] at hk
    obtain ⟨hk, hpl⟩ := hk
    rw [isPlain_eq] at hpl
    have hplD : (V.im d).plain = true := by rw [data_plain hd]; exact hpl
    have hcells : REL C d false q.2.cells.toList := VREL.cells (X := ⟨C, fun _ => none, fun _ => none⟩) (v := .im d) hplD hd1
    have hsz : q.2.cells.size = sz := by have := hcells.wd; simp at this; rw [this]; exact beq_of hk
    have hwl : ws.length = sz := ev ws (List.mem_of_getElem? ew)
    have hlen : (wss.flatten.take (p.1 * sz)).length = p.1 * sz := by
      have h1 : p.1 < wss.length := (List.getElem?_eq_some_iff.1 ew).1
      have h2 : (p.1 + 1) * sz ≤ wss.length * sz := Nat.mul_le_mul_right _ h1
      rw [List.length_take, ev.len, Nat.min_eq_left]
      rw [Nat.add_mul] at h2; omega
    obtain ⟨cs', f1, f2⟩ := fill_cons (fun i => some (i * sz, sz)) cs q.1 q.2 qs' (off := p.1 * sz) (size := sz) (by rw [← hp]) hsz (pre := wss.flatten.take (p.1 * sz)) (old := ws) (post := wss.flatten.drop (p.1 * sz + sz)) (by rw [hc]; exact flatten_at ev ew) hlen hwl
    have hnl : q.2.cells.toList.length = sz := by simp [hsz]
    rw [← flatten_put ev ew hnl] at f2
    obtain ⟨cs2, wss2, g1, g2, g3, g4, g5⟩ := fillD_sound hr hS ps hq' (fun x hx => hs x (by simp [hx])) e (RELs_iff.2 ((RELs_iff.1 r).set hcells)) (ev.set hnl) f2
    exact ⟨cs2, wss2, by rw [f1]; exact g1, g2, g3, g4, by rw [g5, List.length_set]⟩

theorem fillAt_wd {sz : Nat} {place : Nat → Option (Nat × Nat)} (hpl : ∀ i os, place i = some os → os.2 = sz) : ∀ (ps : List (Nat × V)) {l l' : List V}, fillAt l place ps = some l' → (∀ v ∈ l, v.wd = sz) → (∀ v ∈ l', v.wd = sz) ∧ l'.length = l.length
  | [], l, l', e, h => by simp [fillAt] at e; subst e; exact ⟨h, rfl⟩
  | p :: ps, l, l', e, h => by
    rw [fillAt_cons] at e
    obtain ⟨os, hos, e⟩ := Option.bind_eq_some_iff.1 e
    obtain ⟨c, hc, e⟩ := Option.bind_eq_some_iff.1 e
    obtain ⟨hk, e⟩ := bif_some e
    simp only [Bool.and_eq_true] at hk
    rw [lset_eq] at e
    obtain ⟨h1, h2⟩ := fillAt_wd hpl ps e (fun v hv => by
      rcases List.mem_or_eq_of_mem_set hv with hv | rfl
      · exact h v hv
      · rw [beq_of hk.2.2.1]; exact hpl _ _ hos)
    exact ⟨h1, by rw [h2, List.length_set]⟩
theorem VRELs_even {X : Cx} {sz : Nat} {l : List V} {wss : List (List Value)} (h : VRELs X l false wss) (hl : ∀ v ∈ l, v.wd = sz) : Even sz wss := by
  induction l generalizing wss with
  | nil => simp only [VRELs] at h; subst h; exact fun _ h => by cases h
  | cons v l ih =>
    simp only [VRELs] at h
    obtain ⟨ws, r, rfl, h1, h2⟩ := h
    intro x hx
    rcases List.mem_cons.1 hx with rfl | hx
    · rw [h1.wd]; exact hl v (by simp)
    · exact ih h2 (fun u hu => hl u (by simp [hu])) x hx

theorem allArr_none {n : Nat} (hn : hget h n = none) {bs : List Nat} (ha : allArr h bs = true) : n ∉ bs := fun hb => by
  obtain ⟨g, s, ro, l, e⟩ := allArr_mem ha n hb
  rw [hn] at e; cases e

theorem run_buildSlice_ok {t el n size : Nat} (hu : P.underlying t = some (.slice el)) {i : TypeInfo} (hi : P.info? el = some i) (hs : i.size = size) {z : Value} (hz : i.zero = some z) (hb : n * size ≤ 16777216) {qs : Array (Nat × Value)} {cs : Array Value}
    (hf : Instr.fill (fun i => some (i * size, size)) (madeCells z.cells (n * size)) qs.toList = some cs) :
    (Instr.buildSlice t n qs).run P w = .ok (.slice (some ⟨w.heap.size, 0, none⟩) n n) (w.alloc (.cells cs el)) := by
  subst hs
  have hb' : ¬ (16777216 < n * i.size) := by omega
  by_cases h0 : n * i.size = 0
  · rw [h0] at hf
    have hm : ∀ z, madeCells z 0 = #[] := fun z => by simp [madeCells]
    rw [hm] at hf
    have hr0 : Array.range 0 = (#[] : Array Nat) := rfl
    simp [Instr.buildSlice, run_underlying hu, sizeOf, typeInfo, hi, h0, hr0, hf, newRow, newObj, Sem.run]
  · unfold madeCells at hf
    simp [Instr.buildSlice, run_underlying hu, sizeOf, typeInfo, zeroValue, hi, hz, h0, hb', hf, newRow, newObj, Sem.run]

theorem buildSlice_sound (hE : EnvTy P E) (hr : HR B X O w h) {keep : Bool} {nid t n : Nat} (hn : hget h nid = none) (hM : X.M nid = none) (hle : nid ≤ h.length) {ps : List (Nat × V)} {v : V} {h' : Heap} (e : sBuildSlice E keep nid h t n ps = some (v, h')) {qs : Array (Nat × Value)} (r : PartsR X ps qs.toList) :
    OpS P B X O w h (Instr.buildSlice t n qs) v h' := by
  unfold sBuildSlice at e
  cases ht : E.ty t with
  | none => rw [ht] at e; cases e
  | some ti =>
  rw [ht] at e
  have hk := (hE.ty t ti ht).kind
  simp only [Option.bind_some] at e
  split at e
  · rename_i el hti
    rw [hti] at hk; simp only [KindOk] at hk
    cases hte : E.ty el with
    | none => rw [hte] at e; cases e
    | some te =>
    rw [hte] at e
    have hok := hE.ty _ _ hte
    simp only [Option.bind_some] at e
    obtain ⟨hb, e⟩ := bif_some e
    rw [Bool.and_eq_true] at hb
    have hb1 := ble_of hb.1
    have hb2 := ble_of hb.2
    obtain ⟨z, hz, e⟩ := Option.bind_eq_some_iff.1 e
    cases hv : okV te (.im z) with
    | false => rw [hv] at e; cases e
    | true =>
    rw [hv] at e
    simp only [Bool.not_true, cond_false] at e
    have hnle : n * te.size ≤ 16777216 := hb1
    have hn63 : n ≤ LMX := by simp only [LMX]; omega
    split at e
    · rename_i l hf
      have hf : fillD h te.size (reps n z) ps = some l := by
        cases hc : (keep && anyOwn ps) <;> rw [hc] at hf
        · exact hf
        · cases hf
      obtain ⟨ha, e⟩ := bif_some e
      cases e
      obtain ⟨C, O1, k1, k2, k3, k4, k5, k6, k7, k8, k9⟩ := close_sound (ownsP ps) hr ha
      have hshow := close_shows ha k2 k7
      obtain ⟨i, zv, i1, i2, i3, i4, i5, i6⟩ := zero_data hok hz hv C
      have hev : Even te.size (List.replicate n zv.cells.toList) := Even.rep (by simp [i6])
      rw [reps_eq] at hf
      obtain ⟨cs, wss, f1, f2, f3, f4, f5⟩ := fillD_sound hr hshow ps r (fun p hp b hb => ownsP_mem hp hb) hf (rows_rep i5 n) hev (madeCells_rep i6 n)
      have hrun := run_buildSlice_ok (w := w) hk i1 i2 i4 hnle f1
      have hnb := allArr_none hn ha
      have hn2 : hget (close h (ownsP ps)) nid = none := by rw [(k8 nid).2 (fun g s ro l e => by rw [hn] at e; cases e)]; exact hn
      have hll : l.length = n := by rw [f5, List.length_replicate]
      have hcsz : cs.toList.length = n * te.size := by rw [f4, f3.len, (RELs_iff.1 f2).len, hll]
      have hlen := k5
      have hMC : (X.withC C).M nid = none := hM
      have hleC : nid ≤ (close h (ownsP ps)).length := by rw [hlen]; exact hle
      have hnr := NewRow.alloc w cs el
      obtain ⟨X', O', q1, q2, q3, q4, q5⟩ := newData_sound k1 hn2 hMC hleC ((Below.refl B w).alloc hr.wb _) hnr (s := te.size) (cap := n) (l := l) (wss := wss) (rest := []) hcsz hn63 (by omega) (RELs.mono (IV.le.refl _) _ _ _ f2) f3 (by simpa using f4)
      rw [hll] at q3
      exact ⟨_, _, X', O', hrun, q1, (Up.withC _ k2 k4).trans (q2.less (by omega)), q3, by rw [← hlen]; exact q4, (close_FR (w := w) ha (fun b hb => (k8 b).2 hb) (fun b => (k8 b).1) k9).trans q5 (Nat.le_refl _) (by rw [k5]; exact Nat.le_refl _)⟩
    · obtain ⟨l, hf, e⟩ := Option.map_eq_some_iff.1 e
      cases e
      have hplz : te.zero.plain = true := by rw [← data_plain hz]; exact (okV_iff hv).2.2
      obtain ⟨i, i1, i2, i3, i4⟩ := hok.info
      obtain ⟨zv, z1, z2⟩ := i4 _ rfl hplz
      have z3 : VREL X te.zero false zv.cells.toList := VREL.mono (X0_le X) _ _ _ (VREL.low X0_lt _ _ _ (z2.cells hplz)) (z2.cells hplz)
      have hzs : zv.cells.size = te.size := by
        obtain ⟨i', zv', w1, w2, _, w4, _, w6⟩ := zero_data hok hz hv X.C
        rw [i1] at w1; cases w1
        rw [z1] at w4; cases w4
        exact w6
      have hzw : te.zero.wd = te.size := by rw [← z3.wd]; simpa using hzs
      rw [reps_eq] at hf
      obtain ⟨hw1, hw2⟩ := fillAt_wd (sz := te.size) (fun i os e => by cases e; rfl) ps hf (fun v hv => by rw [List.eq_of_mem_replicate hv]; exact hzw)
      have hm := madeCells_rep hzs n
      have hz4 : VREL X (.agg (n * te.size) (List.replicate n te.zero)) false (madeCells zv.cells (n * te.size)).toList := by
        simp only [VREL]
        exact ⟨_, hm, VRELs_iff.2 (All2.rep (R := fun d ws => VREL X d false ws) z3 n), by simp [size_madeCells]⟩
      obtain ⟨cs, f1, f2⟩ := fill_sound ps r hf hz4
      have hrun := run_buildSlice_ok (w := w) hk i1 i2 z1 hnle f1
      simp only [VREL] at f2
      obtain ⟨wss, g1, g2, g3⟩ := f2
      have hev := VRELs_even g2 hw1
      have hll : l.length = n := by rw [hw2, List.length_replicate]
      obtain ⟨X', O', q1, q2, q3, q4, q5⟩ := newVals_sound hr hn hM hle ((Below.refl B w).alloc hr.wb _) (NewRow.alloc w cs el) (s := te.size) (cap := n) (l := l) (wss := wss) (rest := []) g3 hn63 (by omega) g2 hev (by simpa using g1)
      rw [hll] at q3
      exact ⟨_, _, X', O', hrun, q1, q2, q3, q4, q5⟩
  · cases e
end
end Go.As
