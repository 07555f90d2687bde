/-
  AS: composite literals.
-/
import Derived.Test.YtfpkonppeefhfaaGreatDoorA2
import Derived.Deep.AppendSrc
import Derived.Lib.MinMax
set_option linter.unusedSectionVars false
set_option linter.unusedSimpArgs false
set_option linter.unusedVariables false
namespace Go.As
open Go.RowKit (Below)
variable [Gh]
section
variable {P : Program} {B : Nat} {X : Cx} {O : Nat → Addr → Prop} {w : World} {h : Heap} {E : Env}
theorem foldl_put (off : Nat) : ∀ (xs : List Value) (k : Nat) (cs : Array Value), off + k + xs.length ≤ cs.size →
  ((xs.zipIdx k).foldl (fun cs (x : Value × Nat) => cs.setIfInBounds (off + x.2) x.1) cs).toList = cs.toList.take (off + k) ++ (xs ++ cs.toList.drop (off + k + xs.length))
 | [], k, cs, _ => by simp
 | x :: xs, k, cs, hl => by
  simp only [List.length_cons] at hl
  rw [List.zipIdx_cons, List.foldl_cons, foldl_put off xs (k + 1) _ (by simp; omega)]
  dsimp only
  have hk : off + k < cs.toList.length := by simp; omega
  rw [Array.toList_setIfInBounds, List.set_eq_take_append_cons_drop, if_pos hk]
  have h1 : (cs.toList.take (off + k)).length = off + k := by rw [List.length_take]; omega
  rw [show off + (k + 1) = (off + k) + 1 from by omega]
  rw [List.take_append, h1, List.take_of_length_le (by omega), Nat.add_sub_cancel_left, List.take_succ_cons, List.take_zero]
  rw [List.drop_append, h1, List.drop_of_length_le (by rw [h1]; omega), show off + k + 1 + xs.length - (off + k) = xs.length + 1 from by omega, List.drop_succ_cons, List.drop_drop]
  simp only [List.length_cons, List.append_assoc, List.cons_append, List.nil_append]
  congr 4; omega
theorem fill_cons (place : Nat → Option (Nat × Nat)) (cs : Array Value) (i : Nat) (v : Value) (rest : List (Nat × Value)) {off size : Nat} (hp : place i = some (off, size)) (h1 : v.cells.size = size) {pre old post : List Value}
  (hcs : cs.toList = pre ++ (old ++ post)) (hpre : pre.length = off) (hold : old.length = size) :
  ∃ cs' : Array Value, Instr.fill place cs ((i, v) :: rest) = Instr.fill place cs' rest ∧ cs'.toList = pre ++ (v.cells.toList ++ post) := by
 have hsz : cs.size = pre.length + (old.length + post.length) := by rw [← Array.length_toList, hcs]; simp
 refine ⟨_, by rw [Instr.fill, hp]; simp only; rw [if_neg (by rw [Bool.or_eq_true]; simp; omega)], ?_⟩
 rw [← Array.foldl_toList, Array.toList_zipIdx]
 have := foldl_put off v.cells.toList 0 cs (by simp; omega)
 simp only [Nat.add_zero] at this
 rw [this, hcs]
 subst hpre
 simp only [Array.length_toList, h1, ← hold]
 simp
theorem fillAt_cons (place : Nat → Option (Nat × Nat)) (p : Nat × V) (ps : List (Nat × V)) (l : List V) : fillAt l place (p :: ps) = ((place p.1).bind fun os => (lget l p.1).bind fun c =>
  bif Nat.beq (wdsTo l p.1) os.1 && (Nat.beq c.wd os.2 && (Nat.beq p.2.wd os.2 && isPlain p.2)) then fillAt (lset l p.1 p.2) place ps else none) := rfl
theorem isPlain_eq (v : V) : isPlain v = v.plain := by cases v <;> first | rfl | (rename_i d; cases d <;> rfl)
def PartsR (X : Cx) (ps : List (Nat × V)) (qs : List (Nat × Value)) : Prop := All2 (fun p q => p.1 = q.1 ∧ VREL X p.2 true [q.2]) ps qs
theorem fill_sound {X : Cx} {place : Nat → Option (Nat × Nat)} {W : Nat} : ∀ (ps : List (Nat × V)) {qs : List (Nat × Value)} {l l' : List V} {cs : Array Value}, PartsR X ps qs → fillAt l place ps = some l' → VREL X (.agg W l) false cs.toList →
  ∃ cs', Instr.fill place cs qs = some cs' ∧ VREL X (.agg W l') false cs'.toList
 | [], qs, l, l', cs, hq, e, r => by
  cases hq
  simp [fillAt] at e; subst e
  exact ⟨cs, rfl, r⟩
 | p :: ps, qs, l, l', cs, hq, e, r => by
  obtain ⟨q, qs', rfl, ⟨hp, hv⟩, hq'⟩ := hq
  rw [fillAt_cons] at e
  obtain ⟨os, hos, e⟩ := Option.bind_eq_some_iff.1 e
  obtain ⟨c, hc, e⟩ := Option.bind_eq_some_iff.1 e
  obtain ⟨hk, e⟩ := bif_some e
  simp only [Bool.and_eq_true] at hk
  obtain ⟨k1, k2, k3, k4⟩ := hk
  rw [lget_eq] at hc
  rw [isPlain_eq] at k4
  obtain ⟨pre, cc, post, h1, h2, h3, h4⟩ := r.split (beq_of k1) hc
  have hcells := hv.cells k4
  have hsz : q.2.cells.size = os.2 := by have := hcells.wd; simp at this; rw [this]; exact beq_of k3
  have hold : cc.length = os.2 := by rw [h3.wd]; exact beq_of k2
  obtain ⟨cs', f1, f2⟩ := fill_cons place cs q.1 q.2 qs' (by rw [← hp]; exact hos) hsz h1 (by rw [h2]) hold
  have r' := h4 p.2 q.2.cells.toList hcells (by rw [Array.length_toList, hsz, hold])
  rw [← f2, ← lset_eq] at r'
  obtain ⟨cs2, g1, g2⟩ := fill_sound ps hq' e r'
  exact ⟨cs2, by rw [f1]; exact g1, g2⟩
theorem places_mapM {P : Program} : ∀ (fs : List Field), (∀ f ∈ fs, ∃ i, P.info? f.type = some i) → fs.mapM (fun f => (P.info? f.type).map fun i => (f.offset, i.size)) = some (fs.map fun f => (f.offset, P.cellsOf f.type))
 | [], _ => rfl
 | f :: fs, h => by
  obtain ⟨i, hi⟩ := h f (by simp)
  have hc : P.cellsOf f.type = i.size := by simp [Program.cellsOf, hi]
  rw [List.mapM_cons, places_mapM fs (fun g hg => h g (by simp [hg]))]
  simp [hi, hc]
theorem build_sound (hE : EnvTy P E) (hr : HR B X O w h) {t : Nat} {ps : List (Nat × V)} {v : V} {h' : Heap} (e : sBuild E h t ps = some (v, h')) {qs : Array (Nat × Value)} (r : PartsR X ps qs.toList) : OpS P B X O w h (Instr.build t qs) v h' := by
 unfold sBuild at e
 cases ht : E.ty t with
 | none => rw [ht] at e; cases e
 | some ti =>
 rw [ht] at e
 have hok := hE.ty t ti ht
 have hk := hok.kind
 obtain ⟨i, i1, i2, i3, i4⟩ := hok.info
 simp only [Option.bind_some] at e
 obtain ⟨l, hl, e⟩ := Option.bind_eq_some_iff.1 e
 have hplain : ti.zero.plain = true := by
  unfold V.kids at hl; split at hl
  ·rename_i hz; rw [hz]; rfl
  ·rename_i hz; rw [hz]; rfl
  ·cases hl
 obtain ⟨z, z1, z2⟩ := i4 _ rfl hplain
 have z3 : VREL X ti.zero false z.cells.toList := VREL.mono (X0_le X) _ _ _ (VREL.low X0_lt _ _ _ (z2.cells hplain)) (z2.cells hplain)
 have z4 := kids_agg hl z3
 split at e
 ·rename_i fs hti
  rw [hti] at hk; simp only [KindOk] at hk
  obtain ⟨fields, u1, u2, u3, _⟩ := hk
  obtain ⟨l', hf, e⟩ := Option.map_eq_some_iff.1 e
  cases e
  have hp := places_mapM (P := P) fields.toList (fun f hf => (u3 f hf).2)
  have hplace : (fun x => ((fields.toList.map fun f => (f.offset, P.cellsOf f.type)).toArray[x]?)) = fun i => (lget fs i).map (fun f => (f.1, f.2.1)) := by
   funext x
   rw [lget_eq, ← u2]
   simp [List.getElem?_map]
   cases fields[x]? <;> rfl
  rw [← hplace] at hf
  obtain ⟨cs', f1, f2⟩ := fill_sound ps r hf z4
  have hb : P.built t qs.toList = some cs' := by
   simp only [Program.built, i1, u1, z1, hp]
   exact f1
  refine .same hr (run_build w t qs cs' hb) ?_
  have hw : VREL X (.agg ti.zero.wd l') true [.agg cs'] := by
   simp only [VREL] at f2 ⊢
   obtain ⟨wss, h1, h2, h3⟩ := f2
   exact ⟨cs', wss, rfl, h1, h2, by simpa using h3⟩
  exact VREL_mkAgg hw
 ·rename_i n el hti
  rw [hti] at hk; simp only [KindOk] at hk
  cases hte : E.ty el with
  | none => rw [hte] at e; cases e
  | some te =>
  rw [hte] at e
  obtain ⟨j, j1, j2, _⟩ := (hE.ty _ _ hte).info
  simp only [Option.bind_some] at e
  obtain ⟨l', hf, e⟩ := Option.map_eq_some_iff.1 e
  cases e
  obtain ⟨cs', f1, f2⟩ := fill_sound ps r hf z4
  have hb : P.built t qs.toList = some cs' := by
   simp only [Program.built, i1, hk, z1, j1, j2]
   exact f1
  refine .same hr (run_build w t qs cs' hb) ?_
  have hw : VREL X (.agg ti.zero.wd l') true [.agg cs'] := by
   simp only [VREL] at f2 ⊢
   obtain ⟨wss, h1, h2, h3⟩ := f2
   exact ⟨cs', wss, rfl, h1, h2, by simpa using h3⟩
  exact VREL_mkAgg hw
 ·cases e
theorem Up.withC {C : IV} (n : Nat) (hC : X.C.le C) (hf : ∀ a v, C a = some v → X.C a = none → B ≤ a.block) : Up B X w n (X.withC C) w :=
 ⟨⟨hC, fun _ bi _ e => ⟨bi, e, Nat.le_refl _, fun _ => rfl, fun _ => rfl⟩, fun _ _ e => e⟩, .refl _ _, hf, fun _ _ e _ => e⟩
theorem fillD_cons (h : Heap) (sz : Nat) (p : Nat × V) (ps : List (Nat × V)) (l : List D) : fillD h sz l (p :: ps) = ((p.2.data h).bind fun d => (lget l p.1).bind fun _ => bif Nat.beq d.wd sz && isPlain p.2 then fillD h sz (lset l p.1 d) ps else none) := rfl
theorem ownsP_cons (p : Nat × V) (ps : List (Nat × V)) : ownsP (p :: ps) = (match V.owns p.2 with | [] => ownsP ps | bs => bs ++ ownsP ps) := rfl
theorem ownsP_mem {p : Nat × V} {ps : List (Nat × V)} (hp : p ∈ ps) {b : Nat} (hb : b ∈ V.owns p.2) : b ∈ ownsP ps := by
 induction ps with
 | nil => cases hp
 | cons q ps ih =>
  rw [ownsP_cons]
  rcases List.mem_cons.1 hp with rfl | hp
  ·split
   ·rename_i h; rw [h] at hb; cases hb
   ·exact List.mem_append_left _ hb
  ·split
   ·exact ih hp
   ·exact List.mem_append_right _ (ih hp)
theorem fillD_sound {C : IV} {S : Nat → Prop} (hr : HR B X O w h) (hS : Shows X w h C S) {sz : Nat} : ∀ (ps : List (Nat × V)) {qs : List (Nat × Value)} {l l' : List D} {cs : Array Value} {wss : List (List Value)}, PartsR X ps qs → (∀ p ∈ ps, ∀ b ∈ p.2.owns, S b) → fillD h sz l ps = some l' →
  RELs C l false wss → Even sz wss → cs.toList = wss.flatten →
  ∃ cs' wss', Instr.fill (fun i => some (i * sz, sz)) cs qs = some cs' ∧ RELs C l' false wss' ∧ Even sz wss' ∧ cs'.toList = wss'.flatten ∧ l'.length = l.length
 | [], qs, l, l', cs, wss, hq, _, e, r, ev, hc => by
  cases hq
  simp [fillD] at e; subst e
  exact ⟨cs, wss, rfl, r, ev, hc, rfl⟩
 | p :: ps, qs, l, l', cs, wss, hq, hs, e, r, ev, hc => by
  obtain ⟨q, qs', rfl, ⟨hp, hv⟩, hq'⟩ := hq
  rw [fillD_cons] at e
  obtain ⟨d, hd, e⟩ := Option.bind_eq_some_iff.1 e
  obtain ⟨c, hcc, e⟩ := Option.bind_eq_some_iff.1 e
  obtain ⟨hk, e⟩ := bif_some e
  rw [lget_eq] at hcc
  rw [lset_eq] at e
  obtain ⟨ws, ew, _⟩ := r.at hcc
  have hd1 : REL C d true [q.2] := data_sound hr hS hd (hs p (by simp)) hv
  simp only [Bool.and_eq_true] at hk
  obtain ⟨hk, hpl⟩ := hk
  rw [isPlain_eq] at hpl
  have hplD : (V.im d).plain = true := by rw [data_plain hd]; exact hpl
  have hcells : REL C d false q.2.cells.toList := VREL.cells (X := ⟨C, fun _ => none, fun _ => none⟩) (v := .im d) hplD hd1
  have hsz : q.2.cells.size = sz := by have := hcells.wd; simp at this; rw [this]; exact beq_of hk
  have hwl : ws.length = sz := ev ws (List.mem_of_getElem? ew)
  have hlen : (wss.flatten.take (p.1 * sz)).length = p.1 * sz := by
   have h1 : p.1 < wss.length := (List.getElem?_eq_some_iff.1 ew).1
   have h2 : (p.1 + 1) * sz ≤ wss.length * sz := Nat.mul_le_mul_right _ h1
   rw [List.length_take, ev.len, Nat.min_eq_left]
   rw [Nat.add_mul] at h2; omega
  obtain ⟨cs', f1, f2⟩ := fill_cons (fun i => some (i * sz, sz)) cs q.1 q.2 qs' (off := p.1 * sz) (size := sz) (by rw [← hp]) hsz (pre := wss.flatten.take (p.1 * sz)) (old := ws) (post := wss.flatten.drop (p.1 * sz + sz)) (by rw [hc]; exact flatten_at ev ew) hlen hwl
  have hnl : q.2.cells.toList.length = sz := by simp [hsz]
  rw [← flatten_put ev ew hnl] at f2
  obtain ⟨cs2, wss2, g1, g2, g3, g4, g5⟩ := fillD_sound hr hS ps hq' (fun x hx => hs x (by simp [hx])) e (RELs_iff.2 ((RELs_iff.1 r).set hcells)) (ev.set hnl) f2
  exact ⟨cs2, wss2, by rw [f1]; exact g1, g2, g3, g4, by rw [g5, List.length_set]⟩
theorem fillAt_wd {sz : Nat} {place : Nat → Option (Nat × Nat)} (hpl : ∀ i os, place i = some os → os.2 = sz) : ∀ (ps : List (Nat × V)) {l l' : List V}, fillAt l place ps = some l' → (∀ v ∈ l, v.wd = sz) → (∀ v ∈ l', v.wd = sz) ∧ l'.length = l.length
 | [], l, l', e, h => by simp [fillAt] at e; subst e; exact ⟨h, rfl⟩
 | p :: ps, l, l', e, h => by
  rw [fillAt_cons] at e
  obtain ⟨os, hos, e⟩ := Option.bind_eq_some_iff.1 e
  obtain ⟨c, hc, e⟩ := Option.bind_eq_some_iff.1 e
  obtain ⟨hk, e⟩ := bif_some e
  simp only [Bool.and_eq_true] at hk
  rw [lset_eq] at e
  obtain ⟨h1, h2⟩ := fillAt_wd hpl ps e (fun v hv => by
   rcases List.mem_or_eq_of_mem_set hv with hv | rfl
   ·exact h v hv
   ·rw [beq_of hk.2.2.1]; exact hpl _ _ hos)
  exact ⟨h1, by rw [h2, List.length_set]⟩
theorem VRELs_even {X : Cx} {sz : Nat} {l : List V} {wss : List (List Value)} (h : VRELs X l false wss) (hl : ∀ v ∈ l, v.wd = sz) : Even sz wss := by
 induction l generalizing wss with
 | nil => simp only [VRELs] at h; subst h; exact fun _ h => by cases h
 | cons v l ih =>
  simp only [VRELs] at h
  obtain ⟨ws, r, rfl, h1, h2⟩ := h
  intro x hx
  rcases List.mem_cons.1 hx with rfl | hx
  ·rw [h1.wd]; exact hl v (by simp)
  ·exact ih h2 (fun u hu => hl u (by simp [hu])) x hx
theorem allArr_none {n : Nat} (hn : hget h n = none) {bs : List Nat} (ha : allArr h bs = true) : n ∉ bs := fun hb => by
 obtain ⟨g, s, ro, l, e⟩ := allArr_mem ha n hb
 rw [hn] at e; cases e
theorem run_buildSlice_ok {t el n size : Nat} (hu : P.underlying t = some (.slice el)) {i : TypeInfo} (hi : P.info? el = some i) (hs : i.size = size) {z : Value} (hz : i.zero = some z) (hb : n * size ≤ 16777216) {qs : Array (Nat × Value)} {cs : Array Value}
  (hf : Instr.fill (fun i => some (i * size, size)) (madeCells z.cells (n * size)) qs.toList = some cs) :
  (Instr.buildSlice t n qs).run P w = .ok (.slice (some ⟨w.heap.size, 0, none⟩) n n) (w.alloc (.cells cs el)) := by
 subst hs
 have hb' : ¬ (16777216 < n * i.size) := by omega
 by_cases h0 : n * i.size = 0
 ·rw [h0] at hf
  have hm : ∀ z, madeCells z 0 = #[] := fun z => by simp [madeCells]
  rw [hm] at hf
  have hr0 : Array.range 0 = (#[] : Array Nat) := rfl
  simp [Instr.buildSlice, run_underlying hu, sizeOf, typeInfo, hi, h0, hr0, hf, newRow, newObj, Sem.run]
 ·unfold madeCells at hf
  simp [Instr.buildSlice, run_underlying hu, sizeOf, typeInfo, zeroValue, hi, hz, h0, hb', hf, newRow, newObj, Sem.run]
theorem buildSlice_sound (hE : EnvTy P E) (hr : HR B X O w h) {keep : Bool} {nid t n : Nat} (hn : hget h nid = none) (hM : X.M nid = none) (hle : nid ≤ h.length) {ps : List (Nat × V)} {v : V} {h' : Heap} (e : sBuildSlice E keep nid h t n ps = some (v, h')) {qs : Array (Nat × Value)} (r : PartsR X ps qs.toList) :
  OpS P B X O w h (Instr.buildSlice t n qs) v h' := by
 unfold sBuildSlice at e
 cases ht : E.ty t with
 | none => rw [ht] at e; cases e
 | some ti =>
 rw [ht] at e
 have hk := (hE.ty t ti ht).kind
 simp only [Option.bind_some] at e
 split at e
 ·rename_i el hti
  rw [hti] at hk; simp only [KindOk] at hk
  cases hte : E.ty el with
  | none => rw [hte] at e; cases e
  | some te =>
  rw [hte] at e
  have hok := hE.ty _ _ hte
  simp only [Option.bind_some] at e
  obtain ⟨hb, e⟩ := bif_some e
  rw [Bool.and_eq_true] at hb
  have hb1 := ble_of hb.1
  have hb2 := ble_of hb.2
  obtain ⟨z, hz, e⟩ := Option.bind_eq_some_iff.1 e
  cases hv : okV te (.im z) with
  | false => rw [hv] at e; cases e
  | true =>
  rw [hv] at e
  simp only [Bool.not_true, cond_false] at e
  have hnle : n * te.size ≤ 16777216 := hb1
  have hn63 : n ≤ LMX := by simp only [LMX]; omega
  split at e
  ·rename_i l hf
   have hf : fillD h te.size (reps n z) ps = some l := by
    cases hc : (keep && anyOwn ps) <;> rw [hc] at hf
    ·exact hf
    ·cases hf
   obtain ⟨ha, e⟩ := bif_some e
   cases e
   obtain ⟨C, O1, k1, k2, k3, k4, k5, k6, k7, k8, k9⟩ := close_sound (ownsP ps) hr ha
   have hshow := close_shows ha k2 k7
   obtain ⟨i, zv, i1, i2, i3, i4, i5, i6⟩ := zero_data hok hz hv C
   have hev : Even te.size (List.replicate n zv.cells.toList) := Even.rep (by simp [i6])
   rw [reps_eq] at hf
   obtain ⟨cs, wss, f1, f2, f3, f4, f5⟩ := fillD_sound hr hshow ps r (fun p hp b hb => ownsP_mem hp hb) hf (rows_rep i5 n) hev (madeCells_rep i6 n)
   have hrun := run_buildSlice_ok (w := w) hk i1 i2 i4 hnle f1
   have hnb := allArr_none hn ha
   have hn2 : hget (close h (ownsP ps)) nid = none := by rw [(k8 nid).2 (fun g s ro l e => by rw [hn] at e; cases e)]; exact hn
   have hll : l.length = n := by rw [f5, List.length_replicate]
   have hcsz : cs.toList.length = n * te.size := by rw [f4, f3.len, (RELs_iff.1 f2).len, hll]
   have hlen := k5
   have hMC : (X.withC C).M nid = none := hM
   have hleC : nid ≤ (close h (ownsP ps)).length := by rw [hlen]; exact hle
   have hnr := NewRow.alloc w cs el
   obtain ⟨X', O', q1, q2, q3, q4, q5⟩ := newData_sound k1 hn2 hMC hleC ((Below.refl B w).alloc hr.wb _) hnr (s := te.size) (cap := n) (l := l) (wss := wss) (rest := []) hcsz hn63 (by omega) (RELs.mono (IV.le.refl _) _ _ _ f2) f3 (by simpa using f4)
   rw [hll] at q3
   exact ⟨_, _, X', O', hrun, q1, (Up.withC _ k2 k4).trans (q2.less (by omega)), q3, by rw [← hlen]; exact q4, (close_FR (w := w) ha (fun b hb => (k8 b).2 hb) (fun b => (k8 b).1) k9).trans q5 (Nat.le_refl _) (by rw [k5]; exact Nat.le_refl _)⟩
  ·obtain ⟨l, hf, e⟩ := Option.map_eq_some_iff.1 e
   cases e
   have hplz : te.zero.plain = true := by rw [← data_plain hz]; exact (okV_iff hv).2.2
   obtain ⟨i, i1, i2, i3, i4⟩ := hok.info
   obtain ⟨zv, z1, z2⟩ := i4 _ rfl hplz
   have z3 : VREL X te.zero false zv.cells.toList := VREL.mono (X0_le X) _ _ _ (VREL.low X0_lt _ _ _ (z2.cells hplz)) (z2.cells hplz)
   have hzs : zv.cells.size = te.size := by
    obtain ⟨i', zv', w1, w2, _, w4, _, w6⟩ := zero_data hok hz hv X.C
    rw [i1] at w1; cases w1
    rw [z1] at w4; cases w4
    exact w6
   have hzw : te.zero.wd = te.size := by rw [← z3.wd]; simpa using hzs
   rw [reps_eq] at hf
   obtain ⟨hw1, hw2⟩ := fillAt_wd (sz := te.size) (fun i os e => by cases e; rfl) ps hf (fun v hv => by rw [List.eq_of_mem_replicate hv]; exact hzw)
   have hm := madeCells_rep hzs n
   have hz4 : VREL X (.agg (n * te.size) (List.replicate n te.zero)) false (madeCells zv.cells (n * te.size)).toList := by
    simp only [VREL]
    exact ⟨_, hm, VRELs_iff.2 (All2.rep (R := fun d ws => VREL X d false ws) z3 n), by simp [size_madeCells]⟩
   obtain ⟨cs, f1, f2⟩ := fill_sound ps r hf hz4
   have hrun := run_buildSlice_ok (w := w) hk i1 i2 z1 hnle f1
   simp only [VREL] at f2
   obtain ⟨wss, g1, g2, g3⟩ := f2
   have hev := VRELs_even g2 hw1
   have hll : l.length = n := by rw [hw2, List.length_replicate]
   obtain ⟨X', O', q1, q2, q3, q4, q5⟩ := newVals_sound hr hn hM hle ((Below.refl B w).alloc hr.wb _) (NewRow.alloc w cs el) (s := te.size) (cap := n) (l := l) (wss := wss) (rest := []) g3 hn63 (by omega) g2 hev (by simpa using g1)
   rw [hll] at q3
   exact ⟨_, _, X', O', hrun, q1, q2, q3, q4, q5⟩
 ·cases e
end
end Go.As
/-
 AS: maps; type assertions.
-/
namespace Go.As
open Go.RowKit (Below)
variable [Gh]
section
variable {P : Program} {B : Nat} {X : Cx} {O : Nat → Addr → Prop} {w : World} {h : Heap} {E : Env}
def objW (w : World) (r : Nat) (o : Obj) : World := { w with heap := w.heap.setIfInBounds r o }
theorem objW_size (w : World) (r : Nat) (o : Obj) : (objW w r o).heap.size = w.heap.size := by simp [objW]
theorem objW_other (w : World) {r g : Nat} (o : Obj) (hg : g ≠ r) : (objW w r o).heap[g]? = w.heap[g]? := by
 simp [objW, Ne.symm hg]
theorem objW_same {w : World} {r : Nat} {o o' : Obj} (h : w.heap[r]? = some o') : (objW w r o).heap[r]? = some o := by
 have hr : r < w.heap.size := (Array.getElem?_eq_some_iff.1 h).1
 simp [objW, hr]
theorem objW_cell {w : World} {r : Nat} {o o' : Obj} (h : w.heap[r]? = some o') (h1 : o'.isCells = false) (h2 : o.isCells = false) (a : Addr) : (objW w r o).cell? a = w.cell? a := by
 by_cases ha : a.block = r
 ·have e1 : (objW w r o).heap[a.block]? = some o := by rw [ha]; exact objW_same h
  have e2 : w.heap[a.block]? = some o' := by rw [ha]; exact h
  unfold World.cell?
  rw [e1, e2]
  cases o <;> simp [Obj.isCells] at h2 <;> cases o' <;> simp [Obj.isCells] at h1 <;> simp
 ·exact World.cell?_of_block (w := w) (objW_other w o ha)
theorem objW_frozen {w : World} {r : Nat} {o o' : Obj} (h : w.heap[r]? = some o') (h1 : o'.isCells = false) (h2 : o.isCells = false) (a : Addr) : (objW w r o).frozen? a = w.frozen? a := by
 by_cases ha : a.block = r
 ·have e1 : (objW w r o).heap[a.block]? = some o := by rw [ha]; exact objW_same h
  have e2 : w.heap[a.block]? = some o' := by rw [ha]; exact h
  unfold World.frozen?
  rw [e1, e2]
  cases o <;> simp [Obj.isCells] at h2 <;> cases o' <;> simp [Obj.isCells] at h1 <;> simp
 ·exact World.frozen?_of_block (w := w) (objW_other w o ha)
theorem objW_below {B r : Nat} (w : World) (o : Obj) (hB : B ≤ r) : Below B w (objW w r o) :=
 ⟨rfl, rfl, rfl, by simp [objW], fun k hk => objW_other w o (by omega)⟩
theorem Owns.obj {w : World} {r : Nat} {o o' : Obj} (h : w.heap[r]? = some o') (h1 : o'.isCells = false) (h2 : o.isCells = false) {Q : Addr → Prop} {a : Addr} {i n : Nat} (ho : Owns w Q a i n) : Owns (objW w r o) Q a i n := fun j e1 e2 => by
 obtain ⟨q, ⟨v, e⟩, f⟩ := ho j e1 e2
 exact ⟨q, ⟨v, by rw [objW_cell h h1 h2]; exact e⟩, by rw [objW_frozen h h1 h2]; exact f⟩
theorem cellsAt.obj {w : World} {r : Nat} {o o' : Obj} (h : w.heap[r]? = some o') (h1 : o'.isCells = false) (h2 : o.isCells = false) {a : Addr} {vs : List Value} (hc : cellsAt w.cell? a vs) : cellsAt (objW w r o).cell? a vs := fun j v e => by
 rw [objW_cell h h1 h2]; exact hc j v e
theorem BR.obj {Q : Addr → Prop} {c : Nat} {k : Blk} (hb : BR X w Q c k) {r : Nat} {o o' : Obj} (h : w.heap[r]? = some o') (h1 : o'.isCells = false) (h2 : o.isCells = false) (hQ : ¬ Q ⟨r, 0, none⟩) : BR X (objW w r o) Q c k := by
 cases k with
 | cell v =>
  obtain ⟨bi, a0, ws, e1, e2, e3, e4, e5, e6, e7, e8⟩ := hb
  exact ⟨bi, a0, ws, e1, e2, e3, e4, e5, e6, e7.obj h h1 h2, e8.obj h h1 h2⟩
 | arr g s ro l =>
  obtain ⟨bi, e1, e2, e3, e4, e5, e6⟩ := hb
  refine ⟨bi, e1, e2, e3, e4, e5, e6.imp id ?_⟩
  rintro ⟨e, a0, wss, e7, e8, e9, e10, e11, e12, e13⟩
  exact ⟨e, a0, wss, e7, e8, e9, e10, e11.obj h h1 h2, e12, e13.obj h h1 h2⟩
 | arv g s l =>
  obtain ⟨bi, e1, e2, e3, e4, e5, e6⟩ := hb
  refine ⟨bi, e1, e2, e3, e4, e5, e6.imp id ?_⟩
  rintro ⟨e, a0, wss, e7, e8, e9, e10, e11, e12⟩
  exact ⟨e, a0, wss, e7, e8, e9, e10, e11.obj h h1 h2, e12.obj h h1 h2⟩
 | mp es s c =>
  obtain ⟨bi, r', ms, ck, e1, e2, e3, e4, e5, e6, e7⟩ := hb
  refine ⟨bi, r', ms, ck, e1, e2, e3, e4, ?_, e6, e7⟩
  rw [objW_other w o (fun e => hQ (by rw [← e]; exact e6))]; exact e5
 | bld T e s =>
  obtain ⟨bi, r', e1, e2, e3, e4, e5⟩ := hb
  exact ⟨bi, r', e1, e2, e3, e4, e5.kept (fun g hg _ => objW_other w o (fun e => hQ (hg _ e.symm))) (fun _ q => q)⟩
 | lp f t ps asg body =>
  obtain ⟨bi, l, r', e1, e2, e3, e4, e5, e6, e7⟩ := hb
  refine ⟨bi, l, r', e1, e2, e3, e4, ?_, e6, e7⟩
  rw [objW_other w o (fun e => hQ (by rw [← e]; exact e6))]; exact e5
 | it v a s l =>
  obtain ⟨bi, r', m, e1, e2, e3, e4, e5, e6, e7⟩ := hb
  refine ⟨bi, r', m, e1, e2, e3, e4, ?_, e6, e7⟩
  rw [objW_other w o (fun e => hQ (by rw [← e]; exact e6))]; exact e5
theorem HR.obj (hr : HR B X O w h) {r : Nat} {o o' : Obj} (hb : w.heap[r]? = some o') (h1 : o'.isCells = false) (h2 : o.isCells = false) (hno : ∀ b k, hget h b = some k → ¬ O b ⟨r, 0, none⟩) : HR B X O (objW w r o) h :=
 ⟨fun b k e => (hr.blk b k e).obj hb h1 h2 (hno b k e), fun b a o => by rw [objW_size]; exact hr.own b a o, hr.dis, hr.lt, fun a v e => by rw [objW_cell hb h1 h2]; exact hr.ci a v e, by rw [objW_size]; exact hr.wb⟩
theorem setMap_sound (hr : HR B X O w h) {b r : Nat} {es es' : List (D × V)} {s s' : List Nat} {c c' : Nat} {bi : BI} {ms ms' : Array MapEntry} {ck ck' : Nat} (hb : hget h b = some (.mp es s c)) (hM : X.M b = some bi) (hg : bi.g = 0) (hf : bi.fix = true) (hbase : bi.base = some ⟨r, 0, none⟩)
  (ho : w.heap[r]? = some (.map ms ck)) (hO : O b ⟨r, 0, none⟩) (he : ENTS X es' s' c' ms'.toList ck') :
  HR B X O (objW w r (.map ms' ck')) (hput h b (.mp es' s' c')) ∧ Up B X w h.length X (objW w r (.map ms' ck')) ∧ h.length ≤ (hput h b (.mp es' s' c')).length ∧ FR X O w h X O (objW w r (.map ms' ck')) (hput h b (.mp es' s' c')) := by
 have hbl := hget_lt hb
 have hle := Nat.le_of_lt hbl
 have hne : ∀ c, c ≠ b → ¬ O c ⟨r, 0, none⟩ := fun c hc o => hc (hr.dis c b _ o hO)
 have hcell := objW_cell ho rfl (o := .map ms' ck') rfl
 refine ⟨⟨fun c k e => ?_, fun c a o => ?_, hr.dis, fun c bj e => ?_, fun a v e => ?_, ?_⟩, ⟨.refl _ _, objW_below w _ (hr.own b _ hO).1, fun a v e hn => (by rw [hn] at e; cases e), fun r' o e l => ?_⟩, ?_, ⟨fun c bj e hn => ?_, fun _ _ e _ => e, fun _ _ _ _ _ o => o, fun c bj e hn a o v ev => ?_, fun c bj e hn a o ob eo _ => ?_, fun c bj e hn g hg _ => ?_, fun c e => ?_, fun _ _ e _ => e⟩⟩
 ·rw [hget_hput h b c _ hle] at e
  by_cases hc : c = b
  ·subst hc
   simp only [if_true] at e; cases e
   exact ⟨bi, r, ms', ck', hM, hg, hf, hbase, objW_same ho, hO, he⟩
  ·simp only [if_neg hc] at e
   exact (hr.blk c k e).obj ho rfl rfl (hne c hc)
 ·rw [objW_size]; exact hr.own c a o
 ·rw [hput_len, if_pos hbl]; exact hr.lt c bj e
 ·rw [hcell]; exact hr.ci a v e
 ·rw [objW_size]; exact hr.wb
 ·rw [objW_other w _ (fun e2 => by subst e2; rw [ho] at e; cases e; cases l)]; exact e
 ·rw [hput_len, if_pos hbl]; exact Nat.le_refl _
 ·rw [hget_hput h b c _ hle, if_neg (fun hc => by subst hc; rw [hb] at hn; cases hn)]; exact hn
 ·exact ⟨by rw [hcell]; exact ev, objW_frozen ho rfl rfl a⟩
 ·have hc : c ≠ b := fun hc => by subst hc; rw [hb] at hn; cases hn
  rw [objW_other w _ (fun e => hne c hc (by rw [← e]; exact o))]; exact eo
 ·have hc : c ≠ b := fun hc => by subst hc; rw [hb] at hn; cases hn
  exact objW_other w _ (fun e => hne c hc (hg _ e.symm))
 ·rw [hget_hput h b c _ hle] at e
  split at e
  ·cases e
  ·exact e
theorem makeMap_sound (hE : EnvTy P E) (hr : HR B X O w h) {n t : Nat} (hn : hget h n = none) (hM : X.M n = none) (hle : n ≤ h.length) {r : Option V} {v : V} {h' : Heap} (e : sMakeMap E n h t r = some (v, h')) {vr : Option Value} (rr : OptR X r vr) :
  OpS P B X O w h (Instr.makeMap t vr) v h' := by
 unfold sMakeMap Env.kind at e
 cases ht : E.ty t with
 | none => rw [ht] at e; cases e
 | some ti =>
 rw [ht] at e
 have hk := (hE.ty t ti ht).kind
 simp only [Option.map_some] at e
 split at e
 ·rename_i kt et hti
  cases hti' : ti.k <;> rw [hti'] at hti <;> cases hti
  rw [hti'] at hk; simp only [KindOk] at hk
  have key : v = .mp n ∧ h' = hput h n (.mp [] [] 0) ∧ (Instr.makeMap t vr).run P w = .ok (.map (some w.heap.size)) (w.alloc (.map #[] 0)) := by
   split at e
   ·cases e
    cases vr with
    | none => exact ⟨rfl, rfl, by simp [Instr.makeMap, newObj, Sem.run]⟩
    | some x => exact absurd rr (by simp [OptR])
   ·rename_i k m
    cases e
    cases vr with
    | none => exact absurd rr (by simp [OptR])
    | some x =>
     simp only [OptR, VREL, REL] at rr
     obtain ⟨rr, _⟩ := rr; cases rr
     refine ⟨rfl, rfl, ?_⟩
     simp [Instr.makeMap, run_underlying hk, asInt, asIntOf, newObj, Sem.run]
   ·cases e
  obtain ⟨rfl, rfl, hrun⟩ := key
  let bi : BI := ⟨0, some ⟨w.heap.size, 0, none⟩, 0, 1, true⟩
  let On : Addr → Prop := fun a => a = ⟨w.heap.size, 0, none⟩
  have hbr : BR (X.withM n bi) (w.alloc (.map #[] 0)) On n (.mp [] [] 0) := ⟨bi, w.heap.size, #[], 0, Cx.withM_same _ _ _, rfl, rfl, rfl, heap_alloc_new w _, rfl, ⟨by simp [ENT], rfl, rfl⟩⟩
  refine ⟨_, _, X.withM n bi, _, hrun, hr.add hn hM hle (.alloc _ _) (by simp) bi On (.mp [] [] 0) (fun a ea => ?_) hbr, Up.add hM ((Below.refl B w).alloc hr.wb _) (.alloc _ _) _ bi, ?_, ?_, .add hM hle (.alloc _ _) bi On _⟩
  ·subst ea; simp
  ·simp only [VREL]
   exact ⟨w.heap.size, bi, rfl, Cx.withM_same _ _ _, rfl, rfl⟩
  ·rw [hput_len]; split <;> omega
 ·cases e
theorem okKey_sound (hE : EnvTy P E) {kt : Nat} {kd : D} (hk : okKey E kt kd = true) {C : IV} {vk : Value} (r : REL C kd true [vk]) :
  (∃ k n, P.underlying kt = some (.int k) ∧ kd = .int k n ∧ vk = .int k n) ∨ (∃ s b, P.underlying kt = some .string ∧ kd = .str s ∧ vk = .string b ∧ bytesL b = s) ∨ (∃ b, P.underlying kt = some .bool ∧ kd = .bool b ∧ vk = .bool b) := by
 unfold okKey Env.kind at hk
 cases ht : E.ty kt with
 | none => rw [ht] at hk; cases hk
 | some ti =>
  rw [ht] at hk
  have hkk := (hE.ty kt ti ht).kind
  simp only [Option.map_some] at hk
  cases hti : ti.k <;> rw [hti] at hk hkk <;> cases kd <;> simp only [KindOk] at hkk <;> try (simp at hk; done)
  ·rename_i b
   simp only [REL] at r; cases r
   exact .inr (.inr ⟨b, hkk, rfl, rfl⟩)
  ·rename_i k k' n
   have := keq_iff hk; subst this
   simp only [REL] at r
   obtain ⟨r, _⟩ := r; cases r
   exact .inl ⟨k, n, hkk, rfl, rfl⟩
  ·rename_i s
   simp only [REL] at r
   obtain ⟨b, r, hb, _⟩ := r; cases r
   exact .inr (.inl ⟨s, b, hkk, rfl, rfl, hb⟩)
theorem checkKey_ok {kt : Nat} {vk : Value} {d : TypeDesc} (hu : P.underlying kt = some d) (hd : (∃ k, d = .int k) ∨ d = .string ∨ d = .bool) (b : Bool) : (Instr.checkKey b 10000 kt vk).run P w = .ok () w := by
 rw [show (10000 : Nat) = 9999 + 1 from rfl]
 unfold Instr.checkKey
 simp only [Sem.run_bind, run_underlying hu, Result.andThen_ok]
 rcases hd with ⟨k, rfl⟩ | rfl | rfl <;> rfl
theorem bytes_beq_seq (a b : ByteArray) : (a == b) = seq (bytesL a) (bytesL b) := by
 rw [beq_toListBytes, Bool.eq_iff_iff, seq_iff, beq_iff_eq, toList_eq, toList_eq]
 constructor
 ·intro h; unfold bytesL; rw [h]
 ·intro h; rw [bytesL_inj h]
theorem keyEq_now (hE : EnvTy P E) {kt : Nat} {kd : D} (hk : okKey E kt kd = true) {C : IV} {vk : Value} (r : REL C kd true [vk]) {e : D} {b : Bool} (he : keyEq kd e = some b) {ve : Value} (re : REL C e true [ve]) :
  ∃ d, P.underlying kt = some d ∧ ((∃ k, d = .int k) ∨ d = .string ∨ d = .bool) ∧ Instr.sameNow d vk ve = some b ∧ (b = true → Instr.sameBits 10000 ve vk = true) := by
 rcases okKey_sound hE hk r with ⟨k, n, h1, rfl, rfl⟩ | ⟨s, bs, h1, rfl, rfl, h2⟩ | ⟨x, h1, rfl, rfl⟩
 ·cases e <;> simp only [keyEq] at he <;> try contradiction
  rename_i k' n'
  obtain ⟨hq, he2⟩ := bif_some he
  clear he
  have hq := keq_iff hq; subst hq
  simp only [REL] at re
  obtain ⟨re, _⟩ := re; cases re
  have he3 : b = ieq n n' := (Option.some.inj he2).symm
  subst he3
  refine ⟨_, h1, .inl ⟨_, rfl⟩, ?_, fun hb => ?_⟩
  ·simp [Instr.sameNow, ieq_eq]; by_cases h : n = n' <;> simp [h]
  ·rw [ieq_eq] at hb; have := of_decide_eq_true hb; subst this
   rw [show (10000 : Nat) = 9999 + 1 from rfl]; simp [Instr.sameBits]
 ·cases e <;> simp only [keyEq] at he <;> try contradiction
  rename_i s'
  cases he
  simp only [REL] at re
  obtain ⟨b', re, h3, _⟩ := re; cases re
  subst h2; subst h3
  refine ⟨_, h1, .inr (.inl rfl), ?_, fun hb => ?_⟩
  ·simp only [Instr.sameNow, bytes_beq_seq]
  ·rw [show (10000 : Nat) = 9999 + 1 from rfl]; simp only [Instr.sameBits, bytes_beq_seq]
   rw [seq_iff] at hb ⊢; exact hb.symm
 ·cases e <;> simp only [keyEq] at he <;> try contradiction
  rename_i y
  simp only [REL] at re; cases re
  cases he
  refine ⟨_, h1, .inr (.inr rfl), ?_, fun hb => ?_⟩
  ·cases x <;> cases y <;> rfl
  ·rw [show (10000 : Nat) = 9999 + 1 from rfl]; cases x <;> cases y <;> simp_all [Instr.sameBits]
theorem findK_cons (k : D) (e : D × V) (es : List (D × V)) : findK k (e :: es) = ((keyEq k e.1).bind fun b => bif b then some 0 else (findK k es).map (· + 1)) := rfl
theorem findNow_sound (hE : EnvTy P E) {kt : Nat} {kd : D} (hk : okKey E kt kd = true) {vk : Value} (r : REL X.C kd true [vk]) {d : TypeDesc} (hd : P.underlying kt = some d) : ∀ {es : List (D × V)} {ms : List MapEntry} {i j : Nat}, ENT X es ms → findK kd es = some i →
  (i < es.length → ∃ m, ms[i]? = some m ∧ Instr.findNow d vk ms j = some (some (j + i, m.val)) ∧ Instr.sameBits 10000 m.key vk = true) ∧ (¬ i < es.length → i = es.length ∧ Instr.findNow d vk ms j = some none)
 | [], ms, i, j, he, hf => by
  simp only [ENT] at he; subst he
  simp [findK] at hf; subst hf
  exact ⟨fun h => absurd h (by simp), fun _ => ⟨rfl, rfl⟩⟩
 | e :: es, ms, i, j, he, hf => by
  simp only [ENT] at he
  obtain ⟨m, r', rfl, h1, h2, h3⟩ := he
  rw [findK_cons] at hf
  obtain ⟨b, hb, hf⟩ := Option.bind_eq_some_iff.1 hf
  obtain ⟨d', hd', _, hs, hbits⟩ := keyEq_now hE hk r hb h1
  rw [hd] at hd'; cases hd'
  cases b with
  | true =>
   simp only [cond_true] at hf; cases hf
   exact ⟨fun _ => ⟨m, rfl, by simp [Instr.findNow, hs], hbits rfl⟩, fun h => absurd (by simp) h⟩
  | false =>
   simp only [cond_false] at hf
   obtain ⟨i', hi', hf⟩ := Option.map_eq_some_iff.1 hf
   subst hf
   obtain ⟨q1, q2⟩ := findNow_sound hE hk r hd (j := j + 1) h3 hi'
   refine ⟨fun hlt => ?_, fun hge => ?_⟩
   ·obtain ⟨m', e1, e2, e3⟩ := q1 (by simpa using hlt)
    refine ⟨m', by simpa using e1, ?_, e3⟩
    simp only [Instr.findNow, hs]
    rw [e2, show j + 1 + i' = j + (i' + 1) from by omega]
   ·obtain ⟨e1, e2⟩ := q2 (fun h => hge (by simpa using h))
    exact ⟨by simp [e1], by simp only [Instr.findNow, hs]; exact e2⟩
theorem run_findKey {kt : Nat} {d : TypeDesc} (hd : P.underlying kt = some d) {vk : Value} {ms : List MapEntry} {x : Option (Nat × Value)} (hf : Instr.findNow d vk ms 0 = some x) : (Instr.findKey kt vk ms).run P w = .ok x w := by
 simp [Instr.findKey, run_underlying hd, hf]
theorem run_getObj {r : Nat} {o : Obj} (h : w.heap[r]? = some o) (ho : o.isCells = false) : (getObj r).run P w = .ok o w := by
 cases o <;> simp [Obj.isCells] at ho <;> simp [getObj, Sem.run, h]
theorem run_setObj {r : Nat} {o o' : Obj} (h : w.heap[r]? = some o') (ho : o'.isCells = false) : (setObj r o).run P w = .ok () (objW w r o) := by
 cases o' <;> simp [Obj.isCells] at ho <;> simp [setObj, Sem.run, h, objW]
theorem zero_val (hE : EnvTy P E) {t : Nat} {ti : TI} (ht : E.ty t = some ti) (hp : isPlain ti.zero = true) : ∃ z, (zeroValue t).run P w = .ok z w ∧ VREL X ti.zero true [z] := by
 obtain ⟨i, i1, _, _, i4⟩ := (hE.ty t ti ht).info
 rw [isPlain_eq] at hp
 obtain ⟨z, z1, z2⟩ := i4 _ rfl hp
 exact ⟨z, by simp [zeroValue, typeInfo, i1, z1], VREL.mono (X0_le X) _ _ _ (VREL.low X0_lt _ _ _ z2) z2⟩
theorem tup2 {v : V} {x : Value} (r : VREL X v true [x]) (b : Bool) : VREL X (.tup [v, .im (.bool b)]) true [.tuple #[x, .bool b]] := by
 simp only [VREL, VRELs, REL]
 exact ⟨_, [[x], [.bool b]], rfl, ⟨_, _, rfl, r, _, _, rfl, rfl, rfl⟩, rfl⟩
theorem entries_sound (hr : HR B X O w h) {m : V} {es : List (D × V)} (he : entries h m = some es) {vm : Value} (rm : VREL X m true [vm]) :
  (vm = .map none ∧ es = []) ∨ ∃ b r ms ck bi s, m = .mp b ∧ vm = .map (some r) ∧ hget h b = some (.mp es s ck) ∧ X.M b = some bi ∧ bi.g = 0 ∧ bi.fix = true ∧ bi.base = some ⟨r, 0, none⟩ ∧ w.heap[r]? = some (.map ms ck) ∧ O b ⟨r, 0, none⟩ ∧ ENTS X es s ck ms.toList ck := by
 unfold entries at he
 split at he
 ·cases he
  simp only [VREL, REL] at rm; cases rm
  exact .inl ⟨rfl, rfl⟩
 ·rename_i b
  split at he
  ·rename_i es' hb
   cases he
   obtain ⟨bi, r, ms, ck, h1, h2, h3, h4, h5, h6, h7⟩ := hr.blk b _ hb
   simp only [VREL] at rm
   obtain ⟨r', bj, e, h8, h9, _⟩ := rm
   cases e
   rw [h1] at h8; cases h8
   rw [h4] at h9; cases h9
   have := h7.clk; subst this
   exact .inr ⟨b, r, ms, _, bi, _, rfl, rfl, hb, h1, h2, h3, h4, h5, h6, h7⟩
  ·cases he
 ·cases he
theorem lookup_sound (hE : EnvTy P E) (hr : HR B X O w h) {t : Nat} {m k v : V} {ok : Bool} {h' : Heap} (e : sLookup E h t m k ok = some (v, h')) {vm vk : Value} (rm : VREL X m true [vm]) (rk : VREL X k true [vk]) :
  OpS P B X O w h (Instr.lookup t vm vk ok) v h' := by
 unfold sLookup at e
 split at e
 ·rename_i kt et kd hkind
  obtain ⟨hkey, e⟩ := bif_some e
  obtain ⟨es, hes, e⟩ := Option.bind_eq_some_iff.1 e
  obtain ⟨i, hi, e⟩ := Option.bind_eq_some_iff.1 e
  unfold Env.kind at hkind
  obtain ⟨ti, ht, hti⟩ := Option.map_eq_some_iff.1 hkind
  have hk := (hE.ty t ti ht).kind
  rw [hti] at hk; simp only [KindOk] at hk
  simp only [VREL] at rk
  obtain ⟨d, hd, hdk⟩ : ∃ d, P.underlying kt = some d ∧ ((∃ k, d = .int k) ∨ d = .string ∨ d = .bool) := by
   rcases okKey_sound hE hkey rk with ⟨k, n, h1, _⟩ | ⟨s, bs, h1, _⟩ | ⟨x, h1, _⟩
   ·exact ⟨_, h1, .inl ⟨_, rfl⟩⟩
   ·exact ⟨_, h1, .inr (.inl rfl)⟩
   ·exact ⟨_, h1, .inr (.inr rfl)⟩
  have hck : ∀ b, (Instr.checkKey b 10000 kt vk).run P w = .ok () w := checkKey_ok hd hdk
  obtain ⟨ms, hms, hlk⟩ : ∃ ms : Array MapEntry, ENT X es ms.toList ∧ ∀ x, Instr.findNow d vk ms.toList 0 = some x → (Instr.lookup t vm vk ok).run P w = ((do
    let (v, ok') ← match x with
     | some (_, v) => pure (v, true)
     | none => pure (← zeroValue et, false)
    pure (if ok then .tuple #[v, .bool ok'] else v)) : Sem Value).run P w := by
   rcases entries_sound hr hes rm with ⟨rfl, rfl⟩ | ⟨b, r, ms, ck, bi, _, _, rfl, _, _, _, _, _, ho, _, hent⟩
   ·refine ⟨#[], by simp [ENT], fun x hx => ?_⟩
    have hfk := run_findKey (w := w) hd hx
    cases x <;> simp [Instr.lookup, run_underlying hk, hck, hfk]
   ·refine ⟨ms, hent.ent, fun x hx => ?_⟩
    have hfk := run_findKey (w := w) hd hx
    cases x <;> simp [Instr.lookup, run_underlying hk, run_getObj ho rfl, hck, hfk]
  obtain ⟨q1, q2⟩ := findNow_sound hE hkey rk hd (j := 0) hms hi
  rw [lget_eq] at e
  split at e
  ·rename_i ent hent
   cases e
   have hlt : i < es.length := (List.getElem?_eq_some_iff.1 hent).1
   obtain ⟨m', e1, e2, _⟩ := q1 hlt
   have hv : VREL X ent.2 true [m'.val] := by
    obtain ⟨y, ey, _, hy⟩ := (ENT_iff.1 hms).get hent
    rw [e1] at ey; cases ey; exact hy
   have hrun := hlk _ e2
   cases ok with
   | true => exact .same hr (by rw [hrun]; simp) (tup2 hv true)
   | false => exact .same hr (by rw [hrun]; simp) hv
  ·rename_i hent
   have hge : ¬ i < es.length := fun h => by rw [List.getElem?_eq_getElem h] at hent; cases hent
   obtain ⟨_, e2⟩ := q2 hge
   obtain ⟨te, hte, e⟩ := Option.bind_eq_some_iff.1 e
   obtain ⟨hp, e⟩ := bif_some e
   cases e
   obtain ⟨z, hz, rz⟩ := zero_val (X := X) (w := w) hE hte hp
   have hrun := hlk _ e2
   cases ok with
   | true => exact .same hr (by rw [hrun]; simp [hz]) (tup2 rz false)
   | false => exact .same hr (by rw [hrun]; simp [hz]) rz
 ·cases e
theorem ENT.set {es : List (D × V)} {ms : List MapEntry} (h : ENT X es ms) {i : Nat} {k : D} {v : V} {m : MapEntry} (hk : REL X.C k true [m.key]) (hv : VREL X v true [m.val]) : ENT X (es.set i (k, v)) (ms.set i m) :=
 ENT_iff.2 ((ENT_iff.1 h).set ⟨hk, hv⟩)
theorem modify_set {α : Type} (f : α → α) : ∀ {l : List α} {i : Nat} {x : α}, l[i]? = some x → l.modify i f = l.set i (f x)
 | [], _, _, e => by simp at e
 | a :: l, 0, x, e => by simp at e; subst e; rfl
 | a :: l, i + 1, x, e => by simp only [List.modify_succ_cons, List.set_cons_succ]; rw [modify_set f (by simpa using e)]
theorem born_modify (ms : Array MapEntry) (i : Nat) (k u : Value) : (ms.modify i fun e => { e with key := k, val := u }).toList.map (·.born) = ms.toList.map (·.born) := by
 rw [Array.toList_modify]
 apply List.ext_getElem?
 intro j
 simp only [List.getElem?_map, List.getElem?_modify]
 cases hq : ms.toList[j]? with
 | none => simp
 | some e => by_cases hij : i = j <;> simp [hij]
theorem mapUpdate_sound (hE : EnvTy P E) (hr : HR B X O w h) {t : Nat} {m k u v : V} {h' : Heap} (e : sMapUpdate E h t m k u = some (v, h')) {vm vk vu : Value} (rm : VREL X m true [vm]) (rk : VREL X k true [vk]) (ru : VREL X u true [vu]) :
  v = .undef ∧ OpU P B X O w h (Instr.mapUpdate t vm vk vu) h' := by
 unfold sMapUpdate at e
 split at e
 ·rename_i kt et b kd hkind
  obtain ⟨hkey, e⟩ := bif_some e
  obtain ⟨es, hes, e⟩ := Option.bind_eq_some_iff.1 e
  obtain ⟨i, hi, e⟩ := Option.bind_eq_some_iff.1 e
  obtain ⟨te, hte, e⟩ := Option.bind_eq_some_iff.1 e
  obtain ⟨hok, e⟩ := bif_some e
  unfold Env.kind at hkind
  obtain ⟨ti, ht, hti⟩ := Option.map_eq_some_iff.1 hkind
  have hk := (hE.ty t ti ht).kind
  rw [hti] at hk; simp only [KindOk] at hk
  simp only [VREL] at rk
  obtain ⟨d, hd, hdk⟩ : ∃ d, P.underlying kt = some d ∧ ((∃ k, d = .int k) ∨ d = .string ∨ d = .bool) := by
   rcases okKey_sound hE hkey rk with ⟨k, n, h1, _⟩ | ⟨s, bs, h1, _⟩ | ⟨x, h1, _⟩
   ·exact ⟨_, h1, .inl ⟨_, rfl⟩⟩
   ·exact ⟨_, h1, .inr (.inl rfl)⟩
   ·exact ⟨_, h1, .inr (.inr rfl)⟩
  have hck : ∀ b, (Instr.checkKey b 10000 kt vk).run P w = .ok () w := checkKey_ok hd hdk
  rcases entries_sound hr hes rm with ⟨rfl, _⟩ | ⟨b', r, ms, ck, bi, s, eb, rfl, hb, hM, hg, hf, hbase, ho, hO, hents⟩
  ·simp only [VREL] at rm; obtain ⟨_, _, rm, _⟩ := rm; cases rm
  ·cases eb
   simp only [hb, Option.some.injEq, Prod.mk.injEq] at e
   obtain ⟨rfl, rfl⟩ := e
   refine ⟨rfl, ?_⟩
   have hent := hents.ent
   obtain ⟨q1, q2⟩ := findNow_sound hE hkey rk hd (j := 0) hent hi
   have hlen : ms.toList.length = es.length := (ENT_iff.1 hent).len
   rw [llen_eq]
   by_cases hlt : i < es.length
   ·obtain ⟨me, e1, e2, e3⟩ := q1 hlt
    have hb1 : Nat.blt i es.length = true := by rw [Nat.blt]; exact Nat.ble_eq_true_of_le hlt
    rw [hb1, cond_true, lset_eq]
    have hgd : ((ms[i]?).map (·.key)).getD vk = me.key := by
     have : ms[i]? = some me := by rw [← Array.getElem?_toList]; exact e1
     rw [this]; rfl
    have hkt : (Instr.keyThatStays me.key vk).run P w = .ok vk w := by simp [Instr.keyThatStays, e3]
    have hfk := run_findKey (w := w) hd e2
    rw [Nat.zero_add] at hfk
    have hent2 : ENT X (es.set i (kd, u)) (ms.modify i fun e => { e with key := vk, val := vu }).toList := by
     have : (ms.modify i fun e => { e with key := vk, val := vu }).toList = ms.toList.set i { me with key := vk, val := vu } := by
      rw [Array.toList_modify]; exact modify_set _ e1
     rw [this]
     exact hent.set rk ru
    obtain ⟨s1, s2, s3, s4⟩ := setMap_sound (ck' := ck) (s' := s) (c' := ck) hr hb hM hg hf hbase ho hO ⟨hent2, by rw [← hents.born]; exact born_modify ms i _ _, rfl⟩
    refine ⟨_, X, O, ?_, s1, s2, s3, s4⟩
    simp [Instr.mapUpdate, run_underlying hk, run_getObj ho rfl, hck, hfk, hgd, hkt, run_setObj ho rfl]
   ·obtain ⟨e1, e2⟩ := q2 hlt
    have hb1 : Nat.blt i es.length = false := by
     cases hq : Nat.blt i es.length with
     | false => rfl
     | true => exact absurd (Nat.le_of_ble_eq_true hq) hlt
    rw [hb1, cond_false]
    have hfk := run_findKey (w := w) hd e2
    have hent2 : ENT X (es ++ [(kd, u)]) (ms.push { key := vk, val := vu, born := ck }).toList := by
     rw [Array.toList_push]
     exact ENT_iff.2 ((ENT_iff.1 hent).app (All2.cons ⟨rk, ru⟩ All2.nil))
    obtain ⟨s1, s2, s3, s4⟩ := setMap_sound (ck' := ck + 1) (s' := s ++ [ck]) (c' := ck + 1) hr hb hM hg hf hbase ho hO ⟨hent2, by rw [Array.toList_push, List.map_append, hents.born]; rfl, rfl⟩
    refine ⟨_, X, O, ?_, s1, s2, s3, s4⟩
    simp [Instr.mapUpdate, run_underlying hk, run_getObj ho rfl, hck, hfk, run_setObj ho rfl]
 ·cases e
theorem tupD {d : D} {C : IV} {x : Value} (r : REL C d true [x]) (b : Bool) : REL C (.tup [d, .bool b]) true [.tuple #[x, .bool b]] := by
 simp only [REL, RELs]
 exact ⟨_, [[x], [.bool b]], rfl, ⟨_, _, rfl, r, _, _, rfl, rfl, rfl⟩, rfl⟩
theorem assert_sound (hE : EnvTy P E) (hr : HR B X O w h) {t xt : Nat} {x v : V} {ok : Bool} {h' : Heap} (e : sAssert E h x t ok = some (v, h')) {vx : Value} (r : VREL X x true [vx]) : OpS P B X O w h (Instr.typeAssert vx xt t ok) v h' := by
 unfold sAssert Env.kind at e
 cases ht : E.ty t with
 | none => rw [ht] at e; simp at e
 | some ti =>
 rw [ht] at e
 have hk := (hE.ty t ti ht).kind
 simp only [Option.map_some] at e
 have hni : (∀ nm, ti.k ≠ .ifc nm) → ∃ d, P.underlying t = some d ∧ ∀ ms, d ≠ .interface ms := by
  intro hne
  cases hti : ti.k <;> rw [hti] at hk <;> simp only [KindOk] at hk
  case ptr => obtain ⟨e, hk⟩ := hk; exact ⟨_, hk, by simp⟩
  case st => obtain ⟨e, hk, _⟩ := hk; exact ⟨_, hk, by simp⟩
  case fn => obtain ⟨_, _, _, hk⟩ := hk; exact ⟨_, hk, by simp⟩
  case ifc nm => exact absurd hti (hne nm)
  case oth => obtain ⟨d, hk, _, _, h3⟩ := hk; exact ⟨_, hk, h3⟩
  all_goals exact ⟨_, hk, by simp⟩
 split at e
 ·cases e
 ·rename_i k ti' hne hk1 hk2
  cases hk2
  obtain ⟨d, hd, hn⟩ := hni (fun nm hh => by rw [hh] at hk1; cases hk1; exact hne nm rfl)
  have hyes : ∀ y, (Instr.typeAssert (.iface t y) xt t ok).run P w = .ok (if ok then .tuple #[y, .bool true] else y) w := fun y => by
   unfold Instr.typeAssert
   simp only [Sem.run_bind, run_underlying hd, Result.andThen_ok]
   cases d <;> first | (simp; done) | exact absurd rfl (hn _)
  have hno : ∀ u y, u ≠ t → ok = true → isPlain ti.zero = true → ∃ z, (Instr.typeAssert (.iface u y) xt t ok).run P w = .ok (.tuple #[z, .bool false]) w ∧ VREL X ti.zero true [z] := fun u y hu hok hp => by
   obtain ⟨z, hz, rz⟩ := zero_val (X := X) (w := w) hE ht hp
   refine ⟨z, ?_, rz⟩
   subst hok
   unfold Instr.typeAssert
   simp only [Sem.run_bind, run_underlying hd, Result.andThen_ok]
   cases d <;> first | (simp [hu, hz]; done) | exact absurd rfl (hn _)
  have hnil : ok = true → isPlain ti.zero = true → ∃ z, (Instr.typeAssert .nilIface xt t ok).run P w = .ok (.tuple #[z, .bool false]) w ∧ VREL X ti.zero true [z] := fun hok hp => by
   obtain ⟨z, hz, rz⟩ := zero_val (X := X) (w := w) hE ht hp
   refine ⟨z, ?_, rz⟩
   subst hok
   unfold Instr.typeAssert
   simp only [Sem.run_bind, run_underlying hd, Result.andThen_ok]
   cases d <;> first | (simp [hz]; done) | exact absurd rfl (hn _)
  split at e
  ·rename_i u d'
   simp only [VREL, REL] at r
   obtain ⟨y, ey, ry⟩ := r
   cases ey
   cases hb : Nat.beq u t with
   | true =>
    rw [hb, cond_true] at e
    have := beq_of hb; subst this
    cases e
    cases ok with
    | true => exact .same hr (by rw [hyes]; try rfl) (by simp only [cond_true, VREL]; exact tupD ry true)
    | false => exact .same hr (by rw [hyes]; try rfl) (by simp only [cond_false, VREL]; exact ry)
   | false =>
    rw [hb, cond_false] at e
    obtain ⟨hc, e⟩ := bif_some e
    rw [Bool.and_eq_true] at hc
    cases e
    obtain ⟨z, hz, rz⟩ := hno u y (fun h => by subst h; rw [Nat.beq_refl] at hb; cases hb) hc.1 hc.2
    exact .same hr hz (tup2 rz false)
  ·rename_i u v'
   simp only [VREL] at r
   obtain ⟨y, ey, ry⟩ := r
   cases ey
   cases hb : Nat.beq u t with
   | true =>
    rw [hb, cond_true] at e
    have := beq_of hb; subst this
    cases e
    cases ok with
    | true => exact .same hr (by rw [hyes]; try rfl) (tup2 ry true)
    | false => exact .same hr (by rw [hyes]; try rfl) ry
   | false =>
    rw [hb, cond_false] at e
    obtain ⟨hc, e⟩ := bif_some e
    rw [Bool.and_eq_true] at hc
    cases e
    obtain ⟨z, hz, rz⟩ := hno u y (fun h => by subst h; rw [Nat.beq_refl] at hb; cases hb) hc.1 hc.2
    exact .same hr hz (tup2 rz false)
  ·obtain ⟨hc, e⟩ := bif_some e
   rw [Bool.and_eq_true] at hc
   cases e
   simp only [VREL, REL] at r
   cases r
   obtain ⟨z, hz, rz⟩ := hnil hc.1 hc.2
   exact .same hr hz (tup2 rz false)
  ·cases e
 ·cases e
end
end Go.As
/-
 AS: len, min, max, append.
-/
namespace Go.As
open Go.RowKit (Below)
variable [Gh]
section
variable {P : Program} {B : Nat} {X : Cx} {O : Nat → Addr → Prop} {w : World} {h : Heap} {E : Env}
theorem inR64 {n : Nat} (h : n ≤ LMX) : inR .i64 (Int.ofNat n) := by
 have h1 : IntKind.i64.max = 9223372036854775807 := by decide
 have h2 : IntKind.i64.min = -9223372036854775808 := by decide
 simp only [LMX] at h
 constructor
 ·rw [h2]; exact Int.le_trans (by decide) (Int.natCast_nonneg n)
 ·rw [h1]; show (n : Int) ≤ _; omega
theorem lenR {n : Nat} (h : n ≤ LMX) : VREL X (.im (.int .i64 (Int.ofNat n))) true [.int .i64 n] := by
 simp only [VREL, REL]; exact ⟨rfl, inR64 h⟩
theorem len_sound (hE : EnvTy P E) (hr : HR B X O w h) {t ty : Nat} {ts : Array Nat} (h0 : ts[0]? = some t) {x v : V} {h' : Heap} (e : bLen E t h x = some (v, h')) {vx : Value} (r : VREL X x true [vx]) :
  OpS P B X O w h (Builtin.len_ ts ty #[vx]) v h' := by
 unfold bLen Env.kind at e
 cases ht : E.ty t with
 | none => rw [ht] at e; simp at e
 | some ti =>
 rw [ht] at e
 have hk := (hE.ty t ti ht).kind
 simp only [Option.map_some] at e
 split at e <;> first | (cases e; done) | skip
 ·rename_i k b g off n lim hti
  rw [Option.some.inj hti] at hk; simp only [KindOk] at hk
  cases e
  simp only [VREL] at r
  obtain ⟨y, ey, ⟨a, cap, e1, _, e2, _⟩, _⟩ := r
  cases ey; subst e1
  exact .same hr (by simp [Builtin.len_, h0, run_underlying hk, goInt]) (lenR e2)
 ·rename_i k l hti
  rw [Option.some.inj hti] at hk; simp only [KindOk] at hk
  cases e
  simp only [VREL, REL] at r
  obtain ⟨a, n, cap, e1, e2, _, e3, _⟩ := r
  cases e1; rw [llen_eq, ← e2]
  exact .same hr (by simp [Builtin.len_, h0, run_underlying hk, goInt]) (lenR e3)
 ·rename_i k l hti
  rw [Option.some.inj hti] at hk; simp only [KindOk] at hk
  cases e
  simp only [VREL] at r
  obtain ⟨y, ey, a, n, e1, e2, e3, _⟩ := r
  cases ey; subst e1; rw [llen_eq, ← e2]
  exact .same hr (by simp [Builtin.len_, h0, run_underlying hk, goInt]) (lenR e3)
 ·rename_i s hti
  rw [Option.some.inj hti] at hk; simp only [KindOk] at hk
  cases e
  simp only [VREL, REL] at r
  obtain ⟨b, e1, e2, e3⟩ := r
  cases e1; rw [llen_eq, ← e2, bytesL_len]
  exact .same hr (by simp [Builtin.len_, h0, run_underlying hk, goInt]) (lenR e3)
 ·rename_i kt et hti
  rw [Option.some.inj hti] at hk; simp only [KindOk] at hk
  cases e
  simp only [VREL, REL] at r
  cases r
  exact .same hr (by simp [Builtin.len_, h0, run_underlying hk, goInt]) (lenR (n := 0) (by decide))
 ·rename_i kt et b hti
  rw [Option.some.inj hti] at hk; simp only [KindOk] at hk
  split at e
  ·rename_i es _ _ hb
   obtain ⟨hc, e⟩ := bif_some e
   cases e
   rcases entries_sound hr (m := .mp b) (es := es) (by simp [entries, hb]) r with ⟨rfl, _⟩ | ⟨b', r', ms, ck, bi, _, eb, rfl, _, _, _, _, _, ho, _, hents⟩
   ·simp only [VREL] at r; obtain ⟨_, _, r, _⟩ := r; cases r
   ·have hl : ms.size = es.length := by have := (ENT_iff.1 hents.ent).len; simpa using this
    rw [llen_eq] at hc ⊢
    rw [← hl] at hc ⊢
    exact .same hr (by simp [Builtin.len_, h0, run_underlying hk, run_getObj ho rfl, goInt]) (lenR (by have := ble_of hc; simpa [LMX] using this))
  ·cases e
theorem evs_all {X : Cx} {ρ : Operand → Value} {ev : Operand → V} (hρ : ∀ x, VREL X (ev x) true [ρ x]) (l : List Operand) : All2 (fun v x => VREL X v true [x]) (l.map ev) (l.map ρ) := by
 induction l with
 | nil => exact All2.nil
 | cons a l ih => exact All2.cons (hρ a) ih
theorem minV_cons (k : IntKind) (v : V) (l : List V) (a : Int) : minV k (v :: l) a = (match v with | .im (.int k' b) => bif keq k k' then minV k l (bif ile a b then a else b) else none | _ => none) := rfl
theorem maxV_cons (k : IntKind) (v : V) (l : List V) (a : Int) : maxV k (v :: l) a = (match v with | .im (.int k' b) => bif keq k k' then maxV k l (bif ile a b then b else a) else none | _ => none) := rfl
theorem min_run {k : IntKind} : ∀ {l : List V} {xs : List Value} {a n : Int}, minV k l a = some n → All2 (fun v x => VREL X v true [x]) l xs → inR k a → (xs.foldlM Builtin.min2 (.int k a)).run P w = .ok (.int k n) w ∧ inR k n
 | [], _, a, n, e, r, ha => by cases r; simp [minV] at e; subst e; exact ⟨rfl, ha⟩
 | v :: l, _, a, n, e, ⟨x, xs, rfl, rx, rl⟩, ha => by
  rw [minV_cons] at e
  split at e
  ·rename_i k' b
   obtain ⟨hk, e2⟩ := bif_some e
   clear e
   have := keq_iff hk; subst this
   simp only [VREL, REL] at rx
   obtain ⟨rx, hb⟩ := rx; cases rx
   have hs : (bif ile a b then a else b) = if b < a then b else a := by
    rw [ile_eq]; by_cases h : a ≤ b
    ·simp [h, show ¬ b < a from by omega]
    ·simp [h, show b < a from by omega]
   rw [hs] at e2
   obtain ⟨q1, q2⟩ := min_run e2 rl (by split <;> assumption)
   exact ⟨by simp only [List.foldlM_cons, Builtin.min2]; simpa using q1, q2⟩
  ·cases e
theorem max_run {k : IntKind} : ∀ {l : List V} {xs : List Value} {a n : Int}, maxV k l a = some n → All2 (fun v x => VREL X v true [x]) l xs → inR k a → (xs.foldlM Builtin.max2 (.int k a)).run P w = .ok (.int k n) w ∧ inR k n
 | [], _, a, n, e, r, ha => by cases r; simp [maxV] at e; subst e; exact ⟨rfl, ha⟩
 | v :: l, _, a, n, e, ⟨x, xs, rfl, rx, rl⟩, ha => by
  rw [maxV_cons] at e
  split at e
  ·rename_i k' b
   obtain ⟨hk, e2⟩ := bif_some e
   clear e
   have := keq_iff hk; subst this
   simp only [VREL, REL] at rx
   obtain ⟨rx, hb⟩ := rx; cases rx
   have hs : (bif ile a b then b else a) = if b > a then b else a := by
    rw [ile_eq]; by_cases h : a ≤ b
    ·by_cases h2 : b > a
     ·simp [h, h2]
     ·have : a = b := by omega
      subst this; simp
    ·simp [h, show ¬ b > a from by omega]
   rw [hs] at e2
   obtain ⟨q1, q2⟩ := max_run e2 rl (by split <;> assumption)
   exact ⟨by simp only [List.foldlM_cons, Builtin.max2]; simpa using q1, q2⟩
  ·cases e
theorem delems_cells (hr : HR B X O w h) {x : V} {l : List D} (e : x.delems h = some l) {m : Bool} {vx : Value} (r : VREL X x m [vx]) :
  ∃ a n cap, vx = .slice a n cap ∧ n = l.length ∧ n ≤ cap ∧ n ≤ LMX ∧ (n = 0 ∨ ∃ a0 wss s, a = some a0 ∧ a0.spot = none ∧ RELs X.C l false wss ∧ Even s wss ∧ cellsAt w.cell? a0 wss.flatten) := by
 unfold V.delems at e
 split at e
 ·cases e
  simp only [VREL, REL] at r
  obtain ⟨a, n, cap, e1, e2, e3, e4, e5⟩ := r
  cases e1
  refine ⟨a, n, cap, rfl, e2, e3, e4, e5.imp id ?_⟩
  rintro ⟨a0, wss, s, q1, q2, q3, q4, q5⟩
  exact ⟨a0, wss, s, q1, q2, q3, q4, fun j v hj => hr.ci _ _ (q5 j v hj)⟩
 ·cases e
  simp only [VREL] at r
  obtain ⟨y, ey, a, n, e1, e2, e3, e5⟩ := r
  cases ey; subst e1
  refine ⟨a, n, n, rfl, e2, Nat.le_refl _, e3, e5.imp id ?_⟩
  rintro ⟨a0, wss, s, q1, q2, q3, q4, q5⟩
  exact ⟨a0, wss, s, q1, q2, q3, q4, fun j v hj => hr.ci _ _ (q5 j v hj)⟩
 ·rename_i b g off len lim
  split at e
  ·rename_i g' s ro l' hb
   obtain ⟨hc, e⟩ := bif_some e
   cases e
   obtain ⟨hg, hol⟩ := cutOk_iff hc
   rw [cutAll_eq l' off len hol]
   simp only [VREL] at r
   obtain ⟨y, ey, _, bi, hM, hgb, hown⟩ := r
   cases ey
   obtain ⟨bj, h1, h2, h3, h4, h5, h6⟩ := hr.blk b _ hb
   rw [hM] at h1; cases h1
   obtain ⟨a, cap, e1, e2, e3, e4, e5, e6⟩ := hown (by rw [h2]; exact hg)
   subst e1
   have hll : ((l'.drop off).take len).length = len := by rw [List.length_take, List.length_drop]; omega
   refine ⟨a, len, cap, rfl, hll.symm, e2, e3, ?_⟩
   by_cases hz : len = 0
   ·exact .inl hz
   ·right
    rcases e6 with e6 | ⟨a0, q1, q2, q3⟩
    ·omega
    ·rcases h6 with h6 | ⟨es, a1, wss, k1, k2, k3, k4, k5, k6, k7⟩
     ·omega
     ·rw [q1] at k1; cases k1
      refine ⟨_, (wss.drop off).take len, s, q3, Addr.add_spot _ _ q2, RELs_iff.2 (((RELs_iff.1 k3).drop off).take len), Even.take (Even.drop k4 off) len, ?_⟩
      rw [Even.flatten_take (Even.drop k4 off), Even.flatten_drop k4, es]
      exact (k5.drop q2 (off * s)).take _
  ·cases e
 ·cases e
theorem newElems_sound (hE : EnvTy P E) (hr : HR B X O w h) {te : TI} {tx : Nat} {x : V} {new : List D} (e : newElems E te tx x h = some new) {vx : Value} (r : VREL X x true [vx]) :
  ∃ wss, Src P te.size tx vx new.length wss.flatten w ∧ RELs X.C new false wss ∧ Even te.size wss := by
 unfold newElems Env.kind at e
 cases ht : E.ty tx with
 | none => rw [ht] at e; simp at e
 | some ti =>
 rw [ht] at e
 have hk := (hE.ty tx ti ht).kind
 simp only [Option.map_some] at e
 split at e
 ·rename_i s hti
  rw [Option.some.inj hti] at hk; simp only [KindOk] at hk
  obtain ⟨h1, e⟩ := bif_some e
  have h1 := beq_of h1
  cases e
  simp only [VREL, REL] at r
  obtain ⟨b, e1, e2, e3⟩ := r
  cases e1
  subst e2
  have hm : (bytesL b).map byteD = b.data.toList.map fun u => byteD u.toNat := by unfold bytesL; rw [List.map_map]; rfl
  have hlen : ((bytesL b).map byteD).length = b.size := by rw [List.length_map, bytesL_len]
  refine ⟨b.data.toList.map fun u => [Value.int .u8 u.toNat], ?_, ?_, ?_⟩
  ·rw [hlen, h1, bytes_flat]
   exact Src.ofString w hk b
  ·rw [hm]; exact byteD_rows b.data.toList
  ·rw [h1]; intro ws hw; obtain ⟨u, _, rfl⟩ := List.mem_map.1 hw; rfl
 ·rename_i k hti
  rw [Option.some.inj hti] at hk; simp only [KindOk] at hk
  obtain ⟨l, hl, e⟩ := Option.bind_eq_some_iff.1 e
  obtain ⟨hf, e⟩ := bif_some e
  cases e
  obtain ⟨a, n, cap, e1, e2, e3, e4, e5⟩ := delems_cells hr hl r
  subst e1
  by_cases hz : n = 0
  ·subst hz
   have hn : new = [] := List.eq_nil_of_length_eq_zero e2.symm
   subst hn
   refine ⟨[], ?_, by simp [RELs], fun _ h => by cases h⟩
   cases a with
   | none => exact Src.ofNil w hk cap
   | some a0 => exact Src.ofSlice w hk a0 0 cap [] (by simp) (fun j u e => by simp at e) (fun _ h => by cases h)
  ·obtain ⟨a0, wss, s, q1, q2, q3, q4, q5⟩ := e5.resolve_left hz
   subst q1
   have hs := firstWd_of hf q3 q4 (fun h => by subst h; simp at e2; exact hz e2)
   subst hs
   refine ⟨wss, ?_, q3, q4⟩
   rw [← e2]
   exact Src.ofSlice w hk a0 n cap wss.flatten (by rw [q4.len, (RELs_iff.1 q3).len, e2]) q5 q3.ones
 ·cases e
theorem append_types {ts : Array TypeId} {t tx ty : TypeId} (h0 : ts[0]? = some t) (h1 : ts[1]? = some tx) (s x : Value) : Builtin.append_ ts ty #[s, x] = Builtin.append_ #[t, tx] ty #[s, x] := by
 simp [Builtin.append_, h0, h1]
theorem run_append_room_put {t tx ty el : TypeId} {i : TypeInfo} (ht : P.underlying t = some (.slice el)) (hi : P.info? el = some i) {base : Option Addr} {sLen sCap n : Nat} {x : Value} {news : List Value} (hs : Src P i.size tx x n news w)
  (hroom : sLen + n ≤ sCap) {a : Addr} (hb : news ≠ [] → base = some a) (ha : a.spot = none) (hc : ∀ j, j < news.length → (∃ u, w.cell? ((a.add (sLen * i.size)).add j) = some u) ∧ w.frozen? ((a.add (sLen * i.size)).add j) = false) :
  (Builtin.append_ #[t, tx] ty #[.slice base sLen sCap, x]).run P w = .ok (.slice base (sLen + n) sCap) (putCells w (a.add (sLen * i.size)) news 0) := by
 by_cases hn : news = []
 ·subst hn
  have hst : ∀ b : Addr, (storeCells b [] 0).run P w = .ok () w := fun b => rfl
  rcases hs.kind with ⟨e', hk⟩ | hk <;> cases base <;> simp [Builtin.append_, run_underlying ht, run_underlying hk, sizeOf, typeInfo, hi, hs.len, hroom, hs.cells, hst, putCells]
 ·obtain rfl := hb hn
  have hst := run_storeCells_put (P := P) (a.add (sLen * i.size)) (Addr.add_spot _ _ ha) news w 0 hs.one (fun j hj => by rw [Nat.zero_add]; exact hc j hj)
  rcases hs.kind with ⟨e', hk⟩ | hk <;> simp [Builtin.append_, run_underlying ht, run_underlying hk, sizeOf, typeInfo, hi, hs.len, hroom, hs.cells, hst]
theorem room_iff {n b : Nat} (h : room n b = true) : n * b ≤ 70368744177664 ∧ n ≤ 70368744177664 := by
 unfold room at h; rw [Bool.and_eq_true] at h; exact ⟨ble_of h.1, ble_of h.2⟩
theorem run_append_grow_ok {t tx ty el : TypeId} {te : TI} (hok : TyOk P el te) (hz : okV te te.zero = true) (ht : P.underlying t = some (.slice el)) {base : Option Addr} {sLen sCap n : Nat} {x : Value} {olds news : List Value}
  (hold : sLen = 0 ∧ olds = [] ∨ ∃ a, base = some a ∧ olds.length = sLen * te.size ∧ ∀ j v, olds[j]? = some v → w.cell? (a.add j) = some v) (hs : Src P te.size tx x n news w) (hg : sCap < sLen + n) (hr : room (sLen + n) te.bytes = true) :
  ∃ (cap : Nat) (rest : List Value) (w' : World), (Builtin.append_ #[t, tx] ty #[.slice base sLen sCap, x]).run P w = .ok (.slice (some ⟨w.heap.size, 0, none⟩) (sLen + n) cap) w' ∧ NewRow w w' ((olds ++ news) ++ rest) ∧ Below w.heap.size w w' ∧
   ((olds ++ news) ++ rest).length = cap * te.size ∧ sLen + n ≤ cap ∧ cap ≤ LMX := by
 obtain ⟨r1, r2⟩ := room_iff hr
 obtain ⟨i, i1, i2, i3, i4⟩ := hok.info
 obtain ⟨k1, _, k3⟩ := okV_iff hz
 obtain ⟨z, z1, z2⟩ := i4 _ rfl k3
 have hzs : z.cells.size = te.size := by have := (z2.cells k3).wd; simp at this; rw [this, k1]
 rw [← i2] at hs hold
 have hfit : Builtin.nextslicecap (sLen + n) sCap * i.bytes ≤ 281474976710656 := growslice_fits hg (by rw [i3]; omega)
 have holds : (Builtin.firstCells i.size sLen (.slice base sLen sCap)).run P w.drew = .ok olds.toArray w.drew := by
  rcases hold with ⟨rfl, rfl⟩ | ⟨a, rfl, h1, h2⟩
  ·cases base with
   | none => exact run_firstCells_none _ _ _ _ _
   | some a => exact run_firstCells_some w.drew i.size 0 a 0 sCap [] (by simp) (fun j v e => by simp at e)
  ·exact run_firstCells_some w.drew i.size sLen a sLen sCap olds h1 (by simpa using h2)
 have hrun := run_append_grow_src w t tx ty el i z ht i1 z1 base sLen sCap olds holds x n news hs hg (by omega) hfit
 have hge := grownCap_ge w (sLen + n) sCap el
 have hle := grownCap_le_maxLen w (sLen + n) sCap el (by simp only [maxLen]; omega)
 have hsz0 : (Builtin.zeroCells z.cells (grownCap w (sLen + n) sCap el - (sLen + n))).toList.length = (grownCap w (sLen + n) sCap el - (sLen + n)) * te.size := by simp [size_zeroCells, hzs]
 have hol : olds.length = sLen * i.size := by
  rcases hold with ⟨rfl, rfl⟩ | ⟨a, _, h1, _⟩
  ·simp
  ·exact h1
 refine ⟨grownCap w (sLen + n) sCap el, (Builtin.zeroCells z.cells (grownCap w (sLen + n) sCap el - (sLen + n))).toList, _, hrun, ?_, ?_, ?_, hge, ?_⟩
 ·have h1 := NewRow.alloc w.drew ((olds ++ news).toArray ++ Builtin.zeroCells z.cells (grownCap w (sLen + n) sCap el - (sLen + n))) el
  have h2 : ((olds ++ news).toArray ++ Builtin.zeroCells z.cells (grownCap w (sLen + n) sCap el - (sLen + n))).toList = (olds ++ news) ++ (Builtin.zeroCells z.cells (grownCap w (sLen + n) sCap el - (sLen + n))).toList := by simp
  rw [h2] at h1
  exact ⟨(Keep.of_below (below_drew w)).trans h1.keep, h1.size, h1.cell, h1.frozen⟩
 ·exact (below_drew w).alloc (Nat.le_refl _) _
 ·rw [List.length_append, List.length_append, hol, hs.newsLen, hsz0, i2, ← Nat.add_mul, ← Nat.add_mul]
  congr 1; omega
 ·simp only [maxLen, LMX] at hle ⊢; omega
theorem HR.regrow (hr : HR B X O w h) {w' : World} {b g s0 ro0 : Nat} {l0 : List D} {bi : BI} (hb : hget h b = some (.arr g s0 ro0 l0)) (hM : X.M b = some bi) (hg : bi.g = g) (hfx : bi.fix = false) (hB : Below B w w') {cs : List Value} (hw : NewRow w w' cs)
  {s cap ro : Nat} {l : List D} {wss : List (List Value)} {rest : List Value} (hcs : cs.length = cap * s) (hcap : cap ≤ LMX) (hlen : l.length ≤ cap) (hro : ro ≤ l.length) (hl : RELs X.C l false wss) (hev : Even s wss) (hrest : cs = wss.flatten ++ rest) :
  ∃ X' O', HR B X' O' w' (hput h b (.arr (g + 1) s ro l)) ∧ Up B X w h.length X' w' ∧ VREL X' (.own b (g + 1) 0 l.length false) true [.slice (some ⟨w.heap.size, 0, none⟩) l.length cap] ∧ h.length ≤ (hput h b (.arr (g + 1) s ro l)).length ∧ FR X O w h X' O' w' (hput h b (.arr (g + 1) s ro l)) := by
 have hbl := hget_lt hb
 have hle := Nat.le_of_lt hbl
 let a0 : Addr := ⟨w.heap.size, 0, none⟩
 let bj : BI := ⟨g + 1, some a0, s, cap, false⟩
 let C : IV := fun a => if ∃ j, j < ro * s ∧ a = a0.add j then w'.cell? a else X.C a
 let Y : Cx := { X with C := C, M := fun c => if c = b then some bj else X.M c }
 let Q : Nat → Addr → Prop := fun c => if c = b then fun a => ∃ j, ro * s ≤ j ∧ j < cap * s ∧ a = a0.add j else O c
 have hQb : ∀ a, (∃ j, ro * s ≤ j ∧ j < cap * s ∧ a = a0.add j) → Q b a := fun a hh => by simp only [Q, if_pos]; exact hh
 have hQo : ∀ c a, c ≠ b → O c a → Q c a := fun c a hc hh => by simp only [Q, if_neg hc]; exact hh
 have hsz := hw.size
 have hC0 : ∀ a v, X.C a = some v → a.block < w.heap.size := fun a v e => World.block_lt_of_cell? w a (hr.ci a v e)
 have hnew : ∀ j, (a0.add j).block = w.heap.size := fun j => by rw [Addr.add_block]
 have hci' : CI X.C w' := hr.ci.keep hw.keep
 have hCle : X.C.le C := fun a v e => by
  show (if _ then _ else _) = _
  rw [if_neg]
  ·exact e
  ·rintro ⟨j, _, rfl⟩; have := hC0 _ v e; rw [hnew] at this; omega
 have hCI : CI C w' := fun a v e => by
  have e : (if ∃ j, j < ro * s ∧ a = a0.add j then w'.cell? a else X.C a) = some v := e
  split at e
  ·exact e
  ·exact hci' a v e
 have hfresh : ∀ a v, C a = some v → X.C a = none → B ≤ a.block := fun a v e hn => by
  have e : (if ∃ j, j < ro * s ∧ a = a0.add j then w'.cell? a else X.C a) = some v := e
  split at e
  ·rename_i hh; obtain ⟨j, _, rfl⟩ := hh; rw [hnew]; exact hr.wb
  ·rw [hn] at e; cases e
 have hXY : X.le h.length Y := ⟨hCle, fun c ci hc e => by
  by_cases hcb : c = b
  ·subst hcb; rw [hM] at e; cases e
   exact ⟨bj, by simp [Y], by show bi.g ≤ g + 1; omega, fun hh => absurd hh (by show bi.g ≠ g + 1; omega), fun hh => by rw [hfx] at hh; cases hh⟩
  ·exact ⟨ci, by simp [Y, hcb, e], Nat.le_refl _, fun _ => rfl, fun _ => rfl⟩, fun _ _ e => e⟩
 have hcell : cellsAt w'.cell? a0 cs := fun j v e => by rw [show a0.add j = ⟨w.heap.size, j, none⟩ from addr_new _ _]; exact hw.cell j v e
 have hflen : wss.flatten.length = l.length * s := by rw [hev.len, (RELs_iff.1 hl).len]
 have hmul : l.length * s ≤ cap * s := Nat.mul_le_mul_right _ hlen
 have hmul2 : ro * s ≤ l.length * s := Nat.mul_le_mul_right _ hro
 refine ⟨Y, Q, ⟨fun c k e => ?_, fun c a o => ?_, fun c d a o o' => ?_, fun c ci e => ?_, hCI, Nat.le_trans hr.wb (Nat.le_of_lt hsz)⟩, ⟨hXY, hB, hfresh, fun r o e _ => hw.keep.obj r o e⟩, ?_, ?_, ⟨fun c ci e hn => ?_, fun c ci e hn => ?_, fun c ci e hn a o => ?_, fun c ci e hn a o v ev => ⟨hw.keep.cell _ _ ev, hw.keep.frozen _ _ ev⟩, fun c ci e hn r o ob eo _ => hw.keep.obj _ _ eo, fun c ci e hn g' _ hg' => hw.keep.block g' hg', fun c e => ?_, fun c _ e hn => ?_⟩⟩
 ·rw [hget_hput h b c _ hle] at e
  by_cases hcb : c = b
  ·subst hcb
   simp only [if_true] at e; cases e
   refine ⟨bj, by simp [Y], rfl, rfl, ⟨hlen, hro⟩, hcap, .inr ⟨rfl, a0, wss, rfl, rfl, hl.mono hCle, hev, ?_, ?_, ?_⟩⟩
   ·exact fun j v e => hcell j v (by rw [hrest, List.getElem?_append_left (List.getElem?_eq_some_iff.1 e).1]; exact e)
   ·intro j v e
    rw [List.getElem?_take] at e
    split at e
    ·rename_i hj
     show (if _ then _ else _) = _
     rw [if_pos ⟨j, hj, rfl⟩]
     exact hcell j v (by rw [hrest, List.getElem?_append_left (List.getElem?_eq_some_iff.1 e).1]; exact e)
    ·cases e
   ·intro j h1 h2
    have hj2 : j < cs.length := by rw [hcs]; exact h2
    refine ⟨hQb _ ⟨j, h1, h2, rfl⟩, ⟨cs[j], hcell j _ (by simp [hj2])⟩, ?_⟩
    rw [show a0.add j = ⟨w.heap.size, j, none⟩ from addr_new _ _]; exact hw.frozen j hj2
  ·simp only [if_neg hcb] at e
   exact (hr.blk c k e).later hr.lt hXY (by simp [Y, hcb]) hw.keep (fun a o => hQo c a hcb o)
 ·by_cases hcb : c = b
  ·have o : (if c = b then fun a => ∃ j, ro * s ≤ j ∧ j < cap * s ∧ a = a0.add j else O c) a := o
   rw [if_pos hcb] at o
   obtain ⟨j, h1, h2, rfl⟩ := o
   refine ⟨by rw [hnew]; exact hr.wb, by rw [hnew]; exact hsz, ?_⟩
   show (if _ then _ else _) = _
   rw [if_neg]
   ·cases hx : X.C (a0.add j) with
    | none => rfl
    | some v => have := hC0 _ v hx; rw [hnew] at this; omega
   ·rintro ⟨i, hi, he⟩
    have := Addr.add_inj (a := a0) rfl he
    omega
  ·have o : (if c = b then fun a => ∃ j, ro * s ≤ j ∧ j < cap * s ∧ a = a0.add j else O c) a := o
   rw [if_neg hcb] at o
   obtain ⟨q1, q2, q3⟩ := hr.own c a o
   refine ⟨q1, by omega, ?_⟩
   show (if _ then _ else _) = _
   rw [if_neg]
   ·exact q3
   ·rintro ⟨i, _, rfl⟩; rw [hnew] at q2; omega
 ·have o : (if c = b then fun a => ∃ j, ro * s ≤ j ∧ j < cap * s ∧ a = a0.add j else O c) a := o
  have o' : (if d = b then fun a => ∃ j, ro * s ≤ j ∧ j < cap * s ∧ a = a0.add j else O d) a := o'
  by_cases hcb : c = b <;> by_cases hdb : d = b
  ·rw [hcb, hdb]
  ·rw [if_pos hcb] at o; rw [if_neg hdb] at o'
   obtain ⟨j, _, _, rfl⟩ := o
   have := (hr.own d _ o').2.1; rw [hnew] at this; omega
  ·rw [if_neg hcb] at o; rw [if_pos hdb] at o'
   obtain ⟨j, _, _, rfl⟩ := o'
   have := (hr.own c _ o).2.1; rw [hnew] at this; omega
  ·rw [if_neg hcb] at o; rw [if_neg hdb] at o'
   exact hr.dis c d a o o'
 ·rw [hput_len, if_pos hbl]
  have e : (if c = b then some bj else X.M c) = some ci := e
  split at e
  ·rename_i hcb; rw [hcb]; exact hbl
  ·exact hr.lt c ci e
 ·simp only [VREL]
  refine ⟨_, rfl, ⟨_, _, rfl, hlen, by omega, .inr ⟨_, rfl⟩⟩, bj, by simp [Y], Nat.le_refl _, fun _ => ⟨_, _, rfl, hlen, by omega, by show 0 + cap ≤ cap; omega, (fun h => by cases h), .inr ⟨a0, rfl, rfl, by simp [a0]⟩⟩⟩
 ·rw [hput_len, if_pos hbl]; exact Nat.le_refl _
 ·have hcb : c ≠ b := fun hh => by subst hh; rw [hb] at hn; cases hn
  rw [hget_hput h b c _ hle, if_neg hcb]; exact hn
 ·have hcb : c ≠ b := fun hh => by subst hh; rw [hb] at hn; cases hn
  simp [Y, hcb, e]
 ·have hcb : c ≠ b := fun hh => by subst hh; rw [hb] at hn; cases hn
  exact hQo c a hcb o
 ·rw [hget_hput h b c _ hle] at e
  split at e
  ·cases e
  ·exact e
 ·rw [hget_hput h b c _ hle] at hn
  split at hn
  ·cases hn
  ·rename_i hcb; simp [Y, hcb, e]
theorem take_whole {α : Type} {l : List α} {n : Nat} (h : n ≤ l.length) : cutAll l 0 n = l.take n := by rw [cutAll_eq l 0 n (by omega)]; simp
theorem isNone_iff {l : List D} : isNone l = true ↔ l = [] := by cases l <;> simp [isNone]
theorem no_news {size tx n : Nat} {x : Value} {news : List Value} (hs : Src P size tx x n news w) (h : n = 0) : news = [] := List.eq_nil_of_length_eq_zero (by rw [hs.newsLen, h, Nat.zero_mul])
theorem appendTo_sound (hr : HR B X O w h) {nid t tx ty el : Nat} {te : TI} (hok : TyOk P el te) (hz : okV te te.zero = true) (hk : P.underlying t = some (.slice el)) (hn : hget h nid = none) (hM : X.M nid = none) (hle : nid ≤ h.length) {s v : V} {new : List D} {h' : Heap}
  (e : appendTo te nid s new h = some (v, h')) {vs vx : Value} (rs : VREL X s true [vs]) {wss : List (List Value)} (hs : Src P te.size tx vx new.length wss.flatten w) (hrel : RELs X.C new false wss) (hev : Even te.size wss) :
  OpS P B X O w h (Builtin.append_ #[t, tx] ty #[vs, vx]) v h' := by
 obtain ⟨i, i1, i2, i3, i4⟩ := hok.info
 unfold appendTo at e
 split at e
 ·rename_i b g off len lim
  have rs0 := rs
  simp only [VREL] at rs
  obtain ⟨y, ey, ⟨a, cap, e1, e2, e3, e4⟩, bi, hMb, hgb, hown⟩ := rs
  cases ey; subst e1
  split at e
  ·rename_i g' sz ro l hb
   obtain ⟨bj, b1, b2, b3, b4, b5, b6⟩ := hr.blk b _ hb
   rw [hMb] at b1; cases b1
   cases lim with
   | true =>
    simp only [cond_true] at e
    cases hni : isNone new with
    | true =>
     rw [hni, cond_true] at e
     cases e
     have := isNone_iff.1 hni; subst this
     have hnn : wss.flatten = [] := no_news hs rfl
     rw [hnn, ← i2] at hs
     have hrun := run_append_room_put (w := w) (ty := ty) hk i1 hs (base := a) (sLen := len) (sCap := cap) (by simpa using e2) (a := ⟨0, 0, none⟩) (fun h => absurd rfl h) rfl (fun j hj => by simp at hj)
     simp only [putCells] at hrun
     exact .same hr hrun rs0
    | false =>
     rw [hni, cond_false] at e
     obtain ⟨hc, e⟩ := bif_some e
     simp only [Bool.and_eq_true] at hc
     obtain ⟨hcut, hsz, hroom⟩ := hc
     obtain ⟨hgg, hol⟩ := cutOk_iff hcut
     cases e
     rw [llen_eq] at hroom
     have hsz := beq_of hsz; subst hsz
     obtain ⟨a', cap', w1, w2, w3, w4, w5, w6⟩ := hown (by rw [b2]; exact hgg)
     cases w1
     have hcl := w5 rfl; rw [hcl] at w2 w4 w6 ⊢; clear hcl
     have hpos : 0 < new.length := by
      rcases Nat.eq_zero_or_pos new.length with h | h
      ·have := List.eq_nil_of_length_eq_zero h; subst this; cases hni
      ·exact h
     rw [cutAll_eq l off len hol]
     have hll : ((l.drop off).take len).length = len := by rw [List.length_take, List.length_drop]; omega
     obtain ⟨wo, o1, o2, o3⟩ : ∃ wo, RELs X.C ((l.drop off).take len) false wo ∧ Even te.size wo ∧ (len = 0 ∧ wo.flatten = [] ∨ ∃ a0, a = some a0 ∧ wo.flatten.length = len * te.size ∧ ∀ j v, wo.flatten[j]? = some v → w.cell? (a0.add j) = some v) := by
      by_cases hz0 : len = 0
      ·subst hz0; exact ⟨[], by simp [RELs], (fun _ h => by cases h), .inl ⟨rfl, rfl⟩⟩
      ·rcases w6 with w6 | ⟨a0, q1, q2, q3⟩
       ·exact absurd w6 hz0
       ·rcases b6 with b6 | ⟨es, a1, wss0, k1, k2, k3, k4, k5, k6, k7⟩
        ·omega
        ·rw [q1] at k1; cases k1
         refine ⟨(wss0.drop off).take len, RELs_iff.2 (((RELs_iff.1 k3).drop off).take len), Even.take (Even.drop k4 off) len, .inr ⟨_, q3, ?_, ?_⟩⟩
         ·rw [(Even.take (Even.drop k4 off) len).len, (((RELs_iff.1 k3).drop off).take len).len, hll]
         ·rw [Even.flatten_take (Even.drop k4 off), Even.flatten_drop k4, es]
          exact (k5.drop q2 (off * te.size)).take _
     obtain ⟨cap2, rest, w', g1, g2, g3, g4, g5, g6⟩ := run_append_grow_ok (w := w) (ty := ty) hok hz hk (base := a) (sLen := len) (sCap := len) (olds := wo.flatten) o3 hs (by omega) hroom
     have hfl : wo.flatten ++ wss.flatten = (wo ++ wss).flatten := by simp
     rw [hfl] at g2 g4
     have hlen2 : ((l.drop off).take len ++ new).length = len + new.length := by rw [List.length_append, hll]
     obtain ⟨X', O', q1, q2, q3, q4, q5⟩ := newData_sound hr hn hM hle (g3.mono hr.wb) g2 (s := te.size) (cap := cap2) (l := (l.drop off).take len ++ new) (wss := wo ++ wss) (rest := rest) g4 g6 (by rw [hlen2]; exact g5) (RELs_iff.2 ((RELs_iff.1 o1).app (RELs_iff.1 hrel))) (o2.app hev) rfl
     rw [hlen2] at q3
     exact ⟨_, _, X', O', g1, q1, q2, by rw [llen_eq]; exact q3, q4, q5⟩
   | false =>
    simp only [cond_false] at e
    obtain ⟨hc, e2'⟩ := bif_some e
    clear e
    cases e2'
    simp only [Bool.and_eq_true] at hc
    obtain ⟨hcut, hoff, hro, hsz, hroom⟩ := hc
    obtain ⟨hgg, hol⟩ := cutOk_iff hcut
    subst hgg
    have hoff := beq_of hoff; subst hoff
    have hro := ble_of hro
    have hsz := beq_of hsz; subst hsz
    rw [llen_eq] at hroom ⊢
    have hlen : len ≤ l.length := by omega
    rw [take_whole hlen]
    have hll : (l.take len).length = len := by rw [List.length_take]; omega
    have hlen2 : (l.take len ++ new).length = len + new.length := by rw [List.length_append, hll]
    obtain ⟨a', cap', w1, w2, w3, w4, _, w6⟩ := hown b2.symm
    cases w1
    rw [Nat.zero_add] at w4
    obtain ⟨wo, o1, o2, o3⟩ : ∃ wo, RELs X.C (l.take len) false wo ∧ Even te.size wo ∧ (len = 0 ∧ wo.flatten = [] ∨ ∃ a0, a = some a0 ∧ wo.flatten.length = len * te.size ∧ ∀ j v, wo.flatten[j]? = some v → w.cell? (a0.add j) = some v) := by
     by_cases hz0 : len = 0
     ·subst hz0; exact ⟨[], by simp [RELs], (fun _ h => by cases h), .inl ⟨rfl, rfl⟩⟩
     ·rcases w6 with w6 | ⟨a0, q1, q2, q3⟩
      ·omega
      ·rcases b6 with b6 | ⟨es, a1, wss0, k1, k2, k3, k4, k5, k6, k7⟩
       ·omega
       ·rw [q1] at k1; cases k1
        rw [Nat.zero_mul, Addr.add_zero] at q3
        refine ⟨wss0.take len, RELs_iff.2 ((RELs_iff.1 k3).take len), Even.take k4 len, .inr ⟨_, q3, ?_, ?_⟩⟩
        ·rw [(Even.take k4 len).len, ((RELs_iff.1 k3).take len).len, hll]
        ·rw [Even.flatten_take k4]
         exact k5.take _
    by_cases hfit : len + new.length ≤ cap
    ·-- in its place
     rw [← i2] at hs
     let bk : BI := ⟨g + 1, bi.base, te.size, cap, false⟩
     by_cases hcz : cap = 0
     ·have hl0 : len = 0 := by omega
      have hn0 : new.length = 0 := by omega
      have hnn : wss.flatten = [] := no_news hs hn0
      rw [hnn] at hs
      have hrun := run_append_room_put (w := w) (ty := ty) hk i1 hs (base := a) (sLen := len) (sCap := cap) hfit (a := ⟨0, 0, none⟩) (fun h => absurd rfl h) rfl (fun j hj => by simp at hj)
      simp only [putCells] at hrun
      have hXY : X.le h.length (X.withM b bk) := ⟨.refl _, fun c ci hc e => by
       by_cases hcb : c = b
       ·subst hcb; rw [hMb] at e; cases e
        exact ⟨bk, Cx.withM_same _ _ _, by show bi.g ≤ g + 1; omega, fun hh => absurd hh (by show bi.g ≠ g + 1; omega), fun hh => by rw [b3] at hh; cases hh⟩
       ·exact ⟨ci, by rw [Cx.withM_other _ _ hcb]; exact e, Nat.le_refl _, fun _ => rfl, fun _ => rfl⟩, fun _ _ e => e⟩
      have hlt : (X.withM b bk).lt h.length := fun c ci e => by
       by_cases hcb : c = b
       ·subst hcb; exact hget_lt hb
       ·rw [Cx.withM_other _ _ hcb] at e; exact hr.lt c ci e
      have hput := hr.put (hget_lt hb) hXY rfl (fun c hc => Cx.withM_other _ _ hc) hlt ⟨0, 0, none⟩ rfl [] 0 (fun j hj => by simp at hj) (fun j hj => by simp at hj) (.arr (g + 1) te.size ro (l.take len ++ new)) ⟨bk, Cx.withM_same _ _ _, rfl, rfl, ⟨by rw [hlen2]; exact hfit, by rw [hlen2]; omega⟩, by simp only [LMX]; show cap ≤ _; omega, .inl hcz⟩
      refine ⟨_, w, _, O, hrun, hput, ⟨hXY, .refl _ _, fun a v e hn => (by simp only [Cx.withM] at e; rw [hn] at e; cases e), fun _ _ e _ => e⟩, ?_, by rw [hput_len, if_pos (hget_lt hb)]; exact Nat.le_refl _, FR.put hr hb (fun c hc => Cx.withM_other _ _ hc) ⟨0, 0, none⟩ [] 0 (fun j hj => by simp at hj) _⟩
      simp only [VREL]
      rw [show len + new.length = 0 from by omega]
      exact ⟨_, rfl, ⟨a, cap, rfl, Nat.zero_le _, by decide, .inl hcz⟩, bk, Cx.withM_same _ _ _, Nat.le_refl _, fun _ => ⟨a, cap, rfl, Nat.zero_le _, by decide, by show 0 + cap ≤ cap; omega, (fun h => by cases h), .inl hcz⟩⟩
     ·obtain ⟨a0, q1, q2, q3⟩ := w6.resolve_left hcz
      rw [Nat.zero_mul, Addr.add_zero] at q3
      obtain ⟨es, a1, wss0, k1, k2, k3, k4, k5, k6, k7⟩ := b6.resolve_left (by omega)
      rw [q1] at k1; cases k1
      subst q3
      have hnl : wss.flatten.length = new.length * te.size := by rw [hev.len, (RELs_iff.1 hrel).len]
      have hm1 : ro * te.size ≤ len * te.size := Nat.mul_le_mul_right _ hro
      have hm2 : (len + new.length) * te.size ≤ bi.cap * te.size := Nat.mul_le_mul_right _ (by omega)
      rw [Nat.add_mul] at hm2
      have hsub : Owns w (O b) (a0.add (len * te.size)) 0 wss.flatten.length := k7.sub k2 hm1 (by omega)
      have hsp := Addr.add_spot a0 (len * te.size) k2
      have hrun := run_append_room_put (w := w) (ty := ty) hk i1 hs (base := some a0) (sLen := len) (sCap := cap) hfit (a := a0) (fun _ => rfl) k2 (fun j hj => by rw [i2]; exact (hsub j (Nat.zero_le _) hj).2)
      rw [i2] at hrun
      have hXY : X.le h.length (X.withM b bk) := ⟨.refl _, fun c ci hc e => by
       by_cases hcb : c = b
       ·subst hcb; rw [hMb] at e; cases e
        exact ⟨bk, Cx.withM_same _ _ _, by show bi.g ≤ g + 1; omega, fun hh => absurd hh (by show bi.g ≠ g + 1; omega), fun hh => by rw [b3] at hh; cases hh⟩
       ·exact ⟨ci, by rw [Cx.withM_other _ _ hcb]; exact e, Nat.le_refl _, fun _ => rfl, fun _ => rfl⟩, fun _ _ e => e⟩
      have hlt : (X.withM b bk).lt h.length := fun c ci e => by
       by_cases hcb : c = b
       ·subst hcb; exact hget_lt hb
       ·rw [Cx.withM_other _ _ hcb] at e; exact hr.lt c ci e
      have hO2 : ∀ j, j < wss.flatten.length → O b ((a0.add (len * te.size)).add (0 + j)) := fun j hj => by rw [Nat.zero_add]; exact (hsub j (Nat.zero_le _) hj).1
      have hex : ∀ j, j < wss.flatten.length → ∃ u, w.cell? ((a0.add (len * te.size)).add (0 + j)) = some u := fun j hj => by rw [Nat.zero_add]; exact (hsub j (Nat.zero_le _) hj).2.1
      have hfl0 : wss0.flatten.length = l.length * te.size := by rw [Even.len k4, (RELs_iff.1 k3).len]
      have hm3 : len * te.size ≤ l.length * te.size := Nat.mul_le_mul_right _ hlen
      have hcells : cellsAt (putCells w (a0.add (len * te.size)) wss.flatten 0).cell? a0 ((wss0.take len) ++ wss).flatten := fun j v e => by
       rw [List.flatten_append, Even.flatten_take k4] at e
       have htl : (wss0.flatten.take (len * te.size)).length = len * te.size := by rw [List.length_take, hfl0]; omega
       by_cases hj : j < len * te.size
       ·rw [List.getElem?_append_left (by rw [htl]; exact hj)] at e
        rw [putCells_other _ wss.flatten w 0 _ (fun m hm he => by rw [Nat.zero_add, Addr.add_add a0 _ _ k2] at he; have := Addr.add_inj k2 he; omega)]
        exact (k5.take _) j v e
       ·rw [List.getElem?_append_right (by rw [htl]; omega), htl] at e
        have := putCells_at (a0.add (len * te.size)) hsp wss.flatten w 0 hex (j - len * te.size) v e
        rw [Nat.zero_add, Addr.add_add a0 _ _ k2, show len * te.size + (j - len * te.size) = j from by omega] at this
        exact this
      have hput := hr.put (hget_lt hb) hXY rfl (fun c hc => Cx.withM_other _ _ hc) hlt (a0.add (len * te.size)) hsp wss.flatten 0 hO2 hex (.arr (g + 1) te.size ro (l.take len ++ new)) ⟨bk, Cx.withM_same _ _ _, rfl, rfl, ⟨by rw [hlen2]; exact hfit, by rw [hlen2]; omega⟩, by show cap ≤ LMX; omega, .inr ⟨rfl, a0, wss0.take len ++ wss, q1, k2,
       RELs_iff.2 (((RELs_iff.1 k3).take len).app (RELs_iff.1 hrel)), (Even.take k4 len).app hev, hcells, ?_, ?_⟩⟩
      ·refine ⟨_, _, _, O, hrun, hput, ⟨hXY, below_block (fun hne => own_block hr hsub (Nat.le_refl _) (by cases hq : wss.flatten with | nil => exact absurd hq hne | cons _ _ => simp)), fun a v e hn => (by simp only [Cx.withM] at e; rw [hn] at e; cases e), fun _ _ e l => putCells_obj _ (lp_not_cells l) _ w 0 e⟩, ?_, by rw [hput_len, if_pos (hget_lt hb)]; exact Nat.le_refl _, FR.put hr hb (fun c hc => Cx.withM_other _ _ hc) _ wss.flatten 0 hO2 _⟩
       simp only [VREL]
       exact ⟨_, rfl, ⟨some a0, cap, rfl, hfit, by omega, .inr ⟨a0, rfl⟩⟩, bk, Cx.withM_same _ _ _, Nat.le_refl _, fun _ => ⟨some a0, cap, rfl, hfit, by omega, by show 0 + cap ≤ cap; omega, (fun h => by cases h), .inr ⟨a0, q1, k2, by simp⟩⟩⟩
      ·rw [List.flatten_append, Even.flatten_take k4, List.take_append_of_le_length (by rw [List.length_take, hfl0]; omega), List.take_take, Nat.min_eq_left hm1]
       exact k6
      ·exact fun j h1 h2 => k7.put _ hsp wss.flatten 0 hex j h1 (Nat.lt_of_lt_of_le h2 (Nat.mul_le_mul_right _ w4))
    ·-- in new memory
     obtain ⟨cap2, rest, w', g1, g2, g3, g4, g5, g6⟩ := run_append_grow_ok (w := w) (ty := ty) hok hz hk (base := a) (sLen := len) (sCap := cap) (olds := wo.flatten) o3 hs (by omega) hroom
     have hfl : wo.flatten ++ wss.flatten = (wo ++ wss).flatten := by simp
     rw [hfl] at g2 g4
     obtain ⟨X', O', q1, q2, q3, q4, q5⟩ := HR.regrow hr hb hMb b2 b3 (g3.mono hr.wb) g2 (s := te.size) (cap := cap2) (ro := ro) (l := l.take len ++ new) (wss := wo ++ wss) (rest := rest) g4 g6 (by rw [hlen2]; exact g5) (by rw [hlen2]; omega) (RELs_iff.2 ((RELs_iff.1 o1).app (RELs_iff.1 hrel))) (o2.app hev) rfl
     rw [hlen2] at q3
     exact ⟨_, _, X', O', g1, q1, q2, q3, q4, q5⟩
  ·cases e
 ·rename_i l
  obtain ⟨hc, e⟩ := bif_some e
  rw [Bool.and_eq_true] at hc
  obtain ⟨hf, hroom⟩ := hc
  cases e
  rw [llen_eq, llen_eq] at hroom ⊢
  simp only [VREL] at rs
  obtain ⟨y, ey, a, n, e1, e2, e3, e4⟩ := rs
  cases ey; subst e1
  obtain ⟨wo, o1, o2, o3⟩ : ∃ wo, RELs X.C l false wo ∧ Even te.size wo ∧ (n = 0 ∧ wo.flatten = [] ∨ ∃ a0, a = some a0 ∧ a0.spot = none ∧ wo.flatten.length = n * te.size ∧ cellsAt X.C a0 wo.flatten) := by
   by_cases hz0 : n = 0
   ·have : l = [] := List.eq_nil_of_length_eq_zero (by omega)
    subst this
    exact ⟨[], by simp [RELs], (fun _ h => by cases h), .inl ⟨hz0, rfl⟩⟩
   ·obtain ⟨a0, wss0, s0, q1, q2, q3, q4, q5⟩ := e4.resolve_left hz0
    have hs0 := firstWd_of hf q3 q4 (fun h => by subst h; simp at e2; exact hz0 e2)
    subst hs0
    exact ⟨wss0, q3, q4, .inr ⟨a0, q1, q2, by rw [Even.len q4, (RELs_iff.1 q3).len, e2], q5⟩⟩
  cases hni : isNone new with
  | true =>
   have := isNone_iff.1 hni; subst this
   simp only [cond_true, List.append_nil, List.length_nil, Nat.add_zero]
   have hnn : wss.flatten = [] := no_news hs rfl
   rw [hnn, ← i2] at hs
   have hrun := run_append_room_put (w := w) (ty := ty) hk i1 hs (base := a) (sLen := n) (sCap := n) (by simp) (a := ⟨0, 0, none⟩) (fun h => absurd rfl h) rfl (fun j hj => by simp at hj)
   simp only [putCells, Nat.add_zero, List.length_nil] at hrun
   have hcast : ∀ b : Addr, a = some b → True := fun _ _ => trivial
   let bi : BI := ⟨0, a, te.size, n, false⟩
   have hbr : BR (X.withM nid bi) w (fun _ => False) nid (.arr 0 te.size l.length l) := by
    refine ⟨bi, Cx.withM_same _ _ _, rfl, rfl, ⟨by show l.length ≤ n; omega, Nat.le_refl _⟩, e3, ?_⟩
    rcases o3 with ⟨h0, _⟩ | ⟨a0, p1, p2, p3, p4⟩
    ·exact .inl h0
    ·refine .inr ⟨rfl, a0, wo, p1, p2, o1, o2, fun j v e => hr.ci _ _ (p4 j v e), fun j v e => p4 j v (by rw [List.getElem?_take] at e; split at e; exact e; cases e), fun j h1 h2 => ?_⟩
     exfalso
     have : n = l.length := e2
     show False
     rw [← this] at h1
     exact absurd h2 (by show ¬ j < n * te.size; omega)
   refine ⟨_, w, X.withM nid bi, _, hrun, hr.add hn hM hle (.refl w) (Nat.le_refl _) bi (fun _ => False) _ (fun _ h => h.elim) hbr, Up.add hM (.refl _ _) (.refl w) _ bi, ?_, ?_, .add hM hle (.refl w) bi _ _⟩
   ·simp only [VREL]
    have hnl : n = l.length := e2
    refine ⟨_, rfl, ⟨a, n, by rw [hnl], by omega, by rw [← hnl]; exact e3, ?_⟩, bi, Cx.withM_same _ _ _, Nat.le_refl _, fun _ => ⟨a, n, by rw [hnl], by omega, by rw [← hnl]; exact e3, by show 0 + n ≤ n; omega, (fun h => by cases h), ?_⟩⟩
    ·rcases o3 with ⟨h0, _⟩ | ⟨a0, p1, _⟩
     ·exact .inl h0
     ·exact .inr ⟨a0, p1⟩
    ·rcases o3 with ⟨h0, _⟩ | ⟨a0, p1, p2, _⟩
     ·exact .inl h0
     ·exact .inr ⟨a0, p1, p2, by rw [Nat.zero_mul, Addr.add_zero]; exact p1⟩
   ·rw [hput_len]; split <;> omega
  | false =>
   simp only [cond_false]
   have hpos : 0 < new.length := by
    rcases Nat.eq_zero_or_pos new.length with h | h
    ·have := List.eq_nil_of_length_eq_zero h; subst this; cases hni
    ·exact h
   obtain ⟨cap2, rest, w', g1, g2, g3, g4, g5, g6⟩ := run_append_grow_ok (w := w) (ty := ty) hok hz hk (base := a) (sLen := n) (sCap := n) (olds := wo.flatten) (o3.imp id (fun ⟨a0, p1, _, p3, p4⟩ => ⟨a0, p1, p3, fun j v e => hr.ci _ _ (p4 j v e)⟩)) hs (by omega) (by rw [e2]; exact hroom)
   have hfl : wo.flatten ++ wss.flatten = (wo ++ wss).flatten := by simp
   rw [hfl] at g2 g4
   have hlen2 : (l ++ new).length = n + new.length := by rw [List.length_append, e2]
   obtain ⟨X', O', q1, q2, q3, q4, q5⟩ := newData_sound hr hn hM hle (g3.mono hr.wb) g2 (s := te.size) (cap := cap2) (l := l ++ new) (wss := wo ++ wss) (rest := rest) g4 g6 (by rw [hlen2]; exact g5) (RELs_iff.2 ((RELs_iff.1 o1).app (RELs_iff.1 hrel))) (o2.app hev) rfl
   rw [hlen2] at q3
   rw [← e2]
   exact ⟨_, _, X', O', g1, q1, q2, q3, q4, q5⟩
 ·cases e
end
end Go.As
/-
 AS: appends to arrays of values.
-/
namespace Go.As
open Go.RowKit (Below)
variable [Gh]
section
variable {P : Program} {B : Nat} {X : Cx} {O : Nat → Addr → Prop} {w : World} {h : Heap} {E : Env}
theorem allOkV_mem {te : TI} : ∀ {l : List V}, allOkV te l = true → ∀ v ∈ l, okV te v = true
 | [], _, v, hv => by cases hv
 | u :: l, e, v, hv => by
  have e : (bif okV te u then allOkV te l else false) = true := e
  cases hu : okV te u with
  | false => rw [hu] at e; cases e
  | true =>
   rw [hu, cond_true] at e
   rcases List.mem_cons.1 hv with rfl | hv
   ·exact hu
   ·exact allOkV_mem e v hv
theorem vals_even {te : TI} {l : List V} (hl : allOkV te l = true) {wss : List (List Value)} (r : VRELs X l false wss) : Even te.size wss := by
 have h1 := allOkV_mem hl
 clear hl
 intro ws hw
 induction l generalizing wss with
 | nil => simp only [VRELs] at r; subst r; cases hw
 | cons v l ih =>
  simp only [VRELs] at r
  obtain ⟨ws', r', rfl, r1, r2⟩ := r
  rcases List.mem_cons.1 hw with rfl | hw
  ·have := VREL.wd r1
   rw [this]; exact (okV_iff (h1 v (by simp))).1
  ·exact ih r2 (fun u hu => h1 u (by simp [hu])) hw
theorem velems_sound (hr : HR B X O w h) {x : V} {new : List V} (e : x.velems h = some new) {vx : Value} (r : VREL X x true [vx]) :
  ∃ a n cap, vx = .slice a n cap ∧ n = new.length ∧ (n = 0 ∨ ∃ a0 wss, a = some a0 ∧ VRELs X new false wss ∧ cellsAt w.cell? a0 wss.flatten) := by
 have base : (x.delems h).map imap = some new → ∃ a n cap, vx = .slice a n cap ∧ n = new.length ∧ (n = 0 ∨ ∃ a0 wss, a = some a0 ∧ VRELs X new false wss ∧ cellsAt w.cell? a0 wss.flatten) := fun e => by
  obtain ⟨l, hl, e⟩ := Option.map_eq_some_iff.1 e
  subst e
  obtain ⟨a, n, cap, q1, q2, _, _, q5⟩ := delems_cells hr hl r
  refine ⟨a, n, cap, q1, by rw [imap_eq, List.length_map]; exact q2, q5.imp id ?_⟩
  rintro ⟨a0, wss, s, k1, _, k3, _, k5⟩
  exact ⟨a0, wss, k1, by rw [imap_eq]; exact VRELs_im.2 k3, k5⟩
 unfold V.velems at e
 split at e
 ·rename_i b g off len lim
  split at e
  ·rename_i g' sz l' hb
   obtain ⟨hc, e⟩ := bif_some e
   cases e
   obtain ⟨hg, hol⟩ := cutOk_iff hc
   rw [cutAll_eq l' off len hol]
   simp only [VREL] at r
   obtain ⟨y, ey, _, bi, hM, hgb, hown⟩ := r
   cases ey
   obtain ⟨bj, h1, h2, h3, h4, h5, h6⟩ := hr.blk b _ hb
   rw [hM] at h1; cases h1
   obtain ⟨a, cap, e1, e2, e3, e4, e5, e6⟩ := hown (by rw [h2]; exact hg)
   subst e1
   have hll : ((l'.drop off).take len).length = len := by rw [List.length_take, List.length_drop]; omega
   refine ⟨a, len, cap, rfl, hll.symm, ?_⟩
   by_cases hz : len = 0
   ·exact .inl hz
   ·right
    rcases e6 with e6 | ⟨a0, q1, q2, q3⟩
    ·omega
    ·rcases h6 with h6 | ⟨es, a1, wss, k1, k2, k3, k4, k5, k6⟩
     ·omega
     ·rw [q1] at k1; cases k1
      refine ⟨_, (wss.drop off).take len, q3, VRELs_iff.2 (((VRELs_iff.1 k3).drop off).take len), ?_⟩
      rw [Even.flatten_take (Even.drop k4 off), Even.flatten_drop k4, es]
      exact (k5.drop q2 (off * sz)).take _
  ·exact base e
 ·exact base e
theorem VRELs.ones2 {X : Cx} : ∀ {l : List V} {wss : List (List Value)}, VRELs X l false wss → ∀ v ∈ wss.flatten, v.oneCell' = true
 | [], wss, r, v, hv => by simp only [VRELs] at r; subst r; cases hv
 | u :: l, wss, r, v, hv => by
  simp only [VRELs] at r
  obtain ⟨ws, r', rfl, r1, r2⟩ := r
  rw [List.flatten_cons, List.mem_append] at hv
  rcases hv with hv | hv
  ·exact VREL.ones r1 v hv
  ·exact VRELs.ones2 r2 v hv
theorem newVals_src (hE : EnvTy P E) (hr : HR B X O w h) {te : TI} {tx : Nat} {x : V} {new : List V} (hk : ∃ k, E.kind tx = some (.slc k)) (e : x.velems h = some new) (hok : allOkV te new = true) {vx : Value} (r : VREL X x true [vx]) :
  ∃ wss, Src P te.size tx vx new.length wss.flatten w ∧ VRELs X new false wss ∧ Even te.size wss := by
 obtain ⟨k, hk⟩ := hk
 unfold Env.kind at hk
 cases ht : E.ty tx with
 | none => rw [ht] at hk; cases hk
 | some ti =>
 rw [ht] at hk
 have hkk := (hE.ty tx ti ht).kind
 simp only [Option.map_some] at hk
 rw [Option.some.inj hk] at hkk; simp only [KindOk] at hkk
 obtain ⟨a, n, cap, e1, e2, e5⟩ := velems_sound hr e r
 subst e1
 by_cases hz : n = 0
 ·subst hz
  have hn : new = [] := List.eq_nil_of_length_eq_zero e2.symm
  subst hn
  refine ⟨[], ?_, by simp [VRELs], fun _ h => by cases h⟩
  cases a with
  | none => exact Src.ofNil w hkk cap
  | some a0 => exact Src.ofSlice w hkk a0 0 cap [] (by simp) (fun j u e => by simp at e) (fun _ h => by cases h)
 ·obtain ⟨a0, wss, q1, q3, q5⟩ := e5.resolve_left hz
  subst q1
  have q4 := vals_even hok q3
  refine ⟨wss, ?_, q3, q4⟩
  rw [← e2]
  exact Src.ofSlice w hkk a0 n cap wss.flatten (by rw [q4.len, (VRELs_iff.1 q3).len, e2]) q5 (VRELs.ones2 q3)
theorem HR.regrowV (hr : HR B X O w h) {w' : World} {b g s0 : Nat} {l0 : List V} {bi : BI} (hb : hget h b = some (.arv g s0 l0)) (hM : X.M b = some bi) (hg : bi.g = g) (hfx : bi.fix = false) (hB : Below B w w') {cs : List Value} (hw : NewRow w w' cs)
  {s cap : Nat} {l : List V} {wss : List (List Value)} {rest : List Value} (hcs : cs.length = cap * s) (hcap : cap ≤ LMX) (hlen : l.length ≤ cap) (hl : VRELs X l false wss) (hev : Even s wss) (hrest : cs = wss.flatten ++ rest) :
  ∃ X' O', HR B X' O' w' (hput h b (.arv (g + 1) s l)) ∧ Up B X w h.length X' w' ∧ VREL X' (.own b (g + 1) 0 l.length false) true [.slice (some ⟨w.heap.size, 0, none⟩) l.length cap] ∧ h.length ≤ (hput h b (.arv (g + 1) s l)).length ∧ FR X O w h X' O' w' (hput h b (.arv (g + 1) s l)) := by
 have hbl := hget_lt hb
 have hle := Nat.le_of_lt hbl
 let a0 : Addr := ⟨w.heap.size, 0, none⟩
 let bj : BI := ⟨g + 1, some a0, s, cap, false⟩
 let Q : Nat → Addr → Prop := fun c => if c = b then fun a => ∃ j, j < cap * s ∧ a = a0.add j else O c
 have hQb : ∀ a, (∃ j, j < cap * s ∧ a = a0.add j) → Q b a := fun a hh => by simp only [Q, if_pos]; exact hh
 have hQo : ∀ c a, c ≠ b → O c a → Q c a := fun c a hc hh => by simp only [Q, if_neg hc]; exact hh
 have hsz := hw.size
 have hC0 : ∀ a v, X.C a = some v → a.block < w.heap.size := fun a v e => World.block_lt_of_cell? w a (hr.ci a v e)
 have hnew : ∀ j, (a0.add j).block = w.heap.size := fun j => by rw [Addr.add_block]
 have hXY : X.le h.length (X.withM b bj) := ⟨.refl _, fun c ci hc e => by
  by_cases hcb : c = b
  ·subst hcb; rw [hM] at e; cases e
   exact ⟨bj, Cx.withM_same _ _ _, by show bi.g ≤ g + 1; omega, fun hh => absurd hh (by show bi.g ≠ g + 1; omega), fun hh => by rw [hfx] at hh; cases hh⟩
  ·exact ⟨ci, by rw [Cx.withM_other _ _ hcb]; exact e, Nat.le_refl _, fun _ => rfl, fun _ => rfl⟩, fun _ _ e => e⟩
 have hcell : cellsAt w'.cell? a0 cs := fun j v e => by rw [show a0.add j = ⟨w.heap.size, j, none⟩ from addr_new _ _]; exact hw.cell j v e
 refine ⟨X.withM b bj, Q, ⟨fun c k e => ?_, fun c a o => ?_, fun c d a o o' => ?_, fun c ci e => ?_, hr.ci.keep hw.keep, Nat.le_trans hr.wb (Nat.le_of_lt hsz)⟩, ⟨hXY, hB, fun a v e hn => (by simp only [Cx.withM] at e; rw [hn] at e; cases e), fun r o e _ => hw.keep.obj r o e⟩, ?_, ?_, ⟨fun c ci e hn => ?_, fun c ci e hn => ?_, fun c ci e hn a o => ?_, fun c ci e hn a o v ev => ⟨hw.keep.cell _ _ ev, hw.keep.frozen _ _ ev⟩, fun c ci e hn r o ob eo _ => hw.keep.obj _ _ eo, fun c ci e hn g' _ hg' => hw.keep.block g' hg', fun c e => ?_, fun c _ e hn => ?_⟩⟩
 ·rw [hget_hput h b c _ hle] at e
  by_cases hcb : c = b
  ·subst hcb
   simp only [if_true] at e; cases e
   refine ⟨bj, Cx.withM_same _ _ _, rfl, rfl, hlen, hcap, .inr ⟨rfl, a0, wss, rfl, rfl, hl.mono hXY _ _ _ (VRELs.low hr.lt _ _ _ hl), hev, ?_, ?_⟩⟩
   ·exact fun j v e => hcell j v (by rw [hrest, List.getElem?_append_left (List.getElem?_eq_some_iff.1 e).1]; exact e)
   ·intro j _ h2
    have hj2 : j < cs.length := by rw [hcs]; exact h2
    refine ⟨hQb _ ⟨j, h2, rfl⟩, ⟨cs[j], hcell j _ (by simp [hj2])⟩, ?_⟩
    rw [show a0.add j = ⟨w.heap.size, j, none⟩ from addr_new _ _]; exact hw.frozen j hj2
  ·simp only [if_neg hcb] at e
   exact (hr.blk c k e).later hr.lt hXY (Cx.withM_other _ _ hcb) hw.keep (fun a o => hQo c a hcb o)
 ·by_cases hcb : c = b
  ·have o : (if c = b then fun a => ∃ j, j < cap * s ∧ a = a0.add j else O c) a := o
   rw [if_pos hcb] at o
   obtain ⟨j, h2, rfl⟩ := o
   refine ⟨by rw [hnew]; exact hr.wb, by rw [hnew]; exact hsz, ?_⟩
   show X.C _ = none
   cases hx : X.C (a0.add j) with
   | none => rfl
   | some v => have := hC0 _ v hx; rw [hnew] at this; omega
  ·have o : (if c = b then fun a => ∃ j, j < cap * s ∧ a = a0.add j else O c) a := o
   rw [if_neg hcb] at o
   obtain ⟨q1, q2, q3⟩ := hr.own c a o
   exact ⟨q1, by omega, q3⟩
 ·have o : (if c = b then fun a => ∃ j, j < cap * s ∧ a = a0.add j else O c) a := o
  have o' : (if d = b then fun a => ∃ j, j < cap * s ∧ a = a0.add j else O d) a := o'
  by_cases hcb : c = b <;> by_cases hdb : d = b
  ·rw [hcb, hdb]
  ·rw [if_pos hcb] at o; rw [if_neg hdb] at o'
   obtain ⟨j, _, rfl⟩ := o
   have := (hr.own d _ o').2.1; rw [hnew] at this; omega
  ·rw [if_neg hcb] at o; rw [if_pos hdb] at o'
   obtain ⟨j, _, rfl⟩ := o'
   have := (hr.own c _ o).2.1; rw [hnew] at this; omega
  ·rw [if_neg hcb] at o; rw [if_neg hdb] at o'
   exact hr.dis c d a o o'
 ·rw [hput_len, if_pos hbl]
  by_cases hcb : c = b
  ·rw [hcb]; exact hbl
  ·rw [Cx.withM_other _ _ hcb] at e; exact hr.lt c ci e
 ·simp only [VREL]
  refine ⟨_, rfl, ⟨_, _, rfl, hlen, by omega, .inr ⟨_, rfl⟩⟩, bj, Cx.withM_same _ _ _, Nat.le_refl _, fun _ => ⟨_, _, rfl, hlen, by omega, by show 0 + cap ≤ cap; omega, (fun h => by cases h), .inr ⟨a0, rfl, rfl, by simp [a0]⟩⟩⟩
 ·rw [hput_len, if_pos hbl]; exact Nat.le_refl _
 ·have hcb : c ≠ b := fun hh => by subst hh; rw [hb] at hn; cases hn
  rw [hget_hput h b c _ hle, if_neg hcb]; exact hn
 ·have hcb : c ≠ b := fun hh => by subst hh; rw [hb] at hn; cases hn
  rw [Cx.withM_other _ _ hcb]; exact e
 ·have hcb : c ≠ b := fun hh => by subst hh; rw [hb] at hn; cases hn
  exact hQo c a hcb o
 ·rw [hget_hput h b c _ hle] at e
  split at e
  ·cases e
  ·exact e
 ·rw [hget_hput h b c _ hle] at hn
  split at hn
  ·cases hn
  ·rename_i hcb; rw [Cx.withM_other _ _ hcb]; exact e
theorem appendV_sound (hr : HR B X O w h) {nid t tx ty el : Nat} {te : TI} (hok : TyOk P el te) (hz : okV te te.zero = true) (hk : P.underlying t = some (.slice el)) (hn : hget h nid = none) (hM : X.M nid = none) (hle : nid ≤ h.length) {s v : V} {new : List V} {h' : Heap}
  (e : appendV te nid s new h = some (v, h')) {vs vx : Value} (rs : VREL X s true [vs]) {wss : List (List Value)} (hs : Src P te.size tx vx new.length wss.flatten w) (hrel : VRELs X new false wss) (hev : Even te.size wss) :
  OpS P B X O w h (Builtin.append_ #[t, tx] ty #[vs, vx]) v h' := by
 obtain ⟨i, i1, i2, i3, i4⟩ := hok.info
 unfold appendV at e
 split at e
 ·rename_i b g off len lim
  simp only [VREL] at rs
  obtain ⟨y, ey, ⟨a, cap, e1, e2, e3, e4⟩, bi, hMb, hgb, hown⟩ := rs
  cases ey; subst e1
  split at e
  ·rename_i g' sz l hb
   obtain ⟨bj, b1, b2, b3, b4, b5, b6⟩ := hr.blk b _ hb
   rw [hMb] at b1; cases b1
   obtain ⟨hc, e2'⟩ := bif_some e
   clear e
   cases e2'
   simp only [Bool.and_eq_true] at hc
   obtain ⟨hlim, hcut, hoff, hsz, hroom⟩ := hc
   obtain ⟨hgg, hol⟩ := cutOk_iff hcut
   subst hgg
   have hoff := beq_of hoff; subst hoff
   have hsz := beq_of hsz; subst hsz
   rw [llen_eq] at hroom ⊢
   have hlen : len ≤ l.length := by omega
   rw [take_whole hlen]
   have hll : (l.take len).length = len := by rw [List.length_take]; omega
   have hlen2 : (l.take len ++ new).length = len + new.length := by rw [List.length_append, hll]
   obtain ⟨a', cap', w1, w2, w3, w4, _, w6⟩ := hown b2.symm
   cases w1
   rw [Nat.zero_add] at w4
   obtain ⟨wo, o1, o2, o3⟩ : ∃ wo, VRELs X (l.take len) false wo ∧ Even te.size wo ∧ (len = 0 ∧ wo.flatten = [] ∨ ∃ a0, a = some a0 ∧ wo.flatten.length = len * te.size ∧ ∀ j v, wo.flatten[j]? = some v → w.cell? (a0.add j) = some v) := by
    by_cases hz0 : len = 0
    ·subst hz0; exact ⟨[], by simp [VRELs], (fun _ h => by cases h), .inl ⟨rfl, rfl⟩⟩
    ·rcases w6 with w6 | ⟨a0, q1, q2, q3⟩
     ·omega
     ·rcases b6 with b6 | ⟨es, a1, wss0, k1, k2, k3, k4, k5, k6⟩
      ·omega
      ·rw [q1] at k1; cases k1
       rw [Nat.zero_mul, Addr.add_zero] at q3
       refine ⟨wss0.take len, VRELs_iff.2 ((VRELs_iff.1 k3).take len), Even.take k4 len, .inr ⟨_, q3, ?_, ?_⟩⟩
       ·rw [(Even.take k4 len).len, ((VRELs_iff.1 k3).take len).len, hll]
       ·rw [Even.flatten_take k4]
        exact k5.take _
   by_cases hfit : len + new.length ≤ cap
   ·-- in its place
    rw [← i2] at hs
    let bk : BI := ⟨g + 1, bi.base, te.size, cap, false⟩
    have hXY : X.le h.length (X.withM b bk) := ⟨.refl _, fun c ci hc e => by
     by_cases hcb : c = b
     ·subst hcb; rw [hMb] at e; cases e
      exact ⟨bk, Cx.withM_same _ _ _, by show bi.g ≤ g + 1; omega, fun hh => absurd hh (by show bi.g ≠ g + 1; omega), fun hh => by rw [b3] at hh; cases hh⟩
     ·exact ⟨ci, by rw [Cx.withM_other _ _ hcb]; exact e, Nat.le_refl _, fun _ => rfl, fun _ => rfl⟩, fun _ _ e => e⟩
    have hlt : (X.withM b bk).lt h.length := fun c ci e => by
     by_cases hcb : c = b
     ·subst hcb; exact hget_lt hb
     ·rw [Cx.withM_other _ _ hcb] at e; exact hr.lt c ci e
    by_cases hcz : cap = 0
    ·have hl0 : len = 0 := by omega
     have hn0 : new.length = 0 := by omega
     have hnn : wss.flatten = [] := no_news hs hn0
     rw [hnn] at hs
     have hrun := run_append_room_put (w := w) (ty := ty) hk i1 hs (base := a) (sLen := len) (sCap := cap) hfit (a := ⟨0, 0, none⟩) (fun h => absurd rfl h) rfl (fun j hj => by simp at hj)
     simp only [putCells] at hrun
     have hput := hr.put (hget_lt hb) hXY rfl (fun c hc => Cx.withM_other _ _ hc) hlt ⟨0, 0, none⟩ rfl [] 0 (fun j hj => by simp at hj) (fun j hj => by simp at hj) (.arv (g + 1) te.size (l.take len ++ new)) ⟨bk, Cx.withM_same _ _ _, rfl, rfl, by rw [hlen2]; exact hfit, by simp only [LMX]; show cap ≤ _; omega, .inl hcz⟩
     refine ⟨_, w, _, O, hrun, hput, ⟨hXY, .refl _ _, fun a v e hn => (by simp only [Cx.withM] at e; rw [hn] at e; cases e), fun _ _ e _ => e⟩, ?_, by rw [hput_len, if_pos (hget_lt hb)]; exact Nat.le_refl _, FR.put hr hb (fun c hc => Cx.withM_other _ _ hc) ⟨0, 0, none⟩ [] 0 (fun j hj => by simp at hj) _⟩
     simp only [VREL]
     rw [show len + new.length = 0 from by omega]
     exact ⟨_, rfl, ⟨a, cap, rfl, Nat.zero_le _, by decide, .inl hcz⟩, bk, Cx.withM_same _ _ _, Nat.le_refl _, fun _ => ⟨a, cap, rfl, Nat.zero_le _, by decide, by show 0 + cap ≤ cap; omega, (fun h => by cases h), .inl hcz⟩⟩
    ·obtain ⟨a0, q1, q2, q3⟩ := w6.resolve_left hcz
     rw [Nat.zero_mul, Addr.add_zero] at q3
     obtain ⟨es, a1, wss0, k1, k2, k3, k4, k5, k7⟩ := b6.resolve_left (by omega)
     rw [q1] at k1; cases k1
     subst q3
     have hnl : wss.flatten.length = new.length * te.size := by rw [hev.len, (VRELs_iff.1 hrel).len]
     have hm2 : (len + new.length) * te.size ≤ bi.cap * te.size := Nat.mul_le_mul_right _ (by omega)
     rw [Nat.add_mul] at hm2
     have hsub : Owns w (O b) (a0.add (len * te.size)) 0 wss.flatten.length := k7.sub k2 (Nat.zero_le _) (by omega)
     have hsp := Addr.add_spot a0 (len * te.size) k2
     have hrun := run_append_room_put (w := w) (ty := ty) hk i1 hs (base := some a0) (sLen := len) (sCap := cap) hfit (a := a0) (fun _ => rfl) k2 (fun j hj => by rw [i2]; exact (hsub j (Nat.zero_le _) hj).2)
     rw [i2] at hrun
     have hO2 : ∀ j, j < wss.flatten.length → O b ((a0.add (len * te.size)).add (0 + j)) := fun j hj => by rw [Nat.zero_add]; exact (hsub j (Nat.zero_le _) hj).1
     have hex : ∀ j, j < wss.flatten.length → ∃ u, w.cell? ((a0.add (len * te.size)).add (0 + j)) = some u := fun j hj => by rw [Nat.zero_add]; exact (hsub j (Nat.zero_le _) hj).2.1
     have hfl0 : wss0.flatten.length = l.length * te.size := by rw [Even.len k4, (VRELs_iff.1 k3).len]
     have hm3 : len * te.size ≤ l.length * te.size := Nat.mul_le_mul_right _ hlen
     have hcells : cellsAt (putCells w (a0.add (len * te.size)) wss.flatten 0).cell? a0 ((wss0.take len) ++ wss).flatten := fun j v e => by
      rw [List.flatten_append, Even.flatten_take k4] at e
      have htl : (wss0.flatten.take (len * te.size)).length = len * te.size := by rw [List.length_take, hfl0]; omega
      by_cases hj : j < len * te.size
      ·rw [List.getElem?_append_left (by rw [htl]; exact hj)] at e
       rw [putCells_other _ wss.flatten w 0 _ (fun m hm he => by rw [Nat.zero_add, Addr.add_add a0 _ _ k2] at he; have := Addr.add_inj k2 he; omega)]
       exact (k5.take _) j v e
      ·rw [List.getElem?_append_right (by rw [htl]; omega), htl] at e
       have := putCells_at (a0.add (len * te.size)) hsp wss.flatten w 0 hex (j - len * te.size) v e
       rw [Nat.zero_add, Addr.add_add a0 _ _ k2, show len * te.size + (j - len * te.size) = j from by omega] at this
       exact this
     have hlow : V.lows h.length (l.take len ++ new) := VRELs.low hr.lt _ _ _ (VRELs_iff.2 (((VRELs_iff.1 k3).take len).app (VRELs_iff.1 hrel)))
     have hput := hr.put (hget_lt hb) hXY rfl (fun c hc => Cx.withM_other _ _ hc) hlt (a0.add (len * te.size)) hsp wss.flatten 0 hO2 hex (.arv (g + 1) te.size (l.take len ++ new)) ⟨bk, Cx.withM_same _ _ _, rfl, rfl, by rw [hlen2]; exact hfit, by show cap ≤ LMX; omega, .inr ⟨rfl, a0, wss0.take len ++ wss, q1, k2,
      (VRELs_iff.2 (((VRELs_iff.1 k3).take len).app (VRELs_iff.1 hrel))).mono hXY _ _ _ hlow, (Even.take k4 len).app hev, hcells, ?_⟩⟩
     ·refine ⟨_, _, _, O, hrun, hput, ⟨hXY, below_block (fun hne => own_block hr hsub (Nat.le_refl _) (by cases hq : wss.flatten with | nil => exact absurd hq hne | cons _ _ => simp)), fun a v e hn => (by simp only [Cx.withM] at e; rw [hn] at e; cases e), fun _ _ e l => putCells_obj _ (lp_not_cells l) _ w 0 e⟩, ?_, by rw [hput_len, if_pos (hget_lt hb)]; exact Nat.le_refl _, FR.put hr hb (fun c hc => Cx.withM_other _ _ hc) _ wss.flatten 0 hO2 _⟩
      simp only [VREL]
      exact ⟨_, rfl, ⟨some a0, cap, rfl, hfit, by omega, .inr ⟨a0, rfl⟩⟩, bk, Cx.withM_same _ _ _, Nat.le_refl _, fun _ => ⟨some a0, cap, rfl, hfit, by omega, by show 0 + cap ≤ cap; omega, (fun h => by cases h), .inr ⟨a0, q1, k2, by simp⟩⟩⟩
     ·exact fun j h1 h2 => k7.put _ hsp wss.flatten 0 hex j h1 (Nat.lt_of_lt_of_le h2 (Nat.mul_le_mul_right _ w4))
   ·-- in new memory
    obtain ⟨cap2, rest, w', g1, g2, g3, g4, g5, g6⟩ := run_append_grow_ok (w := w) (ty := ty) hok hz hk (base := a) (sLen := len) (sCap := cap) (olds := wo.flatten) o3 hs (by omega) hroom
    have hfl : wo.flatten ++ wss.flatten = (wo ++ wss).flatten := by simp
    rw [hfl] at g2 g4
    obtain ⟨X', O', q1, q2, q3, q4, q5⟩ := HR.regrowV hr hb hMb b2 b3 (g3.mono hr.wb) g2 (s := te.size) (cap := cap2) (l := l.take len ++ new) (wss := wo ++ wss) (rest := rest) g4 g6 (by rw [hlen2]; exact g5) (VRELs_iff.2 ((VRELs_iff.1 o1).app (VRELs_iff.1 hrel))) (o2.app hev) rfl
    rw [hlen2] at q3
    exact ⟨_, _, X', O', g1, q1, q2, q3, q4, q5⟩
  ·cases e
 ·rename_i l
  obtain ⟨hc, e⟩ := bif_some e
  simp only [Bool.and_eq_true] at hc
  obtain ⟨hf, hni, hroom⟩ := hc
  cases e
  rw [llen_eq, llen_eq] at hroom ⊢
  simp only [VREL] at rs
  obtain ⟨y, ey, a, n, e1, e2, e3, e4⟩ := rs
  cases ey; subst e1
  obtain ⟨wo, o1, o2, o3⟩ : ∃ wo, RELs X.C l false wo ∧ Even te.size wo ∧ (n = 0 ∧ wo.flatten = [] ∨ ∃ a0, a = some a0 ∧ a0.spot = none ∧ wo.flatten.length = n * te.size ∧ cellsAt X.C a0 wo.flatten) := by
   by_cases hz0 : n = 0
   ·have : l = [] := List.eq_nil_of_length_eq_zero (by omega)
    subst this
    exact ⟨[], by simp [RELs], (fun _ h => by cases h), .inl ⟨hz0, rfl⟩⟩
   ·obtain ⟨a0, wss0, s0, q1, q2, q3, q4, q5⟩ := e4.resolve_left hz0
    have hs0 := firstWd_of hf q3 q4 (fun h => by subst h; simp at e2; exact hz0 e2)
    subst hs0
    exact ⟨wss0, q3, q4, .inr ⟨a0, q1, q2, by rw [Even.len q4, (RELs_iff.1 q3).len, e2], q5⟩⟩
  have hpos : 0 < new.length := by
   rcases Nat.eq_zero_or_pos new.length with h | h
   ·have := List.eq_nil_of_length_eq_zero h; subst this; cases hni
   ·exact h
  obtain ⟨cap2, rest, w', g1, g2, g3, g4, g5, g6⟩ := run_append_grow_ok (w := w) (ty := ty) hok hz hk (base := a) (sLen := n) (sCap := n) (olds := wo.flatten) (o3.imp id (fun ⟨a0, p1, _, p3, p4⟩ => ⟨a0, p1, p3, fun j v e => hr.ci _ _ (p4 j v e)⟩)) hs (by omega) (by rw [e2]; exact hroom)
  have hfl : wo.flatten ++ wss.flatten = (wo ++ wss).flatten := by simp
  rw [hfl] at g2 g4
  have hlen2 : (imap l ++ new).length = n + new.length := by rw [List.length_append, imap_eq, List.length_map, e2]
  obtain ⟨X', O', q1, q2, q3, q4, q5⟩ := newVals_sound hr hn hM hle (g3.mono hr.wb) g2 (s := te.size) (cap := cap2) (l := imap l ++ new) (wss := wo ++ wss) (rest := rest) g4 g6 (by rw [hlen2]; exact g5) (VRELs_iff.2 ((VRELs_iff.1 (by rw [imap_eq]; exact VRELs_im.2 o1)).app (VRELs_iff.1 hrel))) (o2.app hev) rfl
  rw [hlen2] at q3
  rw [← e2]
  exact ⟨_, _, X', O', g1, q1, q2, q3, q4, q5⟩
 ·cases e
end
end Go.As
/-
 AS: cap, delete, copy, append.
-/
namespace Go.As
open Go.RowKit (Below)
variable [Gh]
section
variable {P : Program} {B : Nat} {X : Cx} {O : Nat → Addr → Prop} {w : World} {h : Heap} {E : Env}
theorem cap_sound (hE : EnvTy P E) (hr : HR B X O w h) {t ty : Nat} {ts : Array Nat} (h0 : ts[0]? = some t) {x v : V} {h' : Heap} (e : bCap E t h x = some (v, h')) {vx : Value} (r : VREL X x true [vx]) :
  OpS P B X O w h (Builtin.cap_ ts ty #[vx]) v h' := by
 unfold bCap Env.kind at e
 cases ht : E.ty t with
 | none => rw [ht] at e; simp at e
 | some ti =>
 rw [ht] at e
 have hk := (hE.ty t ti ht).kind
 simp only [Option.map_some] at e
 split at e
 ·rename_i k l hti
  rw [Option.some.inj hti] at hk; simp only [KindOk] at hk
  cases e
  simp only [VREL] at r
  obtain ⟨y, ey, a, n, e1, e2, e3, _⟩ := r
  cases ey; subst e1; rw [llen_eq, ← e2]
  exact .same hr (by simp [Builtin.cap_, h0, run_underlying hk, goInt]) (lenR e3)
 ·cases e
theorem ENT.erase {es : List (D × V)} {ms : List MapEntry} (h : ENT X es ms) (i : Nat) : ENT X (es.eraseIdx i) (ms.eraseIdx i) := ENT_iff.2 ((ENT_iff.1 h).erase i)
theorem map_erase {α β : Type} (f : α → β) : ∀ (l : List α) (i : Nat), (l.eraseIdx i).map f = (l.map f).eraseIdx i
 | [], _ => by simp
 | a :: l, 0 => by simp
 | a :: l, i + 1 => by simp [map_erase f l i]
theorem delete_sound (hE : EnvTy P E) (hr : HR B X O w h) {ty : Nat} {ts : Array Nat} {m k v : V} {h' : Heap} (e : bDelete E ts m k h = some (v, h')) {vm vk : Value} (rm : VREL X m true [vm]) (rk : VREL X k true [vk]) :
  OpS P B X O w h (Builtin.delete_ ts ty #[vm, vk]) v h' := by
 unfold bDelete at e
 split at e
 ·rename_i kt et b kd hkind
  obtain ⟨hkey, e⟩ := bif_some e
  obtain ⟨es, hes, e⟩ := Option.bind_eq_some_iff.1 e
  obtain ⟨i, hi, e⟩ := Option.bind_eq_some_iff.1 e
  obtain ⟨t, h0, hkind⟩ := Option.bind_eq_some_iff.1 hkind
  rw [lget_eq, Array.getElem?_toList] at h0
  unfold Env.kind at hkind
  obtain ⟨ti, ht, hti⟩ := Option.map_eq_some_iff.1 hkind
  have hk := (hE.ty t ti ht).kind
  rw [hti] at hk; simp only [KindOk] at hk
  simp only [VREL] at rk
  obtain ⟨d, hd, hdk⟩ : ∃ d, P.underlying kt = some d ∧ ((∃ k, d = .int k) ∨ d = .string ∨ d = .bool) := by
   rcases okKey_sound hE hkey rk with ⟨k, n, h1, _⟩ | ⟨s, bs, h1, _⟩ | ⟨x, h1, _⟩
   ·exact ⟨_, h1, .inl ⟨_, rfl⟩⟩
   ·exact ⟨_, h1, .inr (.inl rfl)⟩
   ·exact ⟨_, h1, .inr (.inr rfl)⟩
  have hck : ∀ b, (Instr.checkKey b 10000 kt vk).run P w = .ok () w := checkKey_ok hd hdk
  rcases entries_sound hr hes rm with ⟨rfl, _⟩ | ⟨b', r, ms, ck, bi, s, eb, rfl, hb, hM, hg, hf, hbase, ho, hO, hents⟩
  ·simp only [VREL] at rm; obtain ⟨_, _, rm, _⟩ := rm; cases rm
  ·cases eb
   simp only [hb, Option.some.injEq, Prod.mk.injEq] at e
   obtain ⟨rfl, rfl⟩ := e
   have hent := hents.ent
   obtain ⟨q1, q2⟩ := findNow_sound hE hkey rk hd (j := 0) hent hi
   have hlen : ms.toList.length = es.length := (ENT_iff.1 hent).len
   have hU : VREL X (.im (.tup [])) true [.tuple #[]] := by simp only [VREL, REL]; exact ⟨#[], [], rfl, by simp [RELs], rfl⟩
   by_cases hlt : i < es.length
   ·obtain ⟨me, e1, e2, e3⟩ := q1 hlt
    have hfk := run_findKey (w := w) hd e2
    rw [Nat.zero_add] at hfk
    have hent2 : ENT X (es.eraseIdx i) (ms.eraseIdxIfInBounds i).toList := by
     have : (ms.eraseIdxIfInBounds i).toList = ms.toList.eraseIdx i := by simp
     rw [this]; exact hent.erase i
    obtain ⟨s1, s2, s3, s4⟩ := setMap_sound (ck' := ck) (s' := s.eraseIdx i) (c' := ck) hr hb hM hg hf hbase ho hO ⟨hent2, by rw [← hents.born]; simp [map_erase], rfl⟩
    exact ⟨.tuple #[], _, X, O, by simp [Builtin.delete_, h0, run_underlying hk, run_getObj ho rfl, hck, hfk, run_setObj ho rfl], s1, s2, hU, s3, s4⟩
   ·obtain ⟨e1, e2⟩ := q2 hlt
    have hfk := run_findKey (w := w) hd e2
    have hent2 : ENT X (es.eraseIdx i) ms.toList := by rw [List.eraseIdx_of_length_le (by omega)]; exact hent
    obtain ⟨s1, s2, s3, s4⟩ := setMap_sound (ck' := ck) (s' := s.eraseIdx i) (c' := ck) hr hb hM hg hf hbase ho hO ⟨hent2, by rw [← hents.born, List.eraseIdx_of_length_le (by rw [List.length_map]; omega)], rfl⟩
    exact ⟨.tuple #[], _, X, O, by simp [Builtin.delete_, h0, run_underlying hk, run_getObj ho rfl, hck, hfk, run_setObj ho rfl], s1, s2, hU, s3, s4⟩
 ·cases e
theorem splice {α : Type} {l s : List α} {off n : Nat} (hoff : off ≤ l.length) (hn : n ≤ s.length) (hon : off + n ≤ l.length) : (l.take off ++ (s.take n ++ l.drop (off + n))).length = l.length := by
 simp only [List.length_append, List.length_take, List.length_drop]; omega
theorem copy_sound (hE : EnvTy P E) (hr : HR B X O w h) {ty : Nat} {ts : Array Nat} {d s v : V} {h' : Heap} (e : bCopy E ts d s h = some (v, h')) {vd vs : Value} (rd : VREL X d true [vd]) (rs : VREL X s true [vs]) :
  OpS P B X O w h (Builtin.copy_ ts ty #[vd, vs]) v h' := by
 unfold bCopy at e
 obtain ⟨ti, h1, e⟩ := Option.bind_eq_some_iff.1 e
 obtain ⟨t, h0, ht⟩ := Option.bind_eq_some_iff.1 h1
 have hk := (hE.ty t ti ht).kind
 split at e
 ·rename_i el hti
  rw [hti] at hk; simp only [KindOk] at hk
  obtain ⟨te, hte, e⟩ := Option.bind_eq_some_iff.1 e
  obtain ⟨tx, htx, e⟩ := Option.bind_eq_some_iff.1 e
  obtain ⟨_, e⟩ := bif_some e
  obtain ⟨src, hsrc, e⟩ := Option.bind_eq_some_iff.1 e
  rw [lget_eq, Array.getElem?_toList] at h0
  obtain ⟨i, i1, i2, _, _⟩ := (hE.ty _ _ hte).info
  cases d with
  | own b g off len lim =>
   simp only at e
   split at e
   ·rename_i g' sz ro l hb
    obtain ⟨hc, e⟩ := bif_some e
    simp only [Bool.and_eq_true, Bool.not_eq_true'] at hc
    obtain ⟨hne, hcut, hsz, hro, hfw⟩ := hc
    obtain ⟨hgg, hol⟩ := cutOk_iff hcut
    have hsz := beq_of hsz; subst hsz
    have hro := ble_of hro
    rw [llen_eq] at e
    obtain ⟨as, ns, cs, e1, e2, e3, e4, e5⟩ := delems_cells hr hsrc rs
    subst e1
    simp only [VREL] at rd
    obtain ⟨y, ey, ⟨ad, cap, d1, d2, d3, d4⟩, bi, hM, hgb, hown⟩ := rd
    cases ey; subst d1
    obtain ⟨bj, b1, b2, b3, b4, b5, b6⟩ := hr.blk b _ hb
    rw [hM] at b1; cases b1
    obtain ⟨a', cap', w1, w2, w3, w4, _, w6⟩ := hown (by rw [b2]; exact hgg)
    cases w1
    have hmin : Nat.min len src.length = Nat.min ns len := by rw [← e2]; exact Nat.min_comm len ns
    rw [hmin] at e
    generalize hnn : Nat.min ns len = n at e
    have hn1 : n ≤ len := by rw [← hnn]; exact Nat.min_le_right _ _
    have hn2 : n ≤ src.length := by rw [← hnn, ← e2]; exact Nat.min_le_left _ _
    cases e
    have hnR : VREL X (.im (.int .i64 (Int.ofNat n))) true [.int .i64 n] := lenR (by omega)
    have hlen' : (l.take off ++ (src.take n ++ l.drop (off + n))).length = l.length := splice (by omega) hn2 (by omega)
    by_cases hz : n = 0
    ·-- nothing
     subst hz
     have hl : l.take off ++ (src.take 0 ++ l.drop (off + 0)) = l := by simp
     rw [hl]
     have hsame : hput h b (.arr g' te.size ro l) = h := by
      refine List.ext_getElem? fun j => ?_
      have := hget_hput h b j (.arr g' te.size ro l) (Nat.le_of_lt (hget_lt hb))
      have hl2 : (hput h b (.arr g' te.size ro l)).length = h.length := by rw [hput_len, if_pos (hget_lt hb)]
      by_cases hj : j < h.length
      ·rw [hget_eq, hget_eq, List.getElem?_eq_getElem (by omega), List.getElem?_eq_getElem hj] at this
       rw [List.getElem?_eq_getElem (by omega), List.getElem?_eq_getElem hj]
       by_cases hjb : j = b
       ·subst hjb
        rw [if_pos rfl] at this
        have hb' := hb
        rw [hget_eq, List.getElem?_eq_getElem hj] at hb'
        simp at this hb'
        rw [this, hb']
       ·rw [if_neg hjb] at this; simpa using this
      ·rw [List.getElem?_eq_none (by omega), List.getElem?_eq_none (by omega)]
     rw [hsame]
     refine .same hr ?_ hnR
     have hf0 : ∀ sz, (Builtin.firstCells sz 0 (.slice as ns cs)).run P w = .ok #[] w := fun sz => by
      cases as with
      | none => exact run_firstCells_none _ _ _ _ _
      | some a0 => exact run_firstCells_some w sz 0 a0 ns cs [] (by simp) (fun j v e => by simp at e)
     have hst : ∀ a : Addr, (storeCells a [] 0).run P w = .ok () w := fun _ => rfl
     cases ad <;> simp [Builtin.copy_, h0, run_underlying hk, Builtin.lenOf, hnn, sizeOf, typeInfo, i1, hf0, hst, goInt]
    ·obtain ⟨a0s, wsS, ss, q1, q2, q3, q4, q5⟩ := e5.resolve_left (by
      have h9 : n ≤ ns := (hnn ▸ Nat.min_le_left _ _)
      omega)
     subst q1
     have hs0 := firstWd_of hfw q3 q4 (fun h => by subst h; simp at hn2; exact hz hn2)
     subst hs0
     obtain ⟨a0, k1, k2, k3⟩ := w6.resolve_left (by omega)
     obtain ⟨es, a1, wss0, j1, j2, j3, j4, j5, j6, j7⟩ := b6.resolve_left (by omega)
     rw [k1] at j1; cases j1
     rw [es] at k3
     subst k3
     have hsp := Addr.add_spot a0 (off * te.size) k2
     have hlS : wsS.length = src.length := (RELs_iff.1 q3).len
     have hl0 : wss0.length = l.length := (RELs_iff.1 j3).len
     have hnl : (wsS.take n).flatten.length = n * te.size := by rw [(Even.take q4 n).len, List.length_take]; congr 1; omega
     have hm : (off + n) * te.size ≤ bi.cap * te.size := Nat.mul_le_mul_right _ (by omega)
     rw [Nat.add_mul] at hm
     have hm1 : ro * te.size ≤ off * te.size := Nat.mul_le_mul_right _ hro
     have hsub : Owns w (O b) (a0.add (off * te.size)) 0 (wsS.take n).flatten.length := j7.sub k2 hm1 (by rw [hnl]; omega)
     have hO2 : ∀ j, j < (wsS.take n).flatten.length → O b ((a0.add (off * te.size)).add (0 + j)) := fun j hj => by rw [Nat.zero_add]; exact (hsub j (Nat.zero_le _) hj).1
     have hex : ∀ j, j < (wsS.take n).flatten.length → ∃ u, w.cell? ((a0.add (off * te.size)).add (0 + j)) = some u := fun j hj => by rw [Nat.zero_add]; exact (hsub j (Nat.zero_le _) hj).2.1
     have hfl0 : wss0.flatten.length = l.length * te.size := by rw [Even.len j4, hl0]
     have hm3 : (off + n) * te.size ≤ l.length * te.size := Nat.mul_le_mul_right _ (by omega)
     rw [Nat.add_mul] at hm3
     have hfc : (Builtin.firstCells i.size n (.slice (some a0s) ns cs)).run P w = .ok (wsS.take n).flatten.toArray w :=
      run_firstCells_some w i.size n a0s ns cs _ (by rw [hnl, i2]) (fun j v ev => by
       rw [Even.flatten_take q4] at ev
       exact (q5.take _) j v ev)
     have hones : ∀ u ∈ (wsS.take n).flatten, u.oneCell' = true := RELs.ones (RELs_iff.2 ((RELs_iff.1 q3).take n))
     have hst := run_storeCells_put (P := P) (a0.add (off * te.size)) hsp (wsS.take n).flatten w 0 hones (fun j hj => by rw [Nat.zero_add]; exact (hsub j (Nat.zero_le _) hj).2)
     have hcells : cellsAt (putCells w (a0.add (off * te.size)) (wsS.take n).flatten 0).cell? a0 (wss0.take off ++ (wsS.take n ++ wss0.drop (off + n))).flatten := fun j v ev => by
      rw [List.flatten_append, List.flatten_append, Even.flatten_take j4, Even.flatten_drop j4] at ev
      have htl : (wss0.flatten.take (off * te.size)).length = off * te.size := by rw [List.length_take, hfl0]; omega
      by_cases hj : j < off * te.size
      ·rw [List.getElem?_append_left (by rw [htl]; exact hj)] at ev
       rw [putCells_other _ _ w 0 _ (fun m hm he => by rw [Nat.zero_add, Addr.add_add a0 _ _ k2] at he; have := Addr.add_inj k2 he; omega)]
       exact (j5.take _) j v ev
      ·rw [List.getElem?_append_right (by rw [htl]; omega), htl] at ev
       by_cases hj2 : j - off * te.size < n * te.size
       ·rw [List.getElem?_append_left (by rw [hnl]; exact hj2)] at ev
        have := putCells_at (a0.add (off * te.size)) hsp _ w 0 hex (j - off * te.size) v ev
        rw [Nat.zero_add, Addr.add_add a0 _ _ k2, show off * te.size + (j - off * te.size) = j from by omega] at this
        exact this
       ·rw [List.getElem?_append_right (by rw [hnl]; omega), hnl, List.getElem?_drop, Nat.add_mul] at ev
        rw [putCells_other _ _ w 0 _ (fun m hm he => by rw [Nat.zero_add, Addr.add_add a0 _ _ k2] at he; have := Addr.add_inj k2 he; omega)]
        exact j5 j v (by rw [← ev]; congr 1; omega)
     have hput := hr.put (Y := X) (hget_lt hb) (.refl _ _) rfl (fun _ _ => rfl) hr.lt (a0.add (off * te.size)) hsp (wsS.take n).flatten 0 hO2 hex (.arr g' te.size ro (l.take off ++ (src.take n ++ l.drop (off + n)))) ⟨bi, hM, b2, b3, ⟨by rw [hlen']; exact b4.1, by rw [hlen']; exact b4.2⟩, b5, .inr ⟨es, a0, wss0.take off ++ (wsS.take n ++ wss0.drop (off + n)), k1, k2,
      RELs_iff.2 (((RELs_iff.1 j3).take off).app (((RELs_iff.1 q3).take n).app ((RELs_iff.1 j3).drop (off + n)))), (Even.take j4 off).app ((Even.take q4 n).app (Even.drop j4 (off + n))), hcells, ?_, j7.put _ hsp _ 0 hex⟩⟩
     ·refine ⟨_, _, X, O, ?_, hput, ⟨.refl _ _, below_block (fun hne => own_block hr hsub (Nat.le_refl _) (by cases hq : (wsS.take n).flatten with | nil => exact absurd hq hne | cons _ _ => simp)), fun a v e hn => (by rw [hn] at e; cases e), fun _ _ e l => putCells_obj _ (lp_not_cells l) _ w 0 e⟩, hnR, by rw [hput_len, if_pos (hget_lt hb)]; exact Nat.le_refl _, FR.put hr hb (fun _ _ => rfl) _ _ 0 hO2 _⟩
      simp [Builtin.copy_, h0, run_underlying hk, Builtin.lenOf, hnn, sizeOf, typeInfo, i1, hfc, hst, goInt]
     ·rw [List.flatten_append, Even.flatten_take j4, List.take_append_of_le_length (by rw [List.length_take, hfl0]; omega), List.take_take, Nat.min_eq_left hm1]
      exact j6
   ·cases e
  | _ => cases e
 ·cases e
theorem run_append_grow_int {t tx ty e : TypeId} {i : TypeInfo} {z : Value} {k : IntKind} (ht : P.underlying t = some (.slice e)) (hk : P.underlying tx = some (.int k)) (hi : P.info? e = some i) (hz : i.zero = some z) (hzs : z.cells.size = i.size) (base : Option Addr) (sLen sCap : Nat) (olds : List Value)
  (hold : (Builtin.firstCells i.size sLen (.slice base sLen sCap)).run P w.drew = .ok olds.toArray w.drew) {n : Nat} (hg : sCap < sLen + n) (h63 : ((sLen + n : Nat) : Int) ≤ 9223372036854775807) (hfit : Builtin.nextslicecap (sLen + n) sCap * i.bytes ≤ 281474976710656) (hb : n * i.bytes ≤ 281474976710656) :
  (Builtin.append_ #[t, tx] ty #[.slice base sLen sCap, .int .i64 n]).run P w =
   .ok (.slice (some ⟨w.heap.size, 0, none⟩) (sLen + n) (grownCap w (sLen + n) sCap e))
    (w.drew.alloc (.cells ((olds ++ (madeCells z.cells (n * i.size)).toList).toArray ++ Builtin.zeroCells z.cells (grownCap w (sLen + n) sCap e - (sLen + n))) e)) := by
 have hn : ¬ (sLen + n ≤ sCap) := by omega
 have h63' : ¬ (9223372036854775807 < ((sLen : Int) + (n : Int))) := by omega
 have h48' : ¬ (281474976710656 < Builtin.nextslicecap (sLen + n) sCap * i.bytes) := by omega
 have hw : IntKind.i64.wrap (n : Int) = n := by rw [IntKind.wrap_i64]; omega
 have hneg : ¬ ((n : Int) < 0) := by omega
 have hbb : ¬ (281474976710656 < (n : Int) * (i.bytes : Int)) := by
  have : (n : Int) * (i.bytes : Int) = ((n * i.bytes : Nat) : Int) := by simp
  rw [this]; omega
 have hmc : Builtin.zeroCells z.cells n = madeCells z.cells (n * i.size) := by unfold Builtin.zeroCells madeCells; rw [hzs]
 by_cases h0 : n * i.size = 0
 ·have hm0 : madeCells z.cells (n * i.size) = #[] := by rw [h0]; simp [madeCells]
  simp [Builtin.append_, run_underlying ht, run_underlying hk, sizeOf, typeInfo, zeroValue, hi, hz, asInt, asIntOf, hw, hneg, hbb, hn, h63', h48', h0, Question.forced, hold, newRow, grownCap, hm0]
  rw [h0] at hm0
  rw [hm0]
  simp
 ·simp [Builtin.append_, run_underlying ht, run_underlying hk, sizeOf, typeInfo, zeroValue, hi, hz, asInt, asIntOf, hw, hneg, hbb, hn, h63', h48', Question.forced, hold, newRow, grownCap, hmc]
  rw [if_neg h0]
  congr 2
  congr 1
  apply Array.ext'
  simp [List.append_assoc]
theorem appendZ_sound (hr : HR B X O w h) {nid t tx ty el : Nat} {te : TI} (hok : TyOk P el te) (hk : P.underlying t = some (.slice el)) {ki : IntKind} (hkx : P.underlying tx = some (.int ki)) (hn : hget h nid = none) (hM : X.M nid = none) (hle : nid ≤ h.length) {s v : V} {n : Int} {h' : Heap}
  (e : appendZ te nid s n h = some (v, h')) {vs : Value} (rs : VREL X s true [vs]) : OpS P B X O w h (Builtin.append_ #[t, tx] ty #[vs, .int .i64 n]) v h' := by
 unfold appendZ at e
 split at e
 ·rename_i l
  obtain ⟨hc, e⟩ := bif_some e
  simp only [Bool.and_eq_true] at hc
  obtain ⟨hf, hpos, hroom⟩ := hc
  obtain ⟨zd, hzd, e⟩ := Option.bind_eq_some_iff.1 e
  obtain ⟨hzv, e⟩ := bif_some e
  cases e
  obtain ⟨i, zv, i1, i2, i3, i5, rz, hzs⟩ := zero_data hok hzd hzv X.C
  rw [ilt_eq, decide_eq_true_eq] at hpos
  obtain ⟨m, rfl⟩ : ∃ m : Nat, n = m := ⟨n.toNat, by omega⟩
  rw [Int.toNat_natCast] at hroom ⊢
  rw [llen_eq] at hroom ⊢
  rw [reps_eq]
  obtain ⟨r1, r2⟩ := room_iff hroom
  simp only [VREL] at rs
  obtain ⟨y, ey, a, nl, e1, e2, e3, e4⟩ := rs
  cases ey; subst e1
  obtain ⟨wo, o1, o2, o3⟩ : ∃ wo, RELs X.C l false wo ∧ Even te.size wo ∧ (nl = 0 ∧ wo.flatten = [] ∨ ∃ a0, a = some a0 ∧ a0.spot = none ∧ wo.flatten.length = nl * te.size ∧ cellsAt X.C a0 wo.flatten) := by
   by_cases hz0 : nl = 0
   ·have : l = [] := List.eq_nil_of_length_eq_zero (by omega)
    subst this
    exact ⟨[], by simp [RELs], (fun _ h => by cases h), .inl ⟨hz0, rfl⟩⟩
   ·obtain ⟨a0, wss0, s0, q1, q2, q3, q4, q5⟩ := e4.resolve_left hz0
    have hs0 := firstWd_of hf q3 q4 (fun h => by subst h; simp at e2; exact hz0 e2)
    subst hs0
    exact ⟨wss0, q3, q4, .inr ⟨a0, q1, q2, by rw [Even.len q4, (RELs_iff.1 q3).len, e2], q5⟩⟩
  rw [← e2] at r1 r2
  have hfit : Builtin.nextslicecap (nl + m) nl * i.bytes ≤ 281474976710656 := growslice_fits (by omega) (by rw [i3]; omega)
  have hmb : m * i.bytes ≤ (nl + m) * te.bytes := by rw [i3]; exact Nat.mul_le_mul_right _ (by omega)
  have holds : (Builtin.firstCells i.size nl (.slice a nl nl)).run P w.drew = .ok wo.flatten.toArray w.drew := by
   rcases o3 with ⟨rfl, ho⟩ | ⟨a0, rfl, _, h1, h2⟩
   ·rw [ho]
    cases a with
    | none => exact run_firstCells_none _ _ _ _ _
    | some a0 => exact run_firstCells_some w.drew i.size 0 a0 0 0 [] (by simp) (fun j v e => by simp at e)
   ·exact run_firstCells_some w.drew i.size nl a0 nl nl _ (by rw [h1, i2]) (fun j v e => by simpa using hr.ci _ _ (h2 j v e))
  have hrun := run_append_grow_int (w := w) (ty := ty) hk hkx i1 i5 (by rw [hzs, i2]) a nl nl wo.flatten holds (n := m) (by omega) (by omega) hfit (by omega)
  have hge := grownCap_ge w (nl + m) nl el
  have hleM := grownCap_le_maxLen w (nl + m) nl el (by simp only [maxLen]; omega)
  have hmade : (madeCells zv.cells (m * i.size)).toList = (List.replicate m zv.cells.toList).flatten := madeCells_rep (by rw [hzs, i2]) m
  have hev : Even te.size (List.replicate m zv.cells.toList) := Even.rep (by rw [Array.length_toList]; exact hzs)
  have hcs : ((wo.flatten ++ (madeCells zv.cells (m * i.size)).toList).toArray ++ Builtin.zeroCells zv.cells (grownCap w (nl + m) nl el - (nl + m))).toList = (wo ++ List.replicate m zv.cells.toList).flatten ++ (Builtin.zeroCells zv.cells (grownCap w (nl + m) nl el - (nl + m))).toList := by
   simp [hmade]
  have hNR : NewRow w (w.drew.alloc (.cells ((wo.flatten ++ (madeCells zv.cells (m * i.size)).toList).toArray ++ Builtin.zeroCells zv.cells (grownCap w (nl + m) nl el - (nl + m))) el)) ((wo ++ List.replicate m zv.cells.toList).flatten ++ (Builtin.zeroCells zv.cells (grownCap w (nl + m) nl el - (nl + m))).toList) := by
   have h1 := NewRow.alloc w.drew ((wo.flatten ++ (madeCells zv.cells (m * i.size)).toList).toArray ++ Builtin.zeroCells zv.cells (grownCap w (nl + m) nl el - (nl + m))) el
   rw [hcs] at h1
   exact ⟨(Keep.of_below (below_drew w)).trans h1.keep, h1.size, h1.cell, h1.frozen⟩
  have hBel : Below w.heap.size w (w.drew.alloc (.cells ((wo.flatten ++ (madeCells zv.cells (m * i.size)).toList).toArray ++ Builtin.zeroCells zv.cells (grownCap w (nl + m) nl el - (nl + m))) el)) := (below_drew w).alloc (Nat.le_refl _) _
  have hlen2 : (l ++ List.replicate m zd).length = nl + m := by rw [List.length_append, List.length_replicate, e2]
  have hwl : wo.length = nl := by rw [(RELs_iff.1 o1).len, e2]
  have hcsl : ((wo ++ List.replicate m zv.cells.toList).flatten ++ (Builtin.zeroCells zv.cells (grownCap w (nl + m) nl el - (nl + m))).toList).length = grownCap w (nl + m) nl el * te.size := by
   rw [List.length_append, (o2.app hev).len, List.length_append, List.length_replicate, hwl]
   have : (Builtin.zeroCells zv.cells (grownCap w (nl + m) nl el - (nl + m))).toList.length = (grownCap w (nl + m) nl el - (nl + m)) * te.size := by simp [size_zeroCells, hzs]
   rw [this, ← Nat.add_mul]; congr 1; omega
  obtain ⟨X', O', q1, q2, q3, q4, q5⟩ := newData_sound hr hn hM hle (hBel.mono hr.wb) hNR (s := te.size) (cap := grownCap w (nl + m) nl el) (l := l ++ List.replicate m zd) (wss := wo ++ List.replicate m zv.cells.toList) hcsl (by simp only [maxLen, LMX] at hleM ⊢; omega) (by rw [hlen2]; exact hge) (RELs_iff.2 ((RELs_iff.1 o1).app (RELs_iff.1 (rows_rep rz m)))) (o2.app hev) rfl
  rw [hlen2] at q3
  rw [← e2]
  exact ⟨_, _, X', O', hrun, q1, q2, q3, q4, q5⟩
 ·cases e
theorem appendX_sound (hE : EnvTy P E) (hr : HR B X O w h) {nid t tx ty el : Nat} {te : TI} (hte : E.ty el = some te) (hz : okV te te.zero = true) (hk : P.underlying t = some (.slice el)) (hn : hget h nid = none) (hM : X.M nid = none) (hle : nid ≤ h.length) {s x v : V} {h' : Heap} (e : appendX E te nid tx s x h = some (v, h'))
  {vs vx : Value} (rs : VREL X s true [vs]) (rx : VREL X x true [vx]) : OpS P B X O w h (Builtin.append_ #[t, tx] ty #[vs, vx]) v h' := by
 unfold appendX at e
 cases hi : isIntK (E.kind tx) with
 | true =>
  rw [hi, cond_true] at e
  split at e
  ·rename_i n
   simp only [VREL, REL] at rx
   obtain ⟨rx, _⟩ := rx; cases rx
   obtain ⟨ki, hki⟩ : ∃ ki, P.underlying tx = some (.int ki) := by
    unfold isIntK Env.kind at hi
    cases htx : E.ty tx with
    | none => rw [htx] at hi; simp at hi
    | some ti =>
     rw [htx] at hi
     simp only [Option.map_some] at hi
     have hkk := (hE.ty tx ti htx).kind
     split at hi
     ·rename_i k hh
      rw [Option.some.inj hh] at hkk; simp only [KindOk] at hkk
      exact ⟨k, hkk⟩
     ·cases hi
   exact appendZ_sound hr (hE.ty _ _ hte) hk hki hn hM hle e rs
  ·cases e
 | false =>
  rw [hi, cond_false] at e
  cases ha : (isArv h s || isArv h x) with
  | true =>
   rw [ha, cond_true] at e
   obtain ⟨hks, e⟩ := bif_some e
   obtain ⟨new, hnew, e⟩ := Option.bind_eq_some_iff.1 e
   obtain ⟨hall, e⟩ := bif_some e
   have hks' : ∃ k, E.kind tx = some (.slc k) := by
    unfold isSlc at hks
    split at hks
    ·rename_i k hk; exact ⟨k, hk⟩
    ·cases hks
   obtain ⟨wss, hs, hrel, hev⟩ := newVals_src hE hr hks' hnew hall rx
   exact appendV_sound hr (hE.ty _ _ hte) hz hk hn hM hle e rs hs hrel hev
  | false =>
   rw [ha, cond_false] at e
   obtain ⟨new, hnew, e⟩ := Option.bind_eq_some_iff.1 e
   obtain ⟨wss, hs, hrel, hev⟩ := newElems_sound hE hr hnew rx
   exact appendTo_sound hr (hE.ty _ _ hte) hz hk hn hM hle e rs hs hrel hev
theorem append_sound (hE : EnvTy P E) (hr : HR B X O w h) {nid ty : Nat} {ts : Array Nat} (hn : hget h nid = none) (hM : X.M nid = none) (hle : nid ≤ h.length) {s x v : V} {h' : Heap} (e : bAppend E nid ts s x h = some (v, h')) {vs vx : Value} (rs : VREL X s true [vs]) (rx : VREL X x true [vx]) :
  OpS P B X O w h (Builtin.append_ ts ty #[vs, vx]) v h' := by
 unfold bAppend at e
 obtain ⟨ti, h1, e⟩ := Option.bind_eq_some_iff.1 e
 obtain ⟨t, h0, ht⟩ := Option.bind_eq_some_iff.1 h1
 have hk := (hE.ty t ti ht).kind
 split at e
 ·rename_i el hti
  rw [hti] at hk; simp only [KindOk] at hk
  obtain ⟨te, hte, e⟩ := Option.bind_eq_some_iff.1 e
  obtain ⟨tx, htx, e⟩ := Option.bind_eq_some_iff.1 e
  obtain ⟨hz, e⟩ := bif_some e
  rw [lget_eq, Array.getElem?_toList] at h0 htx
  rw [append_types h0 htx]
  exact appendX_sound hE hr hte hz hk hn hM hle e rs rx
 ·cases e
theorem appendTo_new {te : TI} {nid : Nat} {s : V} {new : List D} {g off len : Nat} {l : Bool} {h1 : Heap} (hn : hget h nid = none) (hb : appendTo te nid s new h = some (.own nid g off len l, h1)) : ∃ k, h1 = hput h nid k := by
 unfold appendTo at hb
 split at hb
 ·rename_i b' g' off' len' lim'
  cases hg : hget h b' with
  | none => rw [hg] at hb; cases hb
  | some k =>
   have hne : b' ≠ nid := fun e => by subst e; rw [hn] at hg; cases hg
   rw [hg] at hb
   cases k <;> simp only at hb <;> try (cases hb; done)
   cases lim' <;> simp only [cond_true, cond_false] at hb
   ·obtain ⟨_, hb⟩ := bif_some hb
    cases hb; exact absurd rfl hne
   ·cases hni : isNone new <;> rw [hni] at hb <;> simp only [cond_true, cond_false] at hb
    ·obtain ⟨_, hb⟩ := bif_some hb
     cases hb; exact ⟨_, rfl⟩
    ·cases hb; exact absurd rfl hne
 ·obtain ⟨_, hb⟩ := bif_some hb
  cases hb; exact ⟨_, rfl⟩
 ·cases hb
theorem appendV_new {te : TI} {nid : Nat} {s : V} {new : List V} {g off len : Nat} {l : Bool} {h1 : Heap} (hn : hget h nid = none) (hb : appendV te nid s new h = some (.own nid g off len l, h1)) : ∃ k, h1 = hput h nid k := by
 unfold appendV at hb
 split at hb
 ·rename_i b' g' off' len' lim'
  cases hg : hget h b' with
  | none => rw [hg] at hb; cases hb
  | some k =>
   have hne : b' ≠ nid := fun e => by subst e; rw [hn] at hg; cases hg
   rw [hg] at hb
   cases k <;> simp only at hb <;> try (cases hb; done)
   obtain ⟨_, hb⟩ := bif_some hb
   cases hb; exact absurd rfl hne
 ·obtain ⟨_, hb⟩ := bif_some hb
  cases hb; exact ⟨_, rfl⟩
 ·cases hb
theorem bAppend_new {nid : Nat} {ts : Array Nat} {s x : V} {g off len : Nat} {l : Bool} {h1 : Heap} (hn : hget h nid = none) (hb : bAppend E nid ts s x h = some (.own nid g off len l, h1)) : ∃ k, h1 = hput h nid k := by
 unfold bAppend at hb
 obtain ⟨ti, _, hb⟩ := Option.bind_eq_some_iff.1 hb
 split at hb
 ·obtain ⟨te, _, hb⟩ := Option.bind_eq_some_iff.1 hb
  obtain ⟨tx, _, hb⟩ := Option.bind_eq_some_iff.1 hb
  obtain ⟨_, hb⟩ := bif_some hb
  unfold appendX at hb
  cases hi : isIntK (E.kind tx) with
  | true =>
   rw [hi, cond_true] at hb
   split at hb
   ·unfold appendZ at hb
    split at hb
    ·obtain ⟨_, hb⟩ := bif_some hb
     obtain ⟨_, _, hb⟩ := Option.bind_eq_some_iff.1 hb
     obtain ⟨_, hb⟩ := bif_some hb
     cases hb; exact ⟨_, rfl⟩
    ·cases hb
   ·cases hb
  | false =>
   rw [hi, cond_false] at hb
   cases ha : (isArv h s || isArv h x) with
   | true =>
    rw [ha, cond_true] at hb
    obtain ⟨_, hb⟩ := bif_some hb
    obtain ⟨new, _, hb⟩ := Option.bind_eq_some_iff.1 hb
    obtain ⟨_, hb⟩ := bif_some hb
    exact appendV_new hn hb
   | false =>
    rw [ha, cond_false] at hb
    obtain ⟨new, _, hb⟩ := Option.bind_eq_some_iff.1 hb
    exact appendTo_new hn hb
 ·cases hb
end
end Go.As
/-
 AS: ranging over maps.
-/
namespace Go.As
open Go.RowKit (Below)
variable [Gh]
section
variable {P : Program} {B : Nat} {X : Cx} {O : Nat → Addr → Prop} {w : World} {h : Heap} {E : Env}
theorem iter_new (hr : HR B X O w h) {n : Nat} (hn : hget h n = none) (hM : X.M n = none) (hle : n ≤ h.length) {v : V} {m : Option Nat} (rv : VREL X v true [.map m]) {m0 : Sem Value} (c : Nat)
  (e : m0.run P w = .ok (.pointer (some ⟨w.heap.size, 0, none⟩)) (w.alloc (.mapIter m c #[] c))) : OpS P B X O w h m0 (.ptr n 0 []) (hput h n (.it v c [] c)) := by
 let bi : BI := ⟨0, some ⟨w.heap.size, 0, none⟩, 0, 1, true⟩
 let On : Addr → Prop := fun a => a = ⟨w.heap.size, 0, none⟩
 have hlow := VREL.low hr.lt _ _ _ rv
 have hbr : BR (X.withM n bi) (w.alloc (.mapIter m c #[] c)) On n (.it v c [] c) := ⟨bi, w.heap.size, m, Cx.withM_same _ _ _, rfl, rfl, rfl, heap_alloc_new w _, rfl, VREL.mono (Cx.withM_le h.length hM) _ _ _ hlow rv⟩
 refine ⟨_, _, X.withM n bi, _, e, hr.add hn hM hle (.alloc _ _) (by simp) bi On (.it v c [] c) (fun a ea => ?_) hbr, Up.add hM ((Below.refl B w).alloc hr.wb _) (.alloc _ _) _ bi, ?_, ?_, .add hM hle (.alloc _ _) bi On _⟩
 ·subst ea; simp
 ·simp only [VREL]
  exact ⟨_, rfl, ⟨_, rfl⟩, bi, Cx.withM_same _ _ _, Nat.le_refl _, fun _ => ⟨_, rfl, rfl, by simp [pathOff]⟩⟩
 ·rw [hput_len]; split <;> omega
theorem kind_map (hE : EnvTy P E) {t kt et : Nat} (hk : E.kind t = some (.map kt et)) : P.underlying t = some (.map kt et) := by
 unfold Env.kind at hk
 obtain ⟨ti, ht, hti⟩ := Option.map_eq_some_iff.1 hk
 have hk := (hE.ty t ti ht).kind
 rw [hti] at hk; exact hk
theorem map_of (hr : HR B X O w h) {b : Nat} {es : List (D × V)} {s : List Nat} {ck : Nat} (hb : hget h b = some (.mp es s ck)) {vx : Value} (rx : VREL X (.mp b) true [vx]) :
  ∃ r ms, vx = .map (some r) ∧ w.heap[r]? = some (.map ms ck) ∧ ENTS X es s ck ms.toList ck := by
 obtain ⟨bi, r, ms, ck', h1, h2, h3, h4, h5, h6, h7⟩ := hr.blk b _ hb
 have := h7.clk; subst this
 simp only [VREL] at rx
 obtain ⟨r', bj, e1, h8, h9, _⟩ := rx
 cases e1
 rw [h1] at h8; cases h8
 rw [h4] at h9; cases h9
 exact ⟨r, ms, rfl, h5, h7⟩
theorem range_sound (hE : EnvTy P E) (hr : HR B X O w h) {n t : Nat} (hn : hget h n = none) (hM : X.M n = none) (hle : n ≤ h.length) {x v : V} {h' : Heap} (e : sRange E n h t x = some (v, h')) {vx : Value} (rx : VREL X x true [vx]) :
  OpS P B X O w h (Instr.range t vx) v h' := by
 unfold sRange at e
 split at e
 ·rename_i kt et hkind
  cases e
  have hk := kind_map hE hkind
  have rx0 := rx
  simp only [VREL, REL] at rx; cases rx
  exact iter_new hr hn hM hle rx0 0 (by simp [Instr.range, run_underlying hk, newObj, Sem.run])
 ·rename_i kt et b hkind
  split at e
  ·rename_i es s ck hb
   cases e
   have hk := kind_map hE hkind
   obtain ⟨r, ms, rfl, h5, _⟩ := map_of hr hb rx
   exact iter_new hr hn hM hle rx ck (by simp [Instr.range, run_underlying hk, run_getObj h5 rfl, newObj, Sem.run])
  ·cases e
 ·cases e
theorem setBlk_sound (hr : HR B X O w h) {b r : Nat} {k k' : Blk} {o o' : Obj} (hb : hget h b = some k) (ho : w.heap[r]? = some o) (h1 : o.isCells = false) (h2 : o'.isCells = false) (hlp : Obj.lp o = false) (hO : O b ⟨r, 0, none⟩) (he : BR X (objW w r o') (O b) b k') :
  HR B X O (objW w r o') (hput h b k') ∧ Up B X w h.length X (objW w r o') ∧ h.length ≤ (hput h b k').length ∧ FR X O w h X O (objW w r o') (hput h b k') := by
 have hbl := hget_lt hb
 have hle := Nat.le_of_lt hbl
 have hne : ∀ c, c ≠ b → ¬ O c ⟨r, 0, none⟩ := fun c hc o => hc (hr.dis c b _ o hO)
 have hcell := objW_cell ho h1 h2
 refine ⟨⟨fun c k e => ?_, fun c a o => ?_, hr.dis, fun c bj e => ?_, fun a v e => ?_, ?_⟩, ⟨.refl _ _, objW_below w _ (hr.own b _ hO).1, fun a v e hn => (by rw [hn] at e; cases e), fun r' o e l => ?_⟩, ?_, ⟨fun c bj e hn => ?_, fun _ _ e _ => e, fun _ _ _ _ _ o => o, fun c bj e hn a o v ev => ?_, fun c bj e hn a o ob eo _ => ?_, fun c bj e hn g hg _ => ?_, fun c e => ?_, fun _ _ e _ => e⟩⟩
 ·rw [hget_hput h b c _ hle] at e
  by_cases hc : c = b
  ·subst hc
   simp only [if_true] at e; cases e
   exact he
  ·simp only [if_neg hc] at e
   exact (hr.blk c k e).obj ho h1 h2 (hne c hc)
 ·rw [objW_size]; exact hr.own c a o
 ·rw [hput_len, if_pos hbl]; exact hr.lt c bj e
 ·rw [hcell]; exact hr.ci a v e
 ·rw [objW_size]; exact hr.wb
 ·rw [objW_other w _ (fun e2 => by subst e2; rw [ho] at e; cases e; rw [hlp] at l; cases l)]; exact e
 ·rw [hput_len, if_pos hbl]; exact Nat.le_refl _
 ·rw [hget_hput h b c _ hle, if_neg (fun hc => by subst hc; rw [hb] at hn; cases hn)]; exact hn
 ·exact ⟨by rw [hcell]; exact ev, objW_frozen ho h1 h2 a⟩
 ·have hc : c ≠ b := fun hc => by subst hc; rw [hb] at hn; cases hn
  rw [objW_other w _ (fun e => hne c hc (by rw [← e]; exact o))]; exact eo
 ·have hc : c ≠ b := fun hc => by subst hc; rw [hb] at hn; cases hn
  exact objW_other w _ (fun e => hne c hc (hg _ e.symm))
 ·rw [hget_hput h b c _ hle] at e
  split at e
  ·cases e
  ·exact e
theorem hasN_contains (l : List Nat) (b : Nat) : hasN l b = l.toArray.contains b := by
 have h : hasN l b = l.contains b := by
  induction l with
  | nil => rfl
  | cons a l ih =>
   have : hasN (a :: l) b = (bif Nat.beq a b then true else hasN l b) := rfl
   rw [this, ih, List.contains_cons]
   cases hb : Nat.beq a b with
   | true => have := beq_of hb; subst this; simp
   | false =>
    have hne : ¬ b = a := fun e => by subst e; rw [Nat.beq_refl] at hb; cases hb
    simp [hne]
 rw [h]; simp
theorem leftOf_cons (seen : List Nat) (a : Nat) (s : List Nat) (i : Nat) : leftOf seen (a :: s) i = bif hasN seen a then leftOf seen s (i + 1) else (i, a) :: leftOf seen s (i + 1) := rfl
theorem leftOf_nil {seen : List Nat} : ∀ {ms : List MapEntry} {i : Nat}, leftOf seen (ms.map (·.born)) i = [] → ms.filter (fun e => !seen.toArray.contains e.born) = []
 | [], _, _ => rfl
 | m :: ms, i, e => by
  rw [List.map_cons, leftOf_cons] at e
  cases hb : hasN seen m.born with
  | true =>
   rw [hb, cond_true] at e
   rw [List.filter_cons, ← hasN_contains, hb]
   exact leftOf_nil e
  | false => rw [hb, cond_false] at e; cases e
theorem leftOf_one {seen : List Nat} {j a : Nat} : ∀ {ms : List MapEntry} {i : Nat}, leftOf seen (ms.map (·.born)) i = [(j, a)] → ∃ e, ms.filter (fun e => !seen.toArray.contains e.born) = [e] ∧ i ≤ j ∧ ms[j - i]? = some e ∧ e.born = a
 | [], _, e => by cases e
 | m :: ms, i, e => by
  rw [List.map_cons, leftOf_cons] at e
  cases hb : hasN seen m.born with
  | true =>
   rw [hb, cond_true] at e
   obtain ⟨x, h1, h2, h3, h4⟩ := leftOf_one e
   refine ⟨x, ?_, by omega, ?_, h4⟩
   ·rw [List.filter_cons, ← hasN_contains, hb]; exact h1
   ·rw [show j - i = (j - (i + 1)) + 1 from by omega, List.getElem?_cons_succ]; exact h3
  | false =>
   rw [hb, cond_false] at e
   injection e with e1 e2
   cases e1
   refine ⟨m, ?_, Nat.le_refl _, by simp, rfl⟩
   rw [List.filter_cons, ← hasN_contains, hb]
   have := leftOf_nil e2
   rw [this]; rfl
theorem run_next1 : (choose (.mapNext 1)).run P w = .ok 0 w := by
 simp [choose, Sem.run, Question.forced]
theorem isNil_eq {α : Type} (l : List α) : isNil l = l.isEmpty := by cases l <;> rfl
theorem allGe_eq (last : Nat) (s : List Nat) : allGe last s = s.all fun a => decide (last ≤ a) := by
 induction s with
 | nil => rfl
 | cons a s ih =>
  have : allGe last (a :: s) = (bif Nat.ble last a then allGe last s else false) := rfl
  rw [this, ih, List.all_cons]
  cases hb : Nat.ble last a with
  | true => have := Nat.le_of_ble_eq_true hb; simp [this]
  | false =>
   have : ¬ last ≤ a := fun h => by rw [Nat.ble_eq_true_of_le h] at hb; cases hb
   simp [this]
theorem iter_of (hr : HR B X O w h) {b : Nat} {u : V} {since last : Nat} {seen : List Nat} (hb : hget h b = some (.it u since seen last)) {vx : Value} (rx : VREL X (.ptr b 0 []) true [vx]) :
  ∃ bi r m, vx = .pointer (some ⟨r, 0, none⟩) ∧ X.M b = some bi ∧ bi.g = 0 ∧ bi.fix = true ∧ bi.base = some ⟨r, 0, none⟩ ∧ w.heap[r]? = some (.mapIter m since seen.toArray last) ∧ O b ⟨r, 0, none⟩ ∧ VREL X u true [.map m] := by
 obtain ⟨bi, r, m, h1, h2, h3, h4, h5, h6, h7⟩ := hr.blk b _ hb
 simp only [VREL] at rx
 obtain ⟨y, ey, _, bj, e1, _, e2⟩ := rx
 cases ey
 rw [h1] at e1; cases e1
 obtain ⟨a0, q1, _, q2⟩ := e2 h2.symm
 rw [h4] at q1; cases q1
 refine ⟨bi, r, m, ?_, h1, h2, h3, h4, h5, h6, h7⟩
 rw [q2]; rfl
theorem tup3 {k : D} {v : V} {x y : Value} (rk : REL X.C k true [x]) (rv : VREL X v true [y]) : VREL X (.tup [.im (.bool true), .im k, v]) true [.tuple #[.bool true, x, y]] := by
 simp only [VREL, VRELs, REL]
 exact ⟨_, [[.bool true], [x], [y]], rfl, ⟨_, _, rfl, rfl, _, _, rfl, rk, _, _, rfl, rv, rfl⟩, rfl⟩
theorem tupKV {k : D} {v : V} {x y : Value} (rk : REL X.C k true [x]) (rv : VREL X v true [y]) : VREL X (.tup [.im k, v]) true [.tuple #[x, y]] := by
 simp only [VREL, VRELs]
 exact ⟨_, [[x], [y]], rfl, ⟨_, _, rfl, rk, _, _, rfl, rv, rfl⟩, rfl⟩
theorem overR : VREL X (.im (.tup [.bool false])) true [.tuple #[.bool false]] := by
 simp only [VREL, REL, RELs]
 exact ⟨_, [[.bool false]], rfl, ⟨_, _, rfl, rfl, rfl⟩, rfl⟩
theorem next_sound (hr : HR B X O w h) {x v : V} {str : Bool} {h' : Heap} (e : sNext h x str = some (v, h')) {vx : Value} (rx : VREL X x true [vx]) (t : Nat) : OpS P B X O w h (Instr.next vx str t) v h' := by
 unfold sNext at e
 split at e
 ·rename_i b
  split at e
  ·rename_i since seen last hb
   cases e
   obtain ⟨bi, r, m, rfl, h1, h2, h3, h4, h5, h6, h7⟩ := iter_of hr hb rx
   simp only [VREL, REL] at h7; cases h7
   exact .same hr (by simp [Instr.next, run_getObj h5 rfl]) overR
  ·rename_i c since seen last hb
   split at e
   ·rename_i es s ck hc
    cases hg : (not (isNil seen) && (not (isNil s) && allGe last s)) with
    | true => rw [hg, cond_true] at e; cases e
    | false =>
    rw [hg, cond_false] at e
    obtain ⟨bi, r, m, rfl, h1, h2, h3, h4, h5, h6, h7⟩ := iter_of hr hb rx
    obtain ⟨r2, ms, e2, h8, h9⟩ := map_of hr hc h7
    cases e2
    have hcond : (!seen.toArray.isEmpty && !ms.isEmpty && ms.all (fun e => decide (e.born ≥ last))) = false := by
     rw [← hg, isNil_eq, isNil_eq, allGe_eq, ← h9.born, Bool.and_assoc, ← Array.all_toList]
     congr 1
     ·simp
     ·congr 1
      ·rw [Bool.eq_iff_iff]; simp
      ·rw [List.all_map]; rfl
    have hfil : ∀ l, ms.toList.filter (fun e => !seen.toArray.contains e.born) = l → ms.filter (fun e => !seen.toArray.contains e.born) = l.toArray := fun l hl => by
     apply Array.toList_inj.1; rw [Array.toList_filter, hl]
    split at e
    ·rename_i hleft
     cases e
     have hl := hfil [] (leftOf_nil (by rw [h9.born]; exact hleft))
     refine .same hr ?_ overR
     unfold Instr.next
     simp only [Sem.run_bind, run_getObj h5 rfl, run_getObj h8 rfl, Result.andThen_ok, hcond, hl]
     simp [Question.forced]
    ·rename_i i a hleft
     obtain ⟨hlt, e⟩ := bif_some e
     obtain ⟨en, hen, e⟩ := Option.map_eq_some_iff.1 e
     cases e
     obtain ⟨me, q1, _, q2, q3⟩ := leftOf_one (i := 0) (by rw [h9.born]; exact hleft)
     have hl := hfil [me] q1
     rw [Nat.sub_zero] at q2
     have hsince : me.born < since := by rw [q3]; exact Nat.le_of_ble_eq_true hlt
     rw [lget_eq] at hen
     obtain ⟨y, ey, rk, rv⟩ := (ENT_iff.1 h9.ent).get hen
     rw [q2] at ey; cases ey
     obtain ⟨s1, s2, s3, s4⟩ := setBlk_sound (k' := .it (.mp c) since (seen ++ [a]) ck) (o' := .mapIter (some r2) since (seen.toArray.push me.born) ck) hr hb h5 rfl rfl rfl h6
      ⟨bi, r, some r2, h1, h2, h3, h4, by rw [objW_same h5, q3]; simp, h6, h7⟩
     refine ⟨_, _, X, O, ?_, s1, s2, tup3 rk rv, s3, s4⟩
     unfold Instr.next
     simp only [Sem.run_bind, run_getObj h5 rfl, run_getObj h8 rfl, Result.andThen_ok, hcond, hl]
     have ho1 : ([me].toArray.filter fun e => decide (e.born < since)) = #[me] := by simp [hsince]
     have ho2 : ([me].toArray.filter fun e => decide (e.born ≥ since)) = #[] := by simp; omega
     simp [ho1, ho2, Question.forced, run_setObj h5 rfl, hsince]
    ·cases e
   ·cases e
  ·cases e
 ·cases e
theorem indexIn_find {a : Nat} : ∀ {ms : List MapEntry} {i : Nat}, indexIn (ms.map (·.born)) a = some i → ∃ e, ms[i]? = some e ∧ ms.find? (fun e => e.born == a) = some e
 | [], i, e => by cases e
 | m :: ms, i, e => by
  have e : (bif Nat.beq m.born a then some 0 else (indexIn (ms.map (·.born)) a).map (· + 1)) = some i := e
  cases hb : Nat.beq m.born a with
  | true =>
   rw [hb, cond_true] at e; cases e
   have := beq_of hb
   exact ⟨m, by simp, by simp [this]⟩
  | false =>
   rw [hb, cond_false] at e
   obtain ⟨j, hj, e⟩ := Option.map_eq_some_iff.1 e
   subst e
   obtain ⟨x, h1, h2⟩ := indexIn_find hj
   refine ⟨x, by simpa using h1, ?_⟩
   have hne : (m.born == a) = false := by
    cases hq : (m.born == a) with
    | false => rfl
    | true => have := beq_iff_eq.1 hq; rw [this, Nat.beq_refl] at hb; cases hb
   rw [List.find?_cons, hne]; exact h2
theorem lastN_eq : ∀ (l : List Nat), lastN l = l.getLast?
 | [] => rfl
 | a :: l => by
  have : lastN (a :: l) = (match lastN l with | some b => some b | none => some a) := rfl
  rw [this, lastN_eq l]
  cases l with
  | nil => rfl
  | cons b l => rw [List.getLast?_cons_cons]; simp [List.getLast?_cons]
theorem entry_sound (hr : HR B X O w h) {x v : V} {h' : Heap} (e : sEntry h x = some (v, h')) {vx : Value} (rx : VREL X x true [vx]) : OpS P B X O w h (Instr.entry vx) v h' := by
 unfold sEntry at e
 split at e
 ·rename_i b
  split at e
  ·rename_i c since seen last hb
   split at e
   ·rename_i es s ck hc
    obtain ⟨hck, e⟩ := bif_some e
    obtain ⟨a, ha, e⟩ := Option.bind_eq_some_iff.1 e
    obtain ⟨i, hi, e⟩ := Option.bind_eq_some_iff.1 e
    obtain ⟨en, hen, e⟩ := Option.map_eq_some_iff.1 e
    cases e
    have hck := beq_of hck; subst hck
    obtain ⟨bi, r, m, rfl, h1, h2, h3, h4, h5, h6, h7⟩ := iter_of hr hb rx
    obtain ⟨r2, ms, e2, h8, h9⟩ := map_of hr hc h7
    cases e2
    rw [← h9.born] at hi
    obtain ⟨me, q1, q2⟩ := indexIn_find hi
    rw [lget_eq] at hen
    obtain ⟨y, ey, rk, rv⟩ := (ENT_iff.1 h9.ent).get hen
    rw [q1] at ey; cases ey
    have hback : seen.toArray.back? = some a := by rw [lastN_eq] at ha; simpa using ha
    have hfind : ms.find? (fun e => e.born == a) = some me := by rw [← Array.find?_toList]; exact q2
    exact .same hr (by simp [Instr.entry, run_getObj h5 rfl, run_getObj h8 rfl, hback, hfind]) (tupKV rk rv)
   ·cases e
  ·cases e
 ·cases e
end
end Go.As
