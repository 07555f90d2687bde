/-
  AS: new arrays.
-/
import Derived.Test.YtphcebdhnpbjlaaGreatDoorAsSlice
import Derived.Laws.MakeOwn
set_option linter.unusedSectionVars false
set_option linter.unusedSimpArgs false
set_option linter.unusedVariables false
namespace Go.As
open Go.RowKit (Below)
variable [Gh]
section
variable {P : Program} {B : Nat} {X : Cx} {O : Nat → Addr → Prop} {w w' : World} {h : Heap} {E : Env}

/-- The block of memory behind an array that is new: all its cells are there and may be written. -/
structure NewRow (w w' : World) (cs : List Value) : Prop where
  keep : Keep w w'
  size : w.heap.size < w'.heap.size
  cell : ∀ j v, cs[j]? = some v → w'.cell? ⟨w.heap.size, j, none⟩ = some v
  frozen : ∀ j, j < cs.length → w'.frozen? ⟨w.heap.size, j, none⟩ = false
theorem NewRow.alloc (w : World) (cs : Array Value) (T : Nat) : NewRow w (w.alloc (.cells cs T)) cs.toList :=
  ⟨.alloc _ _, by simp, fun j v e => by rw [World.cell?_alloc_new]; simpa using e, fun j _ => World.frozen?_alloc_new _ _ _ _⟩
theorem addr_new (b j : Nat) : (⟨b, 0, none⟩ : Addr).add j = ⟨b, j, none⟩ := by unfold Addr.add; split <;> simp_all

theorem newArr_sound (hr : HR B X O w h) {n : Nat} (hn : hget h n = none) (hM : X.M n = none) (hle : n ≤ h.length) (hB : Below B w w') {cs : List Value} (hw : NewRow w w' cs)
    {s cap : Nat} {k : Blk} {len : Nat} (hcs : cs.length = cap * s) (hcap : cap ≤ LMX) (hlen : len ≤ cap)
    (hk : ∀ Y : Cx, X.le h.length Y → Y.C = X.C → ∀ (Q : Addr → Prop) (bi : BI), Y.M n = some bi → bi = ⟨0, some ⟨w.heap.size, 0, none⟩, s, cap, false⟩ → cellsAt w'.cell? ⟨w.heap.size, 0, none⟩ cs → Owns w' Q ⟨w.heap.size, 0, none⟩ 0 (cap * s) → BR Y w' Q n k) :
    ∃ X' O', HR B X' O' w' (hput h n k) ∧ Up B X w h.length X' w' ∧ VREL X' (.own n 0 0 len false) true [.slice (some ⟨w.heap.size, 0, none⟩) len cap] ∧ h.length ≤ (hput h n k).length ∧ FR X O w h X' O' w' (hput h n k) := by
  let bi : BI := ⟨0, some ⟨w.heap.size, 0, none⟩, s, cap, false⟩
  let On : Addr → Prop := fun a => ∃ j, j < cs.length ∧ a = (⟨w.heap.size, 0, none⟩ : Addr).add j
  have hc : cellsAt w'.cell? ⟨w.heap.size, 0, none⟩ cs := fun j v e => by rw [addr_new]; exact hw.cell j v e
  refine ⟨X.withM n bi, _, hr.add hn hM hle hw.keep (Nat.le_of_lt hw.size) bi On k (fun a ⟨j, hj, e⟩ => ?_) ?_, Up.add hM hB hw.keep _ bi, ?_, ?_, .add hM hle hw.keep bi On k⟩
  · subst e; rw [Addr.add_block]; exact ⟨Nat.le_refl _, hw.size⟩
  · refine hk _ (Cx.withM_le _ hM) rfl On bi (Cx.withM_same _ _ _) rfl hc fun j _ hj => ?_
    rw [← hcs] at hj
    exact ⟨⟨j, hj, rfl⟩, ⟨cs[j], hc j _ (by simp [hj])⟩, by rw [addr_new]; exact hw.frozen j hj⟩
  · simp only [VREL]
    refine ⟨_, rfl, ⟨_, _, rfl, hlen, by omega, .inr ⟨_, rfl⟩⟩, bi, Cx.withM_same _ _ _, Nat.le_refl _, fun _ => ⟨_, _, rfl, hlen, by omega, ?_, (fun h => by cases h), .inr ⟨_, rfl, rfl, ?_⟩⟩⟩
    · show 0 + cap ≤ cap; omega
    · simp
  · rw [hput_len]; split <;> omega

/-- The same for data. -/
theorem newData_sound (hr : HR B X O w h) {n : Nat} (hn : hget h n = none) (hM : X.M n = none) (hle : n ≤ h.length) (hB : Below B w w') {cs : List Value} (hw : NewRow w w' cs)
    {s cap : Nat} {l : List D} {wss : List (List Value)} {rest : List Value} (hcs : cs.length = cap * s) (hcap : cap ≤ LMX) (hlen : l.length ≤ cap) (hl : RELs X.C l false wss) (hev : Even s wss) (hrest : cs = wss.flatten ++ rest) :
    ∃ X' O', HR B X' O' w' (hput h n (.arr 0 s 0 l)) ∧ Up B X w h.length X' w' ∧ VREL X' (.own n 0 0 l.length false) true [.slice (some ⟨w.heap.size, 0, none⟩) l.length cap] ∧ h.length ≤ (hput h n (.arr 0 s 0 l)).length ∧ FR X O w h X' O' w' (hput h n (.arr 0 s 0 l)) := by
  refine newArr_sound hr hn hM hle hB hw hcs hcap hlen fun Y hY hC Q bi hMb hbi hc hO => ?_
  subst hbi
  refine ⟨_, hMb, rfl, rfl, ⟨hlen, Nat.zero_le _⟩, hcap, .inr ⟨rfl, _, wss, rfl, rfl, by rw [hC]; exact hl, hev, ?_, ?_, ?_⟩⟩
  · subst hrest
    exact fun j v e => hc j v (by rw [List.getElem?_append_left (List.getElem?_eq_some_iff.1 e).1]; exact e)
  · simpa using cellsAt.nil
  · simpa using hO
theorem newVals_sound (hr : HR B X O w h) {n : Nat} (hn : hget h n = none) (hM : X.M n = none) (hle : n ≤ h.length) (hB : Below B w w') {cs : List Value} (hw : NewRow w w' cs)
    {s cap : Nat} {l : List V} {wss : List (List Value)} {rest : List Value} (hcs : cs.length = cap * s) (hcap : cap ≤ LMX) (hlen : l.length ≤ cap) (hl : VRELs X l false wss) (hev : Even s wss) (hrest : cs = wss.flatten ++ rest) :
    ∃ X' O', HR B X' O' w' (hput h n (.arv 0 s l)) ∧ Up B X w h.length X' w' ∧ VREL X' (.own n 0 0 l.length false) true [.slice (some ⟨w.heap.size, 0, none⟩) l.length cap] ∧ h.length ≤ (hput h n (.arv 0 s l)).length ∧ FR X O w h X' O' w' (hput h n (.arv 0 s l)) := by
  refine newArr_sound hr hn hM hle hB hw hcs hcap hlen fun Y hY hC Q bi hMb hbi hc hO => ?_
  subst hbi
  refine ⟨_, hMb, rfl, rfl, hlen, hcap, .inr ⟨rfl, _, wss, rfl, rfl, hl.mono hY _ _ _ (VRELs.low hr.lt _ _ _ hl), hev, ?_, hO⟩⟩
  subst hrest
  exact fun j v e => hc j v (by rw [List.getElem?_append_left (List.getElem?_eq_some_iff.1 e).1]; exact e)

theorem X0_data (w : World) {v : V} {d : D} (e : v.data [] = some d) {C : IV} {m : Bool} {ws : List Value} (r : VREL X0 v m ws) : REL C d m ws := by
  have hr : HR 0 X0 (fun _ _ => False) w [] := ⟨fun b k e => by simp [hget, lget] at e, fun _ _ h => h.elim, fun _ _ _ h => h.elim, X0_lt, fun _ _ e => by simp [X0] at e, Nat.zero_le _⟩
  have hS : Shows X0 w [] C (fun _ => True) := ⟨fun _ _ e => by simp [X0] at e, fun _ _ _ _ e => by simp [X0] at e⟩
  exact data_sound hr hS e (fun _ _ => trivial) r

/-- The zero value's cells, over and over. -/
theorem madeCells_rep {z : Array Value} {s : Nat} (hz : z.size = s) : ∀ n : Nat, (madeCells z (n * s)).toList = (List.replicate n z.toList).flatten
  | 0 => by simp [madeCells]
  | n + 1 => by
    rw [List.replicate_succ', List.flatten_append, ← madeCells_rep hz n]
    apply List.ext_getElem?
    intro j
    have hzl : z.toList.length = s := by simp [hz]
    have hl : (madeCells z (n * s)).toList.length = n * s := by rw [Array.length_toList, size_madeCells]
    rw [Array.getElem?_toList, List.getElem?_append, hl]
    simp only [madeCells, Array.getElem?_map, List.flatten_cons, List.flatten_nil, List.append_nil, Array.getElem?_toList]
    rw [Nat.add_mul, Nat.one_mul]
    split
    · rename_i hj
      rw [Array.getElem?_eq_getElem (by simp; omega), Array.getElem?_eq_getElem (by simp; omega)]
      simp
    · rename_i hj
      by_cases hj2 : j < n * s + s
      · rw [Array.getElem?_eq_getElem (by simp; omega)]
        have hmod : j % s = j - n * s := by
          have h1 : j = (j - n * s) + n * s := by omega
          have h2 : j - n * s < s := by omega
          calc j % s = ((j - n * s) + n * s) % s := by rw [← h1]
            _ = (j - n * s) % s := Nat.add_mul_mod_self_right _ _ _
            _ = j - n * s := Nat.mod_eq_of_lt h2
        simp only [Option.map_some, Array.getElem_range, hz, hmod]
        rw [Array.getElem?_eq_getElem (by omega), getElem!_pos z (j - n * s) (by omega)]
      · rw [Array.getElem?_eq_none (by simp; omega), Array.getElem?_eq_none (by omega)]
        rfl

theorem data_plain {h : Heap} {v : V} {d : D} (e : v.data h = some d) : (V.im d).plain = v.plain := by
  cases v with
  | im d' => cases e; rfl
  | undef => cases e
  | agg w l => simp only [V.data, V.dataR] at e; obtain ⟨x, _, e⟩ := Option.map_eq_some_iff.1 e; subst e; rfl
  | tup l => simp only [V.data, V.dataR] at e; obtain ⟨x, _, e⟩ := Option.map_eq_some_iff.1 e; subst e; rfl
  | own b g off len lim => simp only [V.data] at e; obtain ⟨x, _, e⟩ := Option.map_eq_some_iff.1 e; subst e; rfl
  | full l => simp only [V.data, V.dataR] at e; cases e; rfl
  | ptr => cases e
  | fn f a c =>
    cases a <;> cases c <;> simp only [V.data, V.dataR] at e <;> cases e
    rfl
  | ifc t v => simp only [V.data, V.dataR] at e; obtain ⟨x, _, e⟩ := Option.map_eq_some_iff.1 e; subst e; rfl
  | mp => cases e
  | yld => cases e

/-- The zero value as data. -/
theorem zero_data {t : Nat} {ti : TI} (ht : TyOk P t ti) {z : D} (hz : ti.zero.data [] = some z) (hv : okV ti (.im z) = true) (C : IV) : ∃ i zv, P.info? t = some i ∧ i.size = ti.size ∧ i.bytes = ti.bytes ∧ i.zero = some zv ∧ REL C z false zv.cells.toList ∧ zv.cells.size = ti.size := by
  obtain ⟨i, i1, i2, i3, i4⟩ := ht.info
  obtain ⟨k1, k2, k3⟩ := okV_iff hv
  obtain ⟨zv, i5, i6⟩ := i4 _ rfl (by rw [← data_plain hz]; exact k3)
  have h1 : REL C z false zv.cells.toList := X0_data default hz (i6.cells (by rw [← data_plain hz]; exact k3))
  refine ⟨i, zv, i1, i2, i3, i5, h1, ?_⟩
  have := h1.wd
  simp only [V.wd] at k1
  rw [← k1, ← this]; simp

theorem rows_rep {C : IV} {z : D} {ws : List Value} (h : REL C z false ws) (n : Nat) : RELs C (List.replicate n z) false (List.replicate n ws) := RELs_iff.2 (All2.rep (R := fun d ws => REL C d false ws) h n)

theorem makeSlice_sound (hE : EnvTy P E) (hr : HR B X O w h) {n t : Nat} (hn : hget h n = none) (hM : X.M n = none) (hle : n ≤ h.length) {l c v : V} {h' : Heap} (e : sMakeSlice E n h t l c = some (v, h')) {vl vc : Value} (rl : VREL X l true [vl]) (rc : VREL X c true [vc]) :
    OpS P B X O w h (Instr.makeSlice t vl vc) v h' := by
  unfold sMakeSlice at e
  cases ht : E.ty t with
  | none => rw [ht] at e; cases e
  | some ti =>
  rw [ht] at e
  have hk := (hE.ty t ti ht).kind
  simp only [Option.bind_some] at e
  split at e
  · rename_i el hti
    rw [hti] at hk; simp only [KindOk] at hk
    cases hte : E.ty el with
    | none => rw [hte] at e; cases e
    | some te =>
    rw [hte] at e
    simp only [Option.bind_some] at e
    replace e := Option.bind_eq_some_iff.1 e
    obtain ⟨z, hz, e⟩ := e
    split at e
    · rename_i a m
      obtain ⟨hc, e⟩ := bif_some e
      cases e
      simp only [Bool.and_eq_true, ile_eq, decide_eq_true_iff] at hc
      obtain ⟨hv, h0, h1, h2⟩ := hc
      simp only [VREL, REL] at rl rc
      obtain ⟨el', _⟩ := rl; cases el'
      obtain ⟨ec', il⟩ := rc; cases ec'
      have hok := hE.ty _ _ hte
      obtain ⟨i, zv, i1, i2, i3, i4, i5, i6⟩ := zero_data hok hz hv X.C
      have hmx : m ≤ 9223372036854775807 := il.2
      have h2' : m * (te.bytes : Int) ≤ 70368744177664 := h2
      have hrun := run_make w t el i zv hk i1 i4 .i64 .i64 a m h0 h1 (by rw [i3, Int.mul_comm]; omega) hmx
      have hmade := madeCells_rep i6 m.toNat
      rw [i2] at hrun
      have hwl := NewRow.alloc w (madeCells zv.cells (m.toNat * te.size)) el
      have hrows := rows_rep i5 a.toNat
      have hlen : (List.replicate a.toNat z).length = a.toNat := List.length_replicate
      obtain ⟨X', O', q1, q2, q3, q4⟩ := newData_sound hr hn hM hle ((Below.refl B w).alloc hr.wb _) hwl (s := te.size) (cap := m.toNat) (by simp [size_madeCells]) (by simp only [LMX]; omega) (by rw [hlen]; omega) hrows (Even.rep (by simp [i6])) (rest := (List.replicate (m.toNat - a.toNat) zv.cells.toList).flatten) (by
        rw [hmade, ← List.flatten_append, List.replicate_append_replicate]; congr 2; omega)
      rw [hlen] at q3
      rw [reps_eq]
      exact ⟨_, _, X', O', hrun, q1, q2, q3, q4⟩
    · cases e
  · cases e
end
end Go.As
