/-
  AS: cap, delete, copy, append.
-/
import Derived.Test.YtphcebdhnpbjlaaGreatDoorAsAppV
set_option linter.unusedSectionVars false
set_option linter.unusedSimpArgs false
set_option linter.unusedVariables false
namespace Go.As
open Go.RowKit (Below)
variable [Gh]
section
variable {P : Program} {B : Nat} {X : Cx} {O : Nat → Addr → Prop} {w : World} {h : Heap} {E : Env}

theorem cap_sound (hE : EnvTy P E) (hr : HR B X O w h) {t ty : Nat} {ts : Array Nat} (h0 : ts[0]? = some t) {x v : V} {h' : Heap} (e : bCap E t h x = some (v, h')) {vx : Value} (r : VREL X x true [vx]) :
    OpS P B X O w h (Builtin.cap_ ts ty #[vx]) v h' := by
  unfold bCap Env.kind at e
  cases ht : E.ty t with
  | none => rw [ht] at e; simp at e
  | some ti =>
  rw [ht] at e
  have hk := (hE.ty t ti ht).kind
  simp only [Option.map_some] at e
  split at e
  · rename_i k l hti
    rw [Option.some.inj hti] at hk; simp only [KindOk] at hk
    cases e
    simp only [VREL] at r
    obtain ⟨y, ey, a, n, e1, e2, e3, _⟩ := r
    cases ey; subst e1; rw [llen_eq, ← e2]
    exact .same hr (by simp [Builtin.cap_, h0, run_underlying hk, goInt]) (lenR e3)
  · cases e

theorem ENT.erase {es : List (D × V)} {ms : List MapEntry} (h : ENT X es ms) (i : Nat) : ENT X (es.eraseIdx i) (ms.eraseIdx i) := ENT_iff.2 ((ENT_iff.1 h).erase i)

theorem delete_sound (hE : EnvTy P E) (hr : HR B X O w h) {ty : Nat} {ts : Array Nat} {m k v : V} {h' : Heap} (e : bDelete E ts m k h = some (v, h')) {vm vk : Value} (rm : VREL X m true [vm]) (rk : VREL X k true [vk]) :
    OpS P B X O w h (Builtin.delete_ ts ty #[vm, vk]) v h' := by
  unfold bDelete at e
  split at e
  · rename_i kt et b kd hkind
    obtain ⟨hkey, e⟩ := bif_some e
    obtain ⟨es, hes, e⟩ := Option.bind_eq_some_iff.1 e
    obtain ⟨i, hi, e⟩ := Option.bind_eq_some_iff.1 e
    cases e
    obtain ⟨t, h0, hkind⟩ := Option.bind_eq_some_iff.1 hkind
    rw [lget_eq, Array.getElem?_toList] at h0
    unfold Env.kind at hkind
    obtain ⟨ti, ht, hti⟩ := Option.map_eq_some_iff.1 hkind
    have hk := (hE.ty t ti ht).kind
    rw [hti] at hk; simp only [KindOk] at hk
    simp only [VREL] at rk
    obtain ⟨d, hd, hdk⟩ : ∃ d, P.underlying kt = some d ∧ ((∃ k, d = .int k) ∨ d = .string ∨ d = .bool) := by
      rcases okKey_sound hE hkey rk with ⟨k, n, h1, _⟩ | ⟨s, bs, h1, _⟩ | ⟨x, h1, _⟩
      · exact ⟨_, h1, .inl ⟨_, rfl⟩⟩
      · exact ⟨_, h1, .inr (.inl rfl)⟩
      · exact ⟨_, h1, .inr (.inr rfl)⟩
    have hck : ∀ b, (Instr.checkKey b 10000 kt vk).run P w = .ok () w := checkKey_ok hd hdk
    rcases entries_sound hr hes rm with ⟨rfl, _⟩ | ⟨b', r, ms, ck, bi, eb, rfl, hb, hM, hg, hf, hbase, ho, hO, hent⟩
    · simp only [VREL] at rm; obtain ⟨_, _, rm, _⟩ := rm; cases rm
    · cases eb
      obtain ⟨q1, q2⟩ := findNow_sound hE hkey rk hd (j := 0) hent hi
      have hlen : ms.toList.length = es.length := (ENT_iff.1 hent).len
      have hU : VREL X (.im (.tup [])) true [.tuple #[]] := by simp only [VREL, REL]; exact ⟨#[], [], rfl, by simp [RELs], rfl⟩
      by_cases hlt : i < es.length
      · obtain ⟨me, e1, e2, e3⟩ := q1 hlt
        have hfk := run_findKey (w := w) hd e2
        rw [Nat.zero_add] at hfk
        have hent2 : ENT X (es.eraseIdx i) (ms.eraseIdxIfInBounds i).toList := by
          have : (ms.eraseIdxIfInBounds i).toList = ms.toList.eraseIdx i := by simp
          rw [this]; exact hent.erase i
        obtain ⟨s1, s2, s3, s4⟩ := setMap_sound (ck' := ck) hr hb hM hg hf hbase ho hO hent2
        exact ⟨.tuple #[], _, X, O, by simp [Builtin.delete_, h0, run_underlying hk, run_getObj ho rfl, hck, hfk, run_setObj ho rfl], s1, s2, hU, s3, s4⟩
      · obtain ⟨e1, e2⟩ := q2 hlt
        have hfk := run_findKey (w := w) hd e2
        have hent2 : ENT X (es.eraseIdx i) ms.toList := by rw [List.eraseIdx_of_length_le (by omega)]; exact hent
        obtain ⟨s1, s2, s3, s4⟩ := setMap_sound (ck' := ck) hr hb hM hg hf hbase ho hO hent2
        exact ⟨.tuple #[], _, X, O, by simp [Builtin.delete_, h0, run_underlying hk, run_getObj ho rfl, hck, hfk, run_setObj ho rfl], s1, s2, hU, s3, s4⟩
  · cases e

/-! ### copy -/
theorem splice {α : Type} {l s : List α} {off n : Nat} (hoff : off ≤ l.length) (hn : n ≤ s.length) (hon : off + n ≤ l.length) : (l.take off ++ (s.take n ++ l.drop (off + n))).length = l.length := by
  simp only [List.length_append, List.length_take, List.length_drop]; omega

theorem copy_sound (hE : EnvTy P E) (hr : HR B X O w h) {ty : Nat} {ts : Array Nat} {d s v : V} {h' : Heap} (e : bCopy E ts d s h = some (v, h')) {vd vs : Value} (rd : VREL X d true [vd]) (rs : VREL X s true [vs]) :
    OpS P B X O w h (Builtin.copy_ ts ty #[vd, vs]) v h' := by
  unfold bCopy at e
  obtain ⟨ti, h1, e⟩ := Option.bind_eq_some_iff.1 e
  obtain ⟨t, h0, ht⟩ := Option.bind_eq_some_iff.1 h1
  have hk := (hE.ty t ti ht).kind
  split at e
  · rename_i el hti
    rw [hti] at hk; simp only [KindOk] at hk
    obtain ⟨te, hte, e⟩ := Option.bind_eq_some_iff.1 e
    obtain ⟨tx, htx, e⟩ := Option.bind_eq_some_iff.1 e
    obtain ⟨_, e⟩ := bif_some e
    obtain ⟨src, hsrc, e⟩ := Option.bind_eq_some_iff.1 e
    rw [lget_eq, Array.getElem?_toList] at h0
    obtain ⟨i, i1, i2, _, _⟩ := (hE.ty _ _ hte).info
    cases d with
    | own b g off len lim =>
      simp only at e
      split at e
      · rename_i g' sz ro l hb
        obtain ⟨hc, e⟩ := bif_some e
        simp only [Bool.and_eq_true, Bool.not_eq_true'] at hc
        obtain ⟨hne, hcut, hsz, hro, hfw⟩ := hc
        obtain ⟨hgg, hol⟩ := cutOk_iff hcut
        have hsz := beq_of hsz; subst hsz
        have hro := ble_of hro
        rw [llen_eq] at e
        obtain ⟨as, ns, cs, e1, e2, e3, e4, e5⟩ := delems_cells hr hsrc rs
        subst e1
        simp only [VREL] at rd
        obtain ⟨y, ey, ⟨ad, cap, d1, d2, d3, d4⟩, bi, hM, hgb, hown⟩ := rd
        cases ey; subst d1
        obtain ⟨bj, b1, b2, b3, b4, b5, b6⟩ := hr.blk b _ hb
        rw [hM] at b1; cases b1
        obtain ⟨a', cap', w1, w2, w3, w4, _, w6⟩ := hown (by rw [b2]; exact hgg)
        cases w1
        have hmin : Nat.min len src.length = Nat.min ns len := by rw [← e2]; exact Nat.min_comm len ns
        rw [hmin] at e
        generalize hnn : Nat.min ns len = n at e
        have hn1 : n ≤ len := by rw [← hnn]; exact Nat.min_le_right _ _
        have hn2 : n ≤ src.length := by rw [← hnn, ← e2]; exact Nat.min_le_left _ _
        cases e
        have hnR : VREL X (.im (.int .i64 (Int.ofNat n))) true [.int .i64 n] := lenR (by omega)
        have hlen' : (l.take off ++ (src.take n ++ l.drop (off + n))).length = l.length := splice (by omega) hn2 (by omega)
        by_cases hz : n = 0
        · -- nothing
          subst hz
          have hl : l.take off ++ (src.take 0 ++ l.drop (off + 0)) = l := by simp
          rw [hl]
          have hsame : hput h b (.arr g' te.size ro l) = h := by
            refine List.ext_getElem? fun j => ?_
            have := hget_hput h b j (.arr g' te.size ro l) (Nat.le_of_lt (hget_lt hb))
            have hl2 : (hput h b (.arr g' te.size ro l)).length = h.length := by rw [hput_len, if_pos (hget_lt hb)]
            by_cases hj : j < h.length
            · rw [hget_eq, hget_eq, List.getElem?_eq_getElem (by omega), List.getElem?_eq_getElem hj] at this
              rw [List.getElem?_eq_getElem (by omega), List.getElem?_eq_getElem hj]
              by_cases hjb : j = b
              · subst hjb
                rw [if_pos rfl] at this
                have hb' := hb
                rw [hget_eq, List.getElem?_eq_getElem hj] at hb'
                simp at this hb'
                rw [this, hb']
              · rw [if_neg hjb] at this; simpa using this
            · rw [List.getElem?_eq_none (by omega), List.getElem?_eq_none (by omega)]
          rw [hsame]
          refine .same hr ?_ hnR
          have hf0 : ∀ sz, (Builtin.firstCells sz 0 (.slice as ns cs)).run P w = .ok #[] w := fun sz => by
            cases as with
            | none => exact run_firstCells_none _ _ _ _ _
            | some a0 => exact run_firstCells_some w sz 0 a0 ns cs [] (by simp) (fun j v e => by simp at e)
          have hst : ∀ a : Addr, (storeCells a [] 0).run P w = .ok () w := fun _ => rfl
          cases ad <;> simp [Builtin.copy_, h0, run_underlying hk, Builtin.lenOf, hnn, sizeOf, typeInfo, i1, hf0, hst, goInt]
        · obtain ⟨a0s, wsS, ss, q1, q2, q3, q4, q5⟩ := e5.resolve_left (by
            have h9 : n ≤ ns := (hnn ▸ Nat.min_le_left _ _)
            omega)
          subst q1
          have hs0 := firstWd_of hfw q3 q4 (fun h => by subst h; simp at hn2; exact hz hn2)
          subst hs0
          obtain ⟨a0, k1, k2, k3⟩ := w6.resolve_left (by omega)
          obtain ⟨es, a1, wss0, j1, j2, j3, j4, j5, j6, j7⟩ := b6.resolve_left (by omega)
          rw [k1] at j1; cases j1
          rw [es] at k3
          subst k3
          have hsp := Addr.add_spot a0 (off * te.size) k2
          have hlS : wsS.length = src.length := (RELs_iff.1 q3).len
          have hl0 : wss0.length = l.length := (RELs_iff.1 j3).len
          have hnl : (wsS.take n).flatten.length = n * te.size := by rw [(Even.take q4 n).len, List.length_take]; congr 1; omega
          have hm : (off + n) * te.size ≤ bi.cap * te.size := Nat.mul_le_mul_right _ (by omega)
          rw [Nat.add_mul] at hm
          have hm1 : ro * te.size ≤ off * te.size := Nat.mul_le_mul_right _ hro
          have hsub : Owns w (O b) (a0.add (off * te.size)) 0 (wsS.take n).flatten.length := j7.sub k2 hm1 (by rw [hnl]; omega)
          have hO2 : ∀ j, j < (wsS.take n).flatten.length → O b ((a0.add (off * te.size)).add (0 + j)) := fun j hj => by rw [Nat.zero_add]; exact (hsub j (Nat.zero_le _) hj).1
          have hex : ∀ j, j < (wsS.take n).flatten.length → ∃ u, w.cell? ((a0.add (off * te.size)).add (0 + j)) = some u := fun j hj => by rw [Nat.zero_add]; exact (hsub j (Nat.zero_le _) hj).2.1
          have hfl0 : wss0.flatten.length = l.length * te.size := by rw [Even.len j4, hl0]
          have hm3 : (off + n) * te.size ≤ l.length * te.size := Nat.mul_le_mul_right _ (by omega)
          rw [Nat.add_mul] at hm3
          have hfc : (Builtin.firstCells i.size n (.slice (some a0s) ns cs)).run P w = .ok (wsS.take n).flatten.toArray w :=
            run_firstCells_some w i.size n a0s ns cs _ (by rw [hnl, i2]) (fun j v ev => by
              rw [Even.flatten_take q4] at ev
              exact (q5.take _) j v ev)
          have hones : ∀ u ∈ (wsS.take n).flatten, u.oneCell' = true := RELs.ones (RELs_iff.2 ((RELs_iff.1 q3).take n))
          have hst := run_storeCells_put (P := P) (a0.add (off * te.size)) hsp (wsS.take n).flatten w 0 hones (fun j hj => by rw [Nat.zero_add]; exact (hsub j (Nat.zero_le _) hj).2)
          have hcells : cellsAt (putCells w (a0.add (off * te.size)) (wsS.take n).flatten 0).cell? a0 (wss0.take off ++ (wsS.take n ++ wss0.drop (off + n))).flatten := fun j v ev => by
            rw [List.flatten_append, List.flatten_append, Even.flatten_take j4, Even.flatten_drop j4] at ev
            have htl : (wss0.flatten.take (off * te.size)).length = off * te.size := by rw [List.length_take, hfl0]; omega
            by_cases hj : j < off * te.size
            · rw [List.getElem?_append_left (by rw [htl]; exact hj)] at ev
              rw [putCells_other _ _ w 0 _ (fun m hm he => by rw [Nat.zero_add, Addr.add_add a0 _ _ k2] at he; have := Addr.add_inj k2 he; omega)]
              exact (j5.take _) j v ev
            · rw [List.getElem?_append_right (by rw [htl]; omega), htl] at ev
              by_cases hj2 : j - off * te.size < n * te.size
              · rw [List.getElem?_append_left (by rw [hnl]; exact hj2)] at ev
                have := putCells_at (a0.add (off * te.size)) hsp _ w 0 hex (j - off * te.size) v ev
                rw [Nat.zero_add, Addr.add_add a0 _ _ k2, show off * te.size + (j - off * te.size) = j from by omega] at this
                exact this
              · rw [List.getElem?_append_right (by rw [hnl]; omega), hnl, List.getElem?_drop, Nat.add_mul] at ev
                rw [putCells_other _ _ w 0 _ (fun m hm he => by rw [Nat.zero_add, Addr.add_add a0 _ _ k2] at he; have := Addr.add_inj k2 he; omega)]
                exact j5 j v (by rw [← ev]; congr 1; omega)
          have hput := hr.put (Y := X) (hget_lt hb) (.refl _ _) rfl (fun _ _ => rfl) hr.lt (a0.add (off * te.size)) hsp (wsS.take n).flatten 0 hO2 hex (.arr g' te.size ro (l.take off ++ (src.take n ++ l.drop (off + n)))) ⟨bi, hM, b2, b3, ⟨by rw [hlen']; exact b4.1, by rw [hlen']; exact b4.2⟩, b5, .inr ⟨es, a0, wss0.take off ++ (wsS.take n ++ wss0.drop (off + n)), k1, k2,
            RELs_iff.2 (((RELs_iff.1 j3).take off).app (((RELs_iff.1 q3).take n).app ((RELs_iff.1 j3).drop (off + n)))), (Even.take j4 off).app ((Even.take q4 n).app (Even.drop j4 (off + n))), hcells, ?_, j7.put _ hsp _ 0 hex⟩⟩
          · refine ⟨_, _, X, O, ?_, hput, ⟨.refl _ _, below_block (fun hne => own_block hr hsub (Nat.le_refl _) (by cases hq : (wsS.take n).flatten with | nil => exact absurd hq hne | cons _ _ => simp)), fun a v e hn => (by rw [hn] at e; cases e), fun _ _ e l => putCells_obj _ (lp_not_cells l) _ w 0 e⟩, hnR, by rw [hput_len, if_pos (hget_lt hb)]; exact Nat.le_refl _, FR.put hr hb (fun _ _ => rfl) _ _ 0 hO2 _⟩
            simp [Builtin.copy_, h0, run_underlying hk, Builtin.lenOf, hnn, sizeOf, typeInfo, i1, hfc, hst, goInt]
          · rw [List.flatten_append, Even.flatten_take j4, List.take_append_of_le_length (by rw [List.length_take, hfl0]; omega), List.take_take, Nat.min_eq_left hm1]
            exact j6
      · cases e
    | _ => cases e
  · cases e

/-! ### append -/
theorem run_append_grow_int {t tx ty e : TypeId} {i : TypeInfo} {z : Value} {k : IntKind} (ht : P.underlying t = some (.slice e)) (hk : P.underlying tx = some (.int k)) (hi : P.info? e = some i) (hz : i.zero = some z) (hzs : z.cells.size = i.size) (base : Option Addr) (sLen sCap : Nat) (olds : List Value)
    (hold : (Builtin.firstCells i.size sLen (.slice base sLen sCap)).run P w.drew = .ok olds.toArray w.drew) {n : Nat} (hg : sCap < sLen + n) (h63 : ((sLen + n : Nat) : Int) ≤ 9223372036854775807) (hfit : Builtin.nextslicecap (sLen + n) sCap * i.bytes ≤ 281474976710656) (hb : n * i.bytes ≤ 281474976710656) :
    (Builtin.append_ #[t, tx] ty #[.slice base sLen sCap, .int .i64 n]).run P w =
      .ok (.slice (some ⟨w.heap.size, 0, none⟩) (sLen + n) (grownCap w (sLen + n) sCap e))
        (w.drew.alloc (.cells ((olds ++ (madeCells z.cells (n * i.size)).toList).toArray ++ Builtin.zeroCells z.cells (grownCap w (sLen + n) sCap e - (sLen + n))) e)) := by
  have hn : ¬ (sLen + n ≤ sCap) := by omega
  have h63' : ¬ (9223372036854775807 < ((sLen : Int) + (n : Int))) := by omega
  have h48' : ¬ (281474976710656 < Builtin.nextslicecap (sLen + n) sCap * i.bytes) := by omega
  have hw : IntKind.i64.wrap (n : Int) = n := by rw [IntKind.wrap_i64]; omega
  have hneg : ¬ ((n : Int) < 0) := by omega
  have hbb : ¬ (281474976710656 < (n : Int) * (i.bytes : Int)) := by
    have : (n : Int) * (i.bytes : Int) = ((n * i.bytes : Nat) : Int) := by simp
    rw [this]; omega
  have hmc : Builtin.zeroCells z.cells n = madeCells z.cells (n * i.size) := by unfold Builtin.zeroCells madeCells; rw [hzs]
  by_cases h0 : n * i.size = 0
  · have hm0 : madeCells z.cells (n * i.size) = #[] := by rw [h0]; simp [madeCells]
    simp [Builtin.append_, run_underlying ht, run_underlying hk, sizeOf, typeInfo, zeroValue, hi, hz, asInt, asIntOf, hw, hneg, hbb, hn, h63', h48', h0, Question.forced, hold, newRow, grownCap, hm0]
    rw [h0] at hm0
    rw [hm0]
    simp
  · simp [Builtin.append_, run_underlying ht, run_underlying hk, sizeOf, typeInfo, zeroValue, hi, hz, asInt, asIntOf, hw, hneg, hbb, hn, h63', h48', Question.forced, hold, newRow, grownCap, hmc]
    rw [if_neg h0]
    congr 2
    congr 1
    apply Array.ext'
    simp [List.append_assoc]

theorem appendZ_sound (hr : HR B X O w h) {nid t tx ty el : Nat} {te : TI} (hok : TyOk P el te) (hk : P.underlying t = some (.slice el)) {ki : IntKind} (hkx : P.underlying tx = some (.int ki)) (hn : hget h nid = none) (hM : X.M nid = none) (hle : nid ≤ h.length) {s v : V} {n : Int} {h' : Heap}
    (e : appendZ te nid s n h = some (v, h')) {vs : Value} (rs : VREL X s true [vs]) : OpS P B X O w h (Builtin.append_ #[t, tx] ty #[vs, .int .i64 n]) v h' := by
  unfold appendZ at e
  split at e
  · rename_i l
    obtain ⟨hc, e⟩ := bif_some e
    simp only [Bool.and_eq_true] at hc
    obtain ⟨hf, hpos, hroom⟩ := hc
    obtain ⟨zd, hzd, e⟩ := Option.bind_eq_some_iff.1 e
    obtain ⟨hzv, e⟩ := bif_some e
    cases e
    obtain ⟨i, zv, i1, i2, i3, i5, rz, hzs⟩ := zero_data hok hzd hzv X.C
    rw [ilt_eq, decide_eq_true_eq] at hpos
    obtain ⟨m, rfl⟩ : ∃ m : Nat, n = m := ⟨n.toNat, by omega⟩
    rw [Int.toNat_natCast] at hroom ⊢
    rw [llen_eq] at hroom ⊢
    rw [reps_eq]
    obtain ⟨r1, r2⟩ := room_iff hroom
    simp only [VREL] at rs
    obtain ⟨y, ey, a, nl, e1, e2, e3, e4⟩ := rs
    cases ey; subst e1
    obtain ⟨wo, o1, o2, o3⟩ : ∃ wo, RELs X.C l false wo ∧ Even te.size wo ∧ (nl = 0 ∧ wo.flatten = [] ∨ ∃ a0, a = some a0 ∧ a0.spot = none ∧ wo.flatten.length = nl * te.size ∧ cellsAt X.C a0 wo.flatten) := by
      by_cases hz0 : nl = 0
      · have : l = [] := List.eq_nil_of_length_eq_zero (by omega)
        subst this
        exact ⟨[], by simp [RELs], (fun _ h => by cases h), .inl ⟨hz0, rfl⟩⟩
      · obtain ⟨a0, wss0, s0, q1, q2, q3, q4, q5⟩ := e4.resolve_left hz0
        have hs0 := firstWd_of hf q3 q4 (fun h => by subst h; simp at e2; exact hz0 e2)
        subst hs0
        exact ⟨wss0, q3, q4, .inr ⟨a0, q1, q2, by rw [Even.len q4, (RELs_iff.1 q3).len, e2], q5⟩⟩
    rw [← e2] at r1 r2
    have hfit : Builtin.nextslicecap (nl + m) nl * i.bytes ≤ 281474976710656 := growslice_fits (by omega) (by rw [i3]; omega)
    have hmb : m * i.bytes ≤ (nl + m) * te.bytes := by rw [i3]; exact Nat.mul_le_mul_right _ (by omega)
    have holds : (Builtin.firstCells i.size nl (.slice a nl nl)).run P w.drew = .ok wo.flatten.toArray w.drew := by
      rcases o3 with ⟨rfl, ho⟩ | ⟨a0, rfl, _, h1, h2⟩
      · rw [ho]
        cases a with
        | none => exact run_firstCells_none _ _ _ _ _
        | some a0 => exact run_firstCells_some w.drew i.size 0 a0 0 0 [] (by simp) (fun j v e => by simp at e)
      · exact run_firstCells_some w.drew i.size nl a0 nl nl _ (by rw [h1, i2]) (fun j v e => by simpa using hr.ci _ _ (h2 j v e))
    have hrun := run_append_grow_int (w := w) (ty := ty) hk hkx i1 i5 (by rw [hzs, i2]) a nl nl wo.flatten holds (n := m) (by omega) (by omega) hfit (by omega)
    have hge := grownCap_ge w (nl + m) nl el
    have hleM := grownCap_le_maxLen w (nl + m) nl el (by simp only [maxLen]; omega)
    have hmade : (madeCells zv.cells (m * i.size)).toList = (List.replicate m zv.cells.toList).flatten := madeCells_rep (by rw [hzs, i2]) m
    have hev : Even te.size (List.replicate m zv.cells.toList) := Even.rep (by rw [Array.length_toList]; exact hzs)
    have hcs : ((wo.flatten ++ (madeCells zv.cells (m * i.size)).toList).toArray ++ Builtin.zeroCells zv.cells (grownCap w (nl + m) nl el - (nl + m))).toList = (wo ++ List.replicate m zv.cells.toList).flatten ++ (Builtin.zeroCells zv.cells (grownCap w (nl + m) nl el - (nl + m))).toList := by
      simp [hmade]
    have hNR : NewRow w (w.drew.alloc (.cells ((wo.flatten ++ (madeCells zv.cells (m * i.size)).toList).toArray ++ Builtin.zeroCells zv.cells (grownCap w (nl + m) nl el - (nl + m))) el)) ((wo ++ List.replicate m zv.cells.toList).flatten ++ (Builtin.zeroCells zv.cells (grownCap w (nl + m) nl el - (nl + m))).toList) := by
      have h1 := NewRow.alloc w.drew ((wo.flatten ++ (madeCells zv.cells (m * i.size)).toList).toArray ++ Builtin.zeroCells zv.cells (grownCap w (nl + m) nl el - (nl + m))) el
      rw [hcs] at h1
      exact ⟨(Keep.of_below (below_drew w)).trans h1.keep, h1.size, h1.cell, h1.frozen⟩
    have hBel : Below w.heap.size w (w.drew.alloc (.cells ((wo.flatten ++ (madeCells zv.cells (m * i.size)).toList).toArray ++ Builtin.zeroCells zv.cells (grownCap w (nl + m) nl el - (nl + m))) el)) := (below_drew w).alloc (Nat.le_refl _) _
    have hlen2 : (l ++ List.replicate m zd).length = nl + m := by rw [List.length_append, List.length_replicate, e2]
    have hwl : wo.length = nl := by rw [(RELs_iff.1 o1).len, e2]
    have hcsl : ((wo ++ List.replicate m zv.cells.toList).flatten ++ (Builtin.zeroCells zv.cells (grownCap w (nl + m) nl el - (nl + m))).toList).length = grownCap w (nl + m) nl el * te.size := by
      rw [List.length_append, (o2.app hev).len, List.length_append, List.length_replicate, hwl]
      have : (Builtin.zeroCells zv.cells (grownCap w (nl + m) nl el - (nl + m))).toList.length = (grownCap w (nl + m) nl el - (nl + m)) * te.size := by simp [size_zeroCells, hzs]
      rw [this, ← Nat.add_mul]; congr 1; omega
    obtain ⟨X', O', q1, q2, q3, q4, q5⟩ := newData_sound hr hn hM hle (hBel.mono hr.wb) hNR (s := te.size) (cap := grownCap w (nl + m) nl el) (l := l ++ List.replicate m zd) (wss := wo ++ List.replicate m zv.cells.toList) hcsl (by simp only [maxLen, LMX] at hleM ⊢; omega) (by rw [hlen2]; exact hge) (RELs_iff.2 ((RELs_iff.1 o1).app (RELs_iff.1 (rows_rep rz m)))) (o2.app hev) rfl
    rw [hlen2] at q3
    rw [← e2]
    exact ⟨_, _, X', O', hrun, q1, q2, q3, q4, q5⟩
  · cases e

theorem appendX_sound (hE : EnvTy P E) (hr : HR B X O w h) {nid t tx ty el : Nat} {te : TI} (hte : E.ty el = some te) (hz : okV te te.zero = true) (hk : P.underlying t = some (.slice el)) (hn : hget h nid = none) (hM : X.M nid = none) (hle : nid ≤ h.length) {s x v : V} {h' : Heap} (e : appendX E te nid tx s x h = some (v, h'))
    {vs vx : Value} (rs : VREL X s true [vs]) (rx : VREL X x true [vx]) : OpS P B X O w h (Builtin.append_ #[t, tx] ty #[vs, vx]) v h' := by
  unfold appendX at e
  cases hi : isIntK (E.kind tx) with
  | true =>
    rw [hi, cond_true] at e
    split at e
    · rename_i n
      simp only [VREL, REL] at rx
      obtain ⟨rx, _⟩ := rx; cases rx
      obtain ⟨ki, hki⟩ : ∃ ki, P.underlying tx = some (.int ki) := by
        unfold isIntK Env.kind at hi
        cases htx : E.ty tx with
        | none => rw [htx] at hi; simp at hi
        | some ti =>
          rw [htx] at hi
          simp only [Option.map_some] at hi
          have hkk := (hE.ty tx ti htx).kind
          split at hi
          · rename_i k hh
            rw [Option.some.inj hh] at hkk; simp only [KindOk] at hkk
            exact ⟨k, hkk⟩
          · cases hi
      exact appendZ_sound hr (hE.ty _ _ hte) hk hki hn hM hle e rs
    · cases e
  | false =>
    rw [hi, cond_false] at e
    cases ha : (isArv h s || isArv h x) with
    | true =>
      rw [ha, cond_true] at e
      obtain ⟨hks, e⟩ := bif_some e
      obtain ⟨new, hnew, e⟩ := Option.bind_eq_some_iff.1 e
      obtain ⟨hall, e⟩ := bif_some e
      have hks' : ∃ k, E.kind tx = some (.slc k) := by
        unfold isSlc at hks
        split at hks
        · rename_i k hk; exact ⟨k, hk⟩
        · cases hks
      obtain ⟨wss, hs, hrel, hev⟩ := newVals_src hE hr hks' hnew hall rx
      exact appendV_sound hr (hE.ty _ _ hte) hz hk hn hM hle e rs hs hrel hev
    | false =>
      rw [ha, cond_false] at e
      obtain ⟨new, hnew, e⟩ := Option.bind_eq_some_iff.1 e
      obtain ⟨wss, hs, hrel, hev⟩ := newElems_sound hE hr hnew rx
      exact appendTo_sound hr (hE.ty _ _ hte) hz hk hn hM hle e rs hs hrel hev

theorem append_sound (hE : EnvTy P E) (hr : HR B X O w h) {nid ty : Nat} {ts : Array Nat} (hn : hget h nid = none) (hM : X.M nid = none) (hle : nid ≤ h.length) {s x v : V} {h' : Heap} (e : bAppend E nid ts s x h = some (v, h')) {vs vx : Value} (rs : VREL X s true [vs]) (rx : VREL X x true [vx]) :
    OpS P B X O w h (Builtin.append_ ts ty #[vs, vx]) v h' := by
  unfold bAppend at e
  obtain ⟨ti, h1, e⟩ := Option.bind_eq_some_iff.1 e
  obtain ⟨t, h0, ht⟩ := Option.bind_eq_some_iff.1 h1
  have hk := (hE.ty t ti ht).kind
  split at e
  · rename_i el hti
    rw [hti] at hk; simp only [KindOk] at hk
    obtain ⟨te, hte, e⟩ := Option.bind_eq_some_iff.1 e
    obtain ⟨tx, htx, e⟩ := Option.bind_eq_some_iff.1 e
    obtain ⟨hz, e⟩ := bif_some e
    rw [lget_eq, Array.getElem?_toList] at h0 htx
    rw [append_types h0 htx]
    exact appendX_sound hE hr hte hz hk hn hM hle e rs rx
  · cases e

/-- A new array alone is made. -/
theorem appendTo_new {te : TI} {nid : Nat} {s : V} {new : List D} {g off len : Nat} {l : Bool} {h1 : Heap} (hn : hget h nid = none) (hb : appendTo te nid s new h = some (.own nid g off len l, h1)) : ∃ k, h1 = hput h nid k := by
  unfold appendTo at hb
  split at hb
  · rename_i b' g' off' len' lim'
    cases hg : hget h b' with
    | none => rw [hg] at hb; cases hb
    | some k =>
      have hne : b' ≠ nid := fun e => by subst e; rw [hn] at hg; cases hg
      rw [hg] at hb
      cases k <;> simp only at hb <;> try (cases hb; done)
      cases lim' <;> simp only [cond_true, cond_false] at hb
      · obtain ⟨_, hb⟩ := bif_some hb
        cases hb; exact absurd rfl hne
      · cases hni : isNone new <;> rw [hni] at hb <;> simp only [cond_true, cond_false] at hb
        · obtain ⟨_, hb⟩ := bif_some hb
          cases hb; exact ⟨_, rfl⟩
        · cases hb; exact absurd rfl hne
  · obtain ⟨_, hb⟩ := bif_some hb
    cases hb; exact ⟨_, rfl⟩
  · cases hb
theorem appendV_new {te : TI} {nid : Nat} {s : V} {new : List V} {g off len : Nat} {l : Bool} {h1 : Heap} (hn : hget h nid = none) (hb : appendV te nid s new h = some (.own nid g off len l, h1)) : ∃ k, h1 = hput h nid k := by
  unfold appendV at hb
  split at hb
  · rename_i b' g' off' len' lim'
    cases hg : hget h b' with
    | none => rw [hg] at hb; cases hb
    | some k =>
      have hne : b' ≠ nid := fun e => by subst e; rw [hn] at hg; cases hg
      rw [hg] at hb
      cases k <;> simp only at hb <;> try (cases hb; done)
      obtain ⟨_, hb⟩ := bif_some hb
      cases hb; exact absurd rfl hne
  · obtain ⟨_, hb⟩ := bif_some hb
    cases hb; exact ⟨_, rfl⟩
  · cases hb
theorem bAppend_new {nid : Nat} {ts : Array Nat} {s x : V} {g off len : Nat} {l : Bool} {h1 : Heap} (hn : hget h nid = none) (hb : bAppend E nid ts s x h = some (.own nid g off len l, h1)) : ∃ k, h1 = hput h nid k := by
  unfold bAppend at hb
  obtain ⟨ti, _, hb⟩ := Option.bind_eq_some_iff.1 hb
  split at hb
  · obtain ⟨te, _, hb⟩ := Option.bind_eq_some_iff.1 hb
    obtain ⟨tx, _, hb⟩ := Option.bind_eq_some_iff.1 hb
    obtain ⟨_, hb⟩ := bif_some hb
    unfold appendX at hb
    cases hi : isIntK (E.kind tx) with
    | true =>
      rw [hi, cond_true] at hb
      split at hb
      · unfold appendZ at hb
        split at hb
        · obtain ⟨_, hb⟩ := bif_some hb
          obtain ⟨_, _, hb⟩ := Option.bind_eq_some_iff.1 hb
          obtain ⟨_, hb⟩ := bif_some hb
          cases hb; exact ⟨_, rfl⟩
        · cases hb
      · cases hb
    | false =>
      rw [hi, cond_false] at hb
      cases ha : (isArv h s || isArv h x) with
      | true =>
        rw [ha, cond_true] at hb
        obtain ⟨_, hb⟩ := bif_some hb
        obtain ⟨new, _, hb⟩ := Option.bind_eq_some_iff.1 hb
        obtain ⟨_, hb⟩ := bif_some hb
        exact appendV_new hn hb
      | false =>
        rw [ha, cond_false] at hb
        obtain ⟨new, _, hb⟩ := Option.bind_eq_some_iff.1 hb
        exact appendTo_new hn hb
  · cases hb
end
end Go.As
