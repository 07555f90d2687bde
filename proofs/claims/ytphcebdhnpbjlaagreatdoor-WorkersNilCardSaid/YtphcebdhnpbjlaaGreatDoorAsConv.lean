/-
  AS: conversions, function values.
-/
import Derived.Test.YtphcebdhnpbjlaaGreatDoorAsMake
import Derived.Laws.BytesString
import Derived.Lib.ConvBytes
set_option linter.unusedSectionVars false
set_option linter.unusedSimpArgs false
set_option linter.unusedVariables false
namespace Go.As
open Go.RowKit (Below)
variable [Gh]
section
variable {P : Program} {B : Nat} {X : Cx} {O : Nat → Addr → Prop} {w : World} {h : Heap} {E : Env}

theorem makeFunc_sound (hr : HR B X O w h) {ev : Operand → V} {ρ : Operand → Value} {f : Fn} {a c : Array Operand} {v : V} {h' : Heap} (e : sFunc ev h f a c = some (v, h'))
    (ra : ∀ o ∈ a.toList, VREL X (ev o) true [ρ o]) (rc : ∀ o ∈ c.toList, VREL X (ev o) true [ρ o]) : OpS P B X O w h (Instr.makeFunc f (a.map ρ) (c.map ρ)) v h' := by
  have key : ∀ {l : List Operand}, (∀ o ∈ l, VREL X (ev o) true [ρ o]) → VRELs X (List.rec [] (fun o _ ih => ev o :: ih) l) true (l.map fun o => [ρ o]) := by
    intro l
    induction l with
    | nil => intro _; simp [VRELs]
    | cons o l ih => intro h; simp only [VRELs]; exact ⟨_, _, rfl, h o (by simp), ih fun o ho => h o (by simp [ho])⟩
  have hfl : ∀ l : List Operand, (l.map fun o => [ρ o]).flatten = l.map ρ := by
    intro l; induction l <;> simp_all
  unfold sFunc at e
  split at e
  · cases e
    refine .same hr rfl ?_
    simp only [VREL]
    exact ⟨_, _, _, _, rfl, key ra, by rw [hfl]; simp, key rc, by rw [hfl]; simp⟩
  · cases e

theorem elems_data {x : V} {l : List D} (e : x.elems h = some l) : x.data h = some (.slc l) := by
  unfold V.elems at e
  split at e
  · cases e; rfl
  · cases e; rfl
  · simp only [V.data, e, Option.map_some]
  · cases e
/-- The elements of a slice, as they lie in memory. -/
theorem elems_cells (hr : HR B X O w h) {x : V} {l : List D} (e : x.elems h = some l) {m : Bool} {vx : Value} (r : VREL X x m [vx]) :
    ∃ a n cap, vx = .slice a n cap ∧ n = l.length ∧ n ≤ cap ∧ n ≤ LMX ∧ (n = 0 ∨ ∃ a0 wss s, a = some a0 ∧ a0.spot = none ∧ RELs (bigView B X w) l false wss ∧ Even s wss ∧ cellsAt w.cell? a0 wss.flatten) := by
  have := data_sound hr (bigView_shows hr) (elems_data e) (fun _ _ => trivial) r
  simp only [REL] at this
  obtain ⟨a, n, cap, e1, e2, e3, e4, e5⟩ := this
  cases e1
  refine ⟨a, n, cap, rfl, e2, e3, e4, e5.imp id ?_⟩
  rintro ⟨a0, wss, s, q1, q2, q3, q4, q5⟩
  exact ⟨a0, wss, s, q1, q2, q3, q4, fun j v hj => bigView_ci hr.ci _ _ (q5 j v hj)⟩

theorem bytesOf_cells {C : IV} : ∀ {l : List D} {bs : List Nat}, bytesOf l = some bs → ∀ {wss : List (List Value)}, RELs C l false wss →
    ∃ ns : List Int, wss.flatten = ns.map (Value.int .u8) ∧ bs = ns.map Int.toNat ∧ (∀ n ∈ ns, inR .u8 n) ∧ ns.length = l.length
  | [], bs, e, wss, r => by
    simp only [RELs] at r; subst r; cases e
    exact ⟨[], rfl, rfl, by simp, rfl⟩
  | d :: l, bs, e, wss, r => by
    simp only [RELs] at r
    obtain ⟨ws, r', e1, h1, h2⟩ := r
    subst e1
    have hd : ∃ n, d = .int .u8 n ∧ (bytesOf l).map (n.toNat :: ·) = some bs := by
      cases d with
      | int k n => cases k <;> first | (exact ⟨n, rfl, e⟩) | (cases e; done)
      | _ => cases e
    obtain ⟨n, rfl, e'⟩ := hd
    · obtain ⟨bs', hb, e'⟩ := Option.map_eq_some_iff.1 e'
      subst e'
      simp only [REL] at h1
      obtain ⟨h1, h3⟩ := h1
      subst h1
      obtain ⟨ns, q1, q2, q3, q4⟩ := bytesOf_cells hb h2
      exact ⟨n :: ns, by simp [q1], by simp [q2], by simpa using ⟨h3, q3⟩, by simp [q4]⟩

theorem bytesWorld_below (w : World) (e : TypeId) (s : ByteArray) : Below w.heap.size w (Lib.bytesWorld w e s) :=
  ⟨rfl, rfl, rfl, by rw [Lib.bytesWorld_size]; omega, fun k hk => Lib.bytesWorld_at_old w e s k hk⟩
theorem bytesWorld_row (w : World) (e : TypeId) (s : ByteArray) : NewRow w (Lib.bytesWorld w e s) (Lib.bytesCells w e s).toList := by
  refine ⟨.of_below (bytesWorld_below w e s), by rw [Lib.bytesWorld_size]; omega, fun j v hj => ?_, fun j hj => ?_⟩
  · simp only [World.cell?, Lib.bytesWorld_at_new]
    simpa using hj
  · rw [Array.length_toList] at hj
    simp only [World.frozen?, Lib.bytesWorld_at_new]
    simp; omega

theorem byteD_rows {C : IV} : ∀ l : List UInt8, RELs C (l.map fun u => byteD u.toNat) false (l.map fun u => [Value.int .u8 u.toNat])
  | [] => by simp [RELs]
  | u :: l => by
    simp only [List.map_cons, RELs]
    refine ⟨_, _, rfl, ?_, byteD_rows l⟩
    simp only [byteD, REL]
    refine ⟨rfl, ?_⟩
    have := u.toNat_lt
    constructor
    · show (0 : Int) ≤ (u.toNat : Int); omega
    · show (u.toNat : Int) ≤ 255; omega
theorem bytes_flat : ∀ l : List UInt8, (l.map fun u => [Value.int .u8 u.toNat]).flatten = l.map fun u => Value.int .u8 u.toNat
  | [] => rfl
  | u :: l => by simp [bytes_flat l]

theorem push_bytes : ∀ (ns : List Int) (b : ByteArray), (∀ n ∈ ns, inR .u8 n) → bytesL (ns.foldl (fun r n => r.push (UInt8.ofNat n.toNat)) b) = bytesL b ++ ns.map Int.toNat
  | [], b, _ => by simp
  | n :: ns, b, h => by
    rw [List.foldl_cons, push_bytes ns _ fun m hm => h m (by simp [hm])]
    have hn : inR .u8 n := h n (by simp)
    have h1 : (0 : Int) ≤ n := hn.1
    have h2 : n ≤ 255 := hn.2
    have : bytesL (b.push (UInt8.ofNat n.toNat)) = bytesL b ++ [n.toNat] := by
      unfold bytesL
      show ((b.data.push _).toList.map _) = _
      rw [Array.toList_push, List.map_append]
      simp; omega
    rw [this]; simp

theorem conv_sound (hE : EnvTy P E) (hr : HR B X O w h) {n s d : Nat} (hn : hget h n = none) (hM : X.M n = none) (hle : n ≤ h.length) {x v : V} {h' : Heap} (e : convV E h n s d x = some (v, h')) {vx : Value} (r : VREL X x true [vx]) :
    OpS P B X O w h (convert s d vx) v h' := by
  unfold convV Env.kind at e
  cases hs : E.ty s with
  | none => rw [hs] at e; cases e
  | some ts =>
  cases hd : E.ty d with
  | none => rw [hs, hd] at e; simp only [Option.map_some, Option.map_none] at e; split at e <;> simp_all
  | some td =>
  rw [hs, hd] at e
  have k1 := (hE.ty s ts hs).kind
  have k2 := (hE.ty d td hd).kind
  simp only [Option.map_some] at e
  split at e
  · rename_i h1 h2
    simp only [Option.some.injEq] at h1 h2
    rw [h1] at k1; rw [h2] at k2
    simp only [KindOk] at k1 k2
    cases e
    simp only [VREL, REL] at r
    obtain ⟨r, _⟩ := r; cases r
    refine .same hr (by simp only [convert, Sem.run_bind, run_underlying k1, run_underlying k2, Result.andThen_ok]; rfl) ?_
    simp only [VREL, REL]
    exact ⟨by rw [wr_eq], wr_in _ _⟩
  · rename_i h1 h2
    simp only [Option.some.injEq] at h1 h2
    rw [h1] at k1; rw [h2] at k2
    simp only [KindOk] at k1 k2
    cases e
    have r' := r
    simp only [VREL, REL] at r
    obtain ⟨b, r, _⟩ := r; cases r
    refine .same hr (by simp only [convert, Sem.run_bind, run_underlying k1, run_underlying k2, Result.andThen_ok]; rfl) r'
  · rename_i el b h1 h2
    simp only [Option.some.injEq] at h1 h2
    rw [h1] at k1; rw [h2] at k2
    simp only [KindOk] at k1 k2
    cases hte : E.ty el with
    | none => rw [hte] at e; cases e
    | some te =>
    rw [hte] at e
    have k3 := (hE.ty el te hte).kind
    simp only [Option.map_some] at e
    split at e
    · rename_i h3
      simp only [Option.some.injEq] at h3
      rw [h3] at k3; simp only [KindOk] at k3
      cases e
      simp only [VREL, REL] at r
      obtain ⟨bs, r, hb, hsz⟩ := r; cases r
      subst hb
      have hrun := Lib.run_convert_string_bytes w s d el bs k1 k2 k3
      have hge := grownCap_ge w bs.size 0 el
      have hcl : (Lib.bytesCells w el bs).toList.length = grownCap w bs.size 0 el * 1 := by
        have : bs.data.size = bs.size := rfl
        simp [Lib.bytesCells, this]; omega
      have hlb : List.map byteD (bytesL bs) = bs.data.toList.map fun u => byteD u.toNat := by unfold bytesL; rw [List.map_map]; rfl
      have hlen : (bs.data.toList.map fun u => byteD u.toNat).length = bs.size := by rw [List.length_map, Array.length_toList]; rfl
      obtain ⟨X', O', q1, q2, q3, q4⟩ := newData_sound hr hn hM hle ((bytesWorld_below w el bs).mono hr.wb) (bytesWorld_row w el bs) hcl (grownCap_le_maxLen w _ 0 el hsz) (by rw [hlen]; exact hge) (byteD_rows (C := X.C) bs.data.toList) (by intro ws hw; obtain ⟨u, _, rfl⟩ := List.mem_map.1 hw; rfl)
        (rest := List.replicate (grownCap w bs.size 0 el - bs.size) (.int .u8 0)) (by rw [bytes_flat]; simp [Lib.bytesCells])
      rw [hlen] at q3
      rw [llen_eq, bytesL_len, hlb]
      exact ⟨_, _, X', O', hrun, q1, q2, q3, q4⟩
    · cases e
  · rename_i x el h1 h2
    simp only [Option.some.injEq] at h1 h2
    rw [h1] at k1; rw [h2] at k2
    simp only [KindOk] at k1 k2
    cases hte : E.ty el with
    | none => rw [hte] at e; cases e
    | some te =>
    rw [hte] at e
    have k3 := (hE.ty el te hte).kind
    simp only [Option.map_some] at e
    split at e
    · rename_i l h3 hl
      simp only [Option.some.injEq] at h3
      rw [h3] at k3; simp only [KindOk] at k3
      obtain ⟨bs, hb, e⟩ := Option.map_eq_some_iff.1 e
      cases e
      obtain ⟨a, m, cap, ea, hm, hmc, hmx, hc⟩ := elems_cells hr hl r
      subst ea
      have hnil : m = 0 → bs = [] := by
        intro h0
        have : l = [] := List.eq_nil_of_length_eq_zero (by omega)
        subst this; cases hb; rfl
      cases a with
      | none =>
        have h0 : m = 0 := by
          rcases hc with hc | ⟨_, _, _, hh, _⟩
          · exact hc
          · cases hh
        rw [hnil h0]
        refine .same hr (x := .string .empty) (by rw [run_convert_bytes_string w s d el _ _ _ k1 k3 k2]; rfl) ?_
        simp only [VREL, REL]
        exact ⟨_, rfl, rfl, by simp [LMX]⟩
      | some a =>
        have hns : ∃ ns : List Int, (loadCells a m).run P w = .ok (ns.map (Value.int .u8)).toArray w ∧ bs = ns.map Int.toNat ∧ (∀ n ∈ ns, inR .u8 n) ∧ ns.length = m := by
          rcases hc with hc | ⟨a0, wss, sz, hh, q1, q2, q3, q4⟩
          · subst hc
            exact ⟨[], run_loadCells_list (P := P) (w := w) a [] (by simp), by rw [hnil rfl]; rfl, by simp, rfl⟩
          · cases hh
            obtain ⟨ns, p1, p2, p3, p4⟩ := bytesOf_cells hb q2
            rw [p1] at q4
            have := run_loadCells_list (P := P) (w := w) a (ns.map (Value.int .u8)) (fun j v e => q4 j v e)
            rw [List.length_map, p4, ← hm] at this
            exact ⟨ns, this, p2, p3, by omega⟩
        obtain ⟨ns, p1, p2, p3, p4⟩ := hns
        refine .same hr (x := _) (by rw [run_convert_bytes_string w s d el _ _ _ k1 k3 k2]; exact run_bytesToString w a m cap ns p1) ?_
        simp only [VREL, REL]
        have hpb := push_bytes ns ByteArray.empty p3
        refine ⟨_, rfl, by rw [hpb, p2]; rfl, ?_⟩
        have := bytesL_len (ns.foldl (fun r n => r.push (UInt8.ofNat n.toNat)) ByteArray.empty)
        rw [hpb] at this
        rw [← this]
        simp [bytesL, p4]; exact hmx
    · cases e
  · cases e
end
end Go.As
