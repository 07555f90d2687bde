/-
  AS: parts, addresses of parts, interfaces, functions.
-/
import Derived.Test.YtphcebdhnpbjlaaGreatDoorAsBin
set_option linter.unusedSectionVars false
set_option linter.unusedSimpArgs false
set_option linter.unusedVariables false
namespace Go.As
open Go.RowKit (Below)
variable [Gh]
section
variable {P : Program} {B : Nat} {X : Cx} {O : Nat → Addr → Prop} {w : World} {h : Heap} {E : Env}

theorem REL.single {C : IV} {d : D} {ws : List Value} (h : REL C d true ws) : ∃ y, ws = [y] := by
  cases d <;> simp only [REL] at h
  case int => exact ⟨_, h.1⟩
  case str => obtain ⟨b, e, _⟩ := h; exact ⟨_, e⟩
  case ref => obtain ⟨_, _, e, _⟩ := h; exact ⟨_, e⟩
  case slc => obtain ⟨_, _, _, e, _⟩ := h; exact ⟨_, e⟩
  case agg => obtain ⟨_, _, e, _⟩ := h; exact ⟨_, e⟩
  case tup => obtain ⟨_, _, e, _⟩ := h; exact ⟨_, e⟩
  case ifc => obtain ⟨_, e, _⟩ := h; exact ⟨_, e⟩
  all_goals exact ⟨_, h⟩
theorem VREL.single {X : Cx} {v : V} {ws : List Value} (h : VREL X v true ws) : ∃ y, ws = [y] := by
  cases v <;> simp only [VREL] at h
  case undef => exact List.length_eq_one_iff.1 h
  case im => exact h.single
  case agg => obtain ⟨_, _, e, _⟩ := h; exact ⟨_, e⟩
  case tup => obtain ⟨_, _, e, _⟩ := h; exact ⟨_, e⟩
  case own => obtain ⟨_, e, _⟩ := h; exact ⟨_, e⟩
  case full => obtain ⟨_, e, _⟩ := h; exact ⟨_, e⟩
  case ptr => obtain ⟨_, e, _⟩ := h; exact ⟨_, e⟩
  case fn => obtain ⟨_, _, _, _, e, _⟩ := h; exact ⟨_, e⟩
  case ifc => obtain ⟨_, e, _⟩ := h; exact ⟨_, e⟩
  case mp => obtain ⟨_, _, e, _⟩ := h; exact ⟨_, e⟩
  case yld => obtain ⟨_, e, _⟩ := h; exact ⟨_, e⟩
theorem OpS.puts (hr : HR B X O w h) {m : Sem Value} {v : V} (hp : Puts P w m v) : OpS P B X O w h m v h := by
  obtain ⟨d, x, e, h1, h2⟩ := hp
  subst e
  exact .same hr h1 (by simp only [VREL]; exact h2 _)

theorem run_asInt (k : IntKind) (n : Int) : (asIntOf (.int k n)).run P w = .ok (k, n) w := rfl

theorem pick_sound (hr : HR B X O w h) {c a b v : V} {h' : Heap} (e : sPick h c a b = some (v, h')) {vc va vb : Value} (rc : VREL X c true [vc]) (ra : VREL X a true [va]) (rb : VREL X b true [vb]) :
    OpS P B X O w h (do pure (if ← asBool vc then va else vb)) v h' := by
  unfold sPick at e
  split at e
  · rename_i t
    simp only [VREL, REL] at rc; cases rc
    cases t <;> simp only [cond_true, cond_false] at e <;> cases e
    · exact .same hr rfl rb
    · exact .same hr rfl ra
  · cases e

theorem extract_sound (hr : HR B X O w h) {x v : V} {i : Nat} (e : x.part i = some v) {vx : Value} (r : VREL X x true [vx]) : OpS P B X O w h (Instr.extract vx i) v h := by
  have key : ∀ {l : List V} {ts : Array Value} {wss : List (List Value)}, VRELs X l true wss → ts.toList = wss.flatten → l[i]? = some v → OpS P B X O w h (Instr.extract (.tuple ts) i) v h := by
    intro l ts wss hl ht hi
    have hone : ∀ {l : List V} {wss : List (List Value)} {i : Nat}, VRELs X l true wss → ∀ {v : V}, l[i]? = some v → ∃ y, wss.flatten[i]? = some y ∧ VREL X v true [y] := by
      intro l
      induction l with
      | nil => intro wss i _ v h; simp at h
      | cons u l ih =>
        intro wss i hl v hv
        simp only [VRELs] at hl
        obtain ⟨ws, r, e1, h1, h2⟩ := hl
        subst e1
        obtain ⟨y, ey⟩ := VREL.single h1
        subst ey
        cases i with
        | zero => simp at hv; subst hv; exact ⟨y, by simp, h1⟩
        | succ i => simp at hv; obtain ⟨z, hz, hz2⟩ := ih h2 hv; exact ⟨z, by simpa using hz, hz2⟩
    obtain ⟨y, hy, ry⟩ := hone hl hi
    refine .same hr (x := y) ?_ ry
    have : ts[i]? = some y := by rw [← Array.getElem?_toList, ht]; exact hy
    simp [Instr.extract, this]
  unfold V.part at e
  split at e
  · rename_i l
    simp only [VREL, REL] at r
    obtain ⟨ts, wss, e1, h2, h3⟩ := r
    cases e1
    rw [lget_eq] at e
    refine key (VRELs_im.2 h2) h3 ?_
    rw [List.getElem?_map]; exact e
  · simp only [VREL] at r
    obtain ⟨ts, wss, e1, h2, h3⟩ := r
    cases e1
    rw [lget_eq] at e
    exact key h2 h3 e
  · cases e

theorem iface_sound (hE : EnvTy P E) (hr : HR B X O w h) {t : Nat} {x v : V} {h' : Heap} (e : sIface E h t x = some (v, h')) {vx : Value} (r : VREL X x true [vx]) : OpS P B X O w h (Instr.makeInterface t vx) v h' := by
  unfold sIface Env.kind at e
  cases ht : E.ty t with
  | none => rw [ht] at e; cases e
  | some ti =>
    rw [ht] at e
    have hk := (hE.ty t ti ht).kind
    simp only [Option.map_some] at e
    have hi : (∀ nm, ti.k ≠ .ifc nm) → (Instr.makeInterface t vx).run P w = .ok (.iface t vx) w := by
      intro hne
      unfold Instr.makeInterface
      have : ∃ d, P.underlying t = some d ∧ ∀ ms, d ≠ .interface ms := by
        cases hti : ti.k <;> rw [hti] at hk <;> simp only [KindOk] at hk
        case ptr => obtain ⟨e, hk⟩ := hk; exact ⟨_, hk, by simp⟩
        case st => obtain ⟨e, hk, _⟩ := hk; exact ⟨_, hk, by simp⟩
        case fn => obtain ⟨_, _, _, hk⟩ := hk; exact ⟨_, hk, by simp⟩
        case ifc nm => exact absurd hti (hne nm)
        case oth => obtain ⟨d, hk, _, _, h3⟩ := hk; exact ⟨_, hk, h3⟩
        all_goals exact ⟨_, hk, by simp⟩
      obtain ⟨d, hd, hn⟩ := this
      simp only [Sem.run_bind, run_underlying hd, Result.andThen_ok]
      cases d <;> first | rfl | exact absurd rfl (hn _)
    split at e
    · cases e
    · rename_i k hne hk'
      have hne' : ∀ nm, ti.k ≠ .ifc nm := fun nm hh => by cases hk'; exact hne nm hh
      split at e
      · rename_i d
        cases e
        simp only [VREL] at r
        exact .same hr (hi hne') (by simp only [VREL, REL]; exact ⟨vx, rfl, r⟩)
      · cases e
      · cases e
        exact .same hr (hi hne') (by simp only [VREL]; exact ⟨vx, rfl, r⟩)
    · rename_i hh; cases hh

theorem nilCheck_sound {x v : V} {h' : Heap} (e : sNilCheck h x = some (v, h')) {vx : Value} (r : VREL X x true [vx]) :
    v = x ∧ h' = h ∧ ∃ a, vx = .pointer (some a) := by
  unfold sNilCheck at e
  split at e
  · cases e
    simp only [VREL] at r
    obtain ⟨y, ey, ⟨a, ea⟩, _⟩ := r
    cases ey
    exact ⟨rfl, rfl, a, ea⟩
  · cases e
    simp only [VREL, REL] at r
    obtain ⟨a, ws, ea, _⟩ := r
    cases ea
    exact ⟨rfl, rfl, a, rfl⟩
  · cases e
end
end Go.As
