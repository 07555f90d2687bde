/-
  AS: how abstract values stand for the model's values and memory, and what survives as memory grows.
-/
import Derived.Test.YtphcebdhnpbjlaaGreatDoorAsDef
import Derived.Below
import Derived.OrdersIn
import Derived.RangeFuncLeaves
import Derived.RangeFuncOwn
import Derived.RangeFuncNested
set_option linter.unusedSectionVars false
set_option linter.unusedSimpArgs false
set_option linter.unusedVariables false
namespace Go.As
open Go.RowKit (Below)

abbrev IV := Addr → Option Value
def LMX : Nat := 9223372036854775807
def cellsAt (C : IV) (a : Addr) (vs : List Value) : Prop := ∀ j v, vs[j]? = some v → C (a.add j) = some v
def inR (k : IntKind) (n : Int) : Prop := k.min ≤ n ∧ n ≤ k.max
def bytesL (b : ByteArray) : List Nat := b.data.toList.map UInt8.toNat

mutual
/-- How data stand in cells (m = false), or as one value (m = true); what lies behind a pointer or a slice is read in C. -/
def REL (C : IV) : D → Bool → List Value → Prop
  | .bool b, _, vs => vs = [.bool b]
  | .int k n, _, vs => vs = [.int k n] ∧ inR k n
  | .str s, _, vs => ∃ b : ByteArray, vs = [.string b] ∧ bytesL b = s ∧ b.size ≤ LMX
  | .nil, _, vs => vs = [.pointer none]
  | .ref d, _, vs => ∃ a ws, vs = [.pointer (some a)] ∧ a.spot = none ∧ REL C d false ws ∧ cellsAt C a ws
  | .slc l, _, vs => ∃ a n cap, vs = [.slice a n cap] ∧ n = l.length ∧ n ≤ cap ∧ n ≤ LMX ∧
      (n = 0 ∨ ∃ a0 wss s, a = some a0 ∧ a0.spot = none ∧ RELs C l false wss ∧ (∀ ws ∈ wss, ws.length = s) ∧ cellsAt C a0 wss.flatten)
  | .agg w l, true, vs => ∃ cs wss, vs = [.agg cs] ∧ cs.toList = wss.flatten ∧ RELs C l false wss ∧ cs.size = w
  | .agg w l, false, vs => ∃ wss, vs = wss.flatten ∧ RELs C l false wss ∧ vs.length = w
  | .tup l, true, vs => ∃ ts wss, vs = [.tuple ts] ∧ RELs C l true wss ∧ ts.toList = wss.flatten
  | .tup _, false, _ => False
  | .fn f, _, vs => vs = [.func (.func f) #[] #[]]
  | .nfn, _, vs => vs = [.nilFunc]
  | .ifc t d, _, vs => ∃ x, vs = [.iface t x] ∧ REL C d true [x]
  | .inil, _, vs => vs = [.nilIface]
  | .mnil, _, vs => vs = [.map none]
def RELs (C : IV) : List D → Bool → List (List Value) → Prop
  | [], _, wss => wss = []
  | d :: l, m, wss => ∃ ws r, wss = ws :: r ∧ REL C d m ws ∧ RELs C l m r
end

def IV.le (C C' : IV) : Prop := ∀ a v, C a = some v → C' a = some v
theorem IV.le.refl (C : IV) : C.le C := fun _ _ h => h
theorem IV.le.trans {A B C : IV} (h : A.le B) (k : B.le C) : A.le C := fun a v e => k a v (h a v e)
theorem cellsAt.mono {C C' : IV} (h : C.le C') {a : Addr} {vs : List Value} (k : cellsAt C a vs) : cellsAt C' a vs := fun j v e => h _ _ (k j v e)

mutual
theorem REL.mono {C C' : IV} (h : C.le C') : ∀ (d : D) (m : Bool) (vs : List Value), REL C d m vs → REL C' d m vs
  | .bool _, _, _, k | .nil, _, _, k | .fn _, _, _, k | .nfn, _, _, k | .inil, _, _, k | .mnil, _, _, k | .int _ _, _, _, k | .str _, _, _, k => by simpa [REL] using k
  | .ref d, _, _, k => by
    simp only [REL] at k ⊢
    obtain ⟨a, ws, e, s, r, c⟩ := k
    exact ⟨a, ws, e, s, REL.mono h d false ws r, c.mono h⟩
  | .slc l, _, _, k => by
    simp only [REL] at k ⊢
    obtain ⟨a, n, cap, e, hn, hc, hm, r⟩ := k
    refine ⟨a, n, cap, e, hn, hc, hm, r.imp id ?_⟩
    rintro ⟨a0, wss, s, e0, hs, hr, hw, hc⟩
    exact ⟨a0, wss, s, e0, hs, RELs.mono h l false wss hr, hw, hc.mono h⟩
  | .agg w l, true, _, k => by
    simp only [REL] at k ⊢
    obtain ⟨cs, wss, e, h1, h2, h3⟩ := k
    exact ⟨cs, wss, e, h1, RELs.mono h l false wss h2, h3⟩
  | .agg w l, false, _, k => by
    simp only [REL] at k ⊢
    obtain ⟨wss, e, h2, h3⟩ := k
    exact ⟨wss, e, RELs.mono h l false wss h2, h3⟩
  | .tup l, true, _, k => by
    simp only [REL] at k ⊢
    obtain ⟨ts, wss, e, h2, h3⟩ := k
    exact ⟨ts, wss, e, RELs.mono h l true wss h2, h3⟩
  | .tup l, false, _, k => by simp [REL] at k
  | .ifc t d, _, _, k => by
    simp only [REL] at k ⊢
    obtain ⟨x, e, r⟩ := k
    exact ⟨x, e, REL.mono h d true [x] r⟩
theorem RELs.mono {C C' : IV} (h : C.le C') : ∀ (l : List D) (m : Bool) (wss : List (List Value)), RELs C l m wss → RELs C' l m wss
  | [], _, _, k => by simpa [RELs] using k
  | d :: l, m, _, k => by
    simp only [RELs] at k ⊢
    obtain ⟨ws, r, e, h1, h2⟩ := k
    exact ⟨ws, r, e, REL.mono h d m ws h1, RELs.mono h l m r h2⟩
end

/-- What is known of a block: its generation, where its first place lies, how many cells a place has, how many places there are. For a map: the object. -/
structure BI where
  g : Nat
  base : Option Addr
  s : Nat
  cap : Nat
  fix : Bool

structure Cx where
  C : IV
  M : Nat → Option BI
  L : Nat → Option Nat

def OwnR (X : Cx) (b g off len : Nat) (lim : Bool) (v : Value) : Prop :=
  (∃ a cap, v = .slice a len cap ∧ len ≤ cap ∧ len ≤ LMX ∧ (cap = 0 ∨ ∃ a0, a = some a0)) ∧ ∃ bi, X.M b = some bi ∧ g ≤ bi.g ∧ (g = bi.g → ∃ a cap, v = .slice a len cap ∧ len ≤ cap ∧ len ≤ LMX ∧ off + cap ≤ bi.cap ∧
    (lim = true → cap = len) ∧ (cap = 0 ∨ ∃ a0, bi.base = some a0 ∧ a0.spot = none ∧ a = some (a0.add (off * bi.s))))
def pathOff (p : List (Nat × Nat)) : Nat := (p.map (·.2)).sum
def PtrR (X : Cx) (b g : Nat) (p : List (Nat × Nat)) (v : Value) : Prop :=
  (∃ a, v = .pointer (some a)) ∧ ∃ bi, X.M b = some bi ∧ g ≤ bi.g ∧ (g = bi.g → ∃ a0, bi.base = some a0 ∧ a0.spot = none ∧ v = .pointer (some (a0.add (pathOff p))))
theorem OwnR.one {X : Cx} {b g off len : Nat} {lim : Bool} {v : Value} (h : OwnR X b g off len lim v) : v.oneCell' = true := by obtain ⟨⟨a, n, e, _⟩, _⟩ := h; subst e; rfl
theorem PtrR.one {X : Cx} {b g : Nat} {p : List (Nat × Nat)} {v : Value} (h : PtrR X b g p v) : v.oneCell' = true := by obtain ⟨⟨a, e⟩, _⟩ := h; subst e; rfl
def FullR (C : IV) (l : List D) (v : Value) : Prop :=
  ∃ a n, v = .slice a n n ∧ n = l.length ∧ n ≤ LMX ∧
    (n = 0 ∨ ∃ a0 wss s, a = some a0 ∧ a0.spot = none ∧ RELs C l false wss ∧ (∀ ws ∈ wss, ws.length = s) ∧ cellsAt C a0 wss.flatten)

mutual
def VREL (X : Cx) : V → Bool → List Value → Prop
  | .undef, true, vs => vs.length = 1
  | .undef, false, _ => False
  | .im d, m, vs => REL X.C d m vs
  | .agg w l, true, vs => ∃ cs wss, vs = [.agg cs] ∧ cs.toList = wss.flatten ∧ VRELs X l false wss ∧ cs.size = w
  | .agg w l, false, vs => ∃ wss, vs = wss.flatten ∧ VRELs X l false wss ∧ vs.length = w
  | .tup l, true, vs => ∃ ts wss, vs = [.tuple ts] ∧ VRELs X l true wss ∧ ts.toList = wss.flatten
  | .tup _, false, _ => False
  | .own b g off len lim, _, vs => ∃ v, vs = [v] ∧ OwnR X b g off len lim v
  | .full l, _, vs => ∃ v, vs = [v] ∧ FullR X.C l v
  | .ptr b g p, _, vs => ∃ v, vs = [v] ∧ PtrR X b g p v
  | .fn f a c, _, vs => ∃ fs cs w1 w2, vs = [.func (.func f) fs cs] ∧ VRELs X a true w1 ∧ fs.toList = w1.flatten ∧ VRELs X c true w2 ∧ cs.toList = w2.flatten
  | .ifc t v, _, vs => ∃ x, vs = [.iface t x] ∧ VREL X v true [x]
  | .mp b, _, vs => ∃ r bi, vs = [.map (some r)] ∧ X.M b = some bi ∧ bi.base = some ⟨r, 0, none⟩ ∧ bi.fix = true
  | .yld i, _, vs => ∃ l, vs = [.func (.yield l) #[] #[]] ∧ ∃ bi, X.M i = some bi ∧ bi.base = some ⟨l, 0, none⟩ ∧ bi.fix = true
def VRELs (X : Cx) : List V → Bool → List (List Value) → Prop
  | [], _, wss => wss = []
  | v :: l, m, wss => ∃ ws r, wss = ws :: r ∧ VREL X v m ws ∧ VRELs X l m r
end

/-- Later: more is immutable; the blocks below fb are what they were, or of a later generation. -/
structure Cx.le (fb : Nat) (X Y : Cx) : Prop where
  C : X.C.le Y.C
  M : ∀ b bi, b < fb → X.M b = some bi → ∃ bj, Y.M b = some bj ∧ bi.g ≤ bj.g ∧ (bi.g = bj.g → bi = bj) ∧ (bi.fix = true → bi = bj)
  L : ∀ i l, X.L i = some l → Y.L i = some l
theorem Cx.le.refl (fb : Nat) (X : Cx) : X.le fb X := ⟨.refl _, fun _ bi _ h => ⟨bi, h, Nat.le_refl _, fun _ => rfl, fun _ => rfl⟩, fun _ _ h => h⟩
theorem Cx.le.trans {fb : Nat} {X Y Z : Cx} (h : X.le fb Y) (k : Y.le fb Z) : X.le fb Z :=
  ⟨h.C.trans k.C, fun b bi hb e => by
    obtain ⟨bj, e1, g1, h1, f1⟩ := h.M b bi hb e
    obtain ⟨bk, e2, g2, h2, f2⟩ := k.M b bj hb e1
    refine ⟨bk, e2, Nat.le_trans g1 g2, fun hg => ?_, fun hf => ?_⟩
    · have : bi.g = bj.g := by omega
      rw [h1 this]; exact h2 (by omega)
    · have := f1 hf; subst this; exact f2 hf, fun i l e => k.L i l (h.L i l e)⟩
theorem Cx.le.less {fb fb' : Nat} {X Y : Cx} (h : X.le fb Y) (hf : fb' ≤ fb) : X.le fb' Y := ⟨h.C, fun b bi hb e => h.M b bi (by omega) e, h.L⟩

/-- All blocks that are known have numbers below n. -/
def Cx.lt (X : Cx) (n : Nat) : Prop := ∀ b bi, X.M b = some bi → b < n

mutual
/-- All blocks that a value names lie below fb. -/
def V.low (fb : Nat) : V → Prop
  | .undef | .im _ | .full _ => True
  | .agg _ l | .tup l => V.lows fb l
  | .own b _ _ _ _ | .ptr b _ _ | .mp b | .yld b => b < fb
  | .fn _ a c => V.lows fb a ∧ V.lows fb c
  | .ifc _ v => v.low fb
def V.lows (fb : Nat) : List V → Prop
  | [] => True
  | v :: l => v.low fb ∧ V.lows fb l
end

theorem OwnR.mono {fb : Nat} {X Y : Cx} (h : X.le fb Y) {b g off len : Nat} {lim : Bool} {v : Value} (hb : b < fb) (k : OwnR X b g off len lim v) : OwnR Y b g off len lim v := by
  obtain ⟨h1, bi, e, hg, r⟩ := k
  obtain ⟨bj, e2, g2, h2, _⟩ := h.M b bi hb e
  refine ⟨h1, bj, e2, Nat.le_trans hg g2, fun hgj => ?_⟩
  have : bi.g = bj.g := by omega
  rw [← h2 this]; exact r (by omega)
theorem PtrR.mono {fb : Nat} {X Y : Cx} (h : X.le fb Y) {b g : Nat} {p : List (Nat × Nat)} {v : Value} (hb : b < fb) (k : PtrR X b g p v) : PtrR Y b g p v := by
  obtain ⟨h1, bi, e, hg, r⟩ := k
  obtain ⟨bj, e2, g2, h2, _⟩ := h.M b bi hb e
  refine ⟨h1, bj, e2, Nat.le_trans hg g2, fun hgj => ?_⟩
  have : bi.g = bj.g := by omega
  rw [← h2 this]; exact r (by omega)
theorem FullR.mono {C C' : IV} (h : C.le C') {l : List D} {v : Value} (k : FullR C l v) : FullR C' l v := by
  obtain ⟨a, n, e, hn, hm, r⟩ := k
  refine ⟨a, n, e, hn, hm, r.imp id ?_⟩
  rintro ⟨a0, wss, s, e0, hs, hr, hw, hc⟩
  exact ⟨a0, wss, s, e0, hs, hr.mono h, hw, hc.mono h⟩

mutual
theorem VREL.mono {fb : Nat} {X Y : Cx} (h : X.le fb Y) : ∀ (v : V) (m : Bool) (vs : List Value), v.low fb → VREL X v m vs → VREL Y v m vs
  | .undef, true, _, _, k => by simpa [VREL] using k
  | .undef, false, _, _, k => by simp [VREL] at k
  | .im d, m, vs, _, k => by simp only [VREL] at k ⊢; exact REL.mono h.C d m vs k
  | .agg w l, true, _, hl, k => by
    simp only [VREL] at k ⊢
    obtain ⟨cs, wss, e, h1, h2, h3⟩ := k
    exact ⟨cs, wss, e, h1, VRELs.mono h l false wss (by simpa [V.low] using hl) h2, h3⟩
  | .agg w l, false, _, hl, k => by
    simp only [VREL] at k ⊢
    obtain ⟨wss, e, h2, h3⟩ := k
    exact ⟨wss, e, VRELs.mono h l false wss (by simpa [V.low] using hl) h2, h3⟩
  | .tup l, true, _, hl, k => by
    simp only [VREL] at k ⊢
    obtain ⟨ts, wss, e, h2, h3⟩ := k
    exact ⟨ts, wss, e, VRELs.mono h l true wss (by simpa [V.low] using hl) h2, h3⟩
  | .tup _, false, _, _, k => by simp [VREL] at k
  | .own b g off len lim, _, _, hl, k => by
    simp only [VREL] at k ⊢
    obtain ⟨v, e, r⟩ := k
    exact ⟨v, e, r.mono h (by simpa [V.low] using hl)⟩
  | .full l, _, _, _, k => by
    simp only [VREL] at k ⊢
    obtain ⟨v, e, r⟩ := k
    exact ⟨v, e, r.mono h.C⟩
  | .ptr b g p, _, _, hl, k => by
    simp only [VREL] at k ⊢
    obtain ⟨v, e, r⟩ := k
    exact ⟨v, e, r.mono h (by simpa [V.low] using hl)⟩
  | .fn f a c, _, _, hl, k => by
    simp only [VREL] at k ⊢
    simp only [V.low] at hl
    obtain ⟨fs, cs, w1, w2, e, h1, e1, h2, e2⟩ := k
    exact ⟨fs, cs, w1, w2, e, VRELs.mono h a true w1 hl.1 h1, e1, VRELs.mono h c true w2 hl.2 h2, e2⟩
  | .ifc t v, _, _, hl, k => by
    simp only [VREL] at k ⊢
    obtain ⟨x, e, r⟩ := k
    exact ⟨x, e, VREL.mono h v true [x] (by simpa [V.low] using hl) r⟩
  | .mp b, _, _, hl, k => by
    simp only [VREL] at k ⊢
    obtain ⟨r, bi, e, h1, h2, h3⟩ := k
    obtain ⟨bj, e2, g2, hh, hf⟩ := h.M b bi (by simpa [V.low] using hl) h1
    have := hf h3; subst this
    exact ⟨r, bi, e, e2, h2, h3⟩
  | .yld i, _, _, hl, k => by
    simp only [VREL] at k ⊢
    obtain ⟨l, e, bi, h1, h2, h3⟩ := k
    obtain ⟨bj, e2, g2, hh, hf⟩ := h.M i bi (by simpa [V.low] using hl) h1
    have := hf h3; subst this
    exact ⟨l, e, bi, e2, h2, h3⟩
theorem VRELs.mono {fb : Nat} {X Y : Cx} (h : X.le fb Y) : ∀ (l : List V) (m : Bool) (wss : List (List Value)), V.lows fb l → VRELs X l m wss → VRELs Y l m wss
  | [], _, _, _, k => by simpa [VRELs] using k
  | v :: l, m, _, hl, k => by
    simp only [VRELs] at k ⊢
    simp only [V.lows] at hl
    obtain ⟨ws, r, e, h1, h2⟩ := k
    exact ⟨ws, r, e, VREL.mono h v m ws hl.1 h1, VRELs.mono h l m r hl.2 h2⟩
end

mutual
theorem VREL.low {X : Cx} {n : Nat} (hX : X.lt n) : ∀ (v : V) (m : Bool) (vs : List Value), VREL X v m vs → v.low n
  | .undef, _, _, _ | .im _, _, _, _ | .full _, _, _, _ => by simp [V.low]
  | .agg w l, true, _, k => by
    simp only [VREL] at k
    obtain ⟨cs, wss, e, h1, h2, h3⟩ := k
    simpa [V.low] using VRELs.low hX l false wss h2
  | .agg w l, false, _, k => by
    simp only [VREL] at k
    obtain ⟨wss, e, h2, h3⟩ := k
    simpa [V.low] using VRELs.low hX l false wss h2
  | .tup l, true, _, k => by
    simp only [VREL] at k
    obtain ⟨ts, wss, e, h2, h3⟩ := k
    simpa [V.low] using VRELs.low hX l true wss h2
  | .tup _, false, _, k => by simp [VREL] at k
  | .own b g off len lim, _, _, k => by
    simp only [VREL] at k
    obtain ⟨v, e, h1, bi, h2, r⟩ := k
    simpa [V.low] using hX b bi h2
  | .ptr b g p, _, _, k => by
    simp only [VREL] at k
    obtain ⟨v, e, h1, bi, h2, r⟩ := k
    simpa [V.low] using hX b bi h2
  | .fn f a c, _, _, k => by
    simp only [VREL] at k
    obtain ⟨fs, cs, w1, w2, e, h1, e1, h2, e2⟩ := k
    simp only [V.low]
    exact ⟨VRELs.low hX a true w1 h1, VRELs.low hX c true w2 h2⟩
  | .ifc t v, _, _, k => by
    simp only [VREL] at k
    obtain ⟨x, e, r⟩ := k
    simpa [V.low] using VREL.low hX v true [x] r
  | .mp b, _, _, k => by
    simp only [VREL] at k
    obtain ⟨r, bi, e, h1, h2⟩ := k
    simpa [V.low] using hX b bi h1
  | .yld b, _, _, k => by
    simp only [VREL] at k
    obtain ⟨l, e, bi, h1, h2⟩ := k
    simpa [V.low] using hX b bi h1
theorem VRELs.low {X : Cx} {n : Nat} (hX : X.lt n) : ∀ (l : List V) (m : Bool) (wss : List (List Value)), VRELs X l m wss → V.lows n l
  | [], _, _, _ => by simp [V.lows]
  | v :: l, m, _, k => by
    simp only [VRELs] at k
    obtain ⟨ws, r, e, h1, h2⟩ := k
    simp only [V.lows]
    exact ⟨VREL.low hX v m ws h1, VRELs.low hX l m r h2⟩
end
