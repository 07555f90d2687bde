/-
  AS: the operations of the typed evaluator: arithmetic, comparisons, structs, slices.
-/
import Derived.Test.YtfpkonppeefhfaaGreatDoorA7
set_option linter.unusedSectionVars false
set_option linter.unusedSimpArgs false
set_option linter.unusedVariables false
namespace Go.As
variable [Gh]
variable {ρ : Type} {wb : Nat → Bool} {M : Mu} {ch : CH} {h : Heap} {k : KC ρ} {r : ρ} {E : Env}
theorem nilCheck_s (hs : HS M ch h) {x : CV} {x' : V} (hx : VR M x x') (e : nilCheckC x ch k = some r) : OS wb M ch h (sNilCheck h x') k r := by
 cases x with
 | ptr b p =>
  have hx0 := hx
  simp only [VR] at hx
  obtain ⟨c, hc, rfl⟩ := hx
  exact OS.plain hs hx0 e
 | el b n i p =>
  have hx0 := hx
  simp only [VR] at hx
  obtain ⟨c, g, m, s, hc, rfl⟩ := hx
  exact OS.plain hs hx0 e
 | rf t y =>
  have hx0 := hx
  simp only [VR] at hx
  subst hx
  exact OS.plain hs hx0 e
 | _ => cases e
theorem arith_s {op : BinOp} {j : IntKind} {a b : Int} (e : arithC op j a b ch k = some r) : ∃ v cv, intArith op j a b = some v ∧ VR M cv v ∧ k cv ch = some r := by
 have hi : ∀ n : Int, kI j ch k n = some r → ∃ v cv, im j n = some v ∧ VR M cv v ∧ k cv ch = some r := fun n e => ⟨_, .sy (.int j) n, rfl, by simp only [VR, Ty.enc], e⟩
 have hb : ∀ b : Bool, kB ch k b = some r → ∃ v cv, bm b = some v ∧ VR M cv v ∧ k cv ch = some r := fun b e => ⟨_, .sy .bool b, rfl, by simp only [VR, Ty.enc], e⟩
 cases op with
 | quo =>
  have e : (bif ieq b 0 then none else kI j ch k (wr j (a.tdiv b))) = some r := e
  show ∃ v cv, (bif ieq b 0 then none else im j (wr j (a.tdiv b))) = some v ∧ _
  cases hq : ieq b 0 with
  | true => rw [hq, cond_true] at e; cases e
  | false => rw [hq, cond_false] at e; exact hi _ e
 | rem =>
  have e : (bif ieq b 0 then none else kI j ch k (a.tmod b)) = some r := e
  show ∃ v cv, (bif ieq b 0 then none else im j (a.tmod b)) = some v ∧ _
  cases hq : ieq b 0 with
  | true => rw [hq, cond_true] at e; cases e
  | false => rw [hq, cond_false] at e; exact hi _ e
 | shl =>
  have e : (bif ilt b 0 then none else kI j ch k (wr j (a * Int.ofNat (2 ^ Nat.min b.toNat (kb j))))) = some r := e
  show ∃ v cv, (bif ilt b 0 then none else im j (wr j (a * Int.ofNat (2 ^ Nat.min b.toNat (kb j))))) = some v ∧ _
  cases hq : ilt b 0 with
  | true => rw [hq, cond_true] at e; cases e
  | false => rw [hq, cond_false] at e; exact hi _ e
 | shr =>
  have e : (bif ilt b 0 then none else kI j ch k (a.fdiv (Int.ofNat (2 ^ Nat.min b.toNat (kb j))))) = some r := e
  show ∃ v cv, (bif ilt b 0 then none else im j (a.fdiv (Int.ofNat (2 ^ Nat.min b.toNat (kb j))))) = some v ∧ _
  cases hq : ilt b 0 with
  | true => rw [hq, cond_true] at e; cases e
  | false => rw [hq, cond_false] at e; exact hi _ e
 | eql => exact hb _ e
 | neq => exact hb _ e
 | lss => exact hb _ e
 | leq => exact hb _ e
 | gtr => exact hb _ e
 | geq => exact hb _ e
 | _ => exact hi _ e
theorem eqTy_len : ∀ (l : Ty) (x y : l.den), (l.encL x).length = (l.encL y).length
 | .cn t l, x, y => by simp [Ty.encL, eqTy_len l x.2 y.2]
 | .bool, _, _ | .int _, _, _ | .str, _, _ | .slc _, _, _ | .st _ _, _, _ | .tup _, _, _ | .nl, _, _ => by simp [Ty.encL]
theorem okV_enc {ti : TI} {u : Ty} (hw : Nat.beq u.wd ti.size = true) (x : u.den) (hk : okAC ti.k (.sy u x) = true) : okV ti (.im (u.enc x)) = true :=
 (okC_rel (M := ⟨fun _ => none, fun _ _ => none⟩) (v := .sy u x) rfl (by unfold okC; rw [Bool.and_eq_true]; exact ⟨hw, hk⟩)).1
theorem eqT_rel : ∀ (n t : Nat) (u : Ty), argOk E n t u = true → cmpTy u = true → cmpT E n t = true ∧ ∀ a b : u.den, eqT E n t (u.enc a) (u.enc b) = some (eqTy u a b)
 | 0, _, _, h, _ => by cases h
 | n + 1, t, u, h, hc => by
  unfold argOk at h
  split at h
  ·cases h
  rename_i ti hti
  rw [Bool.and_eq_true] at h
  obtain ⟨hw, h⟩ := h
  have step : ∀ a b : u.den, (∀ x : u.den, okAC ti.k (.sy u x) = true) → eqT E (n + 1) t (u.enc a) (u.enc b) = (match ti.k, u.enc a, u.enc b with
   | .bool, .bool a, .bool b => some (a == b)
   | .int _, .int k a, .int k' b => bif keq k k' then some (ieq a b) else none
   | .str, .str a, .str b => some (seq a b)
   | .st fs, .agg _ xs, .agg _ ys => eqT.eqFs fs 0 xs ys (eqT E n)
   | .arr m e, .agg _ xs, .agg _ ys => (E.ty e).bind fun _ => bif Nat.beq (llen xs) m && Nat.beq (llen ys) m then eqT.eqEs xs ys (eqT E n e) else none
   | _, _, _ => none) := fun a b hk => by
   show ((E.ty t).bind fun ti => _ : Option Bool) = _
   rw [hti, Option.bind_some, okV_enc hw a (hk a), okV_enc hw b (hk b)]
   rfl
  split at h
  ·rename_i hk
   refine ⟨by simp [cmpT, hti, hk], fun a b => ?_⟩
   rw [step a b (fun x => by rw [hk]; rfl), hk]
   simp [Ty.enc, eqTy]
  ·rename_i k k' hk
   have := kEq_eq h
   subst this
   refine ⟨by simp [cmpT, hti, hk], fun a b => ?_⟩
   rw [step a b (fun x => by rw [hk]; rfl), hk]
   simp only [Ty.enc, eqTy]
   have : keq k k = true := by cases k <;> rfl
   rw [this, cond_true]
  ·rename_i hk
   refine ⟨by simp [cmpT, hti, hk], fun a b => ?_⟩
   rw [step a b (fun x => by rw [hk]; rfl), hk]
   simp [Ty.enc, eqTy]
  ·rename_i e a hk
   cases hc
  ·rename_i fs w l hk
   have hcl : cmpTy l = true := hc
   have aux : ∀ (fs : List (Nat × Nat × Nat)) (l : Ty) (o : Nat), argFs (fun t u => argOk E n t u) w fs l o = true → cmpTy l = true → (fs.all fun f => cmpT E n f.2.2) = true ∧ ∀ a b : l.den, eqT.eqFs fs o (l.encL a) (l.encL b) (eqT E n) = some (eqTy l a b) := by
    intro fs
    induction fs with
    | nil =>
     intro l o h1 h2
     cases l with
     | nl => exact ⟨rfl, fun a b => by simp [Ty.encL, eqT.eqFs, eqTy]⟩
     | _ => cases h1
    | cons f fs ihf =>
     intro l o h1 h2
     cases l with
     | cn v l =>
      simp only [argFs, Bool.and_eq_true] at h1
      obtain ⟨e1, e2, e3, e4⟩ := h1
      have h2 : (cmpTy v && cmpTy l) = true := h2
      rw [Bool.and_eq_true] at h2
      obtain ⟨q1, q2⟩ := eqT_rel n f.2.2 v e3 h2.1
      obtain ⟨q3, q4⟩ := ihf l (o + v.wd) e4 h2.2
      refine ⟨by simp only [List.all_cons, q1, q3, Bool.and_self], fun a b => ?_⟩
      obtain ⟨f0, f1, f2⟩ := f
      simp only [Ty.encL]
      show (bif Nat.beq f0 o then (match eqT E n f2 (v.enc a.1) (v.enc b.1), eqT.eqFs fs (o + (v.enc a.1).wd) (l.encL a.2) (l.encL b.2) (eqT E n) with
       | some b, some c => some (b && c)
       | _, _ => none) else none) = _
      have e1 : Nat.beq f0 o = true := e1
      rw [e1, cond_true, q2, enc_wd, q4]
      rfl
     | _ => cases h1
   obtain ⟨q1, q2⟩ := aux fs l 0 h hcl
   refine ⟨by simp only [cmpT, hti, hk]; exact q1, fun a b => ?_⟩
   rw [step a b (fun x => by rw [hk]; rfl), hk]
   simp only [Ty.enc]
   exact q2 a b
  ·rename_i m e w l hk
   rw [Bool.and_eq_true] at h
   obtain ⟨hm, h⟩ := h
   split at h
   case h_2 => cases h
   rename_i te hte
   have hcl : cmpTy l = true := hc
   have aux : ∀ (m : Nat) (l : Ty) (o : Nat), argEs (fun u => argOk E n e u) te.size w m l o = true → cmpTy l = true → (∀ a : l.den, (l.encL a).length = m) ∧ (0 < m → cmpT E n e = true) ∧ ∀ a b : l.den, eqT.eqEs (l.encL a) (l.encL b) (eqT E n e) = some (eqTy l a b) := by
    intro m
    induction m with
    | zero =>
     intro l o h1 h2
     cases l with
     | nl => exact ⟨fun a => by simp [Ty.encL], fun h => absurd h (Nat.lt_irrefl 0), fun a b => by simp [Ty.encL, eqT.eqEs, eqTy]⟩
     | _ => cases h1
    | succ m ihm =>
     intro l o h1 h2
     cases l with
     | cn v l =>
      simp only [argEs, Bool.and_eq_true] at h1
      obtain ⟨e2, e3, e4⟩ := h1
      have h2 : (cmpTy v && cmpTy l) = true := h2
      rw [Bool.and_eq_true] at h2
      obtain ⟨q1, q2⟩ := eqT_rel n e v e3 h2.1
      obtain ⟨q3, _, q4⟩ := ihm l (o + te.size) e4 h2.2
      refine ⟨fun a => by simp [Ty.encL, q3], fun _ => q1, fun a b => ?_⟩
      simp only [Ty.encL]
      show (match eqT E n e (v.enc a.1) (v.enc b.1), eqT.eqEs (l.encL a.2) (l.encL b.2) (eqT E n e) with
       | some b, some c => some (b && c)
       | _, _ => none) = _
      rw [q2, q4]
      rfl
     | _ => cases h1
   obtain ⟨q1, q2, q3⟩ := aux m l 0 h hcl
   refine ⟨by simp only [cmpT, hti, hk]; exact q2 (Nat.le_of_ble_eq_true hm), fun a b => ?_⟩
   rw [step a b (fun x => by rw [hk]; rfl), hk]
   simp only [Ty.enc]
   rw [hte, Option.bind_some, llen_eq, llen_eq, q1, q1, Nat.beq_refl, Bool.and_self, cond_true]
   exact q3 a b
  ·cases h
theorem isLitNil_enc (u : Ty) (a : u.den) (hc : cmpTy u = true) (hnl : u ≠ .nl) (hcn : ∀ x y, u ≠ .cn x y) : isLitNil (.im (u.enc a)) = false := by
 cases u <;> first | (cases hc; done) | (exact absurd rfl hnl) | (exact absurd rfl (hcn _ _)) | (simp [Ty.enc, isLitNil]; done) | rfl
theorem bin_s (hs : HS M ch h) {op : BinOp} {t : Nat} {lit : Bool} {x y : CV} {x' y' : V} (hx : VR M x x') (hy : VR M y y') (e : binC E op t x y ch k = some r) : OS wb M ch h (pure1 h (binV E op t lit x' y')) k r := by
 have fin : ∀ {v cv}, binV E op t lit x' y' = some v → VR M cv v → k cv ch = some r → OS wb M ch h (pure1 h (binV E op t lit x' y')) k r := fun h1 h2 h3 => by
  rw [h1]; exact OS.plain hs h2 h3
 unfold binC at e
 split at e
 ·rename_i j a j' b
  simp only [VR, Ty.enc] at hx hy
  subst hx; subst hy
  have step : ∀ o, (∃ v cv, intArith o j a b = some v ∧ VR M cv v ∧ k cv ch = some r) → (binV E op t lit (.im (.int j a)) (.im (.int j' b)) = intArith o j a b) → OS wb M ch h (pure1 h (binV E op t lit (.im (.int j a)) (.im (.int j' b)))) k r := fun o ⟨v, cv, h1, h2, h3⟩ he => fin (he.trans h1) h2 h3
  split at e
  ·exact step .shl (arith_s e) rfl
  ·exact step .shr (arith_s e) rfl
  ·rename_i n1 n2
   cases hk : keq j j' with
   | false => rw [hk, cond_false] at e; cases e
   | true =>
    rw [hk, cond_true] at e
    refine step op (arith_s e) ?_
    show intBin op j a j' b = _
    unfold intBin
    split
    ·exact absurd rfl n1
    ·exact absurd rfl n2
    ·rw [hk, cond_true]
 ·rename_i u a u' b hni
  simp only [VR] at hx hy
  subst hx; subst hy
  cases hty : tyIs E u t with
  | false => rw [hty, cond_false] at e; cases e
  | true =>
   rw [hty, cond_true] at e
   simp only [tyIs, Bool.and_eq_true] at hty
   obtain ⟨b2, hb, e⟩ := Option.bind_eq_some_iff.1 e
   obtain ⟨rfl, he, _⟩ := cs_enc hb
   obtain ⟨q1, q2⟩ := eqT_rel 12 t u' hty.1 hty.2
   have key : ∀ c : Bool, kB ch k c = some r → binV E op t lit (.im (u'.enc a)) (.im (u'.enc b)) = some (.im (.bool c)) → OS wb M ch h (pure1 h (binV E op t lit (.im (u'.enc a)) (.im (u'.enc b)))) k r := fun c h1 h2 => fin (cv := .sy .bool c) h2 rfl h1
   have hnl : u' ≠ .nl := by
    rintro rfl
    have := hty.1
    unfold argOk at this
    split at this
    ·cases this
    ·rename_i ti _
     cases hk : ti.k <;> simp [hk] at this
   have hcn : ∀ x y, u' ≠ .cn x y := by
    rintro x y rfl
    have := hty.1
    unfold argOk at this
    split at this
    ·cases this
    ·rename_i ti _
     cases hk : ti.k <;> simp [hk] at this
   have eqv : u' ≠ .str → (∀ j, u' ≠ .int j) → binV E op t lit (.im (u'.enc a)) (.im (u'.enc b)) = eqOp E op t lit (.im (u'.enc a)) (.im (u'.enc b)) ∧ eqV E t lit (.im (u'.enc a)) (.im (u'.enc b)) = some (eqTy u' a b2) := fun n1 n2 => by
    refine ⟨?_, ?_⟩
    ·cases u' <;> first | rfl | (exact absurd rfl n1) | (exact absurd rfl (n2 _)) | simp [binV, Ty.enc]
    ·unfold eqV
     rw [isLitNil_enc u' a hty.2 hnl hcn, isLitNil_enc u' b hty.2 hnl hcn, Bool.or_self, cond_false]
     show (bif cmpT E 12 t then eqT E 12 t (u'.enc a) (u'.enc b) else none) = _
     rw [q1, cond_true, ← he, q2]
   by_cases hst : u' = .str
   ·subst hst
    simp only [Ty.enc] at he
    cases he
    split at e
    ·exact key _ e (by simp [binV, Ty.enc, strOp, bm, eqTy])
    ·exact key _ e (by simp [binV, Ty.enc, strOp, bm, eqTy])
    ·cases e
   ·by_cases hin : ∃ j, u' = .int j
    ·obtain ⟨j, rfl⟩ := hin
     exact (hni j a j b rfl HEq.rfl rfl HEq.rfl).elim
    ·obtain ⟨r1, r2⟩ := eqv hst (fun j q => hin ⟨j, q⟩)
     split at e
     ·exact key _ e (by rw [r1]; simp [eqOp, r2])
     ·exact key _ e (by rw [r1]; simp [eqOp, r2])
     ·cases e
 ·cases e
end Go.As
/-
 AS: the operations of the typed evaluator: structs, slices, builtins.
-/
namespace Go.As
variable [Gh]
variable {ρ : Type} {wb : Nat → Bool} {M : Mu} {ch : CH} {h : Heap} {k : KC ρ} {r : ρ} {E : Env}
theorem VR.int {j : IntKind} {n : Int} {u : V} (h : VR M (.sy (.int j) n) u) : u = .im (.int j n) := by simpa only [VR, Ty.enc] using h
theorem VR.bool {b : Bool} {u : V} (h : VR M (.sy .bool b) u) : u = .im (.bool b) := by simpa only [VR, Ty.enc] using h
theorem VR.str {s : List Nat} {u : V} (h : VR M (.sy .str s) u) : u = .im (.str s) := by simpa only [VR, Ty.enc] using h
theorem VR.slc {t : Ty} {l : List t.den} {u : V} (h : VR M (.sy (.slc t) l) u) : u = .im (.slc (l.map t.enc)) := by simpa only [VR, Ty.enc] using h
theorem OS.of_int (hs : HS M ch h) {j : IntKind} {n : Int} (e : kI j ch k n = some r) : OS wb M ch h (some (.im (.int j n), h)) k r := OS.plain hs (by simp only [VR, Ty.enc]) e
theorem un_s (hs : HS M ch h) {op : UnOp} {x : CV} {x' : V} (hx : VR M x x') (e : unC op x ch k = some r) : OS wb M ch h (pure1 h (unV op x')) k r := by
 unfold unC at e
 split at e
 ·have := hx.bool; subst this
  exact OS.plain (cv := .sy .bool _) hs (by simp only [VR, Ty.enc]) e
 ·have := hx.int; subst this
  exact OS.of_int hs e
 ·have := hx.int; subst this
  exact OS.of_int hs e
 ·cases e
theorem conv_s (hs : HS M ch h) {s d : Nat} {x : CV} {x' : V} (hx : VR M x x') (e : convC E s d x ch k = some r) : OS wb M ch h (convV E h h.length s d x') k r := by
 unfold convC at e
 unfold convV
 split at e
 ·rename_i h1 h2
  have := hx.int; subst this
  rw [h1, h2]
  exact OS.of_int hs e
 ·rename_i h1 h2
  have := hx.str; subst this
  rw [h1, h2]
  exact OS.plain hs (by simp only [VR, Ty.enc]) e
 ·cases e
theorem fill_rel {place : Nat → Option (Nat × Nat)} : ∀ (ps : List (Nat × CV)) (ps' : List (Nat × V)) (l : List CV) (us : List V) {l' : List CV}, ps'.map Prod.fst = ps.map Prod.fst → VRs M (ps.map Prod.snd) (ps'.map Prod.snd) → VRs M l us → noU l = true → fillC place ps l = some l' →
  ∃ us', fillAt us place ps' = some us' ∧ VRs M l' us' ∧ noU l' = true
 | [], ps', l, us, l', h1, _, h3, h4, e => by
  cases ps' with
  | nil => cases e; exact ⟨us, rfl, h3, h4⟩
  | cons _ _ => cases h1
 | p :: ps, ps', l, us, l', h1, h2, h3, h4, e => by
  cases ps' with
  | nil => cases h1
  | cons p' ps' =>
   simp only [List.map_cons, List.cons.injEq] at h1
   simp only [List.map_cons, VRs] at h2
   obtain ⟨u, rest, he, q1, q2⟩ := h2
   cases he
   have e : ((place p.1).bind fun os => (lget l p.1).bind fun c => bif Nat.beq (wdsC l p.1) os.1 && (Nat.beq c.wd os.2 && (Nat.beq p.2.wd os.2 && isPlainC p.2)) then fillC place ps (lset l p.1 p.2) else none) = some l' := e
   obtain ⟨os, hos, e⟩ := Option.bind_eq_some_iff.1 e
   obtain ⟨c, hc, e⟩ := Option.bind_eq_some_iff.1 e
   rw [lget_eq] at hc
   obtain ⟨c', hc', hcc⟩ := h3.get hc
   cases hb : Nat.beq (wdsC l p.1) os.1 && (Nat.beq c.wd os.2 && (Nat.beq p.2.wd os.2 && isPlainC p.2)) with
   | false => rw [hb, cond_false] at e; cases e
   | true =>
    rw [hb, cond_true, lset_eq] at e
    simp only [Bool.and_eq_true] at hb
    obtain ⟨b1, b2, b3, b4⟩ := hb
    have hpn : isU p.2 = false := by cases hp : p.2 <;> first | rfl | (rw [hp] at b4; cases b4)
    have hpl : isPlain p'.2 = true := by
     cases hp : p.2 with
     | undef => rw [hp] at b4; cases b4
     | sy t x =>
      rw [hp] at q1 b4
      simp only [VR] at q1
      rw [q1]
      cases t <;> first | rfl | cases b4 | simp [Ty.enc, isPlain]
     | rf t x => rw [hp] at q1; simp only [VR] at q1; rw [q1]; rfl
     | dat d =>
      rw [hp] at q1 b4; simp only [VR] at q1; rw [q1]
      cases d <;> first | rfl | cases b4
     | nsl => rw [hp] at q1; simp only [VR] at q1; rw [q1]; rfl
     | agg w l =>
      rw [hp] at q1; simp only [VR] at q1
      obtain ⟨vs, hv, _⟩ := q1
      rw [hv]; unfold mkAgg; cases allIm vs <;> rfl
     | tup l => rw [hp] at b4; cases b4
     | own b n =>
      rw [hp] at q1; simp only [VR] at q1
      obtain ⟨_, _, q⟩ := q1
      cases hu : p'.2 <;> first | rfl | (rw [hu] at q; cases q)
     | ptr b q => rw [hp] at q1; simp only [VR] at q1; obtain ⟨_, _, q⟩ := q1; rw [q]; rfl
     | el b n i q => rw [hp] at q1; simp only [VR] at q1; obtain ⟨_, _, _, _, _, q⟩ := q1; rw [q]; rfl
     | fn f a c => rw [hp] at q1; simp only [VR] at q1; obtain ⟨_, _, q, _⟩ := q1; rw [q]; rfl
     | ful t l => rw [hp] at q1; simp only [VR] at q1; rw [q1]; rfl
     | win b n o m lim => rw [hp] at q1; simp only [VR] at q1; rcases q1 with ⟨_, _, _, _, _, q, _⟩ | ⟨_, _, q, _⟩ <;> rw [q] <;> rfl
    obtain ⟨us', r1, r2, r3⟩ := fill_rel ps ps' (l.set p.1 p.2) (us.set p.1 p'.2) h1.2 q2 (h3.set _ q1) (noU_set h4 _ hpn) e
    refine ⟨us', ?_, r2, r3⟩
    show ((place p'.1).bind fun os => (lget us p'.1).bind fun c => bif Nat.beq (wdsTo us p'.1) os.1 && (Nat.beq c.wd os.2 && (Nat.beq p'.2.wd os.2 && isPlain p'.2)) then fillAt (lset us p'.1 p'.2) place ps' else none) = _
    rw [h1.1, hos, Option.bind_some, lget_eq, hc', Option.bind_some, ← wdsC_rel h3 h4, b1, ← hcc.wd (noU_get h4 hc), b2, ← q1.wd hpn, b3, hpl, lset_eq]
    exact r1
theorem build_s (hs : HS M ch h) {t : Nat} {ps : List (Nat × CV)} {ps' : List (Nat × V)} (h1 : ps'.map Prod.fst = ps.map Prod.fst) (h2 : VRs M (ps.map Prod.snd) (ps'.map Prod.snd)) (e : buildC E t ps ch k = some r) : OS wb M ch h (sBuild E h t ps') k r := by
 unfold buildC at e
 obtain ⟨ti, ht, e⟩ := Option.bind_eq_some_iff.1 e
 obtain ⟨l, hl, e⟩ := Option.bind_eq_some_iff.1 e
 obtain ⟨us, hu, q1, q2⟩ := (ofV_rel (M := M) ti.zero).kids hl
 unfold sBuild
 rw [ht, Option.bind_some, hu, Option.bind_some]
 split at e
 ·rename_i fs hk
  obtain ⟨l', hf, e⟩ := Option.bind_eq_some_iff.1 e
  obtain ⟨us', r1, r2, r3⟩ := fill_rel ps ps' l us h1 h2 q1 q2 hf
  simp only [hk]
  rw [r1]
  exact OS.plain hs (VR.mkA r2 r3) e
 ·rename_i m el hk
  obtain ⟨te, hte, e⟩ := Option.bind_eq_some_iff.1 e
  obtain ⟨l', hf, e⟩ := Option.bind_eq_some_iff.1 e
  obtain ⟨us', r1, r2, r3⟩ := fill_rel ps ps' l us h1 h2 q1 q2 hf
  simp only [hk]
  rw [hte, Option.bind_some, r1]
  exact OS.plain hs (VR.mkA r2 r3) e
 ·cases e
theorem fieldAddr_s (hs : HS M ch h) {t j : Nat} {x : CV} {x' : V} (hx : VR M x x') (e : fieldAddrC E t x j ch k = some r) : OS wb M ch h (sFieldAddr E h t x' j) k r := by
 unfold fieldAddrC at e
 obtain ⟨ti, ht, e⟩ := Option.bind_eq_some_iff.1 e
 unfold sFieldAddr
 rw [ht, Option.bind_some]
 split at e
 ·rename_i fs hk
  obtain ⟨f, hf, e⟩ := Option.bind_eq_some_iff.1 e
  simp only [hk]
  rw [hf, Option.bind_some]
  cases hz : Nat.beq f.2.1 0 with
  | true => rw [hz, cond_true] at e; cases e
  | false =>
   rw [hz, cond_false] at e
   rw [cond_false]
   cases x with
   | ptr b p =>
    simp only [VR] at hx
    obtain ⟨c, hc, rfl⟩ := hx
    exact OS.plain (cv := .ptr b (p ++ [(j, f.1)])) hs (by simp only [VR]; exact ⟨c, hc, rfl⟩) e
   | el b n i p =>
    simp only [VR] at hx
    obtain ⟨c, g, m, s, hc, rfl⟩ := hx
    exact OS.plain (cv := .el b n i (p ++ [(j, f.1)])) hs (by simp only [VR]; exact ⟨c, g, m, s, hc, rfl⟩) e
   | rf u y =>
    simp only [VR] at hx
    subst hx
    have e : (match CV.kid (.sy u y) j f.1 with
     | some (.sy u' y') => bif Nat.beq u'.wd f.2.1 then k (.rf u' y') ch else none
     | _ => none) = some r := e
    split at e
    ·rename_i u' y' hkid
     obtain ⟨z, q1, q2, _⟩ := (show VR M (.sy u y) (.im (u.enc y)) from rfl).kid hkid
     simp only [VR] at q2
     subst q2
     cases hw : Nat.beq u'.wd f.2.1 with
     | false => rw [hw, cond_false] at e; cases e
     | true =>
      rw [hw, cond_true] at e
      show OS wb M ch h (match V.kid (.im (u.enc y)) j f.1 with
       | some (.im d') => bif Nat.beq d'.wd f.2.1 then some (.im (.ref d'), h) else none
       | _ => none) k r
      rw [q1]
      show OS wb M ch h (bif Nat.beq (u'.enc y').wd f.2.1 then some (.im (.ref (u'.enc y')), h) else none) k r
      rw [enc_wd, hw, cond_true]
      exact OS.plain (cv := .rf u' y') hs (by simp only [VR]) e
    ·cases e
   | _ => cases e
 ·cases e
theorem okAC_rel {tk : TK} {v : CV} {u : V} (h : VR M v u) (hn : isU v = false) (e : okAC tk v = true) : okAgg tk u = true := by
 have := (okC_rel (ti := ⟨tk, v.wd, 0, .undef⟩) h (by unfold okC; rw [Bool.and_eq_true]; exact ⟨Nat.beq_refl _, e⟩)).1
 simp only [okV, Bool.and_eq_true] at this
 exact this.2
theorem field_s (hs : HS M ch h) {t j : Nat} {x : CV} {x' : V} (hx : VR M x x') (e : fieldC E t x j ch k = some r) : OS wb M ch h (sField E h t x' j) k r := by
 unfold fieldC at e
 obtain ⟨ti, ht, e⟩ := Option.bind_eq_some_iff.1 e
 unfold sField
 rw [ht, Option.bind_some]
 split at e
 ·rename_i fs hk
  obtain ⟨f, hf, e⟩ := Option.bind_eq_some_iff.1 e
  obtain ⟨tf, htf, e⟩ := Option.bind_eq_some_iff.1 e
  obtain ⟨v, hv, e⟩ := Option.bind_eq_some_iff.1 e
  simp only [hk]
  rw [hf, Option.bind_some, htf, Option.bind_some]
  obtain ⟨z, q1, q2, q3⟩ := hx.kid hv
  rw [q1, Option.bind_some]
  cases hb : Nat.beq v.wd f.2.1 && okAC tf.k v with
  | false => rw [hb, cond_false] at e; cases e
  | true =>
   rw [hb, cond_true] at e
   rw [Bool.and_eq_true] at hb
   rw [← q2.wd q3, hb.1, okAC_rel q2 q3 hb.2]
   exact OS.plain hs q2 e
 ·cases e
theorem el_rel (hs : HS M ch h) {b n n' : Nat} {c : Bool} {t : Ty} {l : List t.den} (hb : hgetC ch b = some (.arr n' c t l)) (hn : Nat.beq n n' = true) {v : V} (hv : VR M (.own b n) v) (hpos : 0 < l.length) :
  ∃ x g, v = .own x g 0 l.length false ∧ M.o b n = some (.own x g 0 l.length false, t.wd) := by
 rcases hs.own hb hn hv with ⟨_, rfl, _⟩ | ⟨x, g, ro, _, rfl, _⟩
 ·exact absurd hpos (Nat.lt_irrefl 0)
 ·refine ⟨x, g, rfl, ?_⟩
  have := Nat.eq_of_beq_eq_true hn
  subst this
  simp only [VR] at hv
  obtain ⟨s, hv, _⟩ := hv
  obtain ⟨u, h1, _⟩ := hs.arr b n c t l hb
  rw [hv] at h1
  cases h1
  exact hv
theorem indexAddr_s (hs : HS M ch h) {t : Nat} {x i : CV} {x' i' : V} (hx : VR M x x') (hi : VR M i i') (e : indexAddrC E t x i ch k = some r) : OS wb M ch h (sIndexAddr E h t x' i') k r := by
 unfold indexAddrC at e
 split at e
 ·rename_i j n
  have := hi.int; subst this
  obtain ⟨ti, ht, e1⟩ := Option.bind_eq_some_iff.1 e
  clear e
  show OS wb M ch h ((E.ty t).bind fun ti => _) k r
  rw [ht, Option.bind_some]
  split at e1
  ·rename_i el hk
   obtain ⟨te, hte, e⟩ := Option.bind_eq_some_iff.1 e1
   clear e1
   simp only [hk]
   split at e
   ·rename_i u l
    have := hx.slc; subst this
    cases hw : Nat.beq u.wd te.size with
    | false => rw [hw, cond_false] at e; cases e
    | true =>
     rw [hw, cond_true] at e
     cases h0 : ile 0 n with
     | false => rw [h0, cond_false] at e; cases e
     | true =>
      rw [h0, cond_true] at e
      obtain ⟨y, hy, e⟩ := Option.bind_eq_some_iff.1 e
      show OS wb M ch h (elemRef E h el (l.map u.enc) n) k r
      unfold elemRef
      rw [hte, Option.bind_some, h0, cond_true, lget_eq, List.getElem?_map, hy]
      show OS wb M ch h (bif Nat.beq (u.enc y).wd te.size then some (.im (.ref (u.enc y)), h) else none) k r
      rw [enc_wd, hw, cond_true]
      exact OS.plain (cv := .rf u y) hs (by simp only [VR]) e
   ·rename_i b v
    split at e
    ·rename_i v' c u l hb
     cases hw : Nat.beq v v' && Nat.beq u.wd te.size with
     | false => rw [hw, cond_false] at e; cases e
     | true =>
      rw [hw, cond_true] at e
      rw [Bool.and_eq_true] at hw
      cases h0 : ile 0 n && ilt n (Int.ofNat l.length) with
      | false => rw [h0, cond_false] at e; cases e
      | true =>
       rw [h0, cond_true] at e
       rw [Bool.and_eq_true] at h0
       have hpos : 0 < l.length := by
        cases hl : l with
        | nil =>
         exfalso
         rw [hl] at h0
         have h1 : ilt n 0 = true := h0.2
         have h2 : ile 0 n = true := h0.1
         unfold ile at h2
         rw [h1] at h2
         cases h2
        | cons _ _ => simp
       obtain ⟨y, g, rfl, ho⟩ := el_rel hs hb hw.1 hx hpos
       show OS wb M ch h ((E.ty el).bind fun te => bif ile 0 n && (ilt n (Int.ofNat l.length) && (Nat.beq 0 0 || sizeIs h y te.size)) then some (.ptr y g [(0 + n.toNat, (0 + n.toNat) * te.size)], h) else none) k r
       rw [hte, Option.bind_some, h0.1, h0.2]
       have hsz := Nat.eq_of_beq_eq_true hw.2
       rw [Nat.zero_add, ← hsz]
       exact OS.plain (cv := .el b v n.toNat []) hs (by simp only [VR]; exact ⟨y, g, _, _, ho, rfl⟩) e
    ·cases e
   ·rename_i u l
    simp only [VR] at hx
    subst hx
    cases hw : Nat.beq u.wd te.size with
    | false => rw [hw, cond_false] at e; cases e
    | true =>
     rw [hw, cond_true] at e
     cases h0 : ile 0 n with
     | false => rw [h0, cond_false] at e; cases e
     | true =>
      rw [h0, cond_true] at e
      obtain ⟨y, hy, e⟩ := Option.bind_eq_some_iff.1 e
      show OS wb M ch h (elemRef E h el (l.map u.enc) n) k r
      unfold elemRef
      rw [hte, Option.bind_some, h0, cond_true, lget_eq, List.getElem?_map, hy]
      show OS wb M ch h (bif Nat.beq (u.enc y).wd te.size then some (.im (.ref (u.enc y)), h) else none) k r
      rw [enc_wd, hw, cond_true]
      exact OS.plain (cv := .rf u y) hs (by simp only [VR]) e
   ·rename_i b v o m lim
    split at e
    ·rename_i v' c u l hb
     cases hw : Nat.beq v v' && Nat.beq u.wd te.size with
     | false => rw [hw, cond_false] at e; cases e
     | true =>
      rw [hw, cond_true] at e
      rw [Bool.and_eq_true] at hw
      cases h0 : ile 0 n && ilt n (Int.ofNat m) with
      | false => rw [h0, cond_false] at e; cases e
      | true =>
       rw [h0, cond_true] at e
       rw [Bool.and_eq_true] at h0
       have hsz := Nat.eq_of_beq_eq_true hw.2
       rcases hs.win hb hw.1 hx with ⟨_, _, _, rfl⟩ | ⟨y, g, ro, _, rfl, _, hg, _, _, ho⟩
       ·exfalso
        have h1 : ilt n 0 = true := h0.2
        have h2 : ile 0 n = true := h0.1
        unfold ile at h2
        rw [h1] at h2
        cases h2
       ·show OS wb M ch h ((E.ty el).bind fun te => bif ile 0 n && (ilt n (Int.ofNat m) && (Nat.beq (o.getD 0) 0 || sizeIs h y te.size)) then some (.ptr y g [(o.getD 0 + n.toNat, (o.getD 0 + n.toNat) * te.size)], h) else none) k r
        have hs2 : sizeIs h y te.size = true := by
         unfold sizeIs
         rw [hg]
         show Nat.beq u.wd te.size = true
         exact hw.2
        have hoff : offI o n.toNat = o.getD 0 + n.toNat := by
         cases o with
         | none => simp [offI]
         | some o => simp [offI, nAdd]
        rw [hte, Option.bind_some, h0.1, h0.2, hs2, Bool.or_true, ← hsz, ← hoff]
        exact OS.plain (cv := .el b v (offI o n.toNat) []) hs (by simp only [VR]; exact ⟨y, g, _, _, ho, rfl⟩) e
    ·cases e
   ·cases e
  ·rename_i m el hk
   obtain ⟨te, hte, e⟩ := Option.bind_eq_some_iff.1 e1
   clear e1
   simp only [hk]
   rw [hte, Option.bind_some]
   cases h0 : ile 0 n && (ilt n (Int.ofNat m) && Nat.blt 0 te.size) with
   | false => rw [h0, cond_false] at e; cases e
   | true =>
    rw [h0, cond_true] at e
    rw [cond_true]
    cases x with
    | ptr b p =>
     simp only [VR] at hx
     obtain ⟨c, hc, rfl⟩ := hx
     exact OS.plain (cv := .ptr b (p ++ [(n.toNat, n.toNat * te.size)])) hs (by simp only [VR]; exact ⟨c, hc, rfl⟩) e
    | rf u y =>
     simp only [VR] at hx
     subst hx
     have e : (match CV.kid (.sy u y) n.toNat (n.toNat * te.size) with
      | some (.sy u' y') => bif Nat.beq u'.wd te.size then k (.rf u' y') ch else none
      | _ => none) = some r := e
     split at e
     ·rename_i u' y' hkid
      obtain ⟨z, q1, q2, _⟩ := (show VR M (.sy u y) (.im (u.enc y)) from rfl).kid hkid
      simp only [VR] at q2
      subst q2
      cases hw : Nat.beq u'.wd te.size with
      | false => rw [hw, cond_false] at e; cases e
      | true =>
       rw [hw, cond_true] at e
       show OS wb M ch h (match V.kid (.im (u.enc y)) n.toNat (n.toNat * te.size) with
        | some (.im d') => bif Nat.beq d'.wd te.size then some (.im (.ref d'), h) else none
        | _ => none) k r
       rw [q1]
       show OS wb M ch h (bif Nat.beq (u'.enc y').wd te.size then some (.im (.ref (u'.enc y')), h) else none) k r
       rw [enc_wd, hw, cond_true]
       exact OS.plain (cv := .rf u' y') hs (by simp only [VR]) e
     ·cases e
    | _ => cases e
  ·cases e1
 ·cases e
theorem extract_s (hs : HS M ch h) {x : CV} {x' : V} {i : Nat} (hx : VR M x x') (e : ((x.part i).bind fun v => k v ch) = some r) : OS wb M ch h (pure1 h (x'.part i)) k r := by
 obtain ⟨v, hv, e⟩ := Option.bind_eq_some_iff.1 e
 obtain ⟨y, h1, h2⟩ := hx.part hv
 rw [h1]
 exact OS.plain hs h2 e
theorem len_s (hs : HS M ch h) {t : Nat} {x : CV} {x' : V} (hx : VR M x x') (e : lenC E t x ch k = some r) : OS wb M ch h (bLen E t h x') k r := by
 unfold lenC at e
 unfold bLen
 split at e
 ·rename_i el u l hk
  have := hx.slc; subst this
  rw [hk]
  show OS wb M ch h (some (.im (.int .i64 (Int.ofNat (llen (l.map u.enc)))), h)) k r
  rw [llen_eq, List.length_map]
  exact OS.of_int hs e
 ·rename_i el hk
  simp only [VR] at hx
  subst hx
  rw [hk]
  exact OS.of_int hs e
 ·rename_i el b v hk
  split at e
  ·rename_i v' c u l hb
   cases hn : Nat.beq v v' with
   | false => rw [hn, cond_false] at e; cases e
   | true =>
    rw [hn, cond_true] at e
    rw [hk]
    rcases hs.own hb hn hx with ⟨rfl, rfl, _⟩ | ⟨y, g, ro, _, rfl, _⟩
    ·exact OS.of_int hs e
    ·exact OS.of_int hs e
  ·cases e
 ·rename_i s hk
  have := hx.str; subst this
  rw [hk]
  show OS wb M ch h (some (.im (.int .i64 (Int.ofNat (llen s))), h)) k r
  rw [llen_eq]
  exact OS.of_int hs e
 ·rename_i el u l hk
  simp only [VR] at hx
  subst hx
  rw [hk]
  show OS wb M ch h (some (.im (.int .i64 (Int.ofNat (llen (l.map u.enc)))), h)) k r
  rw [llen_eq, List.length_map]
  exact OS.of_int hs e
 ·rename_i el b v o n lim hk
  rw [hk]
  simp only [VR] at hx
  rcases hx with ⟨_, _, _, _, _, rfl, _⟩ | ⟨_, _, rfl, rfl⟩
  ·exact OS.of_int hs e
  ·exact OS.of_int hs e
 ·cases e
theorem min_s (hs : HS M ch h) {j : IntKind} : ∀ {l : List CV} {us : List V} {a : Int}, VRs M l us → minC j l ch k a = some r → OS wb M ch h ((minV j us a).map fun n => (.im (.int j n), h)) k r
 | [], us, a, hl, e => by
  simp only [VRs] at hl; subst hl
  exact OS.of_int hs e
 | v :: l, us, a, hl, e => by
  simp only [VRs] at hl
  obtain ⟨u, rest, rfl, q1, q2⟩ := hl
  have e : (match (generalizing := false) v with | .sy (.int j') b => bif keq j j' then minC j l ch k (bif ile a b then a else b) else none | _ => none) = some r := e
  split at e
  ·rename_i j' b _
   have := q1.int; subst this
   cases hk : keq j j' with
   | false => rw [hk, cond_false] at e; cases e
   | true =>
    rw [hk, cond_true] at e
    show OS wb M ch h ((bif keq j j' then minV j rest (bif ile a b then a else b) else none).map fun n => (.im (.int j n), h)) k r
    rw [hk, cond_true]
    exact min_s hs q2 e
  ·cases e
theorem max_s (hs : HS M ch h) {j : IntKind} : ∀ {l : List CV} {us : List V} {a : Int}, VRs M l us → maxC j l ch k a = some r → OS wb M ch h ((maxV j us a).map fun n => (.im (.int j n), h)) k r
 | [], us, a, hl, e => by
  simp only [VRs] at hl; subst hl
  exact OS.of_int hs e
 | v :: l, us, a, hl, e => by
  simp only [VRs] at hl
  obtain ⟨u, rest, rfl, q1, q2⟩ := hl
  have e : (match (generalizing := false) v with | .sy (.int j') b => bif keq j j' then maxC j l ch k (bif ile a b then b else a) else none | _ => none) = some r := e
  split at e
  ·rename_i j' b _
   have := q1.int; subst this
   cases hk : keq j j' with
   | false => rw [hk, cond_false] at e; cases e
   | true =>
    rw [hk, cond_true] at e
    show OS wb M ch h ((bif keq j j' then maxV j rest (bif ile a b then b else a) else none).map fun n => (.im (.int j n), h)) k r
    rw [hk, cond_true]
    exact max_s hs q2 e
  ·cases e
end Go.As
/-
 AS: the operations of the typed evaluator: new slices, parts of slices, append; all operations.
-/
namespace Go.As
variable [Gh]
variable {ρ : Type} {wb : Nat → Bool} {M : Mu} {ch : CH} {h : Heap} {k : KC ρ} {r : ρ} {E : Env}
theorem OS.newArr (hs : HS M ch h) (t : Ty) (l : List t.den) (g : Nat) {n : Nat} (hn : n = l.length) (e : newC ch (.arr 0 false t l) (fun b ch => k (.own b 0) ch) = some r) :
  OS wb M ch h (some (.own h.length g 0 n false, hput h h.length (.arr g t.wd 0 (l.map t.enc)))) k r := by
 subst hn
 have e : k (.own (llen ch) 0) (ch ++ [some (.arr 0 false t l)]) = some r := e
 rw [llen_eq] at e
 obtain ⟨hle, hs'⟩ := hs.newArr t l g
 refine ⟨_, _, .own ch.length 0, _, _, rfl, ?_, hs', ⟨hle, by simp, by rw [hput_len]; split <;> omega, fun b hb _ => by rw [hgetC_app, if_neg (by omega)], nb_new, out_new⟩, e⟩
 show ∃ s, _ ∧ _
 exact ⟨t.wd, if_pos ⟨rfl, rfl⟩, rfl⟩
theorem OS.newArrR (hs : HS M ch h) (t : Ty) (l : List t.den) (g : Nat) (cl : Bool) (ro : Nat) (hro : cl = false → ro = 0) (hro2 : ro ≤ l.length) {n : Nat} (hn : n = l.length) (e : newC ch (.arr 0 cl t l) (fun b ch => k (.own b 0) ch) = some r) :
  OS wb M ch h (some (.own h.length g 0 n false, hput h h.length (.arr g t.wd ro (l.map t.enc)))) k r := by
 subst hn
 have e : k (.own (llen ch) 0) (ch ++ [some (.arr 0 cl t l)]) = some r := e
 rw [llen_eq] at e
 obtain ⟨hle, hs'⟩ := hs.newArrR t l g cl ro hro hro2
 refine ⟨_, _, .own ch.length 0, _, _, rfl, ?_, hs', ⟨hle, by simp, by rw [hput_len]; split <;> omega, fun b hb _ => by rw [hgetC_app, if_neg (by omega)], nb_new, out_new⟩, e⟩
 show ∃ s, _ ∧ _
 exact ⟨t.wd, if_pos ⟨rfl, rfl⟩, rfl⟩
theorem zero_rel {u : Ty} {te : TI} {z : u.den} (hz : CV.dt [] u (ofV te.zero) = some z) (h : Heap) : te.zero.data h = some (u.enc z) := by
 rw [data_R]
 exact ((dt_nil (M := ⟨fun _ => none, fun _ _ => none⟩) (h := h) u).1 _ _ _ hz (ofV_rel te.zero)).1
theorem makeSlice_s (hs : HS M ch h) {t : Nat} {l c : CV} {l' c' : V} (hl : VR M l l') (hc : VR M c c') (e : makeSliceC E t l c ch k = some r) : OS wb M ch h (sMakeSlice E h.length h t l' c') k r := by
 unfold makeSliceC at e
 replace e := Option.bind_eq_some_iff.1 e; obtain ⟨ti, ht, e⟩ := e
 unfold sMakeSlice
 rw [ht, Option.bind_some]
 split at e
 ·rename_i el hk
  replace e := Option.bind_eq_some_iff.1 e; obtain ⟨te, hte, e⟩ := e
  replace e := Option.bind_eq_some_iff.1 e; obtain ⟨u, hu, e⟩ := e
  replace e := Option.bind_eq_some_iff.1 e; obtain ⟨z, hz, e⟩ := e
  simp only [hk]
  rw [hte, Option.bind_some, zero_rel hz, Option.bind_some]
  split at e
  ·rename_i n m
   have := hl.int; subst this
   have := hc.int; subst this
   cases hb : Nat.beq u.wd te.size && okC te (.sy u z) with
   | false => rw [hb, cond_false] at e; cases e
   | true =>
    rw [hb, cond_true] at e
    rw [Bool.and_eq_true] at hb
    cases hq : ile 0 n && (ile n m && ile (m * Int.ofNat te.bytes) 70368744177664) with
    | false => rw [hq, cond_false] at e; cases e
    | true =>
     rw [hq, cond_true] at e
     show OS wb M ch h (bif okV te (.im (u.enc z)) && (ile 0 n && (ile n m && ile (m * Int.ofNat te.bytes) 70368744177664)) then some (.own h.length 0 0 n.toNat false, hput h h.length (.arr 0 te.size 0 (reps n.toNat (u.enc z)))) else none) k r
     rw [hq, (okC_rel (show VR M (.sy u z) (.im (u.enc z)) from rfl) hb.2).1, ← Nat.eq_of_beq_eq_true hb.1, reps_eq, ← List.map_replicate]
     exact OS.newArr hs u _ 0 (by simp) e
  ·cases e
 ·cases e
theorem fillS_rel (hs : HS M ch h) {u : Ty} {sz : Nat} (hsz : u.wd = sz) : ∀ (ps : List (Nat × CV)) (ps' : List (Nat × V)) (l : List u.den) {l' : List u.den}, ps'.map Prod.fst = ps.map Prod.fst → VRs M (ps.map Prod.snd) (ps'.map Prod.snd) → fillS ch u ps l = some l' →
  fillD h sz (l.map u.enc) ps' = some (l'.map u.enc) ∧ l'.length = l.length ∧ (ownsPC ps = [] → ownsP ps' = [])
 | [], ps', l, l', h1, _, e => by
  cases ps' with
  | nil => cases e; exact ⟨rfl, rfl, fun _ => rfl⟩
  | cons _ _ => cases h1
 | p :: ps, ps', l, l', h1, h2, e => by
  cases ps' with
  | nil => cases h1
  | cons p' ps' =>
   simp only [List.map_cons, List.cons.injEq] at h1
   simp only [List.map_cons, VRs] at h2
   obtain ⟨v, rest, he, q1, q2⟩ := h2
   cases he
   have e : ((CV.dt ch u p.2).bind fun x => bif Nat.blt p.1 (llen l) && isPlainC p.2 then fillS ch u ps (l.set p.1 x) else none) = some l' := e
   replace e := Option.bind_eq_some_iff.1 e; obtain ⟨x, hx, e⟩ := e
   cases hb : Nat.blt p.1 (llen l) && isPlainC p.2 with
   | false => rw [hb, cond_false] at e; cases e
   | true =>
    rw [hb, cond_true] at e
    rw [Bool.and_eq_true, llen_eq] at hb
    have hlt : p.1 < l.length := Nat.le_of_ble_eq_true hb.1
    obtain ⟨r1, r2, r3⟩ := fillS_rel hs hsz ps ps' (l.set p.1 x) h1.2 q2 e
    have hpl : isPlain p'.2 = true := by
     have b4 := hb.2
     cases hp : p.2 with
     | undef => rw [hp] at b4; cases b4
     | sy t x =>
      rw [hp] at q1 b4
      simp only [VR] at q1
      rw [q1]
      cases t <;> first | rfl | cases b4 | simp [Ty.enc, isPlain]
     | rf t x => rw [hp] at q1; simp only [VR] at q1; rw [q1]; rfl
     | dat d =>
      rw [hp] at q1 b4; simp only [VR] at q1; rw [q1]
      cases d <;> first | rfl | cases b4
     | nsl => rw [hp] at q1; simp only [VR] at q1; rw [q1]; rfl
     | agg w l =>
      rw [hp] at q1; simp only [VR] at q1
      obtain ⟨vs, hv, _⟩ := q1
      rw [hv]; unfold mkAgg; cases allIm vs <;> rfl
     | tup l => rw [hp] at b4; cases b4
     | own b n =>
      rw [hp] at q1; simp only [VR] at q1
      obtain ⟨_, _, q⟩ := q1
      cases hu : p'.2 <;> first | rfl | (rw [hu] at q; cases q)
     | ptr b q => rw [hp] at q1; simp only [VR] at q1; obtain ⟨_, _, q⟩ := q1; rw [q]; rfl
     | el b n i q => rw [hp] at q1; simp only [VR] at q1; obtain ⟨_, _, _, _, _, q⟩ := q1; rw [q]; rfl
     | fn f a c => rw [hp] at q1; simp only [VR] at q1; obtain ⟨_, _, q, _⟩ := q1; rw [q]; rfl
     | ful t l => rw [hp] at q1; simp only [VR] at q1; rw [q1]; rfl
     | win b n o m lim => rw [hp] at q1; simp only [VR] at q1; rcases q1 with ⟨_, _, _, _, _, q, _⟩ | ⟨_, _, q, _⟩ <;> rw [q] <;> rfl
    refine ⟨?_, by rw [r2, List.length_set], fun ho => ?_⟩
    ·show ((p'.2.data h).bind fun d => (lget (l.map u.enc) p'.1).bind fun _ => bif Nat.beq d.wd sz && isPlain p'.2 then fillD h sz (lset (l.map u.enc) p'.1 d) ps' else none) = _
     rw [dt_rel hs hx q1, Option.bind_some, lget_eq, h1.1, List.getElem?_map, List.getElem?_eq_getElem hlt]
     show (bif Nat.beq (u.enc x).wd sz && isPlain p'.2 then fillD h sz (lset (l.map u.enc) p.1 (u.enc x)) ps' else none) = _
     rw [enc_wd, hsz, Nat.beq_refl, hpl, lset_eq, ← List.map_set]
     exact r1
    ·have ho : p.2.ownsC ++ ownsPC ps = [] := ho
     rw [List.append_eq_nil_iff] at ho
     have h0 := (owns_both hs u).1 p.2 x p'.2 hx q1
     rw [ho.1] at h0
     show (match V.owns p'.2 with | [] => ownsP ps' | bs => bs ++ ownsP ps') = []
     rw [owns_R, h0]
     exact r3 ho.2
theorem allS_any : ∀ (ps : List (Nat × CV)) (ps' : List (Nat × V)), VRs M (ps.map Prod.snd) (ps'.map Prod.snd) → buildSliceC.allS ps = true → anyOwn ps' = false
 | [], ps', h2, _ => by
  cases ps' with
  | nil => rfl
  | cons _ _ => simp only [List.map_nil, VRs] at h2; cases h2
 | p :: ps, ps', h2, e => by
  simp only [List.map_cons, VRs] at h2
  obtain ⟨v, rest, he, q1, q2⟩ := h2
  cases ps' with
  | nil => cases he
  | cons p' ps' =>
   cases he
   have e : (match p.2 with | .sy _ _ => buildSliceC.allS ps | _ => false) = true := e
   split at e
   ·rename_i t x hp
    rw [hp] at q1
    simp only [VR] at q1
    show (match p'.2 with | .im _ => anyOwn ps' | _ => true) = false
    rw [q1]
    exact allS_any ps ps' q2 e
   ·cases e
theorem buildSlice_s (hs : HS M ch h) {keep : Bool} {t n : Nat} {ps : List (Nat × CV)} {ps' : List (Nat × V)} (h1 : ps'.map Prod.fst = ps.map Prod.fst) (h2 : VRs M (ps.map Prod.snd) (ps'.map Prod.snd)) (e : buildSliceC E keep t n ps ch k = some r) :
  OS wb M ch h (sBuildSlice E keep h.length h t n ps') k r := by
 unfold buildSliceC at e
 replace e := Option.bind_eq_some_iff.1 e; obtain ⟨ti, ht, e⟩ := e
 unfold sBuildSlice
 rw [ht, Option.bind_some]
 split at e
 ·rename_i el hk
  replace e := Option.bind_eq_some_iff.1 e; obtain ⟨te, hte, e⟩ := e
  replace e := Option.bind_eq_some_iff.1 e; obtain ⟨u, hu, e⟩ := e
  replace e := Option.bind_eq_some_iff.1 e; obtain ⟨z, hz, e⟩ := e
  simp only [hk]
  rw [hte, Option.bind_some]
  cases hb : (Nat.ble (n * te.size) 16777216 && Nat.ble n 16777216) && (Nat.beq u.wd te.size && (okC te (.sy u z) && (buildSliceC.isNoneN (ownsPC ps) && (not keep || buildSliceC.allS ps)))) with
  | false => rw [hb, cond_false] at e; cases e
  | true =>
   rw [hb, cond_true] at e
   rw [Bool.and_eq_true] at hb
   obtain ⟨b1, b2⟩ := hb
   simp only [Bool.and_eq_true] at b2
   obtain ⟨b2, b3, b4, b5⟩ := b2
   replace e := Option.bind_eq_some_iff.1 e; obtain ⟨l, hl, e⟩ := e
   have hsz := Nat.eq_of_beq_eq_true b2
   obtain ⟨r1, r2, r3⟩ := fillS_rel hs hsz ps ps' _ h1 h2 hl
   have ho : ownsPC ps = [] := by
    cases hq : ownsPC ps with
    | nil => rfl
    | cons _ _ => rw [hq] at b4; cases b4
   have hkeep : (keep && anyOwn ps') = false := by
    cases keep with
    | false => rfl
    | true => rw [allS_any ps ps' h2 b5]; rfl
   rw [b1, cond_true, zero_rel hz, Option.bind_some, (okC_rel (show VR M (.sy u z) (.im (u.enc z)) from rfl) b3).1, hkeep, reps_eq, ← List.map_replicate, cond_false, r1]
   show OS wb M ch h (bif Go.As.allArr h (ownsP ps') then some (.own h.length 0 0 n false, hput (Go.As.close h (ownsP ps')) h.length (.arr 0 te.size 0 (l.map u.enc))) else none) k r
   rw [r3 ho, ← hsz]
   exact OS.newArr hs u l 0 (by rw [r2]; simp) e
 ·cases e
theorem bound_rel {hi : Nat} {x : Option CV} {x' : Option V} {d : Nat} {kk : Nat → Option ρ} (hx : ∀ v, x = some v → ∃ u, x' = some u ∧ VR M v u) (hn : x = none → x' = none) (e : boundC hi x d kk = some r) : ∃ n, bound hi x' d = some n ∧ kk n = some r := by
 unfold boundC at e
 split at e
 ·rw [hn rfl]; exact ⟨d, rfl, e⟩
 ·rename_i j n
  obtain ⟨u, rfl, hu⟩ := hx _ rfl
  have := hu.int; subst this
  cases hb : ile 0 n && ile n (Int.ofNat hi) with
  | false => rw [hb, cond_false] at e; cases e
  | true =>
   rw [hb, cond_true] at e
   refine ⟨n.toNat, ?_, e⟩
   show (bif ile 0 n && ile n (Int.ofNat hi) then some n.toNat else none) = _
   rw [hb, cond_true]
 ·cases e
theorem bounds_rel {len : Nat} {lo hi : Option V} {i j : Nat} (h1 : bound len hi len = some j) (h2 : bound j lo 0 = some i) : bounds len lo hi none = some (i, j, len) := by
 unfold bounds
 show ((some len).bind fun m => _ : Option (Nat × Nat × Nat)) = _
 rw [Option.bind_some]
 cases hi with
 | none =>
  show ((bound len none len).bind fun j => (bound j lo 0).map fun i => (i, j, len)) = _
  rw [h1, Option.bind_some, h2]; rfl
 | some v =>
  show ((bound len (some v) len).bind fun j => (bound j lo 0).map fun i => (i, j, len)) = _
  rw [h1, Option.bind_some, h2]; rfl
theorem el_own (hs : HS M ch h) {b n n' : Nat} {c : Bool} {t : Ty} {l : List t.den} {x g : Nat} (hb : hgetC ch b = some (.arr n' c t l)) (hn : Nat.beq n n' = true) {v : V} (hv : VR M (.own b n) v) (he : v = .own x g 0 l.length false) : M.o b n = some (.own x g 0 l.length false, t.wd) := by
 have := Nat.eq_of_beq_eq_true hn
 subst this
 simp only [VR] at hv
 obtain ⟨s, hv, _⟩ := hv
 obtain ⟨u, h1, _⟩ := hs.arr b n c t l hb
 rw [hv] at h1
 cases h1
 rw [← he]; exact hv
theorem lo_rel {lo : Option CV} {lo' : Option V} {j : Nat} {kk : Option Nat → Option ρ} (hl : ∀ v, lo = some v → ∃ u, lo' = some u ∧ VR M v u) (hl0 : lo = none → lo' = none)
  (e : (match (generalizing := false) lo with
   | none => kk none
   | some (.sy (.int _) n) => bif ile 0 n && ile n (Int.ofNat j) then kk (some n.toNat) else none
   | _ => none) = some r) : ∃ i : Option Nat, bound j lo' 0 = some (i.getD 0) ∧ kk i = some r ∧ i.getD 0 ≤ j := by
 split at e
 ·rw [hl0 rfl]; exact ⟨none, rfl, e, Nat.zero_le _⟩
 ·rename_i k' n
  obtain ⟨u, rfl, hu⟩ := hl _ rfl
  have := hu.int; subst this
  cases hb : ile 0 n && ile n (Int.ofNat j) with
  | false => rw [hb, cond_false] at e; cases e
  | true =>
   rw [hb, cond_true] at e
   refine ⟨some n.toNat, ?_, e, ?_⟩
   ·show (bif ile 0 n && ile n (Int.ofNat j) then some n.toNat else none) = _
    rw [hb, cond_true]; rfl
   ·rw [Bool.and_eq_true, ile_eq, ile_eq] at hb
    have h1 := of_decide_eq_true hb.1
    have h2 := of_decide_eq_true hb.2
    have h3 : Int.ofNat j = (j : Int) := rfl
    show n.toNat ≤ j
    omega
 ·cases e
theorem boundN_le {hi d n : Nat} {x : Option V} (h : bound hi x d = some n) (hd : d ≤ hi) : n ≤ hi := by
 unfold bound at h
 split at h
 ·cases h; exact hd
 ·rename_i k' a
  cases hb : ile 0 a && ile a (Int.ofNat hi) with
  | false => rw [hb, cond_false] at h; cases h
  | true =>
   rw [hb, cond_true] at h
   cases h
   rw [Bool.and_eq_true, ile_eq, ile_eq] at hb
   have h1 := of_decide_eq_true hb.1
   have h2 := of_decide_eq_true hb.2
   have h3 : Int.ofNat hi = (hi : Int) := rfl
   omega
 ·cases h
theorem cutC_rel {len : Nat} {lo hi : Option CV} {lo' hi' : Option V} {kk : Option Nat → Nat → Option ρ} (hl : ∀ v, lo = some v → ∃ u, lo' = some u ∧ VR M v u) (hl0 : lo = none → lo' = none) (hh : ∀ v, hi = some v → ∃ u, hi' = some u ∧ VR M v u) (hh0 : hi = none → hi' = none)
  (e : cutC len lo hi kk = some r) : ∃ (i : Option Nat) (j : Nat), bounds len lo' hi' none = some (i.getD 0, j, len) ∧ kk i j = some r ∧ i.getD 0 ≤ j ∧ j ≤ len ∧ (hi = none → j = len) := by
 unfold cutC at e
 have hj : hi = none → ∀ j, bound len hi' len = some j → j = len := fun q j e => by
  rw [hh0 q] at e; cases e; rfl
 obtain ⟨j, b1, e⟩ := bound_rel hh hh0 e
 obtain ⟨i, b2, e, hij⟩ := lo_rel (kk := fun i => kk i j) hl hl0 e
 exact ⟨i, j, bounds_rel b1 b2, e, hij, boundN_le b1 (Nat.le_refl _), fun q => hj q j b1⟩
theorem cutMC_rel {len : Nat} {lo hi : Option CV} {mx : CV} {lo' hi' mx' : Option V} {kk : Option Nat → Nat → Option ρ} (hl : ∀ v, lo = some v → ∃ u, lo' = some u ∧ VR M v u) (hl0 : lo = none → lo' = none) (hh : ∀ v, hi = some v → ∃ u, hi' = some u ∧ VR M v u) (hm : ∃ u, mx' = some u ∧ VR M mx u)
  (e : cutMC len lo hi mx kk = some r) : ∃ (i : Option Nat) (j : Nat) (um : V), mx' = some um ∧ bounds len lo' hi' mx' = some (i.getD 0, j, j) ∧ kk i j = some r ∧ i.getD 0 ≤ j ∧ j ≤ len := by
 unfold cutMC at e
 split at e
 ·rename_i k1 a k2 b
  obtain ⟨ua, rfl, hua⟩ := hh _ rfl
  have := hua.int; subst this
  obtain ⟨ub, rfl, hub⟩ := hm
  have := hub.int; subst this
  cases h1 : ile 0 b && ile b (Int.ofNat len) with
  | false => rw [h1, cond_false] at e; cases e
  | true =>
   rw [h1, cond_true] at e
   cases h2 : ile 0 a && ile a b with
   | false => rw [h2, cond_false] at e; cases e
   | true =>
    rw [h2, cond_true] at e
    cases h3 : ieq a b with
    | false => rw [h3, cond_false] at e; cases e
    | true =>
     rw [h3, cond_true] at e
     have hab : a = b := of_decide_eq_true (by rw [← ieq_eq]; exact h3)
     subst hab
     have h1' := h1
     rw [Bool.and_eq_true, ile_eq, ile_eq] at h1'
     have p1 := of_decide_eq_true h1'.1
     have p2 := of_decide_eq_true h1'.2
     have p3 : Int.ofNat len = (len : Int) := rfl
     have hbd : ∀ m : Nat, a ≤ (m : Int) → bound m (some (.im (.int k1 a))) len = some a.toNat := fun m hm => by
      show (bif ile 0 a && ile a (Int.ofNat m) then some a.toNat else none) = _
      have q1 : ile 0 a = true := by rw [ile_eq]; exact decide_eq_true p1
      have q2 : ile a (Int.ofNat m) = true := by rw [ile_eq]; exact decide_eq_true hm
      rw [q1, q2]; rfl
     have hmx : bound len (some (.im (.int k2 a))) len = some a.toNat := by
      show (bif ile 0 a && ile a (Int.ofNat len) then some a.toNat else none) = _
      rw [h1]; rfl
     obtain ⟨i, b2, e, hij⟩ := lo_rel (lo' := lo') (j := a.toNat) (kk := fun i => kk i a.toNat) hl hl0 (by
      have : Int.ofNat a.toNat = a := by show ((a.toNat : Nat) : Int) = a; omega
      rw [this]; exact e)
     have hjl : a.toNat ≤ len := by omega
     refine ⟨i, a.toNat, _, rfl, ?_, e, hij, hjl⟩
     unfold bounds
     rw [hmx, Option.bind_some]
     show ((bound a.toNat (some (.im (.int k1 a))) len).bind fun j => (bound j lo' 0).map fun i => (i, j, a.toNat)) = _
     rw [hbd a.toNat (Int.self_le_toNat a), Option.bind_some, b2]; rfl
 ·cases e
theorem cut_W {l : List D} (i : Option Nat) (j : Nat) : cut l (i.getD 0) j = cutW i (lenW j i) l := by
 cases i with
 | none => simp [cut, cutW, lenW, lTake]
 | some i => simp [cut, cutW, lenW, lTake, lDrop, nSub]
theorem lenW_eq (i : Option Nat) (j : Nat) : lenW j i = j - i.getD 0 := by
 cases i with
 | none => simp [lenW]
 | some i => simp [lenW, nSub]
theorem offW_eq (o i : Option Nat) : (offW o i).getD 0 = o.getD 0 + i.getD 0 := by
 cases i with
 | none => simp [offW]
 | some i => cases o <;> simp [offW, nAdd]
theorem sizeD {u : Ty} {te : TI} (hw : Nat.beq u.wd te.size = true) (l : List u.den) : firstWd te.size (l.map u.enc) = true := by
 cases l with
 | nil => rfl
 | cons y l => show Nat.beq (u.enc y).wd te.size = true; rw [enc_wd]; exact hw
theorem sliceOwn_mx {b g off len : Nat} {lim : Bool} {lo hi : Option V} {um : V} {i j : Nat} (hb : bounds len lo hi (some um) = some (i, j, j)) : sliceOwn b g off len lim lo hi (some um) = some (.own b g (off + i) (j - i) true) := by
 unfold sliceOwn
 rw [hb, Option.bind_some]
 show (bif Nat.beq j j then some (V.own b g (off + i) (j - i) true) else none) = _
 rw [Nat.beq_refl]; rfl
theorem sliceOwn_no {b g off len : Nat} {lim : Bool} {lo hi : Option V} {i j : Nat} (hb : bounds len lo hi none = some (i, j, len)) : sliceOwn b g off len lim lo hi none = some (.own b g (off + i) (j - i) (lim && Nat.beq j len)) := by
 unfold sliceOwn
 rw [hb, Option.bind_some]
theorem slice_s (hs : HS M ch h) {t : Nat} {x : CV} {x' : V} {lo hi mx : Option CV} {lo' hi' mx' : Option V} (hx : VR M x x') (hl : ∀ v, lo = some v → ∃ u, lo' = some u ∧ VR M v u) (hl0 : lo = none → lo' = none) (hh : ∀ v, hi = some v → ∃ u, hi' = some u ∧ VR M v u) (hh0 : hi = none → hi' = none) (hm : ∀ v, mx = some v → ∃ u, mx' = some u ∧ VR M v u) (hm0 : mx = none → mx' = none)
  (e : sliceC E t x lo hi mx ch k = some r) : OS wb M ch h (pure1 h (sliceV E t h x' lo' hi' mx')) k r := by
 unfold sliceC at e
 replace e := Option.bind_eq_some_iff.1 e; obtain ⟨ti, ht, e⟩ := e
 unfold sliceV
 rw [ht, Option.bind_some]
 split at e
 ·rename_i el u l hk
  replace e := Option.bind_eq_some_iff.1 e; obtain ⟨te, hte, e⟩ := e
  have := hx.slc; subst this
  simp only [hk]
  cases hw : Nat.beq u.wd te.size with
  | false => rw [hw, cond_false] at e; cases e
  | true =>
   rw [hw, cond_true] at e
   rw [hte, Option.bind_some]
   split at e
   ·rw [hm0 rfl]
    obtain ⟨j, b1, e⟩ := bound_rel hh hh0 e
    obtain ⟨i, b2, e⟩ := bound_rel hl hl0 e
    have : sliceT h te.size (.im (.slc (l.map u.enc))) lo' hi' none = some (.im (.slc (((l.drop i).take (j - i)).map u.enc))) := by
     show (bif firstWd te.size (l.map u.enc) then (bounds (llen (l.map u.enc)) lo' hi' none).bind fun b => some (V.im (.slc (cut (l.map u.enc) b.1 b.2.1))) else none) = _
     rw [sizeD hw, cond_true, llen_eq, List.length_map, bounds_rel b1 b2]
     simp [cut, List.map_take, List.map_drop]
    rw [this]
    exact OS.plain (cv := .sy (.slc u) _) hs (by simp only [VR, Ty.enc]) e
   ·rename_i m
    obtain ⟨i, j, um, rfl, b, e, _, _⟩ := cutMC_rel hl hl0 hh (hm _ rfl) e
    have : sliceT h te.size (.im (.slc (l.map u.enc))) lo' hi' (some um) = some (.full ((cutW i (lenW j i) l).map u.enc)) := by
     show (bif firstWd te.size (l.map u.enc) then (bounds (llen (l.map u.enc)) lo' hi' (some um)).bind fun b => bif Nat.beq b.2.1 b.2.2 then some (V.full (cut (l.map u.enc) b.1 b.2.1)) else none else none) = _
     rw [sizeD hw, cond_true, llen_eq, List.length_map, b, Option.bind_some]
     show (bif Nat.beq j j then some (V.full (cut (l.map u.enc) (i.getD 0) j)) else none) = _
     rw [Nat.beq_refl, cond_true, cut_W, cutW_map]
    rw [this]
    exact OS.plain (cv := .ful u _) hs (by simp only [VR]) e
 ·rename_i el u l hk
  replace e := Option.bind_eq_some_iff.1 e; obtain ⟨te, hte, e⟩ := e
  simp only [VR] at hx; subst hx
  simp only [hk]
  cases hw : Nat.beq u.wd te.size with
  | false => rw [hw, cond_false] at e; cases e
  | true =>
   rw [hw, cond_true] at e
   rw [hte, Option.bind_some]
   have key : ∀ mx, sliceT h te.size (.full (l.map u.enc)) lo' hi' mx = (bounds l.length lo' hi' mx).map fun b => bif Nat.beq b.2.1 b.2.2 then V.full (cut (l.map u.enc) b.1 b.2.1) else .im (.slc (cut (l.map u.enc) b.1 b.2.1)) := fun mx => by
    show (bif firstWd te.size (l.map u.enc) then (bounds (llen (l.map u.enc)) lo' hi' mx).map fun b => bif Nat.beq b.2.1 b.2.2 then V.full (cut (l.map u.enc) b.1 b.2.1) else .im (.slc (cut (l.map u.enc) b.1 b.2.1)) else none) = _
    rw [sizeD hw, cond_true, llen_eq, List.length_map]
   rw [key]
   split at e
   ·rw [hm0 rfl]
    obtain ⟨i, j, b, e, _, _, _⟩ := cutC_rel hl hl0 hh hh0 e
    rw [b]
    show OS wb M ch h (pure1 h (some (bif Nat.beq j l.length then V.full (cut (l.map u.enc) (i.getD 0) j) else .im (.slc (cut (l.map u.enc) (i.getD 0) j))))) k r
    have hq : Nat.beq j l.length = ieq (Int.ofNat j) (Int.ofNat l.length) := by
     rw [ieq_eq]
     by_cases q : j = l.length
     ·subst q; simp
     ·rw [decide_eq_false (by intro p; exact q (Int.ofNat.inj p)), ← Bool.not_eq_true, Nat.beq_eq]; exact q
    rw [hq, cut_W, ← cutW_map]
    cases hc : ieq (Int.ofNat j) (Int.ofNat l.length) with
    | true =>
     rw [hc, cond_true] at e
     exact OS.plain (cv := .ful u _) hs (by simp only [VR, cond_true]) e
    | false =>
     rw [hc, cond_false] at e
     exact OS.plain (cv := .sy (.slc u) _) hs (by simp only [VR, Ty.enc, cond_false]) e
   ·rename_i m
    obtain ⟨i, j, um, rfl, b, e, _, _⟩ := cutMC_rel hl hl0 hh (hm _ rfl) e
    rw [b]
    show OS wb M ch h (pure1 h (some (bif Nat.beq j j then V.full (cut (l.map u.enc) (i.getD 0) j) else .im (.slc (cut (l.map u.enc) (i.getD 0) j))))) k r
    rw [Nat.beq_refl, cond_true, cut_W, ← cutW_map]
    exact OS.plain (cv := .ful u _) hs (by simp only [VR]) e
 ·rename_i el b v hk
  replace e := Option.bind_eq_some_iff.1 e; obtain ⟨te, hte, e⟩ := e
  simp only [hk]
  rw [hte, Option.bind_some]
  split at e
  ·rename_i v' c u l hb
   cases hw : Nat.beq v v' && Nat.beq u.wd te.size with
   | false => rw [hw, cond_false] at e; cases e
   | true =>
    rw [hw, cond_true] at e
    rw [Bool.and_eq_true] at hw
    rcases hs.own hb hw.1 hx with ⟨rfl, rfl, h0⟩ | ⟨y, g, ro, h0, rfl, hg, _, _⟩
    ·simp only [VR] at hx
     obtain ⟨s, ho, _⟩ := hx
     have key : ∀ mx, sliceT h te.size (.full []) lo' hi' mx = (bounds 0 lo' hi' mx).map fun b => bif Nat.beq b.2.1 b.2.2 then V.full (cut ([] : List D) b.1 b.2.1) else .im (.slc (cut ([] : List D) b.1 b.2.1)) := fun mx => rfl
     rw [key]
     split at e
     ·rw [hm0 rfl]
      obtain ⟨i, j, b', e, _, hj, _⟩ := cutC_rel hl hl0 hh hh0 e
      have hj0 : j = 0 := Nat.le_zero.1 hj
      subst hj0
      have b' : bounds 0 lo' hi' none = some (i.getD 0, 0, 0) := b'
      rw [b']
      refine OS.plain (cv := .win b v i (lenW 0 i) false) hs ?_ e
      simp only [VR]
      exact .inr ⟨s, ho, by simp [cut], by rw [lenW_eq]; simp⟩
     ·rename_i m
      obtain ⟨i, j, um, rfl, b', e, _, hj⟩ := cutMC_rel hl hl0 hh (hm _ rfl) e
      have hj0 : j = 0 := Nat.le_zero.1 hj
      subst hj0
      have b' : bounds 0 lo' hi' (some um) = some (i.getD 0, 0, 0) := b'
      rw [b']
      refine OS.plain (cv := .win b v i (lenW 0 i) true) hs ?_ e
      simp only [VR]
      exact .inr ⟨s, ho, by simp [cut], by rw [lenW_eq]; simp⟩
    ·have hov := el_own hs hb hw.1 hx rfl
     have key : ∀ mx, sliceT h te.size (.own y g 0 l.length false) lo' hi' mx = sliceOwn y g 0 l.length false lo' hi' mx := fun mx => by
      show (match hget h y with
       | some (.arr g' s _ l') => bif cutOk g g' 0 l.length l' && (Nat.beq s te.size || isNone l') then sliceOwn y g 0 l.length false lo' hi' mx else none
       | some (.arv g' s l') => bif cutOk g g' 0 l.length l' && (Nat.beq s te.size || isNoneV l') then sliceOwn y g 0 l.length false lo' hi' mx else none
       | _ => none) = _
      rw [hg]
      show (bif cutOk g g 0 l.length (l.map u.enc) && (Nat.beq u.wd te.size || isNone (l.map u.enc)) then sliceOwn y g 0 l.length false lo' hi' mx else none) = _
      rw [hw.2, show cutOk g g 0 l.length (l.map u.enc) = true from cutOk_W (o := none) (by simp)]; rfl
     rw [key]
     split at e
     ·rw [hm0 rfl]
      obtain ⟨i, j, b', e, hij, hj, _⟩ := cutC_rel hl hl0 hh hh0 e
      rw [sliceOwn_no b']
      refine OS.plain (cv := .win b v i (lenW j i) false) hs ?_ e
      simp only [VR]
      exact .inl ⟨y, g, _, _, hov, by rw [lenW_eq]; simp, by rw [lenW_eq]; omega⟩
     ·rename_i m
      obtain ⟨i, j, um, rfl, b', e, hij, hj⟩ := cutMC_rel hl hl0 hh (hm _ rfl) e
      rw [sliceOwn_mx b']
      refine OS.plain (cv := .win b v i (lenW j i) true) hs ?_ e
      simp only [VR]
      exact .inl ⟨y, g, _, _, hov, by rw [lenW_eq]; simp, by rw [lenW_eq]; omega⟩
  ·cases e
 ·rename_i el b v o n lim hk
  replace e := Option.bind_eq_some_iff.1 e; obtain ⟨te, hte, e⟩ := e
  simp only [hk]
  rw [hte, Option.bind_some]
  split at e
  ·rename_i v' c u l hb
   cases hw : Nat.beq v v' && Nat.beq u.wd te.size with
   | false => rw [hw, cond_false] at e; cases e
   | true =>
    rw [hw, cond_true] at e
    rw [Bool.and_eq_true] at hw
    rcases hs.win hb hw.1 hx with ⟨rfl, _, _, rfl⟩ | ⟨y, g, ro, _, rfl, hon, hg, _, _, ho⟩
    ·simp only [VR] at hx
     obtain ⟨s, ho⟩ : ∃ s, M.o b v = some (.full [], s) := by
      rcases hx with ⟨_, _, _, _, _, q, _⟩ | ⟨s, ho, _⟩
      ·cases q
      ·exact ⟨s, ho⟩
     have key : ∀ mx, sliceT h te.size (.full []) lo' hi' mx = (bounds 0 lo' hi' mx).map fun b => bif Nat.beq b.2.1 b.2.2 then V.full (cut ([] : List D) b.1 b.2.1) else .im (.slc (cut ([] : List D) b.1 b.2.1)) := fun mx => rfl
     rw [key]
     split at e
     ·rw [hm0 rfl]
      unfold limC at e
      have hstep : ∃ lim2, cutC 0 lo hi (fun i j => k (.win b v (offW o i) (lenW j i) lim2) ch) = some r := by
       cases lim with
       | false => exact ⟨_, e⟩
       | true =>
        rw [cond_true] at e
        split at e
        ·exact ⟨_, e⟩
        ·cases e
      obtain ⟨lim2, e⟩ := hstep
      obtain ⟨i, j, b', e, _, hj, _⟩ := cutC_rel hl hl0 hh hh0 e
      have hj0 : j = 0 := Nat.le_zero.1 hj
      subst hj0
      rw [b']
      refine OS.plain (cv := .win b v (offW o i) (lenW 0 i) lim2) hs ?_ e
      simp only [VR]
      exact .inr ⟨s, ho, by simp [cut], by rw [lenW_eq]; simp⟩
     ·rename_i m
      obtain ⟨i, j, um, rfl, b', e, _, hj⟩ := cutMC_rel hl hl0 hh (hm _ rfl) e
      have hj0 : j = 0 := Nat.le_zero.1 hj
      subst hj0
      rw [b']
      refine OS.plain (cv := .win b v (offW o i) (lenW 0 i) true) hs ?_ e
      simp only [VR]
      exact .inr ⟨s, ho, by simp [cut], by rw [lenW_eq]; simp⟩
    ·have key : ∀ mx, sliceT h te.size (.own y g (o.getD 0) n lim) lo' hi' mx = sliceOwn y g (o.getD 0) n lim lo' hi' mx := fun mx => by
      show (match hget h y with
       | some (.arr g' s _ l') => bif cutOk g g' (o.getD 0) n l' && (Nat.beq s te.size || isNone l') then sliceOwn y g (o.getD 0) n lim lo' hi' mx else none
       | some (.arv g' s l') => bif cutOk g g' (o.getD 0) n l' && (Nat.beq s te.size || isNoneV l') then sliceOwn y g (o.getD 0) n lim lo' hi' mx else none
       | _ => none) = _
      rw [hg]
      show (bif cutOk g g (o.getD 0) n (l.map u.enc) && (Nat.beq u.wd te.size || isNone (l.map u.enc)) then sliceOwn y g (o.getD 0) n lim lo' hi' mx else none) = _
      rw [hw.2, cutOk_W (by rw [List.length_map]; exact hon)]; rfl
     rw [key]
     split at e
     ·rw [hm0 rfl]
      unfold limC at e
      have hstep : (lim = false ∨ hi = none) ∧ cutC n lo hi (fun i j => k (.win b v (offW o i) (lenW j i) lim) ch) = some r := by
       cases lim with
       | false => exact ⟨.inl rfl, e⟩
       | true =>
        rw [cond_true] at e
        split at e
        ·exact ⟨.inr rfl, e⟩
        ·cases e
      obtain ⟨hlim, e⟩ := hstep
      obtain ⟨i, j, b', e, hij, hj, hjn⟩ := cutC_rel hl hl0 hh hh0 e
      rw [sliceOwn_no b']
      have hl2 : (lim && Nat.beq j n) = lim := by
       rcases hlim with rfl | q
       ·rfl
       ·rw [hjn q, Nat.beq_refl, Bool.and_true]
      rw [hl2]
      refine OS.plain (cv := .win b v (offW o i) (lenW j i) lim) hs ?_ e
      simp only [VR]
      exact .inl ⟨y, g, _, _, ho, by rw [lenW_eq, offW_eq], by rw [lenW_eq, offW_eq]; omega⟩
     ·rename_i m
      obtain ⟨i, j, um, rfl, b', e, hij, hj⟩ := cutMC_rel hl hl0 hh (hm _ rfl) e
      rw [sliceOwn_mx b']
      refine OS.plain (cv := .win b v (offW o i) (lenW j i) true) hs ?_ e
      simp only [VR]
      exact .inl ⟨y, g, _, _, ho, by rw [lenW_eq, offW_eq], by rw [lenW_eq, offW_eq]; omega⟩
  ·cases e
 ·rename_i l hk
  have := hx.str; subst this
  simp only [hk]
  split at e
  ·rw [hm0 rfl]
   obtain ⟨j, b1, e⟩ := bound_rel hh hh0 e
   obtain ⟨i, b2, e⟩ := bound_rel hl hl0 e
   have : sliceS (.im (.str l)) lo' hi' none = some (.im (.str ((l.drop i).take (j - i)))) := by
    show ((bounds (llen l) lo' hi' none).map fun b => V.im (.str (cut l b.1 b.2.1))) = _
    rw [llen_eq, bounds_rel b1 b2]
    simp [cut]
   rw [this]
   exact OS.plain (cv := .sy .str _) hs (by simp only [VR, Ty.enc]) e
  ·cases e
 ·cases e
theorem index_s (hs : HS M ch h) {t : Nat} {x i : CV} {x' i' : V} (hx : VR M x x') (hi : VR M i i') (e : indexC E t x i ch k = some r) : OS wb M ch h (sIndex E h t x' i') k r := by
 unfold indexC at e
 split at e
 ·rename_i j n s
  have := hi.int; subst this
  have := hx.str; subst this
  replace e := Option.bind_eq_some_iff.1 e; obtain ⟨ti, ht, e⟩ := e
  show OS wb M ch h ((E.ty t).bind fun ti => (match ti.k with | .str => bif ile 0 n then (lget s n.toNat).map fun c => (.im (byteD c), h) else none | _ => none)) k r
  rw [ht, Option.bind_some]
  split at e
  ·rename_i hk
   cases h0 : ile 0 n with
   | false => rw [h0, cond_false] at e; cases e
   | true =>
    rw [h0, cond_true] at e
    replace e := Option.bind_eq_some_iff.1 e; obtain ⟨c, hc, e⟩ := e
    simp only [hk]
    rw [cond_true, lget_eq, hc]
    exact OS.of_int hs e
  ·cases e
 ·rename_i j n hns
  have := hi.int; subst this
  replace e := Option.bind_eq_some_iff.1 e; obtain ⟨ti, ht, e⟩ := e
  split at e
  ·rename_i m el hk
   replace e := Option.bind_eq_some_iff.1 e; obtain ⟨te, hte, e⟩ := e
   cases h0 : ile 0 n && ilt n (Int.ofNat m) with
   | false => rw [h0, cond_false] at e; cases e
   | true =>
    rw [h0, cond_true] at e
    replace e := Option.bind_eq_some_iff.1 e; obtain ⟨w, hw, e⟩ := e
    cases ho : okC te w with
    | false => rw [ho, cond_false] at e; cases e
    | true =>
     rw [ho, cond_true] at e
     obtain ⟨z, q1, q2, _⟩ := hx.kid hw
     have hne : ∀ s, x' ≠ .im (.str s) := by
      rintro s rfl
      simp [V.kid] at q1
     have : sIndex E h t x' (.im (.int j n)) = ((E.ty t).bind fun ti => match ti.k with
      | .arr m el => (E.ty el).bind fun te => bif ile 0 n && ilt n (Int.ofNat m) then (x'.kid n.toNat (n.toNat * te.size)).bind fun w => bif okV te w then some (w, h) else none else none
      | _ => none : R) := by
      cases x' with
      | im d => cases d <;> first | rfl | exact absurd rfl (hne _)
      | _ => rfl
     rw [this, ht, Option.bind_some]
     simp only [hk]
     rw [hte, Option.bind_some, h0, cond_true, q1, Option.bind_some, (okC_rel q2 ho).1, cond_true]
     exact OS.plain hs q2 e
  ·cases e
 ·cases e
theorem delems_rel (hs : HS M ch h) {u : Ty} {x : CV} {x' : V} {l : List u.den} (e : CV.dt ch (.slc u) x = some l) (hx : VR M x x') : x'.delems h = some (l.map u.enc) ∧ isArv h x' = false := by
 cases x with
 | sy t y =>
  rw [dt_sy] at e
  obtain ⟨rfl, he, _⟩ := cs_enc e
  simp only [VR] at hx
  subst hx
  rw [← he]
  simp [Ty.enc, V.delems, isArv]
 | nsl =>
  have e : (some [] : Option (List u.den)) = some l := e
  cases e
  simp only [VR] at hx
  subst hx
  exact ⟨rfl, rfl⟩
 | own b n =>
  have e : (match hgetC ch b with
   | some (.arr v' _ t l) => bif Nat.beq n v' then Ty.cs (.slc t) (.slc u) l else none
   | _ => none) = some l := e
  split at e
  ·rename_i v' c t l0 hb
   cases hn : Nat.beq n v' with
   | false => rw [hn, cond_false] at e; cases e
   | true =>
    rw [hn, cond_true] at e
    obtain ⟨he1, he, _⟩ := cs_enc e
    cases he1
    simp only [Ty.enc, D.slc.injEq] at he
    rcases hs.own hb hn hx with ⟨rfl, rfl, _⟩ | ⟨y, g, ro, _, rfl, hg, _⟩
    ·rw [he]; exact ⟨rfl, rfl⟩
    ·rw [he]
     constructor
     ·show (match hget h y with
       | some (.arr g' _ _ l') => bif cutOk g g' 0 l0.length l' then some (cutAll l' 0 l0.length) else none
       | _ => none) = _
      rw [hg]
      have : Nat.ble l0.length l0.length = true := Nat.ble_eq_true_of_le (Nat.le_refl _)
      simp [cutOk, cutAll, this]
     ·show (match hget h y with | some (.arv _ _ _) => true | _ => false) = false
      rw [hg]
  ·cases e
 | ful t l0 =>
  have e : Ty.cs (.slc t) (.slc u) l0 = some l := e
  obtain ⟨he1, he, _⟩ := cs_enc e
  cases he1
  simp only [VR] at hx
  subst hx
  simp only [Ty.enc, D.slc.injEq] at he
  rw [he]
  exact ⟨rfl, rfl⟩
 | win b n o m lim =>
  have e : (match hgetC ch b with
   | some (.arr v' _ t l) => bif Nat.beq n v' then Ty.cs (.slc t) (.slc u) (cutW o m l) else none
   | _ => none) = some l := e
  split at e
  ·rename_i v' c t l0 hb
   cases hn : Nat.beq n v' with
   | false => rw [hn, cond_false] at e; cases e
   | true =>
    rw [hn, cond_true] at e
    obtain ⟨he1, he, _⟩ := cs_enc e
    cases he1
    simp only [Ty.enc, D.slc.injEq] at he
    rcases hs.win hb hn hx with ⟨rfl, rfl, _, rfl⟩ | ⟨y, g, ro, _, rfl, hm, hg, _⟩
    ·rw [he]
     have : (cutW o 0 ([] : List u.den)) = [] := by cases o <;> simp [cutW, lTake, lDrop]
     rw [this]; exact ⟨rfl, rfl⟩
    ·rw [he]
     have hm' : o.getD 0 + m ≤ (l0.map u.enc).length := by rw [List.length_map]; exact hm
     constructor
     ·show (match hget h y with
       | some (.arr g' _ _ l') => bif cutOk g g' (o.getD 0) m l' then some (cutAll l' (o.getD 0) m) else none
       | _ => none) = _
      rw [hg]
      show (bif cutOk g g (o.getD 0) m (l0.map u.enc) then some (cutAll (l0.map u.enc) (o.getD 0) m) else none) = _
      rw [cutOk_W hm', cutAll_W hm', cond_true, cutW_map]
     ·show (match hget h y with | some (.arv _ _ _) => true | _ => false) = false
      rw [hg]
  ·cases e
 | _ => cases e
theorem HS.grow (hs : HS M ch h) {b n : Nat} {c : Bool} {t : Ty} {l l' : List t.den} (hb : hgetC ch b = some (.arr n c t l)) (hll : l.length ≤ l'.length) {x g ro : Nat} (hx : M.b b = some x) (hro : c = false → ro = 0) (hro' : ro ≤ l.length) :
  let M' : Mu := ⟨M.b, fun i m => if i = b ∧ m = n + 1 then some (.own x (g + 1) 0 l'.length false, t.wd) else M.o i m⟩
  M.le M' ∧ HS M' (hputC ch b (.arr (n + 1) c t l')) (hput h x (.arr (g + 1) t.wd ro (l'.map t.enc))) := by
 intro M'
 have hlt := hgetC_lt hb
 have hcl := (hs.len _ _ hx).2
 have hl : ∀ i, hgetC (hputC ch b (.arr (n + 1) c t l')) i = if i = b then some (.arr (n + 1) c t l') else hgetC ch i := fun i => hgetC_put ch _ b i hlt
 have hg : ∀ y, hget (hput h x (.arr (g + 1) t.wd ro (l'.map t.enc))) y = if y = x then some (.arr (g + 1) t.wd ro (l'.map t.enc)) else hget h y := fun y => hget_hput _ _ _ _ (Nat.le_of_lt hcl)
 have hd : ∀ b' y, hgetC ch b' = some y → b' ≠ b → M.b b' ≠ some x := fun b' y e hne q => hne (hs.inj b' b x (by rw [e]; simp) (by rw [hb]; simp) q hx)
 have hle : M.le M' := ⟨fun _ _ e => e, fun i m y e => by
  show (if i = b ∧ m = n + 1 then _ else M.o i m) = some y
  rw [if_neg (by rintro ⟨rfl, rfl⟩; rw [hs.new _ _ _ _ _ hb _ (Nat.lt_succ_self n)] at e; cases e)]; exact e⟩
 refine ⟨hle, ⟨fun b' w e => ?_, fun b' n' cl t' l0 e => ?_, fun b1 b2 c' e1 e2 q1 q2 => ?_, fun b' n' cl t' l0 e m hm => ?_, fun b' c' e => ?_, fun b' n' x e => ?_⟩⟩
 ·rw [hl] at e
  split at e
  ·cases e
  ·rename_i hne
   obtain ⟨c', v', q1, q2, q3⟩ := hs.cell b' w e
   exact ⟨c', v', q1, by rw [hg, if_neg (by intro q; subst q; exact hd b' _ e hne q1)]; exact q2, q3.mono hle _ _⟩
 ·rw [hl] at e
  split at e
  ·rename_i he
   cases e
   subst he
   exact ⟨_, if_pos ⟨rfl, rfl⟩, .inr ⟨x, g + 1, ro, hx, rfl, by rw [hg, if_pos rfl], hro, Nat.le_trans hro' hll⟩⟩
  ·rename_i hne
   obtain ⟨u, q1, q2⟩ := hs.arr b' n' cl t' l0 e
   exact ⟨u, hle.o _ _ _ q1, q2.imp id fun ⟨y, g', ro', a1, a2, a3, a4⟩ => ⟨y, g', ro', a1, a2, by rw [hg, if_neg (by intro q; subst q; exact hd b' _ e hne a1)]; exact a3, a4⟩⟩
 ·refine hs.inj b1 b2 c' (fun q => e1 ?_) (fun q => e2 ?_) q1 q2
  ·rw [hl, if_neg (by intro q'; subst q'; rw [hb] at q; cases q)]; exact q
  ·rw [hl, if_neg (by intro q'; subst q'; rw [hb] at q; cases q)]; exact q
 ·rw [hl] at e
  show (if b' = b ∧ m = n + 1 then _ else M.o b' m) = none
  split at e
  ·rename_i he
   cases e
   subst he
   rw [if_neg (by omega)]
   exact hs.new _ _ _ _ _ hb m (by omega)
  ·rename_i hne
   rw [if_neg (fun q => hne q.1)]
   exact hs.new b' n' cl t' l0 e m hm
 ·rw [hputC_length, hput_len, if_pos hcl]; exact hs.len b' c' e
 ·rw [hputC_length]
  by_cases hq : b' = b ∧ n' = n + 1
  ·rw [hq.1]; exact hlt
  ·have e : (if b' = b ∧ n' = n + 1 then _ else M.o b' n') = some x := e
   rw [if_neg hq] at e
   exact hs.leno b' n' x e
theorem HS.born (hs : HS M ch h) {b n : Nat} {c : Bool} {t : Ty} {l' : List t.den} (hb : hgetC ch b = some (.arr n c t [])) (hx : M.b b = none) :
  let M' : Mu := ⟨fun i => if i = b then some h.length else M.b i, fun i m => if i = b ∧ m = n + 1 then some (.own h.length 0 0 l'.length false, t.wd) else M.o i m⟩
  M.le M' ∧ HS M' (hputC ch b (.arr (n + 1) c t l')) (hput h h.length (.arr 0 t.wd 0 (l'.map t.enc))) := by
 intro M'
 have hlt := hgetC_lt hb
 have hl : ∀ i, hgetC (hputC ch b (.arr (n + 1) c t l')) i = if i = b then some (.arr (n + 1) c t l') else hgetC ch i := fun i => hgetC_put ch _ b i hlt
 have hg : ∀ y, y < h.length → hget (hput h h.length (.arr 0 t.wd 0 (l'.map t.enc))) y = hget h y := fun y hy => by rw [hget_hput _ _ _ _ (Nat.le_refl _), if_neg (by omega)]
 have hbn : ∀ i, i ≠ b → M'.b i = M.b i := fun i hi => if_neg hi
 have hle : M.le M' := ⟨fun i c e => by
  rw [hbn i (by rintro rfl; rw [hx] at e; cases e)]; exact e, fun i m y e => by
  show (if i = b ∧ m = n + 1 then _ else M.o i m) = some y
  rw [if_neg (by rintro ⟨rfl, rfl⟩; rw [hs.new _ _ _ _ _ hb _ (Nat.lt_succ_self n)] at e; cases e)]; exact e⟩
 refine ⟨hle, ⟨fun b' w e => ?_, fun b' n' cl t' l0 e => ?_, fun b1 b2 c' e1 e2 q1 q2 => ?_, fun b' n' cl t' l0 e m hm => ?_, fun b' c' e => ?_, fun b' n' x e => ?_⟩⟩
 ·rw [hl] at e
  split at e
  ·cases e
  ·obtain ⟨c', v', q1, q2, q3⟩ := hs.cell b' w e
   exact ⟨c', v', hle.b _ _ q1, by rw [hg _ (hs.len _ _ q1).2]; exact q2, q3.mono hle _ _⟩
 ·rw [hl] at e
  split at e
  ·rename_i he
   cases e
   subst he
   exact ⟨_, if_pos ⟨rfl, rfl⟩, .inr ⟨h.length, 0, 0, if_pos rfl, rfl, by rw [hget_hput _ _ _ _ (Nat.le_refl _), if_pos rfl], fun _ => rfl, Nat.zero_le _⟩⟩
  ·rename_i hne
   obtain ⟨u, q1, q2⟩ := hs.arr b' n' cl t' l0 e
   exact ⟨u, hle.o _ _ _ q1, q2.imp (fun ⟨a1, a2, a3⟩ => ⟨a1, a2, by rw [hbn b' hne]; exact a3⟩) fun ⟨y, g', ro', a1, a2, a3, a4⟩ => ⟨y, g', ro', hle.b _ _ a1, a2, by rw [hg _ (hs.len _ _ a1).2]; exact a3, a4⟩⟩
 ·have f1 : hgetC ch b1 ≠ none := fun q => e1 (by rw [hl, if_neg (by intro q'; subst q'; rw [hb] at q; cases q)]; exact q)
  have f2 : hgetC ch b2 ≠ none := fun q => e2 (by rw [hl, if_neg (by intro q'; subst q'; rw [hb] at q; cases q)]; exact q)
  by_cases p1 : b1 = b
  ·by_cases p2 : b2 = b
   ·rw [p1, p2]
   ·exfalso
    rw [hbn b2 p2] at q2
    have : M'.b b1 = some h.length := if_pos p1
    rw [this] at q1
    cases q1
    exact absurd (hs.len _ _ q2).2 (Nat.lt_irrefl _)
  ·by_cases p2 : b2 = b
   ·exfalso
    rw [hbn b1 p1] at q1
    have : M'.b b2 = some h.length := if_pos p2
    rw [this] at q2
    cases q2
    exact absurd (hs.len _ _ q1).2 (Nat.lt_irrefl _)
   ·rw [hbn b1 p1] at q1
    rw [hbn b2 p2] at q2
    exact hs.inj b1 b2 c' f1 f2 q1 q2
 ·rw [hl] at e
  show (if b' = b ∧ m = n + 1 then _ else M.o b' m) = none
  split at e
  ·rename_i he
   cases e
   subst he
   rw [if_neg (by omega)]
   exact hs.new _ _ _ _ _ hb m (by omega)
  ·rename_i hne
   rw [if_neg (fun q => hne q.1)]
   exact hs.new b' n' cl t' l0 e m hm
 ·rw [hputC_length, hput_len, if_neg (Nat.lt_irrefl _)]
  by_cases p : b' = b
  ·have : M'.b b' = some h.length := if_pos p
   rw [this] at e; cases e
   exact ⟨by rw [p]; exact hlt, by omega⟩
  ·rw [hbn b' p] at e
   have := hs.len b' c' e
   exact ⟨this.1, by omega⟩
 ·rw [hputC_length]
  by_cases hq : b' = b ∧ n' = n + 1
  ·rw [hq.1]; exact hlt
  ·have e : (if b' = b ∧ n' = n + 1 then _ else M.o b' n') = some x := e
   rw [if_neg hq] at e
   exact hs.leno b' n' x e
theorem append_s (hs : HS M ch h) {ts : Array Nat} {s x : CV} {s' x' : V} (hsv : VR M s s') (hx : VR M x x') (e : appendC E wb ts s x ch k = some r) : OS wb M ch h (bAppend E h.length ts s' x' h) k r := by
 unfold appendC at e
 replace e := Option.bind_eq_some_iff.1 e; obtain ⟨ti, ht, e⟩ := e
 unfold bAppend
 rw [ht, Option.bind_some]
 split at e
 ·rename_i el hk
  replace e := Option.bind_eq_some_iff.1 e; obtain ⟨te, hte, e⟩ := e
  replace e := Option.bind_eq_some_iff.1 e; obtain ⟨tx, htx, e⟩ := e
  simp only [hk]
  rw [hte, Option.bind_some, htx, Option.bind_some]
  cases hz : okV te te.zero with
  | false => rw [hz, cond_false] at e; cases e
  | true =>
   rw [hz, cond_true] at e
   rw [cond_true]
   replace e := Option.bind_eq_some_iff.1 e; obtain ⟨u, hu, e⟩ := e
   replace e := Option.bind_eq_some_iff.1 e; obtain ⟨new, hnew, e⟩ := e
   unfold newsC at hnew
   split at hnew
   case h_2 => cases hnew
   rename_i tel hkx
   cases hw : Nat.beq u.wd te.size with
   | false => rw [hw, cond_false] at hnew; cases hnew
   | true =>
   rw [hw, cond_true] at hnew
   have hsz := Nat.eq_of_beq_eq_true hw
   obtain ⟨d1, d2⟩ := delems_rel hs hnew hx
   have hf : ∀ l : List u.den, firstWd te.size (l.map u.enc) = true := fun l => by
    cases l with
    | nil => rfl
    | cons y l => show Nat.beq (u.enc y).wd te.size = true; rw [enc_wd]; exact hw
   have hsa : isArv h s' = false := by
    cases s with
    | nsl => simp only [VR] at hsv; subst hsv; rfl
    | own b n =>
     have e : (bif wb b then (match hgetC ch b with
      | some (.arr v' c u' l) => bif Nat.beq n v' then (Ty.cs (.slc u') (.slc u) l).bind fun l => bif roomC (l.length + new.length) te.bytes then k (.own b (n + 1)) (hputC ch b (.arr (n + 1) c u (l ++ new))) else none else none
      | _ => none) else none) = some r := e
     cases hw : wb b with
     | false => rw [hw, cond_false] at e; cases e
     | true =>
      rw [hw, cond_true] at e
      split at e
      ·rename_i v' c u' l hb
       cases hn : Nat.beq n v' with
       | false => rw [hn, cond_false] at e; cases e
       | true =>
        rcases hs.own hb hn hsv with ⟨rfl, _⟩ | ⟨y, g, ro, _, rfl, hg, _⟩
        ·rfl
        ·show (match hget h y with | some (.arv _ _ _) => true | _ => false) = false
         rw [hg]
      ·cases e
    | ful t l => simp only [VR] at hsv; subst hsv; rfl
    | win b n o m lim =>
     have e : (bif lim then (bif isNilL new then none else (match hgetC ch b with
      | some (.arr v' _ u' l) => bif Nat.beq n v' then (Ty.cs (.slc u') (.slc u) l).bind fun l => bif roomC (m + new.length) te.bytes then newC ch (.arr 0 false u (dApp (cutW o m l) new)) fun b ch => k (.own b 0) ch else none else none
      | _ => none)) else none) = some r := e
     cases lim with
     | false => cases e
     | true =>
      rw [cond_true] at e
      cases hq : isNilL new with
      | true => rw [hq, cond_true] at e; cases e
      | false =>
       rw [hq, cond_false] at e
       split at e
       ·rename_i v' c u' l hb
        cases hn : Nat.beq n v' with
        | false => rw [hn, cond_false] at e; cases e
        | true =>
         rcases hs.win hb hn hsv with ⟨rfl, _⟩ | ⟨y, g, ro, _, rfl, _, hg, _⟩
         ·rfl
         ·show (match hget h y with | some (.arv _ _ _) => true | _ => false) = false
          rw [hg]
       ·cases e
    | _ => cases e
   have hstep : appendX E te h.length tx s' x' h = appendTo te h.length s' (new.map u.enc) h := by
    unfold appendX
    have : isIntK (E.kind tx) = false := by rw [hkx]; rfl
    rw [this, cond_false, hsa, d2, Bool.or_self, cond_false]
    have : newElems E te tx x' h = some (new.map u.enc) := by
     unfold newElems
     rw [hkx]
     show ((x'.delems h).bind fun l => bif firstWd te.size l then some l else none) = _
     rw [d1, Option.bind_some, hf, cond_true]
    rw [this, Option.bind_some]
   rw [hstep]
   cases s with
   | nsl =>
    simp only [VR] at hsv; subst hsv
    have e : (bif roomC new.length te.bytes then newC ch (.arr 0 false u new) fun b ch => k (.own b 0) ch else none) = some r := e
    cases hr : roomC new.length te.bytes with
    | false => rw [hr, cond_false] at e; cases e
    | true =>
     rw [hr, cond_true] at e
     show OS wb M ch h (bif firstWd te.size [] && room (llen ([] : List D) + llen (new.map u.enc)) te.bytes then some (.own h.length 0 0 (llen ([] : List D) + llen (new.map u.enc)) false, hput h h.length (.arr 0 te.size (bif isNone (new.map u.enc) then llen ([] : List D) else 0) ([] ++ new.map u.enc))) else none) k r
     have hroom : room (llen ([] : List D) + llen (new.map u.enc)) te.bytes = true := by
      rw [llen_eq, llen_eq, List.length_map]
      simpa [room, roomC] using hr
     have hz0 : (bif isNone (new.map u.enc) then llen ([] : List D) else 0) = 0 := by cases isNone (new.map u.enc) <;> rfl
     rw [hroom, hz0, ← hsz]
     exact OS.newArr hs u new 0 (by simp) e
   | own b n =>
    have e : (bif wb b then (match hgetC ch b with
     | some (.arr v' c u' l) => bif Nat.beq n v' then (Ty.cs (.slc u') (.slc u) l).bind fun l => bif roomC (l.length + new.length) te.bytes then k (.own b (n + 1)) (hputC ch b (.arr (n + 1) c u (l ++ new))) else none else none
     | _ => none) else none) = some r := e
    cases hwb : wb b with
    | false => rw [hwb, cond_false] at e; cases e
    | true =>
     rw [hwb, cond_true] at e
     split at e
     ·rename_i v' c u' l0 hb
      cases hn : Nat.beq n v' with
      | false => rw [hn, cond_false] at e; cases e
      | true =>
       rw [hn, cond_true] at e
       replace e := Option.bind_eq_some_iff.1 e; obtain ⟨l, hl, e⟩ := e
       obtain ⟨he1, he2⟩ := cs_rel hl
       cases he1
       have he2 : l = l0 := he2
       subst he2
       have hnv := Nat.eq_of_beq_eq_true hn
       subst hnv
       cases hr : roomC (l.length + new.length) te.bytes with
       | false => rw [hr, cond_false] at e; cases e
       | true =>
        rw [hr, cond_true] at e
        have hkeep : ∀ j, j < ch.length → wb j = false → hgetC (hputC ch b (.arr (n + 1) c u (l ++ new))) j = hgetC ch j := fun j _ hj => by
         rw [hgetC_put _ _ _ _ (hgetC_lt hb), if_neg (by intro q; subst q; rw [hwb] at hj; cases hj)]
        rcases hs.own hb hn hsv with ⟨rfl, rfl, h0⟩ | ⟨y, g, ro, h0, rfl, hg, hc, hro⟩
        ·obtain ⟨hle, hs'⟩ := hs.born (l' := [] ++ new) hb h0
         show OS wb M ch h (bif firstWd te.size [] && room (llen ([] : List D) + llen (new.map u.enc)) te.bytes then some (.own h.length 0 0 (llen ([] : List D) + llen (new.map u.enc)) false, hput h h.length (.arr 0 te.size (bif isNone (new.map u.enc) then llen ([] : List D) else 0) ([] ++ new.map u.enc))) else none) k r
         have hroom : room (llen ([] : List D) + llen (new.map u.enc)) te.bytes = true := by
          rw [llen_eq, llen_eq, List.length_map]
          simpa [room, roomC] using hr
         have hz0 : (bif isNone (new.map u.enc) then llen ([] : List D) else 0) = 0 := by cases isNone (new.map u.enc) <;> rfl
         rw [hroom, hz0, ← hsz]
         refine ⟨_, _, .own b (n + 1), _, _, rfl, ?_, hs', ⟨hle, by rw [hputC_length]; exact Nat.le_refl _, by rw [hput_len]; split <;> omega, hkeep, nb_new, out_new⟩, e⟩
         show ∃ s, _ ∧ _
         refine ⟨u.wd, (if_pos ⟨rfl, rfl⟩).trans ?_, rfl⟩
         simp
        ·obtain ⟨hle, hs'⟩ := hs.grow (l' := l ++ new) (g := g) hb (by simp) h0 hc hro
         show OS wb M ch h (match hget h y with
          | some (.arr g' sz ro l1) =>
           bif false then
            bif isNone (new.map u.enc) then some (.own y g 0 l.length false, h) else
            bif cutOk g g' 0 l.length l1 && (Nat.beq sz te.size && room (l.length + llen (new.map u.enc)) te.bytes)
            then some (.own h.length 0 0 (l.length + llen (new.map u.enc)) false, hput h h.length (.arr 0 te.size 0 (cutAll l1 0 l.length ++ new.map u.enc))) else none
           else
            bif cutOk g g' 0 l.length l1 && (Nat.beq 0 0 && (Nat.ble ro l.length && (Nat.beq sz te.size && room (l.length + llen (new.map u.enc)) te.bytes)))
            then some (.own y (g + 1) 0 (l.length + llen (new.map u.enc)) false, hput h y (.arr (g + 1) te.size ro (cutAll l1 0 l.length ++ new.map u.enc))) else none
          | _ => none) k r
         rw [hg]
         have a1 : Nat.ble l.length l.length = true := Nat.ble_eq_true_of_le (Nat.le_refl _)
         have a2 : Nat.ble ro l.length = true := Nat.ble_eq_true_of_le hro
         have hroom : room (l.length + llen (new.map u.enc)) te.bytes = true := by
          rw [llen_eq, List.length_map]
          simpa [room, roomC] using hr
         have a3 : cutOk g g 0 l.length (l.map u.enc) = true := by simp [cutOk, a1]
         have a4 : cutAll (l.map u.enc) 0 l.length = l.map u.enc := by simp [cutAll]
         simp only [cond_false, a3, a2, hroom, a4, ← hsz, Nat.beq_refl, Bool.and_self, cond_true]
         refine ⟨_, _, .own b (n + 1), _, _, rfl, ?_, by rw [← List.map_append]; exact hs', ⟨hle, by rw [hputC_length]; exact Nat.le_refl _, by rw [hput_len]; split <;> omega, hkeep, nb_same, out_put h0 (hs.len _ _ h0).2⟩, e⟩
         show ∃ s, _ ∧ _
         refine ⟨u.wd, (if_pos ⟨rfl, rfl⟩).trans ?_, rfl⟩
         rw [llen_eq]; simp
     ·cases e
   | ful u' l0 =>
    simp only [VR] at hsv; subst hsv
    replace e : ((Ty.cs (.slc u') (.slc u) l0).bind fun l => bif roomC (l.length + new.length) te.bytes then newC ch (.arr 0 (isNilL new) u (dApp l new)) fun b ch => k (.own b 0) ch else none) = some r := e
    replace e := Option.bind_eq_some_iff.1 e; obtain ⟨l, hl, e⟩ := e
    obtain ⟨he1, he2⟩ := cs_rel hl
    cases he1
    have he2 : l = l0 := he2
    subst he2
    cases hr : roomC (l.length + new.length) te.bytes with
    | false => rw [hr, cond_false] at e; cases e
    | true =>
     rw [hr, cond_true] at e
     show OS wb M ch h (bif firstWd te.size (l.map u.enc) && room (llen (l.map u.enc) + llen (new.map u.enc)) te.bytes then some (.own h.length 0 0 (llen (l.map u.enc) + llen (new.map u.enc)) false, hput h h.length (.arr 0 te.size (bif isNone (new.map u.enc) then llen (l.map u.enc) else 0) (l.map u.enc ++ new.map u.enc))) else none) k r
     have hroom : room (llen (l.map u.enc) + llen (new.map u.enc)) te.bytes = true := by
      rw [llen_eq, llen_eq, List.length_map, List.length_map]
      simpa [room, roomC] using hr
     rw [hf, hroom, ← hsz, ← List.map_append]
     have hro : isNilL new = false → (bif isNone (new.map u.enc) then llen (l.map u.enc) else 0) = 0 := fun q => by
      cases new with
      | nil => cases q
      | cons _ _ => rfl
     have hro2 : (bif isNone (new.map u.enc) then llen (l.map u.enc) else 0) ≤ (l ++ new).length := by
      rw [llen_eq, List.length_map, List.length_append]
      cases isNone (new.map u.enc)
      ·simp
      ·simp
     refine OS.newArrR hs u (l ++ new) 0 (isNilL new) _ hro hro2 (by rw [llen_eq, llen_eq]; simp) e
   | win b n o m lim =>
    replace e : (bif lim then (bif isNilL new then none else (match hgetC ch b with
     | some (.arr v' _ u' l) => bif Nat.beq n v' then (Ty.cs (.slc u') (.slc u) l).bind fun l => bif roomC (m + new.length) te.bytes then newC ch (.arr 0 false u (dApp (cutW o m l) new)) fun b ch => k (.own b 0) ch else none else none
     | _ => none)) else none) = some r := e
    cases lim with
    | false => cases e
    | true =>
     rw [cond_true] at e
     cases hq : isNilL new with
     | true => rw [hq, cond_true] at e; cases e
     | false =>
      rw [hq, cond_false] at e
      have hnn : isNone (new.map u.enc) = false := by
       cases new with
       | nil => cases hq
       | cons _ _ => rfl
      split at e
      ·rename_i v' c u' l0 hb
       cases hn : Nat.beq n v' with
       | false => rw [hn, cond_false] at e; cases e
       | true =>
        rw [hn, cond_true] at e
        replace e := Option.bind_eq_some_iff.1 e; obtain ⟨l, hl, e⟩ := e
        obtain ⟨he1, he2⟩ := cs_rel hl
        cases he1
        have he2 : l = l0 := he2
        subst he2
        cases hr : roomC (m + new.length) te.bytes with
        | false => rw [hr, cond_false] at e; cases e
        | true =>
         rw [hr, cond_true] at e
         rcases hs.win hb hn hsv with ⟨rfl, rfl, _, rfl⟩ | ⟨y, g, ro, _, rfl, hm, hg, _⟩
         ·have h0 : cutW o 0 ([] : List u.den) = [] := by cases o <;> simp [cutW, lTake, lDrop]
          rw [h0] at e
          show OS wb M ch h (bif firstWd te.size [] && room (llen ([] : List D) + llen (new.map u.enc)) te.bytes then some (.own h.length 0 0 (llen ([] : List D) + llen (new.map u.enc)) false, hput h h.length (.arr 0 te.size (bif isNone (new.map u.enc) then llen ([] : List D) else 0) ([] ++ new.map u.enc))) else none) k r
          have hroom : room (llen ([] : List D) + llen (new.map u.enc)) te.bytes = true := by
           rw [llen_eq, llen_eq, List.length_map]
           simpa [room, roomC] using hr
          have hz0 : (bif isNone (new.map u.enc) then llen ([] : List D) else 0) = 0 := by cases isNone (new.map u.enc) <;> rfl
          rw [hroom, hz0, ← hsz]
          exact OS.newArr hs u new 0 (by simp) e
         ·have hm' : o.getD 0 + m ≤ (l.map u.enc).length := by rw [List.length_map]; exact hm
          show OS wb M ch h (match hget h y with
           | some (.arr g' sz ro l1) =>
            bif true then
             bif isNone (new.map u.enc) then some (.own y g (o.getD 0) m true, h) else
             bif cutOk g g' (o.getD 0) m l1 && (Nat.beq sz te.size && room (m + llen (new.map u.enc)) te.bytes)
             then some (.own h.length 0 0 (m + llen (new.map u.enc)) false, hput h h.length (.arr 0 te.size 0 (cutAll l1 (o.getD 0) m ++ new.map u.enc))) else none
            else
             bif cutOk g g' (o.getD 0) m l1 && (Nat.beq (o.getD 0) 0 && (Nat.ble ro m && (Nat.beq sz te.size && room (m + llen (new.map u.enc)) te.bytes)))
             then some (.own y (g + 1) 0 (m + llen (new.map u.enc)) false, hput h y (.arr (g + 1) te.size ro (cutAll l1 0 m ++ new.map u.enc))) else none
           | _ => none) k r
          rw [hg]
          have hroom : room (m + llen (new.map u.enc)) te.bytes = true := by
           rw [llen_eq, List.length_map]
           simpa [room, roomC] using hr
          simp only [cond_true, hnn, cond_false, cutOk_W hm', cutAll_W hm', hroom, ← hsz, Nat.beq_refl, Bool.and_self]
          rw [← cutW_map, ← List.map_append]
          refine OS.newArr hs u (cutW o m l ++ new) 0 ?_ e
          rw [llen_eq, List.length_map, List.length_append, cutW_len hm]
      ·cases e
   | _ => cases e
 ·cases e
end Go.As
/-
 AS: a call that is known with what it does to memory.
-/
namespace Go.As
variable [Gh]
theorem allN_mem {f : Nat → Bool} : ∀ {l : List Nat}, allN f l = true → ∀ b ∈ l, f b = true
 | [], _, b, hb => by cases hb
 | a :: l, e, b, hb => by
  have e : (bif f a then allN f l else false) = true := e
  cases ha : f a with
  | false => rw [ha, cond_false] at e; cases e
  | true =>
   rw [ha, cond_true] at e
   rcases List.mem_cons.1 hb with rfl | hb
   ·exact ha
   ·exact allN_mem e b hb
theorem hasN_ofmem : ∀ {l : List Nat} {b : Nat}, hasN l b = true ↔ b ∈ l
 | [], b => by simp [hasN]
 | a :: l, b => by
  show (bif Nat.beq a b then true else hasN l b) = true ↔ _
  cases hb : Nat.beq a b with
  | true =>
   have := Nat.eq_of_beq_eq_true hb
   subst this
   simp
  | false =>
   rw [cond_false, hasN_ofmem, List.mem_cons]
   constructor
   ·exact .inr
   ·rintro (rfl | h)
    ·rw [Nat.beq_refl] at hb; cases hb
    ·exact h
theorem nodupN_iff : ∀ {l : List Nat}, nodupN l = true → l.Nodup
 | [], _ => List.nodup_nil
 | a :: l, e => by
  have e : (bif hasN l a then false else nodupN l) = true := e
  cases ha : hasN l a with
  | true => rw [ha, cond_true] at e; cases e
  | false =>
   rw [ha, cond_false] at e
   rw [List.nodup_cons]
   exact ⟨fun q => (by rw [hasN_ofmem.2 q] at ha; cases ha), nodupN_iff e⟩
theorem fsts_eq {α : Type} (l : List (Nat × α)) : fsts l = l.map Prod.fst := by
 induction l with
 | nil => rfl
 | cons p l ih => show p.1 :: fsts l = _; rw [ih]; rfl
def Mu.sel (M : Mu) (S : List (Nat × Nat)) : Mu := ⟨fun j => (S[j]?).bind fun q => M.b q.1, fun j n => if n = 0 then (S[j]?).bind fun q => M.o q.1 q.2 else none⟩
def FootOk (ch : CH) (q : Nat × Nat) (y : Option CB) : Prop :=
 (∃ t x, y = some (.cell (.sy t x)) ∧ hgetC ch q.1 = some (.cell (.sy t x))) ∨ (∃ c t l, y = some (.arr 0 c t l) ∧ hgetC ch q.1 = some (.arr q.2 c t l))
theorem FootOk.some {ch : CH} {q : Nat × Nat} {y : Option CB} (h : FootOk ch q y) : ∃ z, y = some z := by
 rcases h with ⟨t, x, h, _⟩ | ⟨c, t, l, h, _⟩ <;> exact ⟨_, h⟩
theorem FootOk.ne {ch : CH} {q : Nat × Nat} {y : Option CB} (h : FootOk ch q y) : hgetC ch q.1 ≠ none := by
 rcases h with ⟨t, x, _, h⟩ | ⟨c, t, l, _, h⟩ <;> (rw [h]; simp)
theorem fst_inj {S : List (Nat × Nat)} (hn : (S.map Prod.fst).Nodup) {i j : Nat} {p q : Nat × Nat} (hi : S[i]? = some p) (hj : S[j]? = some q) (h : p.1 = q.1) : i = j := by
 have e : (S.filterMap fun s => some s.1) = S.map Prod.fst := by induction S with | nil => rfl | cons a l ih => simp_all
 exact filterMap_inj0 (f := fun s => some s.1) (o := q.1) (by rw [e]; exact hn) hi hj (by rw [h]) rfl
where
 filterMap_inj0 {α : Type} {f : α → Option Nat} : ∀ {l : List α} {i j : Nat} {x y : α} {o : Nat}, (l.filterMap f).Nodup → l[i]? = some x → l[j]? = some y → f x = some o → f y = some o → i = j
 | [], i, j, x, y, o, _, h, _, _, _ => by simp at h
 | a :: l, i, j, x, y, o, hn, hi, hj, hx, hy => by
  have htl : (l.filterMap f).Nodup := by
   rw [List.filterMap_cons] at hn
   split at hn
   ·exact hn
   ·exact (List.nodup_cons.1 hn).2
  have hne : ∀ (k : Nat) (z : α), l[k]? = some z → f z = some o → f a = some o → False := fun k z hz hfz hfa => by
   rw [List.filterMap_cons, hfa] at hn
   exact (List.nodup_cons.1 hn).1 (List.mem_filterMap.2 ⟨z, List.mem_of_getElem? hz, hfz⟩)
  cases i with
  | zero =>
   cases j with
   | zero => rfl
   | succ j => simp at hi hj; subst hi; exact (hne j y hj hy hx).elim
  | succ i =>
   cases j with
   | zero => simp at hi hj; subst hj; exact (hne i x hi hx hy).elim
   | succ j => simp at hi hj; rw [filterMap_inj0 htl hi hj hx hy]
theorem hgetC_some {ch : CH} {j : Nat} {x : CB} (e : hgetC ch j = some x) : ch[j]? = some (some x) := by
 unfold hgetC at e
 rw [lget_eq] at e
 split at e
 ·rename_i y hy; rw [hy]; cases e; rfl
 ·cases e
theorem hgetC_of {ch : CH} {j : Nat} {y : Option CB} (e : ch[j]? = some y) : hgetC ch j = y := by
 unfold hgetC
 rw [lget_eq, e]
 cases y <;> rfl
theorem HS.sel {M : Mu} {ch : CH} {h : Heap} (hs : HS M ch h) {S : List (Nat × Nat)} {nw : CH} (hl : nw.length = S.length) (hok : ∀ (j : Nat) (q : Nat × Nat), S[j]? = some q → ∃ y, nw[j]? = some y ∧ FootOk ch q y) (hnd : (S.map Prod.fst).Nodup) : HS (M.sel S) nw h := by
 have hg : ∀ j x, hgetC nw j = some x → ∃ q, S[j]? = some q ∧ FootOk ch q (some x) := fun j x e => by
  have e := hgetC_some e
  have hj := (List.getElem?_eq_some_iff.1 e).1
  obtain ⟨y, h1, h2⟩ := hok j (S[j]'(by omega)) (List.getElem?_eq_getElem (by omega))
  rw [e] at h1; cases h1
  exact ⟨_, List.getElem?_eq_getElem (by omega), h2⟩
 have hb : ∀ (j : Nat) (q : Nat × Nat), S[j]? = some q → (M.sel S).b j = M.b q.1 := fun j q e => by show (S[j]?).bind _ = _; rw [e]; rfl
 have ho : ∀ (j : Nat) (q : Nat × Nat), S[j]? = some q → (M.sel S).o j 0 = M.o q.1 q.2 := fun j q e => by show (if (0 : Nat) = 0 then (S[j]?).bind _ else none) = _; rw [if_pos rfl, e]; rfl
 have hbs : ∀ j c, (M.sel S).b j = some c → ∃ q, S[j]? = some q ∧ M.b q.1 = some c := fun j c e => Option.bind_eq_some_iff.1 e
 refine ⟨fun b cv e => ?_, fun b n cl t l e => ?_, fun b b' c e1 e2 q1 q2 => ?_, fun b n cl t l e m hm => ?_, fun b c e => ?_, fun b n x e => ?_⟩
 ·obtain ⟨q, hq, hf⟩ := hg b _ e
  rcases hf with ⟨t, x, h1, h2⟩ | ⟨c, t, l, h1, _⟩
  ·cases h1
   obtain ⟨c, v, r1, r2, r3⟩ := hs.cell _ _ h2
   exact ⟨c, v, (hb b q hq).trans r1, r2, r3⟩
  ·cases h1
 ·obtain ⟨q, hq, hf⟩ := hg b _ e
  rcases hf with ⟨t, x, h1, h2⟩ | ⟨c, t', l', h1, h2⟩
  ·cases h1
  ·cases h1
   obtain ⟨u, r1, r2⟩ := hs.arr _ _ _ _ _ h2
   rw [hb b q hq, ho b q hq]
   exact ⟨u, r1, r2⟩
 ·obtain ⟨q, hq, r1⟩ := hbs b c q1
  obtain ⟨q', hq', r2⟩ := hbs b' c q2
  obtain ⟨y, _, f1⟩ := hok b q hq
  obtain ⟨y', _, f2⟩ := hok b' q' hq'
  exact fst_inj hnd hq hq' (hs.inj _ _ _ f1.ne f2.ne r1 r2)
 ·show (if m = 0 then _ else none) = none
  rw [if_neg (by omega)]
 ·obtain ⟨q, hq, r1⟩ := hbs b c e
  exact ⟨by rw [hl]; exact (List.getElem?_eq_some_iff.1 hq).1, (hs.len _ _ r1).2⟩
 ·have e : (if n = 0 then (S[b]?).bind fun q => M.o q.1 q.2 else none) = some x := e
  split at e
  ·obtain ⟨q, hq, _⟩ := Option.bind_eq_some_iff.1 e
   rw [hl]; exact (List.getElem?_eq_some_iff.1 hq).1
  ·cases e
def MkOk (M : Mu) (ch : CH) (S0 : List (Nat × Nat)) (n : Nat) (src : List (Nat × Nat)) (nw : CH) (ws : List Bool) (m : Nat) : Prop :=
 m = n + src.length ∧ nw.length = src.length ∧ ws.length = src.length ∧ ∀ (j : Nat) (q : Nat × Nat), src[j]? = some q → ∃ y, nw[j]? = some y ∧ FootOk ch q y
theorem MkOk.app {M : Mu} {ch : CH} {S0 : List (Nat × Nat)} {n m k : Nat} {s1 s2 : List (Nat × Nat)} {n1 n2 : CH} {w1 w2 : List Bool} (a : MkOk M ch S0 n s1 n1 w1 m) (b : MkOk M ch S0 m s2 n2 w2 k) : MkOk M ch S0 n (s1 ++ s2) (n1 ++ n2) (w1 ++ w2) k := by
 obtain ⟨a1, a2, a3, a4⟩ := a
 obtain ⟨b1, b2, b3, b4⟩ := b
 refine ⟨by rw [List.length_append]; omega, by simp [a2, b2], by simp [a3, b3], fun j q e => ?_⟩
 by_cases hj : j < s1.length
 ·rw [List.getElem?_append_left hj] at e
  rw [List.getElem?_append_left (by omega)]; exact a4 j q e
 ·rw [List.getElem?_append_right (by omega)] at e
  rw [List.getElem?_append_right (by omega), a2]; exact b4 _ q e
theorem sub_app {S0 : List (Nat × Nat)} {n m : Nat} {s1 s2 : List (Nat × Nat)} (hm : m = n + s1.length) (h : ∀ (j : Nat) (q : Nat × Nat), (s1 ++ s2)[j]? = some q → S0[n + j]? = some q) :
  (∀ (j : Nat) (q : Nat × Nat), s1[j]? = some q → S0[n + j]? = some q) ∧ (∀ (j : Nat) (q : Nat × Nat), s2[j]? = some q → S0[m + j]? = some q) :=
 ⟨fun j q e => h j q (by rw [List.getElem?_append_left (List.getElem?_eq_some_iff.1 e).1]; exact e), fun j q e => by
  have := h (s1.length + j) q (by rw [List.getElem?_append_right (by omega), Nat.add_sub_cancel_left]; exact e)
  rw [hm, Nat.add_assoc]; exact this⟩
mutual
theorem Ap.mk_rel {M : Mu} {ch : CH} {S0 : List (Nat × Nat)} : ∀ (p : Ap) {v : CV} {u : V} {x : p.ty.den} (n : Nat), Ap.get ch p v = some x → VR M v u → (∀ (j : Nat) (q : Nat × Nat), (Ap.src p v)[j]? = some q → S0[n + j]? = some q) →
  VR (M.sel S0) (Ap.mk p x n).1 u ∧ MkOk M ch S0 n (Ap.src p v) (Ap.news p x) (Ap.wbs p) (Ap.mk p x n).2
 | .val t, v, u, x, n, e, hv, _ => by
  cases v with
  | sy t' y =>
   have e : Ty.cs t' t y = some x := e
   obtain ⟨rfl, rfl⟩ := cs_rel e
   exact ⟨hv, rfl, rfl, rfl, fun j q e => by cases e⟩
  | _ => cases e
 | .buf w t, v, u, x, n, e, hv, hS => by
  cases v with
  | own b m =>
   have e : (match hgetC ch b with
    | some (.arr n' c u l) => bif Nat.beq m n' && (bif w then not c else c) then Ty.cs (.slc u) (.slc t) l else none
    | _ => none : Option (List t.den)) = some x := e
   split at e
   ·rename_i n' c t' l hb
    cases hq : Nat.beq m n' && (bif w then not c else c) with
    | false => rw [hq, cond_false] at e; cases e
    | true =>
     rw [hq, cond_true] at e
     rw [Bool.and_eq_true] at hq
     have hm := Nat.eq_of_beq_eq_true hq.1
     subst hm
     obtain ⟨he, hx⟩ := cs_rel e
     injection he with he
     subst he
     have hx : x = l := hx
     simp only [VR] at hv
     obtain ⟨s, h1, h2⟩ := hv
     have hS0 := hS 0 (b, m) rfl
     refine ⟨?_, rfl, rfl, rfl, fun j q ej => ?_⟩
     ·show ∃ s, (M.sel S0).o n 0 = some (u, s) ∧ _
      refine ⟨s, ?_, h2⟩
      show (if (0 : Nat) = 0 then (S0[n]?).bind _ else none) = _
      rw [if_pos rfl, show S0[n]? = some (b, m) from hS0]
      exact h1
     ·cases j with
      | zero =>
       cases ej
       have hw : (not w) = c := by
        have := hq.2
        revert this
        cases w <;> cases c <;> intro this <;> first | rfl | cases this
       refine ⟨_, rfl, .inr ⟨c, t', x, ?_, by rw [hx]; exact hb⟩⟩
       show some (CB.arr 0 (not w) t' x) = _
       rw [hw]
      | succ j => cases ej
   ·cases e
  | _ => cases e
 | .cell w t, v, u, x, n, e, hv, hS => by
  cases v with
  | ptr b pp =>
   cases pp with
   | nil =>
    have e : (match hgetC ch b with
     | some (.cell (.sy u x)) => Ty.cs u t x
     | _ => none : Option t.den) = some x := e
    split at e
    ·rename_i t' y hb
     obtain ⟨he, hx⟩ := cs_rel e
     subst he
     have hx : x = y := hx
     simp only [VR] at hv
     obtain ⟨c, h1, rfl⟩ := hv
     have hS0 := hS 0 (b, 0) rfl
     refine ⟨?_, rfl, rfl, rfl, fun j q ej => ?_⟩
     ·show ∃ c', (M.sel S0).b n = some c' ∧ _
      refine ⟨c, ?_, rfl⟩
      show (S0[n]?).bind _ = _
      rw [show S0[n]? = some (b, 0) from hS0]
      exact h1
     ·cases j with
      | zero => cases ej; exact ⟨_, rfl, .inl ⟨t', x, rfl, by rw [hx]; exact hb⟩⟩
      | succ j => cases ej
    ·cases e
   | cons _ _ => cases e
  | _ => cases e
 | .fn f a c, v, u, x, n, e, hv, hS => by
  cases v with
  | fn f' a' c' =>
   have e : (bif Nat.beq f f' then (match Aps.get ch a a', Aps.get ch c c' with
    | some x, some y => some (x, y)
    | _, _ => none) else none) = some x := e
   cases hf : Nat.beq f f' with
   | false => rw [hf, cond_false] at e; cases e
   | true =>
    rw [hf, cond_true] at e
    have hff := Nat.eq_of_beq_eq_true hf
    have e : (match Aps.get ch a a', Aps.get ch c c' with
     | some x, some y => some (x, y)
     | _, _ => none : Option ((Aps.ty a).den × (Aps.ty c).den)) = some x := e
    split at e
    ·rename_i y z e1 e2
     cases e
     simp only [VR] at hv
     obtain ⟨as, cs, rfl, h1, h2⟩ := hv
     subst hff
     have hS : ∀ (j : Nat) (q : Nat × Nat), (Aps.src a a' ++ Aps.src c c')[j]? = some q → S0[n + j]? = some q := hS
     have hS1 := fun j q (e : (Aps.src a a')[j]? = some q) => hS j q (by rw [List.getElem?_append_left (List.getElem?_eq_some_iff.1 e).1]; exact e)
     obtain ⟨r1, r2⟩ := Aps.mk_rel a n e1 h1 hS1
     obtain ⟨_, hS2⟩ := sub_app r2.1 hS
     obtain ⟨r3, r4⟩ := Aps.mk_rel c _ e2 h2 hS2
     exact ⟨⟨as, cs, rfl, r1, r3⟩, r2.app r4⟩
    ·cases e
  | _ => cases e
theorem Aps.mk_rel {M : Mu} {ch : CH} {S0 : List (Nat × Nat)} : ∀ (l : List Ap) {vs : List CV} {us : List V} {x : (Aps.ty l).den} (n : Nat), Aps.get ch l vs = some x → VRs M vs us → (∀ (j : Nat) (q : Nat × Nat), (Aps.src l vs)[j]? = some q → S0[n + j]? = some q) →
  VRs (M.sel S0) (Aps.mk l x n).1 us ∧ MkOk M ch S0 n (Aps.src l vs) (Aps.news l x) (Aps.wbs l) (Aps.mk l x n).2
 | [], vs, us, x, n, e, hv, _ => by
  cases vs with
  | nil => exact ⟨hv, rfl, rfl, rfl, fun j q e => by cases e⟩
  | cons _ _ => cases e
 | p :: l, vs, us, x, n, e, hv, hS => by
  cases vs with
  | nil => cases e
  | cons v vs =>
   have e : (match Ap.get ch p v, Aps.get ch l vs with
    | some x, some y => some (x, y)
    | _, _ => none) = some x := e
   split at e
   ·rename_i y z e1 e2
    cases e
    simp only [VRs] at hv
    obtain ⟨u, r, rfl, h1, h2⟩ := hv
    have hS : ∀ (j : Nat) (q : Nat × Nat), (Ap.src p v ++ Aps.src l vs)[j]? = some q → S0[n + j]? = some q := hS
    have hS1 := fun j q (e : (Ap.src p v)[j]? = some q) => hS j q (by rw [List.getElem?_append_left (List.getElem?_eq_some_iff.1 e).1]; exact e)
    obtain ⟨r1, r2⟩ := Ap.mk_rel p n e1 h1 hS1
    obtain ⟨_, hS2⟩ := sub_app r2.1 hS
    obtain ⟨r3, r4⟩ := Aps.mk_rel l _ e2 h2 hS2
    exact ⟨⟨u, r, rfl, r1, r3⟩, r2.app r4⟩
   ·cases e
end
def TwoOk (a b : Option CB) : Prop := (∃ t x x', a = some (.cell (.sy t x)) ∧ b = some (.cell (.sy t x'))) ∨ (∃ c t l l', a = some (.arr 0 c t l) ∧ b = some (.arr 0 c t l'))
def TwoL (l l' : CH) : Prop := l.length = l'.length ∧ ∀ (j : Nat) (a b : Option CB), l[j]? = some a → l'[j]? = some b → TwoOk a b
theorem TwoL.app {a a' b b' : CH} (h : TwoL a a') (k : TwoL b b') : TwoL (a ++ b) (a' ++ b') := by
 refine ⟨by simp [h.1, k.1], fun j x y e1 e2 => ?_⟩
 by_cases hj : j < a.length
 ·rw [List.getElem?_append_left hj] at e1
  rw [List.getElem?_append_left (by rw [← h.1]; exact hj)] at e2
  exact h.2 j x y e1 e2
 ·rw [List.getElem?_append_right (by omega)] at e1
  rw [List.getElem?_append_right (by rw [← h.1]; omega), ← h.1] at e2
  exact k.2 _ x y e1 e2
mutual
theorem Ap.two : ∀ (p : Ap) (x y : p.ty.den), TwoL (Ap.news p x) (Ap.news p y)
 | .val t, x, y => ⟨rfl, fun j a b e => by cases e⟩
 | .buf w t, x, y => ⟨rfl, fun j a b e1 e2 => by
  cases j with
  | zero => cases e1; cases e2; exact .inr ⟨_, _, _, _, rfl, rfl⟩
  | succ j => cases e1⟩
 | .cell w t, x, y => ⟨rfl, fun j a b e1 e2 => by
  cases j with
  | zero => cases e1; cases e2; exact .inl ⟨_, _, _, rfl, rfl⟩
  | succ j => cases e1⟩
 | .fn f a c, x, y => (Aps.two a x.1 y.1).app (Aps.two c x.2 y.2)
theorem Aps.two : ∀ (l : List Ap) (x y : (Aps.ty l).den), TwoL (Aps.news l x) (Aps.news l y)
 | [], x, y => ⟨rfl, fun j a b e => by cases e⟩
 | p :: l, x, y => (Ap.two p x.1 y.1).app (Aps.two l x.2 y.2)
end
theorem put1_get {ch : CH} {q : Nat × Nat} {y : Option CB} (hq : q.1 < ch.length) (i : Nat) (hi : i ≠ q.1) : hgetC (put1 ch q y) i = hgetC ch i := by
 unfold put1
 split
 ·rw [hgetC_put _ _ _ _ hq, if_neg hi]
 ·rw [hgetC_put _ _ _ _ hq, if_neg hi]
 ·rfl
theorem put1_len (ch : CH) (q : Nat × Nat) (y : Option CB) : (put1 ch q y).length = ch.length := by
 unfold put1
 split
 ·exact hputC_length ..
 ·exact hputC_length ..
 ·rfl
theorem put1_foot {ch : CH} {q : Nat × Nat} {y a : Option CB} (hq : q.1 < ch.length) (h2 : TwoOk a y) : FootOk (put1 ch q y) q y := by
 rcases h2 with ⟨t, x, x', _, rfl⟩ | ⟨c, t, l, l', _, rfl⟩
 ·exact .inl ⟨t, x', rfl, by show hgetC (hputC ch q.1 _) q.1 = _; rw [hgetC_put _ _ _ _ hq, if_pos rfl]⟩
 ·exact .inr ⟨c, t, l', rfl, by show hgetC (hputC ch q.1 _) q.1 = _; rw [hgetC_put _ _ _ _ hq, if_pos rfl]⟩
theorem FootOk.congr {ch ch' : CH} {q : Nat × Nat} {y : Option CB} (h : FootOk ch q y) (e : hgetC ch' q.1 = hgetC ch q.1) : FootOk ch' q y := by
 rcases h with ⟨t, x, h1, h2⟩ | ⟨c, t, l, h1, h2⟩
 ·exact .inl ⟨t, x, h1, e.trans h2⟩
 ·exact .inr ⟨c, t, l, h1, e.trans h2⟩
theorem putS_get : ∀ (S : List (Nat × Nat)) (ws : List Bool) (nw nw' : CH) (ch : CH), TwoL nw nw' → nw.length = S.length → ws.length = S.length → (S.map Prod.fst).Nodup → (∀ q ∈ S, q.1 < ch.length) →
  (putS S ws nw' ch).length = ch.length ∧ (∀ i, i ∉ wrS S ws → hgetC (putS S ws nw' ch) i = hgetC ch i) ∧
  (∀ (j : Nat) (q : Nat × Nat), S[j]? = some q → ws[j]? = some true → ∃ y, nw'[j]? = some y ∧ FootOk (putS S ws nw' ch) q y) ∧
  (∀ (j : Nat) (q : Nat × Nat), S[j]? = some q → ws[j]? = some false → hgetC (putS S ws nw' ch) q.1 = hgetC ch q.1)
 | [], ws, nw, nw', ch, _, _, _, _, _ => by
  have : putS [] ws nw' ch = ch := by cases ws <;> rfl
  rw [this]
  exact ⟨rfl, fun _ _ => rfl, fun j q e => (by simp at e), fun j q e => (by simp at e)⟩
 | q :: S, [], _, _, _, _, _, h, _, _ => by cases h
 | q :: S, w :: ws, [], _, _, _, h, _, _, _ => by cases h
 | q :: S, w :: ws, a :: nw, [], _, h, _, _, _, _ => by cases h.1
 | q :: S, w :: ws, a :: nw, y :: nw', ch, h2, hl, hw, hnd, hlt => by
  have hnd' := List.nodup_cons.1 hnd
  have h2' : TwoL nw nw' := ⟨by simpa using h2.1, fun j x z e1 e2 => h2.2 (j + 1) x z (by simpa using e1) (by simpa using e2)⟩
  have hq := hlt q (List.mem_cons_self ..)
  have hsub : ∀ i, i ∈ wrS S ws → i ∈ S.map Prod.fst := by
   clear h2 hl hw hnd hlt hnd' h2' hq
   induction S generalizing ws with
   | nil => intro i hi; cases ws <;> cases hi
   | cons p S ih =>
    intro i hi
    cases ws with
    | nil => cases hi
    | cons w ws =>
     have hi : i ∈ (bif w then p.1 :: wrS S ws else wrS S ws) := hi
     cases w with
     | true => rcases List.mem_cons.1 hi with rfl | hi; exact List.mem_cons_self ..; exact List.mem_cons_of_mem _ (ih ws i hi)
     | false => exact List.mem_cons_of_mem _ (ih ws i hi)
  have hnotin : q.1 ∉ wrS S ws := fun hm => hnd'.1 (hsub _ hm)
  show (putS S ws nw' (bif w then put1 ch q y else ch)).length = ch.length ∧ (∀ i, i ∉ (bif w then q.1 :: wrS S ws else wrS S ws) → hgetC (putS S ws nw' (bif w then put1 ch q y else ch)) i = hgetC ch i) ∧ _
  have hlc : (bif w then put1 ch q y else ch).length = ch.length := by cases w; rfl; exact put1_len ..
  obtain ⟨r1, r2, r3, r4⟩ := putS_get S ws nw nw' (bif w then put1 ch q y else ch) h2' (by simpa using hl) (by simpa using hw) hnd'.2 (fun p hp => by rw [hlc]; exact hlt p (List.mem_cons_of_mem _ hp))
  refine ⟨r1.trans hlc, fun i hi => ?_, fun j p e1 e2 => ?_, fun j p e1 e2 => ?_⟩
  ·cases w with
   | true =>
    have hi : i ∉ q.1 :: wrS S ws := hi
    rw [r2 i fun hm => hi (List.mem_cons_of_mem _ hm)]
    exact put1_get hq i fun e => hi (e ▸ List.mem_cons_self ..)
   | false => exact r2 i hi
  ·cases j with
   | zero =>
    simp at e1 e2
    subst e1; subst e2
    exact ⟨y, rfl, (put1_foot hq (h2.2 0 a y rfl rfl)).congr (r2 _ hnotin)⟩
   | succ j => exact r3 j p (by simpa using e1) (by simpa using e2)
  ·cases j with
   | zero =>
    simp at e1 e2
    subst e1; subst e2
    exact r2 _ hnotin
   | succ j =>
    have e1 : S[j]? = some p := by simpa using e1
    refine (r4 j p e1 (by simpa using e2)).trans ?_
    cases w with
    | false => rfl
    | true => exact put1_get hq _ fun e => hnd'.1 (e ▸ List.mem_map.2 ⟨p, List.mem_of_getElem? e1, rfl⟩)
theorem wrS_mem : ∀ {S : List (Nat × Nat)} {ws : List Bool} {i : Nat}, i ∈ wrS S ws → ∃ (j : Nat) (q : Nat × Nat), S[j]? = some q ∧ ws[j]? = some true ∧ q.1 = i
 | [], ws, i, h => by cases ws <;> cases h
 | q :: S, [], i, h => by cases h
 | q :: S, w :: ws, i, h => by
  have h : i ∈ (bif w then q.1 :: wrS S ws else wrS S ws) := h
  have go : i ∈ wrS S ws → ∃ (j : Nat) (p : Nat × Nat), (q :: S)[j]? = some p ∧ (w :: ws)[j]? = some true ∧ p.1 = i := fun h => by
   obtain ⟨j, p, a1, a2, a3⟩ := wrS_mem h
   exact ⟨j + 1, p, by simpa using a1, by simpa using a2, a3⟩
  cases w with
  | true =>
   rcases List.mem_cons.1 h with rfl | h
   ·exact ⟨0, q, rfl, rfl, rfl⟩
   ·exact go h
  | false => exact go h
def SpecMOk (E : Env) (g : Nat) (s : SpecM) : Prop := ∀ x y, s.f x = some y → ∀ (M : Mu) (h : Heap) (us : List V), HS M (Aps.news s.ps x) h → VRs M (Aps.mk s.ps x 0).1 us →
 ∃ h' ch' M', inlineV E (X E) g us h [] = some (.im (s.r.enc y.1), h', []) ∧ HS M' ch' h' ∧ Fr (wbM s.ps) M (Aps.news s.ps x) h M' ch' h' ∧
  ∀ j, (Aps.wbs s.ps)[j]? = some true → hgetC ch' j = hgetC (Aps.news s.ps y.2) j
def CSm {ρ : Type} (wb : Nat → Bool) (M : Mu) (ch : CH) (h : Heap) (m : RC) (k : KC ρ) (r : ρ) : Prop :=
 ∃ v h' cv ch' M', m = some (v, h', []) ∧ VR M' cv v ∧ HS M' ch' h' ∧ Fr wb M ch h M' ch' h' ∧ k cv ch' = some r
theorem callM_s {ρ : Type} {wb : Nat → Bool} {M : Mu} {ch : CH} {h : Heap} {k : KC ρ} {r : ρ} {E : Env} {g : Nat} {s : SpecM} (hm : SpecMOk E g s) (hs : HS M ch h) {args : List CV} {us : List V} (ha : VRs M args us)
  (e : callMC s args wb ch k = some r) : CSm wb M ch h (inlineV E (X E) g us h []) k r := by
 unfold callMC at e
 split at e
 ·rename_i x hx
  cases hc : nodupN (fsts (Aps.src s.ps args)) && allN wb (wrS (Aps.src s.ps args) (Aps.wbs s.ps)) with
  | false => rw [hc, cond_false] at e; cases e
  | true =>
   rw [hc, cond_true] at e
   rw [Bool.and_eq_true] at hc
   have hnd := nodupN_iff hc.1
   rw [fsts_eq] at hnd
   obtain ⟨y, hy, e⟩ := Option.bind_eq_some_iff.1 e
   generalize hSS : Aps.src s.ps args = S at *
   obtain ⟨hmk, m1, m2, m3, m4⟩ := Aps.mk_rel (S0 := S) s.ps 0 hx ha (fun j q e => by rw [hSS] at e; rw [Nat.zero_add]; exact e)
   rw [hSS] at m1 m2 m3 m4
   obtain ⟨h', ch', M', q1, q2, q3, q4⟩ := hm x y hy (M.sel S) h us (hs.sel m2 m4 hnd) hmk
   have hSlt : ∀ q ∈ S, q.1 < ch.length := fun q hq => by
    obtain ⟨j, hj⟩ := List.getElem?_of_mem hq
    obtain ⟨z, _, hf⟩ := m4 j q hj
    rcases hf with ⟨_, _, _, h2⟩ | ⟨_, _, _, _, h2⟩ <;> exact hgetC_lt h2
   obtain ⟨p1, p2, p3, p4⟩ := putS_get S (Aps.wbs s.ps) (Aps.news s.ps x) (Aps.news s.ps y.2) ch (Aps.two s.ps x y.2) m2 m3 hnd hSlt
   generalize hcp : putS S (Aps.wbs s.ps) (Aps.news s.ps y.2) ch = cp at *
   have hA : ∀ (j : Nat) (q : Nat × Nat), S[j]? = some q → ∃ z a, hgetC ch' j = z ∧ FootOk cp q z ∧ FootOk ch q a ∧ TwoOk a z := fun j q hj => by
    have hjl := (List.getElem?_eq_some_iff.1 hj).1
    obtain ⟨a, a1, a2⟩ := m4 j q hj
    have hw : (Aps.wbs s.ps)[j]? = some ((Aps.wbs s.ps)[j]'(by omega)) := List.getElem?_eq_getElem (by omega)
    cases hwb : (Aps.wbs s.ps)[j]'(by omega) with
    | true =>
     rw [hwb] at hw
     obtain ⟨z, z1, z2⟩ := p3 j q hj hw
     exact ⟨z, a, (q4 j hw).trans (hgetC_of z1), z2, a2, (Aps.two s.ps x y.2).2 j a z a1 z1⟩
    | false =>
     rw [hwb] at hw
     refine ⟨a, a, (q3.keep j (by rw [m2]; exact hjl) ?_).trans (hgetC_of a1), a2.congr (p4 j q hj hw), a2, ?_⟩
     ·unfold wbM
      rw [lget_eq, hw]
     ·rcases a2 with ⟨t, x, rfl, _⟩ | ⟨c, t, l, rfl, _⟩
      ·exact .inl ⟨t, x, x, rfl, rfl⟩
      ·exact .inr ⟨c, t, l, l, rfl, rfl⟩
   have hin : ∀ b, b ∈ S.map Prod.fst → ∃ (j : Nat) (q : Nat × Nat), S[j]? = some q ∧ q.1 = b := fun b hb => by
    obtain ⟨q, hq, rfl⟩ := List.mem_map.1 hb
    obtain ⟨j, hj⟩ := List.getElem?_of_mem hq
    exact ⟨j, q, hj, rfl⟩
   have hB : ∀ b, b ∉ S.map Prod.fst → hgetC cp b = hgetC ch b := fun b hb => p2 b fun hm => by
    obtain ⟨j, q, a1, _, a3⟩ := wrS_mem hm
    exact hb (List.mem_map.2 ⟨q, List.mem_of_getElem? a1, a3⟩)
   have hsel : ∀ (j : Nat) (q : Nat × Nat), S[j]? = some q → (M.sel S).b j = M.b q.1 ∧ (M.sel S).o j 0 = M.o q.1 q.2 := fun j q hj => by
    refine ⟨?_, ?_⟩
    ·show (S[j]?).bind _ = _; rw [hj]; rfl
    ·show (if (0 : Nat) = 0 then (S[j]?).bind _ else none) = _; rw [if_pos rfl, hj]; rfl
   have hout : ∀ b c, hgetC ch b ≠ none → b ∉ S.map Prod.fst → M.b b = some c → hget h' c = hget h c := fun b c hb hbn hbc => q3.out c (hs.len _ _ hbc).2 fun j ej => by
    obtain ⟨q, hq, hqc⟩ := Option.bind_eq_some_iff.1 ej
    obtain ⟨z, _, hf⟩ := m4 j q hq
    have := hs.inj _ _ _ hb hf.ne hbc hqc
    exact hbn (List.mem_map.2 ⟨q, List.mem_of_getElem? hq, this.symm⟩)
   have hne : ∀ b, hgetC cp b ≠ none → hgetC ch b ≠ none := fun b hb => by
    by_cases hm : b ∈ S.map Prod.fst
    ·obtain ⟨j, q, hj, rfl⟩ := hin b hm
     obtain ⟨z, _, hf⟩ := m4 j q hj
     exact hf.ne
    ·rw [← hB b hm]; exact hb
   refine ⟨_, h', .sy s.r y.1, cp, M, q1, rfl, ⟨fun b cv eb => ?_, fun b n cl t l eb => ?_, fun b b' c e1 e2 => hs.inj b b' c (hne b e1) (hne b' e2), fun b n cl t l eb => ?_, fun b c eb => ?_, fun b n z eb => ?_⟩, ⟨.refl M, by rw [p1]; exact Nat.le_refl _, q3.lh, fun b hb hwb => p2 b fun hm => ?_, nb_same, fun c hc hn => q3.out c hc fun j ej => ?_⟩, e⟩
   ·by_cases hm : b ∈ S.map Prod.fst
    ·obtain ⟨j, q, hj, rfl⟩ := hin b hm
     obtain ⟨z, a, a1, a2, a3, a4⟩ := hA j q hj
     rcases a2 with ⟨t, w, rfl, w2⟩ | ⟨c, t, l, rfl, w2⟩
     ·rw [w2] at eb; cases eb
      obtain ⟨c, v, v1, v2, v3⟩ := q2.cell j _ a1
      refine ⟨c, v, ?_, v2, v3⟩
      rcases a4 with ⟨t', x0, x1, rfl, _⟩ | ⟨_, _, _, _, _, a4⟩
      ·rcases a3 with ⟨t2, x2, e2, a3⟩ | ⟨_, _, _, a3, _⟩
       ·obtain ⟨c0, _, v4, _⟩ := hs.cell _ _ a3
        have := q3.le.b j c0 ((hsel j q hj).1.trans v4)
        rw [v1] at this; cases this
        exact v4
       ·cases a3
      ·cases a4
     ·rw [w2] at eb; cases eb
    ·rw [hB b hm] at eb
     obtain ⟨c, v, v1, v2, v3⟩ := hs.cell b cv eb
     exact ⟨c, v, v1, (hout b c (by rw [eb]; simp) hm v1).trans v2, v3⟩
   ·by_cases hm : b ∈ S.map Prod.fst
    ·obtain ⟨j, q, hj, rfl⟩ := hin b hm
     obtain ⟨z, a, a1, a2, a3, a4⟩ := hA j q hj
     rcases a2 with ⟨t', w, rfl, w2⟩ | ⟨c, t', l', rfl, w2⟩
     ·rw [w2] at eb; cases eb
     ·rw [w2] at eb; cases eb
      rcases a4 with ⟨_, _, _, _, a4⟩ | ⟨c2, t2, l2, l3, rfl, a4⟩
      ·cases a4
      ·cases a4
       rcases a3 with ⟨_, _, a3, _⟩ | ⟨c3, t3, l4, a3, a5⟩
       ·cases a3
       ·cases a3
        obtain ⟨u0, o1, o2⟩ := hs.arr _ _ _ _ _ a5
        obtain ⟨u, v1, v2⟩ := q2.arr j _ _ _ _ a1
        have := q3.le.o j 0 _ ((hsel j q hj).2.trans o1)
        rw [v1] at this; cases this
        refine ⟨u0, o1, v2.imp (fun ⟨b1, b2, b3⟩ => ⟨b1, b2, ?_⟩) fun ⟨c, g, ro, b1, b2, b3⟩ => ⟨c, g, ro, ?_, b2, b3⟩⟩
        ·cases hMb : M.b q.1 with
         | none => rfl
         | some c0 =>
          have := q3.le.b j c0 ((hsel j q hj).1.trans hMb)
          rw [b3] at this; cases this
        ·rcases o2 with ⟨o2, _⟩ | ⟨c0, g0, ro0, o2, o3, _⟩
         ·rw [o2] at b2; cases b2
         ·rw [o3] at b2
          have := (V.own.inj b2).1
          rw [← this]; exact o2
    ·rw [hB b hm] at eb
     obtain ⟨u, v1, v2⟩ := hs.arr b n cl t l eb
     exact ⟨u, v1, v2.imp id fun ⟨c, g, ro, b1, b2, b3, b4⟩ => ⟨c, g, ro, b1, b2, (hout b c (by rw [eb]; simp) hm b1).trans b3, b4⟩⟩
   ·by_cases hm : b ∈ S.map Prod.fst
    ·obtain ⟨j, q, hj, rfl⟩ := hin b hm
     obtain ⟨z, a, a1, a2, a3, a4⟩ := hA j q hj
     rcases a2 with ⟨t', w, rfl, w2⟩ | ⟨c, t', l', rfl, w2⟩
     ·rw [w2] at eb; cases eb
     ·rw [w2] at eb; cases eb
      rcases a4 with ⟨_, _, _, _, a4⟩ | ⟨c2, t2, l2, l3, rfl, a4⟩
      ·cases a4
      ·cases a4
       rcases a3 with ⟨_, _, a3, _⟩ | ⟨c3, t3, l4, a3, a5⟩
       ·cases a3
       ·exact hs.new _ _ _ _ _ a5
    ·rw [hB b hm] at eb
     exact hs.new b n cl t l eb
   ·exact ⟨by rw [p1]; exact (hs.len b c eb).1, Nat.lt_of_lt_of_le (hs.len b c eb).2 q3.lh⟩
   ·rw [p1]; exact hs.leno b n z eb
   ·rw [allN_mem hc.2 b hm] at hwb; cases hwb
   ·obtain ⟨q, _, hqc⟩ := Option.bind_eq_some_iff.1 ej
    exact hn _ hqc
 ·cases e
end Go.As
