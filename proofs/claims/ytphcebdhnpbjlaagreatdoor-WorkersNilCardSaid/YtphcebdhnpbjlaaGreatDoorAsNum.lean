/-
  AS: arithmetic of integers and strings.
-/
import Derived.Test.YtphcebdhnpbjlaaGreatDoorAsStore
import Derived.Laws.Closers25b
set_option linter.unusedSectionVars false
set_option linter.unusedSimpArgs false
set_option linter.unusedVariables false
namespace Go.As
open Go.RowKit (Below)
variable [Gh]

theorem ilt_eq (x y : Int) : ilt x y = decide (x < y) := by
  cases x with
  | ofNat a => cases y with
    | ofNat b => show Nat.blt a b = _; rw [Bool.eq_iff_iff, decide_eq_true_iff, Nat.blt_eq]; simp
    | negSucc b => show false = _; simp; omega
  | negSucc a => cases y with
    | ofNat b => show true = _; simp; omega
    | negSucc b => show Nat.blt b a = _; rw [Bool.eq_iff_iff, decide_eq_true_iff, Nat.blt_eq]; omega
theorem ile_eq (x y : Int) : ile x y = decide (x ≤ y) := by
  unfold ile; rw [ilt_eq, Bool.eq_iff_iff]; simp
theorem nbeq (a b : Nat) : Nat.beq a b = decide (a = b) := by
  rw [Bool.eq_iff_iff, decide_eq_true_iff, Nat.beq_eq]
theorem ieq_eq (x y : Int) : ieq x y = decide (x = y) := by
  cases x with
  | ofNat a => cases y with
    | ofNat b => show Nat.beq a b = _; rw [nbeq]; simp; exact Int.ofNat_inj.symm
    | negSucc b => show false = _; simp
  | negSucc a => cases y with
    | ofNat b => show false = _; simp
    | negSucc b => show Nat.beq a b = _; rw [nbeq]; simp
theorem umod_eq (n : Int) (m : Nat) (hm : 0 < m) : (umod n m : Int) = n % m := by
  cases n with
  | ofNat a => show ((a % m : Nat) : Int) = _; simp
  | negSucc a =>
    show ((m - 1 - a % m : Nat) : Int) = _
    have : a % m < m := Nat.mod_lt _ hm
    rw [Int.negSucc_emod _ (by omega)]
    omega
theorem umod_lt (n : Int) (m : Nat) (hm : 0 < m) : umod n m < m := by
  have h1 := umod_eq n m hm
  have h2 := Int.emod_lt_of_pos n (b := m) (by omega)
  omega
theorem sgn_eq (h m : Nat) (n : Int) (hm : 0 < m) : sgn h m n = if n % m ≥ h then n % m - m else n % m := by
  have h1 := umod_eq n m hm
  unfold sgn
  cases hb : Nat.blt (umod n m) h with
  | true =>
    rw [Nat.blt_eq] at hb
    rw [if_neg (by omega)]
    show ((umod n m : Nat) : Int) = _
    omega
  | false =>
    have hb' : ¬ umod n m < h := fun hh => by rw [← Nat.blt_eq, hb] at hh; cases hh
    rw [if_pos (by omega)]
    show ((umod n m : Nat) : Int) - (m : Int) = _
    omega
theorem wr_eq (k : IntKind) (n : Int) : wr k n = k.wrap n := by
  cases k <;> simp only [wr, IntKind.wrap, IntKind.bits, IntKind.signed, Bool.true_and, Bool.false_and]
  · rw [sgn_eq _ _ _ (by decide)]; simp
  · rw [sgn_eq _ _ _ (by decide)]; simp
  · rw [sgn_eq _ _ _ (by decide)]; simp
  · rw [sgn_eq _ _ _ (by decide)]; simp
  all_goals (show ((umod n _ : Nat) : Int) = _; rw [umod_eq _ _ (by decide)]; simp)
theorem kb_eq (k : IntKind) : kb k = k.bits := by cases k <;> rfl
theorem keq_iff {a b : IntKind} (h : keq a b = true) : a = b := by cases a <;> cases b <;> first | rfl | (revert h; decide)
theorem wr_in (k : IntKind) (n : Int) : inR k (wr k n) := by rw [wr_eq]; exact wrap_within k n

theorem word_eq (k : IntKind) (n : Int) : word k n = (BitVec.ofInt k.bits n).toNat := by
  have h := umod_eq n (2 ^ kb k) (Nat.pow_pos (by decide))
  rw [BitVec.toNat_ofInt, ← kb_eq]
  unfold word
  omega
theorem word_lt (k : IntKind) (n : Int) : word k n < 2 ^ kb k := umod_lt _ _ (Nat.pow_pos (by decide))

theorem in_min (k : IntKind) : k.min ≤ 0 ∧ 0 ≤ k.max := by cases k <;> decide
theorem tmod_in {k : IntKind} {x y : Int} (hx : inR k x) : inR k (x.tmod y) := by
  have hm := in_min k
  obtain ⟨h1, h2⟩ := hx
  unfold inR
  rcases Int.lt_or_le x 0 with h | h
  · have e : x = -(-x) := by omega
    have h3 : x.tmod y = -((-x).tmod y) := by rw [Int.neg_tmod]; omega
    have h4 : 0 ≤ (-x).tmod y := Int.tmod_nonneg _ (by omega)
    have h5 : (-x).tmod y ≤ -x := by
      have := Int.natAbs_tmod (-x) y
      have h6 : (-x).natAbs % y.natAbs ≤ (-x).natAbs := Nat.mod_le _ _
      omega
    omega
  · have h4 : 0 ≤ x.tmod y := Int.tmod_nonneg _ h
    have h5 : x.tmod y ≤ x := by
      have := Int.natAbs_tmod x y
      have h6 : x.natAbs % y.natAbs ≤ x.natAbs := Nat.mod_le _ _
      omega
    omega
theorem fdiv_in {k : IntKind} {x : Int} (hx : inR k x) (n : Nat) : inR k (x.fdiv (Int.ofNat (2 ^ n))) := by
  have hm := in_min k
  obtain ⟨h1, h2⟩ := hx
  have hp : (0 : Int) < Int.ofNat (2 ^ n) := by exact Int.ofNat_lt.2 (Nat.pow_pos (by decide))
  rw [Int.fdiv_eq_ediv_of_nonneg _ (by omega)]
  constructor
  · refine (Int.le_ediv_iff_mul_le hp).2 ?_
    have : k.min * Int.ofNat (2 ^ n) ≤ k.min * 1 := Int.mul_le_mul_of_nonpos_left (by omega) (by omega)
    omega
  · rcases Int.lt_or_le x 0 with h | h
    · have : x / Int.ofNat (2 ^ n) ≤ 0 := Int.le_of_lt (Int.ediv_neg_of_neg_of_pos h hp)
      omega
    · have := Int.ediv_le_self (Int.ofNat (2 ^ n)) h
      omega

section
variable {P : Program} {w : World}

/-- A step that leaves memory alone and yields a datum without memory. -/
def Puts (P : Program) (w : World) (m : Sem Value) (v : V) : Prop := ∃ d x, v = .im d ∧ m.run P w = .ok x w ∧ ∀ C, REL C d true [x]
theorem im_some {k : IntKind} {n : Int} {v : V} (e : im k n = some v) : v = .im (.int k n) := (Option.some.inj e).symm
theorem bm_some {b : Bool} {v : V} (e : bm b = some v) : v = .im (.bool b) := (Option.some.inj e).symm
theorem Puts.int {m : Sem Value} {k : IntKind} {n n' : Int} {v : V} (e : im k n = some v) (hm : m.run P w = .ok (.int k n') w) (hn : n' = n) (hi : inR k n) : Puts P w m v :=
  ⟨_, _, im_some e, hm, fun C => by subst hn; simp only [REL]; exact ⟨trivial, hi⟩⟩
theorem Puts.bool {m : Sem Value} {b b' : Bool} {v : V} (e : bm b = some v) (hm : m.run P w = .ok (.bool b') w) (hn : b' = b) : Puts P w m v :=
  ⟨_, _, bm_some e, hm, fun C => by subst hn; simp only [REL]⟩

theorem binOp_int (op : BinOp) (t : TypeId) (k : IntKind) (a : Int) (k' : IntKind) (b : Int) (h1 : op ≠ .shl) (h2 : op ≠ .shr) : binOp op t (.int k a) (.int k' b) =
    (if k ≠ k' then stuck "BinOp: operands of different kinds" else
    match op with
    | .add | .sub | .mul => Op.intArith op k a b
    | .quo | .rem => Op.intDiv op k a b
    | .and | .or | .xor | .andNot => Op.intBits op k a b
    | _ => Op.intCmp op a b) := by cases op <;> first | rfl | exact absurd rfl h1 | exact absurd rfl h2

theorem intArith_sound {op : BinOp} {k : IntKind} {a b : Int} {v : V} (e : intArith op k a b = some v) (ha : inR k a) (t : TypeId) (k' : IntKind) (hk : op = .shl ∨ op = .shr ∨ k = k') :
    Puts P w (binOp op t (.int k a) (.int k' b)) v := by
  cases op <;> simp only [intArith] at e
  case add => rcases hk with h | h | rfl; cases h; cases h; exact .int e (by simp [binOp_int, Op.intArith]) (wr_eq _ _).symm (wr_in _ _)
  case sub => rcases hk with h | h | rfl; cases h; cases h; exact .int e (by simp [binOp_int, Op.intArith]) (wr_eq _ _).symm (wr_in _ _)
  case mul => rcases hk with h | h | rfl; cases h; cases h; exact .int e (by simp [binOp_int, Op.intArith]) (wr_eq _ _).symm (wr_in _ _)
  case quo =>
    rcases hk with h | h | rfl; cases h; cases h
    rw [ieq_eq] at e
    cases hb : decide (b = 0) <;> rw [hb] at e
    · rw [decide_eq_false_iff_not] at hb
      exact .int e (by simp [binOp_int, Op.intDiv, hb]) (wr_eq _ _).symm (wr_in _ _)
    · cases e
  case rem =>
    rcases hk with h | h | rfl; cases h; cases h
    rw [ieq_eq] at e
    cases hb : decide (b = 0) <;> rw [hb] at e
    · rw [decide_eq_false_iff_not] at hb
      exact .int e (by simp [binOp_int, Op.intDiv, hb]) rfl (tmod_in ha)
    · cases e
  case and =>
    rcases hk with h | h | rfl; cases h; cases h
    refine .int e (n' := k.wrap (BitVec.ofInt k.bits a &&& BitVec.ofInt k.bits b).toNat) (by simp [binOp_int, Op.intBits]) ?_ (wr_in _ _)
    rw [wr_eq, word_eq, word_eq, BitVec.toNat_and]; rfl
  case or =>
    rcases hk with h | h | rfl; cases h; cases h
    refine .int e (n' := k.wrap (BitVec.ofInt k.bits a ||| BitVec.ofInt k.bits b).toNat) (by simp [binOp_int, Op.intBits]) ?_ (wr_in _ _)
    rw [wr_eq, word_eq, word_eq, BitVec.toNat_or]; rfl
  case xor =>
    rcases hk with h | h | rfl; cases h; cases h
    refine .int e (n' := k.wrap (BitVec.ofInt k.bits a ^^^ BitVec.ofInt k.bits b).toNat) (by simp [binOp_int, Op.intBits]) ?_ (wr_in _ _)
    rw [wr_eq, word_eq, word_eq, BitVec.toNat_xor]; rfl
  case andNot =>
    rcases hk with h | h | rfl; cases h; cases h
    refine .int e (n' := k.wrap (BitVec.ofInt k.bits a &&& ~~~BitVec.ofInt k.bits b).toNat) (by simp [binOp_int, Op.intBits]) ?_ (wr_in _ _)
    rw [wr_eq, word_eq, word_eq, BitVec.toNat_and, BitVec.toNat_not, kb_eq]; rfl
  case eql => rcases hk with h | h | rfl; cases h; cases h; exact .bool e (by simp [binOp_int, Op.intCmp]; rfl) (by rw [ieq_eq]; rfl)
  case neq => rcases hk with h | h | rfl; cases h; cases h; exact .bool e (by simp [binOp_int, Op.intCmp]; rfl) (by rw [ieq_eq]; rfl)
  case lss => rcases hk with h | h | rfl; cases h; cases h; exact .bool e (by simp [binOp_int, Op.intCmp]; rfl) (by rw [ilt_eq])
  case leq => rcases hk with h | h | rfl; cases h; cases h; exact .bool e (by simp [binOp_int, Op.intCmp]; rfl) (by rw [ile_eq])
  case gtr => rcases hk with h | h | rfl; cases h; cases h; exact .bool e (by simp [binOp_int, Op.intCmp]; rfl) (by rw [ilt_eq])
  case geq => rcases hk with h | h | rfl; cases h; cases h; exact .bool e (by simp [binOp_int, Op.intCmp]; rfl) (by rw [ile_eq])
  case shl =>
    rw [ilt_eq] at e
    cases hb : decide (b < 0) <;> rw [hb] at e
    · rw [decide_eq_false_iff_not] at hb
      refine .int e (n' := k.wrap (a * 2 ^ (min b.toNat k.bits))) (by simp [binOp, Op.shift, hb]) ?_ (wr_in _ _)
      rw [wr_eq, kb_eq]; simp [Nat.min_def]
    · cases e
  case shr =>
    rw [ilt_eq] at e
    cases hb : decide (b < 0) <;> rw [hb] at e
    · rw [decide_eq_false_iff_not] at hb
      refine .int e (n' := a.fdiv (2 ^ (min b.toNat k.bits))) (by simp [binOp, Op.shift, hb]) ?_ (fdiv_in ha _)
      rw [kb_eq]; simp [Nat.min_def]
    · cases e

theorem intBin_sound {op : BinOp} {k k' : IntKind} {a b : Int} {v : V} (e : intBin op k a k' b = some v) (ha : inR k a) (t : TypeId) : Puts P w (binOp op t (.int k a) (.int k' b)) v := by
  unfold intBin at e
  split at e
  · exact intArith_sound e ha t k' (.inl rfl)
  · exact intArith_sound e ha t k' (.inr (.inl rfl))
  · cases hb : keq k k' <;> rw [hb] at e
    · cases e
    · exact intArith_sound e ha t k' (.inr (.inr (keq_iff hb)))

theorem ofInt_ones (k : IntKind) : BitVec.ofInt k.bits (if k.signed then -1 else k.max) = BitVec.allOnes k.bits := by cases k <;> rfl
theorem unV_sound {op : UnOp} {X : Cx} {x : V} {v : V} (e : unV op x = some v) {xv : Value} (r : VREL X x true [xv]) : Puts P w (Op.unary op xv) v := by
  unfold unV at e
  split at e
  · simp only [VREL, REL] at r; cases r
    exact .bool e rfl rfl
  · simp only [VREL, REL] at r; obtain ⟨r, _⟩ := r; cases r
    rename_i k n h0
    exact .int e (n' := k.wrap (0 - n)) (by simp [Op.unary, Op.intArith]) (wr_eq _ _).symm (wr_in _ _)
  · simp only [VREL, REL] at r; obtain ⟨r, _⟩ := r; cases r
    rename_i k n h0
    refine .int e (n' := k.wrap (BitVec.ofInt k.bits (if k.signed then -1 else k.max) ^^^ BitVec.ofInt k.bits n).toNat) rfl ?_ (wr_in _ _)
    rw [wr_eq, ofInt_ones, word_eq, BitVec.allOnes_xor, BitVec.toNat_not, kb_eq]; rfl
  · cases e

/-! ### strings -/
theorem seq_iff {x y : List Nat} : seq x y = true ↔ x = y := by
  induction x generalizing y with
  | nil => cases y <;> simp [seq]
  | cons a x ih =>
    cases y with
    | nil => simp [seq]
    | cons b y =>
      show (bif Nat.beq a b then seq x y else false) = true ↔ _
      rw [nbeq]
      cases hab : decide (a = b) <;> simp_all
theorem bytesL_inj {a b : ByteArray} (h : bytesL a = bytesL b) : a = b := by
  have h1 : ∀ {x y : List UInt8}, x.map UInt8.toNat = y.map UInt8.toNat → x = y := by
    intro x
    induction x with
    | nil => intro y h; cases y <;> simp_all
    | cons c x ih => intro y h; cases y with
      | nil => simp at h
      | cons d y => simp only [List.map_cons, List.cons.injEq] at h; rw [UInt8.toNat_inj.1 h.1, ih h.2]
  have h2 := Array.toList_inj.1 (h1 h)
  cases a; cases b; cases h2; rfl
theorem toList_eq (b : ByteArray) : b.toList = b.data.toList := ByteArray.toList_eq b
theorem bytesL_len (b : ByteArray) : (bytesL b).length = b.size := by unfold bytesL; rw [List.length_map, Array.length_toList]; rfl
theorem slt_eq {x y : List UInt8} : slt (x.map UInt8.toNat) (y.map UInt8.toNat) = Op.bytesLess x y := by
  induction x generalizing y with
  | nil => cases y <;> rfl
  | cons a x ih =>
    cases y with
    | nil => rfl
    | cons b y =>
      show (bif Nat.blt a.toNat b.toNat then true else bif Nat.beq a.toNat b.toNat then slt (x.map UInt8.toNat) (y.map UInt8.toNat) else false) = (decide (a < b) || (a == b && Op.bytesLess x y))
      rw [ih]
      have h1 : Nat.blt a.toNat b.toNat = decide (a < b) := by rw [Bool.eq_iff_iff, Nat.blt_eq, decide_eq_true_iff, UInt8.lt_iff_toNat_lt]
      have h2 : Nat.beq a.toNat b.toNat = (a == b) := by rw [Bool.eq_iff_iff, Nat.beq_eq, beq_iff_eq, UInt8.toNat_inj]
      rw [h1, h2]
      cases decide (a < b) <;> cases (a == b) <;> simp
theorem strOp_sound {op : BinOp} {x y : ByteArray} {v : V} (e : strOp op (bytesL x) (bytesL y) = some v) (t : TypeId) : Puts P w (binOp op t (.string x) (.string y)) v := by
  have hs : seq (bytesL x) (bytesL y) = (x.toList == y.toList) := by
    rw [Bool.eq_iff_iff, seq_iff, beq_iff_eq, toList_eq, toList_eq]
    constructor
    · intro h; rw [bytesL_inj h]
    · intro h; unfold bytesL; rw [h]
  have hl : slt (bytesL x) (bytesL y) = Op.bytesLess x.toList y.toList := by rw [toList_eq, toList_eq]; exact slt_eq
  cases op <;> simp only [strOp] at e
  case add =>
    rw [llen_eq, llen_eq, bytesL_len, bytesL_len] at e
    obtain ⟨h1, e⟩ := bif_some e
    have h1 := ble_of h1
    cases e
    refine ⟨_, .string (x ++ y), rfl, ?_, fun C => ?_⟩
    · have : ¬ ((x.size + y.size : Nat) : Int) > IntKind.i64.max := by
        have : IntKind.i64.max = 9223372036854775807 := by decide
        omega
      simp only [binOp, Op.stringOp, if_neg this]; rfl
    · simp only [REL]
      exact ⟨_, rfl, by unfold bytesL; rw [ByteArray.data_append, Array.toList_append, List.map_append], by simp only [ByteArray.size_append, LMX]; omega⟩
  case eql => exact .bool e (by simp only [binOp, Op.stringOp]; rfl) hs.symm
  case neq => exact .bool e (by simp only [binOp, Op.stringOp]; rfl) (by rw [hs])
  case lss => exact .bool e (by simp only [binOp, Op.stringOp]; rfl) hl.symm
  case leq => exact .bool e (by simp only [binOp, Op.stringOp]; rfl) (by rw [hs, hl])
  case gtr => exact .bool e (by simp only [binOp, Op.stringOp]; rfl) (by rw [hs, hl])
  case geq => exact .bool e (by simp only [binOp, Op.stringOp]; rfl) (by rw [hl])
  all_goals cases e
end
end Go.As
