/-
  AS: an abstract evaluator of the model's Code over a memory without capacities and draws. This file holds the definitions alone. What the kernel has to run fast is written by recursors.
-/
import Derived.RangeFuncIn
set_option linter.unusedSectionVars false
set_option linter.unusedSimpArgs false
set_option linter.unusedVariables false
namespace Go.As
noncomputable section

/-- Immutable data. A string is the list of its bytes. -/
inductive D where
  | bool (b : Bool)
  | int (k : IntKind) (n : Int)
  | str (s : List Nat)
  | nil
  | ref (d : D)
  | slc (l : List D)
  | agg (w : Nat) (l : List D)
  | tup (l : List D)
  | fn (f : Nat)
  | nfn
  | ifc (t : Nat) (d : D)
  | inil
  | mnil
  deriving Inhabited

/-- The number of cells of a datum in memory. -/
def D.wd : D → Nat
  | .agg w _ => w
  | _ => 1

/-- Abstract values: data, or what lies in memory of the running call. -/
inductive V where
  | undef
  | im (d : D)
  | agg (w : Nat) (l : List V)
  | tup (l : List V)
  | own (b g off len : Nat) (lim : Bool)
  | full (l : List D)
  | ptr (b g : Nat) (p : List (Nat × Nat))
  | fn (f : Nat) (first captured : List V)
  | ifc (t : Nat) (v : V)
  | mp (b : Nat)
  | yld (i : Nat)
  deriving Inhabited

def V.wd : V → Nat
  | .im d => d.wd
  | .agg w _ => w
  | _ => 1

/-! ### slots -/
inductive Tm where
  | e
  | n (v : V) (l r : Tm)
  deriving Inhabited

/-- Blocks of the running call: a variable, or an array of elements of s cells each whose first ro are shared. -/
inductive Blk where
  | cell (v : V)
  | arr (g s ro : Nat) (l : List D)
  | mp (es : List (D × V))
  | arv (g s : Nat) (l : List V)
  | bld (t e : Nat) (s : List Nat)
  | lp (f : Nat) (t : Tm) (ps : List Nat) (asg body : Code)
  deriving Inhabited

abbrev Heap := List (Option Blk)

def Tm.get (t : Tm) : Nat → V :=
  Tm.rec (fun _ => V.undef) (fun v _ _ gl gr i => Bool.rec (Bool.rec (gr (Nat.sub (Nat.div i 2) 1)) (gl (Nat.div i 2)) (Nat.beq (Nat.mod i 2) 1)) v (Nat.beq i 0)) t
def Tm.set (t : Tm) : Nat → V → Tm :=
  Tm.rec (fun _ _ => Tm.e) (fun v l r sl sr i x => Bool.rec (Bool.rec (Tm.n v l (sr (Nat.sub (Nat.div i 2) 1) x)) (Tm.n v (sl (Nat.div i 2) x) r) (Nat.beq (Nat.mod i 2) 1)) (Tm.n x l r) (Nat.beq i 0)) t
def Tm.mk (d : Nat) : Tm := Nat.rec Tm.e (fun _ t => Tm.n .undef t t) d

/-- A range over a function that runs: the frame's slots when it began, and what a round does. sta: 0 ready, 1 in a round, 2 left. -/
structure Rec where
  f : Nat
  t : Tm
  ps : List Nat
  asg : Code
  body : Code
  sta : Nat
  pend : Option Code
  deriving Inhabited

structure St where
  t : Tm
  h : Heap
  lp : List Rec
  df : List (Nat × List V)
  deriving Inhabited

inductive TK where
  | bool | int (k : IntKind) | str | ptr | slc (e : Nat) | arr (n e : Nat) | st (fs : List (Nat × Nat × Nat)) | fn | ifc (named : Bool) | map (k e : Nat) | oth
  deriving Inhabited

structure TI where
  k : TK
  size : Nat
  bytes : Nat
  zero : V
  deriving Inhabited

/-- Tables. -/
inductive Tb (α : Type) where
  | e
  | n (k : Nat) (v : α) (l r : Tb α)
def Tb.find {α : Type} (t : Tb α) (i : Nat) : Option α :=
  Tb.rec none (fun k v _ _ fl fr => bif Nat.beq i k then some v else bif Nat.blt i k then fl else fr) t

structure Env where
  ty : Nat → Option TI
  fn : Nat → Option Func
  sm : Nat → Option (List D → Option D)
  clone : Nat → Option Nat
  ext : Nat → Nat
  meth : Nat → String → Option Nat
  inl : Nat → Bool
  keep : Nat → Bool
  dr : Nat → Nat → Option (List (Nat × List Nat))
  bty : Nat × Nat

inductive Ex where
  | nm | exit (id : Nat) | ret
  deriving Inhabited, DecidableEq

/-! ### lists -/
def lget {α : Type} (l : List α) : Nat → Option α :=
  List.rec (fun _ => none) (fun b _ ih i => match i with | 0 => some b | j + 1 => ih j) l
def lset {α : Type} (l : List α) : Nat → α → List α :=
  List.rec (fun _ _ => []) (fun b r ih i x => match i with | 0 => x :: r | j + 1 => b :: ih j x) l
/-- The block with the number b; what lies behind the last is put there. -/
def hput (l : Heap) : Nat → Blk → Heap :=
  List.rec (fun _ x => [some x]) (fun b r ih i x => match i with | 0 => some x :: r | j + 1 => b :: ih j x) l
def hget (h : Heap) (b : Nat) : Option Blk := Option.rec none (fun x => x) (lget h b)
def llen {α : Type} (l : List α) : Nat := List.rec 0 (fun _ _ n => n + 1) l
def wdsTo (l : List V) : Nat → Nat :=
  List.rec (fun _ => 0) (fun v _ ih i => match i with | 0 => 0 | j + 1 => v.wd + ih j) l
def wdsToD (l : List D) : Nat → Nat :=
  List.rec (fun _ => 0) (fun v _ ih i => match i with | 0 => 0 | j + 1 => v.wd + ih j) l
def imap (l : List D) : List V := List.rec [] (fun d _ ih => V.im d :: ih) l

/-! ### aggregates -/
def allIm (l : List V) : Option (List D) :=
  List.rec (some []) (fun v _ ih => match v with
    | .im d => Option.rec none (fun ds => some (d :: ds)) ih
    | _ => none) l
def mkAgg (w : Nat) (l : List V) : V := Option.rec (V.agg w l) (fun ds => V.im (.agg w ds)) (allIm l)
def mkTup (l : List V) : V := Option.rec (V.tup l) (fun ds => V.im (.tup ds)) (allIm l)
def V.kids : V → Option (List V)
  | .im (.agg _ l) => some (imap l)
  | .agg _ l => some l
  | _ => none
def V.part (v : V) (i : Nat) : Option V :=
  match v with
  | .im (.tup l) => (lget l i).map .im
  | .tup l => lget l i
  | _ => none
/-- The child at k, that lies o cells behind the head. -/
def V.kid (v : V) (k o : Nat) : Option V :=
  match v with
  | .im (.agg _ l) => bif Nat.beq (wdsToD l k) o then (lget l k).map .im else none
  | .agg _ l => bif Nat.beq (wdsTo l k) o then lget l k else none
  | _ => none
def V.nav (v : V) (p : List (Nat × Nat)) : Option V :=
  List.rec (fun v => some v) (fun s _ ih v => (V.kid v s.1 s.2).bind ih) p v
def V.put (x : V) (p : List (Nat × Nat)) (v : V) : Option V :=
  List.rec (fun v => bif Nat.beq x.wd v.wd then some x else none) (fun s _ ih v =>
    v.kids.bind fun l => bif Nat.beq (wdsTo l s.1) s.2 then (lget l s.1).bind fun c => (ih c).map fun c' => mkAgg v.wd (lset l s.1 c') else none) p v

/-! ### from values to data -/
def cutAll {α : Type} (l : List α) (off len : Nat) : List α := bif Nat.beq off 0 && Nat.beq len (llen l) then l else (l.drop off).take len
def cutOk {α : Type} (g g' off len : Nat) (l : List α) : Bool := Nat.beq g g' && Nat.ble (off + len) (llen l)
mutual
/-- o: the elements of a slice of the call's own. -/
def V.dataR (o : Nat → Nat → Nat → Nat → Option (List D)) : V → Option D
  | .im d => some d
  | .full l => some (.slc l)
  | .own b g off len _ => (o b g off len).map .slc
  | .agg w l => (V.dataRs o l).map (.agg w)
  | .tup l => (V.dataRs o l).map .tup
  | .fn f [] [] => some (.fn f)
  | .ifc t v => (v.dataR o).map (.ifc t)
  | _ => none
def V.dataRs (o : Nat → Nat → Nat → Nat → Option (List D)) : List V → Option (List D)
  | [] => some []
  | v :: l => match v.dataR o, V.dataRs o l with
    | some d, some ds => some (d :: ds)
    | _, _ => none
end
def ownElemsN (h : Heap) (n : Nat) : Nat → Nat → Nat → Nat → Option (List D) :=
  Nat.rec (fun _ _ _ _ => none) (fun _ ih b g off len => match hget h b with
    | some (.arr g' _ _ l) => bif cutOk g g' off len l then some (cutAll l off len) else none
    | some (.arv g' _ l) => bif cutOk g g' off len l then V.dataRs ih (cutAll l off len) else none
    | _ => none) n
def ownElems (h : Heap) (b g off len : Nat) : Option (List D) := ownElemsN h 4 b g off len
def V.data (h : Heap) (v : V) : Option D :=
  match v with
  | .im d => some d
  | .own b g off len _ => (ownElems h b g off len).map .slc
  | v => v.dataR (ownElems h)
mutual
def V.ownsR : V → List Nat
  | .own b _ _ _ _ => [b]
  | .agg _ l => V.ownsRs l
  | .tup l => V.ownsRs l
  | .ifc _ v => v.ownsR
  | _ => []
def V.ownsRs : List V → List Nat
  | [] => []
  | v :: l => v.ownsR ++ V.ownsRs l
end
def V.owns (v : V) : List Nat :=
  match v with
  | .im _ => []
  | .own b _ _ _ _ => [b]
  | v => v.ownsR
def V.ownsL (l : List V) : List Nat := List.rec [] (fun v _ ih => match v with | .im _ => ih | v => v.owns ++ ih) l
/-- Arrays of data alone. -/
def allArr (h : Heap) (bs : List Nat) : Bool := List.rec true (fun b _ ih => match hget h b with | some (.arr ..) => ih | _ => false) bs
/-- The blocks b.. are shared from now on: no store any more into what they hold now. -/
def close (h : Heap) (bs : List Nat) : Heap :=
  List.rec (fun h => h) (fun b _ ih h => match hget h b with
    | some (.arr g s _ l) => ih (hput h b (.arr g s (llen l) l))
    | _ => ih h) bs h
mutual
/-- No memory behind it. -/
def D.flat : D → Bool
  | .bool _ | .int _ _ | .str _ | .nil | .fn _ | .nfn | .inil | .mnil => true
  | .agg _ l => D.flats l
  | .tup l => D.flats l
  | .ifc _ d => d.flat
  | .ref _ | .slc _ => false
def D.flats : List D → Bool
  | [] => true
  | d :: l => d.flat && D.flats l
end
mutual
/-- The blocks that it names. -/
def V.refsR : V → List Nat
  | .undef | .im _ | .full _ => []
  | .agg _ l | .tup l => V.refsRs l
  | .own b _ _ _ _ => [b]
  | .ptr b _ _ => [b]
  | .fn _ a c => V.refsRs a ++ V.refsRs c
  | .ifc _ v => v.refsR
  | .mp b => [b]
  | .yld b => [b]
def V.refsRs : List V → List Nat
  | [] => []
  | v :: l => v.refsR ++ V.refsRs l
end
def V.refs (v : V) : List Nat :=
  match v with
  | .undef | .im _ | .full _ => []
  | .own b _ _ _ _ => [b]
  | .ptr b _ _ => [b]
  | v => v.refsR
mutual
/-- Other numbers for its blocks. -/
def V.renR (f : Nat → Option Nat) : V → Option V
  | .undef => some .undef
  | .im d => some (.im d)
  | .full l => some (.full l)
  | .agg w l => (V.renRs f l).map (.agg w)
  | .tup l => (V.renRs f l).map .tup
  | .own b g o n m => (f b).map fun b' => .own b' g o n m
  | .ptr b g p => (f b).map fun b' => .ptr b' g p
  | .fn k a c => match V.renRs f a, V.renRs f c with
    | some a', some c' => some (.fn k a' c')
    | _, _ => none
  | .ifc t v => (v.renR f).map (.ifc t)
  | .mp b => (f b).map .mp
  | .yld b => (f b).map .yld
def V.renRs (f : Nat → Option Nat) : List V → Option (List V)
  | [] => some []
  | v :: l => match v.renR f, V.renRs f l with
    | some v', some l' => some (v' :: l')
    | _, _ => none
end
def V.ren (f : Nat → Option Nat) (v : V) : Option V :=
  match v with
  | .undef => some .undef
  | .im d => some (.im d)
  | .own b g o n m => (f b).map fun b' => .own b' g o n m
  | .ptr b g p => (f b).map fun b' => .ptr b' g p
  | v => v.renR f
mutual
/-- Every empty slice of no capacity becomes an array of the call's own, numbered from k on. -/
def V.growR (k : Nat) : V → V × Nat
  | .full [] => (.own k 0 0 0 false, k + 1)
  | .agg w l => let (l', k') := V.growRs k l; (.agg w l', k')
  | .tup l => let (l', k') := V.growRs k l; (.tup l', k')
  | v => (v, k)
def V.growRs (k : Nat) : List V → List V × Nat
  | [] => ([], k)
  | v :: l => let (v', k') := V.growR k v; let (l', k'') := V.growRs k' l; (v' :: l', k'')
end
def V.grow (k : Nat) (v : V) : V × Nat :=
  match v with
  | .full [] => (.own k 0 0 0 false, k + 1)
  | .agg w l => V.growR k (.agg w l)
  | .tup l => V.growR k (.tup l)
  | v => (v, k)
def growL (l : List V) : Nat → List V × Nat :=
  List.rec (fun k => ([], k)) (fun v _ ih k => match V.grow k v with | (v', k') => match ih k' with | (l', k'') => (v' :: l', k'')) l
def growE (l : List (D × V)) : Nat → List (D × V) × Nat :=
  List.rec (fun k => ([], k)) (fun e _ ih k => match V.grow k e.2 with | (v', k') => match ih k' with | (l', k'') => ((e.1, v') :: l', k'')) l
def growH (h : Heap) : Nat → Heap × Nat :=
  List.rec (fun k => ([], k)) (fun b _ ih k => match b with
    | some (.cell v) => (match V.grow k v with | (v', k') => match ih k' with | (l', k'') => (some (.cell v') :: l', k''))
    | some (.mp es) => (match growE es k with | (es', k') => match ih k' with | (l', k'') => (some (.mp es') :: l', k''))
    | some (.arv g s vs) => (match growL vs k with | (vs', k') => match ih k' with | (l', k'') => (some (.arv g s vs') :: l', k''))
    | b => match ih k with | (l', k'') => (b :: l', k'')) h
def renL (f : Nat → Option Nat) (l : List V) : Option (List V) :=
  List.rec (some []) (fun v _ ih => match V.ren f v with | some v' => Option.rec none (fun l' => some (v' :: l')) ih | none => none) l
def renE (f : Nat → Option Nat) (l : List (D × V)) : Option (List (D × V)) :=
  List.rec (some []) (fun e _ ih => match V.ren f e.2 with | some v' => Option.rec none (fun l' => some ((e.1, v') :: l')) ih | none => none) l
def Blk.ren (f : Nat → Option Nat) (b : Option Blk) : Option (Option Blk) :=
  match b with
  | some (.cell v) => (v.ren f).map fun v' => some (.cell v')
  | some (.mp es) => (renE f es).map fun es' => some (.mp es')
  | some (.arv g s l) => (renL f l).map fun l' => some (.arv g s l')
  | b => some b
def renH (f : Nat → Option Nat) (h : Heap) : Option Heap :=
  List.rec (some []) (fun b _ ih => match Blk.ren f b with | some b' => Option.rec none (fun l' => some (b' :: l')) ih | none => none) h
def Tm.refs (t : Tm) : List Nat := Tm.rec [] (fun v _ _ a b => V.refs v ++ (a ++ b)) t
def refsL (l : List V) : List Nat := List.rec [] (fun v _ ih => match V.refs v with | [] => ih | r => r ++ ih) l
def refsE (l : List (D × V)) : List Nat := List.rec [] (fun e _ ih => match V.refs e.2 with | [] => ih | r => r ++ ih) l
def heapRefs (h : Heap) : List Nat := List.rec [] (fun b _ ih => match b with | some (.cell v) => V.refs v ++ ih | some (.mp es) => refsE es ++ ih | some (.arv _ _ l) => refsL l ++ ih | some (.lp _ t _ _ _) => Tm.refs t ++ ih | _ => ih) h
def hasN (l : List Nat) (b : Nat) : Bool := List.rec false (fun a _ ih => bif Nat.beq a b then true else ih) l
def addNew (fb : Nat) (l : List Nat) : List Nat → List Nat :=
  List.rec (fun acc => acc) (fun b _ ih acc => ih (bif Nat.blt b fb then acc else bif hasN acc b then acc else acc ++ [b])) l
def reachIn (h : Heap) (fb n : Nat) : List Nat → List Nat :=
  Nat.rec (fun acc => acc) (fun _ ih acc => match addNew fb (heapRefs (acc.map fun b => hget h b)) acc with
    | acc' => bif Nat.beq (llen acc') (llen acc) then acc else ih acc') n
def indexIn (l : List Nat) (b : Nat) : Option Nat := List.rec none (fun a _ ih => bif Nat.beq a b then some 0 else ih.map (· + 1)) l

/-! ### operations -/
def ofVal : Value → Option V
  | .bool b => some (.im (.bool b))
  | .int k n => some (.im (.int k n))
  | .string s => some (.im (.str (s.data.toList.map UInt8.toNat)))
  | .pointer none => some (.im .nil)
  | .slice none 0 0 => some (.full [])
  | .nilFunc => some (.im .nfn)
  | .nilIface => some (.im .inil)
  | .map none => some (.im .mnil)
  | _ => none
def ev (t : Tm) : Operand → V
  | .tmp n => t.get n
  | .const v => Option.rec V.undef (fun x => x) (ofVal v)
  | .func f => .fn f [] []
  | .global _ => .undef
def evs (t : Tm) (l : Array Operand) : List V := List.rec [] (fun o _ ih => ev t o :: ih) l.toList

/-! Arithmetic that the kernel reckons fast. -/
def ilt (x y : Int) : Bool :=
  Int.rec (fun a => Int.rec (fun b => Nat.blt a b) (fun _ => false) y) (fun a => Int.rec (fun _ => true) (fun b => Nat.blt b a) y) x
def ile (a b : Int) : Bool := not (ilt b a)
def ieq (x y : Int) : Bool :=
  Int.rec (fun a => Int.rec (fun b => Nat.beq a b) (fun _ => false) y) (fun a => Int.rec (fun _ => false) (fun b => Nat.beq a b) y) x
def umod (n : Int) (m : Nat) : Nat := Int.rec (fun a => a % m) (fun a => m - 1 - a % m) n
def sgn (h m : Nat) (n : Int) : Int := bif Nat.blt (umod n m) h then Int.ofNat (umod n m) else Int.ofNat (umod n m) - Int.ofNat m
def wr (k : IntKind) (n : Int) : Int :=
  IntKind.rec (sgn 128 256 n) (sgn 32768 65536 n) (sgn 2147483648 4294967296 n) (sgn 9223372036854775808 18446744073709551616 n)
    (Int.ofNat (umod n 256)) (Int.ofNat (umod n 65536)) (Int.ofNat (umod n 4294967296)) (Int.ofNat (umod n 18446744073709551616)) k
def kb (k : IntKind) : Nat := IntKind.rec 8 16 32 64 8 16 32 64 k
def keq (a b : IntKind) : Bool := Nat.beq (kn a) (kn b)
where kn (k : IntKind) : Nat := IntKind.rec 0 1 2 3 4 5 6 7 k
def word (k : IntKind) (n : Int) : Nat := umod n (2 ^ kb k)
def im (k : IntKind) (n : Int) : Option V := some (.im (.int k n))
def bm (b : Bool) : Option V := some (.im (.bool b))

def intArith (op : BinOp) (k : IntKind) (x y : Int) : Option V :=
  match op with
  | .add => im k (wr k (x + y))
  | .sub => im k (wr k (x - y))
  | .mul => im k (wr k (x * y))
  | .quo => bif ieq y 0 then none else im k (wr k (x.tdiv y))
  | .rem => bif ieq y 0 then none else im k (x.tmod y)
  | .and => im k (wr k (Int.ofNat (Nat.land (word k x) (word k y))))
  | .or => im k (wr k (Int.ofNat (Nat.lor (word k x) (word k y))))
  | .xor => im k (wr k (Int.ofNat (Nat.xor (word k x) (word k y))))
  | .andNot => im k (wr k (Int.ofNat (Nat.land (word k x) (2 ^ kb k - 1 - word k y))))
  | .eql => bm (ieq x y)
  | .neq => bm (not (ieq x y))
  | .lss => bm (ilt x y)
  | .leq => bm (ile x y)
  | .gtr => bm (ilt y x)
  | .geq => bm (ile y x)
  | .shl => bif ilt y 0 then none else im k (wr k (x * Int.ofNat (2 ^ Nat.min y.toNat (kb k))))
  | .shr => bif ilt y 0 then none else im k (x.fdiv (Int.ofNat (2 ^ Nat.min y.toNat (kb k))))

def seq (x y : List Nat) : Bool :=
  List.rec (fun y => match y with | [] => true | _ :: _ => false) (fun a _ ih y => match y with | [] => false | b :: r => bif Nat.beq a b then ih r else false) x y
def slt (x y : List Nat) : Bool :=
  List.rec (fun y => match y with | [] => false | _ :: _ => true) (fun a _ ih y => match y with | [] => false | b :: r => bif Nat.blt a b then true else bif Nat.beq a b then ih r else false) x y
def strOp (op : BinOp) (x y : List Nat) : Option V :=
  match op with
  | .add => bif Nat.ble (llen x + llen y) 4611686018427387904 then some (.im (.str (x ++ y))) else none
  | .eql => bm (seq x y)
  | .neq => bm (not (seq x y))
  | .lss => bm (slt x y)
  | .leq => bm (or (slt x y) (seq x y))
  | .gtr => bm (not (or (slt x y) (seq x y)))
  | .geq => bm (not (slt x y))
  | _ => none

def okAgg (k : TK) (v : V) : Bool :=
  match v with
  | .im d => okD k d
  | .agg _ _ => isA k
  | .tup _ | .undef => false
  | _ => not (isA k)
where
  isA (k : TK) : Bool := match k with | .st _ | .arr _ _ => true | _ => false
  okD (k : TK) (d : D) : Bool := match d with | .agg _ _ => isA k | .tup _ => false | _ => not (isA k)
def okV (ti : TI) (v : V) : Bool := Nat.beq v.wd ti.size && okAgg ti.k v

/-- Equality of data of a comparable type. -/
def eqT (E : Env) : Nat → Nat → D → D → Option Bool
  | 0, _, _, _ => none
  | n + 1, t, x, y => (E.ty t).bind fun ti => bif okV ti (.im x) && okV ti (.im y) then
    (match ti.k, x, y with
    | .bool, .bool a, .bool b => some (a == b)
    | .int _, .int k a, .int k' b => bif keq k k' then some (ieq a b) else none
    | .str, .str a, .str b => some (seq a b)
    | .st fs, .agg _ xs, .agg _ ys => eqFs fs 0 xs ys (eqT E n)
    | .arr m e, .agg _ xs, .agg _ ys => (E.ty e).bind fun _ => bif Nat.beq (llen xs) m && Nat.beq (llen ys) m then eqEs xs ys (eqT E n e) else none
    | _, _, _ => none) else none
where
  eqFs : List (Nat × Nat × Nat) → Nat → List D → List D → (Nat → D → D → Option Bool) → Option Bool
    | [], _, [], [], _ => some true
    | (off, _, t) :: fs, o, x :: xs, y :: ys, f => bif Nat.beq off o then (match f t x y, eqFs fs (o + x.wd) xs ys f with
      | some b, some c => some (b && c)
      | _, _ => none) else none
    | _, _, _, _, _ => none
  eqEs : List D → List D → (D → D → Option Bool) → Option Bool
    | [], [], _ => some true
    | x :: xs, y :: ys, f => match f x y, eqEs xs ys f with
      | some b, some c => some (b && c)
      | _, _ => none
    | _, _, _ => none

def nilV (k : TK) (x : V) : Option Bool :=
  match k, x with
  | .ptr, .im .nil => some true
  | .ptr, .im (.ref _) => some false
  | .ptr, .ptr _ _ _ => some false
  | .fn, .im .nfn => some true
  | .fn, .im (.fn _) => some false
  | .fn, .fn _ _ _ => some false
  | .ifc _, .im .inil => some true
  | .ifc _, .im (.ifc _ _) => some false
  | .ifc _, .ifc _ _ => some false
  | .map _ _, .im .mnil => some true
  | .map _ _, .mp _ => some false
  | _, _ => none
def isLitNil : V → Bool
  | .im .nil | .im .nfn | .im .inil | .im .mnil => true
  | _ => false
/-- Two nil interface values of a type with methods are compared only where one is the literal nil. -/
def twoNil (k : TK) (lit : Bool) : Bool := match k with | .ifc true => lit | _ => true
/-- A comparable type without interfaces. -/
def cmpT (E : Env) : Nat → Nat → Bool
  | 0, _ => false
  | n + 1, t => match E.ty t with
    | none => false
    | some ti => match ti.k with
      | .bool | .int _ | .str => true
      | .st fs => fs.all fun f => cmpT E n f.2.2
      | .arr _ e => cmpT E n e
      | _ => false
def eqV (E : Env) (t : Nat) (lit : Bool) (x y : V) : Option Bool :=
  bif isLitNil x || isLitNil y then (E.ty t).bind fun ti => (nilV ti.k x).bind fun a => (nilV ti.k y).bind fun b => bif a && b then (bif twoNil ti.k lit then some true else none) else some false else
  match x, y with
  | .im a, .im b => bif cmpT E 12 t then eqT E 12 t a b else none
  | _, _ => none
def eqOp (E : Env) (op : BinOp) (t : Nat) (lit : Bool) (x y : V) : Option V :=
  match op with
  | .eql => (eqV E t lit x y).map fun b => .im (.bool b)
  | .neq => (eqV E t lit x y).map fun b => .im (.bool (not b))
  | _ => none
def isConst : Operand → Bool
  | .const _ => true
  | _ => false
def intBin (op : BinOp) (k : IntKind) (a : Int) (k' : IntKind) (b : Int) : Option V :=
  match op with
  | .shl => intArith .shl k a b
  | .shr => intArith .shr k a b
  | op => bif keq k k' then intArith op k a b else none
def binV (E : Env) (op : BinOp) (t : Nat) (lit : Bool) (x y : V) : Option V :=
  match x with
  | .im (.int k a) => match y with
    | .im (.int k' b) => intBin op k a k' b
    | _ => none
  | .im (.str a) => match y with
    | .im (.str b) => strOp op a b
    | _ => none
  | x => eqOp E op t lit x y
def unV (op : UnOp) (x : V) : Option V :=
  match op, x with
  | .not, .im (.bool b) => bm (not b)
  | .neg, .im (.int k n) => im k (wr k (0 - n))
  | .xor, .im (.int k n) => im k (wr k (Int.ofNat (2 ^ kb k - 1 - word k n)))
  | _, _ => none

def byteD (c : Nat) : D := .int .u8 (Int.ofNat c)
def bytesOf (l : List D) : Option (List Nat) :=
  List.rec (some []) (fun d _ ih => match d with | .int .u8 n => ih.map (n.toNat :: ·) | _ => none) l

/-- The elements of a slice. -/
def V.elems (h : Heap) : V → Option (List D)
  | .im (.slc l) => some l
  | .full l => some l
  | .own b g off len _ => ownElems h b g off len
  | _ => none

def Env.kind (E : Env) (t : Nat) : Option TK := (E.ty t).map TI.k

def convV (E : Env) (h : Heap) (nid : Nat) (s d : Nat) (x : V) : Option (V × Heap) :=
  match E.kind s, E.kind d, x with
  | some (.int _), some (.int k), .im (.int _ n) => some (.im (.int k (wr k n)), h)
  | some .str, some .str, .im (.str b) => some (.im (.str b), h)
  | some .str, some (.slc e), .im (.str b) =>
    match E.kind e with
    | some (.int .u8) => some (.own nid 0 0 (llen b) false, hput h nid (.arr 0 1 0 (b.map byteD)))
    | _ => none
  | some (.slc e), some .str, x =>
    match E.kind e, x.elems h with
    | some (.int .u8), some l => (bytesOf l).map fun bs => (.im (.str bs), h)
    | _, _ => none
  | _, _, _ => none

def bound (hi : Nat) (x : Option V) (dflt : Nat) : Option Nat :=
  match x with
  | none => some dflt
  | some (.im (.int _ n)) => bif ile 0 n && ile n (Int.ofNat hi) then some n.toNat else none
  | _ => none
/-- low, high, max of a slice expression over len places. -/
def bounds (len : Nat) (lo hi mx : Option V) : Option (Nat × Nat × Nat) :=
  (bound len mx len).bind fun m => (match hi, mx with | none, some _ => none | _, _ => bound m hi len).bind fun j => (bound j lo 0).map fun i => (i, j, m)
def cut {α : Type} (l : List α) (i j : Nat) : List α := (l.drop i).take (j - i)
def sliceOwn (b g off len : Nat) (lim : Bool) (lo hi mx : Option V) : Option V :=
  (bounds len lo hi mx).bind fun r =>
    Option.rec (some (.own b g (off + r.1) (r.2.1 - r.1) (lim && Nat.beq r.2.1 len))) (fun _ => bif Nat.beq r.2.1 r.2.2 then some (.own b g (off + r.1) (r.2.1 - r.1) true) else none) mx
def isNone (l : List D) : Bool := match l with | [] => true | _ :: _ => false
def isNoneV (l : List V) : Bool := match l with | [] => true | _ :: _ => false
/-- The elements have sz cells each. -/
def firstWd (sz : Nat) (l : List D) : Bool := match l with | [] => true | d :: _ => Nat.beq d.wd sz
def sliceS (x : V) (lo hi mx : Option V) : Option V :=
  match x with
  | .im (.str s) => Option.rec ((bounds (llen s) lo hi none).map fun b => .im (.str (cut s b.1 b.2.1))) (fun _ => none) mx
  | _ => none
def sliceT (h : Heap) (sz : Nat) (x : V) (lo hi mx : Option V) : Option V :=
  match x with
  | .im (.slc l) => bif firstWd sz l then (bounds (llen l) lo hi mx).bind fun b =>
    Option.rec (some (.im (.slc (cut l b.1 b.2.1)))) (fun _ => bif Nat.beq b.2.1 b.2.2 then some (.full (cut l b.1 b.2.1)) else none) mx else none
  | .full l => bif firstWd sz l then (bounds (llen l) lo hi mx).map fun b => bif Nat.beq b.2.1 b.2.2 then .full (cut l b.1 b.2.1) else .im (.slc (cut l b.1 b.2.1)) else none
  | .own b g off len lim => match hget h b with
    | some (.arr g' s _ l) => bif cutOk g g' off len l && (Nat.beq s sz || isNone l) then sliceOwn b g off len lim lo hi mx else none
    | some (.arv g' s l) => bif cutOk g g' off len l && (Nat.beq s sz || isNoneV l) then sliceOwn b g off len lim lo hi mx else none
    | _ => none
  | _ => none
def sliceV (E : Env) (t : Nat) (h : Heap) (x : V) (lo hi mx : Option V) : Option V :=
  (E.ty t).bind fun ti => match ti.k with
    | .str => sliceS x lo hi mx
    | .slc el => (E.ty el).bind fun te => sliceT h te.size x lo hi mx
    | _ => none

def loadV (h : Heap) (b g : Nat) (p : List (Nat × Nat)) : Option V :=
  match hget h b with
  | some (.cell v) => bif Nat.beq g 0 then v.nav p else none
  | some (.arr g' s _ l) => match p with
    | (i, o) :: q => bif Nat.beq g g' && Nat.beq o (i * s) then (lget l i).bind fun d => (V.im d).nav q else none
    | [] => none
  | some (.arv g' s l) => match p with
    | (i, o) :: q => bif Nat.beq g g' && Nat.beq o (i * s) then (lget l i).bind fun v => v.nav q else none
    | [] => none
  | _ => none
def storeV (h : Heap) (b g : Nat) (p : List (Nat × Nat)) (x : V) : Option Heap :=
  match hget h b with
  | some (.cell v) => bif Nat.beq g 0 then (V.put x p v).map fun v' => hput h b (.cell v') else none
  | some (.arr g' s ro l) => match p with
    | (i, o) :: q =>
      bif Nat.beq g g' && (Nat.beq o (i * s) && Nat.ble ro i) then
        (lget l i).bind fun d => (x.data h).bind fun dx => (V.put (.im dx) q (.im d)).bind fun v' => match v' with
          | .im d' => bif allArr h x.owns && not (hasN x.owns b) then some (hput (close h x.owns) b (.arr g' s ro (lset l i d'))) else none
          | _ => none
      else none
    | [] => none
  | some (.arv g' s l) => match p with
    | (i, o) :: q => bif Nat.beq g g' && Nat.beq o (i * s) then (lget l i).bind fun v => (V.put x q v).map fun v' => hput h b (.arv g' s (lset l i v')) else none
    | [] => none
  | _ => none

def isPlain (v : V) : Bool := match v with | .undef | .tup _ | .im (.tup _) => false | _ => true
def fillAt (kids : List V) (place : Nat → Option (Nat × Nat)) (ps : List (Nat × V)) : Option (List V) :=
  List.rec (fun l => some l) (fun p _ ih l => (place p.1).bind fun os => (lget l p.1).bind fun c =>
    bif Nat.beq (wdsTo l p.1) os.1 && (Nat.beq c.wd os.2 && (Nat.beq p.2.wd os.2 && isPlain p.2)) then ih (lset l p.1 p.2) else none) ps kids
def fillD (h : Heap) (sz : Nat) (l : List D) (ps : List (Nat × V)) : Option (List D) :=
  List.rec (fun l => some l) (fun p _ ih l => (p.2.data h).bind fun d => (lget l p.1).bind fun _ => bif Nat.beq d.wd sz && isPlain p.2 then ih (lset l p.1 d) else none) ps l
def ownsP (ps : List (Nat × V)) : List Nat := List.rec [] (fun p _ ih => match V.owns p.2 with | [] => ih | bs => bs ++ ih) ps
abbrev R := Option (V × Heap)
def pure1 (h : Heap) (x : Option V) : R := Option.rec none (fun v => some (v, h)) x
def evP (e : Operand → V) (ps : Array (Nat × Operand)) : List (Nat × V) := List.rec [] (fun p _ ih => (p.1, e p.2) :: ih) ps.toList

def sPick (h : Heap) (c a b : V) : R := match c with | .im (.bool t) => bif t then some (a, h) else some (b, h) | _ => none
def sAlloc (E : Env) (nid : Nat) (h : Heap) (t : Nat) : R :=
  (E.ty t).bind fun ti => bif okV ti ti.zero then
    bif Nat.beq t E.bty.1 then some (.ptr nid 0 [], hput h nid (.bld t E.bty.2 [])) else some (.ptr nid 0 [], hput h nid (.cell ti.zero)) else none
def sBox (E : Env) (nid : Nat) (h : Heap) (t : Nat) (x : V) : R :=
  (E.ty t).bind fun ti => bif okV ti x then some (.ptr nid 0 [], hput h nid (.cell x)) else none
def sBuild (E : Env) (h : Heap) (t : Nat) (ps : List (Nat × V)) : R :=
  (E.ty t).bind fun ti => ti.zero.kids.bind fun l =>
    match ti.k with
    | .st fs => (fillAt l (fun i => (lget fs i).map (fun f => (f.1, f.2.1))) ps).map fun l' => (mkAgg ti.zero.wd l', h)
    | .arr _ el => (E.ty el).bind fun te => (fillAt l (fun i => some (i * te.size, te.size)) ps).map fun l' => (mkAgg ti.zero.wd l', h)
    | _ => none
def reps {α : Type} (n : Nat) (x : α) : List α := Nat.rec [] (fun _ ih => x :: ih) n
def anyOwn (ps : List (Nat × V)) : Bool := List.rec false (fun p _ ih => match p.2 with | .im _ => ih | _ => true) ps
def sBuildSlice (E : Env) (keep : Bool) (nid : Nat) (h : Heap) (t n : Nat) (ps : List (Nat × V)) : R :=
  (E.ty t).bind fun ti => match ti.k with
    | .slc el => (E.ty el).bind fun te => bif Nat.ble (n * te.size) 16777216 && Nat.ble n 16777216 then (te.zero.data []).bind fun z => bif not (okV te (.im z)) then none else match (bif keep && anyOwn ps then none else fillD h te.size (reps n z) ps) with
      | some l => bif allArr h (ownsP ps) then some (.own nid 0 0 n false, hput (close h (ownsP ps)) nid (.arr 0 te.size 0 l)) else none
      | none => (fillAt (reps n te.zero) (fun i => some (i * te.size, te.size)) ps).map fun l => (.own nid 0 0 n false, hput h nid (.arv 0 te.size l)) else none
    | _ => none
def sLoad (E : Env) (h : Heap) (t : Nat) (a : V) : R :=
  (E.ty t).bind fun ti => match a with
    | .ptr b g p => (loadV h b g p).bind fun v => bif okV ti v then some (v, h) else none
    | .im (.ref d) => bif okV ti (.im d) then some (.im d, h) else none
    | _ => none
def sStore (E : Env) (h : Heap) (t : Nat) (a x : V) : R :=
  (E.ty t).bind fun ti => match a with
    | .ptr b g p => bif okV ti x then (storeV h b g p x).map fun h' => (.undef, h') else none
    | _ => none
def sNilCheck (h : Heap) (x : V) : R := match x with | .ptr b g p => some (.ptr b g p, h) | .im (.ref d) => some (.im (.ref d), h) | _ => none
def sMakeSlice (E : Env) (nid : Nat) (h : Heap) (t : Nat) (l c : V) : R :=
  (E.ty t).bind fun ti => match ti.k with
    | .slc el => (E.ty el).bind fun te => (te.zero.data []).bind fun z => match l, c with
      | .im (.int .i64 n), .im (.int .i64 m) =>
        bif okV te (.im z) && (ile 0 n && (ile n m && ile (m * Int.ofNat te.bytes) 70368744177664)) then some (.own nid 0 0 n.toNat false, hput h nid (.arr 0 te.size 0 (reps n.toNat z))) else none
      | _, _ => none
    | _ => none
def sIface (E : Env) (h : Heap) (t : Nat) (x : V) : R :=
  match E.kind t with
  | some (.ifc _) => none
  | some _ => (match x with | .im d => some (.im (.ifc t d), h) | .undef => none | v => some (.ifc t v, h))
  | none => none
def sFieldAddr (E : Env) (h : Heap) (t : Nat) (x : V) (k : Nat) : R :=
  (E.ty t).bind fun ti => match ti.k with
    | .st fs => (lget fs k).bind fun f => bif Nat.beq f.2.1 0 then none else match x with
      | .ptr b g p => some (.ptr b g (p ++ [(k, f.1)]), h)
      | .im (.ref d) => (match V.kid (.im d) k f.1 with
        | some (.im d') => bif Nat.beq d'.wd f.2.1 then some (.im (.ref d'), h) else none
        | _ => none)
      | _ => none
    | _ => none
def sField (E : Env) (h : Heap) (t : Nat) (x : V) (k : Nat) : R :=
  (E.ty t).bind fun ti => match ti.k with
    | .st fs => (lget fs k).bind fun f => (E.ty f.2.2).bind fun tf => (x.kid k f.1).bind fun v => bif Nat.beq v.wd f.2.1 && okAgg tf.k v then some (v, h) else none
    | _ => none
def elemRef (E : Env) (h : Heap) (el : Nat) (l : List D) (n : Int) : R :=
  (E.ty el).bind fun te => bif ile 0 n then (lget l n.toNat).bind fun d => bif Nat.beq d.wd te.size then some (.im (.ref d), h) else none else none
def sizeIs (h : Heap) (b sz : Nat) : Bool := match hget h b with | some (.arr _ s _ _) => Nat.beq s sz | some (.arv _ s _) => Nat.beq s sz | _ => false
def sIndexAddr (E : Env) (h : Heap) (t : Nat) (x i : V) : R :=
  match i with
  | .im (.int _ n) => (E.ty t).bind fun ti => match ti.k with
    | .slc el => (match x with
      | .own b g off len _ => (E.ty el).bind fun te => bif ile 0 n && (ilt n (Int.ofNat len) && (Nat.beq off 0 || sizeIs h b te.size)) then some (.ptr b g [(off + n.toNat, (off + n.toNat) * te.size)], h) else none
      | .im (.slc l) => elemRef E h el l n
      | .full l => elemRef E h el l n
      | _ => none)
    | .arr m el => (E.ty el).bind fun te => bif ile 0 n && (ilt n (Int.ofNat m) && Nat.blt 0 te.size) then (match x with
      | .ptr b g p => some (.ptr b g (p ++ [(n.toNat, n.toNat * te.size)]), h)
      | .im (.ref d) => (match V.kid (.im d) n.toNat (n.toNat * te.size) with
        | some (.im d') => bif Nat.beq d'.wd te.size then some (.im (.ref d'), h) else none
        | _ => none)
      | _ => none) else none
    | _ => none
  | _ => none
def sIndex (E : Env) (h : Heap) (t : Nat) (x i : V) : R :=
  match i with
  | .im (.int _ n) => (match x with
    | .im (.str s) => (E.ty t).bind fun ti => (match ti.k with | .str => bif ile 0 n then (lget s n.toNat).map fun c => (.im (byteD c), h) else none | _ => none)
    | x => (E.ty t).bind fun ti => match ti.k with
      | .arr m el => (E.ty el).bind fun te => bif ile 0 n && ilt n (Int.ofNat m) then (x.kid n.toNat (n.toNat * te.size)).bind fun w => bif okV te w then some (w, h) else none else none
      | _ => none)
  | _ => none

def keyEq (a b : D) : Option Bool :=
  match a, b with
  | .int k x, .int k' y => bif keq k k' then some (ieq x y) else none
  | .str x, .str y => some (seq x y)
  | .bool x, .bool y => some (bif x then y else not y)
  | _, _ => none
/-- The place of a key; the length where there is none. -/
def findK (k : D) (es : List (D × V)) : Option Nat :=
  List.rec (some 0) (fun e _ ih => (keyEq k e.1).bind fun b => bif b then some 0 else ih.map (· + 1)) es
def okKey (E : Env) (t : Nat) (k : D) : Bool :=
  match E.kind t, k with
  | some (.int j), .int j' _ => keq j j'
  | some .str, .str _ => true
  | some .bool, .bool _ => true
  | _, _ => false
def sMakeMap (E : Env) (nid : Nat) (h : Heap) (t : Nat) (r : Option V) : R :=
  match E.kind t with
  | some (.map _ _) => (match r with
    | none => some (.mp nid, hput h nid (.mp []))
    | some (.im (.int _ _)) => some (.mp nid, hput h nid (.mp []))
    | _ => none)
  | _ => none
def entries (h : Heap) (m : V) : Option (List (D × V)) :=
  match m with
  | .im .mnil => some []
  | .mp b => match hget h b with | some (.mp es) => some es | _ => none
  | _ => none
def sLookup (E : Env) (h : Heap) (t : Nat) (m k : V) (ok : Bool) : R :=
  match E.kind t, k with
  | some (.map kt et), .im kd => bif okKey E kt kd then
      (entries h m).bind fun es => (findK kd es).bind fun i =>
        match lget es i with
        | some e => some (bif ok then .tup [e.2, .im (.bool true)] else e.2, h)
        | none => (E.ty et).bind fun te => bif isPlain te.zero then some (bif ok then .tup [te.zero, .im (.bool false)] else te.zero, h) else none
    else none
  | _, _ => none
def sMapUpdate (E : Env) (h : Heap) (t : Nat) (m k v : V) : R :=
  match E.kind t, m, k with
  | some (.map kt et), .mp b, .im kd => bif okKey E kt kd then
      (entries h m).bind fun es => (findK kd es).bind fun i => (E.ty et).bind fun te => bif okV te v then
        some (.undef, hput h b (.mp (bif Nat.blt i (llen es) then lset es i (kd, v) else es ++ [(kd, v)]))) else none
    else none
  | _, _, _ => none
def bDelete (E : Env) (ts : Array Nat) (m k : V) (h : Heap) : R :=
  match (lget ts.toList 0).bind E.kind, m, k with
  | some (.map kt _), .mp b, .im kd => bif okKey E kt kd then
      (entries h m).bind fun es => (findK kd es).bind fun i => some (.im (.tup []), hput h b (.mp (es.eraseIdx i)))
    else none
  | _, _, _ => none
def sAssert (E : Env) (h : Heap) (x : V) (t : Nat) (ok : Bool) : R :=
  match E.kind t, E.ty t with
  | some (.ifc _), _ => none
  | some _, some ti => (match x with
    | .im (.ifc u d) => bif Nat.beq u t then some (bif ok then .im (.tup [d, .bool true]) else .im d, h) else bif ok && isPlain ti.zero then some (.tup [ti.zero, .im (.bool false)], h) else none
    | .ifc u v => bif Nat.beq u t then some (bif ok then .tup [v, .im (.bool true)] else v, h) else bif ok && isPlain ti.zero then some (.tup [ti.zero, .im (.bool false)], h) else none
    | .im .inil => bif ok && isPlain ti.zero then some (.tup [ti.zero, .im (.bool false)], h) else none
    | _ => none)
  | _, _ => none

def minV (k : IntKind) (l : List V) : Int → Option Int :=
  List.rec (fun a => some a) (fun v _ ih a => match v with | .im (.int k' b) => bif keq k k' then ih (bif ile a b then a else b) else none | _ => none) l
def maxV (k : IntKind) (l : List V) : Int → Option Int :=
  List.rec (fun a => some a) (fun v _ ih a => match v with | .im (.int k' b) => bif keq k k' then ih (bif ile a b then b else a) else none | _ => none) l
def bLen (E : Env) (t : Nat) (h : Heap) (x : V) : R :=
  match E.kind t, x with
  | some (.slc _), .own _ _ _ n _ => some (.im (.int .i64 (Int.ofNat n)), h)
  | some (.slc _), .im (.slc l) => some (.im (.int .i64 (Int.ofNat (llen l))), h)
  | some (.slc _), .full l => some (.im (.int .i64 (Int.ofNat (llen l))), h)
  | some .str, .im (.str s) => some (.im (.int .i64 (Int.ofNat (llen s))), h)
  | some (.map _ _), .im .mnil => some (.im (.int .i64 0), h)
  | some (.map _ _), .mp b => (match hget h b with | some (.mp es) => bif Nat.ble (llen es) 9223372036854775807 then some (.im (.int .i64 (Int.ofNat (llen es))), h) else none | _ => none)
  | _, _ => none
def bCap (E : Env) (t : Nat) (h : Heap) (x : V) : R :=
  match E.kind t, x with
  | some (.slc _), .full l => some (.im (.int .i64 (Int.ofNat (llen l))), h)
  | _, _ => none
def room (n bytes : Nat) : Bool := Nat.ble (n * bytes) 70368744177664 && Nat.ble n 70368744177664
def appendTo (te : TI) (nid : Nat) (s : V) (new : List D) (h : Heap) : R :=
  match s with
  | .own b g off len lim => (match hget h b with
    | some (.arr g' sz ro l) =>
      bif lim then
        bif isNone new then some (.own b g off len lim, h) else
        bif cutOk g g' off len l && (Nat.beq sz te.size && room (len + llen new) te.bytes)
        then some (.own nid 0 0 (len + llen new) false, hput h nid (.arr 0 te.size 0 (cutAll l off len ++ new))) else none
      else
        bif cutOk g g' off len l && (Nat.beq off 0 && (Nat.ble ro len && (Nat.beq sz te.size && room (len + llen new) te.bytes)))
        then some (.own b (g + 1) 0 (len + llen new) false, hput h b (.arr (g + 1) te.size ro (cutAll l 0 len ++ new))) else none
    | _ => none)
  | .full l => bif firstWd te.size l && room (llen l + llen new) te.bytes then
      some (.own nid 0 0 (llen l + llen new) false, hput h nid (.arr 0 te.size (bif isNone new then llen l else 0) (l ++ new))) else none
  | _ => none
/-- The elements of a slice whose memory is shared, or an array of data of the call's own. -/
def V.delems (h : Heap) : V → Option (List D)
  | .im (.slc l) => some l
  | .full l => some l
  | .own b g off len _ => (match hget h b with
    | some (.arr g' _ _ l) => bif cutOk g g' off len l then some (cutAll l off len) else none
    | _ => none)
  | _ => none
/-- What is appended. -/
def newElems (E : Env) (te : TI) (t : Nat) (x : V) (h : Heap) : Option (List D) :=
  match E.kind t, x with
  | some .str, .im (.str b) => bif Nat.beq te.size 1 then some (b.map byteD) else none
  | some (.slc _), v => (v.delems h).bind fun l => bif firstWd te.size l then some l else none
  | _, _ => none
/-- Arrays of values. -/
def isArv (h : Heap) (v : V) : Bool := match v with
  | .own b _ _ _ _ => (match hget h b with | some (.arv _ _ _) => true | _ => false)
  | _ => false
def V.velems (h : Heap) (x : V) : Option (List V) :=
  match x with
  | .own b g off len _ => (match hget h b with
    | some (.arv g' _ l) => bif cutOk g g' off len l then some (cutAll l off len) else none
    | _ => (x.delems h).map imap)
  | x => (x.delems h).map imap
def isSlc (k : Option TK) : Bool := match k with | some (.slc _) => true | _ => false
def allOkV (te : TI) (l : List V) : Bool := List.rec true (fun v _ ih => bif okV te v then ih else false) l
def appendV (te : TI) (nid : Nat) (s : V) (new : List V) (h : Heap) : R :=
  match s with
  | .own b g off len lim => (match hget h b with
    | some (.arv g' sz l) => bif not lim && (cutOk g g' off len l && (Nat.beq off 0 && (Nat.beq sz te.size && room (len + llen new) te.bytes)))
        then some (.own b (g + 1) 0 (len + llen new) false, hput h b (.arv (g + 1) te.size (cutAll l 0 len ++ new))) else none
    | _ => none)
  | .full l => bif firstWd te.size l && (not (isNoneV new) && room (llen l + llen new) te.bytes) then
      some (.own nid 0 0 (llen l + llen new) false, hput h nid (.arv 0 te.size (imap l ++ new))) else none
  | _ => none
def isIntK (k : Option TK) : Bool := match k with | some (.int _) => true | _ => false
/-- n zero values more: append(s, make([]T, n)...). -/
def appendZ (te : TI) (nid : Nat) (s : V) (n : Int) (h : Heap) : R :=
  match s with
  | .full l => bif firstWd te.size l && (ilt 0 n && room (llen l + n.toNat) te.bytes) then
      (te.zero.data []).bind fun z => bif okV te (.im z) then some (.own nid 0 0 (llen l + n.toNat) false, hput h nid (.arr 0 te.size 0 (l ++ reps n.toNat z))) else none else none
  | _ => none
def appendX (E : Env) (te : TI) (nid tx : Nat) (s x : V) (h : Heap) : R :=
  bif isIntK (E.kind tx) then (match x with | .im (.int .i64 n) => appendZ te nid s n h | _ => none)
  else bif isArv h s || isArv h x then (bif isSlc (E.kind tx) then (x.velems h).bind fun new => bif allOkV te new then appendV te nid s new h else none else none)
  else (newElems E te tx x h).bind fun new => appendTo te nid s new h
def bAppend (E : Env) (nid : Nat) (ts : Array Nat) (s x : V) (h : Heap) : R :=
  ((lget ts.toList 0).bind E.ty).bind fun ti => match ti.k with
    | .slc el => (E.ty el).bind fun te => (lget ts.toList 1).bind fun tx => bif okV te te.zero then appendX E te nid tx s x h else none
    | _ => none
/-- copy onto an array of data of the call's own, from other memory. -/
def bCopy (E : Env) (ts : Array Nat) (d s : V) (h : Heap) : R :=
  ((lget ts.toList 0).bind E.ty).bind fun ti => match ti.k with
    | .slc el => (E.ty el).bind fun te => (lget ts.toList 1).bind fun tx => bif isSlc (E.kind tx) then (s.delems h).bind fun src => (match d with
      | .own b g off len _ => (match hget h b with
        | some (.arr g' sz ro l) => bif not (hasN s.owns b) && (cutOk g g' off len l && (Nat.beq sz te.size && (Nat.ble ro off && firstWd te.size src))) then
            (fun n => some (.im (.int .i64 (Int.ofNat n)), hput h b (.arr g' sz ro (l.take off ++ (src.take n ++ l.drop (off + n)))))) (Nat.min len (llen src)) else none
        | _ => none)
      | _ => none) else none
    | _ => none
def builtinV (E : Env) (nid : Nat) (b : Builtin) (ts : Array Nat) (xs : List V) (h : Heap) : R :=
  match b with
  | .len => (match xs with | [x] => (lget ts.toList 0).bind fun t => bLen E t h x | _ => none)
  | .append => (match xs with | [s, x] => bAppend E nid ts s x h | _ => none)
  | .min => (match xs with | .im (.int k a) :: l => (minV k l a).map fun n => (.im (.int k n), h) | _ => none)
  | .max => (match xs with | .im (.int k a) :: l => (maxV k l a).map fun n => (.im (.int k n), h) | _ => none)
  | .cap => (match xs with | [x] => (lget ts.toList 0).bind fun t => bCap E t h x | _ => none)
  | .delete => (match xs with | [m, k] => bDelete E ts m k h | _ => none)
  | .copy => (match xs with | [d, s] => bCopy E ts d s h | _ => none)
  | _ => none

/-! ### control -/
def guardOf (ops : Array Oper) (t : Tm) (g : Option (Nat × Bool)) : Option Bool :=
  match g with
  | none => some true
  | some (j, want) => (lget ops.toList j).bind fun o => o.dst.bind fun d => match t.get d with
    | .im (.bool b) => some (bif b then want else not want)
    | .im (.tup []) => some false
    | _ => none
def putDst (t : Tm) (d : Option Nat) (v : V) : Tm := Option.rec t (fun n => t.set n v) d

/-- How deep the tree of n slots is. -/
def depOf (n : Nat) : Nat := bif Nat.blt n 8 then 3 else bif Nat.blt n 16 then 4 else bif Nat.blt n 32 then 5 else bif Nat.blt n 64 then 6 else bif Nat.blt n 128 then 7 else bif Nat.blt n 256 then 8 else 12
def putArgs (l : List V) : Nat → Tm → Tm := List.rec (fun _ t => t) (fun v _ ih i t => ih (i + 1) (t.set i v)) l
def tmOf (n : Nat) (args : List V) : Tm := putArgs args 0 (Tm.mk (depOf n))

section
variable (E : Env) (ih : Nat → Nat → Nat → Code → St → Option (Ex × St))

def resultV (h : Heap) (t : Tm) (r : ResultVar) : Option V :=
  match r with
  | .tmp n => some (t.get n)
  | .cell a ty => match t.get a, E.ty ty with
    | .ptr b g p, some ti => (loadV h b g p).bind fun v => bif okV ti v then some v else none
    | _, _ => none
def resultsL (h : Heap) (t : Tm) (l : List ResultVar) : Option (List V) :=
  List.rec (some []) (fun r _ ih => (resultV E h t r).bind fun v => ih.map (v :: ·)) l
def resultsV (h : Heap) (fn : Func) (t : Tm) : Option V :=
  (resultsL E h t fn.results.toList).map fun l => match l with
    | [v] => v
    | l => mkTup l

/-- The zero value is data. -/
def zeroOk (te : TI) : Bool := match te.zero.data [] with | some z => okV te (.im z) | none => false
/-- slices.Clone at elements of the type el: a new array, or nil. -/
def cloneV (nid el : Nat) (xs : List V) (h : Heap) : R :=
  match xs with
  | [x] => (E.ty el).bind fun te => (x.delems h).bind fun l => bif (okV te te.zero && zeroOk te) && (firstWd te.size l && room (llen l) te.bytes) then some (.own nid 1 0 (llen l) false, hput h nid (.arr 1 te.size 0 l)) else none
  | _ => none
/-- What a strings.Builder holds. -/
def bldOf (h : Heap) (b : Nat) : Option (Nat × Nat × List Nat) :=
  match hget h b with
  | some (.bld t e s) => some (t, e, s)
  | _ => none
def countIn (l : List Nat) (b : Nat) : Nat := List.rec 0 (fun a _ ih => bif Nat.beq a b then ih + 1 else ih) l
/-- Functions of the library without a Go body, or taken whole: 1 bytealg.IndexByteString, 2 bytealg.CountString, 3 Builder.WriteByte, 4 Builder.WriteString, 5 Builder.String, 6 Builder.Grow. -/
def extV (x : Nat) (xs : List V) (h : Heap) : R :=
  match x, xs with
  | 1, [.im (.str s), .im (.int .u8 c)] => some (.im (.int .i64 (idx s c)), h)
  | 2, [.im (.str s), .im (.int .u8 c)] => some (.im (.int .i64 (Int.ofNat (countIn s c.toNat))), h)
  | 3, [.ptr b 0 [], .im (.int .u8 c)] => (bldOf h b).bind fun s => bif room (llen s.2.2 + 1) 1 then some (.im .inil, hput h b (.bld s.1 s.2.1 (s.2.2 ++ [c.toNat]))) else none
  | 4, [.ptr b 0 [], .im (.str t)] => (bldOf h b).bind fun s => bif room (llen s.2.2 + llen t) 1 then some (.im (.tup [.int .i64 (Int.ofNat (llen t)), .inil]), hput h b (.bld s.1 s.2.1 (s.2.2 ++ t))) else none
  | 5, [.ptr b 0 []] => (bldOf h b).map fun s => (.im (.str s.2.2), h)
  | 6, [.ptr b 0 [], .im (.int .i64 n)] => (bldOf h b).bind fun s => bif ile 0 n && room (3 * llen s.2.2 + n.toNat) 1 then some (.im (.tup []), hput h b (.bld s.1 s.2.1 s.2.2)) else none
  | _, _ => none
where
  idx (s : List Nat) (c : Int) : Int := Option.rec (-1) Int.ofNat (indexIn s c.toNat)

def allData (h : Heap) (l : List V) : Option (List D) :=
  List.rec (some []) (fun v _ ih => (V.data h v).bind fun d => ih.map (d :: ·)) l

/-- A deferred call that recovers: nothing panics. -/
def isRecover (o : Oper) : Bool :=
  match o.op with
  | .call c => match c.callee with | .builtin .recover => true | _ => false
  | _ => false
def isCall (o : Oper) : Bool :=
  match o.op with
  | .call _ | .defer _ => true
  | _ => false
def sFunc (e : Operand → V) (h : Heap) (f : Fn) (a c : Array Operand) : R :=
  match f with
  | .func g => some (.fn g (List.rec [] (fun o _ ih => e o :: ih) a.toList) (List.rec [] (fun o _ ih => e o :: ih) c.toList), h)
  | _ => none

/-- One operation: its value, and the heap behind it. nid: the block that it may make. -/
def stepOp (keep : Bool) (nid : Nat) (t : Tm) (h : Heap) (op : Op) : R :=
  match op with
  | .move x => some (ev t x, h)
  | .assign x => some (ev t x, h)
  | .pick c a b => sPick h (ev t c) (ev t a) (ev t b)
  | .alloc ty => sAlloc E nid h ty
  | .box ty x => sBox E nid h ty (ev t x)
  | .build ty ps => sBuild E h ty (evP (ev t) ps)
  | .buildSlice ty n ps => sBuildSlice E keep nid h ty n (evP (ev t) ps)
  | .load ty a => sLoad E h ty (ev t a)
  | .store ty a x => sStore E h ty (ev t a) (ev t x)
  | .nilCheck x => sNilCheck h (ev t x)
  | .binOp op ty x y _ => pure1 h (binV E op ty (isConst x || isConst y) (ev t x) (ev t y))
  | .unOp op _ x => pure1 h (unV op (ev t x))
  | .convert s d x => convV E h nid s d (ev t x)
  | .makeInterface ty x => sIface E h ty (ev t x)
  | .makeFunc f a c => sFunc (ev t) h f a c
  | .makeSlice ty l c => sMakeSlice E nid h ty (ev t l) (ev t c)
  | .slice ty x lo hi mx => pure1 h (sliceV E ty h (ev t x) (lo.map (ev t)) (hi.map (ev t)) (mx.map (ev t)))
  | .fieldAddr ty x k => sFieldAddr E h ty (ev t x) k
  | .field ty x k => sField E h ty (ev t x) k
  | .indexAddr ty x i => sIndexAddr E h ty (ev t x) (ev t i)
  | .index ty x i => sIndex E h ty (ev t x) (ev t i)
  | .extract x i => pure1 h ((ev t x).part i)
  | .makeMap ty r => sMakeMap E nid h ty (r.map (ev t))
  | .lookup ty m k ok => sLookup E h ty (ev t m) (ev t k) ok
  | .mapUpdate ty m k v => sMapUpdate E h ty (ev t m) (ev t k) (ev t v)
  | .insert ty m k v => sMapUpdate E h ty (ev t m) (ev t k) (ev t v)
  | .typeAssert x _ ty ok => sAssert E h (ev t x) ty ok
  | .call c => (match c.callee with
    | .builtin b => builtinV E nid b c.argTypes (evs t c.args) h
    | _ => none)
  | _ => none

abbrev RC := Option (V × Heap × List Rec)
def lift (lp : List Rec) (r : R) : RC := Option.rec none (fun x => some (x.1, x.2, lp)) r
/-- A body is run: what is left of it. -/
def runBody (f : Nat) (args : List V) (h : Heap) (lp : List Rec) : Option (Func × St) :=
  (E.fn f).bind fun fn => fn.body.bind fun c =>
    match (bif Nat.ble (llen args) fn.ntmps then ih f 0 0 c ⟨tmOf fn.ntmps args, h, lp, []⟩ else none) with
    | some (.exit _, _) => none
    | some (_, st) => some (fn, st)
    | none => none
def recOps (keep : Bool) (ops : Array Oper) (l : List Oper) : St → Option St :=
  List.rec (fun st => some st) (fun o _ k st => match guardOf ops st.t o.guard with
    | none => none
    | some false => k ⟨putDst st.t o.dst (.im (.tup [])), st.h, st.lp, st.df⟩
    | some true => bif isRecover o then k ⟨putDst st.t o.dst (.im .inil), st.h, st.lp, st.df⟩
      else bif isCall o then none else match stepOp E keep (llen st.h) st.t st.h o.op with
        | none => none
        | some (v, h) => k ⟨putDst st.t o.dst v, h, st.lp, st.df⟩) l
/-- The body of a deferred call. -/
def execS (f fb : Nat) (n : Nat) : Code → St → Option (Ex × St) :=
  Nat.rec (fun _ _ => none) (fun _ rs c st => match c with
    | .seq a b => (match rs a st with
      | some (.nm, st') => rs b st'
      | r => r)
    | .cond c a b => (match ev st.t c with
      | .im (.bool t) => bif t then rs a st else rs b st
      | _ => none)
    | .region id ops false => bif ops.toList.any isRecover then (match recOps E (E.keep f) ops ops.toList st with
      | some st' => some (.nm, st')
      | none => none) else ih f fb 0 (.region id ops false) st
    | c => ih f fb 0 c st) n
def runBodyS (f : Nat) (args : List V) (h : Heap) (lp : List Rec) : Option (Func × St) :=
  (E.fn f).bind fun fn => fn.body.bind fun c =>
    match (bif Nat.ble (llen args) fn.ntmps then execS E ih f 0 64 c ⟨tmOf fn.ntmps args, h, lp, []⟩ else none) with
    | some (.exit _, _) => none
    | some (_, st) => some (fn, st)
    | none => none
/-- The mark of a range over a function: nothing is to be done for it. -/
def isMark (d : Nat × List V) : Bool := match d.2 with | [.undef] => true | _ => false
/-- The deferred calls, the last one first. -/
def runDefers (n0 : Nat) (df : List (Nat × List V)) : Heap → List Rec → Option (Heap × List Rec) :=
  List.rec (fun h lp => some (h, lp)) (fun d _ k h lp => bif isMark d then (bif Nat.ble n0 d.1 then k h lp else none) else match runBodyS E ih d.1 d.2 h lp with
    | some (fn, st) => (match st.df with
      | [] => (match resultsV E st.h fn st.t with
        | some _ => k st.h st.lp
        | none => none)
      | _ => none)
    | none => none) df
/-- A call whose body is run here. -/
def inlineV (f : Nat) (args : List V) (h : Heap) (lp : List Rec) : RC :=
  match runBody E ih f args h lp with
  | some (fn, st) => (match st.df with
    | [] => (resultsV E st.h fn st.t).map fun v => (v, st.h, st.lp)
    | df => (runDefers E ih (llen h) df st.h st.lp).bind fun r => (resultsV E r.1 fn st.t).map fun v => (v, r.1, r.2))
  | none => none
/-- A call whose arguments and results are data, in a heap of its own. -/
def dataV (f : Nat) (args : List D) : Option D := (inlineV E ih f (imap args) [] []).bind fun r => r.1.data r.2.1
def dataC (f : Nat) (args : List D) : Option D := match E.sm f with | some F => (match F args with | some r => some r | none => dataV E ih f args) | none => dataV E ih f args
def callV (f : Nat) (args : List V) (h : Heap) (lp : List Rec) : RC :=
  bif E.inl f then inlineV E ih f args h lp else
  match allData h args with
  | some ds => (dataC E ih f ds).bind fun r =>
      match V.ownsL args with
      | [] => some (.im r, h, lp)
      | bs => bif r.flat then some (.im r, h, lp) else bif allArr h bs then some (.im r, close h bs, lp) else none
  | none => inlineV E ih f args h lp
def callFn (nid : Nat) (g : Nat) (args : List V) (h : Heap) (lp : List Rec) : RC :=
  match E.clone g with
  | some sz => lift lp (cloneV E nid sz args h)
  | none => match E.ext g with
    | 0 => callV E ih g args h lp
    | x => lift lp (extV x args h)
/-- The function that is called, and its arguments. -/
def target (t : Tm) (c : Call) : Option (Nat × List V) :=
  match c.callee with
  | .builtin _ => none
  | .value f => (match ev t f with
    | .fn g a cap => some (g, a ++ (evs t c.args ++ cap))
    | .im (.fn g) => some (g, evs t c.args)
    | _ => none)
  | .invoke r name => (match ev t r with
    | .ifc u v => (E.meth u name).map fun g => (g, v :: evs t c.args)
    | .im (.ifc u d) => (E.meth u name).map fun g => (g, .im d :: evs t c.args)
    | _ => none)

/-- A loop's yield is called. -/
def yldOf (t : Tm) (c : Call) : Option (Nat × List V) :=
  match c.callee with
  | .value f => (match ev t f with
    | .yld b => some (b, evs t c.args)
    | _ => none)
  | _ => none
def putPs (ps : List Nat) : List V → Tm → Option Tm :=
  List.rec (fun xs t => match xs with | [] => some t | _ => none) (fun p _ ih xs t => match xs with | [] => none | x :: xs => ih xs (t.set p x)) ps
/-- A round. -/
def roundV (b : Nat) (xs : List V) (h : Heap) : R :=
  match hget h b with
  | some (.lp f t ps asg body) => (putPs ps xs t).bind fun t0 => match ih f 1 0 asg ⟨t0, lset h b none, [], []⟩ with
    | some (.nm, s1) => (match s1.df with
      | [] => (match ih f 1 0 body ⟨s1.t, s1.h, [], []⟩ with
        | some (.nm, s2) => (match s2.df with
          | [] => some (.im (.bool true), hput s2.h b (.lp f t ps asg body))
          | _ => none)
        | _ => none)
      | _ => none)
    | _ => none
  | _ => none
def goCall (nid : Nat) (t : Tm) (c : Call) (h : Heap) (lp : List Rec) : RC :=
  match yldOf t c with
  | some (b, xs) => lift lp (roundV ih b xs h)
  | none => (target E t c).bind fun g => callFn E ih nid g.1 g.2 h lp

/-- One operation at its place: it is wanted, or not. -/
def opV (keep : Bool) (ops : Array Oper) (nid : Nat) (o : Oper) (st : St) : Option St :=
  match guardOf ops st.t o.guard with
  | none => none
  | some false => some ⟨putDst st.t o.dst (.im (.tup [])), st.h, st.lp, st.df⟩
  | some true => match o.op with
    | .defer c => (match c.callee with
      | .value f => (match ev st.t f with
        | .fn g a cap => bif isMark (g, a ++ (evs st.t c.args ++ cap)) then none else some ⟨putDst st.t o.dst .undef, st.h, st.lp, (g, a ++ (evs st.t c.args ++ cap)) :: st.df⟩
        | _ => none)
      | _ => none)
    | op => match (match op with
        | .call c => (match c.callee with
          | .builtin _ => lift st.lp (stepOp E keep nid st.t st.h op)
          | _ => goCall E ih nid st.t c st.h st.lp)
        | op => lift st.lp (stepOp E keep nid st.t st.h op)) with
      | none => none
      | some (v, h, lp) => some ⟨putDst st.t o.dst v, h, lp, st.df⟩
def runOps (keep : Bool) (ops : Array Oper) (l : List Oper) : St → Option St :=
  List.rec (fun st => some st) (fun o _ k st => match opV E ih keep ops (llen st.h) o st with
    | none => none
    | some st' => k st') l

/-! A region that draws its order: each operation is of a class: 0 by the slots alone, 1 quiet (it makes at most its own block), 2 simple (it reads at most one block of the region's start), 3 whole (no other stands beside it but of class 0), 4 apart (a call that knows no block), 5 a call that reads what it is handed. -/
def isNew : Op → Bool
  | .alloc _ | .box _ _ | .buildSlice .. | .makeSlice .. | .makeMap .. => true
  | .convert .. => true
  | .call { callee := .builtin .append, .. } => true
  | .call { callee := .value (.func g), .. } => (E.clone g).isSome
  | _ => false
/-- What is hidden from an operation: the blocks of operations that need not come before it. -/
def hide (k : Nat) (m : List Nat) (h : Heap) : Heap := List.rec (fun h => h) (fun i _ ih h => ih (lset h (k + i) none)) m h
def V.snap (h : Heap) (v : V) : Option D :=
  match v with
  | .ptr b 0 [] => (match hget h b with
    | some (.cell u) => (u.data h).map .ref
    | _ => none)
  | v => v.data h
def allSnap (h : Heap) (l : List V) : Option (List D) :=
  List.rec (some []) (fun v _ ih => (V.snap h v).bind fun d => ih.map (d :: ·)) l
def allNone (h : Heap) : Bool := List.rec true (fun b _ ih => match b with | none => ih | some _ => false) h
def natsEq : List Nat → List Nat → Bool
  | [], [] => true
  | a :: l, b :: r => bif Nat.beq a b then natsEq l r else false
  | _, _ => false
def pairsEq : List (Nat × Nat) → List (Nat × Nat) → Bool
  | [], [] => true
  | a :: l, b :: r => bif Nat.beq a.1 b.1 && Nat.beq a.2 b.2 then pairsEq l r else false
  | _, _ => false
mutual
def D.same : D → D → Bool
  | .bool a, .bool b => decide (a = b)
  | .int k n, .int k' m => decide (k = k') && decide (n = m)
  | .str s, .str t => natsEq s t
  | .nil, .nil => true
  | .nfn, .nfn => true
  | .inil, .inil => true
  | .mnil, .mnil => true
  | .ref a, .ref b => D.same a b
  | .slc a, .slc b => D.sames a b
  | .agg w a, .agg v b => Nat.beq w v && D.sames a b
  | .tup a, .tup b => D.sames a b
  | .fn f, .fn g => Nat.beq f g
  | .ifc t a, .ifc u b => Nat.beq t u && D.same a b
  | _, _ => false
def D.sames : List D → List D → Bool
  | [], [] => true
  | a :: l, b :: r => bif D.same a b then D.sames l r else false
  | _, _ => false
end
mutual
def V.same : V → V → Bool
  | .im a, .im b => D.same a b
  | .agg w a, .agg v b => Nat.beq w v && V.sames a b
  | .own b g o n l, .own b' g' o' n' l' => Nat.beq b b' && (Nat.beq g g' && (Nat.beq o o' && (Nat.beq n n' && decide (l = l'))))
  | .full a, .full b => D.sames a b
  | .ptr b g p, .ptr b' g' p' => Nat.beq b b' && (Nat.beq g g' && pairsEq p p')
  | .fn f a c, .fn f' a' c' => Nat.beq f f' && (V.sames a a' && V.sames c c')
  | .ifc t v, .ifc t' v' => Nat.beq t t' && V.same v v'
  | .mp b, .mp b' => Nat.beq b b'
  | _, _ => false
def V.sames : List V → List V → Bool
  | [], [] => true
  | a :: l, b :: r => bif V.same a b then V.sames l r else false
  | _, _ => false
end
def Blk.same : Blk → Blk → Bool
  | .cell a, .cell b => V.same a b
  | .arr g s ro l, .arr g' s' ro' l' => Nat.beq g g' && (Nat.beq s s' && (Nat.beq ro ro' && D.sames l l'))
  | .arv g s l, .arv g' s' l' => Nat.beq g g' && (Nat.beq s s' && V.sames l l')
  | _, _ => false
/-- Blocks that are the same. -/
def sameH : Heap → Heap → Bool
  | [], [] => true
  | none :: l, none :: r => sameH l r
  | some a :: l, some b :: r => bif Blk.same a b then sameH l r else false
  | _, _ => false
/-- These blocks alone. -/
def only (bs : List Nat) (h : Heap) : Heap := List.rec (fun _ => []) (fun b _ ih i => (bif hasN bs i then b else none) :: ih (i + 1)) h 0
def noRefs (l : List V) : Bool := match refsL l with | [] => true | _ => false
/-- A quiet operation, seen from its own view. -/
def quietV (keep : Bool) (nid : Nat) (t : Tm) (view : Heap) (op : Op) : Option (V × Option Blk) :=
  match op with
  | .store .. | .mapUpdate .. | .insert .. => none
  | .call c => (match c.callee with
    | .builtin .append => (match builtinV E nid .append c.argTypes (evs t c.args) view with
      | some (.own b g o n l, h') => bif Nat.beq b nid then some (.own b g o n l, hget h' nid) else none
      | _ => none)
    | .builtin .len => (builtinV E nid .len c.argTypes (evs t c.args) view).map fun r => (r.1, none)
    | .builtin .min => (builtinV E nid .min c.argTypes (evs t c.args) view).map fun r => (r.1, none)
    | .builtin .max => (builtinV E nid .max c.argTypes (evs t c.args) view).map fun r => (r.1, none)
    | .builtin _ => none
    | _ => (target E t c).bind fun g => match E.clone g.1 with
      | some sz => (cloneV E nid sz g.2 view).map fun r => (r.1, hget r.2 nid)
      | none => match E.ext g.1 with
        | 1 => (extV 1 g.2 view).map fun r => (r.1, none)
        | 2 => (extV 2 g.2 view).map fun r => (r.1, none)
        | 0 => bif E.inl g.1 then none else (allData view g.2).bind fun ds => (dataC E ih g.1 ds).bind fun r =>
          (match V.ownsL g.2 with
          | [] => some (.im r, none)
          | _ => bif r.flat then some (.im r, none) else none)
        | _ => none)
  | .buildSlice ty n ps => bif noRefs ((evP (ev t) ps).map Prod.snd) then (sBuildSlice E keep nid view ty n (evP (ev t) ps)).map fun r => (r.1, hget r.2 nid) else none
  | op => (stepOp E keep nid t view op).map fun r => (r.1, bif isNew E op then hget r.2 nid else none)
/-- A simple operation, seen from the region's start: no block of its own. -/
def simpleV (keep : Bool) (nid : Nat) (t : Tm) (view : Heap) (op : Op) : Option V :=
  match op with
  | .call c => (match c.callee with
    | .builtin .len => (builtinV E nid .len c.argTypes (evs t c.args) view).map fun r => r.1
    | .builtin _ => none
    | _ => (target E t c).bind fun g => bif E.inl g.1 then none else match E.clone g.1, E.ext g.1 with
      | none, 0 => (allData view g.2).bind fun ds => (dataC E ih g.1 ds).bind fun r =>
          (match V.ownsL g.2 with
          | [] => some (.im r)
          | _ => bif r.flat then some (.im r) else none)
      | _, _ => none)
  | op => (stepOp E keep nid t view op).map fun r => r.1
def putBlk (h : Heap) (nid : Nat) (k : Option Blk) : Heap := match k with | none => h | some b => hput h nid b
/-- The blocks that the slots m name are others than b. -/
def notAt (t : Tm) (b : Nat) (m : List Nat) : Bool := List.rec true (fun s _ ih => match t.get s with | .ptr c _ _ => bif Nat.beq b c then false else ih | _ => false) m
def isCell (b : Option Blk) : Bool := match b with | some (.cell _) => true | _ => false
/-- An operation of a region that draws. k: the region's own blocks begin there; n: how many they are; i: this operation's own. -/
def opD (keep : Bool) (ops : Array Oper) (k n i cls : Nat) (m : List Nat) (o : Oper) (st : St) : Option St :=
  match guardOf ops st.t o.guard with
  | none => none
  | some false => some ⟨putDst st.t o.dst (.im (.tup [])), st.h, st.lp, st.df⟩
  | some true => match cls with
    | 0 => (stepOp E keep (k + i) st.t [] o.op).map fun r => ⟨putDst st.t o.dst r.1, st.h, st.lp, st.df⟩
    | 1 => bif isNew E o.op then (match hget st.h (k + i) with
        | none => (quietV E ih keep (k + i) st.t (hide k m st.h) o.op).map fun r => ⟨putDst st.t o.dst r.1, putBlk st.h (k + i) r.2, st.lp, st.df⟩
        | some _ => none)
      else (quietV E ih keep (llen st.h) st.t (hide k m st.h) o.op).bind fun r => (match r.2 with
        | none => some ⟨putDst st.t o.dst r.1, st.h, st.lp, st.df⟩
        | some _ => none)
    | 2 => (simpleV E ih keep (k + i) st.t (hide k m (st.h.take (k + n))) o.op).map fun v => ⟨putDst st.t o.dst v, st.h, st.lp, st.df⟩
    | 3 => opV E ih keep ops (llen st.h) o st
    | 4 => (match o.op with
      | .call c => (target E st.t c).bind fun g => (inlineV E ih g.1 g.2 (only (reachIn st.h 0 64 (addNew 0 (refsL g.2) [])) st.h) st.lp).bind fun r =>
          bif sameH (only (reachIn st.h 0 64 (addNew 0 (refsL g.2) [])) st.h) (r.2.1.take (llen st.h)) then some ⟨putDst st.t o.dst r.1, st.h ++ r.2.1.drop (llen st.h), r.2.2, st.df⟩ else none
      | _ => none)
    | 6 => (match o.op with
      | .store ty a x => (match ev st.t a with
        | .ptr b g p => bif notAt st.t b m && isCell (hget st.h b) then (sStore E st.h ty (.ptr b g p) (ev st.t x)).map fun r => ⟨putDst st.t o.dst r.1, r.2, st.lp, st.df⟩ else none
        | _ => none)
      | _ => none)
    | 9 => (match o.op with
      | .store ty a x => (match ev st.t a with
        | .ptr b g p => bif Nat.ble k b && isCell (hget st.h b) then (sStore E st.h ty (.ptr b g p) (ev st.t x)).map fun r => ⟨putDst st.t o.dst r.1, r.2, st.lp, st.df⟩ else none
        | _ => none)
      | _ => none)
    | 7 => (match o.op with
      | .load ty a => (match ev st.t a with
        | .ptr b g p => (sLoad E (st.h.take k) ty (.ptr b g p)).map fun r => ⟨putDst st.t o.dst r.1, st.h, st.lp, st.df⟩
        | _ => none)
      | _ => none)
    | 8 => (match o.op with
      | .indexAddr ty x i => (sIndexAddr E (st.h.take k) ty (ev st.t x) (ev st.t i)).map fun r => ⟨putDst st.t o.dst r.1, st.h, st.lp, st.df⟩
      | _ => none)
    | _ => (match o.op with
      | .call c => (target E st.t c).bind fun g => (allSnap (hide k m st.h) g.2).bind fun ds => (dataC E ih g.1 ds).bind fun r =>
          bif r.flat then some ⟨putDst st.t o.dst (.im r), st.h, st.lp, st.df⟩ else none
      | _ => none)
def news : List Oper → Nat
  | [] => 0
  | o :: l => (bif isNew E o.op then 1 else 0) + news l
def runOpsD (keep : Bool) (ops : Array Oper) (k n : Nat) (l : List Oper) : List (Nat × List Nat) → Nat → St → Option St :=
  List.rec (fun _ _ st => some st) (fun o _ rs ds i st => match ds with
    | [] => none
    | (c, m) :: ds => match opD E ih keep ops k n i c m o st with
      | none => none
      | some st' => rs ds (bif isNew E o.op then i + 1 else i) st') l
def regionD (f id : Nat) (ops : Array Oper) (st : St) : Option St :=
  (E.dr f id).bind fun ds => (news E ops.toList |> fun n =>
    runOpsD E ih (E.keep f) ops (llen st.h) n ops.toList ds 0 ⟨st.t, st.h ++ reps n none, st.lp, st.df⟩)

/-! What makes a region's orders all one: looked at once. -/
def isPure : Op → Bool
  | .move _ | .assign _ | .pick .. | .build .. | .fieldAddr .. | .field .. | .unOp .. | .makeInterface .. | .makeFunc .. | .extract .. | .nilCheck _ | .binOp .. => true
  | _ => false
def isSimple : Op → Bool
  | .load .. | .indexAddr .. | .index .. | .call _ => true
  | _ => false
def tmpsOf (l : List Operand) : List Nat := List.rec [] (fun o _ ih => match o with | .tmp t => t :: ih | _ => ih) l
/-- The slots that it looks at. -/
def reads (ops : Array Oper) (o : Oper) : List Nat :=
  tmpsOf o.op.operands.toList ++ (match o.guard with
    | some (j, _) => (match lget ops.toList j with | some g => g.dst.toList | none => [])
    | none => [])
def apartS (ops : Array Oper) (a b : Oper) : Bool :=
  (match a.dst with | some d => not (hasN (reads ops b) d) && not (b.dst == some d) | none => true) &&
  (match b.dst with | some d => not (hasN (reads ops a) d) | none => true)
/-- Two operations, neither of which need come first. n, n': their own blocks. -/
def dstNot (o : Oper) (m : List Nat) : Bool := match o.dst with | some d => not (hasN m d) | none => true
def inM (m : List Nat) (o : Oper) : Bool := match o.op with | .load _ (.tmp s) => hasN m s | _ => false
def quietC (c : Nat) : Bool := Nat.beq c 1 || (Nat.beq c 2 || Nat.beq c 5)
def apart67 (a b : Oper) (ca cb : Nat) (ma mb : List Nat) : Bool :=
  (Nat.beq ca 9 && (Nat.beq cb 7 || Nat.beq cb 8)) || ((Nat.beq cb 9 && (Nat.beq ca 7 || Nat.beq ca 8)) || (
  (Nat.beq ca 8 && (quietC cb || (Nat.beq cb 7 || (Nat.beq cb 8 || Nat.beq cb 6)))) || ((Nat.beq cb 8 && (quietC ca || (Nat.beq ca 7 || Nat.beq ca 6))) || (
  (Nat.beq ca 7 && (quietC cb || Nat.beq cb 7)) || ((quietC ca && Nat.beq cb 7) || ((Nat.beq ca 6 && (Nat.beq cb 7 && inM ma b)) || (Nat.beq ca 7 && (Nat.beq cb 6 && inM mb a))))))))
def apartC (ops : Array Oper) (a b : Oper) (ca cb : Nat) (ma mb : List Nat) (na nb : Nat) : Bool :=
  (apartS ops a b && ((not (Nat.beq ca 6) || dstNot b ma) && (not (Nat.beq cb 6) || dstNot a mb))) &&
  (Nat.beq ca 0 || (Nat.beq cb 0 || (apart67 a b ca cb ma mb ||
    ((Nat.beq ca 4 && Nat.beq cb 2) || ((Nat.beq ca 2 && Nat.beq cb 4) ||
      ((Nat.beq ca 1 || (Nat.beq ca 2 || Nat.beq ca 5)) && ((Nat.beq cb 1 || (Nat.beq cb 2 || Nat.beq cb 5)) &&
        ((not (isNew E a.op && Nat.beq ca 1) || hasN mb na) && (not (isNew E b.op && Nat.beq cb 1) || hasN ma nb)))))))))
/-- Every operation that comes before: a set of places. -/
def befores (l : List Oper) : List Nat → List Nat :=
  List.rec (fun acc => acc) (fun o _ ih acc => ih (acc ++ [o.after.toList.foldl (fun s e => bif Region.binds .any e then Nat.lor s (Nat.lor (2 ^ e.on) ((lget acc e.on).getD 0)) else s) 0])) l
def okOne (o : Oper) (i : Nat) (c : Nat) : Bool :=
  (o.after.toList.all fun e => not (Region.binds .any e) || Nat.blt e.on i) &&
  (bif Nat.beq c 0 then isPure o.op else bif Nat.beq c 2 then isSimple o.op else true)
/-- Operation i against those before it. -/
def okAll (ops : Array Oper) (o : Oper) (bf : Nat) (c : Nat) (m : List Nat) (nw : Nat) (l : List Oper) (ds : List (Nat × List Nat)) : Nat → Nat → Bool :=
  List.rec (fun _ _ _ => true) (fun p _ ih ds j nj => match ds with
    | [] => true
    | (cj, mj) :: ds => (Nat.testBit bf j || apartC E ops p o cj c mj m nj nw) && ih ds (j + 1) (bif isNew E p.op then nj + 1 else nj)) l ds
def okFrom (ops : Array Oper) (bfs : List Nat) (ds0 : List (Nat × List Nat)) (l : List Oper) (ds : List (Nat × List Nat)) : Nat → Nat → Bool :=
  List.rec (fun _ _ _ => true) (fun o _ ih ds i nw => match ds with
    | [] => false
    | (c, m) :: ds => okOne o i c && (okAll E ops o ((lget bfs i).getD 0) c m nw (ops.toList.take i) (ds0.take i) 0 0 && ih ds (i + 1) (bif isNew E o.op then nw + 1 else nw))) l ds
def drOk (ops : Array Oper) (ds : List (Nat × List Nat)) : Bool := okFrom E ops (befores ops.toList []) ds ops.toList ds 0 0

def execB (f fb cur : Nat) (c : Code) (st : St) : Option (Ex × St) :=
  match c with
  | .skip => some (.nm, st)
  | .label _ => some (.nm, st)
  | .region id ops draw => match (bif draw then regionD E ih f id ops st else runOps E ih (E.keep f) ops ops.toList st) with
    | some st' => some (.nm, st')
    | none => none
  | .seq a b => match ih f fb cur a st with
    | some (.nm, st') => ih f fb cur b st'
    | r => r
  | .cond c a b => match ev st.t c with
    | .im (.bool t) => bif t then ih f fb cur a st else ih f fb cur b st
    | _ => none
  | .block id b => match ih f fb id b st with
    | some (.exit j, st') => bif Nat.beq j id then some (.nm, st') else some (.exit j, st')
    | r => r
  | .loop b => match ih f fb cur b st with
    | some (.nm, st') => ih f fb cur (.loop b) st'
    | r => r
  | .scope b => ih f fb cur b st
  | .rangeFunc g ps asg body => (match (match ev st.t g with | .fn g a cap => some (g, a, cap) | .im (.fn g) => some (g, [], []) | _ => none : Option (Nat × List V × List V)) with
    | some (g, a, cap) => (match inlineV E ih g (a ++ (.yld (llen st.h + 1) :: cap)) (st.h ++ [none, some (.lp f st.t ps.toList asg body)]) st.lp with
      | some (_, h', lp) => (match hget h' (llen st.h + 1) with
        | some (.lp ..) => some (.nm, ⟨st.t, lset h' (llen st.h + 1) none, lp, bif Nat.beq fb 0 then (llen st.h, [V.undef]) :: st.df else st.df⟩)
        | _ => none)
      | none => none)
    | none => none)
  | .exit id => some (.exit id, st)
  | .ret => some (.ret, st)
  | _ => none
end

def exec (E : Env) (n : Nat) : Nat → Nat → Nat → Code → St → Option (Ex × St) :=
  Nat.rec (fun _ _ _ _ _ => none) (fun _ ih => execB E ih) n

/-- A call from outside: data in, data out. -/
def callD (E : Env) (n f : Nat) (args : List D) : Option D := dataV E (exec E n) f args

end
end Go.As
