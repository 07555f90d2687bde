/-
  AS: an abstract evaluator of the model's Code over a memory without capacities and draws. This file holds the definitions alone. What the kernel has to run fast is written by recursors.
-/
import Derived.RangeFuncIn
import Derived.Below
import Derived.OrdersIn
import Derived.RangeFuncLeaves
import Derived.RangeFuncOwn
import Derived.RangeFuncNested
import Derived.Lib.FrozenHead
import Derived.WalkKit
set_option linter.unusedSectionVars false
set_option linter.unusedSimpArgs false
set_option linter.unusedVariables false
namespace Go.As
noncomputable section
inductive D where
 | bool (b : Bool)
 | int (k : IntKind) (n : Int)
 | str (s : List Nat)
 | nil
 | ref (d : D)
 | slc (l : List D)
 | agg (w : Nat) (l : List D)
 | tup (l : List D)
 | fn (f : Nat)
 | nfn
 | ifc (t : Nat) (d : D)
 | inil
 | mnil
 deriving Inhabited
def D.wd : D → Nat
 | .agg w _ => w
 | _ => 1
inductive V where
 | undef
 | im (d : D)
 | agg (w : Nat) (l : List V)
 | tup (l : List V)
 | own (b g off len : Nat) (lim : Bool)
 | full (l : List D)
 | ptr (b g : Nat) (p : List (Nat × Nat))
 | fn (f : Nat) (first captured : List V)
 | ifc (t : Nat) (v : V)
 | mp (b : Nat)
 | yld (i : Nat)
 deriving Inhabited
def V.wd : V → Nat
 | .im d => d.wd
 | .agg w _ => w
 | _ => 1
inductive Tm where
 | e
 | n (v : V) (l r : Tm)
 deriving Inhabited
inductive Blk where
 | cell (v : V)
 | arr (g s ro : Nat) (l : List D)
 | mp (es : List (D × V)) (s : List Nat) (ck : Nat)
 | arv (g s : Nat) (l : List V)
 | bld (t e : Nat) (s : List Nat)
 | lp (f : Nat) (t : Tm) (ps : List Nat) (asg body : Code)
 | it (v : V) (since : Nat) (seen : List Nat) (last : Nat)
 deriving Inhabited
abbrev Heap := List (Option Blk)
def Tm.get (t : Tm) : Nat → V :=
 Tm.rec (fun _ => V.undef) (fun v _ _ gl gr i => Bool.rec (Bool.rec (gr (Nat.sub (Nat.div i 2) 1)) (gl (Nat.div i 2)) (Nat.beq (Nat.mod i 2) 1)) v (Nat.beq i 0)) t
def Tm.set (t : Tm) : Nat → V → Tm :=
 Tm.rec (fun _ _ => Tm.e) (fun v l r sl sr i x => Bool.rec (Bool.rec (Tm.n v l (sr (Nat.sub (Nat.div i 2) 1) x)) (Tm.n v (sl (Nat.div i 2) x) r) (Nat.beq (Nat.mod i 2) 1)) (Tm.n x l r) (Nat.beq i 0)) t
def Tm.mk (d : Nat) : Tm := Nat.rec Tm.e (fun _ t => Tm.n .undef t t) d
structure Rec where
 f : Nat
 t : Tm
 ps : List Nat
 asg : Code
 body : Code
 sta : Nat
 pend : Option Code
 deriving Inhabited
structure St where
 t : Tm
 h : Heap
 lp : List Rec
 df : List (Nat × List V)
 deriving Inhabited
inductive TK where
 | bool | int (k : IntKind) | str | ptr | slc (e : Nat) | arr (n e : Nat) | st (fs : List (Nat × Nat × Nat)) | fn | ifc (named : Bool) | map (k e : Nat) | oth
 deriving Inhabited
structure TI where
 k : TK
 size : Nat
 bytes : Nat
 zero : V
 deriving Inhabited
inductive Tb (α : Type) where
 | e
 | n (k : Nat) (v : α) (l r : Tb α)
def Tb.find {α : Type} (t : Tb α) (i : Nat) : Option α :=
 Tb.rec none (fun k v _ _ fl fr => bif Nat.beq i k then some v else bif Nat.blt i k then fl else fr) t
structure Env where
 ty : Nat → Option TI
 fn : Nat → Option Func
 sm : Nat → Option (List D → Option D)
 clone : Nat → Option Nat
 ext : Nat → Nat
 meth : Nat → String → Option Nat
 inl : Nat → Bool
 keep : Nat → Bool
 dr : Nat → Nat → Option (List (Nat × List Nat))
 bty : Nat × Nat
inductive Ex where
 | nm | exit (id : Nat) | ret
 deriving Inhabited, DecidableEq
def lget {α : Type} (l : List α) : Nat → Option α :=
 List.rec (fun _ => none) (fun b _ ih i => match i with | 0 => some b | j + 1 => ih j) l
def lset {α : Type} (l : List α) : Nat → α → List α :=
 List.rec (fun _ _ => []) (fun b r ih i x => match i with | 0 => x :: r | j + 1 => b :: ih j x) l
def hput (l : Heap) : Nat → Blk → Heap :=
 List.rec (fun _ x => [some x]) (fun b r ih i x => match i with | 0 => some x :: r | j + 1 => b :: ih j x) l
def hget (h : Heap) (b : Nat) : Option Blk := Option.rec none (fun x => x) (lget h b)
def llen {α : Type} (l : List α) : Nat := List.rec 0 (fun _ _ n => n + 1) l
def wdsTo (l : List V) : Nat → Nat :=
 List.rec (fun _ => 0) (fun v _ ih i => match i with | 0 => 0 | j + 1 => v.wd + ih j) l
def wdsToD (l : List D) : Nat → Nat :=
 List.rec (fun _ => 0) (fun v _ ih i => match i with | 0 => 0 | j + 1 => v.wd + ih j) l
def imap (l : List D) : List V := List.rec [] (fun d _ ih => V.im d :: ih) l
def allIm (l : List V) : Option (List D) :=
 List.rec (some []) (fun v _ ih => match v with
  | .im d => Option.rec none (fun ds => some (d :: ds)) ih
  | _ => none) l
def mkAgg (w : Nat) (l : List V) : V := Option.rec (V.agg w l) (fun ds => V.im (.agg w ds)) (allIm l)
def mkTup (l : List V) : V := Option.rec (V.tup l) (fun ds => V.im (.tup ds)) (allIm l)
def V.kids : V → Option (List V)
 | .im (.agg _ l) => some (imap l)
 | .agg _ l => some l
 | _ => none
def V.part (v : V) (i : Nat) : Option V :=
 match v with
 | .im (.tup l) => (lget l i).map .im
 | .tup l => lget l i
 | _ => none
def V.kid (v : V) (k o : Nat) : Option V :=
 match v with
 | .im (.agg _ l) => bif Nat.beq (wdsToD l k) o then (lget l k).map .im else none
 | .agg _ l => bif Nat.beq (wdsTo l k) o then lget l k else none
 | _ => none
def V.nav (v : V) (p : List (Nat × Nat)) : Option V :=
 List.rec (fun v => some v) (fun s _ ih v => (V.kid v s.1 s.2).bind ih) p v
def V.put (x : V) (p : List (Nat × Nat)) (v : V) : Option V :=
 List.rec (fun v => bif Nat.beq x.wd v.wd then some x else none) (fun s _ ih v =>
  v.kids.bind fun l => bif Nat.beq (wdsTo l s.1) s.2 then (lget l s.1).bind fun c => (ih c).map fun c' => mkAgg v.wd (lset l s.1 c') else none) p v
def cutAll {α : Type} (l : List α) (off len : Nat) : List α := bif Nat.beq off 0 && Nat.beq len (llen l) then l else (l.drop off).take len
def cutOk {α : Type} (g g' off len : Nat) (l : List α) : Bool := Nat.beq g g' && Nat.ble (off + len) (llen l)
mutual
def V.dataR (o : Nat → Nat → Nat → Nat → Option (List D)) : V → Option D
 | .im d => some d
 | .full l => some (.slc l)
 | .own b g off len _ => (o b g off len).map .slc
 | .agg w l => (V.dataRs o l).map (.agg w)
 | .tup l => (V.dataRs o l).map .tup
 | .fn f [] [] => some (.fn f)
 | .ifc t v => (v.dataR o).map (.ifc t)
 | _ => none
def V.dataRs (o : Nat → Nat → Nat → Nat → Option (List D)) : List V → Option (List D)
 | [] => some []
 | v :: l => match v.dataR o, V.dataRs o l with
  | some d, some ds => some (d :: ds)
  | _, _ => none
end
def ownElemsN (h : Heap) (n : Nat) : Nat → Nat → Nat → Nat → Option (List D) :=
 Nat.rec (fun _ _ _ _ => none) (fun _ ih b g off len => match hget h b with
  | some (.arr g' _ _ l) => bif cutOk g g' off len l then some (cutAll l off len) else none
  | some (.arv g' _ l) => bif cutOk g g' off len l then V.dataRs ih (cutAll l off len) else none
  | _ => none) n
def ownElems (h : Heap) (b g off len : Nat) : Option (List D) := ownElemsN h 4 b g off len
def V.data (h : Heap) (v : V) : Option D :=
 match v with
 | .im d => some d
 | .own b g off len _ => (ownElems h b g off len).map .slc
 | v => v.dataR (ownElems h)
mutual
def V.ownsR : V → List Nat
 | .own b _ _ _ _ => [b]
 | .agg _ l => V.ownsRs l
 | .tup l => V.ownsRs l
 | .ifc _ v => v.ownsR
 | _ => []
def V.ownsRs : List V → List Nat
 | [] => []
 | v :: l => v.ownsR ++ V.ownsRs l
end
def V.owns (v : V) : List Nat :=
 match v with
 | .im _ => []
 | .own b _ _ _ _ => [b]
 | v => v.ownsR
def V.ownsL (l : List V) : List Nat := List.rec [] (fun v _ ih => match v with | .im _ => ih | v => v.owns ++ ih) l
def allArr (h : Heap) (bs : List Nat) : Bool := List.rec true (fun b _ ih => match hget h b with | some (.arr ..) => ih | _ => false) bs
def close (h : Heap) (bs : List Nat) : Heap :=
 List.rec (fun h => h) (fun b _ ih h => match hget h b with
  | some (.arr g s _ l) => ih (hput h b (.arr g s (llen l) l))
  | _ => ih h) bs h
mutual
def D.flat : D → Bool
 | .bool _ | .int _ _ | .str _ | .nil | .fn _ | .nfn | .inil | .mnil => true
 | .agg _ l => D.flats l
 | .tup l => D.flats l
 | .ifc _ d => d.flat
 | .ref _ | .slc _ => false
def D.flats : List D → Bool
 | [] => true
 | d :: l => d.flat && D.flats l
end
mutual
def V.refsR : V → List Nat
 | .undef | .im _ | .full _ => []
 | .agg _ l | .tup l => V.refsRs l
 | .own b _ _ _ _ => [b]
 | .ptr b _ _ => [b]
 | .fn _ a c => V.refsRs a ++ V.refsRs c
 | .ifc _ v => v.refsR
 | .mp b => [b]
 | .yld b => [b]
def V.refsRs : List V → List Nat
 | [] => []
 | v :: l => v.refsR ++ V.refsRs l
end
def V.refs (v : V) : List Nat :=
 match v with
 | .undef | .im _ | .full _ => []
 | .own b _ _ _ _ => [b]
 | .ptr b _ _ => [b]
 | v => v.refsR
mutual
def V.renR (f : Nat → Option Nat) : V → Option V
 | .undef => some .undef
 | .im d => some (.im d)
 | .full l => some (.full l)
 | .agg w l => (V.renRs f l).map (.agg w)
 | .tup l => (V.renRs f l).map .tup
 | .own b g o n m => (f b).map fun b' => .own b' g o n m
 | .ptr b g p => (f b).map fun b' => .ptr b' g p
 | .fn k a c => match V.renRs f a, V.renRs f c with
  | some a', some c' => some (.fn k a' c')
  | _, _ => none
 | .ifc t v => (v.renR f).map (.ifc t)
 | .mp b => (f b).map .mp
 | .yld b => (f b).map .yld
def V.renRs (f : Nat → Option Nat) : List V → Option (List V)
 | [] => some []
 | v :: l => match v.renR f, V.renRs f l with
  | some v', some l' => some (v' :: l')
  | _, _ => none
end
def V.ren (f : Nat → Option Nat) (v : V) : Option V :=
 match v with
 | .undef => some .undef
 | .im d => some (.im d)
 | .own b g o n m => (f b).map fun b' => .own b' g o n m
 | .ptr b g p => (f b).map fun b' => .ptr b' g p
 | v => v.renR f
mutual
def V.growR (k : Nat) : V → V × Nat
 | .full [] => (.own k 0 0 0 false, k + 1)
 | .agg w l => let (l', k') := V.growRs k l; (.agg w l', k')
 | .tup l => let (l', k') := V.growRs k l; (.tup l', k')
 | v => (v, k)
def V.growRs (k : Nat) : List V → List V × Nat
 | [] => ([], k)
 | v :: l => let (v', k') := V.growR k v; let (l', k'') := V.growRs k' l; (v' :: l', k'')
end
def V.grow (k : Nat) (v : V) : V × Nat :=
 match v with
 | .full [] => (.own k 0 0 0 false, k + 1)
 | .agg w l => V.growR k (.agg w l)
 | .tup l => V.growR k (.tup l)
 | v => (v, k)
def growL (l : List V) : Nat → List V × Nat :=
 List.rec (fun k => ([], k)) (fun v _ ih k => match V.grow k v with | (v', k') => match ih k' with | (l', k'') => (v' :: l', k'')) l
def growE (l : List (D × V)) : Nat → List (D × V) × Nat :=
 List.rec (fun k => ([], k)) (fun e _ ih k => match V.grow k e.2 with | (v', k') => match ih k' with | (l', k'') => ((e.1, v') :: l', k'')) l
def growH (h : Heap) : Nat → Heap × Nat :=
 List.rec (fun k => ([], k)) (fun b _ ih k => match b with
  | some (.cell v) => (match V.grow k v with | (v', k') => match ih k' with | (l', k'') => (some (.cell v') :: l', k''))
  | some (.mp es s ck) => (match growE es k with | (es', k') => match ih k' with | (l', k'') => (some (.mp es' s ck) :: l', k''))
  | some (.arv g s vs) => (match growL vs k with | (vs', k') => match ih k' with | (l', k'') => (some (.arv g s vs') :: l', k''))
  | b => match ih k with | (l', k'') => (b :: l', k'')) h
def renL (f : Nat → Option Nat) (l : List V) : Option (List V) :=
 List.rec (some []) (fun v _ ih => match V.ren f v with | some v' => Option.rec none (fun l' => some (v' :: l')) ih | none => none) l
def renE (f : Nat → Option Nat) (l : List (D × V)) : Option (List (D × V)) :=
 List.rec (some []) (fun e _ ih => match V.ren f e.2 with | some v' => Option.rec none (fun l' => some ((e.1, v') :: l')) ih | none => none) l
def Blk.ren (f : Nat → Option Nat) (b : Option Blk) : Option (Option Blk) :=
 match b with
 | some (.cell v) => (v.ren f).map fun v' => some (.cell v')
 | some (.mp es s ck) => (renE f es).map fun es' => some (.mp es' s ck)
 | some (.arv g s l) => (renL f l).map fun l' => some (.arv g s l')
 | b => some b
def renH (f : Nat → Option Nat) (h : Heap) : Option Heap :=
 List.rec (some []) (fun b _ ih => match Blk.ren f b with | some b' => Option.rec none (fun l' => some (b' :: l')) ih | none => none) h
def Tm.refs (t : Tm) : List Nat := Tm.rec [] (fun v _ _ a b => V.refs v ++ (a ++ b)) t
def refsL (l : List V) : List Nat := List.rec [] (fun v _ ih => match V.refs v with | [] => ih | r => r ++ ih) l
def refsE (l : List (D × V)) : List Nat := List.rec [] (fun e _ ih => match V.refs e.2 with | [] => ih | r => r ++ ih) l
def heapRefs (h : Heap) : List Nat := List.rec [] (fun b _ ih => match b with | some (.cell v) => V.refs v ++ ih | some (.mp es _ _) => refsE es ++ ih | some (.it v _ _ _) => V.refs v ++ ih | some (.arv _ _ l) => refsL l ++ ih | some (.lp _ t _ _ _) => Tm.refs t ++ ih | _ => ih) h
def hasN (l : List Nat) (b : Nat) : Bool := List.rec false (fun a _ ih => bif Nat.beq a b then true else ih) l
def addNew (fb : Nat) (l : List Nat) : List Nat → List Nat :=
 List.rec (fun acc => acc) (fun b _ ih acc => ih (bif Nat.blt b fb then acc else bif hasN acc b then acc else acc ++ [b])) l
def reachIn (h : Heap) (fb n : Nat) : List Nat → List Nat :=
 Nat.rec (fun acc => acc) (fun _ ih acc => match addNew fb (heapRefs (acc.map fun b => hget h b)) acc with
  | acc' => bif Nat.beq (llen acc') (llen acc) then acc else ih acc') n
def indexIn (l : List Nat) (b : Nat) : Option Nat := List.rec none (fun a _ ih => bif Nat.beq a b then some 0 else ih.map (· + 1)) l
def ofVal : Value → Option V
 | .bool b => some (.im (.bool b))
 | .int k n => some (.im (.int k n))
 | .string s => some (.im (.str (s.data.toList.map UInt8.toNat)))
 | .pointer none => some (.im .nil)
 | .slice none 0 0 => some (.full [])
 | .nilFunc => some (.im .nfn)
 | .nilIface => some (.im .inil)
 | .map none => some (.im .mnil)
 | _ => none
def ev (t : Tm) : Operand → V
 | .tmp n => t.get n
 | .const v => Option.rec V.undef (fun x => x) (ofVal v)
 | .func f => .fn f [] []
 | .global _ => .undef
def evs (t : Tm) (l : Array Operand) : List V := List.rec [] (fun o _ ih => ev t o :: ih) l.toList
def ilt (x y : Int) : Bool :=
 Int.rec (fun a => Int.rec (fun b => Nat.blt a b) (fun _ => false) y) (fun a => Int.rec (fun _ => true) (fun b => Nat.blt b a) y) x
def ile (a b : Int) : Bool := not (ilt b a)
def ieq (x y : Int) : Bool :=
 Int.rec (fun a => Int.rec (fun b => Nat.beq a b) (fun _ => false) y) (fun a => Int.rec (fun _ => false) (fun b => Nat.beq a b) y) x
def umod (n : Int) (m : Nat) : Nat := Int.rec (fun a => a % m) (fun a => m - 1 - a % m) n
def sgn (h m : Nat) (n : Int) : Int := bif Nat.blt (umod n m) h then Int.ofNat (umod n m) else Int.ofNat (umod n m) - Int.ofNat m
def wr (k : IntKind) (n : Int) : Int :=
 IntKind.rec (sgn 128 256 n) (sgn 32768 65536 n) (sgn 2147483648 4294967296 n) (sgn 9223372036854775808 18446744073709551616 n)
  (Int.ofNat (umod n 256)) (Int.ofNat (umod n 65536)) (Int.ofNat (umod n 4294967296)) (Int.ofNat (umod n 18446744073709551616)) k
def kb (k : IntKind) : Nat := IntKind.rec 8 16 32 64 8 16 32 64 k
def keq (a b : IntKind) : Bool := Nat.beq (kn a) (kn b)
where kn (k : IntKind) : Nat := IntKind.rec 0 1 2 3 4 5 6 7 k
def word (k : IntKind) (n : Int) : Nat := umod n (2 ^ kb k)
def im (k : IntKind) (n : Int) : Option V := some (.im (.int k n))
def bm (b : Bool) : Option V := some (.im (.bool b))
def intArith (op : BinOp) (k : IntKind) (x y : Int) : Option V :=
 match op with
 | .add => im k (wr k (x + y))
 | .sub => im k (wr k (x - y))
 | .mul => im k (wr k (x * y))
 | .quo => bif ieq y 0 then none else im k (wr k (x.tdiv y))
 | .rem => bif ieq y 0 then none else im k (x.tmod y)
 | .and => im k (wr k (Int.ofNat (Nat.land (word k x) (word k y))))
 | .or => im k (wr k (Int.ofNat (Nat.lor (word k x) (word k y))))
 | .xor => im k (wr k (Int.ofNat (Nat.xor (word k x) (word k y))))
 | .andNot => im k (wr k (Int.ofNat (Nat.land (word k x) (2 ^ kb k - 1 - word k y))))
 | .eql => bm (ieq x y)
 | .neq => bm (not (ieq x y))
 | .lss => bm (ilt x y)
 | .leq => bm (ile x y)
 | .gtr => bm (ilt y x)
 | .geq => bm (ile y x)
 | .shl => bif ilt y 0 then none else im k (wr k (x * Int.ofNat (2 ^ Nat.min y.toNat (kb k))))
 | .shr => bif ilt y 0 then none else im k (x.fdiv (Int.ofNat (2 ^ Nat.min y.toNat (kb k))))
def seq (x y : List Nat) : Bool :=
 List.rec (fun y => match y with | [] => true | _ :: _ => false) (fun a _ ih y => match y with | [] => false | b :: r => bif Nat.beq a b then ih r else false) x y
def slt (x y : List Nat) : Bool :=
 List.rec (fun y => match y with | [] => false | _ :: _ => true) (fun a _ ih y => match y with | [] => false | b :: r => bif Nat.blt a b then true else bif Nat.beq a b then ih r else false) x y
def strOp (op : BinOp) (x y : List Nat) : Option V :=
 match op with
 | .add => bif Nat.ble (llen x + llen y) 4611686018427387904 then some (.im (.str (x ++ y))) else none
 | .eql => bm (seq x y)
 | .neq => bm (not (seq x y))
 | .lss => bm (slt x y)
 | .leq => bm (or (slt x y) (seq x y))
 | .gtr => bm (not (or (slt x y) (seq x y)))
 | .geq => bm (not (slt x y))
 | _ => none
def okAgg (k : TK) (v : V) : Bool :=
 match v with
 | .im d => okD k d
 | .agg _ _ => isA k
 | .tup _ | .undef => false
 | _ => not (isA k)
where
 isA (k : TK) : Bool := match k with | .st _ | .arr _ _ => true | _ => false
 okD (k : TK) (d : D) : Bool := match d with | .agg _ _ => isA k | .tup _ => false | _ => not (isA k)
def okV (ti : TI) (v : V) : Bool := Nat.beq v.wd ti.size && okAgg ti.k v
def eqT (E : Env) : Nat → Nat → D → D → Option Bool
 | 0, _, _, _ => none
 | n + 1, t, x, y => (E.ty t).bind fun ti => bif okV ti (.im x) && okV ti (.im y) then
  (match ti.k, x, y with
  | .bool, .bool a, .bool b => some (a == b)
  | .int _, .int k a, .int k' b => bif keq k k' then some (ieq a b) else none
  | .str, .str a, .str b => some (seq a b)
  | .st fs, .agg _ xs, .agg _ ys => eqFs fs 0 xs ys (eqT E n)
  | .arr m e, .agg _ xs, .agg _ ys => (E.ty e).bind fun _ => bif Nat.beq (llen xs) m && Nat.beq (llen ys) m then eqEs xs ys (eqT E n e) else none
  | _, _, _ => none) else none
where
 eqFs : List (Nat × Nat × Nat) → Nat → List D → List D → (Nat → D → D → Option Bool) → Option Bool
  | [], _, [], [], _ => some true
  | (off, _, t) :: fs, o, x :: xs, y :: ys, f => bif Nat.beq off o then (match f t x y, eqFs fs (o + x.wd) xs ys f with
   | some b, some c => some (b && c)
   | _, _ => none) else none
  | _, _, _, _, _ => none
 eqEs : List D → List D → (D → D → Option Bool) → Option Bool
  | [], [], _ => some true
  | x :: xs, y :: ys, f => match f x y, eqEs xs ys f with
   | some b, some c => some (b && c)
   | _, _ => none
  | _, _, _ => none
def nilV (k : TK) (x : V) : Option Bool :=
 match k, x with
 | .ptr, .im .nil => some true
 | .ptr, .im (.ref _) => some false
 | .ptr, .ptr _ _ _ => some false
 | .fn, .im .nfn => some true
 | .fn, .im (.fn _) => some false
 | .fn, .fn _ _ _ => some false
 | .ifc _, .im .inil => some true
 | .ifc _, .im (.ifc _ _) => some false
 | .ifc _, .ifc _ _ => some false
 | .map _ _, .im .mnil => some true
 | .map _ _, .mp _ => some false
 | _, _ => none
def isLitNil : V → Bool
 | .im .nil | .im .nfn | .im .inil | .im .mnil => true
 | _ => false
def twoNil (k : TK) (lit : Bool) : Bool := match k with | .ifc true => lit | _ => true
def cmpT (E : Env) : Nat → Nat → Bool
 | 0, _ => false
 | n + 1, t => match E.ty t with
  | none => false
  | some ti => match ti.k with
   | .bool | .int _ | .str => true
   | .st fs => fs.all fun f => cmpT E n f.2.2
   | .arr _ e => cmpT E n e
   | _ => false
def eqV (E : Env) (t : Nat) (lit : Bool) (x y : V) : Option Bool :=
 bif isLitNil x || isLitNil y then (E.ty t).bind fun ti => (nilV ti.k x).bind fun a => (nilV ti.k y).bind fun b => bif a && b then (bif twoNil ti.k lit then some true else none) else some false else
 match x, y with
 | .im a, .im b => bif cmpT E 12 t then eqT E 12 t a b else none
 | _, _ => none
def eqOp (E : Env) (op : BinOp) (t : Nat) (lit : Bool) (x y : V) : Option V :=
 match op with
 | .eql => (eqV E t lit x y).map fun b => .im (.bool b)
 | .neq => (eqV E t lit x y).map fun b => .im (.bool (not b))
 | _ => none
def isConst : Operand → Bool
 | .const _ => true
 | _ => false
def intBin (op : BinOp) (k : IntKind) (a : Int) (k' : IntKind) (b : Int) : Option V :=
 match op with
 | .shl => intArith .shl k a b
 | .shr => intArith .shr k a b
 | op => bif keq k k' then intArith op k a b else none
def binV (E : Env) (op : BinOp) (t : Nat) (lit : Bool) (x y : V) : Option V :=
 match x with
 | .im (.int k a) => match y with
  | .im (.int k' b) => intBin op k a k' b
  | _ => none
 | .im (.str a) => match y with
  | .im (.str b) => strOp op a b
  | _ => none
 | x => eqOp E op t lit x y
def unV (op : UnOp) (x : V) : Option V :=
 match op, x with
 | .not, .im (.bool b) => bm (not b)
 | .neg, .im (.int k n) => im k (wr k (0 - n))
 | .xor, .im (.int k n) => im k (wr k (Int.ofNat (2 ^ kb k - 1 - word k n)))
 | _, _ => none
def byteD (c : Nat) : D := .int .u8 (Int.ofNat c)
def bytesOf (l : List D) : Option (List Nat) :=
 List.rec (some []) (fun d _ ih => match d with | .int .u8 n => ih.map (n.toNat :: ·) | _ => none) l
def V.elems (h : Heap) : V → Option (List D)
 | .im (.slc l) => some l
 | .full l => some l
 | .own b g off len _ => ownElems h b g off len
 | _ => none
def Env.kind (E : Env) (t : Nat) : Option TK := (E.ty t).map TI.k
def convV (E : Env) (h : Heap) (nid : Nat) (s d : Nat) (x : V) : Option (V × Heap) :=
 match E.kind s, E.kind d, x with
 | some (.int _), some (.int k), .im (.int _ n) => some (.im (.int k (wr k n)), h)
 | some .str, some .str, .im (.str b) => some (.im (.str b), h)
 | some .str, some (.slc e), .im (.str b) =>
  match E.kind e with
  | some (.int .u8) => some (.own nid 0 0 (llen b) false, hput h nid (.arr 0 1 0 (b.map byteD)))
  | _ => none
 | some (.slc e), some .str, x =>
  match E.kind e, x.elems h with
  | some (.int .u8), some l => (bytesOf l).map fun bs => (.im (.str bs), h)
  | _, _ => none
 | _, _, _ => none
def bound (hi : Nat) (x : Option V) (dflt : Nat) : Option Nat :=
 match x with
 | none => some dflt
 | some (.im (.int _ n)) => bif ile 0 n && ile n (Int.ofNat hi) then some n.toNat else none
 | _ => none
def bounds (len : Nat) (lo hi mx : Option V) : Option (Nat × Nat × Nat) :=
 (bound len mx len).bind fun m => (match hi, mx with | none, some _ => none | _, _ => bound m hi len).bind fun j => (bound j lo 0).map fun i => (i, j, m)
def cut {α : Type} (l : List α) (i j : Nat) : List α := (l.drop i).take (j - i)
def sliceOwn (b g off len : Nat) (lim : Bool) (lo hi mx : Option V) : Option V :=
 (bounds len lo hi mx).bind fun r =>
  Option.rec (some (.own b g (off + r.1) (r.2.1 - r.1) (lim && Nat.beq r.2.1 len))) (fun _ => bif Nat.beq r.2.1 r.2.2 then some (.own b g (off + r.1) (r.2.1 - r.1) true) else none) mx
def isNone (l : List D) : Bool := match l with | [] => true | _ :: _ => false
def isNoneV (l : List V) : Bool := match l with | [] => true | _ :: _ => false
def firstWd (sz : Nat) (l : List D) : Bool := match l with | [] => true | d :: _ => Nat.beq d.wd sz
def sliceS (x : V) (lo hi mx : Option V) : Option V :=
 match x with
 | .im (.str s) => Option.rec ((bounds (llen s) lo hi none).map fun b => .im (.str (cut s b.1 b.2.1))) (fun _ => none) mx
 | _ => none
def sliceT (h : Heap) (sz : Nat) (x : V) (lo hi mx : Option V) : Option V :=
 match x with
 | .im (.slc l) => bif firstWd sz l then (bounds (llen l) lo hi mx).bind fun b =>
  Option.rec (some (.im (.slc (cut l b.1 b.2.1)))) (fun _ => bif Nat.beq b.2.1 b.2.2 then some (.full (cut l b.1 b.2.1)) else none) mx else none
 | .full l => bif firstWd sz l then (bounds (llen l) lo hi mx).map fun b => bif Nat.beq b.2.1 b.2.2 then .full (cut l b.1 b.2.1) else .im (.slc (cut l b.1 b.2.1)) else none
 | .own b g off len lim => match hget h b with
  | some (.arr g' s _ l) => bif cutOk g g' off len l && (Nat.beq s sz || isNone l) then sliceOwn b g off len lim lo hi mx else none
  | some (.arv g' s l) => bif cutOk g g' off len l && (Nat.beq s sz || isNoneV l) then sliceOwn b g off len lim lo hi mx else none
  | _ => none
 | _ => none
def sliceV (E : Env) (t : Nat) (h : Heap) (x : V) (lo hi mx : Option V) : Option V :=
 (E.ty t).bind fun ti => match ti.k with
  | .str => sliceS x lo hi mx
  | .slc el => (E.ty el).bind fun te => sliceT h te.size x lo hi mx
  | _ => none
def loadV (h : Heap) (b g : Nat) (p : List (Nat × Nat)) : Option V :=
 match hget h b with
 | some (.cell v) => bif Nat.beq g 0 then v.nav p else none
 | some (.arr g' s _ l) => match p with
  | (i, o) :: q => bif Nat.beq g g' && Nat.beq o (i * s) then (lget l i).bind fun d => (V.im d).nav q else none
  | [] => none
 | some (.arv g' s l) => match p with
  | (i, o) :: q => bif Nat.beq g g' && Nat.beq o (i * s) then (lget l i).bind fun v => v.nav q else none
  | [] => none
 | _ => none
def storeV (h : Heap) (b g : Nat) (p : List (Nat × Nat)) (x : V) : Option Heap :=
 match hget h b with
 | some (.cell v) => bif Nat.beq g 0 then (V.put x p v).map fun v' => hput h b (.cell v') else none
 | some (.arr g' s ro l) => match p with
  | (i, o) :: q =>
   bif Nat.beq g g' && (Nat.beq o (i * s) && Nat.ble ro i) then
    (lget l i).bind fun d => (x.data h).bind fun dx => (V.put (.im dx) q (.im d)).bind fun v' => match v' with
     | .im d' => bif allArr h x.owns && not (hasN x.owns b) then some (hput (close h x.owns) b (.arr g' s ro (lset l i d'))) else none
     | _ => none
   else none
  | [] => none
 | some (.arv g' s l) => match p with
  | (i, o) :: q => bif Nat.beq g g' && Nat.beq o (i * s) then (lget l i).bind fun v => (V.put x q v).map fun v' => hput h b (.arv g' s (lset l i v')) else none
  | [] => none
 | _ => none
def isPlain (v : V) : Bool := match v with | .undef | .tup _ | .im (.tup _) => false | _ => true
def fillAt (kids : List V) (place : Nat → Option (Nat × Nat)) (ps : List (Nat × V)) : Option (List V) :=
 List.rec (fun l => some l) (fun p _ ih l => (place p.1).bind fun os => (lget l p.1).bind fun c =>
  bif Nat.beq (wdsTo l p.1) os.1 && (Nat.beq c.wd os.2 && (Nat.beq p.2.wd os.2 && isPlain p.2)) then ih (lset l p.1 p.2) else none) ps kids
def fillD (h : Heap) (sz : Nat) (l : List D) (ps : List (Nat × V)) : Option (List D) :=
 List.rec (fun l => some l) (fun p _ ih l => (p.2.data h).bind fun d => (lget l p.1).bind fun _ => bif Nat.beq d.wd sz && isPlain p.2 then ih (lset l p.1 d) else none) ps l
def ownsP (ps : List (Nat × V)) : List Nat := List.rec [] (fun p _ ih => match V.owns p.2 with | [] => ih | bs => bs ++ ih) ps
abbrev R := Option (V × Heap)
def pure1 (h : Heap) (x : Option V) : R := Option.rec none (fun v => some (v, h)) x
def evP (e : Operand → V) (ps : Array (Nat × Operand)) : List (Nat × V) := List.rec [] (fun p _ ih => (p.1, e p.2) :: ih) ps.toList
def sPick (h : Heap) (c a b : V) : R := match c with | .im (.bool t) => bif t then some (a, h) else some (b, h) | _ => none
def sAlloc (E : Env) (nid : Nat) (h : Heap) (t : Nat) : R :=
 (E.ty t).bind fun ti => bif okV ti ti.zero then
  bif Nat.beq t E.bty.1 then some (.ptr nid 0 [], hput h nid (.bld t E.bty.2 [])) else some (.ptr nid 0 [], hput h nid (.cell ti.zero)) else none
def sBox (E : Env) (nid : Nat) (h : Heap) (t : Nat) (x : V) : R :=
 (E.ty t).bind fun ti => bif okV ti x then some (.ptr nid 0 [], hput h nid (.cell x)) else none
def sBuild (E : Env) (h : Heap) (t : Nat) (ps : List (Nat × V)) : R :=
 (E.ty t).bind fun ti => ti.zero.kids.bind fun l =>
  match ti.k with
  | .st fs => (fillAt l (fun i => (lget fs i).map (fun f => (f.1, f.2.1))) ps).map fun l' => (mkAgg ti.zero.wd l', h)
  | .arr _ el => (E.ty el).bind fun te => (fillAt l (fun i => some (i * te.size, te.size)) ps).map fun l' => (mkAgg ti.zero.wd l', h)
  | _ => none
def reps {α : Type} (n : Nat) (x : α) : List α := Nat.rec [] (fun _ ih => x :: ih) n
def anyOwn (ps : List (Nat × V)) : Bool := List.rec false (fun p _ ih => match p.2 with | .im _ => ih | _ => true) ps
def sBuildSlice (E : Env) (keep : Bool) (nid : Nat) (h : Heap) (t n : Nat) (ps : List (Nat × V)) : R :=
 (E.ty t).bind fun ti => match ti.k with
  | .slc el => (E.ty el).bind fun te => bif Nat.ble (n * te.size) 16777216 && Nat.ble n 16777216 then (te.zero.data []).bind fun z => bif not (okV te (.im z)) then none else match (bif keep && anyOwn ps then none else fillD h te.size (reps n z) ps) with
   | some l => bif allArr h (ownsP ps) then some (.own nid 0 0 n false, hput (close h (ownsP ps)) nid (.arr 0 te.size 0 l)) else none
   | none => (fillAt (reps n te.zero) (fun i => some (i * te.size, te.size)) ps).map fun l => (.own nid 0 0 n false, hput h nid (.arv 0 te.size l)) else none
  | _ => none
def sLoad (E : Env) (h : Heap) (t : Nat) (a : V) : R :=
 (E.ty t).bind fun ti => match a with
  | .ptr b g p => (loadV h b g p).bind fun v => bif okV ti v then some (v, h) else none
  | .im (.ref d) => bif okV ti (.im d) then some (.im d, h) else none
  | _ => none
def sStore (E : Env) (h : Heap) (t : Nat) (a x : V) : R :=
 (E.ty t).bind fun ti => match a with
  | .ptr b g p => bif okV ti x then (storeV h b g p x).map fun h' => (.undef, h') else none
  | _ => none
def sNilCheck (h : Heap) (x : V) : R := match x with | .ptr b g p => some (.ptr b g p, h) | .im (.ref d) => some (.im (.ref d), h) | _ => none
def sMakeSlice (E : Env) (nid : Nat) (h : Heap) (t : Nat) (l c : V) : R :=
 (E.ty t).bind fun ti => match ti.k with
  | .slc el => (E.ty el).bind fun te => (te.zero.data []).bind fun z => match l, c with
   | .im (.int .i64 n), .im (.int .i64 m) =>
    bif okV te (.im z) && (ile 0 n && (ile n m && ile (m * Int.ofNat te.bytes) 70368744177664)) then some (.own nid 0 0 n.toNat false, hput h nid (.arr 0 te.size 0 (reps n.toNat z))) else none
   | _, _ => none
  | _ => none
def sIface (E : Env) (h : Heap) (t : Nat) (x : V) : R :=
 match E.kind t with
 | some (.ifc _) => none
 | some _ => (match x with | .im d => some (.im (.ifc t d), h) | .undef => none | v => some (.ifc t v, h))
 | none => none
def sFieldAddr (E : Env) (h : Heap) (t : Nat) (x : V) (k : Nat) : R :=
 (E.ty t).bind fun ti => match ti.k with
  | .st fs => (lget fs k).bind fun f => bif Nat.beq f.2.1 0 then none else match x with
   | .ptr b g p => some (.ptr b g (p ++ [(k, f.1)]), h)
   | .im (.ref d) => (match V.kid (.im d) k f.1 with
    | some (.im d') => bif Nat.beq d'.wd f.2.1 then some (.im (.ref d'), h) else none
    | _ => none)
   | _ => none
  | _ => none
def sField (E : Env) (h : Heap) (t : Nat) (x : V) (k : Nat) : R :=
 (E.ty t).bind fun ti => match ti.k with
  | .st fs => (lget fs k).bind fun f => (E.ty f.2.2).bind fun tf => (x.kid k f.1).bind fun v => bif Nat.beq v.wd f.2.1 && okAgg tf.k v then some (v, h) else none
  | _ => none
def elemRef (E : Env) (h : Heap) (el : Nat) (l : List D) (n : Int) : R :=
 (E.ty el).bind fun te => bif ile 0 n then (lget l n.toNat).bind fun d => bif Nat.beq d.wd te.size then some (.im (.ref d), h) else none else none
def sizeIs (h : Heap) (b sz : Nat) : Bool := match hget h b with | some (.arr _ s _ _) => Nat.beq s sz | some (.arv _ s _) => Nat.beq s sz | _ => false
def sIndexAddr (E : Env) (h : Heap) (t : Nat) (x i : V) : R :=
 match i with
 | .im (.int _ n) => (E.ty t).bind fun ti => match ti.k with
  | .slc el => (match x with
   | .own b g off len _ => (E.ty el).bind fun te => bif ile 0 n && (ilt n (Int.ofNat len) && (Nat.beq off 0 || sizeIs h b te.size)) then some (.ptr b g [(off + n.toNat, (off + n.toNat) * te.size)], h) else none
   | .im (.slc l) => elemRef E h el l n
   | .full l => elemRef E h el l n
   | _ => none)
  | .arr m el => (E.ty el).bind fun te => bif ile 0 n && (ilt n (Int.ofNat m) && Nat.blt 0 te.size) then (match x with
   | .ptr b g p => some (.ptr b g (p ++ [(n.toNat, n.toNat * te.size)]), h)
   | .im (.ref d) => (match V.kid (.im d) n.toNat (n.toNat * te.size) with
    | some (.im d') => bif Nat.beq d'.wd te.size then some (.im (.ref d'), h) else none
    | _ => none)
   | _ => none) else none
  | _ => none
 | _ => none
def sIndex (E : Env) (h : Heap) (t : Nat) (x i : V) : R :=
 match i with
 | .im (.int _ n) => (match x with
  | .im (.str s) => (E.ty t).bind fun ti => (match ti.k with | .str => bif ile 0 n then (lget s n.toNat).map fun c => (.im (byteD c), h) else none | _ => none)
  | x => (E.ty t).bind fun ti => match ti.k with
   | .arr m el => (E.ty el).bind fun te => bif ile 0 n && ilt n (Int.ofNat m) then (x.kid n.toNat (n.toNat * te.size)).bind fun w => bif okV te w then some (w, h) else none else none
   | _ => none)
 | _ => none
def keyEq (a b : D) : Option Bool :=
 match a, b with
 | .int k x, .int k' y => bif keq k k' then some (ieq x y) else none
 | .str x, .str y => some (seq x y)
 | .bool x, .bool y => some (bif x then y else not y)
 | _, _ => none
def findK (k : D) (es : List (D × V)) : Option Nat :=
 List.rec (some 0) (fun e _ ih => (keyEq k e.1).bind fun b => bif b then some 0 else ih.map (· + 1)) es
def okKey (E : Env) (t : Nat) (k : D) : Bool :=
 match E.kind t, k with
 | some (.int j), .int j' _ => keq j j'
 | some .str, .str _ => true
 | some .bool, .bool _ => true
 | _, _ => false
def sMakeMap (E : Env) (nid : Nat) (h : Heap) (t : Nat) (r : Option V) : R :=
 match E.kind t with
 | some (.map _ _) => (match r with
  | none => some (.mp nid, hput h nid (.mp [] [] 0))
  | some (.im (.int _ _)) => some (.mp nid, hput h nid (.mp [] [] 0))
  | _ => none)
 | _ => none
def entries (h : Heap) (m : V) : Option (List (D × V)) :=
 match m with
 | .im .mnil => some []
 | .mp b => match hget h b with | some (.mp es _ _) => some es | _ => none
 | _ => none
def sLookup (E : Env) (h : Heap) (t : Nat) (m k : V) (ok : Bool) : R :=
 match E.kind t, k with
 | some (.map kt et), .im kd => bif okKey E kt kd then
   (entries h m).bind fun es => (findK kd es).bind fun i =>
    match lget es i with
    | some e => some (bif ok then .tup [e.2, .im (.bool true)] else e.2, h)
    | none => (E.ty et).bind fun te => bif isPlain te.zero then some (bif ok then .tup [te.zero, .im (.bool false)] else te.zero, h) else none
  else none
 | _, _ => none
def sMapUpdate (E : Env) (h : Heap) (t : Nat) (m k v : V) : R :=
 match E.kind t, m, k with
 | some (.map kt et), .mp b, .im kd => bif okKey E kt kd then
   (entries h m).bind fun es => (findK kd es).bind fun i => (E.ty et).bind fun te => bif okV te v then
    (match hget h b with
    | some (.mp _ s ck) => some (.undef, hput h b (bif Nat.blt i (llen es) then .mp (lset es i (kd, v)) s ck else .mp (es ++ [(kd, v)]) (s ++ [ck]) (ck + 1)))
    | _ => none) else none
  else none
 | _, _, _ => none
def bDelete (E : Env) (ts : Array Nat) (m k : V) (h : Heap) : R :=
 match (lget ts.toList 0).bind E.kind, m, k with
 | some (.map kt _), .mp b, .im kd => bif okKey E kt kd then
   (entries h m).bind fun es => (findK kd es).bind fun i => match hget h b with | some (.mp _ s ck) => some (.im (.tup []), hput h b (.mp (es.eraseIdx i) (s.eraseIdx i) ck)) | _ => none
  else none
 | _, _, _ => none
def sRange (E : Env) (nid : Nat) (h : Heap) (t : Nat) (x : V) : R :=
 match E.kind t, x with
 | some (.map _ _), .im .mnil => some (.ptr nid 0 [], hput h nid (.it (.im .mnil) 0 [] 0))
 | some (.map _ _), .mp b => (match hget h b with | some (.mp _ _ ck) => some (.ptr nid 0 [], hput h nid (.it (.mp b) ck [] ck)) | _ => none)
 | _, _ => none
def leftOf (seen : List Nat) (s : List Nat) : Nat → List (Nat × Nat) :=
 List.rec (fun _ => []) (fun a _ ih i => bif hasN seen a then ih (i + 1) else (i, a) :: ih (i + 1)) s
def allGe (last : Nat) (s : List Nat) : Bool := List.rec true (fun a _ ih => bif Nat.ble last a then ih else false) s
def isNil {α : Type} (l : List α) : Bool := match l with | [] => true | _ => false
def sNext (h : Heap) (x : V) (str : Bool) : R :=
 match x, str with
 | .ptr b 0 [], false => (match hget h b with
  | some (.it (.im .mnil) _ _ _) => some (.im (.tup [.bool false]), h)
  | some (.it (.mp c) since seen last) => (match hget h c with
   | some (.mp es s ck) => bif not (isNil seen) && (not (isNil s) && allGe last s) then none else (match leftOf seen s 0 with
    | [] => some (.im (.tup [.bool false]), h)
    | [(i, a)] => bif Nat.blt a since then (lget es i).map fun e => (.tup [.im (.bool true), .im e.1, e.2], hput h b (.it (.mp c) since (seen ++ [a]) ck)) else none
    | _ => none)
   | _ => none)
  | _ => none)
 | _, _ => none
def lastN (l : List Nat) : Option Nat := List.rec none (fun a _ ih => match ih with | some b => some b | none => some a) l
def sEntry (h : Heap) (x : V) : R :=
 match x with
 | .ptr b 0 [] => (match hget h b with
  | some (.it (.mp c) _ seen last) => (match hget h c with
   | some (.mp es s ck) => bif Nat.beq ck last then (lastN seen).bind fun a => (indexIn s a).bind fun i => (lget es i).map fun e => (.tup [.im e.1, e.2], h) else none
   | _ => none)
  | _ => none)
 | _ => none
def sAssert (E : Env) (h : Heap) (x : V) (t : Nat) (ok : Bool) : R :=
 match E.kind t, E.ty t with
 | some (.ifc _), _ => none
 | some _, some ti => (match x with
  | .im (.ifc u d) => bif Nat.beq u t then some (bif ok then .im (.tup [d, .bool true]) else .im d, h) else bif ok && isPlain ti.zero then some (.tup [ti.zero, .im (.bool false)], h) else none
  | .ifc u v => bif Nat.beq u t then some (bif ok then .tup [v, .im (.bool true)] else v, h) else bif ok && isPlain ti.zero then some (.tup [ti.zero, .im (.bool false)], h) else none
  | .im .inil => bif ok && isPlain ti.zero then some (.tup [ti.zero, .im (.bool false)], h) else none
  | _ => none)
 | _, _ => none
def minV (k : IntKind) (l : List V) : Int → Option Int :=
 List.rec (fun a => some a) (fun v _ ih a => match v with | .im (.int k' b) => bif keq k k' then ih (bif ile a b then a else b) else none | _ => none) l
def maxV (k : IntKind) (l : List V) : Int → Option Int :=
 List.rec (fun a => some a) (fun v _ ih a => match v with | .im (.int k' b) => bif keq k k' then ih (bif ile a b then b else a) else none | _ => none) l
def bLen (E : Env) (t : Nat) (h : Heap) (x : V) : R :=
 match E.kind t, x with
 | some (.slc _), .own _ _ _ n _ => some (.im (.int .i64 (Int.ofNat n)), h)
 | some (.slc _), .im (.slc l) => some (.im (.int .i64 (Int.ofNat (llen l))), h)
 | some (.slc _), .full l => some (.im (.int .i64 (Int.ofNat (llen l))), h)
 | some .str, .im (.str s) => some (.im (.int .i64 (Int.ofNat (llen s))), h)
 | some (.map _ _), .im .mnil => some (.im (.int .i64 0), h)
 | some (.map _ _), .mp b => (match hget h b with | some (.mp es _ _) => bif Nat.ble (llen es) 9223372036854775807 then some (.im (.int .i64 (Int.ofNat (llen es))), h) else none | _ => none)
 | _, _ => none
def bCap (E : Env) (t : Nat) (h : Heap) (x : V) : R :=
 match E.kind t, x with
 | some (.slc _), .full l => some (.im (.int .i64 (Int.ofNat (llen l))), h)
 | _, _ => none
def room (n bytes : Nat) : Bool := Nat.ble (n * bytes) 70368744177664 && Nat.ble n 70368744177664
def appendTo (te : TI) (nid : Nat) (s : V) (new : List D) (h : Heap) : R :=
 match s with
 | .own b g off len lim => (match hget h b with
  | some (.arr g' sz ro l) =>
   bif lim then
    bif isNone new then some (.own b g off len lim, h) else
    bif cutOk g g' off len l && (Nat.beq sz te.size && room (len + llen new) te.bytes)
    then some (.own nid 0 0 (len + llen new) false, hput h nid (.arr 0 te.size 0 (cutAll l off len ++ new))) else none
   else
    bif cutOk g g' off len l && (Nat.beq off 0 && (Nat.ble ro len && (Nat.beq sz te.size && room (len + llen new) te.bytes)))
    then some (.own b (g + 1) 0 (len + llen new) false, hput h b (.arr (g + 1) te.size ro (cutAll l 0 len ++ new))) else none
  | _ => none)
 | .full l => bif firstWd te.size l && room (llen l + llen new) te.bytes then
   some (.own nid 0 0 (llen l + llen new) false, hput h nid (.arr 0 te.size (bif isNone new then llen l else 0) (l ++ new))) else none
 | _ => none
def V.delems (h : Heap) : V → Option (List D)
 | .im (.slc l) => some l
 | .full l => some l
 | .own b g off len _ => (match hget h b with
  | some (.arr g' _ _ l) => bif cutOk g g' off len l then some (cutAll l off len) else none
  | _ => none)
 | _ => none
def newElems (E : Env) (te : TI) (t : Nat) (x : V) (h : Heap) : Option (List D) :=
 match E.kind t, x with
 | some .str, .im (.str b) => bif Nat.beq te.size 1 then some (b.map byteD) else none
 | some (.slc _), v => (v.delems h).bind fun l => bif firstWd te.size l then some l else none
 | _, _ => none
def isArv (h : Heap) (v : V) : Bool := match v with
 | .own b _ _ _ _ => (match hget h b with | some (.arv _ _ _) => true | _ => false)
 | _ => false
def V.velems (h : Heap) (x : V) : Option (List V) :=
 match x with
 | .own b g off len _ => (match hget h b with
  | some (.arv g' _ l) => bif cutOk g g' off len l then some (cutAll l off len) else none
  | _ => (x.delems h).map imap)
 | x => (x.delems h).map imap
def isSlc (k : Option TK) : Bool := match k with | some (.slc _) => true | _ => false
def allOkV (te : TI) (l : List V) : Bool := List.rec true (fun v _ ih => bif okV te v then ih else false) l
def appendV (te : TI) (nid : Nat) (s : V) (new : List V) (h : Heap) : R :=
 match s with
 | .own b g off len lim => (match hget h b with
  | some (.arv g' sz l) => bif not lim && (cutOk g g' off len l && (Nat.beq off 0 && (Nat.beq sz te.size && room (len + llen new) te.bytes)))
    then some (.own b (g + 1) 0 (len + llen new) false, hput h b (.arv (g + 1) te.size (cutAll l 0 len ++ new))) else none
  | _ => none)
 | .full l => bif firstWd te.size l && (not (isNoneV new) && room (llen l + llen new) te.bytes) then
   some (.own nid 0 0 (llen l + llen new) false, hput h nid (.arv 0 te.size (imap l ++ new))) else none
 | _ => none
def isIntK (k : Option TK) : Bool := match k with | some (.int _) => true | _ => false
def appendZ (te : TI) (nid : Nat) (s : V) (n : Int) (h : Heap) : R :=
 match s with
 | .full l => bif firstWd te.size l && (ilt 0 n && room (llen l + n.toNat) te.bytes) then
   (te.zero.data []).bind fun z => bif okV te (.im z) then some (.own nid 0 0 (llen l + n.toNat) false, hput h nid (.arr 0 te.size 0 (l ++ reps n.toNat z))) else none else none
 | _ => none
def appendX (E : Env) (te : TI) (nid tx : Nat) (s x : V) (h : Heap) : R :=
 bif isIntK (E.kind tx) then (match x with | .im (.int .i64 n) => appendZ te nid s n h | _ => none)
 else bif isArv h s || isArv h x then (bif isSlc (E.kind tx) then (x.velems h).bind fun new => bif allOkV te new then appendV te nid s new h else none else none)
 else (newElems E te tx x h).bind fun new => appendTo te nid s new h
def bAppend (E : Env) (nid : Nat) (ts : Array Nat) (s x : V) (h : Heap) : R :=
 ((lget ts.toList 0).bind E.ty).bind fun ti => match ti.k with
  | .slc el => (E.ty el).bind fun te => (lget ts.toList 1).bind fun tx => bif okV te te.zero then appendX E te nid tx s x h else none
  | _ => none
def bCopy (E : Env) (ts : Array Nat) (d s : V) (h : Heap) : R :=
 ((lget ts.toList 0).bind E.ty).bind fun ti => match ti.k with
  | .slc el => (E.ty el).bind fun te => (lget ts.toList 1).bind fun tx => bif isSlc (E.kind tx) then (s.delems h).bind fun src => (match d with
   | .own b g off len _ => (match hget h b with
    | some (.arr g' sz ro l) => bif not (hasN s.owns b) && (cutOk g g' off len l && (Nat.beq sz te.size && (Nat.ble ro off && firstWd te.size src))) then
      (fun n => some (.im (.int .i64 (Int.ofNat n)), hput h b (.arr g' sz ro (l.take off ++ (src.take n ++ l.drop (off + n)))))) (Nat.min len (llen src)) else none
    | _ => none)
   | _ => none) else none
  | _ => none
def builtinV (E : Env) (nid : Nat) (b : Builtin) (ts : Array Nat) (xs : List V) (h : Heap) : R :=
 match b with
 | .len => (match xs with | [x] => (lget ts.toList 0).bind fun t => bLen E t h x | _ => none)
 | .append => (match xs with | [s, x] => bAppend E nid ts s x h | _ => none)
 | .min => (match xs with | .im (.int k a) :: l => (minV k l a).map fun n => (.im (.int k n), h) | _ => none)
 | .max => (match xs with | .im (.int k a) :: l => (maxV k l a).map fun n => (.im (.int k n), h) | _ => none)
 | .cap => (match xs with | [x] => (lget ts.toList 0).bind fun t => bCap E t h x | _ => none)
 | .delete => (match xs with | [m, k] => bDelete E ts m k h | _ => none)
 | .copy => (match xs with | [d, s] => bCopy E ts d s h | _ => none)
 | _ => none
def guardOf (ops : Array Oper) (t : Tm) (g : Option (Nat × Bool)) : Option Bool :=
 match g with
 | none => some true
 | some (j, want) => (lget ops.toList j).bind fun o => o.dst.bind fun d => match t.get d with
  | .im (.bool b) => some (bif b then want else not want)
  | .im (.tup []) => some false
  | _ => none
def putDst (t : Tm) (d : Option Nat) (v : V) : Tm := Option.rec t (fun n => t.set n v) d
def depOf (n : Nat) : Nat := bif Nat.blt n 8 then 3 else bif Nat.blt n 16 then 4 else bif Nat.blt n 32 then 5 else bif Nat.blt n 64 then 6 else bif Nat.blt n 128 then 7 else bif Nat.blt n 256 then 8 else 12
def putArgs (l : List V) : Nat → Tm → Tm := List.rec (fun _ t => t) (fun v _ ih i t => ih (i + 1) (t.set i v)) l
def tmOf (n : Nat) (args : List V) : Tm := putArgs args 0 (Tm.mk (depOf n))
section
variable (E : Env) (ih : Nat → Nat → Nat → Code → St → Option (Ex × St))
def resultV (h : Heap) (t : Tm) (r : ResultVar) : Option V :=
 match r with
 | .tmp n => some (t.get n)
 | .cell a ty => match t.get a, E.ty ty with
  | .ptr b g p, some ti => (loadV h b g p).bind fun v => bif okV ti v then some v else none
  | _, _ => none
def resultsL (h : Heap) (t : Tm) (l : List ResultVar) : Option (List V) :=
 List.rec (some []) (fun r _ ih => (resultV E h t r).bind fun v => ih.map (v :: ·)) l
def resultsV (h : Heap) (fn : Func) (t : Tm) : Option V :=
 (resultsL E h t fn.results.toList).map fun l => match l with
  | [v] => v
  | l => mkTup l
def zeroOk (te : TI) : Bool := match te.zero.data [] with | some z => okV te (.im z) | none => false
def cloneV (nid el : Nat) (xs : List V) (h : Heap) : R :=
 match xs with
 | [x] => (E.ty el).bind fun te => (x.delems h).bind fun l => bif (okV te te.zero && zeroOk te) && (firstWd te.size l && room (llen l) te.bytes) then some (.own nid 1 0 (llen l) false, hput h nid (.arr 1 te.size 0 l)) else none
 | _ => none
def bldOf (h : Heap) (b : Nat) : Option (Nat × Nat × List Nat) :=
 match hget h b with
 | some (.bld t e s) => some (t, e, s)
 | _ => none
def countIn (l : List Nat) (b : Nat) : Nat := List.rec 0 (fun a _ ih => bif Nat.beq a b then ih + 1 else ih) l
def extV (x : Nat) (xs : List V) (h : Heap) : R :=
 match x, xs with
 | 1, [.im (.str s), .im (.int .u8 c)] => some (.im (.int .i64 (idx s c)), h)
 | 2, [.im (.str s), .im (.int .u8 c)] => some (.im (.int .i64 (Int.ofNat (countIn s c.toNat))), h)
 | 3, [.ptr b 0 [], .im (.int .u8 c)] => (bldOf h b).bind fun s => bif room (llen s.2.2 + 1) 1 then some (.im .inil, hput h b (.bld s.1 s.2.1 (s.2.2 ++ [c.toNat]))) else none
 | 4, [.ptr b 0 [], .im (.str t)] => (bldOf h b).bind fun s => bif room (llen s.2.2 + llen t) 1 then some (.im (.tup [.int .i64 (Int.ofNat (llen t)), .inil]), hput h b (.bld s.1 s.2.1 (s.2.2 ++ t))) else none
 | 5, [.ptr b 0 []] => (bldOf h b).map fun s => (.im (.str s.2.2), h)
 | 6, [.ptr b 0 [], .im (.int .i64 n)] => (bldOf h b).bind fun s => bif ile 0 n && room (3 * llen s.2.2 + n.toNat) 1 then some (.im (.tup []), hput h b (.bld s.1 s.2.1 s.2.2)) else none
 | _, _ => none
where
 idx (s : List Nat) (c : Int) : Int := Option.rec (-1) Int.ofNat (indexIn s c.toNat)
def allData (h : Heap) (l : List V) : Option (List D) :=
 List.rec (some []) (fun v _ ih => (V.data h v).bind fun d => ih.map (d :: ·)) l
def isRecover (o : Oper) : Bool :=
 match o.op with
 | .call c => match c.callee with | .builtin .recover => true | _ => false
 | _ => false
def isCall (o : Oper) : Bool :=
 match o.op with
 | .call _ | .defer _ => true
 | _ => false
def sFunc (e : Operand → V) (h : Heap) (f : Fn) (a c : Array Operand) : R :=
 match f with
 | .func g => some (.fn g (List.rec [] (fun o _ ih => e o :: ih) a.toList) (List.rec [] (fun o _ ih => e o :: ih) c.toList), h)
 | _ => none
def stepOp (keep : Bool) (nid : Nat) (t : Tm) (h : Heap) (op : Op) : R :=
 match op with
 | .move x => some (ev t x, h)
 | .assign x => some (ev t x, h)
 | .pick c a b => sPick h (ev t c) (ev t a) (ev t b)
 | .alloc ty => sAlloc E nid h ty
 | .box ty x => sBox E nid h ty (ev t x)
 | .build ty ps => sBuild E h ty (evP (ev t) ps)
 | .buildSlice ty n ps => sBuildSlice E keep nid h ty n (evP (ev t) ps)
 | .load ty a => sLoad E h ty (ev t a)
 | .store ty a x => sStore E h ty (ev t a) (ev t x)
 | .nilCheck x => sNilCheck h (ev t x)
 | .binOp op ty x y _ => pure1 h (binV E op ty (isConst x || isConst y) (ev t x) (ev t y))
 | .unOp op _ x => pure1 h (unV op (ev t x))
 | .convert s d x => convV E h nid s d (ev t x)
 | .makeInterface ty x => sIface E h ty (ev t x)
 | .makeFunc f a c => sFunc (ev t) h f a c
 | .makeSlice ty l c => sMakeSlice E nid h ty (ev t l) (ev t c)
 | .slice ty x lo hi mx => pure1 h (sliceV E ty h (ev t x) (lo.map (ev t)) (hi.map (ev t)) (mx.map (ev t)))
 | .fieldAddr ty x k => sFieldAddr E h ty (ev t x) k
 | .field ty x k => sField E h ty (ev t x) k
 | .indexAddr ty x i => sIndexAddr E h ty (ev t x) (ev t i)
 | .index ty x i => sIndex E h ty (ev t x) (ev t i)
 | .extract x i => pure1 h ((ev t x).part i)
 | .makeMap ty r => sMakeMap E nid h ty (r.map (ev t))
 | .lookup ty m k ok => sLookup E h ty (ev t m) (ev t k) ok
 | .mapUpdate ty m k v => sMapUpdate E h ty (ev t m) (ev t k) (ev t v)
 | .insert ty m k v => sMapUpdate E h ty (ev t m) (ev t k) (ev t v)
 | .typeAssert x _ ty ok => sAssert E h (ev t x) ty ok
 | .range ty x => sRange E nid h ty (ev t x)
 | .next x str => sNext h (ev t x) str
 | .entry x => sEntry h (ev t x)
 | .call c => (match c.callee with
  | .builtin b => builtinV E nid b c.argTypes (evs t c.args) h
  | _ => none)
 | _ => none
abbrev RC := Option (V × Heap × List Rec)
def lift (lp : List Rec) (r : R) : RC := Option.rec none (fun x => some (x.1, x.2, lp)) r
def runBody (f : Nat) (args : List V) (h : Heap) (lp : List Rec) : Option (Func × St) :=
 (E.fn f).bind fun fn => fn.body.bind fun c =>
  match (bif Nat.ble (llen args) fn.ntmps then ih f 0 0 c ⟨tmOf fn.ntmps args, h, lp, []⟩ else none) with
  | some (.exit _, _) => none
  | some (_, st) => some (fn, st)
  | none => none
def recOps (keep : Bool) (ops : Array Oper) (l : List Oper) : St → Option St :=
 List.rec (fun st => some st) (fun o _ k st => match guardOf ops st.t o.guard with
  | none => none
  | some false => k ⟨putDst st.t o.dst (.im (.tup [])), st.h, st.lp, st.df⟩
  | some true => bif isRecover o then k ⟨putDst st.t o.dst (.im .inil), st.h, st.lp, st.df⟩
   else bif isCall o then none else match stepOp E keep (llen st.h) st.t st.h o.op with
    | none => none
    | some (v, h) => k ⟨putDst st.t o.dst v, h, st.lp, st.df⟩) l
def execS (f fb : Nat) (n : Nat) : Code → St → Option (Ex × St) :=
 Nat.rec (fun _ _ => none) (fun _ rs c st => match c with
  | .seq a b => (match rs a st with
   | some (.nm, st') => rs b st'
   | r => r)
  | .cond c a b => (match ev st.t c with
   | .im (.bool t) => bif t then rs a st else rs b st
   | _ => none)
  | .region id ops false => bif ops.toList.any isRecover then (match recOps E (E.keep f) ops ops.toList st with
   | some st' => some (.nm, st')
   | none => none) else ih f fb 0 (.region id ops false) st
  | c => ih f fb 0 c st) n
def runBodyS (f : Nat) (args : List V) (h : Heap) (lp : List Rec) : Option (Func × St) :=
 (E.fn f).bind fun fn => fn.body.bind fun c =>
  match (bif Nat.ble (llen args) fn.ntmps then execS E ih f 0 64 c ⟨tmOf fn.ntmps args, h, lp, []⟩ else none) with
  | some (.exit _, _) => none
  | some (_, st) => some (fn, st)
  | none => none
def isMark (d : Nat × List V) : Bool := match d.2 with | [.undef] => true | _ => false
def runDefers (n0 : Nat) (df : List (Nat × List V)) : Heap → List Rec → Option (Heap × List Rec) :=
 List.rec (fun h lp => some (h, lp)) (fun d _ k h lp => bif isMark d then (bif Nat.ble n0 d.1 then k h lp else none) else match runBodyS E ih d.1 d.2 h lp with
  | some (fn, st) => (match st.df with
   | [] => (match resultsV E st.h fn st.t with
    | some _ => k st.h st.lp
    | none => none)
   | _ => none)
  | none => none) df
def inlineV (f : Nat) (args : List V) (h : Heap) (lp : List Rec) : RC :=
 match runBody E ih f args h lp with
 | some (fn, st) => (match st.df with
  | [] => (resultsV E st.h fn st.t).map fun v => (v, st.h, st.lp)
  | df => (runDefers E ih (llen h) df st.h st.lp).bind fun r => (resultsV E r.1 fn st.t).map fun v => (v, r.1, r.2))
 | none => none
def dataV (f : Nat) (args : List D) : Option D := (inlineV E ih f (imap args) [] []).bind fun r => r.1.data r.2.1
def dataC (f : Nat) (args : List D) : Option D := match E.sm f with | some F => (match F args with | some r => some r | none => dataV E ih f args) | none => dataV E ih f args
def callV (f : Nat) (args : List V) (h : Heap) (lp : List Rec) : RC :=
 bif E.inl f then inlineV E ih f args h lp else
 match allData h args with
 | some ds => (dataC E ih f ds).bind fun r =>
   match V.ownsL args with
   | [] => some (.im r, h, lp)
   | bs => bif r.flat then some (.im r, h, lp) else bif allArr h bs then some (.im r, close h bs, lp) else none
 | none => inlineV E ih f args h lp
def callFn (nid : Nat) (g : Nat) (args : List V) (h : Heap) (lp : List Rec) : RC :=
 match E.clone g with
 | some sz => lift lp (cloneV E nid sz args h)
 | none => match E.ext g with
  | 0 => callV E ih g args h lp
  | x => lift lp (extV x args h)
def target (t : Tm) (c : Call) : Option (Nat × List V) :=
 match c.callee with
 | .builtin _ => none
 | .value f => (match ev t f with
  | .fn g a cap => some (g, a ++ (evs t c.args ++ cap))
  | .im (.fn g) => some (g, evs t c.args)
  | _ => none)
 | .invoke r name => (match ev t r with
  | .ifc u v => (E.meth u name).map fun g => (g, v :: evs t c.args)
  | .im (.ifc u d) => (E.meth u name).map fun g => (g, .im d :: evs t c.args)
  | _ => none)
def yldOf (t : Tm) (c : Call) : Option (Nat × List V) :=
 match c.callee with
 | .value f => (match ev t f with
  | .yld b => some (b, evs t c.args)
  | _ => none)
 | _ => none
def putPs (ps : List Nat) : List V → Tm → Option Tm :=
 List.rec (fun xs t => match xs with | [] => some t | _ => none) (fun p _ ih xs t => match xs with | [] => none | x :: xs => ih xs (t.set p x)) ps
def roundV (b : Nat) (xs : List V) (h : Heap) : R :=
 match hget h b with
 | some (.lp f t ps asg body) => (putPs ps xs t).bind fun t0 => match ih f 1 0 asg ⟨t0, lset h b none, [], []⟩ with
  | some (.nm, s1) => (match s1.df with
   | [] => (match ih f 1 0 body ⟨s1.t, s1.h, [], []⟩ with
    | some (.nm, s2) => (match s2.df with
     | [] => some (.im (.bool true), hput s2.h b (.lp f t ps asg body))
     | _ => none)
    | _ => none)
   | _ => none)
  | _ => none
 | _ => none
def goCall (nid : Nat) (t : Tm) (c : Call) (h : Heap) (lp : List Rec) : RC :=
 match yldOf t c with
 | some (b, xs) => lift lp (roundV ih b xs h)
 | none => (target E t c).bind fun g => callFn E ih nid g.1 g.2 h lp
def opV (keep : Bool) (ops : Array Oper) (nid : Nat) (o : Oper) (st : St) : Option St :=
 match guardOf ops st.t o.guard with
 | none => none
 | some false => some ⟨putDst st.t o.dst (.im (.tup [])), st.h, st.lp, st.df⟩
 | some true => match o.op with
  | .defer c => (match c.callee with
   | .value f => (match ev st.t f with
    | .fn g a cap => bif isMark (g, a ++ (evs st.t c.args ++ cap)) then none else some ⟨putDst st.t o.dst .undef, st.h, st.lp, (g, a ++ (evs st.t c.args ++ cap)) :: st.df⟩
    | _ => none)
   | _ => none)
  | op => match (match op with
    | .call c => (match c.callee with
     | .builtin _ => lift st.lp (stepOp E keep nid st.t st.h op)
     | _ => goCall E ih nid st.t c st.h st.lp)
    | op => lift st.lp (stepOp E keep nid st.t st.h op)) with
   | none => none
   | some (v, h, lp) => some ⟨putDst st.t o.dst v, h, lp, st.df⟩
def runOps (keep : Bool) (ops : Array Oper) (l : List Oper) : St → Option St :=
 List.rec (fun st => some st) (fun o _ k st => match opV E ih keep ops (llen st.h) o st with
  | none => none
  | some st' => k st') l
def isNew : Op → Bool
 | .alloc _ | .box _ _ | .buildSlice .. | .makeSlice .. | .makeMap .. => true
 | .convert .. => true
 | .call { callee := .builtin .append, .. } => true
 | .call { callee := .value (.func g), .. } => (E.clone g).isSome
 | _ => false
def hide (k : Nat) (m : List Nat) (h : Heap) : Heap := List.rec (fun h => h) (fun i _ ih h => ih (lset h (k + i) none)) m h
def V.snap (h : Heap) (v : V) : Option D :=
 match v with
 | .ptr b 0 [] => (match hget h b with
  | some (.cell u) => (u.data h).map .ref
  | _ => none)
 | v => v.data h
def allSnap (h : Heap) (l : List V) : Option (List D) :=
 List.rec (some []) (fun v _ ih => (V.snap h v).bind fun d => ih.map (d :: ·)) l
def allNone (h : Heap) : Bool := List.rec true (fun b _ ih => match b with | none => ih | some _ => false) h
def natsEq : List Nat → List Nat → Bool
 | [], [] => true
 | a :: l, b :: r => bif Nat.beq a b then natsEq l r else false
 | _, _ => false
def pairsEq : List (Nat × Nat) → List (Nat × Nat) → Bool
 | [], [] => true
 | a :: l, b :: r => bif Nat.beq a.1 b.1 && Nat.beq a.2 b.2 then pairsEq l r else false
 | _, _ => false
mutual
def D.same : D → D → Bool
 | .bool a, .bool b => decide (a = b)
 | .int k n, .int k' m => decide (k = k') && decide (n = m)
 | .str s, .str t => natsEq s t
 | .nil, .nil => true
 | .nfn, .nfn => true
 | .inil, .inil => true
 | .mnil, .mnil => true
 | .ref a, .ref b => D.same a b
 | .slc a, .slc b => D.sames a b
 | .agg w a, .agg v b => Nat.beq w v && D.sames a b
 | .tup a, .tup b => D.sames a b
 | .fn f, .fn g => Nat.beq f g
 | .ifc t a, .ifc u b => Nat.beq t u && D.same a b
 | _, _ => false
def D.sames : List D → List D → Bool
 | [], [] => true
 | a :: l, b :: r => bif D.same a b then D.sames l r else false
 | _, _ => false
end
mutual
def V.same : V → V → Bool
 | .im a, .im b => D.same a b
 | .agg w a, .agg v b => Nat.beq w v && V.sames a b
 | .own b g o n l, .own b' g' o' n' l' => Nat.beq b b' && (Nat.beq g g' && (Nat.beq o o' && (Nat.beq n n' && decide (l = l'))))
 | .full a, .full b => D.sames a b
 | .ptr b g p, .ptr b' g' p' => Nat.beq b b' && (Nat.beq g g' && pairsEq p p')
 | .fn f a c, .fn f' a' c' => Nat.beq f f' && (V.sames a a' && V.sames c c')
 | .ifc t v, .ifc t' v' => Nat.beq t t' && V.same v v'
 | .mp b, .mp b' => Nat.beq b b'
 | _, _ => false
def V.sames : List V → List V → Bool
 | [], [] => true
 | a :: l, b :: r => bif V.same a b then V.sames l r else false
 | _, _ => false
end
def Blk.same : Blk → Blk → Bool
 | .cell a, .cell b => V.same a b
 | .arr g s ro l, .arr g' s' ro' l' => Nat.beq g g' && (Nat.beq s s' && (Nat.beq ro ro' && D.sames l l'))
 | .arv g s l, .arv g' s' l' => Nat.beq g g' && (Nat.beq s s' && V.sames l l')
 | _, _ => false
def sameH : Heap → Heap → Bool
 | [], [] => true
 | none :: l, none :: r => sameH l r
 | some a :: l, some b :: r => bif Blk.same a b then sameH l r else false
 | _, _ => false
def only (bs : List Nat) (h : Heap) : Heap := List.rec (fun _ => []) (fun b _ ih i => (bif hasN bs i then b else none) :: ih (i + 1)) h 0
def noRefs (l : List V) : Bool := match refsL l with | [] => true | _ => false
def quietV (keep : Bool) (nid : Nat) (t : Tm) (view : Heap) (op : Op) : Option (V × Option Blk) :=
 match op with
 | .store .. | .mapUpdate .. | .insert .. | .range .. | .next .. | .entry _ => none
 | .call c => (match c.callee with
  | .builtin .append => (match builtinV E nid .append c.argTypes (evs t c.args) view with
   | some (.own b g o n l, h') => bif Nat.beq b nid then some (.own b g o n l, hget h' nid) else none
   | _ => none)
  | .builtin .len => (builtinV E nid .len c.argTypes (evs t c.args) view).map fun r => (r.1, none)
  | .builtin .min => (builtinV E nid .min c.argTypes (evs t c.args) view).map fun r => (r.1, none)
  | .builtin .max => (builtinV E nid .max c.argTypes (evs t c.args) view).map fun r => (r.1, none)
  | .builtin _ => none
  | _ => (target E t c).bind fun g => match E.clone g.1 with
   | some sz => (cloneV E nid sz g.2 view).map fun r => (r.1, hget r.2 nid)
   | none => match E.ext g.1 with
    | 1 => (extV 1 g.2 view).map fun r => (r.1, none)
    | 2 => (extV 2 g.2 view).map fun r => (r.1, none)
    | 0 => bif E.inl g.1 then none else (allData view g.2).bind fun ds => (dataC E ih g.1 ds).bind fun r =>
     (match V.ownsL g.2 with
     | [] => some (.im r, none)
     | _ => bif r.flat then some (.im r, none) else none)
    | _ => none)
 | .buildSlice ty n ps => bif noRefs ((evP (ev t) ps).map Prod.snd) then (sBuildSlice E keep nid view ty n (evP (ev t) ps)).map fun r => (r.1, hget r.2 nid) else none
 | op => (stepOp E keep nid t view op).map fun r => (r.1, bif isNew E op then hget r.2 nid else none)
def simpleV (keep : Bool) (nid : Nat) (t : Tm) (view : Heap) (op : Op) : Option V :=
 match op with
 | .call c => (match c.callee with
  | .builtin .len => (builtinV E nid .len c.argTypes (evs t c.args) view).map fun r => r.1
  | .builtin _ => none
  | _ => (target E t c).bind fun g => bif E.inl g.1 then none else match E.clone g.1, E.ext g.1 with
   | none, 0 => (allData view g.2).bind fun ds => (dataC E ih g.1 ds).bind fun r =>
     (match V.ownsL g.2 with
     | [] => some (.im r)
     | _ => bif r.flat then some (.im r) else none)
   | _, _ => none)
 | op => (stepOp E keep nid t view op).map fun r => r.1
def putBlk (h : Heap) (nid : Nat) (k : Option Blk) : Heap := match k with | none => h | some b => hput h nid b
def notAt (t : Tm) (b : Nat) (m : List Nat) : Bool := List.rec true (fun s _ ih => match t.get s with | .ptr c _ _ => bif Nat.beq b c then false else ih | _ => false) m
def isCell (b : Option Blk) : Bool := match b with | some (.cell _) => true | _ => false
def opD (keep : Bool) (ops : Array Oper) (k n i cls : Nat) (m : List Nat) (o : Oper) (st : St) : Option St :=
 match guardOf ops st.t o.guard with
 | none => none
 | some false => some ⟨putDst st.t o.dst (.im (.tup [])), st.h, st.lp, st.df⟩
 | some true => match cls with
  | 0 => (stepOp E keep (k + i) st.t [] o.op).map fun r => ⟨putDst st.t o.dst r.1, st.h, st.lp, st.df⟩
  | 1 => bif isNew E o.op then (match hget st.h (k + i) with
    | none => (quietV E ih keep (k + i) st.t (hide k m st.h) o.op).map fun r => ⟨putDst st.t o.dst r.1, putBlk st.h (k + i) r.2, st.lp, st.df⟩
    | some _ => none)
   else (quietV E ih keep (llen st.h) st.t (hide k m st.h) o.op).bind fun r => (match r.2 with
    | none => some ⟨putDst st.t o.dst r.1, st.h, st.lp, st.df⟩
    | some _ => none)
  | 2 => (simpleV E ih keep (k + i) st.t (hide k m (st.h.take (k + n))) o.op).map fun v => ⟨putDst st.t o.dst v, st.h, st.lp, st.df⟩
  | 3 => opV E ih keep ops (llen st.h) o st
  | 4 => (match o.op with
   | .call c => (target E st.t c).bind fun g => (inlineV E ih g.1 g.2 (only (reachIn st.h 0 64 (addNew 0 (refsL g.2) [])) st.h) st.lp).bind fun r =>
     bif sameH (only (reachIn st.h 0 64 (addNew 0 (refsL g.2) [])) st.h) (r.2.1.take (llen st.h)) then some ⟨putDst st.t o.dst r.1, st.h ++ r.2.1.drop (llen st.h), r.2.2, st.df⟩ else none
   | _ => none)
  | 6 => (match o.op with
   | .store ty a x => (match ev st.t a with
    | .ptr b g p => bif notAt st.t b m && isCell (hget st.h b) then (sStore E st.h ty (.ptr b g p) (ev st.t x)).map fun r => ⟨putDst st.t o.dst r.1, r.2, st.lp, st.df⟩ else none
    | _ => none)
   | _ => none)
  | 9 => (match o.op with
   | .store ty a x => (match ev st.t a with
    | .ptr b g p => bif Nat.ble k b && isCell (hget st.h b) then (sStore E st.h ty (.ptr b g p) (ev st.t x)).map fun r => ⟨putDst st.t o.dst r.1, r.2, st.lp, st.df⟩ else none
    | _ => none)
   | _ => none)
  | 7 => (match o.op with
   | .load ty a => (match ev st.t a with
    | .ptr b g p => (sLoad E (st.h.take k) ty (.ptr b g p)).map fun r => ⟨putDst st.t o.dst r.1, st.h, st.lp, st.df⟩
    | _ => none)
   | _ => none)
  | 8 => (match o.op with
   | .indexAddr ty x i => (sIndexAddr E (st.h.take k) ty (ev st.t x) (ev st.t i)).map fun r => ⟨putDst st.t o.dst r.1, st.h, st.lp, st.df⟩
   | _ => none)
  | _ => (match o.op with
   | .call c => (target E st.t c).bind fun g => (allSnap (hide k m st.h) g.2).bind fun ds => (dataC E ih g.1 ds).bind fun r =>
     bif r.flat then some ⟨putDst st.t o.dst (.im r), st.h, st.lp, st.df⟩ else none
   | _ => none)
def news : List Oper → Nat
 | [] => 0
 | o :: l => (bif isNew E o.op then 1 else 0) + news l
def runOpsD (keep : Bool) (ops : Array Oper) (k n : Nat) (l : List Oper) : List (Nat × List Nat) → Nat → St → Option St :=
 List.rec (fun _ _ st => some st) (fun o _ rs ds i st => match ds with
  | [] => none
  | (c, m) :: ds => match opD E ih keep ops k n i c m o st with
   | none => none
   | some st' => rs ds (bif isNew E o.op then i + 1 else i) st') l
def regionD (f id : Nat) (ops : Array Oper) (st : St) : Option St :=
 (E.dr f id).bind fun ds => (news E ops.toList |> fun n =>
  runOpsD E ih (E.keep f) ops (llen st.h) n ops.toList ds 0 ⟨st.t, st.h ++ reps n none, st.lp, st.df⟩)
def isPure : Op → Bool
 | .move _ | .assign _ | .pick .. | .build .. | .fieldAddr .. | .field .. | .unOp .. | .makeInterface .. | .makeFunc .. | .extract .. | .nilCheck _ | .binOp .. => true
 | _ => false
def isSimple : Op → Bool
 | .load .. | .indexAddr .. | .index .. | .call _ => true
 | _ => false
def tmpsOf (l : List Operand) : List Nat := List.rec [] (fun o _ ih => match o with | .tmp t => t :: ih | _ => ih) l
def reads (ops : Array Oper) (o : Oper) : List Nat :=
 tmpsOf o.op.operands.toList ++ (match o.guard with
  | some (j, _) => (match lget ops.toList j with | some g => g.dst.toList | none => [])
  | none => [])
def apartS (ops : Array Oper) (a b : Oper) : Bool :=
 (match a.dst with | some d => not (hasN (reads ops b) d) && not (b.dst == some d) | none => true) &&
 (match b.dst with | some d => not (hasN (reads ops a) d) | none => true)
def dstNot (o : Oper) (m : List Nat) : Bool := match o.dst with | some d => not (hasN m d) | none => true
def inM (m : List Nat) (o : Oper) : Bool := match o.op with | .load _ (.tmp s) => hasN m s | _ => false
def quietC (c : Nat) : Bool := Nat.beq c 1 || (Nat.beq c 2 || Nat.beq c 5)
def apart67 (a b : Oper) (ca cb : Nat) (ma mb : List Nat) : Bool :=
 (Nat.beq ca 9 && (Nat.beq cb 7 || Nat.beq cb 8)) || ((Nat.beq cb 9 && (Nat.beq ca 7 || Nat.beq ca 8)) || (
 (Nat.beq ca 8 && (quietC cb || (Nat.beq cb 7 || (Nat.beq cb 8 || Nat.beq cb 6)))) || ((Nat.beq cb 8 && (quietC ca || (Nat.beq ca 7 || Nat.beq ca 6))) || (
 (Nat.beq ca 7 && (quietC cb || Nat.beq cb 7)) || ((quietC ca && Nat.beq cb 7) || ((Nat.beq ca 6 && (Nat.beq cb 7 && inM ma b)) || (Nat.beq ca 7 && (Nat.beq cb 6 && inM mb a))))))))
def apartC (ops : Array Oper) (a b : Oper) (ca cb : Nat) (ma mb : List Nat) (na nb : Nat) : Bool :=
 (apartS ops a b && ((not (Nat.beq ca 6) || dstNot b ma) && (not (Nat.beq cb 6) || dstNot a mb))) &&
 (Nat.beq ca 0 || (Nat.beq cb 0 || (apart67 a b ca cb ma mb ||
  ((Nat.beq ca 4 && Nat.beq cb 2) || ((Nat.beq ca 2 && Nat.beq cb 4) ||
   ((Nat.beq ca 1 || (Nat.beq ca 2 || Nat.beq ca 5)) && ((Nat.beq cb 1 || (Nat.beq cb 2 || Nat.beq cb 5)) &&
    ((not (isNew E a.op && Nat.beq ca 1) || hasN mb na) && (not (isNew E b.op && Nat.beq cb 1) || hasN ma nb)))))))))
def befores (l : List Oper) : List Nat → List Nat :=
 List.rec (fun acc => acc) (fun o _ ih acc => ih (acc ++ [o.after.toList.foldl (fun s e => bif Region.binds .any e then Nat.lor s (Nat.lor (2 ^ e.on) ((lget acc e.on).getD 0)) else s) 0])) l
def okOne (o : Oper) (i : Nat) (c : Nat) : Bool :=
 (o.after.toList.all fun e => not (Region.binds .any e) || Nat.blt e.on i) &&
 (bif Nat.beq c 0 then isPure o.op else bif Nat.beq c 2 then isSimple o.op else true)
def okAll (ops : Array Oper) (o : Oper) (bf : Nat) (c : Nat) (m : List Nat) (nw : Nat) (l : List Oper) (ds : List (Nat × List Nat)) : Nat → Nat → Bool :=
 List.rec (fun _ _ _ => true) (fun p _ ih ds j nj => match ds with
  | [] => true
  | (cj, mj) :: ds => (Nat.testBit bf j || apartC E ops p o cj c mj m nj nw) && ih ds (j + 1) (bif isNew E p.op then nj + 1 else nj)) l ds
def okFrom (ops : Array Oper) (bfs : List Nat) (ds0 : List (Nat × List Nat)) (l : List Oper) (ds : List (Nat × List Nat)) : Nat → Nat → Bool :=
 List.rec (fun _ _ _ => true) (fun o _ ih ds i nw => match ds with
  | [] => false
  | (c, m) :: ds => okOne o i c && (okAll E ops o ((lget bfs i).getD 0) c m nw (ops.toList.take i) (ds0.take i) 0 0 && ih ds (i + 1) (bif isNew E o.op then nw + 1 else nw))) l ds
def drOk (ops : Array Oper) (ds : List (Nat × List Nat)) : Bool := okFrom E ops (befores ops.toList []) ds ops.toList ds 0 0
def execB (f fb cur : Nat) (c : Code) (st : St) : Option (Ex × St) :=
 match c with
 | .skip => some (.nm, st)
 | .label _ => some (.nm, st)
 | .region id ops draw => match (bif draw then regionD E ih f id ops st else runOps E ih (E.keep f) ops ops.toList st) with
  | some st' => some (.nm, st')
  | none => none
 | .seq a b => match ih f fb cur a st with
  | some (.nm, st') => ih f fb cur b st'
  | r => r
 | .cond c a b => match ev st.t c with
  | .im (.bool t) => bif t then ih f fb cur a st else ih f fb cur b st
  | _ => none
 | .block id b => match ih f fb id b st with
  | some (.exit j, st') => bif Nat.beq j id then some (.nm, st') else some (.exit j, st')
  | r => r
 | .loop b => match ih f fb cur b st with
  | some (.nm, st') => ih f fb cur (.loop b) st'
  | r => r
 | .scope b => ih f fb cur b st
 | .rangeFunc g ps asg body => (match (match ev st.t g with | .fn g a cap => some (g, a, cap) | .im (.fn g) => some (g, [], []) | _ => none : Option (Nat × List V × List V)) with
  | some (g, a, cap) => (match inlineV E ih g (a ++ (.yld (llen st.h + 1) :: cap)) (st.h ++ [none, some (.lp f st.t ps.toList asg body)]) st.lp with
   | some (_, h', lp) => (match hget h' (llen st.h + 1) with
    | some (.lp ..) => some (.nm, ⟨st.t, lset h' (llen st.h + 1) none, lp, bif Nat.beq fb 0 then (llen st.h, [V.undef]) :: st.df else st.df⟩)
    | _ => none)
   | none => none)
  | none => none)
 | .exit id => some (.exit id, st)
 | .ret => some (.ret, st)
 | _ => none
end
def exec (E : Env) (n : Nat) : Nat → Nat → Nat → Code → St → Option (Ex × St) :=
 Nat.rec (fun _ _ _ _ _ => none) (fun _ ih => execB E ih) n
def callD (E : Env) (n f : Nat) (args : List D) : Option D := dataV E (exec E n) f args
end
end Go.As
/-
 AS: how abstract values stand for the model's values and memory, and what survives as memory grows.
-/
namespace Go.As
open Go.RowKit (Below)
abbrev IV := Addr → Option Value
def LMX : Nat := 9223372036854775807
def cellsAt (C : IV) (a : Addr) (vs : List Value) : Prop := ∀ j v, vs[j]? = some v → C (a.add j) = some v
def inR (k : IntKind) (n : Int) : Prop := k.min ≤ n ∧ n ≤ k.max
def bytesL (b : ByteArray) : List Nat := b.data.toList.map UInt8.toNat
mutual
def REL (C : IV) : D → Bool → List Value → Prop
 | .bool b, _, vs => vs = [.bool b]
 | .int k n, _, vs => vs = [.int k n] ∧ inR k n
 | .str s, _, vs => ∃ b : ByteArray, vs = [.string b] ∧ bytesL b = s ∧ b.size ≤ LMX
 | .nil, _, vs => vs = [.pointer none]
 | .ref d, _, vs => ∃ a ws, vs = [.pointer (some a)] ∧ a.spot = none ∧ REL C d false ws ∧ cellsAt C a ws
 | .slc l, _, vs => ∃ a n cap, vs = [.slice a n cap] ∧ n = l.length ∧ n ≤ cap ∧ n ≤ LMX ∧
   (n = 0 ∨ ∃ a0 wss s, a = some a0 ∧ a0.spot = none ∧ RELs C l false wss ∧ (∀ ws ∈ wss, ws.length = s) ∧ cellsAt C a0 wss.flatten)
 | .agg w l, true, vs => ∃ cs wss, vs = [.agg cs] ∧ cs.toList = wss.flatten ∧ RELs C l false wss ∧ cs.size = w
 | .agg w l, false, vs => ∃ wss, vs = wss.flatten ∧ RELs C l false wss ∧ vs.length = w
 | .tup l, true, vs => ∃ ts wss, vs = [.tuple ts] ∧ RELs C l true wss ∧ ts.toList = wss.flatten
 | .tup _, false, _ => False
 | .fn f, _, vs => vs = [.func (.func f) #[] #[]]
 | .nfn, _, vs => vs = [.nilFunc]
 | .ifc t d, _, vs => ∃ x, vs = [.iface t x] ∧ REL C d true [x]
 | .inil, _, vs => vs = [.nilIface]
 | .mnil, _, vs => vs = [.map none]
def RELs (C : IV) : List D → Bool → List (List Value) → Prop
 | [], _, wss => wss = []
 | d :: l, m, wss => ∃ ws r, wss = ws :: r ∧ REL C d m ws ∧ RELs C l m r
end
def IV.le (C C' : IV) : Prop := ∀ a v, C a = some v → C' a = some v
theorem IV.le.refl (C : IV) : C.le C := fun _ _ h => h
theorem IV.le.trans {A B C : IV} (h : A.le B) (k : B.le C) : A.le C := fun a v e => k a v (h a v e)
theorem cellsAt.mono {C C' : IV} (h : C.le C') {a : Addr} {vs : List Value} (k : cellsAt C a vs) : cellsAt C' a vs := fun j v e => h _ _ (k j v e)
mutual
theorem REL.mono {C C' : IV} (h : C.le C') : ∀ (d : D) (m : Bool) (vs : List Value), REL C d m vs → REL C' d m vs
 | .bool _, _, _, k | .nil, _, _, k | .fn _, _, _, k | .nfn, _, _, k | .inil, _, _, k | .mnil, _, _, k | .int _ _, _, _, k | .str _, _, _, k => by simpa [REL] using k
 | .ref d, _, _, k => by
  simp only [REL] at k ⊢
  obtain ⟨a, ws, e, s, r, c⟩ := k
  exact ⟨a, ws, e, s, REL.mono h d false ws r, c.mono h⟩
 | .slc l, _, _, k => by
  simp only [REL] at k ⊢
  obtain ⟨a, n, cap, e, hn, hc, hm, r⟩ := k
  refine ⟨a, n, cap, e, hn, hc, hm, r.imp id ?_⟩
  rintro ⟨a0, wss, s, e0, hs, hr, hw, hc⟩
  exact ⟨a0, wss, s, e0, hs, RELs.mono h l false wss hr, hw, hc.mono h⟩
 | .agg w l, true, _, k => by
  simp only [REL] at k ⊢
  obtain ⟨cs, wss, e, h1, h2, h3⟩ := k
  exact ⟨cs, wss, e, h1, RELs.mono h l false wss h2, h3⟩
 | .agg w l, false, _, k => by
  simp only [REL] at k ⊢
  obtain ⟨wss, e, h2, h3⟩ := k
  exact ⟨wss, e, RELs.mono h l false wss h2, h3⟩
 | .tup l, true, _, k => by
  simp only [REL] at k ⊢
  obtain ⟨ts, wss, e, h2, h3⟩ := k
  exact ⟨ts, wss, e, RELs.mono h l true wss h2, h3⟩
 | .tup l, false, _, k => by simp [REL] at k
 | .ifc t d, _, _, k => by
  simp only [REL] at k ⊢
  obtain ⟨x, e, r⟩ := k
  exact ⟨x, e, REL.mono h d true [x] r⟩
theorem RELs.mono {C C' : IV} (h : C.le C') : ∀ (l : List D) (m : Bool) (wss : List (List Value)), RELs C l m wss → RELs C' l m wss
 | [], _, _, k => by simpa [RELs] using k
 | d :: l, m, _, k => by
  simp only [RELs] at k ⊢
  obtain ⟨ws, r, e, h1, h2⟩ := k
  exact ⟨ws, r, e, REL.mono h d m ws h1, RELs.mono h l m r h2⟩
end
structure BI where
 g : Nat
 base : Option Addr
 s : Nat
 cap : Nat
 fix : Bool
structure Cx where
 C : IV
 M : Nat → Option BI
 L : Nat → Option Nat
def OwnR (X : Cx) (b g off len : Nat) (lim : Bool) (v : Value) : Prop :=
 (∃ a cap, v = .slice a len cap ∧ len ≤ cap ∧ len ≤ LMX ∧ (cap = 0 ∨ ∃ a0, a = some a0)) ∧ ∃ bi, X.M b = some bi ∧ g ≤ bi.g ∧ (g = bi.g → ∃ a cap, v = .slice a len cap ∧ len ≤ cap ∧ len ≤ LMX ∧ off + cap ≤ bi.cap ∧
  (lim = true → cap = len) ∧ (cap = 0 ∨ ∃ a0, bi.base = some a0 ∧ a0.spot = none ∧ a = some (a0.add (off * bi.s))))
def pathOff (p : List (Nat × Nat)) : Nat := (p.map (·.2)).sum
def PtrR (X : Cx) (b g : Nat) (p : List (Nat × Nat)) (v : Value) : Prop :=
 (∃ a, v = .pointer (some a)) ∧ ∃ bi, X.M b = some bi ∧ g ≤ bi.g ∧ (g = bi.g → ∃ a0, bi.base = some a0 ∧ a0.spot = none ∧ v = .pointer (some (a0.add (pathOff p))))
theorem OwnR.one {X : Cx} {b g off len : Nat} {lim : Bool} {v : Value} (h : OwnR X b g off len lim v) : v.oneCell' = true := by obtain ⟨⟨a, n, e, _⟩, _⟩ := h; subst e; rfl
theorem PtrR.one {X : Cx} {b g : Nat} {p : List (Nat × Nat)} {v : Value} (h : PtrR X b g p v) : v.oneCell' = true := by obtain ⟨⟨a, e⟩, _⟩ := h; subst e; rfl
def FullR (C : IV) (l : List D) (v : Value) : Prop :=
 ∃ a n, v = .slice a n n ∧ n = l.length ∧ n ≤ LMX ∧
  (n = 0 ∨ ∃ a0 wss s, a = some a0 ∧ a0.spot = none ∧ RELs C l false wss ∧ (∀ ws ∈ wss, ws.length = s) ∧ cellsAt C a0 wss.flatten)
mutual
def VREL (X : Cx) : V → Bool → List Value → Prop
 | .undef, true, vs => vs.length = 1
 | .undef, false, _ => False
 | .im d, m, vs => REL X.C d m vs
 | .agg w l, true, vs => ∃ cs wss, vs = [.agg cs] ∧ cs.toList = wss.flatten ∧ VRELs X l false wss ∧ cs.size = w
 | .agg w l, false, vs => ∃ wss, vs = wss.flatten ∧ VRELs X l false wss ∧ vs.length = w
 | .tup l, true, vs => ∃ ts wss, vs = [.tuple ts] ∧ VRELs X l true wss ∧ ts.toList = wss.flatten
 | .tup _, false, _ => False
 | .own b g off len lim, _, vs => ∃ v, vs = [v] ∧ OwnR X b g off len lim v
 | .full l, _, vs => ∃ v, vs = [v] ∧ FullR X.C l v
 | .ptr b g p, _, vs => ∃ v, vs = [v] ∧ PtrR X b g p v
 | .fn f a c, _, vs => ∃ fs cs w1 w2, vs = [.func (.func f) fs cs] ∧ VRELs X a true w1 ∧ fs.toList = w1.flatten ∧ VRELs X c true w2 ∧ cs.toList = w2.flatten
 | .ifc t v, _, vs => ∃ x, vs = [.iface t x] ∧ VREL X v true [x]
 | .mp b, _, vs => ∃ r bi, vs = [.map (some r)] ∧ X.M b = some bi ∧ bi.base = some ⟨r, 0, none⟩ ∧ bi.fix = true
 | .yld i, _, vs => ∃ l, vs = [.func (.yield l) #[] #[]] ∧ ∃ bi, X.M i = some bi ∧ bi.base = some ⟨l, 0, none⟩ ∧ bi.fix = true
def VRELs (X : Cx) : List V → Bool → List (List Value) → Prop
 | [], _, wss => wss = []
 | v :: l, m, wss => ∃ ws r, wss = ws :: r ∧ VREL X v m ws ∧ VRELs X l m r
end
structure Cx.le (fb : Nat) (X Y : Cx) : Prop where
 C : X.C.le Y.C
 M : ∀ b bi, b < fb → X.M b = some bi → ∃ bj, Y.M b = some bj ∧ bi.g ≤ bj.g ∧ (bi.g = bj.g → bi = bj) ∧ (bi.fix = true → bi = bj)
 L : ∀ i l, X.L i = some l → Y.L i = some l
theorem Cx.le.refl (fb : Nat) (X : Cx) : X.le fb X := ⟨.refl _, fun _ bi _ h => ⟨bi, h, Nat.le_refl _, fun _ => rfl, fun _ => rfl⟩, fun _ _ h => h⟩
theorem Cx.le.trans {fb : Nat} {X Y Z : Cx} (h : X.le fb Y) (k : Y.le fb Z) : X.le fb Z :=
 ⟨h.C.trans k.C, fun b bi hb e => by
  obtain ⟨bj, e1, g1, h1, f1⟩ := h.M b bi hb e
  obtain ⟨bk, e2, g2, h2, f2⟩ := k.M b bj hb e1
  refine ⟨bk, e2, Nat.le_trans g1 g2, fun hg => ?_, fun hf => ?_⟩
  ·have : bi.g = bj.g := by omega
   rw [h1 this]; exact h2 (by omega)
  ·have := f1 hf; subst this; exact f2 hf, fun i l e => k.L i l (h.L i l e)⟩
theorem Cx.le.less {fb fb' : Nat} {X Y : Cx} (h : X.le fb Y) (hf : fb' ≤ fb) : X.le fb' Y := ⟨h.C, fun b bi hb e => h.M b bi (by omega) e, h.L⟩
def Cx.lt (X : Cx) (n : Nat) : Prop := ∀ b bi, X.M b = some bi → b < n
mutual
def V.low (fb : Nat) : V → Prop
 | .undef | .im _ | .full _ => True
 | .agg _ l | .tup l => V.lows fb l
 | .own b _ _ _ _ | .ptr b _ _ | .mp b | .yld b => b < fb
 | .fn _ a c => V.lows fb a ∧ V.lows fb c
 | .ifc _ v => v.low fb
def V.lows (fb : Nat) : List V → Prop
 | [] => True
 | v :: l => v.low fb ∧ V.lows fb l
end
theorem OwnR.mono {fb : Nat} {X Y : Cx} (h : X.le fb Y) {b g off len : Nat} {lim : Bool} {v : Value} (hb : b < fb) (k : OwnR X b g off len lim v) : OwnR Y b g off len lim v := by
 obtain ⟨h1, bi, e, hg, r⟩ := k
 obtain ⟨bj, e2, g2, h2, _⟩ := h.M b bi hb e
 refine ⟨h1, bj, e2, Nat.le_trans hg g2, fun hgj => ?_⟩
 have : bi.g = bj.g := by omega
 rw [← h2 this]; exact r (by omega)
theorem PtrR.mono {fb : Nat} {X Y : Cx} (h : X.le fb Y) {b g : Nat} {p : List (Nat × Nat)} {v : Value} (hb : b < fb) (k : PtrR X b g p v) : PtrR Y b g p v := by
 obtain ⟨h1, bi, e, hg, r⟩ := k
 obtain ⟨bj, e2, g2, h2, _⟩ := h.M b bi hb e
 refine ⟨h1, bj, e2, Nat.le_trans hg g2, fun hgj => ?_⟩
 have : bi.g = bj.g := by omega
 rw [← h2 this]; exact r (by omega)
theorem FullR.mono {C C' : IV} (h : C.le C') {l : List D} {v : Value} (k : FullR C l v) : FullR C' l v := by
 obtain ⟨a, n, e, hn, hm, r⟩ := k
 refine ⟨a, n, e, hn, hm, r.imp id ?_⟩
 rintro ⟨a0, wss, s, e0, hs, hr, hw, hc⟩
 exact ⟨a0, wss, s, e0, hs, hr.mono h, hw, hc.mono h⟩
mutual
theorem VREL.mono {fb : Nat} {X Y : Cx} (h : X.le fb Y) : ∀ (v : V) (m : Bool) (vs : List Value), v.low fb → VREL X v m vs → VREL Y v m vs
 | .undef, true, _, _, k => by simpa [VREL] using k
 | .undef, false, _, _, k => by simp [VREL] at k
 | .im d, m, vs, _, k => by simp only [VREL] at k ⊢; exact REL.mono h.C d m vs k
 | .agg w l, true, _, hl, k => by
  simp only [VREL] at k ⊢
  obtain ⟨cs, wss, e, h1, h2, h3⟩ := k
  exact ⟨cs, wss, e, h1, VRELs.mono h l false wss (by simpa [V.low] using hl) h2, h3⟩
 | .agg w l, false, _, hl, k => by
  simp only [VREL] at k ⊢
  obtain ⟨wss, e, h2, h3⟩ := k
  exact ⟨wss, e, VRELs.mono h l false wss (by simpa [V.low] using hl) h2, h3⟩
 | .tup l, true, _, hl, k => by
  simp only [VREL] at k ⊢
  obtain ⟨ts, wss, e, h2, h3⟩ := k
  exact ⟨ts, wss, e, VRELs.mono h l true wss (by simpa [V.low] using hl) h2, h3⟩
 | .tup _, false, _, _, k => by simp [VREL] at k
 | .own b g off len lim, _, _, hl, k => by
  simp only [VREL] at k ⊢
  obtain ⟨v, e, r⟩ := k
  exact ⟨v, e, r.mono h (by simpa [V.low] using hl)⟩
 | .full l, _, _, _, k => by
  simp only [VREL] at k ⊢
  obtain ⟨v, e, r⟩ := k
  exact ⟨v, e, r.mono h.C⟩
 | .ptr b g p, _, _, hl, k => by
  simp only [VREL] at k ⊢
  obtain ⟨v, e, r⟩ := k
  exact ⟨v, e, r.mono h (by simpa [V.low] using hl)⟩
 | .fn f a c, _, _, hl, k => by
  simp only [VREL] at k ⊢
  simp only [V.low] at hl
  obtain ⟨fs, cs, w1, w2, e, h1, e1, h2, e2⟩ := k
  exact ⟨fs, cs, w1, w2, e, VRELs.mono h a true w1 hl.1 h1, e1, VRELs.mono h c true w2 hl.2 h2, e2⟩
 | .ifc t v, _, _, hl, k => by
  simp only [VREL] at k ⊢
  obtain ⟨x, e, r⟩ := k
  exact ⟨x, e, VREL.mono h v true [x] (by simpa [V.low] using hl) r⟩
 | .mp b, _, _, hl, k => by
  simp only [VREL] at k ⊢
  obtain ⟨r, bi, e, h1, h2, h3⟩ := k
  obtain ⟨bj, e2, g2, hh, hf⟩ := h.M b bi (by simpa [V.low] using hl) h1
  have := hf h3; subst this
  exact ⟨r, bi, e, e2, h2, h3⟩
 | .yld i, _, _, hl, k => by
  simp only [VREL] at k ⊢
  obtain ⟨l, e, bi, h1, h2, h3⟩ := k
  obtain ⟨bj, e2, g2, hh, hf⟩ := h.M i bi (by simpa [V.low] using hl) h1
  have := hf h3; subst this
  exact ⟨l, e, bi, e2, h2, h3⟩
theorem VRELs.mono {fb : Nat} {X Y : Cx} (h : X.le fb Y) : ∀ (l : List V) (m : Bool) (wss : List (List Value)), V.lows fb l → VRELs X l m wss → VRELs Y l m wss
 | [], _, _, _, k => by simpa [VRELs] using k
 | v :: l, m, _, hl, k => by
  simp only [VRELs] at k ⊢
  simp only [V.lows] at hl
  obtain ⟨ws, r, e, h1, h2⟩ := k
  exact ⟨ws, r, e, VREL.mono h v m ws hl.1 h1, VRELs.mono h l m r hl.2 h2⟩
end
mutual
theorem VREL.low {X : Cx} {n : Nat} (hX : X.lt n) : ∀ (v : V) (m : Bool) (vs : List Value), VREL X v m vs → v.low n
 | .undef, _, _, _ | .im _, _, _, _ | .full _, _, _, _ => by simp [V.low]
 | .agg w l, true, _, k => by
  simp only [VREL] at k
  obtain ⟨cs, wss, e, h1, h2, h3⟩ := k
  simpa [V.low] using VRELs.low hX l false wss h2
 | .agg w l, false, _, k => by
  simp only [VREL] at k
  obtain ⟨wss, e, h2, h3⟩ := k
  simpa [V.low] using VRELs.low hX l false wss h2
 | .tup l, true, _, k => by
  simp only [VREL] at k
  obtain ⟨ts, wss, e, h2, h3⟩ := k
  simpa [V.low] using VRELs.low hX l true wss h2
 | .tup _, false, _, k => by simp [VREL] at k
 | .own b g off len lim, _, _, k => by
  simp only [VREL] at k
  obtain ⟨v, e, h1, bi, h2, r⟩ := k
  simpa [V.low] using hX b bi h2
 | .ptr b g p, _, _, k => by
  simp only [VREL] at k
  obtain ⟨v, e, h1, bi, h2, r⟩ := k
  simpa [V.low] using hX b bi h2
 | .fn f a c, _, _, k => by
  simp only [VREL] at k
  obtain ⟨fs, cs, w1, w2, e, h1, e1, h2, e2⟩ := k
  simp only [V.low]
  exact ⟨VRELs.low hX a true w1 h1, VRELs.low hX c true w2 h2⟩
 | .ifc t v, _, _, k => by
  simp only [VREL] at k
  obtain ⟨x, e, r⟩ := k
  simpa [V.low] using VREL.low hX v true [x] r
 | .mp b, _, _, k => by
  simp only [VREL] at k
  obtain ⟨r, bi, e, h1, h2⟩ := k
  simpa [V.low] using hX b bi h1
 | .yld b, _, _, k => by
  simp only [VREL] at k
  obtain ⟨l, e, bi, h1, h2⟩ := k
  simpa [V.low] using hX b bi h1
theorem VRELs.low {X : Cx} {n : Nat} (hX : X.lt n) : ∀ (l : List V) (m : Bool) (wss : List (List Value)), VRELs X l m wss → V.lows n l
 | [], _, _, _ => by simp [V.lows]
 | v :: l, m, _, k => by
  simp only [VRELs] at k
  obtain ⟨ws, r, e, h1, h2⟩ := k
  simp only [V.lows]
  exact ⟨VREL.low hX v m ws h1, VRELs.low hX l m r h2⟩
end
end Go.As
/-
 AS: the heap. How the blocks of a running call stand for memory, and what keeps that.
-/
namespace Go.As
open Go.RowKit (Below)
@[simp] theorem lget_eq {α : Type} (l : List α) (i : Nat) : lget l i = l[i]? := by
 induction l generalizing i with
 | nil => rfl
 | cons a l ih => cases i with
  | zero => rfl
  | succ i => exact (ih i).trans (by simp)
@[simp] theorem llen_eq {α : Type} (l : List α) : llen l = l.length := by
 induction l with
 | nil => rfl
 | cons a l ih => show llen l + 1 = _; rw [ih]; rfl
@[simp] theorem lset_eq {α : Type} (l : List α) (i : Nat) (x : α) : lset l i x = l.set i x := by
 induction l generalizing i with
 | nil => rfl
 | cons a l ih => cases i with
  | zero => rfl
  | succ i => show a :: lset l i x = _; rw [ih]; rfl
@[simp] theorem reps_eq {α : Type} (n : Nat) (x : α) : reps n x = List.replicate n x := by
 induction n with
 | zero => rfl
 | succ n ih => show x :: reps n x = _; rw [ih]; rfl
@[simp] theorem imap_eq (l : List D) : imap l = l.map V.im := by
 induction l with
 | nil => rfl
 | cons a l ih => show V.im a :: imap l = _; rw [ih]; rfl
theorem hget_eq (h : Heap) (b : Nat) : hget h b = (h[b]?).join := by
 unfold hget; rw [lget_eq]; cases h[b]? <;> rfl
theorem hput_cons (b : Option Blk) (r : Heap) (n : Nat) (x : Blk) : hput (b :: r) (n + 1) x = b :: hput r n x := rfl
theorem hput_len (h : Heap) (n : Nat) (x : Blk) : (hput h n x).length = if n < h.length then h.length else h.length + 1 := by
 induction h generalizing n with
 | nil => rfl
 | cons b r ih => cases n with
  | zero => simp [hput]
  | succ n =>
   rw [hput_cons, List.length_cons, ih]; simp only [List.length_cons]; split <;> split <;> omega
theorem hget_hput (h : Heap) (n m : Nat) (x : Blk) (hn : n ≤ h.length) : hget (hput h n x) m = if m = n then some x else hget h m := by
 induction h generalizing n m with
 | nil =>
  obtain rfl : n = 0 := by simpa using hn
  cases m with
  | zero => rfl
  | succ m => simp [hget_eq, hput]
 | cons b r ih => cases n with
  | zero => cases m with
   | zero => simp [hput, hget_eq]
   | succ m => simp [hput, hget_eq]
  | succ n => cases m with
   | zero => simp [hput_cons, hget_eq]
   | succ m =>
    have := ih n m (by simpa using hn)
    simp only [hput_cons, hget_eq, List.getElem?_cons_succ] at this ⊢
    rw [this]; simp
theorem hget_lt {h : Heap} {b : Nat} {k : Blk} (e : hget h b = some k) : b < h.length := by
 rw [hget_eq] at e
 rcases Nat.lt_or_ge b h.length with g | g
 ·exact g
 ·simp [List.getElem?_eq_none g] at e
structure Keep (w w' : World) : Prop where
 block : ∀ r : Nat, r < w.heap.size → w'.heap[r]? = w.heap[r]?
theorem Keep.cell {w w' : World} (k : Keep w w') : ∀ a v, w.cell? a = some v → w'.cell? a = some v := fun a v e =>
 (World.cell?_of_block (w := w) (k.block a.block (World.block_lt_of_cell? w a e))).trans e
theorem Keep.frozen {w w' : World} (k : Keep w w') : ∀ a v, w.cell? a = some v → w'.frozen? a = w.frozen? a := fun a _ e =>
 World.frozen?_of_block (w := w) (k.block a.block (World.block_lt_of_cell? w a e))
theorem Keep.obj {w w' : World} (k : Keep w w') : ∀ (r : Nat) (o : Obj), w.heap[r]? = some o → w'.heap[r]? = some o := fun r _ e =>
 (k.block r (Array.getElem?_eq_some_iff.1 e).1).trans e
theorem Keep.refl (w : World) : Keep w w := ⟨fun _ _ => rfl⟩
theorem size_of_same {w w' : World} (k : ∀ r : Nat, r < w.heap.size → w'.heap[r]? = w.heap[r]?) : w.heap.size ≤ w'.heap.size := by
 rcases Nat.lt_or_ge w'.heap.size w.heap.size with h | h
 ·have := k w'.heap.size h
  rw [Array.getElem?_eq_none (Nat.le_refl _), Array.getElem?_eq_getElem h] at this
  cases this
 ·exact h
theorem Keep.trans {a b c : World} (h : Keep a b) (k : Keep b c) : Keep a c :=
 ⟨fun r e => (k.block r (Nat.lt_of_lt_of_le e (size_of_same h.block))).trans (h.block r e)⟩
theorem Keep.of_below {w w' : World} (h : Below w.heap.size w w') : Keep w w' := ⟨h.block⟩
theorem below_alloc (w : World) (o : Obj) : Below w.heap.size w (w.alloc o) := (Below.refl _ _).alloc (Nat.le_refl _) o
theorem below_drew (w : World) : Below w.heap.size w w.drew := (Below.refl _ _).drew
theorem Keep.alloc (w : World) (o : Obj) : Keep w (w.alloc o) := .of_below (below_alloc w o)
def CI (C : IV) (w : World) : Prop := ∀ a v, C a = some v → w.cell? a = some v
theorem CI.keep {C : IV} {w w' : World} (h : CI C w) (k : Keep w w') : CI C w' := fun a v e => k.cell a v (h a v e)
theorem cellsAt.keep {w w' : World} {a : Addr} {vs : List Value} (h : cellsAt w.cell? a vs) (k : Keep w w') : cellsAt w'.cell? a vs := fun j v e => k.cell _ v (h j v e)
def Owns (w : World) (O : Addr → Prop) (a : Addr) (i n : Nat) : Prop := ∀ j, i ≤ j → j < n → O (a.add j) ∧ (∃ v, w.cell? (a.add j) = some v) ∧ w.frozen? (a.add j) = false
theorem Owns.keep {w w' : World} {O : Addr → Prop} {a : Addr} {i n : Nat} (h : Owns w O a i n) (k : Keep w w') : Owns w' O a i n := fun j h1 h2 =>
 let ⟨o, ⟨v, e⟩, f⟩ := h j h1 h2
 ⟨o, ⟨v, k.cell _ v e⟩, (k.frozen _ v e).trans f⟩
def BLD (T e : TypeId) (w : World) (O : Addr → Prop) (r : Nat) (s : List Nat) : Prop :=
 ∃ p v, w.heap[r]? = some (.cells #[p, v] T (0, 0)) ∧ (p = .pointer none ∨ p = .pointer (some ⟨r, 0, none⟩)) ∧ w.ownsRowF 0 e 1 v s.length (s.map fun c => Value.int .u8 (Int.ofNat c)) ∧
  (∀ c ∈ s, c < 256) ∧ v.ownBlock ≠ some r ∧ (∀ a, a.block = r → O a) ∧ (∀ g, v.ownBlock = some g → ∀ a : Addr, a.block = g → O a)
theorem BLD.kept {T e : TypeId} {w w' : World} {O O' : Addr → Prop} {r : Nat} {s : List Nat} (h : BLD T e w O r s) (hk : ∀ g, (∀ a : Addr, a.block = g → O a) → g < w.heap.size → w'.heap[g]? = w.heap[g]?) (hO : ∀ a, O a → O' a) : BLD T e w' O' r s := by
 obtain ⟨p, v, h1, h2, h3, h4, h5, h6, h7⟩ := h
 refine ⟨p, v, (hk r h6 (Array.getElem?_eq_some_iff.1 h1).1).trans h1, h2, ⟨h3.1, ?_⟩, h4, h5, fun a e => hO a (h6 a e), fun g e a ea => hO a (h7 g e a ea)⟩
 rcases h3.2 with h | ⟨g, cap, cur, fz, q1, q2, q3, q4⟩
 ·exact .inl h
 ·refine .inr ⟨g, cap, cur, fz, q1, q2, (hk g (h7 g ?_) (Array.getElem?_eq_some_iff.1 q3).1).trans q3, q4⟩
  subst q1; rfl
class Gh where
 K : Nat → Nat → Code → Prop
variable [Gh]
structure LpR (X : Cx) (f : Nat) (t : Tm) (ps : List Nat) (asg body : Code) (r : Loop) : Prop where
 qst : r.state = .ready
 qpend : r.pending = none
 qps : r.params.toList = ps
 qasg : r.assign = asg
 qbody : r.body = body
 qt : ∀ i, VREL X (t.get i) true [r.tmps.getD i undef]
 qlt : ∀ p ∈ ps, p < r.tmps.size
 k1 : Gh.K f r.tmps.size asg
 k2 : Gh.K f r.tmps.size body
theorem LpR.mono {n : Nat} {X Y : Cx} {f : Nat} {t : Tm} {ps : List Nat} {asg body : Code} {r : Loop} (h : LpR X f t ps asg body r) (hl : ∀ i, (t.get i).low n) (hxy : X.le n Y) : LpR Y f t ps asg body r :=
 ⟨h.qst, h.qpend, h.qps, h.qasg, h.qbody, fun i => (h.qt i).mono hxy _ _ _ (hl i), h.qlt, h.k1, h.k2⟩
def ENT (X : Cx) : List (D × V) → List MapEntry → Prop
 | [], ms => ms = []
 | e :: es, ms => ∃ m r, ms = m :: r ∧ REL X.C e.1 true [m.key] ∧ VREL X e.2 true [m.val] ∧ ENT X es r
structure ENTS (X : Cx) (es : List (D × V)) (s : List Nat) (ck : Nat) (ms : List MapEntry) (ck' : Nat) : Prop where
 ent : ENT X es ms
 born : ms.map (·.born) = s
 clk : ck' = ck
def BR (X : Cx) (w : World) (O : Addr → Prop) (b : Nat) : Blk → Prop
 | .cell v => ∃ bi a0 ws, X.M b = some bi ∧ bi.g = 0 ∧ bi.fix = true ∧ bi.base = some a0 ∧ a0.spot = none ∧ VREL X v false ws ∧ cellsAt w.cell? a0 ws ∧ Owns w O a0 0 ws.length
 | .arr g s ro l => ∃ bi, X.M b = some bi ∧ bi.g = g ∧ bi.fix = false ∧ (l.length ≤ bi.cap ∧ ro ≤ l.length) ∧ bi.cap ≤ LMX ∧ (bi.cap = 0 ∨ (bi.s = s ∧ ∃ a0 wss, bi.base = some a0 ∧ a0.spot = none ∧
   RELs X.C l false wss ∧ (∀ ws ∈ wss, ws.length = s) ∧ cellsAt w.cell? a0 wss.flatten ∧ cellsAt X.C a0 (wss.flatten.take (ro * s)) ∧ Owns w O a0 (ro * s) (bi.cap * s)))
 | .arv g s l => ∃ bi, X.M b = some bi ∧ bi.g = g ∧ bi.fix = false ∧ l.length ≤ bi.cap ∧ bi.cap ≤ LMX ∧ (bi.cap = 0 ∨ (bi.s = s ∧ ∃ a0 wss, bi.base = some a0 ∧ a0.spot = none ∧
   VRELs X l false wss ∧ (∀ ws ∈ wss, ws.length = s) ∧ cellsAt w.cell? a0 wss.flatten ∧ Owns w O a0 0 (bi.cap * s)))
 | .mp es s c => ∃ bi r ms ck, X.M b = some bi ∧ bi.g = 0 ∧ bi.fix = true ∧ bi.base = some ⟨r, 0, none⟩ ∧ w.heap[r]? = some (.map ms ck) ∧ O ⟨r, 0, none⟩ ∧ ENTS X es s c ms.toList ck
 | .bld T e s => ∃ bi r, X.M b = some bi ∧ bi.g = 0 ∧ bi.fix = true ∧ bi.base = some ⟨r, 0, none⟩ ∧ BLD T e w O r s
 | .lp f t ps asg body => ∃ bi l r, X.M b = some bi ∧ bi.g = 0 ∧ bi.fix = true ∧ bi.base = some ⟨l, 0, none⟩ ∧ w.heap[l]? = some (.loop r) ∧ O ⟨l, 0, none⟩ ∧ LpR X f t ps asg body r
 | .it v since seen last => ∃ bi r m, X.M b = some bi ∧ bi.g = 0 ∧ bi.fix = true ∧ bi.base = some ⟨r, 0, none⟩ ∧ w.heap[r]? = some (.mapIter m since seen.toArray last) ∧ O ⟨r, 0, none⟩ ∧ VREL X v true [.map m]
structure HR (B : Nat) (X : Cx) (O : Nat → Addr → Prop) (w : World) (h : Heap) : Prop where
 blk : ∀ b k, hget h b = some k → BR X w (O b) b k
 own : ∀ b a, O b a → B ≤ a.block ∧ a.block < w.heap.size ∧ X.C a = none
 dis : ∀ b c a, O b a → O c a → b = c
 lt : X.lt h.length
 ci : CI X.C w
 wb : B ≤ w.heap.size
def Blk.lows (n : Nat) : Blk → Prop
 | .cell v => v.low n
 | .arr _ _ _ _ => True
 | .arv _ _ l => V.lows n l
 | .mp es _ _ => ∀ e ∈ es, e.2.low n
 | .bld _ _ _ => True
 | .lp _ t _ _ _ => ∀ i, (t.get i).low n
 | .it v _ _ _ => v.low n
theorem ENT.mono {n : Nat} {X Y : Cx} (h : X.le n Y) : ∀ {es : List (D × V)} {ms : List MapEntry}, (∀ e ∈ es, e.2.low n) → ENT X es ms → ENT Y es ms
 | [], _, _, k => by simpa [ENT] using k
 | e :: es, _, hl, k => by
  simp only [ENT] at k ⊢
  obtain ⟨m, r, e1, h1, h2, h3⟩ := k
  exact ⟨m, r, e1, h1.mono h.C, h2.mono h _ _ _ (hl _ (by simp)), ENT.mono h (fun x hx => hl x (by simp [hx])) h3⟩
theorem ENT.low {n : Nat} {X : Cx} (hX : X.lt n) : ∀ {es : List (D × V)} {ms : List MapEntry}, ENT X es ms → ∀ e ∈ es, e.2.low n
 | [], _, _ => by simp
 | e :: es, _, k => by
  simp only [ENT] at k
  obtain ⟨m, r, e1, h1, h2, h3⟩ := k
  intro x hx
  rcases List.mem_cons.1 hx with rfl | hx
  ·exact VREL.low hX _ _ _ h2
  ·exact ENT.low hX h3 x hx
theorem BR.low {n : Nat} {X : Cx} {w : World} {O : Addr → Prop} {b : Nat} {k : Blk} (hX : X.lt n) (h : BR X w O b k) : k.lows n := by
 cases k with
 | cell v => obtain ⟨bi, a0, ws, _, _, _, _, _, h, _⟩ := h; exact VREL.low hX _ _ _ h
 | arr g s ro l => trivial
 | arv g s l =>
  obtain ⟨bi, hM, hg, hf, hl, _, h⟩ := h
  rcases h with h | ⟨_, a0, wss, _, _, h, _⟩
  ·have : l = [] := List.eq_nil_of_length_eq_zero (by omega)
   subst this; simp [Blk.lows, V.lows]
  ·exact VRELs.low hX _ _ _ h
 | mp es s c => obtain ⟨bi, r, ms, ck, _, _, _, _, _, _, h⟩ := h; exact ENT.low hX h.ent
 | bld => trivial
 | lp f t ps asg body => obtain ⟨bi, l, r, _, _, _, _, _, _, h⟩ := h; exact fun i => VREL.low hX _ _ _ (h.qt i)
 | it v a s l => obtain ⟨bi, r, m, _, _, _, _, _, _, h⟩ := h; exact VREL.low hX _ _ _ h
theorem BR.later {n : Nat} {X Y : Cx} {w w' : World} {O O' : Addr → Prop} {b : Nat} {k : Blk} (h : BR X w O b k) (hX : X.lt n) (hxy : X.le n Y) (hM : Y.M b = X.M b) (hk : Keep w w') (hO : ∀ a, O a → O' a) : BR Y w' O' b k := by
 have hlow := h.low hX
 cases k with
 | cell v =>
  obtain ⟨bi, a0, ws, h1, h2, h3, h4, h5, h6, h7, h8⟩ := h
  exact ⟨bi, a0, ws, hM.trans h1, h2, h3, h4, h5, h6.mono hxy _ _ _ hlow, h7.keep hk, fun j a b => let ⟨x, y⟩ := h8.keep hk j a b; ⟨hO _ x, y⟩⟩
 | arr g s ro l =>
  obtain ⟨bi, h1, h2, h3, h4, h5, h6⟩ := h
  refine ⟨bi, hM.trans h1, h2, h3, h4, h5, h6.imp id ?_⟩
  rintro ⟨e, a0, wss, h7, h8, h9, h10, h11, h12, h13⟩
  exact ⟨e, a0, wss, h7, h8, h9.mono hxy.C, h10, h11.keep hk, h12.mono hxy.C, fun j a b => let ⟨x, y⟩ := h13.keep hk j a b; ⟨hO _ x, y⟩⟩
 | arv g s l =>
  obtain ⟨bi, h1, h2, h3, h4, h5, h6⟩ := h
  refine ⟨bi, hM.trans h1, h2, h3, h4, h5, h6.imp id ?_⟩
  rintro ⟨e, a0, wss, h7, h8, h9, h10, h11, h12⟩
  exact ⟨e, a0, wss, h7, h8, h9.mono hxy _ _ _ hlow, h10, h11.keep hk, fun j a b => let ⟨x, y⟩ := h12.keep hk j a b; ⟨hO _ x, y⟩⟩
 | mp es s c =>
  obtain ⟨bi, r, ms, ck, h1, h2, h3, h4, h5, h6, h7⟩ := h
  exact ⟨bi, r, ms, ck, hM.trans h1, h2, h3, h4, hk.obj _ _ h5, hO _ h6, ⟨h7.ent.mono hxy hlow, h7.born, h7.clk⟩⟩
 | bld T e s =>
  obtain ⟨bi, r, h1, h2, h3, h4, h5⟩ := h
  exact ⟨bi, r, hM.trans h1, h2, h3, h4, h5.kept (fun g _ hg => hk.block g hg) hO⟩
 | lp f t ps asg body =>
  obtain ⟨bi, l, r, h1, h2, h3, h4, h5, h6, h7⟩ := h
  exact ⟨bi, l, r, hM.trans h1, h2, h3, h4, hk.obj _ _ h5, hO _ h6, h7.mono hlow hxy⟩
 | it v a s l =>
  obtain ⟨bi, r, m, h1, h2, h3, h4, h5, h6, h7⟩ := h
  exact ⟨bi, r, m, hM.trans h1, h2, h3, h4, hk.obj _ _ h5, hO _ h6, h7.mono hxy _ _ _ hlow⟩
theorem HR.keep {B : Nat} {X : Cx} {O : Nat → Addr → Prop} {w w' : World} {h : Heap} (hr : HR B X O w h) (hk : Keep w w') (hw : w.heap.size ≤ w'.heap.size) : HR B X O w' h :=
 ⟨fun b k e => (hr.blk b k e).later hr.lt (.refl _ _) rfl hk (fun _ h => h), fun b a o => let ⟨x, y, z⟩ := hr.own b a o; ⟨x, Nat.lt_of_lt_of_le y hw, z⟩, hr.dis, hr.lt, hr.ci.keep hk, Nat.le_trans hr.wb hw⟩
structure FR (X : Cx) (O : Nat → Addr → Prop) (w : World) (h : Heap) (X' : Cx) (O' : Nat → Addr → Prop) (w' : World) (h' : Heap) : Prop where
 hid : ∀ b bi, X.M b = some bi → hget h b = none → hget h' b = none
 M : ∀ b bi, X.M b = some bi → hget h b = none → X'.M b = some bi
 own : ∀ b bi, X.M b = some bi → hget h b = none → ∀ a, O b a → O' b a
 cell : ∀ b bi, X.M b = some bi → hget h b = none → ∀ a, O b a → ∀ v, w.cell? a = some v → w'.cell? a = some v ∧ w'.frozen? a = w.frozen? a
 obj : ∀ b bi, X.M b = some bi → hget h b = none → ∀ r : Nat, O b ⟨r, 0, none⟩ → ∀ o, w.heap[r]? = some o → o.isCells = false → w'.heap[r]? = some o
 blk : ∀ b bi, X.M b = some bi → hget h b = none → ∀ g, (∀ a : Addr, a.block = g → O b a) → g < w.heap.size → w'.heap[g]? = w.heap[g]?
 vis : ∀ b, hget h' b = none → hget h b = none
 unk : ∀ b, b < h.length → X.M b = none → hget h' b = none → X'.M b = none
theorem FR.refl (X : Cx) (O : Nat → Addr → Prop) (w : World) (h : Heap) : FR X O w h X O w h :=
 ⟨fun _ _ _ e => e, fun _ _ e _ => e, fun _ _ _ _ _ o => o, fun _ _ _ _ _ _ _ e => ⟨e, rfl⟩, fun _ _ _ _ _ _ _ e _ => e, fun _ _ _ _ _ _ _ => rfl, fun _ e => e, fun _ _ e _ => e⟩
theorem FR.trans {X Y Z : Cx} {O O' O'' : Nat → Addr → Prop} {a b c : World} {h h' h'' : Heap} (f : FR X O a h Y O' b h') (g : FR Y O' b h' Z O'' c h'') (hs : a.heap.size ≤ b.heap.size) (hl : h.length ≤ h'.length) : FR X O a h Z O'' c h'' where
 hid := fun n bi e hn => g.hid n bi (f.M n bi e hn) (f.hid n bi e hn)
 M := fun n bi e hn => g.M n bi (f.M n bi e hn) (f.hid n bi e hn)
 own := fun n bi e hn x o => g.own n bi (f.M n bi e hn) (f.hid n bi e hn) x (f.own n bi e hn x o)
 cell := fun n bi e hn x o v ev =>
  let ⟨p, q⟩ := f.cell n bi e hn x o v ev
  let ⟨p', q'⟩ := g.cell n bi (f.M n bi e hn) (f.hid n bi e hn) x (f.own n bi e hn x o) v p
  ⟨p', q'.trans q⟩
 obj := fun n bi e hn x o ob eo ho => g.obj n bi (f.M n bi e hn) (f.hid n bi e hn) x (f.own n bi e hn _ o) ob (f.obj n bi e hn x o ob eo ho) ho
 blk := fun n bi e hn k ho hk => (g.blk n bi (f.M n bi e hn) (f.hid n bi e hn) k (fun a ea => f.own n bi e hn a (ho a ea)) (Nat.lt_of_lt_of_le hk hs)).trans (f.blk n bi e hn k ho hk)
 vis := fun n e => f.vis n (g.vis n e)
 unk := fun n hln e hn => g.unk n (Nat.lt_of_lt_of_le hln hl) (f.unk n hln e (g.vis n hn)) hn
theorem FR.keep {X : Cx} {O : Nat → Addr → Prop} {w w' : World} {h : Heap} (hk : Keep w w') : FR X O w h X O w' h :=
 ⟨fun _ _ _ e => e, fun _ _ e _ => e, fun _ _ _ _ _ o => o, fun _ _ _ _ _ _ _ e => ⟨hk.cell _ _ e, hk.frozen _ _ e⟩, fun _ _ _ _ _ _ _ e _ => hk.obj _ _ e, fun _ _ _ _ g _ hg => hk.block g hg, fun _ e => e, fun _ _ e _ => e⟩
theorem BR.framed {n : Nat} {X Y : Cx} {w w' : World} {O O' : Nat → Addr → Prop} {h h' : Heap} (f : FR X O w h Y O' w' h') (hci : CI Y.C w') {b : Nat} {bi : BI} (hb : X.M b = some bi) (hh : hget h b = none)
  {k : Blk} (r : BR X w (O b) b k) (hX : X.lt n) (hxy : X.le n Y) : BR Y w' (O' b) b k := by
 have hlow := r.low hX
 have hM : Y.M b = X.M b := (f.M b bi hb hh).trans hb.symm
 have hown : ∀ {a : Addr} {i n : Nat}, Owns w (O b) a i n → Owns w' (O' b) a i n := fun ho j h1 h2 =>
  let ⟨o, ⟨v, e⟩, fz⟩ := ho j h1 h2
  let ⟨p, q⟩ := f.cell b bi hb hh _ o v e
  ⟨f.own b bi hb hh _ o, ⟨v, p⟩, q.trans fz⟩
 cases k with
 | cell v =>
  obtain ⟨bi, a0, ws, h1, h2, h3, h4, h5, h6, h7, h8⟩ := r
  exact ⟨bi, a0, ws, hM.trans h1, h2, h3, h4, h5, h6.mono hxy _ _ _ hlow, fun j v e => (f.cell b _ hb hh _ (h8 j (Nat.zero_le _) (List.getElem?_eq_some_iff.1 e).1).1 v (h7 j v e)).1, hown h8⟩
 | arr g s ro l =>
  obtain ⟨bi, h1, h2, h3, h4, h5, h6⟩ := r
  refine ⟨bi, hM.trans h1, h2, h3, h4, h5, h6.imp id ?_⟩
  rintro ⟨e, a0, wss, h7, h8, h9, h10, h11, h12, h13⟩
  refine ⟨e, a0, wss, h7, h8, h9.mono hxy.C, h10, fun j v ev => ?_, h12.mono hxy.C, hown h13⟩
  by_cases hj : j < ro * s
  ·exact hci _ _ (hxy.C _ _ (h12 j v (by rw [List.getElem?_take, if_pos hj]; exact ev)))
  ·have hlen : wss.flatten.length = l.length * s := by
    have : wss.flatten.length = wss.length * s := by
     have key : ∀ l : List (List Value), (∀ ws ∈ l, ws.length = s) → l.flatten.length = l.length * s := by
      intro l hl
      induction l with
      | nil => simp
      | cons a l ih => rw [List.flatten_cons, List.length_append, hl a (by simp), ih (fun x hx => hl x (by simp [hx])), List.length_cons, Nat.add_mul, Nat.one_mul, Nat.add_comm]
     exact key wss h10
    rw [this]
    have key2 : ∀ {l : List D} {wss : List (List Value)}, RELs X.C l false wss → wss.length = l.length := by
     intro l
     induction l with
     | nil => intro wss h; simp only [RELs] at h; subst h; rfl
     | cons a l ih => intro wss h; simp only [RELs] at h; obtain ⟨ws, r, e, _, h2⟩ := h; subst e; simp [ih h2]
    rw [key2 h9]
   have hj2 : j < bi.cap * s := by
    have := (List.getElem?_eq_some_iff.1 ev).1
    rw [hlen] at this
    exact Nat.lt_of_lt_of_le this (Nat.mul_le_mul_right _ h4.1)
   exact (f.cell b _ hb hh _ (h13 j (by omega) hj2).1 v (h11 j v ev)).1
 | arv g s l =>
  obtain ⟨bi, h1, h2, h3, h4, h5, h6⟩ := r
  refine ⟨bi, hM.trans h1, h2, h3, h4, h5, h6.imp id ?_⟩
  rintro ⟨e, a0, wss, h7, h8, h9, h10, h11, h12⟩
  refine ⟨e, a0, wss, h7, h8, h9.mono hxy _ _ _ hlow, h10, fun j v ev => ?_, hown h12⟩
  have hlen : wss.flatten.length = l.length * s := by
   have key : ∀ l : List (List Value), (∀ ws ∈ l, ws.length = s) → l.flatten.length = l.length * s := by
    intro l hl
    induction l with
    | nil => simp
    | cons a l ih => rw [List.flatten_cons, List.length_append, hl a (by simp), ih (fun x hx => hl x (by simp [hx])), List.length_cons, Nat.add_mul, Nat.one_mul, Nat.add_comm]
   rw [key wss h10]
   have key2 : ∀ {l : List V} {wss : List (List Value)}, VRELs X l false wss → wss.length = l.length := by
    intro l
    induction l with
    | nil => intro wss h; simp only [VRELs] at h; subst h; rfl
    | cons a l ih => intro wss h; simp only [VRELs] at h; obtain ⟨ws, r, e, _, h2⟩ := h; subst e; simp [ih h2]
   rw [key2 h9]
  have hj2 : j < bi.cap * s := by
   have := (List.getElem?_eq_some_iff.1 ev).1
   rw [hlen] at this
   exact Nat.lt_of_lt_of_le this (Nat.mul_le_mul_right _ h4)
  exact (f.cell b _ hb hh _ (h12 j (Nat.zero_le _) hj2).1 v (h11 j v ev)).1
 | mp es s c =>
  obtain ⟨bi, r, ms, ck, h1, h2, h3, h4, h5, h6, h7⟩ := r
  exact ⟨bi, r, ms, ck, hM.trans h1, h2, h3, h4, f.obj b _ hb hh _ h6 _ h5 rfl, f.own b _ hb hh _ h6, ⟨h7.ent.mono hxy hlow, h7.born, h7.clk⟩⟩
 | bld T e s =>
  obtain ⟨bi, r, h1, h2, h3, h4, h5⟩ := r
  exact ⟨bi, r, hM.trans h1, h2, h3, h4, h5.kept (fun g hO hg => f.blk b _ hb hh g hO hg) (fun a o => f.own b _ hb hh a o)⟩
 | lp f0 t ps asg body =>
  obtain ⟨bi, l, r, h1, h2, h3, h4, h5, h6, h7⟩ := r
  exact ⟨bi, l, r, hM.trans h1, h2, h3, h4, f.obj b _ hb hh _ h6 _ h5 rfl, f.own b _ hb hh _ h6, h7.mono hlow hxy⟩
 | it v a s l =>
  obtain ⟨bi, r, m, h1, h2, h3, h4, h5, h6, h7⟩ := r
  exact ⟨bi, r, m, hM.trans h1, h2, h3, h4, f.obj b _ hb hh _ h6 _ h5 rfl, f.own b _ hb hh _ h6, h7.mono hxy _ _ _ hlow⟩
def Cx.withC (X : Cx) (C : IV) : Cx := { X with C }
theorem HR.more {B : Nat} {X : Cx} {O : Nat → Addr → Prop} {w : World} {h : Heap} (hr : HR B X O w h) {C : IV} (hC : X.C.le C) (hci : CI C w) (hn : ∀ b a, O b a → C a = none) : HR B (X.withC C) O w h :=
 ⟨fun b k e => (hr.blk b k e).later hr.lt ⟨hC, fun _ bi _ e => ⟨bi, e, Nat.le_refl _, fun _ => rfl, fun _ => rfl⟩, fun _ _ e => e⟩ rfl (.refl w) (fun _ h => h),
  fun b a o => ⟨(hr.own b a o).1, (hr.own b a o).2.1, hn b a o⟩, hr.dis, hr.lt, hci, hr.wb⟩
end Go.As
/-
 AS: two lists that go side by side; rows of cells.
-/
namespace Go.As
variable [Gh]
def All2 {α β : Type} (R : α → β → Prop) : List α → List β → Prop
 | [], ys => ys = []
 | x :: xs, ys => ∃ y r, ys = y :: r ∧ R x y ∧ All2 R xs r
namespace All2
variable {α β γ : Type} {R : α → β → Prop}
theorem nil : All2 R [] [] := rfl
theorem cons {x : α} {y : β} {xs : List α} {ys : List β} (h : R x y) (k : All2 R xs ys) : All2 R (x :: xs) (y :: ys) := ⟨y, ys, rfl, h, k⟩
theorem cons_iff {x : α} {y : β} {xs : List α} {ys : List β} : All2 R (x :: xs) (y :: ys) ↔ R x y ∧ All2 R xs ys :=
 ⟨fun ⟨_, _, e, h, k⟩ => by cases e; exact ⟨h, k⟩, fun ⟨h, k⟩ => cons h k⟩
theorem len : ∀ {xs : List α} {ys : List β}, All2 R xs ys → ys.length = xs.length
 | [], _, h => by cases h; rfl
 | _ :: _, _, ⟨_, _, e, _, k⟩ => by subst e; simp [len k]
theorem get : ∀ {xs : List α} {ys : List β} {i : Nat} {x : α}, All2 R xs ys → xs[i]? = some x → ∃ y, ys[i]? = some y ∧ R x y
 | [], _, _, _, _, e => by simp at e
 | _ :: _, _, 0, _, ⟨y, r, e, h, _⟩, e1 => by subst e; simp at e1; subst e1; exact ⟨y, rfl, h⟩
 | _ :: _, _, i + 1, _, ⟨_, _, e, _, k⟩, e1 => by subst e; simpa using get (i := i) k (by simpa using e1)
theorem set : ∀ {xs : List α} {ys : List β} {i : Nat} {x : α} {y : β}, All2 R xs ys → R x y → All2 R (xs.set i x) (ys.set i y)
 | [], _, _, _, _, h, _ => by cases h; rfl
 | _ :: _, _, 0, _, _, ⟨_, r, e, _, k⟩, hr => by subst e; exact cons hr k
 | _ :: _, _, i + 1, _, _, ⟨_, _, e, h, k⟩, hr => by subst e; exact cons h (set k hr)
theorem app : ∀ {xs xs' : List α} {ys ys' : List β}, All2 R xs ys → All2 R xs' ys' → All2 R (xs ++ xs') (ys ++ ys')
 | [], _, _, _, h, k => by cases h; exact k
 | _ :: _, _, _, _, ⟨_, _, e, h, k⟩, k' => by subst e; exact cons h (app k k')
theorem take : ∀ {xs : List α} {ys : List β} (n : Nat), All2 R xs ys → All2 R (xs.take n) (ys.take n)
 | _, _, 0, _ => by simp; rfl
 | [], _, _ + 1, h => by cases h; rfl
 | _ :: _, _, n + 1, ⟨_, _, e, h, k⟩ => by subst e; exact cons h (take n k)
theorem drop : ∀ {xs : List α} {ys : List β} (n : Nat), All2 R xs ys → All2 R (xs.drop n) (ys.drop n)
 | _, _, 0, h => by simpa using h
 | [], _, _ + 1, h => by cases h; rfl
 | _ :: _, _, n + 1, ⟨_, _, e, _, k⟩ => by subst e; exact drop n k
theorem rep {x : α} {y : β} (h : R x y) : ∀ n : Nat, All2 R (List.replicate n x) (List.replicate n y)
 | 0 => rfl
 | n + 1 => cons h (rep h n)
theorem imp {S : α → β → Prop} (f : ∀ x y, R x y → S x y) : ∀ {xs : List α} {ys : List β}, All2 R xs ys → All2 S xs ys
 | [], _, h => h
 | _ :: _, _, ⟨y, r, e, h, k⟩ => ⟨y, r, e, f _ _ h, imp f k⟩
theorem imp' {S : α → β → Prop} : ∀ {xs : List α} {ys : List β}, (∀ x ∈ xs, ∀ y, R x y → S x y) → All2 R xs ys → All2 S xs ys
 | [], _, _, h => h
 | x :: _, _, f, ⟨y, r, e, h, k⟩ => ⟨y, r, e, f x (by simp) y h, imp' (fun z hz => f z (by simp [hz])) k⟩
theorem map_left {f : γ → α} : ∀ {xs : List γ} {ys : List β}, All2 (fun x y => R (f x) y) xs ys ↔ All2 R (xs.map f) ys
 | [], _ => Iff.rfl
 | _ :: _, _ => ⟨fun ⟨y, r, e, h, k⟩ => ⟨y, r, e, h, map_left.1 k⟩, fun ⟨y, r, e, h, k⟩ => ⟨y, r, e, h, map_left.2 k⟩⟩
theorem erase : ∀ {xs : List α} {ys : List β} (i : Nat), All2 R xs ys → All2 R (xs.eraseIdx i) (ys.eraseIdx i)
 | [], _, _, h => by cases h; rfl
 | _ :: _, _, 0, ⟨_, _, e, _, k⟩ => by subst e; exact k
 | _ :: _, _, i + 1, ⟨_, _, e, h, k⟩ => by subst e; exact cons h (erase i k)
theorem app_inv : ∀ {xs xs' : List α} {zs : List β}, All2 R (xs ++ xs') zs → ∃ ys ys', zs = ys ++ ys' ∧ All2 R xs ys ∧ All2 R xs' ys'
 | [], _, zs, h => ⟨[], zs, rfl, rfl, h⟩
 | _ :: _, _, _, ⟨y, _, e, h, k⟩ => by
  subst e
  obtain ⟨ys, ys', e, h1, h2⟩ := app_inv k
  exact ⟨y :: ys, ys', by simp [e], cons h h1, h2⟩
end All2
theorem RELs_iff {C : IV} {m : Bool} : ∀ {l : List D} {wss : List (List Value)}, RELs C l m wss ↔ All2 (fun d ws => REL C d m ws) l wss
 | [], _ => by simp [RELs, All2]
 | d :: l, wss => by simp only [RELs, All2]; simp only [RELs_iff (l := l)]
theorem VRELs_iff {X : Cx} {m : Bool} : ∀ {l : List V} {wss : List (List Value)}, VRELs X l m wss ↔ All2 (fun d ws => VREL X d m ws) l wss
 | [], _ => by simp [VRELs, All2]
 | d :: l, wss => by simp only [VRELs, All2]; simp only [VRELs_iff (l := l)]
theorem ENT_iff {X : Cx} : ∀ {l : List (D × V)} {ms : List MapEntry}, ENT X l ms ↔ All2 (fun e m => REL X.C e.1 true [m.key] ∧ VREL X e.2 true [m.val]) l ms
 | [], _ => by simp [ENT, All2]
 | d :: l, ms => by simp only [ENT, All2]; simp only [ENT_iff (l := l), and_assoc]
def Even (s : Nat) (wss : List (List Value)) : Prop := ∀ ws ∈ wss, ws.length = s
theorem Even.len {s : Nat} {wss : List (List Value)} (h : Even s wss) : wss.flatten.length = wss.length * s := by
 induction wss with
 | nil => simp
 | cons a l ih =>
  rw [List.flatten_cons, List.length_append, h a (by simp), ih (fun x hx => h x (by simp [hx])), List.length_cons, Nat.add_mul, Nat.one_mul, Nat.add_comm]
theorem Even.get {s : Nat} : ∀ {wss : List (List Value)} {i j : Nat} {ws : List Value}, Even s wss → wss[i]? = some ws → j < s → wss.flatten[i * s + j]? = ws[j]?
 | [], _, _, _, _, e, _ => by simp at e
 | a :: l, 0, j, ws, h, e, hj => by
  simp at e; subst e
  rw [List.flatten_cons, Nat.zero_mul, Nat.zero_add, List.getElem?_append_left (by rw [h a (by simp)]; exact hj)]
 | a :: l, i + 1, j, ws, h, e, hj => by
  have ha := h a (by simp)
  rw [List.flatten_cons, List.getElem?_append_right (by rw [ha, Nat.add_mul]; omega), ha]
  have : (i + 1) * s + j - s = i * s + j := by rw [Nat.add_mul]; omega
  rw [this]
  exact Even.get (fun x hx => h x (by simp [hx])) (by simpa using e) hj
theorem Even.take {s : Nat} {wss : List (List Value)} (h : Even s wss) (n : Nat) : Even s (wss.take n) := fun x hx => h x (List.mem_of_mem_take hx)
theorem Even.drop {s : Nat} {wss : List (List Value)} (h : Even s wss) (n : Nat) : Even s (wss.drop n) := fun x hx => h x (List.mem_of_mem_drop hx)
theorem Even.app {s : Nat} {a b : List (List Value)} (h : Even s a) (k : Even s b) : Even s (a ++ b) := fun x hx => (List.mem_append.1 hx).elim (h x) (k x)
theorem Even.set {s : Nat} {a : List (List Value)} (h : Even s a) {i : Nat} {ws : List Value} (k : ws.length = s) : Even s (a.set i ws) := fun x hx => by
 rcases List.mem_or_eq_of_mem_set hx with hx | rfl
 ·exact h x hx
 ·exact k
theorem Even.rep {s n : Nat} {ws : List Value} (k : ws.length = s) : Even s (List.replicate n ws) := fun x hx => by rw [List.eq_of_mem_replicate hx]; exact k
theorem Even.flatten_take {s : Nat} : ∀ {wss : List (List Value)} {n : Nat}, Even s wss → (wss.take n).flatten = wss.flatten.take (n * s)
 | [], n, _ => by simp
 | a :: l, 0, _ => by simp
 | a :: l, n + 1, h => by
  have ha := h a (by simp)
  have e1 : (n + 1) * s - s = n * s := by rw [Nat.add_mul, Nat.one_mul, Nat.add_sub_cancel]
  have e2 : a.take ((n + 1) * s) = a := List.take_of_length_le (by rw [ha, Nat.add_mul]; omega)
  rw [List.take_succ_cons, List.flatten_cons, List.flatten_cons, Even.flatten_take (fun x hx => h x (by simp [hx])), List.take_append, ha, e1, e2]
theorem Even.flatten_drop {s : Nat} : ∀ {wss : List (List Value)} {n : Nat}, Even s wss → (wss.drop n).flatten = wss.flatten.drop (n * s)
 | [], n, _ => by simp
 | a :: l, 0, _ => by simp
 | a :: l, n + 1, h => by
  have ha := h a (by simp)
  have e1 : (n + 1) * s - s = n * s := by rw [Nat.add_mul, Nat.one_mul, Nat.add_sub_cancel]
  have e2 : a.drop ((n + 1) * s) = [] := List.drop_eq_nil_of_le (by rw [ha, Nat.add_mul]; omega)
  rw [List.drop_succ_cons, List.flatten_cons, Even.flatten_drop (fun x hx => h x (by simp [hx])), List.drop_append, ha, e1, e2, List.nil_append]
theorem Addr.add_add (a : Addr) (i j : Nat) (h : a.spot = none) : (a.add i).add j = a.add (i + j) := by
 unfold Addr.add
 cases a with
 | mk b o s =>
  simp only at h; subst h
  by_cases hi : i = 0 <;> by_cases hj : j = 0 <;> simp [hi, hj]
  omega
theorem Addr.add_spot (a : Addr) (i : Nat) (h : a.spot = none) : (a.add i).spot = none := by
 unfold Addr.add; split <;> simp_all
theorem Addr.add_block (a : Addr) (i : Nat) : (a.add i).block = a.block := by unfold Addr.add; split <;> rfl
theorem Addr.add_inj {a : Addr} {i j : Nat} (h : a.spot = none) (e : a.add i = a.add j) : i = j := by
 unfold Addr.add at e
 cases a with
 | mk b o s =>
  simp only at h; subst h
  by_cases hi : i = 0 <;> by_cases hj : j = 0 <;> simp [hi, hj] at e <;> omega
@[simp] theorem Addr.add_zero (a : Addr) : a.add 0 = a := by simp [Addr.add]
theorem cellsAt.drop {C : IV} {a : Addr} (ha : a.spot = none) {vs : List Value} (h : cellsAt C a vs) (n : Nat) : cellsAt C (a.add n) (vs.drop n) := fun j v e => by
 rw [Addr.add_add a n j ha]; exact h _ v (by simpa using e)
theorem cellsAt.take {C : IV} {a : Addr} {vs : List Value} (h : cellsAt C a vs) (n : Nat) : cellsAt C a (vs.take n) := fun j v e => h j v (by
 rw [List.getElem?_take] at e; split at e
 ·exact e
 ·cases e)
theorem cellsAt.row {C : IV} {a : Addr} (ha : a.spot = none) {s : Nat} {wss : List (List Value)} (hs : Even s wss) (h : cellsAt C a wss.flatten) {i : Nat} {ws : List Value} (e : wss[i]? = some ws) : cellsAt C (a.add (i * s)) ws := fun j v ev => by
 have hl : ws.length = s := hs ws (List.mem_of_getElem? e)
 have hj : j < s := by rw [← hl]; exact (List.getElem?_eq_some_iff.1 ev).1
 rw [Addr.add_add a _ j ha]
 exact h _ v (by rw [hs.get e hj]; exact ev)
theorem cellsAt.nil {C : IV} {a : Addr} : cellsAt C a [] := fun j v e => by simp at e
end Go.As
/-
 AS: a new block; a store.
-/
namespace Go.As
open Go.RowKit (Below)
variable [Gh]
def Obj.lp : Obj → Bool
 | .loop _ => true
 | _ => false
theorem lp_not_cells {o : Obj} (h : Obj.lp o = true) : o.isCells = false := by cases o <;> simp_all [Obj.lp, Obj.isCells]
structure Up (B : Nat) (X : Cx) (w : World) (n : Nat) (X' : Cx) (w' : World) : Prop where
 le : X.le n X'
 below : Below B w w'
 fresh : ∀ a v, X'.C a = some v → X.C a = none → B ≤ a.block
 obj : ∀ (r : Nat) (o : Obj), w.heap[r]? = some o → Obj.lp o = true → w'.heap[r]? = some o
theorem Up.refl (B n : Nat) (X : Cx) (w : World) : Up B X w n X w := ⟨.refl _ _, .refl _ _, fun a v e h => (by rw [h] at e; cases e), fun _ _ h _ => h⟩
theorem Up.trans {B n : Nat} {X Y Z : Cx} {a b c : World} (h : Up B X a n Y b) (k : Up B Y b n Z c) : Up B X a n Z c :=
 ⟨h.le.trans k.le, h.below.trans k.below, fun x v e hn => by
  cases hy : Y.C x with
  | none => exact k.fresh x v e hy
  | some u => exact h.fresh x u hy hn, fun r o e l => k.obj r o (h.obj r o e l) l⟩
theorem Up.less {B n n' : Nat} {X Y : Cx} {a b : World} (h : Up B X a n Y b) (hn : n' ≤ n) : Up B X a n' Y b := ⟨h.le.less hn, h.below, h.fresh, h.obj⟩
theorem Up.keep {B n : Nat} {X : Cx} {w w' : World} (hB : Below B w w') (hk : Keep w w') : Up B X w n X w' :=
 ⟨.refl _ _, hB, fun a v e h => (by rw [h] at e; cases e), fun r o e _ => hk.obj r o e⟩
def Cx.withM (X : Cx) (b : Nat) (bi : BI) : Cx := { X with M := fun c => if c = b then some bi else X.M c }
theorem Cx.withM_le {X : Cx} {b : Nat} {bi : BI} (n : Nat) (h : X.M b = none) : X.le n (X.withM b bi) :=
 ⟨.refl _, fun c ci _ e => ⟨ci, by simp only [Cx.withM]; rw [if_neg (fun hc => by subst hc; rw [h] at e; cases e)]; exact e, Nat.le_refl _, fun _ => rfl, fun _ => rfl⟩, fun _ _ e => e⟩
theorem Cx.withM_same (X : Cx) (b : Nat) (bi : BI) : (X.withM b bi).M b = some bi := by simp [Cx.withM]
theorem Cx.withM_other (X : Cx) {b c : Nat} (bi : BI) (h : c ≠ b) : (X.withM b bi).M c = X.M c := by simp [Cx.withM, h]
theorem HR.add {B : Nat} {X : Cx} {O : Nat → Addr → Prop} {w w' : World} {h : Heap} (hr : HR B X O w h) {n : Nat} (hn : hget h n = none) (hM : X.M n = none) (hle : n ≤ h.length)
  (hk : Keep w w') (hw : w.heap.size ≤ w'.heap.size) (bi : BI) (On : Addr → Prop) (k : Blk) (hnew : ∀ a, On a → w.heap.size ≤ a.block ∧ a.block < w'.heap.size) (hb : BR (X.withM n bi) w' On n k) :
  HR B (X.withM n bi) (fun b => if b = n then On else O b) w' (hput h n k) := by
 have hci : ∀ a v, X.C a = some v → a.block < w.heap.size := fun a v e => World.block_lt_of_cell? w a (hr.ci a v e)
 refine ⟨fun b k' e => ?_, fun b a o => ?_, fun b c a o o' => ?_, fun b bj e => ?_, hr.ci.keep hk, Nat.le_trans hr.wb hw⟩
 ·rw [hget_hput h n b k hle] at e
  by_cases hbn : b = n
  ·subst hbn
   simp only [if_true] at e ⊢
   cases e; exact hb
  ·simp only [if_neg hbn] at e ⊢
   exact (hr.blk b k' e).later hr.lt (Cx.withM_le _ hM) (Cx.withM_other X bi hbn) hk (fun _ h => h)
 ·by_cases hbn : b = n
  ·simp only [hbn, if_true] at o
   obtain ⟨h1, h2⟩ := hnew a o
   refine ⟨Nat.le_trans hr.wb h1, h2, ?_⟩
   cases hc : X.C a with
   | none => exact hc
   | some v => exact absurd (hci a v hc) (by omega)
  ·simp only [if_neg hbn] at o
   obtain ⟨h1, h2, h3⟩ := hr.own b a o
   exact ⟨h1, Nat.lt_of_lt_of_le h2 hw, h3⟩
 ·by_cases hbn : b = n <;> by_cases hcn : c = n
  ·rw [hbn, hcn]
  ·simp only [hbn, if_true] at o; simp only [if_neg hcn] at o'
   have := (hnew a o).1; have := (hr.own c a o').2.1; omega
  ·simp only [hcn, if_true] at o'; simp only [if_neg hbn] at o
   have := (hnew a o').1; have := (hr.own b a o).2.1; omega
  ·simp only [if_neg hbn] at o; simp only [if_neg hcn] at o'
   exact hr.dis b c a o o'
 ·rw [hput_len]
  by_cases hbn : b = n
  ·subst hbn; split <;> omega
  ·rw [Cx.withM_other X bi hbn] at e
   have := hr.lt b bj e
   split <;> omega
theorem Up.add {B : Nat} {X : Cx} {w w' : World} {n : Nat} (hM : X.M n = none) (hB : Below B w w') (hk : Keep w w') (m : Nat) (bi : BI) : Up B X w m (X.withM n bi) w' :=
 ⟨Cx.withM_le _ hM, hB, fun a v e h => (by simp only [Cx.withM] at e; rw [h] at e; cases e), fun r o e _ => hk.obj r o e⟩
theorem FR.add {X : Cx} {O : Nat → Addr → Prop} {w w' : World} {h : Heap} {n : Nat} (hM : X.M n = none) (hle : n ≤ h.length) (hk : Keep w w') (bi : BI) (On : Addr → Prop) (k : Blk) :
  FR X O w h (X.withM n bi) (fun b => if b = n then On else O b) w' (hput h n k) := by
 have hne : ∀ b bj, X.M b = some bj → b ≠ n := fun b bj e hb => by subst hb; rw [hM] at e; cases e
 refine ⟨fun b bj e hn => ?_, fun b bj e _ => ?_, fun b bj e _ a o => ?_, fun b bj _ _ a _ v ev => ⟨hk.cell _ _ ev, hk.frozen _ _ ev⟩, fun b bj _ _ a _ o eo _ => hk.obj _ _ eo, fun b bj _ _ g _ hg => hk.block g hg, fun b e => ?_, fun b _ e hn => ?_⟩
 ·rw [hget_hput h n b k hle, if_neg (hne b bj e)]; exact hn
 ·rw [Cx.withM_other X bi (hne b bj e)]; exact e
 ·simp only [if_neg (hne b bj e)]; exact o
 ·rw [hget_hput h n b k hle] at e
  split at e
  ·cases e
  ·exact e
 ·rw [hget_hput h n b k hle] at hn
  split at hn
  ·cases hn
  ·rename_i hbn; rw [Cx.withM_other X bi hbn]; exact e
theorem obj_setCell {w : World} {a : Addr} {v : Value} {r : Nat} {o : Obj} (e : w.heap[r]? = some o) (ho : o.isCells = false) : (w.setCell a v).heap[r]? = some o := by
 simp only [World.setCell, Array.getElem?_modify]
 split
 ·rw [e]; cases o <;> simp_all [Obj.isCells]
 ·exact e
def putCells (w : World) (a : Addr) (vs : List Value) (i : Nat) : World :=
 match vs with
 | [] => w
 | v :: r => putCells (w.setCell (a.add i) v) a r (i + 1)
theorem putCells_size (a : Addr) : ∀ (vs : List Value) (w : World) (i : Nat), (putCells w a vs i).heap.size = w.heap.size
 | [], _, _ => rfl
 | v :: r, w, i => by rw [putCells, putCells_size a r]; simp
theorem putCells_frozen (a : Addr) : ∀ (vs : List Value) (w : World) (i : Nat) (x : Addr), (putCells w a vs i).frozen? x = w.frozen? x
 | [], _, _, _ => rfl
 | v :: r, w, i, x => by rw [putCells, putCells_frozen a r]; simp
theorem putCells_obj (a : Addr) {r : Nat} {o : Obj} (ho : o.isCells = false) : ∀ (vs : List Value) (w : World) (i : Nat), w.heap[r]? = some o → (putCells w a vs i).heap[r]? = some o
 | [], _, _, e => e
 | v :: t, w, i, e => by rw [putCells]; exact putCells_obj a ho t _ _ (obj_setCell e ho)
theorem putCells_other (a : Addr) : ∀ (vs : List Value) (w : World) (i : Nat) (x : Addr), (∀ j, j < vs.length → x ≠ a.add (i + j)) → (putCells w a vs i).cell? x = w.cell? x
 | [], _, _, _, _ => rfl
 | v :: r, w, i, x, h => by
  rw [putCells, putCells_other a r _ _ x (fun j hj => by have := h (j + 1) (by simp; omega); rwa [show i + (j + 1) = i + 1 + j from by omega] at this)]
  exact World.cell?_setCell_other w (a.add i) x v (fun e => h 0 (by simp) e.symm)
theorem putCells_at (a : Addr) (ha : a.spot = none) : ∀ (vs : List Value) (w : World) (i : Nat), (∀ j, j < vs.length → ∃ u, w.cell? (a.add (i + j)) = some u) →
  ∀ j v, vs[j]? = some v → (putCells w a vs i).cell? (a.add (i + j)) = some v
 | [], _, _, _, _, _, e => by simp at e
 | u :: r, w, i, h, 0, v, e => by
  simp at e; subst e
  rw [putCells, putCells_other a r _ _ _ (fun j _ he => by have := Addr.add_inj ha he; omega)]
  obtain ⟨x, hx⟩ := h 0 (by simp)
  exact World.cell?_setCell_same w (a.add i) _ hx
 | u :: r, w, i, h, j + 1, v, e => by
  rw [putCells, show i + (j + 1) = i + 1 + j from by omega]
  refine putCells_at a ha r _ _ (fun k hk => ?_) j v (by simpa using e)
  obtain ⟨x, hx⟩ := h (k + 1) (by simp; omega)
  rw [show i + (k + 1) = i + 1 + k from by omega] at hx
  refine ⟨x, ?_⟩
  rw [World.cell?_setCell_other w (a.add i) (a.add (i + 1 + k)) u (fun he => by have := Addr.add_inj ha he; omega)]
  exact hx
theorem putCells_below {B : Nat} (a : Addr) (hB : B ≤ a.block) : ∀ (vs : List Value) (w : World) (i : Nat), Below B w (putCells w a vs i)
 | [], _, _ => .refl _ _
 | v :: r, w, i => by
  rw [putCells]
  exact ((Below.refl B w).setCell (p := a.add i) (by rw [Addr.add_block]; exact hB) v).trans (putCells_below a hB r _ _)
theorem putCells_block (a : Addr) (g : Nat) : ∀ (vs : List Value) (w : World) (i : Nat), (0 < vs.length → a.block ≠ g) → (putCells w a vs i).heap[g]? = w.heap[g]?
 | [], _, _, _ => rfl
 | v :: r, w, i, h => by
  rw [putCells, putCells_block a g r _ _ (fun _ => h (by simp)), Below.heap_setCell _ _ _ _ (by rw [Addr.add_block]; exact Ne.symm (h (by simp)))]
theorem run_storeCells_put {P : Program} (a : Addr) (ha : a.spot = none) : ∀ (vs : List Value) (w : World) (i : Nat), (∀ v ∈ vs, v.oneCell' = true) →
  (∀ j, j < vs.length → (∃ u, w.cell? (a.add (i + j)) = some u) ∧ w.frozen? (a.add (i + j)) = false) → (storeCells a vs i).run P w = .ok () (putCells w a vs i)
 | [], w, i, _, _ => rfl
 | v :: r, w, i, h1, h => by
  obtain ⟨⟨u, hu⟩, hf⟩ := h 0 (by simp)
  rw [Nat.add_zero] at hu hf
  have hst : (store (a.add i) v).run P w = .ok () (w.setCell (a.add i) v) := by
   unfold store
   have h1v := h1 v (by simp)
   cases v <;> simp [Sem.run, hu, hf, Value.oneCell'] at h1v ⊢
  have hrest := run_storeCells_put (P := P) a ha r (w.setCell (a.add i) v) (i + 1) (fun x hx => h1 x (by simp [hx])) (fun j hj => by
   obtain ⟨⟨x, hx⟩, hf'⟩ := h (j + 1) (by simp; omega)
   rw [show i + (j + 1) = i + 1 + j from by omega] at hx hf'
   refine ⟨⟨x, ?_⟩, by rw [World.frozen?_setCell]; exact hf'⟩
   rw [World.cell?_setCell_other w (a.add i) (a.add (i + 1 + j)) v (fun he => by have := Addr.add_inj ha he; omega)]
   exact hx)
  simp only [storeCells, Sem.run_bind, putCells, hst, Result.andThen_ok, hrest]
theorem cellsAt.put {w : World} {a b : Addr} {vs us : List Value} (h : cellsAt w.cell? b us) (i : Nat) (hne : ∀ j k, j < us.length → k < vs.length → b.add j ≠ a.add (i + k)) : cellsAt (putCells w a vs i).cell? b us := fun j v e => by
 have hj : j < us.length := (List.getElem?_eq_some_iff.1 e).1
 rw [putCells_other a vs w i _ (fun k hk => hne j k hj hk)]
 exact h j v e
theorem Owns.put {w : World} {O : Addr → Prop} {b : Addr} {i n : Nat} (h : Owns w O b i n) (a : Addr) (ha : a.spot = none) (vs : List Value) (k : Nat) (hc : ∀ j, j < vs.length → ∃ u, w.cell? (a.add (k + j)) = some u) : Owns (putCells w a vs k) O b i n := fun j h1 h2 => by
 obtain ⟨o, ⟨v, e⟩, f⟩ := h j h1 h2
 refine ⟨o, ?_, by rw [putCells_frozen]; exact f⟩
 by_cases hx : ∃ m, m < vs.length ∧ b.add j = a.add (k + m)
 ·obtain ⟨m, hm, he⟩ := hx
  exact ⟨_, by rw [he]; exact putCells_at a ha vs w k hc m vs[m] (by simp [hm])⟩
 ·refine ⟨v, ?_⟩
  rw [putCells_other a vs w k _ (fun m hm he => hx ⟨m, hm, he⟩)]
  exact e
theorem BR.put {X : Cx} {w : World} {O : Addr → Prop} {c : Nat} {k : Blk} (h : BR X w O c k) (hci : CI X.C w) (a : Addr) (ha : a.spot = none) (vs : List Value) (i : Nat)
  (hne : ∀ j, j < vs.length → ¬ O (a.add (i + j)) ∧ X.C (a.add (i + j)) = none) (hc : ∀ j, j < vs.length → ∃ u, w.cell? (a.add (i + j)) = some u) : BR X (putCells w a vs i) O c k := by
 have own_ne : ∀ {b : Addr} {m n : Nat}, Owns w O b m n → ∀ j, m ≤ j → j < n → ∀ q, q < vs.length → b.add j ≠ a.add (i + q) := fun ho j h1 h2 q hq e =>
  (hne q hq).1 (by rw [← e]; exact (ho j h1 h2).1)
 cases k with
 | cell v =>
  obtain ⟨bi, a0, ws, h1, h2, h3, h4, h5, h6, h7, h8⟩ := h
  exact ⟨bi, a0, ws, h1, h2, h3, h4, h5, h6, h7.put i (fun j q hj hq => own_ne h8 j (Nat.zero_le _) hj q hq), h8.put a ha vs i hc⟩
 | arr g s ro l =>
  obtain ⟨bi, h1, h2, h3, h4, h5, h6⟩ := h
  refine ⟨bi, h1, h2, h3, h4, h5, h6.imp id ?_⟩
  rintro ⟨e, a0, wss, h7, h8, h9, h10, h11, h12, h13⟩
  refine ⟨e, a0, wss, h7, h8, h9, h10, h11.put i (fun j q hj hq he => ?_), h12, h13.put a ha vs i hc⟩
  have hlen : wss.flatten.length = l.length * s := by rw [Even.len h10, (RELs_iff.1 h9).len]
  by_cases hr : j < ro * s
  ·have hx : X.C (a0.add j) = some wss.flatten[j] := h12 j _ (by rw [List.getElem?_take, if_pos hr]; simp [hj])
   rw [he, (hne q hq).2] at hx; cases hx
  ·have : l.length * s ≤ bi.cap * s := Nat.mul_le_mul_right _ h4.1
   exact own_ne h13 j (by omega) (by omega) q hq he
 | arv g s l =>
  obtain ⟨bi, h1, h2, h3, h4, h5, h6⟩ := h
  refine ⟨bi, h1, h2, h3, h4, h5, h6.imp id ?_⟩
  rintro ⟨e, a0, wss, h7, h8, h9, h10, h11, h12⟩
  have hlen : wss.flatten.length = l.length * s := by rw [Even.len h10, (VRELs_iff.1 h9).len]
  have : l.length * s ≤ bi.cap * s := Nat.mul_le_mul_right _ h4
  exact ⟨e, a0, wss, h7, h8, h9, h10, h11.put i (fun j q hj hq => own_ne h12 j (Nat.zero_le _) (by omega) q hq), h12.put a ha vs i hc⟩
 | mp es s c =>
  obtain ⟨bi, r, ms, ck, h1, h2, h3, h4, h5, h6, h7⟩ := h
  exact ⟨bi, r, ms, ck, h1, h2, h3, h4, putCells_obj a rfl vs w i h5, h6, h7⟩
 | bld T e s =>
  obtain ⟨bi, r, h1, h2, h3, h4, h5⟩ := h
  refine ⟨bi, r, h1, h2, h3, h4, h5.kept (fun g hO _ => putCells_block a g vs w i fun hv e => ?_) (fun _ o => o)⟩
  exact (hne 0 hv).1 (hO _ (by rw [Addr.add_block]; exact e))
 | lp f t ps asg body =>
  obtain ⟨bi, l, r, h1, h2, h3, h4, h5, h6, h7⟩ := h
  exact ⟨bi, l, r, h1, h2, h3, h4, putCells_obj a rfl vs w i h5, h6, h7⟩
 | it v a' s l =>
  obtain ⟨bi, r, m, h1, h2, h3, h4, h5, h6, h7⟩ := h
  exact ⟨bi, r, m, h1, h2, h3, h4, putCells_obj a rfl vs w i h5, h6, h7⟩
theorem CI.put {C : IV} {w : World} (h : CI C w) (a : Addr) (vs : List Value) (i : Nat) (hne : ∀ j, j < vs.length → C (a.add (i + j)) = none) : CI C (putCells w a vs i) := fun x v e => by
 rw [putCells_other a vs w i x (fun j hj he => by have := hne j hj; rw [← he, e] at this; cases this)]
 exact h x v e
theorem HR.put {B : Nat} {X Y : Cx} {O : Nat → Addr → Prop} {w : World} {h : Heap} (hr : HR B X O w h) {b : Nat} (hb : b < h.length) (hXY : X.le h.length Y) (hC : Y.C = X.C) (hM : ∀ c, c ≠ b → Y.M c = X.M c) (hlt : Y.lt h.length)
  (a : Addr) (ha : a.spot = none) (vs : List Value) (i : Nat) (hO : ∀ j, j < vs.length → O b (a.add (i + j))) (hc : ∀ j, j < vs.length → ∃ u, w.cell? (a.add (i + j)) = some u) (k : Blk) (hbr : BR Y (putCells w a vs i) (O b) b k) :
  HR B Y O (putCells w a vs i) (hput h b k) := by
 refine ⟨fun c k' e => ?_, fun c x o => ?_, hr.dis, fun c bi e => ?_, ?_, ?_⟩
 ·rw [hget_hput h b c k (Nat.le_of_lt hb)] at e
  by_cases hcb : c = b
  ·subst hcb; simp only [if_true] at e; cases e; exact hbr
  ·simp only [if_neg hcb] at e
   have h1 := (hr.blk c k' e).put hr.ci a ha vs i (fun j hj => ⟨fun o => hcb (hr.dis c b _ o (hO j hj)), (hr.own b _ (hO j hj)).2.2⟩) hc
   exact h1.later hr.lt hXY (hM c hcb) (.refl _) (fun _ h => h)
 ·rw [putCells_size, hC]; exact hr.own c x o
 ·rw [hput_len, if_pos hb]; exact hlt c bi e
 ·rw [hC]; exact hr.ci.put a vs i (fun j hj => (hr.own b _ (hO j hj)).2.2)
 ·rw [putCells_size]; exact hr.wb
theorem FR.put {B : Nat} {X Y : Cx} {O : Nat → Addr → Prop} {w : World} {h : Heap} (hr : HR B X O w h) {b : Nat} {k0 : Blk} (hb0 : hget h b = some k0) (hM : ∀ c, c ≠ b → Y.M c = X.M c)
  (a : Addr) (vs : List Value) (i : Nat) (hO : ∀ j, j < vs.length → O b (a.add (i + j))) (k : Blk) : FR X O w h Y O (putCells w a vs i) (hput h b k) := by
 have hne : ∀ c bj, X.M c = some bj → hget h c = none → c ≠ b := fun c bj _ hn hc => by subst hc; rw [hb0] at hn; cases hn
 have hoth : ∀ c bj, X.M c = some bj → hget h c = none → ∀ x, O c x → ∀ j, j < vs.length → x ≠ a.add (i + j) := fun c bj e hn x o j hj he => by
  subst he; exact hne c bj e hn (hr.dis c b _ o (hO j hj))
 refine ⟨fun c bj e hn => ?_, fun c bj e hn => ?_, fun _ _ _ _ _ o => o, fun c bj e hn x o v ev => ⟨?_, ?_⟩, fun c bj e hn x o ob eo ho => putCells_obj a ho vs w i eo, fun c bj e hn g hg _ => putCells_block a g vs w i fun hv hag => ?_, fun c e => ?_, fun c _ e hn => ?_⟩
 ·rw [hget_hput h b c k (Nat.le_of_lt (hget_lt hb0)), if_neg (hne c bj e hn)]; exact hn
 ·rw [hM c (hne c bj e hn)]; exact e
 ·rw [putCells_other a vs w i x (hoth c bj e hn x o)]; exact ev
 ·rw [putCells_frozen]
 ·exact hne c bj e hn (hr.dis c b _ (hg (a.add (i + 0)) (by rw [Addr.add_block]; exact hag)) (hO 0 hv))
 ·rw [hget_hput h b c k (Nat.le_of_lt (hget_lt hb0))] at e
  split at e
  ·cases e
  ·exact e
 ·rw [hget_hput h b c k (Nat.le_of_lt (hget_lt hb0))] at hn
  split at hn
  ·cases hn
  ·rename_i hcb; rw [hM c hcb]; exact e
theorem HR.size {B : Nat} {X : Cx} {O : Nat → Addr → Prop} {w : World} {h : Heap} (_ : HR B X O w h) {w' : World} (hb : Below B w w') : w.heap.size ≤ w'.heap.size := hb.size
end Go.As
/-
 AS: values in cells: children, paths, replacing a part.
-/
namespace Go.As
variable [Gh]
theorem allIm_some : ∀ {l : List V} {ds : List D}, allIm l = some ds → l = ds.map V.im
 | [], ds, h => by simp [allIm] at h; subst h; rfl
 | v :: l, ds, h => by
  cases v <;> simp only [allIm] at h <;> try contradiction
  rename_i d
  cases hr : allIm l with
  | none => simp only [allIm] at hr; rw [hr] at h; contradiction
  | some es =>
   have := allIm_some hr
   simp only [allIm] at hr; rw [hr] at h; simp at h; subst h; simp [this]
theorem VRELs_im {X : Cx} {m : Bool} {ds : List D} {wss : List (List Value)} : VRELs X (ds.map V.im) m wss ↔ RELs X.C ds m wss := by
 rw [VRELs_iff, RELs_iff, ← All2.map_left]; simp only [VREL]
theorem VREL_mkAgg {X : Cx} {w : Nat} {l : List V} {m : Bool} {ws : List Value} (h : VREL X (.agg w l) m ws) : VREL X (mkAgg w l) m ws := by
 unfold mkAgg
 cases hl : allIm l with
 | none => exact h
 | some ds =>
  have := allIm_some hl; subst this
  cases m <;> simp only [VREL, REL] at h ⊢ <;> simpa only [VRELs_im] using h
theorem VREL_mkTup {X : Cx} {l : List V} {ws : List Value} (h : VREL X (.tup l) true ws) : VREL X (mkTup l) true ws := by
 unfold mkTup
 cases hl : allIm l with
 | none => exact h
 | some ds =>
  have := allIm_some hl; subst this
  simp only [VREL, REL] at h ⊢; simpa only [VRELs_im] using h
theorem VREL_imAgg {X : Cx} {w : Nat} {l : List D} {m : Bool} {ws : List Value} : VREL X (.im (.agg w l)) m ws ↔ VREL X (.agg w (l.map V.im)) m ws := by
 cases m <;> simp only [VREL, REL, VRELs_im]
theorem mkAgg_wd (w : Nat) (l : List V) : (mkAgg w l).wd = w := by unfold mkAgg; cases allIm l <;> rfl
theorem VREL.wd {X : Cx} : ∀ {v : V} {ws : List Value}, VREL X v false ws → ws.length = v.wd
 | .undef, _, h => by simp [VREL] at h
 | .im d, ws, h => by
  simp only [VREL] at h
  cases d <;> simp only [REL, V.wd, D.wd] at h ⊢ <;> try contradiction
  all_goals first
   | (subst h; rfl)
   | (obtain ⟨h, _⟩ := h; subst h; rfl)
   | (obtain ⟨_, h, _⟩ := h; subst h; rfl)
   | (obtain ⟨_, _, h, _⟩ := h; subst h; rfl)
   | (obtain ⟨_, _, _, h, _⟩ := h; subst h; rfl)
   | (obtain ⟨_, _, _, h⟩ := h; exact h)
 | .agg w l, ws, h => by simp only [VREL] at h; obtain ⟨_, _, _, h⟩ := h; exact h
 | .tup _, _, h => by simp [VREL] at h
 | .own .., _, h => by simp only [VREL] at h; obtain ⟨_, h, _⟩ := h; subst h; rfl
 | .full _, _, h => by simp only [VREL] at h; obtain ⟨_, h, _⟩ := h; subst h; rfl
 | .ptr .., _, h => by simp only [VREL] at h; obtain ⟨_, h, _⟩ := h; subst h; rfl
 | .fn .., _, h => by simp only [VREL] at h; obtain ⟨_, _, _, _, h, _⟩ := h; subst h; rfl
 | .ifc .., _, h => by simp only [VREL] at h; obtain ⟨_, h, _⟩ := h; subst h; rfl
 | .mp _, _, h => by simp only [VREL] at h; obtain ⟨_, _, h, _⟩ := h; subst h; rfl
 | .yld _, _, h => by simp only [VREL] at h; obtain ⟨_, h, _⟩ := h; subst h; rfl
def V.isAgg : V → Bool
 | .im (.agg _ _) | .agg _ _ => true
 | _ => false
def V.plain : V → Bool
 | .undef | .tup _ | .im (.tup _) => false
 | _ => true
theorem FullR.one {C : IV} {l : List D} {v : Value} (h : FullR C l v) : v.oneCell' = true := by obtain ⟨a, n, e, _⟩ := h; subst e; rfl
theorem VREL.one {X : Cx} {v : V} (hp : v.plain = true) (ha : v.isAgg = false) {m : Bool} {ws : List Value} (h : VREL X v m ws) : ∃ x, ws = [x] ∧ x.oneCell' = true ∧ ∀ m', VREL X v m' [x] := by
 cases v with
 | undef => simp [V.plain] at hp
 | im d =>
  cases d <;> simp only [VREL, REL] at h <;> simp only [V.plain, V.isAgg] at hp ha <;> try contradiction
  all_goals first
   | (subst h; refine ⟨_, rfl, rfl, fun m' => ?_⟩; simp only [VREL, REL]; done)
   | (have r := h.2; have e := h.1; subst e; refine ⟨_, rfl, rfl, fun m' => ?_⟩; simp only [VREL, REL]; first | exact ⟨rfl, r⟩ | exact ⟨trivial, r⟩ | exact r)
   | (obtain ⟨b, e, r⟩ := h; subst e; refine ⟨_, rfl, rfl, fun m' => ?_⟩; simp only [VREL, REL]; exact ⟨b, rfl, r⟩)
   | (obtain ⟨b, c, e, r⟩ := h; subst e; refine ⟨_, rfl, rfl, fun m' => ?_⟩; simp only [VREL, REL]; exact ⟨b, c, rfl, r⟩)
   | (obtain ⟨b, c, d, e, r⟩ := h; subst e; refine ⟨_, rfl, rfl, fun m' => ?_⟩; simp only [VREL, REL]; exact ⟨b, c, d, rfl, r⟩)
 | agg w l => simp [V.isAgg] at ha
 | tup l => simp [V.plain] at hp
 | own b g off len lim => simp only [VREL] at h; obtain ⟨x, e, r⟩ := h; exact ⟨x, e, r.one, fun m' => by simp only [VREL]; exact ⟨x, rfl, r⟩⟩
 | full l => simp only [VREL] at h; obtain ⟨x, e, r⟩ := h; exact ⟨x, e, r.one, fun m' => by simp only [VREL]; exact ⟨x, rfl, r⟩⟩
 | ptr b g p => simp only [VREL] at h; obtain ⟨x, e, r⟩ := h; exact ⟨x, e, r.one, fun m' => by simp only [VREL]; exact ⟨x, rfl, r⟩⟩
 | fn f a c => simp only [VREL] at h; obtain ⟨fs, cs, w1, w2, e, r⟩ := h; subst e; exact ⟨_, rfl, rfl, fun m' => by simp only [VREL]; exact ⟨fs, cs, w1, w2, rfl, r⟩⟩
 | ifc t v => simp only [VREL] at h; obtain ⟨x, e, r⟩ := h; subst e; exact ⟨_, rfl, rfl, fun m' => by simp only [VREL]; exact ⟨x, rfl, r⟩⟩
 | mp b => simp only [VREL] at h; obtain ⟨r, bi, e, h⟩ := h; subst e; exact ⟨_, rfl, rfl, fun m' => by simp only [VREL]; exact ⟨r, bi, rfl, h⟩⟩
 | yld i => simp only [VREL] at h; obtain ⟨l, e, r⟩ := h; subst e; exact ⟨_, rfl, rfl, fun m' => by simp only [VREL]; exact ⟨l, rfl, r⟩⟩
theorem VREL.agg_iff {X : Cx} {v : V} (ha : v.isAgg = true) {ws : List Value} : VREL X v true ws ↔ ∃ cs : Array Value, ws = [.agg cs] ∧ VREL X v false cs.toList := by
 have key : ∀ (w : Nat) (l : List V), VREL X (.agg w l) true ws ↔ ∃ cs : Array Value, ws = [.agg cs] ∧ VREL X (.agg w l) false cs.toList := fun w l => by
  simp only [VREL]
  exact ⟨fun ⟨cs, wss, e, h1, h2, h3⟩ => ⟨cs, e, wss, h1, h2, by simpa using h3⟩, fun ⟨cs, e, wss, h1, h2, h3⟩ => ⟨cs, wss, e, h1, h2, by simpa using h3⟩⟩
 cases v with
 | im d =>
  cases d <;> simp only [V.isAgg] at ha <;> try contradiction
  simpa only [VREL_imAgg] using key _ _
 | agg w l => exact key w l
 | _ => simp [V.isAgg] at ha
theorem oneCell_cells {x : Value} (h : x.oneCell' = true) : x.cells = #[x] := by cases x <;> first | rfl | simp [Value.oneCell'] at h
theorem VREL.cells {X : Cx} {v : V} (hp : v.plain = true) {x : Value} (h : VREL X v true [x]) : VREL X v false x.cells.toList := by
 cases ha : v.isAgg with
 | true =>
  obtain ⟨cs, e, r⟩ := (VREL.agg_iff ha).1 h
  cases e; exact r
 | false =>
  obtain ⟨y, e, ho, r⟩ := h.one hp ha
  cases e; rw [oneCell_cells ho]; exact r false
theorem wdsTo_eq (l : List V) (k : Nat) : wdsTo l k = ((l.take k).map V.wd).sum := by
 induction l generalizing k with
 | nil => simp [wdsTo]
 | cons a l ih => cases k with
  | zero => rfl
  | succ k => show a.wd + wdsTo l k = _; rw [ih]; simp
theorem wdsToD_eq (l : List D) (k : Nat) : wdsToD l k = wdsTo (l.map V.im) k := by
 induction l generalizing k with
 | nil => simp [wdsToD, wdsTo]
 | cons a l ih => cases k with
  | zero => rfl
  | succ k => show a.wd + wdsToD l k = (V.im a).wd + wdsTo (l.map V.im) k; rw [ih]; rfl
theorem rows_len {X : Cx} : ∀ {l : List V} {wss : List (List Value)}, VRELs X l false wss → wss.flatten.length = (l.map V.wd).sum
 | [], _, h => by simp only [VRELs] at h; subst h; rfl
 | v :: l, _, h => by
  simp only [VRELs] at h
  obtain ⟨ws, r, e, h1, h2⟩ := h
  subst e; simp [h1.wd, rows_len h2]
theorem VREL.split {X : Cx} {w : Nat} {l : List V} {ws : List Value} (h : VREL X (.agg w l) false ws) {k o : Nat} (ho : wdsTo l k = o) {c : V} (hc : l[k]? = some c) :
  ∃ pre cs post, ws = pre ++ (cs ++ post) ∧ pre.length = o ∧ VREL X c false cs ∧ ∀ c' cs', VREL X c' false cs' → cs'.length = cs.length → VREL X (.agg w (l.set k c')) false (pre ++ (cs' ++ post)) := by
 simp only [VREL] at h
 obtain ⟨wss, e, h2, h3⟩ := h
 have h2' := VRELs_iff.1 h2
 obtain ⟨cs, ec, hcs⟩ := h2'.get hc
 have hk : k < wss.length := (List.getElem?_eq_some_iff.1 ec).1
 have hsplit : wss = wss.take k ++ (cs :: wss.drop (k + 1)) := by
  have : wss.drop k = cs :: wss.drop (k + 1) := by
   rw [List.drop_eq_getElem_cons hk]
   congr 1
   exact (List.getElem?_eq_some_iff.1 ec).2
  rw [← this, List.take_append_drop]
 refine ⟨(wss.take k).flatten, cs, (wss.drop (k + 1)).flatten, ?_, ?_, hcs, fun c' cs' hc' hl => ?_⟩
 ·rw [e]; conv => lhs; rw [hsplit]
  simp
 ·have := rows_len (X := X) (l := l.take k) (wss := wss.take k) (VRELs_iff.2 (h2'.take k))
  rw [this, ← ho, wdsTo_eq]
 ·simp only [VREL]
  refine ⟨wss.set k cs', ?_, VRELs_iff.2 (h2'.set hc'), ?_⟩
  ·have : wss.set k cs' = wss.take k ++ (cs' :: wss.drop (k + 1)) := by
    rw [List.set_eq_take_append_cons_drop, if_pos hk]
   rw [this]; simp
  ·rw [← h3, e]
   conv => rhs; rw [hsplit]
   simp [hl]
def Part (X : Cx) (v : V) (ws : List Value) (o : Nat) (c : V) (cs : List Value) : Prop :=
 ∃ pre post, ws = pre ++ (cs ++ post) ∧ pre.length = o ∧ VREL X c false cs
theorem kid_part {X : Cx} {v c : V} {k o : Nat} (h : v.kid k o = some c) {ws : List Value} (hv : VREL X v false ws) : ∃ cs, Part X v ws o c cs := by
 have key : ∀ (w : Nat) (l : List V), VREL X (.agg w l) false ws → wdsTo l k = o → l[k]? = some c → ∃ cs, Part X v ws o c cs := fun w l hv ho hc => by
  obtain ⟨pre, cs, post, h1, h2, h3, _⟩ := hv.split ho hc
  exact ⟨cs, pre, post, h1, h2, h3⟩
 unfold V.kid at h
 split at h
 ·rename_i w l
  cases hb : Nat.beq (wdsToD l k) o <;> rw [hb] at h <;> simp only [cond_false, cond_true] at h
  ·cases h
  ·have hb' := Nat.eq_of_beq_eq_true hb
   rw [wdsToD_eq] at hb'
   rw [lget_eq] at h
   exact key w (l.map V.im) (VREL_imAgg.1 hv) hb' (by simpa using h)
 ·rename_i w l
  cases hb : Nat.beq (wdsTo l k) o <;> rw [hb] at h <;> simp only [cond_false, cond_true] at h
  ·cases h
  ·rw [lget_eq] at h
   exact key w l hv (Nat.eq_of_beq_eq_true hb) h
 ·cases h
theorem nav_part {X : Cx} : ∀ {p : List (Nat × Nat)} {v c : V}, v.nav p = some c → ∀ {ws : List Value}, VREL X v false ws → ∃ cs, Part X v ws (pathOff p) c cs
 | [], v, c, h, ws, hv => by
  simp only [V.nav] at h; cases h
  exact ⟨ws, [], [], by simp, rfl, hv⟩
 | s :: p, v, c, h, ws, hv => by
  have h' : (V.kid v s.1 s.2).bind (fun v => V.nav v p) = some c := h
  cases hk : V.kid v s.1 s.2 with
  | none => rw [hk] at h'; cases h'
  | some d =>
   rw [hk] at h'
   obtain ⟨ds, pre, post, e1, l1, r1⟩ := kid_part hk hv
   obtain ⟨cs, pre2, post2, e2, l2, r2⟩ := nav_part (p := p) h' r1
   refine ⟨cs, pre ++ pre2, post2 ++ post, ?_, ?_, r2⟩
   ·rw [e1, e2]; simp
   ·simp only [pathOff] at l2; simp [pathOff, l1, l2]
theorem kids_agg {X : Cx} {v : V} {l : List V} (h : v.kids = some l) {ws : List Value} (hv : VREL X v false ws) : VREL X (.agg v.wd l) false ws := by
 unfold V.kids at h
 split at h
 ·cases h; rw [imap_eq]; exact VREL_imAgg.1 hv
 ·cases h; exact hv
 ·cases h
theorem put_part {X : Cx} {x : V} {xs : List Value} (hx : VREL X x false xs) : ∀ {p : List (Nat × Nat)} {v v' : V}, V.put x p v = some v' → ∀ {ws : List Value}, VREL X v false ws →
  ∃ pre old post, ws = pre ++ (old ++ post) ∧ pre.length = pathOff p ∧ old.length = xs.length ∧ VREL X v' false (pre ++ (xs ++ post)) ∧ v'.wd = v.wd
 | [], v, v', h, ws, hv => by
  have h' : (bif Nat.beq x.wd v.wd then some x else none) = some v' := h
  cases hb : Nat.beq x.wd v.wd <;> rw [hb] at h' <;> simp only [cond_false, cond_true] at h'
  ·cases h'
  ·cases h'
   have e := Nat.eq_of_beq_eq_true hb
   exact ⟨[], ws, [], by simp, rfl, by rw [hv.wd, hx.wd, e], by simpa using hx, e⟩
 | s :: p, v, v', h, ws, hv => by
  have h' : (v.kids.bind fun l => bif Nat.beq (wdsTo l s.1) s.2 then (lget l s.1).bind fun c => (V.put x p c).map fun c' => mkAgg v.wd (lset l s.1 c') else none) = some v' := h
  cases hk : v.kids with
  | none => rw [hk] at h'; cases h'
  | some l =>
   rw [hk] at h'
   simp only [Option.bind_some, lget_eq, lset_eq] at h'
   cases hb : Nat.beq (wdsTo l s.1) s.2 <;> rw [hb] at h' <;> simp only [cond_false, cond_true] at h'
   ·cases h'
   ·cases hc : l[s.1]? with
    | none => rw [hc] at h'; cases h'
    | some c =>
     rw [hc] at h'
     simp only [Option.bind_some] at h'
     cases hp : V.put x p c with
     | none => rw [hp] at h'; cases h'
     | some c' =>
      rw [hp] at h'; simp only [Option.map_some, Option.some.injEq] at h'
      subst h'
      obtain ⟨pre, cs, post, e1, l1, r1, f1⟩ := (kids_agg hk hv).split (Nat.eq_of_beq_eq_true hb) hc
      obtain ⟨pre2, old, post2, e2, l2, l3, r2, hw⟩ := put_part hx hp r1
      refine ⟨pre ++ pre2, old, post2 ++ post, ?_, ?_, l3, ?_, mkAgg_wd _ _⟩
      ·rw [e1, e2]; simp
      ·simp only [pathOff] at l2; simp [pathOff, l1, l2]
      ·have := f1 c' (pre2 ++ (xs ++ post2)) r2 (by rw [e2]; simp [l3])
       have := VREL_mkAgg this
       simpa using this
end Go.As
/-
 AS: types; loads and stores of variables; from values to data.
-/
namespace Go.As
open Go.RowKit (Below)
variable [Gh]
def X0 : Cx := ⟨fun _ => none, fun _ => none, fun _ => none⟩
theorem X0_le (X : Cx) : X0.le 0 X := ⟨fun _ _ h => by simp [X0] at h, fun _ _ h => by omega, fun _ _ h => by simp [X0] at h⟩
theorem X0_lt : X0.lt 0 := fun _ _ h => by simp [X0] at h
def KindOk (P : Program) (t : Nat) : TK → Prop
 | .bool => P.underlying t = some .bool
 | .int k => P.underlying t = some (.int k)
 | .str => P.underlying t = some .string
 | .ptr => ∃ e, P.underlying t = some (.pointer e)
 | .slc e => P.underlying t = some (.slice e)
 | .arr n e => P.underlying t = some (.array n e)
 | .st fs => ∃ fields : Array Field, P.underlying t = some (.struct fields) ∧ fields.toList.map (fun f => (f.offset, P.cellsOf f.type, f.type)) = fs ∧ (∀ f ∈ fields.toList, f.name ≠ "_" ∧ ∃ i, P.info? f.type = some i) ∧ P.stoodInHeld t = false
 | .fn => ∃ a b c, P.underlying t = some (.func a b c)
 | .ifc nm => ∃ ms, P.underlying t = some (.interface ms) ∧ nm = !ms.isEmpty
 | .map k e => P.underlying t = some (.map k e)
 | .oth => ∃ d, P.underlying t = some d ∧ (∀ fs, d ≠ .struct fs) ∧ (∀ n e, d ≠ .array n e) ∧ ∀ ms, d ≠ .interface ms
structure TyOk (P : Program) (t : Nat) (ti : TI) : Prop where
 info : ∃ i, P.info? t = some i ∧ i.size = ti.size ∧ i.bytes = ti.bytes ∧ ∀ x, ti.zero = x → x.plain = true → ∃ z, i.zero = some z ∧ VREL X0 x true [z]
 kind : KindOk P t ti.k
theorem run_sizeOf {P : Program} {t : Nat} {ti : TI} (h : TyOk P t ti) (w : World) : (sizeOf t).run P w = .ok ti.size w := by
 obtain ⟨i, h1, h2, _⟩ := h.info
 simp [sizeOf, typeInfo, h1, h2]
theorem run_isAgg {P : Program} {t : Nat} {ti : TI} (h : TyOk P t ti) (w : World) : (isAgg t).run P w = .ok (okAgg.isA ti.k) w := by
 have hk := h.kind
 cases hti : ti.k with
 | ptr => rw [hti] at hk; obtain ⟨e, hk⟩ := hk; simp [isAgg, run_underlying hk, okAgg.isA]
 | st fs => rw [hti] at hk; obtain ⟨e, hk, _⟩ := hk; simp [isAgg, run_underlying hk, okAgg.isA]
 | fn => rw [hti] at hk; obtain ⟨_, _, _, hk⟩ := hk; simp [isAgg, run_underlying hk, okAgg.isA]
 | ifc nm => rw [hti] at hk; obtain ⟨_, hk, _⟩ := hk; simp [isAgg, run_underlying hk, okAgg.isA]
 | oth =>
  rw [hti] at hk; obtain ⟨d, hk, h1, h2, _⟩ := hk
  cases d <;> simp [isAgg, run_underlying hk, okAgg.isA]
  ·exact absurd rfl (h2 _ _)
  ·exact absurd rfl (h1 _)
 | _ => rw [hti] at hk; simp only [KindOk] at hk; simp [isAgg, run_underlying hk, okAgg.isA]
theorem okAgg_isAgg {k : TK} {v : V} (h : okAgg k v = true) : v.isAgg = okAgg.isA k ∧ v.plain = true := by
 cases v with
 | im d => cases d <;> simp_all [okAgg, okAgg.okD, V.isAgg, V.plain]
 | _ => simp_all [okAgg, V.isAgg, V.plain]
theorem okV_iff {ti : TI} {v : V} (h : okV ti v = true) : v.wd = ti.size ∧ v.isAgg = okAgg.isA ti.k ∧ v.plain = true := by
 simp only [okV, Bool.and_eq_true] at h
 exact ⟨Nat.eq_of_beq_eq_true h.1, (okAgg_isAgg h.2).1, (okAgg_isAgg h.2).2⟩
theorem run_load_cell {P : Program} {w : World} {a : Addr} {v : Value} (h : w.cell? a = some v) (m : Mode) : (load a m).run P w = .ok v w := by simp [load, Sem.run, h]
theorem run_loadVar_ok {P : Program} {t : Nat} {ti : TI} (ht : TyOk P t ti) {X : Cx} {v : V} (hv : okV ti v = true) {a : Addr} {ws : List Value} {w : World} (h : VREL X v false ws) (hc : cellsAt w.cell? a ws) :
  ∃ x, (loadVar t a).run P w = .ok x w ∧ VREL X v true [x] := by
 obtain ⟨h1, h2, h3⟩ := okV_iff hv
 have hl := h.wd
 cases ha : v.isAgg with
 | true =>
  refine ⟨.agg ws.toArray, ?_, (VREL.agg_iff ha).2 ⟨ws.toArray, rfl, by simpa using h⟩⟩
  have hlc := run_loadCells_list (P := P) (w := w) a ws (fun j v e => hc j v e)
  simp only [loadVar, Sem.run_bind, run_isAgg ht, ← h2, ha, Result.andThen_ok, if_true, run_sizeOf ht, ← h1, ← hl]
  simp [hlc]
 | false =>
  obtain ⟨x, e, ho, r⟩ := h.one h3 ha
  subst e
  refine ⟨x, ?_, r true⟩
  have := hc 0 x rfl
  rw [Addr.add_zero] at this
  simp only [loadVar, Sem.run_bind, run_isAgg ht, ← h2, ha, Result.andThen_ok]
  exact run_load_cell this _
mutual
theorem REL.ones {C : IV} : ∀ {d : D} {ws : List Value}, REL C d false ws → ∀ x ∈ ws, x.oneCell' = true
 | .agg w l, _, h => by
  simp only [REL] at h
  obtain ⟨wss, e, h2, _⟩ := h
  subst e
  exact RELs.ones h2
 | .tup _, _, h => by simp [REL] at h
 | .bool _, ws, h | .int _ _, ws, h | .str _, ws, h | .nil, ws, h | .ref _, ws, h | .slc _, ws, h | .fn _, ws, h | .nfn, ws, h | .ifc _ _, ws, h | .inil, ws, h | .mnil, ws, h => by
  simp only [REL] at h
  first
   | (subst h; simp [Value.oneCell']; done)
   | (obtain ⟨h, _⟩ := h; subst h; simp [Value.oneCell']; done)
   | (obtain ⟨_, h, _⟩ := h; subst h; simp [Value.oneCell']; done)
   | (obtain ⟨_, _, h, _⟩ := h; subst h; simp [Value.oneCell']; done)
   | (obtain ⟨_, _, _, h, _⟩ := h; subst h; simp [Value.oneCell']; done)
theorem RELs.ones {C : IV} : ∀ {l : List D} {wss : List (List Value)}, RELs C l false wss → ∀ x ∈ wss.flatten, x.oneCell' = true
 | [], _, h => by simp only [RELs] at h; subst h; simp
 | d :: l, _, h => by
  simp only [RELs] at h
  obtain ⟨ws, r, e, h1, h2⟩ := h
  subst e
  intro x hx
  rw [List.flatten_cons, List.mem_append] at hx
  exact hx.elim (REL.ones h1 x) (RELs.ones h2 x)
end
mutual
theorem VREL.ones {X : Cx} : ∀ {v : V} {ws : List Value}, VREL X v false ws → ∀ x ∈ ws, x.oneCell' = true
 | .agg w l, _, h => by
  simp only [VREL] at h
  obtain ⟨wss, e, h2, _⟩ := h
  subst e
  exact VRELs.ones h2
 | .im d, _, h => by simp only [VREL] at h; exact h.ones
 | .undef, _, h => by simp [VREL] at h
 | .tup _, _, h => by simp [VREL] at h
 | .own .., ws, h => by simp only [VREL] at h; obtain ⟨x, e, r⟩ := h; subst e; simp [r.one]
 | .full .., ws, h => by simp only [VREL] at h; obtain ⟨x, e, r⟩ := h; subst e; simp [r.one]
 | .ptr .., ws, h => by simp only [VREL] at h; obtain ⟨x, e, r⟩ := h; subst e; simp [r.one]
 | .fn .., ws, h => by simp only [VREL] at h; obtain ⟨_, _, _, _, e, _⟩ := h; subst e; simp [Value.oneCell']
 | .ifc .., ws, h => by simp only [VREL] at h; obtain ⟨_, e, _⟩ := h; subst e; simp [Value.oneCell']
 | .mp _, ws, h => by simp only [VREL] at h; obtain ⟨_, _, e, _⟩ := h; subst e; simp [Value.oneCell']
 | .yld _, ws, h => by simp only [VREL] at h; obtain ⟨_, e, _⟩ := h; subst e; simp [Value.oneCell']
theorem VRELs.ones {X : Cx} : ∀ {l : List V} {wss : List (List Value)}, VRELs X l false wss → ∀ x ∈ wss.flatten, x.oneCell' = true
 | [], _, h => by simp only [VRELs] at h; subst h; simp
 | d :: l, _, h => by
  simp only [VRELs] at h
  obtain ⟨ws, r, e, h1, h2⟩ := h
  subst e
  intro x hx
  rw [List.flatten_cons, List.mem_append] at hx
  exact hx.elim (VREL.ones h1 x) (VRELs.ones h2 x)
end
theorem run_storeVar_ok {P : Program} {t : Nat} {ti : TI} (ht : TyOk P t ti) {X : Cx} {v : V} (hv : okV ti v = true) {x : Value} (h : VREL X v true [x]) {a : Addr} (ha : a.spot = none) {w : World}
  (hc : ∀ j, j < ti.size → (∃ u, w.cell? (a.add j) = some u) ∧ w.frozen? (a.add j) = false) :
  (storeVar t a x).run P w = .ok () (putCells w a x.cells.toList 0) := by
 obtain ⟨h1, _, h3⟩ := okV_iff hv
 have hcs := h.cells h3
 have hl : x.cells.size = ti.size := by rw [← h1, ← hcs.wd]; simp
 have hst := run_storeCells_put (P := P) a ha x.cells.toList w 0 (hcs.ones) (fun j hj => by rw [Nat.zero_add]; exact hc j (by rw [← hl]; simpa using hj))
 simp only [storeVar, Sem.run_bind, run_sizeOf ht, Result.andThen_ok, hl]
 simp [hst]
end Go.As
