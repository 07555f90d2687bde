/- A part of the proof. -/
import Derived.Test.YtohdkalmpfmcmaaGreatDoorA4
set_option linter.all false
open Bool renaming and_eq_true->aM,and_self->F3,false->af,not_eq_true->ji,not_eq_true'->yi,or_eq_true->kc,or_true->F4,rec->ke,true->ag
open Go.Code renaming rec->UR
open Int renaming ofNat->aE
open List renaming all_cons->vp,all_eq_true->lI,filterMap_append->BO,filterMap_cons_some->ahT,getElem?_map->pb,length_append->dH,length_map->gg,length_set->fQ,length_singleton->ahY,map_append->ml,map_cons->mo,map_drop->Vp,map_replicate->yC,map_take->Gg,mem_append->cD,mem_cons_self->eh,rec->bn,replicate->bP
open Nat renaming beq->al,beq_eq->mr,beq_refl->gj,ble->bu,ble_eq_true_of_le->km,blt->cQ,div->nu,eq_of_beq_eq_true->bU,le_of_ble_eq_true->jl,le_of_lt->dj,le_refl->aL,le_trans->b8,le_zero->aic,lt_irrefl->gE,lt_of_lt_of_le->fY,lt_succ_self->aie,min->BP,mod->jI,rec->hG,zero_add->db,zero_le->bH
open Option renaming bind_eq_some_iff->ay,bind_some->ah,map_some->jJ,none->ae,rec->eN,some->ab
open Prod renaming fst->fg,snd->gU
noncomputable section
namespace Go.As
section
inductive CV where
 |undef
 |sy (t:Ty) (x:t.den)
 |rf (t:Ty) (x:t.den)
 |py (d:D)
 |fK
 |agg (w:Nat) (l:List CV)
 |aH (l:List CV)
 |own (b v:Nat)
 |ptr (b:Nat) (p:List (Nat×Nat))
 |el (b v i:Nat) (p:List (Nat×Nat))
 |fn (f:Nat) (a c:List CV)
 |iv (t:Ty) (l:List t.den)
 |dR (b v:Nat) (o:Option Nat) (n:Nat) (aP:Bool)
 |ifc (t:Nat) (v:CV)
 |mp (b:Nat)
 |iM (j:IntKind) (t:Ty) (l:List (Int×t.den))
 |yl (b:Nat)
 |tl (b d:Nat) (p:List (Nat×Nat))
 |fw (t:Ty) (l:List t.den) (v:CV)
 deriving Inhabited
def Ak(a b:Nat):=a+b
def ar3(a b:Nat):=a-b
def oY(a b:Nat):=a-b
def gv{α:Type}(l:List α) n:=l.take n
def wY{α:Type}(l:List α) n:=l.drop n
def fT{α:Type}(o:Option Nat)(n:Nat)(l:List α):=match o with|none=>gv l n|some o=>gv (wY l o) n
def Ej(o:Option Nat)(i:Nat):=match o with|none=>i|some o=>Ak o i
def oJ(j:Nat)(i:Option Nat):=match i with|none=>j|some i=>ar3 j i
def cY{α:Type}(l:List α):=match l with|[]=>ag|_::_=>af
def gq(v:CV):=match v with|.undef=>ag|_=>af
def ib(l:List CV):=l.all λv=>!gq v
def Zg{α:Type}(l:List α):=match l with|[]=>ae|a::_=>ab a
inductive TC where
 |e
 |n (v:CV) (l r:TC)
inductive CB where
 |cell (v:CV)
 |arr (v:Nat) (c:Bool) (t:Ty) (l:List t.den)
 |mO (j:IntKind) (t:Ty) (l:List (Int×t.den))
 |cC (t:Ty) (l:List t.den) (vs:List CV)
 |nN (f:Nat) (tc:TC) (ps:List Nat) (bT body:Code)
 |hole
abbrev CH:=List (Option CB)
def TC.get(t:TC):Nat->CV:=
 TC.rec (λ_=>CV.undef) (λv _ _ gl gr i=>ke (ke (gr (Nat.sub (nu i 2) 1)) (gl (nu i 2)) (al (jI i 2) 1)) v (al i 0)) t
def TC.set(t:TC):Nat->CV->TC:=
 TC.rec (λ_ _=>TC.e) (λv l r sl A i x=>ke (ke (TC.n v l (A (Nat.sub (nu i 2) 1) x)) (TC.n v (sl (nu i 2) x) r) (al (jI i 2) 1)) (TC.n x l r) (al i 0)) t
def TC.mk(d:Nat):TC:=hG TC.e (λ_ t=>TC.n .undef t t) d
def aD(h:CH)(b:Nat):Option CB:=match bG h b with|some (ab x)=>ab x|_=>ae
def cW(h:CH)(b:Nat)(x:CB):CH:=bC h b (ab x)
def uB:(l:Ty)->l.den->List CV
 |.cn t l,x=>.sy t x.1::uB l x.2
 |_,_=>[]
def CV.kids:CV->Option (List CV)
 |.sy (.st _ l) x=>ab (uB l x)
 |.agg _ l=>ab l
 |_=>ae
def CV.part(v:CV)(i:Nat):=
 match v with
 |.sy (.aH l) x=>bG (uB l x) i
 |.aH l=>bG l i
 |_=>ae
def CV.wd:CV->Nat
 |.sy t _=>t.wd
 |.py d=>d.wd
 |.agg w _=>w
 |_=>1
def va(l:List CV):Nat->Nat:=
 bn (λ_=>0) (λv _ ih i=>match i with|0=>0|j+1=>v.wd+ih j) l
structure TX where
 t:Ty
 x:t.den
def rT(l:List CV):Option TX:=
 bn (ab ⟨.nl,()⟩) (λv _ ih=>match v with
  |.sy t x=>eN ae (λr=>ab ⟨.cn t r.t,(x,r.x)⟩) ih
  |_=>ae) l
def l5(w:Nat)(l:List CV):CV:=eN (CV.agg w l) (λr=>CV.sy (.st w r.t) r.x) (rT l)
def sw(l:List CV):CV:=eN (CV.aH l) (λr=>CV.sy (.aH r.t) r.x) (rT l)
def CV.eF(v:CV)(k o:Nat):=v.kids.bind λl=>bif al (va l k) o then bG l k else ae
def CV.eZ(v:CV)(p:List (Nat×Nat)):Option CV:=
 bn (λv=>ab v) (λs _ ih v=>(CV.eF v s.1 s.2).bind ih) p v
def CV.put(x:CV)(p:List (Nat×Nat))(v:CV):Option CV:=
 bn (λv=>bif al x.wd v.wd&&not (gq v)then ab x else ae) (λs _ ih v=>
  v.kids.bind λl=>bif al (va l s.1) s.2 then(bG l s.1).bind λc=>(ih c).map λA=>l5 v.wd (bC l s.1 A)else ae) p v
mutual
def uJ:D->CV
 |.bool b=>.sy .bool b
 |.int k n=>.sy (.int k) n
 |.str s=>.sy .str s
 |.agg w l=>l5 w (uK l)
 |.aH l=>sw (uK l)
 |.eE=>.sy .err []
 |d=>.py d
def uK:List D->List CV
 |[]=>[]
 |d::l=>uJ d::uK l
end
mutual
def ic:V->CV
 |.im d=>uJ d
 |.full []=>.fK
 |.agg w l=>bif ib (xl l)&&(ga l).isNone then l5 w (xl l)else .undef
 |.fn f [] []=>.fn f [] []
 |_=>.undef
def xl:List V->List CV
 |[]=>[]
 |v::l=>ic v::xl l
end
mutual
def CV.dt(ch:CH):(t:Ty)->CV->Option t.den
 |t,.sy u x=>Ty.cs u t x
 |.an _,.fK=>ab []
 |.jS,.fn f a c=>match a,c with|[],[]=>ab f|_,_=>ae
 |.an t,.own b v=>match aD ch b with
  |some (.arr A _ u l)=>bif al v A then Ty.cs (.an u) (.an t) l else ae
  |_=>ae
 |.an t,.iv u l=>Ty.cs (.an u) (.an t) l
 |.an t,.dR b v o n _=>match aD ch b with
  |some (.arr A _ u l)=>bif al v A then Ty.cs (.an u) (.an t) (fT o n l)else ae
  |_=>ae
 |.st w l,.agg w' vs=>bif al w w' then CV.gk ch l vs else ae
 |.aH l,.aH vs=>CV.gk ch l vs
 |_,_=>ae
def CV.gk(ch:CH):(l:Ty)->List CV->Option l.den
 |.nl,[]=>ab ()
 |.cn t l,v::vs=>match CV.dt ch t v,CV.gk ch l vs with
  |some x,ab y=>ab (x,y)
  |_,_=>ae
 |_,_=>ae
end
mutual
def CV.iP:CV->List Nat
 |.own b _=>[b]
 |.dR b _ _ _ _=>[b]
 |.agg _ l=>CV.gM l
 |.aH l=>CV.gM l
 |_=>[]
def CV.gM:List CV->List Nat
 |[]=>[]
 |v::l=>v.iP++CV.gM l
end
def CV.Ar:CV->Bool
 |.ptr _ _|.el _ _ _ _|.mp _|.yl _|.tl _ _ _=>ag
 |.fn _ (_::_) _=>ag
 |.fn _ _ (_::_)=>ag
 |.ifc _ v=>v.Ar
 |_=>af
def pt(ch:CH)(A:List Nat):CH:=
 bn (λh=>h) (λb _ ih h=>match aD h b with
  |some (.arr v _ t l)=>ih (cW h b (.arr v ag t l))
  |_=>ih h) A ch
structure Spec where
 a:Ty
 r:Ty
 f:a.den->Option r.den
inductive Pt where
 |val (t:Ty)
 |buf (c:Bool) (t:Ty)
 |agg (w:Nat) (l:List Pt)
 |nil
 |mp (j:IntKind) (t:Ty)
 |cC (t:Ty) (p:Pt)
 |qy (t:Ty) (p:Pt)
structure Hint where
 dF:List (Nat×Pt)
 cells:List (Nat×Pt)
 dw:List (Nat×Ty)
inductive Ap where
 |val (t:Ty)
 |buf (w:Bool) (t:Ty)
 |cell (w:Bool) (t:Ty)
 |fn (f:Nat) (a c:List Ap)
mutual
def Ap.ty:Ap->Ty
 |.val t=>t
 |.buf _ t=>.an t
 |.cell _ t=>t
 |.fn _ a c=>.cn (a9.ty a) (a9.ty c)
def a9.ty:List Ap->Ty
 |[]=>.nl
 |p::l=>.cn p.ty (a9.ty l)
end
mutual
def Ap.get(ch:CH):(p:Ap)->CV->Option p.ty.den
 |.val t,.sy u x=>Ty.cs u t x
 |.buf w t,.own b n=>match aD ch b with
  |some (.arr A c u l)=>bif al n A&&bif w then not c else c then Ty.cs (.an u) (.an t) l else ae
  |_=>ae
 |.cell _ t,.ptr b []=>match aD ch b with
  |some (.cell (.sy u x))=>Ty.cs u t x
  |_=>ae
 |.fn f a c,.fn I J U=>bif al f I then match a9.get ch a J,a9.get ch c U with
  |some x,ab y=>ab (x,y)
  |_,_=>ae else ae
 |_,_=>ae
def a9.get(ch:CH):(l:List Ap)->List CV->Option (a9.ty l).den
 |[],[]=>ab ()
 |p::l,v::vs=>match Ap.get ch p v,a9.get ch l vs with
  |some x,ab y=>ab (x,y)
  |_,_=>ae
 |_,_=>ae
end
mutual
def Ap.src:Ap->CV->List (Nat×Nat)
 |.buf _ _,.own b n=>[(b,n)]
 |.cell _ _,.ptr b _=>[(b,0)]
 |.fn _ a c,.fn _ A I=>a9.src a A++a9.src c I
 |_,_=>[]
def a9.src:List Ap->List CV->List (Nat×Nat)
 |p::l,v::vs=>p.src v++a9.src l vs
 |_,_=>[]
end
mutual
def Ap.ig:Ap->List Bool
 |.val _=>[]
 |.buf w _=>[w]
 |.cell w _=>[w]
 |.fn _ a c=>a9.ig a++a9.ig c
def a9.ig:List Ap->List Bool
 |[]=>[]
 |p::l=>p.ig++a9.ig l
end
mutual
def Ap.mk:(p:Ap)->p.ty.den->Nat->CV×Nat
 |.val t,x,n=>(.sy t x,n)
 |.buf _ _,_,n=>(.own n 0,n+1)
 |.cell _ _,_,n=>(.ptr n [],n+1)
 |.fn f a c,x,n=>match a9.mk a x.1 n with|(A,n)=>match a9.mk c x.2 n with|(cs,n)=>(.fn f A cs,n)
def a9.mk:(l:List Ap)->(a9.ty l).den->Nat->List CV×Nat
 |[],_,n=>([],n)
 |p::l,x,n=>match Ap.mk p x.1 n with|(v,n)=>match a9.mk l x.2 n with|(vs,n)=>(v::vs,n)
end
mutual
def Ap.news:(p:Ap)->p.ty.den->CH
 |.val _,_=>[]
 |.buf w t,l=>[ab (.arr 0 (not w) t l)]
 |.cell _ t,x=>[ab (.cell (.sy t x))]
 |.fn _ a c,x=>a9.news a x.1++a9.news c x.2
def a9.news:(l:List Ap)->(a9.ty l).den->CH
 |[],_=>[]
 |p::l,x=>Ap.news p x.1++a9.news l x.2
end
mutual
def Ap.back(ch:CH):(p:Ap)->p.ty.den->Nat->Option (p.ty.den×Nat)
 |.val _,x,n=>ab (x,n)
 |.buf w t,l,n=>bif w then match aD ch n with
  |some (.arr v c u A)=>bif al v 0&&not c then match Ty.cs (.an u) (.an t) A with|some y=>ab (y,n+1)|none=>ae else ae
  |_=>ae else ab (l,n+1)
 |.cell w t,x,n=>bif w then match aD ch n with
  |some (.cell (.sy u y))=>match Ty.cs u t y with|some y=>ab (y,n+1)|none=>ae
  |_=>ae else ab (x,n+1)
 |.fn _ a c,x,n=>match a9.back ch a x.1 n with
  |some (y,n)=>match a9.back ch c x.2 n with|some (z,n)=>ab ((y,z),n)|none=>ae
  |none=>ae
def a9.back(ch:CH):(l:List Ap)->(a9.ty l).den->Nat->Option ((a9.ty l).den×Nat)
 |[],_,n=>ab ((),n)
 |p::l,x,n=>match Ap.back ch p x.1 n with
  |some (y,n)=>match a9.back ch l x.2 n with|some (z,n)=>ab ((y,z),n)|none=>ae
  |none=>ae
end
def qQ(ch:CH)(q:Nat×Nat)(y:Option CB):=
 match y with
 |some (.cell v)=>cW ch q.1 (.cell v)
 |some (.arr _ c t l)=>cW ch q.1 (.arr q.2 c t l)
 |_=>ch
def qT:List (Nat×Nat)->List Bool->CH->CH->CH
 |q::S,w::ws,y::A,ch=>qT S ws A (bif w then qQ ch q y else ch)
 |_,_,_,ch=>ch
def gO:List (Nat×Nat)->List Bool->List Nat
 |q::S,w::ws=>bif w then q.1::gO S ws else gO S ws
 |_,_=>[]
structure kp where
 ps:List Ap
 r:Ty
 f:(a9.ty ps).den->Option (r.den×(a9.ty ps).den)
structure CE where
 E:Env
 sp:Nat->Option Spec
 LK:Nat->Option kp
 hint:Nat->Nat->Option Hint
 join:Nat->Nat->Option Hint
 sZ:Nat->Nat->Bool
section
variable {ρ:Type}
abbrev KC(ρ:Type):=CV->CH->Option ρ
def Of(v:Value):CV:=eN .undef ic (uM v)
def vC(tc:TC)(o:Operand):=
 match o with
 |.tmp n=>tc.get n
 |.const v=>Of v
 |.func f=>.fn f [] []
 |.global _=>.undef
def o6(tc:TC)(l:Array Operand):List CV:=bn [] (λo _ ih=>vC tc o::ih) l.toList
def Ek(k:TK)(v:CV):=
 match v with
 |.sy (.st _ _) _=>iy.kJ k
 |.sy (.aH _) _=>af
 |.sy .nl _=>af
 |.sy (.cn _ _) _=>af
 |.sy _ _=>not (iy.kJ k)
 |.py d=>iy.J3 k d
 |.agg _ _=>iy.kJ k
 |.aH _|.undef|.iM _ _ _|.fw _ _ _=>af
 |_=>not (iy.kJ k)
def dE(ti:TI)(v:CV):=al v.wd ti.size&&Ek ti.k v
def kL(ch:CH) b(k:Nat->CH->Option ρ):=k (aF ch) (ch++[ab b])
def GV(E:Env) t ch(k:KC ρ):=
 (E.ty t).bind λti=>bif cA ti ti.zero then kL ch (.cell (ic ti.zero)) λb ch=>k (.ptr b []) ch else ae
def Cz(E:Env) t x(ch:CH)(k:KC ρ):=
 (E.ty t).bind λti=>bif dE ti x then match ti.k with
  |.arr _ _=>match x with|.sy u y=>k (.rf u y) ch|_=>ae
  |_=>kL ch (.cell x) λb ch=>k (.ptr b []) ch else ae
def G1(t:Ty):(l:Ty)->l.den->Option (List t.den)
 |.cn u l,x=>match Ty.cs u t x.1,G1 t l x.2 with|some y,ab r=>ab (y::r)|_,_=>ae
 |.nl,_=>ab []
 |_,_=>ae
def z4(v:CV):=match v with|.undef|.aH _|.iM _ _ _|.fw _ _ _|.sy (.aH _) _|.sy .nl _|.sy (.cn _ _) _=>af|.py (.aH _)=>af|_=>ag
def HT(A:Nat->Option (Nat×Nat))(ps:List (Nat×CV))(kids:List CV):Option (List CV):=
 bn (λl=>ab l) (λp _ ih l=>(A p.1).bind λI=>(bG l p.1).bind λc=>
  bif al (va l p.1) I.1&&(al c.wd I.2&&(al p.2.wd I.2&&z4 p.2))then ih (bC l p.1 p.2)else ae) ps kids
def iW(e:Operand->CV)(ps:Array (Nat×Operand)):List (Nat×CV):=bn [] (λp _ ih=>(p.1,e p.2)::ih) ps.toList
def WN(E:Env) t(ps:List (Nat×CV)) ch(k:KC ρ):=
 (E.ty t).bind λti=>(ic ti.zero).kids.bind λl=>
  match ti.k with
  |.st fs=>(HT (λi=>(bG fs i).map λf=>(f.1,f.2.1)) ps l).bind λA=>k (l5 ti.zero.wd A) ch
  |.arr _ el=>(E.ty el).bind λte=>(HT (λi=>ab (i*te.size,te.size)) ps l).bind λA=>k (l5 ti.zero.wd A) ch
  |_=>ae
def zD(ch:CH)(t:Ty)(ps:List (Nat×CV))(l:List t.den):Option (List t.den):=
 bn (λl=>ab l) (λp _ ih l=>(CV.dt ch t p.2).bind λx=>bif cQ p.1 (aF l)&&z4 p.2 then ih (l.set p.1 x)else ae) ps l
def mW(ps:List (Nat×CV)):List Nat:=bn [] (λp _ ih=>p.2.iP++ih) ps
def jQ(E:Env) keep t n(ps:List (Nat×CV)) ch(k:KC ρ):=
 (E.ty t).bind λti=>match ti.k with
  |.an el=>(E.ty el).bind λte=>(p8 E 12 el).bind λu=>(CV.dt [] u (ic te.zero)).bind λz=>
    bif bu (n*te.size) 16777216&&bu n 16777216&&(al u.wd te.size&&(dE te (.sy u z)&&(zZ (mW ps)&&(not keep||rS ps))))then
     (zD ch u ps (bP n z)).bind λl=>kL ch (.arr 0 af u l) λb ch=>k (.own b 0) ch
    else ae
  |_=>ae
where
 zZ (l:List Nat):Bool:=match l with|[]=>ag|_=>af
 rS (ps:List (Nat×CV)):=bn ag (λp _ ih=>match p.2 with|.sy _ _=>ih|_=>af) ps
mutual
def CV.mem:CV->Bool
 |.own _ _|.ptr _ _|.dR _ _ _ _ _|.el _ _ _ _|.tl _ _ _=>ag
 |.agg _ l=>CV.uD l
 |_=>af
def CV.uD:List CV->Bool
 |[]=>af
 |v::l=>v.mem||CV.uD l
end
def Bt(keep:Bool)(ps:List (Nat×CV)):=
 bif keep then CV.uD (ps.map gU)else match ps with|(_,.ptr _ _)::_=>ag|_=>af
def CA(E:Env) t n(ps:List (Nat×CV)) ch(k:KC ρ):=
 (E.ty t).bind λti=>match ti.k with
  |.an el=>(E.ty el).bind λte=>(te.zero.data []).bind λz=>
    bif bu (n*te.size) 16777216&&bu n 16777216&&(cA te (.im z)&&(al (Uu E el te).wd te.size&&not (gq (ic te.zero))))then
     (HT (λi=>ab (i*te.size,te.size)) ps (bP n (ic te.zero))).bind λl=>kL ch (.cC (Uu E el te) [] l) λb ch=>k (.own b 0) ch
    else ae
  |_=>ae
where
 Uu E el te:Ty:=match p8 E 12 el with|some u=>u|none=>.bool
def eT(f:Nat->Bool)(l:List Nat):Bool:=bn ag (λa _ ih=>bif f a then ih else af) l
def uC(wb:Nat->Bool)(ch:CH)(A:List Nat):=
 eT (λb=>match aD ch b with|some (.arr _ ag _ _)=>ag|_=>wb b) A
def NS(E:Env)(wb:Nat->Bool) t n(ps:List (Nat×CV)) ch(k:KC ρ):=
 (E.ty t).bind λti=>match ti.k with
  |.an el=>(E.ty el).bind λte=>(p8 E 12 el).bind λu=>(CV.dt [] u (ic te.zero)).bind λz=>
    bif bu (n*te.size) 16777216&&bu n 16777216&&(al u.wd te.size&&(dE te (.sy u z)&&uC wb ch (mW ps)))then
     (zD ch u ps (bP n z)).bind λl=>kL (pt ch (mW ps)) (.arr 0 af u l) λb ch=>k (.own b 0) ch
    else ae
  |_=>ae
def DY(E:Env) t(a:CV)(ch:CH)(k:KC ρ):=
 (E.ty t).bind λti=>match a with
  |.ptr b p=>match aD ch b with
   |some (.cell v)=>(v.eZ p).bind λv=>bif dE ti v then k v ch else ae
   |_=>ae
  |.rf u x=>bif dE ti (.sy u x)then k (.sy u x) ch else ae
  |.el b v i p=>match aD ch b with
   |some (.arr A _ u l)=>bif al v A then l[i]?.bind λx=>(CV.eZ (.sy u x) p).bind λy=>bif dE ti y then k y ch else ae else ae
   |some (.cC u l [])=>bif al v 0 then l[i]?.bind λx=>(CV.eZ (.sy u x) p).bind λy=>bif dE ti y then k y ch else ae else ae
   |_=>ae
  |.tl b d p=>match aD ch b with
   |some (.cC _ _ vs)=>bif bu d (aF vs)then(bG vs (oY (aF vs) d)).bind λw=>(w.eZ p).bind λy=>bif dE ti y then k y ch else ae else ae
   |_=>ae
  |_=>ae
def Kx(t:Ty)(x:CV)(p:List (Nat×Nat))(y:t.den):=
 match p with
 |[]=>bif al x.wd t.wd then CV.dt [] t x else ae
 |q::p=>match x with
  |.sy u z=>match CV.put (.sy u z) (q::p) (.sy t y)with
   |some (.sy A I)=>Ty.cs A t I
   |_=>ae
  |.fK=>match CV.eZ (.sy t y) (q::p)with
   |some (.sy (.an u) _)=>match CV.put (.sy (.an u) []) (q::p) (.sy t y)with
    |some (.sy A I)=>Ty.cs A t I
    |_=>ae
   |_=>ae
  |_=>ae
def T5(E:Env)(wb:Nat->Bool) t(a x:CV)(ch:CH)(k:KC ρ):=
 (E.ty t).bind λti=>bif dE ti x then match a with
  |.ptr b p=>bif wb b then match aD ch b with
   |some (.cell v)=>(x.put p v).bind λA=>k .undef (cW ch b (.cell A))
   |_=>ae else ae
  |.el b v i p=>bif wb b then match aD ch b with
   |some (.arr A af u l)=>bif al v A then l[i]?.bind λy=>(Kx u x p y).bind λI=>k .undef (cW ch b (.arr A af u (l.set i I)))else ae
   |_=>ae else ae
  |.tl b d p=>bif wb b then match aD ch b with
   |some (.cC u l vs)=>bif bu d (aF vs)then(bG vs (oY (aF vs) d)).bind λw=>(x.put p w).bind λw'=>k .undef (cW ch b (.cC u l (bC vs (oY (aF vs) d) w')))else ae
   |_=>ae else ae
  |_=>ae else ae
def acp(x:CV)(ch:CH)(k:KC ρ):=match x with|.ptr b p=>k (.ptr b p) ch|.el b v i p=>k (.el b v i p) ch|.tl b d p=>k (.tl b d p) ch|_=>ae
def cJ:(t:Ty)->t.den->t.den->Bool
 |.bool,a,b=>a==b
 |.int _,a,b=>aj a b
 |.st _ l,a,b=>cJ l a b
 |.nl,_,_=>ag
 |.cn t l,a,b=>cJ t a.1 b.1&&cJ l a.2 b.2
 |_,_,_=>af
def Ut(E:Env) u(t:Nat):=iJ E 12 t u&&tX E 12 t
def kI(k:IntKind) ch(A:KC ρ)(n:Int):=A (.sy (.int k) n) ch
def kB ch(A:KC ρ)(b:Bool):=A (.sy .bool b) ch
def G0(op:BinOp)(k:IntKind)(x y:Int)(ch:CH)(A:KC ρ):=
 match op with
 |.add=>kI k ch A (wr k (x+y))
 |.sub=>kI k ch A (wr k (x-y))
 |.mul=>kI k ch A (wr k (x*y))
 |.quo=>bif aj y 0 then ae else kI k ch A (wr k (x.tdiv y))
 |.rem=>bif aj y 0 then ae else kI k ch A (x.tmod y)
 |.and=>kI k ch A (wr k (aE (Nat.land (word k x) (word k y))))
 |.or=>kI k ch A (wr k (aE (Nat.lor (word k x) (word k y))))
 |.xor=>kI k ch A (wr k (aE (Nat.xor (word k x) (word k y))))
 |.andNot=>kI k ch A (wr k (aE (Nat.land (word k x) (2^kb k-1-word k y))))
 |.eql=>kB ch A (aj x y)
 |.neq=>kB ch A (not (aj x y))
 |.lss=>kB ch A (ak x y)
 |.leq=>kB ch A (ai x y)
 |.gtr=>kB ch A (ak y x)
 |.geq=>kB ch A (ai y x)
 |.shl=>bif ak y 0 then ae else kI k ch A (wr k (x*aE (2^BP y.toNat (kb k))))
 |.shr=>bif ak y 0 then ae else kI k ch A (x.fdiv (aE (2^BP y.toNat (kb k))))
def Yo(E:Env)(op:BinOp) t lit(a b:List (Nat×Int))(ch:CH)(k:KC ρ):=
 bif cY b then(E.ty t).bind λti=>match ti.k with
  |.ifc m=>bif not m||lit then match op with
   |.eql=>kB ch k (cY a)
   |.neq=>kB ch k (not (cY a))
   |_=>ae else ae
  |_=>ae else ae
def NL E op t lit(x y:CV)(ch:CH)(k:KC ρ):=
 match x,y with
 |.sy .err a,.sy .err b=>Yo E op t lit a b ch k
 |.sy (.int j) a,.sy (.int A) b=>match op with
  |.shl=>G0 .shl j a b ch k
  |.shr=>G0 .shr j a b ch k
  |op=>bif gu j A then G0 op j a b ch k else ae
 |.sy u a,.sy I b=>bif Ut E u t then(Ty.cs I u b).bind λb=>match op with
  |.eql=>kB ch k (cJ u a b)
  |.neq=>kB ch k (not (cJ u a b))
  |_=>ae else ae
 |_,_=>ae
def Qb(E:Env)(t:Nat)(x:CV)(ch:CH)(k:KC ρ):Option ρ:=
 match E.kind t with
 |some (.ifc _)=>ae
 |some _=>match x with
  |.sy u z=>(Ty.cs u (.st 2 (.cn (.int .i64) (.cn .err .nl))) z).bind λy=>k (.sy .err ((t,y.1)::y.2.1)) ch
  |.ptr b p=>k (.ifc t (.ptr b p)) ch
  |_=>ae
 |none=>ae
def Uv(op:UnOp)(x:CV)(ch:CH)(k:KC ρ):=
 match op,x with
 |.not,.sy .bool b=>kB ch k (not b)
 |.neg,.sy (.int j) n=>kI j ch k (wr j (0-n))
 |_,_=>ae
def Oi(E:Env)(s d:Nat)(x:CV)(ch:CH)(k:KC ρ):Option ρ:=
 match E.kind s,E.kind d,x with
 |some (.int _),ab (.int j),.sy (.int _) n=>kI j ch k (wr j n)
 |_,_,_=>ae
def Jw(E:Env) t(l c:CV)(ch:CH)(k:KC ρ):=
 (E.ty t).bind λti=>match ti.k with
  |.an el=>(E.ty el).bind λte=>(p8 E 12 el).bind λu=>(CV.dt [] u (ic te.zero)).bind λz=>match l,c with
   |.sy (.int .i64) n,.sy (.int .i64) m=>bif al u.wd te.size&&dE te (.sy u z)then
    bif ai 0 n&&(ai n m&&ai (m*aE te.bytes) 70368744177664)then kL ch (.arr 0 af u (bP n.toNat z)) λb ch=>k (.own b 0) ch else ae
    else ae
   |_,_=>ae
  |_=>ae
def Cy hi(x:Option CV)(A:Nat)(k:Nat->Option ρ):=
 match x with
 |none=>k A
 |some (.sy (.int _) n)=>bif ai 0 n&&ai n (aE hi)then k n.toNat else ae
 |_=>ae
def Oo len(lo hi:Option CV)(k:Option Nat->Nat->Option ρ):=
 Cy len hi len λj=>match lo with
  |none=>k ae j
  |some (.sy (.int _) n)=>bif ai 0 n&&ai n (aE j)then k (ab n.toNat) j else ae
  |_=>ae
def CR len(lo:Option CV)(hi:Option CV)(mx:CV)(k:Option Nat->Nat->Option ρ):=
 match hi,mx with
 |some (.sy (.int _) a),.sy (.int _) b=>bif ai 0 b&&ai b (aE len)then bif ai 0 a&&ai a b then bif aj a b then match lo with
  |none=>k ae a.toNat
  |some (.sy (.int _) n)=>bif ai 0 n&&ai n a then k (ab n.toNat) a.toNat else ae
  |_=>ae else ae else ae else ae
 |_,_=>ae
def TS(E:Env) t(x:CV)(lo hi mx:Option CV)(ch:CH)(k:KC ρ):=
 (E.ty t).bind λti=>match ti.k,x with
  |.an el,.sy (.an u) l=>(E.ty el).bind λte=>bif al u.wd te.size then match mx with
   |none=>Cy l.length hi l.length λj=>Cy j lo 0 λi=>k (.sy (.an u) ((l.drop i).take (j-i))) ch
   |some m=>CR l.length lo hi m λi j=>k (.iv u (fT i (oJ j i) l)) ch else ae
  |.an el,.iv u l=>(E.ty el).bind λte=>bif al u.wd te.size then match mx with
   |none=>ae
   |some m=>CR l.length lo hi m λi j=>k (.iv u (fT i (oJ j i) l)) ch else ae
  |.an el,.own b v=>(E.ty el).bind λte=>match aD ch b with
   |some (.arr I _ u l)=>bif al v I&&al u.wd te.size then match mx with
    |none=>Oo l.length lo hi λi j=>k (.dR b v i (oJ j i) af) ch
    |some m=>CR l.length lo hi m λi j=>k (.dR b v i (oJ j i) ag) ch else ae
   |_=>ae
  |.an el,.fK=>(E.ty el).bind λ_=>match mx with
   |none=>Oo 0 lo hi λ_ _=>k .fK ch
   |some _=>ae
  |.arr m el,.rf (.st _ l) y=>match lo,hi,mx with
   |none,ae,ae=>(E.ty el).bind λte=>(p8 E 12 el).bind λu=>(G1 u l y).bind λA=>bif al (aF A) m&&(bu m 16777216&&al u.wd te.size)then k (.iv u A) ch else ae
   |_,_,_=>ae
  |_,_=>ae
def Yv(E:Env) t(x:CV) j(ch:CH)(k:KC ρ):=
 (E.ty t).bind λti=>match ti.k with
  |.st fs=>(bG fs j).bind λf=>bif al f.2.1 0 then ae else match x with
   |.ptr b p=>k (.ptr b (p++[(j,f.1)])) ch
   |.el b v i p=>k (.el b v i (p++[(j,f.1)])) ch
   |.tl b d p=>k (.tl b d (p++[(j,f.1)])) ch
   |.rf u y=>match CV.eF (.sy u y) j f.1 with
    |some (.sy A I)=>bif al A.wd f.2.1 then k (.rf A I) ch else ae
    |_=>ae
   |_=>ae
  |_=>ae
def Uj{α:Type}(l:List α)(vs:List CV)(n:Int)(k:Nat->Option ρ):=
 match vs with
 |[_]=>bif aj n (aE l.length)then k 1 else ae
 |vs=>match l with
  |[]=>bif ai 0 n&&cQ n.toNat (aF vs)then k (oY (aF vs) n.toNat)else ae
  |_=>ae
def Qg(E:Env) t(x i:CV)(ch:CH)(k:KC ρ):=
 match i with
 |.sy (.int _) n=>(E.ty t).bind λti=>match ti.k with
  |.an el=>(E.ty el).bind λte=>match x with
   |.sy (.an u) l=>bif al u.wd te.size then bif ai 0 n then l[n.toNat]?.bind λy=>k (.rf u y) ch else ae else ae
   |.own b v=>match aD ch b with
    |some (.arr A _ u l)=>bif al v A&&al u.wd te.size then bif ai 0 n&&ak n (aE l.length)then k (.el b v n.toNat []) ch else ae else ae
    |some (.cC u l [])=>bif al v 0&&al u.wd te.size then bif ai 0 n&&ak n (aE l.length)then k (.el b 0 n.toNat []) ch else ae else ae
    |some (.cC u l vs)=>bif al v 0&&al u.wd te.size then Uj l vs n λd=>k (.tl b d []) ch else ae
    |_=>ae
   |.iv u l=>bif al u.wd te.size then bif ai 0 n then l[n.toNat]?.bind λy=>k (.rf u y) ch else ae else ae
   |.dR b v o m _=>match aD ch b with
    |some (.arr A _ u l)=>bif al v A&&al u.wd te.size then bif ai 0 n&&ak n (aE m)then k (.el b v (Ej o n.toNat) []) ch else ae else ae
    |_=>ae
   |_=>ae
  |.arr m el=>(E.ty el).bind λte=>bif ai 0 n&&(ak n (aE m)&&cQ 0 te.size)then match x with
   |.ptr b p=>k (.ptr b (p++[(n.toNat,n.toNat*te.size)])) ch
   |.rf u y=>match CV.eF (.sy u y) n.toNat (n.toNat*te.size)with
    |some (.sy I J)=>bif al I.wd te.size then k (.rf I J) ch else ae
    |_=>ae
   |_=>ae else ae
  |_=>ae
 |_=>ae
def Qh(E:Env) t(x i:CV)(ch:CH)(k:KC ρ):=
 match i,x with
 |.sy (.int _) n,.sy .str s=>(E.ty t).bind λti=>match ti.k with
  |.str=>bif ai 0 n then s[n.toNat]?.bind λc=>k (.sy (.int .u8) (aE c)) ch else ae
  |_=>ae
 |.sy (.int _) n,x=>(E.ty t).bind λti=>match ti.k with
  |.arr m el=>(E.ty el).bind λte=>bif ai 0 n&&ak n (aE m)then(x.eF n.toNat (n.toNat*te.size)).bind λw=>bif dE te w then k w ch else ae else ae
  |_=>ae
 |_,_=>ae
def Rb{α:Type}(l:List α)(vs:List CV)(k:Nat->Option ρ):=
 match vs with
 |[]=>k l.length
 |[_]=>k (Ak l.length 1)
 |vs=>match l with|[]=>k (aF vs)|_=>ae
def Re(E:Env)(t:Nat)(x:CV)(ch:CH)(k:KC ρ):Option ρ:=
 match E.kind t,x with
 |some (.an _),.sy (.an _) l=>kI .i64 ch k (aE l.length)
 |some (.an _),.fK=>kI .i64 ch k 0
 |some (.an _),.own b v=>match aD ch b with
  |some (.arr A _ _ l)=>bif al v A then kI .i64 ch k (aE l.length)else ae
  |some (.cC _ l vs)=>bif al v 0 then Rb l vs λn=>kI .i64 ch k (aE n)else ae
  |_=>ae
 |some (.an _),.iv _ l=>kI .i64 ch k (aE l.length)
 |some (.an _),.dR _ _ _ n _=>kI .i64 ch k (aE n)
 |_,_=>ae
def cx{α:Type}(a b:List α):=a++b
def bW(n bytes:Nat):=bu (n*bytes) 70368744177664&&bu n 70368744177664
def acn(E:Env)(te:TI)(u:Ty)(t:Nat)(x:CV)(ch:CH):Option (List u.den):=
 match E.kind t with
 |some (.an _)=>bif al u.wd te.size then CV.dt ch (.an u) x else ae
 |_=>ae
structure AW where
 t:Ty
 l:List t.den
 vs:List CV
def G2(ch:CH)(v:CV):Option AW:=match v with
 |.own b n=>match aD ch b with|some (.cC t l vs)=>bif al n 0 then ab ⟨t,l,vs⟩else ae|_=>ae
 |_=>ae
def Nl(te:TI)(l:List CV):Bool:=bn ag (λv _ ih=>bif dE te v then ih else af) l
def Nv(E:Env)(wb:Nat->Bool) te A(s:CV)(x:AW)(ch:CH)(k:KC ρ):=
 bif Qy (E.kind A)&&(cY x.l&&(not (cY x.vs)&&(Nl te x.vs&&al x.t.wd te.size)))then match s with
  |.fK=>bif bW (aF x.vs) te.bytes then kL ch (.cC x.t [] x.vs) λb ch=>k (.own b 0) ch else ae
  |.own b n=>match aD ch b with
   |some (.cC t l [])=>bif al n 0&&(wb b&&al t.wd te.size)then(Ty.cs (.an t) (.an x.t) l).bind λl=>bif bW (Ak l.length (aF x.vs)) te.bytes then
     kL (bC ch b ae) (.cC x.t l x.vs) λb ch=>k (.own b 0) ch else ae else ae
   |_=>ae
  |_=>ae else ae
def Nu(E:Env)(wb:Nat->Bool)(J:Array Nat) s x ch(k:KC ρ):=
 ((bG J.toList 0).bind E.ty).bind λti=>match ti.k with
  |.an el=>(E.ty el).bind λte=>(bG J.toList 1).bind λU=>bif cA te te.zero then match G2 ch x with|some x=>Nv E wb te U s x ch k|none=>(p8 E 12 el).bind λu=>(acn E te u U x ch).bind λnew=>match s with
   |.own b v=>bif wb b then match aD ch b with
    |some (.arr A c I l)=>bif al v A then(Ty.cs (.an I) (.an u) l).bind λl=>bif bW (l.length+new.length) te.bytes then k (.own b (v+1)) (cW ch b (.arr (v+1) c u (cx l new)))else ae else ae
    |_=>ae else ae
   |.dR b v o n aP=>bif aP then bif cY new then ae else match aD ch b with
    |some (.arr A _ I l)=>bif al v A then(Ty.cs (.an I) (.an u) l).bind λl=>bif bW (n+new.length) te.bytes then kL ch (.arr 0 af u (cx (fT o n l) new)) λb ch=>k (.own b 0) ch else ae else ae
    |_=>ae else ae
   |_=>ae else ae
  |_=>ae
def Wf(E:Env)(A:Array Nat)(s:CV)(n:Int)(ch:CH)(k:KC ρ):=
 ((bG A.toList 0).bind E.ty).bind λti=>match ti.k,s with
  |.an el,.fK=>(E.ty el).bind λte=>(bG A.toList 1).bind λI=>(p8 E 12 el).bind λu=>(CV.dt [] u (ic te.zero)).bind λz=>
    bif cA te te.zero&&(wQ (E.kind I)&&(al u.wd te.size&&dE te (.sy u z)))then
     bif ak 0 n&&bW n.toNat te.bytes then kL ch (.arr 0 af u (bP n.toNat z)) λb ch=>k (.own b 0) ch else ae else ae
  |_,_=>ae
def Rq(j:IntKind)(l:List CV)(ch:CH)(k:KC ρ):Int->Option ρ:=
 bn (λa=>kI j ch k a) (λv _ ih a=>match v with|.sy (.int A) b=>bif gu j A then ih (bif ai a b then a else b)else ae|_=>ae) l
def Ro(j:IntKind)(l:List CV)(ch:CH)(k:KC ρ):Int->Option ρ:=
 bn (λa=>kI j ch k a) (λv _ ih a=>match v with|.sy (.int A) b=>bif gu j A then ih (bif ai a b then b else a)else ae|_=>ae) l
def WW(E:Env)(t:Nat)(x:CV)(ch:CH)(k:KC ρ):Option ρ:=
 match E.kind t,x with
 |some (.an _),.fK=>kI .i64 ch k 0
 |_,_=>ae
def pv{α:Type}(o:Option Nat) n z(l:List α):=l.take (o.getD 0)++(bP n z++l.drop (o.getD 0+n))
def N6(E:Env)(wb:Nat->Bool)(I:Array Nat)(x:CV)(ch:CH)(k:KC ρ):=
 ((bG I.toList 0).bind E.ty).bind λti=>match ti.k with
  |.an el=>(E.ty el).bind λte=>match x with
   |.dR b v o n _=>bif wb b then match aD ch b with
    |some (.arr A af u l)=>(CV.dt [] u (ic te.zero)).bind λz=>bif al v A&&(al u.wd te.size&&dE te (.sy u z))then
      bif ak 0 (aE l.length)then k (.aH []) (cW ch b (.arr A af u (pv o n z l)))else ae else ae
    |_=>ae else ae
   |_=>ae
  |_=>ae
def NT E(wb:Nat->Bool)(b:Builtin)(A:Array Nat)(xs:List CV)(ch:CH)(k:KC ρ):=
 match b with
 |.len=>match xs with|[x]=>(bG A.toList 0).bind λt=>Re E t x ch k|_=>ae
 |.append=>match xs with|[s,.sy (.int .i64) n]=>Wf E A s n ch k|[s,x]=>Nu E wb A s x ch k|_=>ae
 |.min=>match xs with|.sy (.int j) a::l=>Rq j l ch k a|_=>ae
 |.max=>match xs with|.sy (.int j) a::l=>Ro j l ch k a|_=>ae
 |.cap=>match xs with|[x]=>(bG A.toList 0).bind λt=>WW E t x ch k|_=>ae
 |.clear=>match xs with|[x]=>N6 E wb A x ch k|_=>ae
 |_=>ae
def lz{α:Type}(l:List (Int×α))(n:Int)(z:α):α:=bn z (λe _ ih=>bif aj n e.1 then e.2 else ih) l
def jV{α:Type}(l:List (Int×α))(n:Int)(x:α):List (Int×α):=bn [(n,x)] (λe r ih=>bif aj n e.1 then(n,x)::r else e::ih) l
def YJ(u:Ty):=match u with|.bool|.int _=>ag|_=>af
def Rk(E:Env)(t:Nat)(r:Option CV)(ch:CH)(k:KC ρ):Option ρ:=
 match E.kind t,r with
 |some (.map A et),ae=>match E.kind A with
  |some (.int j)=>(p8 E 12 et).bind λu=>bif YJ u then kL ch (.mO j u []) λb ch=>k (.mp b) ch else ae
  |_=>ae
 |_,_=>ae
def Rf(E:Env)(t:Nat)(m key:CV)(ok:Bool)(ch:CH)(k:KC ρ):Option ρ:=
 match E.kind t,m,key with
 |some (.map A et),.mp b,.sy (.int j) n=>bif ok then ae else match aD ch b with
  |some (.mO I u l)=>bif mT E A (.int j 0)&&(gu j I&&YJ u)then(E.ty et).bind λte=>match ic te.zero with
   |.sy v z=>(Ty.cs v u z).bind λz=>k (.sy u (lz l n z)) ch
   |_=>ae else ae
  |_=>ae
 |_,_,_=>ae
def Jx(E:Env)(wb:Nat->Bool)(t:Nat)(m key x:CV)(ch:CH)(k:KC ρ):Option ρ:=
 match E.kind t,m,key,x with
 |some (.map I et),.mp b,.sy (.int j) n,.sy v y=>match aD ch b with
  |some (.mO A u l)=>bif mT E I (.int j 0)&&(gu j A&&wb b)then(E.ty et).bind λte=>bif dE te (.sy v y)then(Ty.cs v u y).bind λy=>k .undef (cW ch b (.mO A u (jV l n y)))else ae else ae
  |_=>ae
 |_,_,_,_=>ae
def oX E(wb:Nat->Bool) keep tc(op:Op)(ch:CH)(k:KC ρ):=
 match op with
 |.move x=>k (vC tc x) ch
 |.assign x=>k (vC tc x) ch
 |.alloc ty=>GV E ty ch k
 |.box ty x=>Cz E ty (vC tc x) ch k
 |.build ty ps=>WN E ty (iW (vC tc) ps) ch k
 |.buildSlice ty n ps=>bif Bt keep (iW (vC tc) ps)then CA E ty n (iW (vC tc) ps) ch k else bif keep||jQ.zZ (mW (iW (vC tc) ps))then jQ E keep ty n (iW (vC tc) ps) ch k else NS E wb ty n (iW (vC tc) ps) ch k
 |.load ty a=>DY E ty (vC tc a) ch k
 |.store ty a x=>T5 E wb ty (vC tc a) (vC tc x) ch k
 |.nilCheck x=>acp (vC tc x) ch k
 |.binOp op ty x y _=>NL E op ty (isConst x||isConst y) (vC tc x) (vC tc y) ch k
 |.unOp op _ x=>Uv op (vC tc x) ch k
 |.convert s d x=>Oi E s d (vC tc x) ch k
 |.makeInterface ty x=>Qb E ty (vC tc x) ch k
 |.makeFunc (.func g) a c=>k (.fn g (o6 tc a) (o6 tc c)) ch
 |.makeSlice ty l c=>Jw E ty (vC tc l) (vC tc c) ch k
 |.slice ty x lo hi mx=>TS E ty (vC tc x) (lo.map (vC tc)) (hi.map (vC tc)) (mx.map (vC tc)) ch k
 |.fieldAddr ty x j=>Yv E ty (vC tc x) j ch k
 |.indexAddr ty x i=>Qg E ty (vC tc x) (vC tc i) ch k
 |.index ty x i=>Qh E ty (vC tc x) (vC tc i) ch k
 |.extract x i=>((vC tc x).part i).bind λv=>k v ch
 |.makeMap ty r=>Rk E ty (r.map (vC tc)) ch k
 |.lookup ty m x ok=>Rf E ty (vC tc m) (vC tc x) ok ch k
 |.mapUpdate ty m x y=>Jx E wb ty (vC tc m) (vC tc x) (vC tc y) ch k
 |.insert ty m x y=>Jx E wb ty (vC tc m) (vC tc x) (vC tc y) ch k
 |.call c=>match c.callee with
  |.builtin b=>NT E wb b c.argTypes (o6 tc c.args) ch k
  |_=>ae
 |_=>ae
abbrev KX(ρ:Type):=Ex->TC->CH->Option ρ
def adR(l:List CV):Nat->TC->TC:=bn (λ_ t=>t) (λv _ ih i t=>ih (i+1) (t.set i v)) l
def Ul(n:Nat)(args:List CV):=adR args 0 (TC.mk (Oy n))
def Ts(E:Env)(tc:TC) ch(r:ResultVar):=
 match r with
 |.tmp n=>ab (tc.get n)
 |.cell a ty=>match tc.get a,E.ty ty with
  |.ptr b p,ab ti=>match aD ch b with
   |some (.cell v)=>(v.eZ p).bind λv=>bif dE ti v then ab v else ae
   |_=>ae
  |_,_=>ae
def Tt(E:Env)(tc:TC)(ch:CH)(l:List ResultVar):Option (List CV):=
 bn (ab []) (λr _ ih=>(Ts E tc ch r).bind λv=>ih.map (v:: ·)) l
def uX E(fn:Func) tc ch:=
 (Tt E tc ch fn.results.toList).map λl=>match l with
  |[v]=>v
  |l=>sw l
def dstsOf(l:List Oper):List Nat:=bn [] (λo _ ih=>match o.dst with|some d=>d::ih|none=>ih) l
def writes(c:Code):List Nat:=
 UR [] (λ_ ops _=>dstsOf ops.toList) (λ_ _ a b=>a++b) (λ_ _ _ a b=>a++b) (λ_ _ a=>a) (λ_ a=>a) (λ_ ps _ _ a b=>ps.toList++(a++b)) (λ_=>[]) (λ_ a=>a) (λ_=>[]) (λ_=>[]) [] (λ_=>[]) c
def keyOf(c:Code):Option Nat:=
 UR ae (λid _ _=>ab id) (λ_ _ a b=>eN b ab a) (λ_ _ _ a b=>eN b ab a) (λ_ _ a=>a) (λ_ a=>a) (λ_ _ _ _ a b=>eN b ab a) (λ_=>ae) (λ_ a=>a) (λ_=>ae) (λ_=>ae) ae (λ_=>ae) c
def arB(c:Code):Bool:=
 UR af (λ_ _ _=>af) (λ_ _ a _=>a) (λ_ _ _ _ _=>af) (λ_ _ a=>a) (λ_ _=>ag) (λ_ _ _ _ _ _=>af) (λ_=>af) (λ_ a=>a) (λ_=>af) (λ_=>af) af (λ_=>af) c
def arc b:=(keyOf b).map λk=>bif arB b then Nat.add k 500000 else k
mutual
def Pt.ty:Pt->Ty
 |.val t=>t
 |.buf _ t=>.an t
 |.agg _ l=>Pt.o5 l
 |.nil=>.nl
 |.mp j t=>.an (.cn (.int j) t)
 |.cC t p=>.cn (.an t) (.cn p.ty .nl)
 |.qy t p=>.cn (.an t) (.cn p.ty .nl)
def Pt.o5:List Pt->Ty
 |[]=>.nl
 |p::l=>.cn p.ty (Pt.o5 l)
end
def zi(ch:CH)(c:Bool)(t:Ty)(v:CV):Option (List t.den):=
 match v with
 |.fK=>ab []
 |.own b n=>match aD ch b with
  |some (.arr A I u l)=>bif al n A&&(c||not I)then Ty.cs (.an u) (.an t) l else ae
  |_=>ae
 |_=>ae
mutual
def Pt.get(ch:CH):(p:Pt)->CV->Option p.ty.den
 |.val t,.sy u x=>Ty.cs u t x
 |.buf c t,v=>zi ch c t v
 |.agg w l,.agg w' vs=>bif al w w' then Pt.jT ch l vs else ae
 |.nil,.fK=>ab ()
 |.mp j t,.iM A I l=>Ty.cs (.an (.cn (.int A) I)) (.an (.cn (.int j) t)) l
 |.cC t p,.own b n=>match aD ch b with
  |some (.cC u l [v])=>bif al n 0 then match Ty.cs (.an u) (.an t) l,Pt.get ch p v with
   |some x,ab y=>ab (x,y,())
   |_,_=>ae else ae
  |_=>ae
 |.qy t p,.fw u l v=>match Ty.cs (.an u) (.an t) l,Pt.get ch p v with
  |some x,ab y=>ab (x,y,())
  |_,_=>ae
 |_,_=>ae
def Pt.jT(ch:CH):(l:List Pt)->List CV->Option (Pt.o5 l).den
 |[],[]=>ab ()
 |p::l,v::vs=>match Pt.get ch p v,Pt.jT ch l vs with
  |some x,ab y=>ab (x,y)
  |_,_=>ae
 |_,_=>ae
end
mutual
def Pt.mk:(p:Pt)->p.ty.den->Nat->CV×Nat
 |.val t,x,n=>(.sy t x,n)
 |.buf _ _,_,n=>(.own n 0,n+1)
 |.agg w l,x,n=>match Pt.dZ l x n with|(vs,n)=>(.agg w vs,n)
 |.nil,_,n=>(.fK,n)
 |.mp j t,x,n=>(.iM j t x,n)
 |.cC _ p,x,n=>(.own n 0,(Pt.mk p x.2.1 (n+1)).2)
 |.qy t p,x,n=>match Pt.mk p x.2.1 n with|(v,n)=>(.fw t x.1 v,n)
def Pt.dZ:(l:List Pt)->(Pt.o5 l).den->Nat->List CV×Nat
 |[],_,n=>([],n)
 |p::l,x,n=>match Pt.mk p x.1 n with|(v,n)=>match Pt.dZ l x.2 n with|(vs,n)=>(v::vs,n)
end
mutual
def Pt.news:(p:Pt)->p.ty.den->Nat->CH
 |.val _,_,_=>[]
 |.buf c t,l,_=>[ab (.arr 0 c t l)]
 |.agg _ l,x,n=>Pt.oK l x n
 |.nil,_,_=>[]
 |.mp _ _,_,_=>[]
 |.cC t p,x,n=>ab (.cC t x.1 [(Pt.mk p x.2.1 (n+1)).1])::Pt.news p x.2.1 (n+1)
 |.qy _ p,x,n=>Pt.news p x.2.1 n
def Pt.oK:(l:List Pt)->(Pt.o5 l).den->Nat->CH
 |[],_,_=>[]
 |p::l,x,n=>Pt.news p x.1 n++Pt.oK l x.2 (Pt.mk p x.1 n).2
end
def aV(l:List (Nat×Pt)):List Pt:=bn [] (λp _ ih=>p.2::ih) l
def FU(l:List (Nat×Ty)):Ty:=bn .nl (λp _ ih=>.cn (.an p.2) ih) l
def Hint.ty(H:Hint):Ty:=.cn (Pt.o5 (aV H.dF)) (.cn (Pt.o5 (aV H.cells)) (FU H.dw))
def oI(v:CV):=match v with|.iM _ _ _|.fw _ _ _=>ag|_=>af
def ow(ch:CH)(l:List (Nat×Pt)):Option (List CV):=
 bn (ab []) (λp _ ih=>match aD ch p.1 with|some (.cell v)=>bif oI v then ae else eN ae (λvs=>ab (v::vs)) ih|some (.mO j t x)=>eN ae (λvs=>ab (.iM j t x::vs)) ih|some (.cC t l [v])=>eN ae (λvs=>ab (.fw t l v::vs)) ih|_=>ae) l
def r9(v:CV):CB:=match v with|.iM j t l=>.mO j t l|.fw t l v=>.cC t l [v]|v=>.cell v
def UA(ch:CH)(l:List (Nat×Ty)):Option (List (Nat×Bool)):=
 bn (ab []) (λp _ ih=>match aD ch p.1 with|some (.arr v c _ _)=>eN ae (λvs=>ab ((v,c)::vs)) ih|_=>ae) l
def tP(ch:CH):(l:List (Nat×Ty))->List (Nat×Bool)->Option (FU l).den
 |[],_=>ab ()
 |p::l,(v,c)::vs=>match aD ch p.1 with
  |some (.arr I A u x)=>bif al v I&&bif c then A else not A then match Ty.cs (.an u) (.an p.2) x,tP ch l vs with
   |some x,ab y=>ab (x,y)
   |_,_=>ae else ae
  |_=>ae
 |_::_,[]=>ae
def Hint.get(H:Hint)(vs:List (Nat×Bool))(tc:TC)(ch:CH):Option H.ty.den:=
 match Pt.jT ch (aV H.dF) (bn [] (λp _ ih=>tc.get p.1::ih) H.dF),(ow ch H.cells).bind (Pt.jT ch (aV H.cells)),tP ch H.dw vs with
 |some x,ab y,ab z=>ab (x,(y,z))
 |_,_,_=>ae
def sF(l:List (Nat×Pt)):List CV->TC->TC:=
 bn (λ_ t=>t) (λp _ ih vs t=>match vs with|v::vs=>ih vs (t.set p.1 v)|[]=>t) l
def n2(l:List Nat):TC->TC:=bn (λt=>t) (λi _ ih t=>ih (t.set i .undef)) l
def pS(l:List (Nat×Pt)):List CV->CH->CH:=
 bn (λ_ h=>h) (λp _ ih vs h=>match vs with|v::vs=>ih vs (cW h p.1 (r9 v))|[]=>h) l
def qR:(l:List (Nat×Ty))->List (Nat×Bool)->(FU l).den->CH->CH
 |[],_,_,h=>h
 |p::l,(v,c)::vs,x,h=>qR l vs x.2 (cW h p.1 (.arr v c p.2 x.1))
 |_::_,[],_,h=>h
def oM(l:List Nat):CH->CH:=bn (λh=>h) (λb _ ih h=>ih (bC h b ae)) l
def Hint.fill(H:Hint)(ws:List Nat)(ids:List Nat)(vs:List (Nat×Bool))(tc:TC)(ch:CH)(s:H.ty.den):TC×CH:=
 match Pt.dZ (aV H.dF) s.1 (aF ch)with
 |(cs,n)=>match Pt.dZ (aV H.cells) s.2.1 n with
  |(ds,_)=>(sF H.dF cs (n2 ws tc),qR H.dw vs s.2.2 (pS H.cells ds (oM ids ch))++(Pt.oK (aV H.dF) s.1 (aF ch)++Pt.oK (aV H.cells) s.2.1 n))
mutual
def Pt.ids(ch:CH):Pt->CV->List Nat
 |.buf _ _,.own b _=>[b]
 |.agg _ l,.agg _ vs=>Pt.qK ch l vs
 |.cC _ p,.own b _=>b::match aD ch b with|some (.cC _ _ [v])=>Pt.ids ch p v|_=>[]
 |.qy _ p,.fw _ _ v=>Pt.ids ch p v
 |_,_=>[]
def Pt.qK(ch:CH):List Pt->List CV->List Nat
 |p::l,v::vs=>p.ids ch v++Pt.qK ch l vs
 |_,_=>[]
end
def Hint.ids(H:Hint)(tc:TC) ch:=
 Pt.qK ch (aV H.dF) (bn [] (λp _ ih=>tc.get p.1::ih) H.dF)++match ow ch H.cells with|some l=>Pt.qK ch (aV H.cells) l|none=>[]
def bN{α:Type}(l:List (Nat×α)):List Nat:=bn [] (λp _ ih=>p.1::ih) l
def i9(l:List Nat):Bool:=bn ag (λa l ih=>bif bg l a then af else ih) l
def TC.eK:TC->TC->Bool
 |.e,.e=>ag
 |.n _ l r,.n _ A I=>TC.eK l A&&TC.eK r I
 |_,_=>af
def sv{σ ρ:Type}(step:σ->Option (σ⊕ρ))(n:Nat):σ->Option ρ:=
 hG (λ_=>ae) (λ_ ih s=>match step s with
  |none=>ae
  |some (.inl A)=>ih A
  |some (.inr r)=>ab r) n
open Classical in
def aA{σ ρ:Type}(step:σ->Option (σ⊕ρ)) s:=if h:∃n r,sv step n s=ab r then ab h.choose_spec.choose else ae
def bt{σ ρ:Type}(m:Option (σ⊕ρ))(k:σ->Option ρ):=m.bind λx=>match x with|.inl s=>k s|.inr r=>ab r
section
variable (C:CE) (ih:(ρ:Type)->Nat->Code->(Nat->Bool)->TC->CH->KX ρ->Option ρ)
def mX(t:TC)(d:Option Nat)(v:CV):TC:=eN t (λn=>t.set n v) d
def GS(wb:Nat->Bool) ch(r:Ty)(args:List CV)(k:CH->Option ρ):=
 bif r.flat then k ch else bif uC wb ch (CV.gM args)then k (pt ch (CV.gM args))else ae
def agA(E:Env)(l:List Nat):Option Ty:=bn (ab .nl) (λt _ ih=>(p8 E 12 t).bind λa=>ih.map λl=>.cn a l) l
def resTy E(l:List Nat):=match l with|[t]=>p8 E 12 t|l=>(agA E l).map .aH
def aar(o:Op):=match o with|.defer _=>ag|_=>af
def wK{ρ:Type} g(args:List CV)(wb:Nat->Bool) ch(k:KC ρ):=
 (C.E.fn g).bind λfn=>fn.body.bind λc=>bif bu (aF args) fn.ntmps then
  ih ρ g c wb (Ul fn.ntmps args) ch λex tc ch=>match ex with|.exit _=>ae|_=>(uX C.E fn tc ch).bind λv=>k v ch else ae
def Ow(c:Code):Option (Code×Code×Operand×Code):=
 match c with
 |.seq a (.seq (.region id ops af) A)=>match ops.toList.reverse with
  |o::l=>match o.op,o.guard,o.dst with
   |.defer c,ae,ae=>match c.callee,c.args.toList with
    |.value f,[]=>bif l.all λo=>o.guard.isNone&&not (aar o.op)then ab (a,.region id l.reverse.toArray af,f,A)else ae
    |_,_=>ae
   |_,_,_=>ae
  |[]=>ae
 |_=>ae
def h8:Code->Bool
 |.seq a b=>h8 a||h8 b
 |.cond _ a b=>h8 a||h8 b
 |.block _ a=>h8 a
 |.loop a=>h8 a
 |.scope a=>h8 a
 |.rangeFunc _ _ _ _=>ag
 |_=>af
def adL(g:Nat):Bool:=match(C.E.fn g).bind λfn=>fn.body with|some c=>not (h8 c)|none=>af
def aso(E:Env)(g:Nat):Code->Bool
 |.region id _ _=>(E.Dh g id).isNone
 |_=>ag
def sr{ρ:Type} g args(wb:Nat->Bool) ch(k:KC ρ):=
 (C.E.fn g).bind λfn=>fn.body.bind λc=>match Ow c with
 |none=>wK C ih g args wb ch k
 |some (a,b,f,A)=>bif bu (aF args) fn.ntmps&&aso C.E g b then
   ih ρ g a wb (Ul fn.ntmps args) ch λex tc ch=>match ex with
    |.nm=>ih ρ g b wb tc ch λex tc ch=>match ex,vC tc f with
     |.nm,.fn I J c2=>bif adL C I&&not (al (aF (J++c2)) 1)then ih ρ g A wb tc ch λex tc ch=>match ex with
      |.exit _=>ae
      |_=>wK C ih I (J++c2) wb ch λ_ ch=>(uX C.E fn tc ch).bind λv=>k v ch else ae
     |_,_=>ae
    |_=>ae else ae
def NW{ρ:Type}(s:kp)(args:List CV)(wb:Nat->Bool)(ch:CH)(k:KC ρ):Option ρ:=
 match a9.get ch s.ps args with
 |some x=>bif i9 (bN (a9.src s.ps args))&&eT wb (gO (a9.src s.ps args) (a9.ig s.ps))then
   (s.f x).bind λy=>k (.sy s.r y.1) (qT (a9.src s.ps args) (a9.ig s.ps) (a9.news s.ps y.2) ch)else ae
 |none=>ae
def Cp{ρ:Type} g r y(k:CV->Option ρ):=
 bif C.sZ g 1000000 then match r,y with
  |.int i,y=>bif ai 0 y then k (.sy (.int i) (aE (Int.toNat y)))else ae
  |_,_=>ae else k (.sy r y)
def NX{ρ:Type}(g:Nat)(args:List CV)(wb:Nat->Bool)(ch:CH)(k:KC ρ):Option ρ:=
 match C.LK g with
 |some s=>bif C.E.inl g||args.any CV.Ar then NW s args wb ch k else ae
 |none=>
 match C.sp g with
 |some s=>bif C.E.inl g then ae else(CV.gk ch s.a args).bind λx=>(s.f x).bind λy=>GS wb ch s.r args λch=>Cp C g s.r y λv=>k v ch
 |none=>bif C.E.inl g||args.any CV.Ar then sr C ih g args wb ch k else
  bif(C.E.sm g).isNone then
   (C.E.fn g).bind λfn=>(agA C.E fn.params.toList).bind λI=>(resTy C.E fn.resultTypes.toList).bind λrt=>(CV.gk ch I args).bind λx=>
    sr C ih g (uB I x) (λ_=>ag) [] λv A=>(CV.dt A rt v).bind λy=>GS wb ch rt args λch=>k (.sy rt y) ch
  else ae
def N8{ρ:Type} el(xs:List CV)(ch:CH)(k:KC ρ):=
 match xs with
 |[x]=>(C.E.ty el).bind λte=>(p8 C.E 12 el).bind λu=>(CV.dt ch (.an u) x).bind λl=>bif cA te te.zero&&Mm te&&al u.wd te.size then bif bW l.length te.bytes then kL ch (.arr 0 af u l) λb ch=>k (.own b 0) ch else ae else ae
 |_=>ae
def NC{ρ:Type} x(xs:List CV)(wb:Nat->Bool)(ch:CH)(k:KC ρ):=
 match xs with
 |[.sy .err l,.ifc t (.ptr b [])]=>bif ld.tR x t then bif cY l then kB ch k af else
   (Zg l).bind λe=>bif aj (aE e.1) (aE (x/1000000))then bif wb b then match aD ch b with
    |some (.cell v)=>bif al v.wd 2 then k (.sy .bool ag) (cW ch b (.cell (.sy (.st 2 (.cn (.int .i64) (.cn .err .nl))) (e.2,wY l 1,()))))else ae
    |_=>ae else ae else ae else ae
 |_=>ae
def NV{ρ:Type}(g:Nat)(args:List CV)(wb:Nat->Bool)(ch:CH)(k:KC ρ):Option ρ:=
 match C.E.clone g with
 |some el=>N8 C el args ch k
 |none=>bif al (C.E.ext g) 0 then NX C ih g args wb ch k else NC (C.E.ext g) args wb ch k
def sV tc(c:Call):=
 match c.callee with
 |.value f=>match vC tc f with
  |.fn g a cap=>ab (g,a++(o6 tc c.args++cap))
  |.sy .jS g=>ab (g,o6 tc c.args)
  |_=>ae
 |_=>ae
def adX(ps:List Nat):List CV->TC->Option TC:=
 bn (λxs t=>match xs with|[]=>ab t|_=>ae) (λp _ ih xs t=>match xs with|[]=>ae|x::xs=>ih xs (t.set p x)) ps
def Fu{ρ:Type}(b:Nat)(xs:List CV)(wb:Nat->Bool)(ch:CH)(k:KC ρ):Option ρ:=
 match aD ch b with
 |some (.nN f tc ps bT body)=>(adX ps xs tc).bind λt0=>ih ρ f bT wb t0 (cW ch b .hole) λex I J=>match ex with
  |.nm=>ih ρ f body wb I J λex _ A=>match ex,aD A b with
   |.nm,ab .hole=>k (.sy .bool ag) (cW A b (.nN f tc ps bT body))
   |_,_=>ae
  |_=>ae
 |_=>ae
def ye tc(c:Call):=
 match c.callee with
 |.value f=>match vC tc f with
  |.yl b=>ab (b,o6 tc c.args)
  |_=>ae
 |_=>ae
def CZ{ρ:Type}(f:Nat) keep(wb:Nat->Bool)(op:Op)(tc:TC)(ch:CH)(k:KC ρ):=
 match op with
 |.defer _=>ae
 |.call c=>match c.callee with
  |.builtin _=>oX C.E wb keep tc (.call c) ch k
  |_=>match ye tc c with
   |some q=>Fu ih q.1 q.2 wb ch k
   |none=>(sV tc c).bind λg=>NV C ih g.1 g.2 wb ch k
 |op=>oX C.E wb keep tc op ch k
def uj{ρ:Type}(ops:Array Oper) tc(g:Option (Nat×Bool))(A no:TC->Option ρ):=
 match g with
 |none=>A tc
 |some (j,I)=>(bG ops.toList j).bind λo=>o.dst.bind λd=>match tc.get d with
  |.sy .bool b=>bif I then bif b then A (tc.set d (.sy .bool ag))else no (tc.set d (.sy .bool af))else bif b then no (tc.set d (.sy .bool ag))else A (tc.set d (.sy .bool af))
  |.aH []=>no tc
  |_=>ae
def Be(d:Nat):List Oper->Option (List Oper×(Oper×Operand×Operand)×List Oper)
 |[]=>ae
 |o::l=>match(match o.op with|.pick (.tmp c) x y=>bif al c d then ab (x,y)else ae|_=>ae:Option (Operand×Operand))with
  |some (x,y)=>ab ([],(o,x,y),l)
  |none=>bif o.guard.isSome then eN ae (λr=>ab (o::r.1,r.2)) (Be d l)else ae
def YW(ops:Array Oper)(o:Oper)(l:List Oper):Option (Nat×List Oper×(Oper×Operand×Operand)×List Oper):=
 match o.guard with
 |none=>ae
 |some (j,_)=>(bG ops.toList j).bind λA=>A.dst.bind λd=>eN ae (λr=>ab (d,r)) (Be d (o::l))
def AJ(v:Bool)(c w:CV):Option Bool:=match c,w with|.sy .bool c,.sy .bool b=>bif bif v then c else not c then ab b else ae|_,_=>ae
def Qw(v:CV):Option Bool:=match v with|.sy .bool b=>ab b|_=>ae
def Y3(tc:TC)(l:List Oper):Bool:=
 bn af (λo _ ih=>match o.op with
  |.call c=>match c.callee with
   |.value f=>match vC tc f with
    |.yl _=>ag
    |_=>ih
   |_=>ih
  |.move x=>match vC tc x with
   |.yl _=>ag
   |_=>ih
  |_=>ih) l
def Il ops o l tc:=
 (YW ops o l).bind λr=>bif Y3 tc r.2.1 then ae else eN ae (λt=>ab (r.1,t,r.2)) (Qw (tc.get r.1))
def At(E:Env)(l:List Oper):Bool:=bn ag (λo _ ih=>bif bS E o.op then af else ih) l
def Ph E ops o l(ds:List (Nat×List Nat)) tc:=
 (Il ops o l tc).bind λr=>match ds.drop r.2.2.1.length with
  |(0,_)::A=>bif At E r.2.2.1 then ab (r.1,r.2.1,r.2.2.1,r.2.2.2.1,r.2.2.2.2,A)else ae
  |_=>ae
def zm{ρ:Type}(ops:Array Oper)(A:TC->(TC->CH->Option Bool)->Option Bool) d(x y:Operand)(p:Oper)(g:List Oper) t tc(k:TC->Option ρ):=
 (bif t then A (tc.set d (.sy .bool ag)) λI _=>AJ ag (I.get d) (vC I x)else A (tc.set d (.sy .bool af)) λI _=>AJ af (I.get d) (vC I y)).bind λb=>
  uj ops (n2 (dstsOf g) tc) p.guard (λtc=>k (mX tc p.dst (.sy .bool b))) λtc=>k (mX tc p.dst (.aH []))
def xN(f:Nat)(keep:Bool)(ops:Array Oper)(n:Nat):(ρ:Type)->List Oper->(Nat->Bool)->TC->CH->(TC->CH->Option ρ)->Option ρ:=
 hG (λ_ _ _ _ _ _=>ae) (λ_ A ρ l wb tc ch k=>match l with
  |[]=>k tc ch
  |o::l=>match Il ops o l tc with
   |some (d,t,g,(p,x,y),I)=>zm ops (λtc k=>A Bool g (λb=>bu (aF ch) b) tc ch k) d x y p g t tc λtc=>A ρ I wb tc ch k
   |none=>uj ops tc o.guard (λtc=>CZ C ih f keep wb o.op tc ch λv ch=>A ρ l wb (mX tc o.dst v) ch k) λtc=>A ρ l wb (mX tc o.dst (.aH [])) ch k) n
def Ll{ρ:Type} f keep(wb:Nat->Bool)(ops:Array Oper)(l:List Oper) tc ch(k:TC->CH->Option ρ):=xN C ih f keep ops (aF l+1) ρ l wb tc ch k
def DN(op:Op):=pL op||match op with|.load ..|.indexAddr ..|.index ..|.slice .. =>ag|_=>af
def acA{α:Type}(l:List α):=match l with|[]=>ag|_=>af
def P6{ρ:Type}(g:Nat)(args:List CV)(ch:CH)(k:KC ρ):Option ρ:=
 match C.E.clone g with
 |some _=>ae
 |none=>bif al (C.E.ext g) 0&&not (C.E.inl g)then match C.sp g with
  |some s=>(CV.gk ch s.a args).bind λx=>(s.f x).bind λy=>bif s.r.flat||acA (CV.gM args)then Cp C g s.r y λv=>k v ch else ae
  |none=>ae else ae
def CV.seen ch(v:CV):=
 match v with
 |.sy _ _=>ab []
 |.ptr b _=>match aD ch b with|some (.cell (.sy _ _))=>ab [b]|_=>ae
 |_=>ae
def CV.Lz(ch:CH):List CV->Option (List Nat)
 |[]=>ab []
 |v::l=>match CV.seen ch v,CV.Lz ch l with|some x,ab y=>ab (x++y)|_,_=>ae
def Em(A:List Nat)(ch:CH):CH:=bn (λ_=>[]) (λb _ ih i=>(bif bg A i then b else ae)::ih (i+1)) ch 0
def Nq{ρ:Type} g(args:List CV) ch(k:KC ρ):=
 (CV.Lz ch args).bind λA=>sr C ih g args (λb=>bu (aF ch) b) (Em A ch) λv _=>match v with|.sy t x=>k (.sy t x) ch|_=>ae
def TU(ch:CH)(v:CV):Option CV:=
 match v with
 |.sy t x=>ab (.sy t x)
 |.ptr b []=>match aD ch b with|some (.cell (.sy t x))=>ab (.rf t x)|_=>ae
 |_=>ae
def TV(ch:CH)(l:List CV):Option (List CV):=bn (ab []) (λv _ ih=>match TU ch v,ih with|some w,ab ws=>ab (w::ws)|_,_=>ae) l
def NF{ρ:Type}(g:Nat)(args:List CV)(ch:CH)(k:KC ρ):Option ρ:=
 match C.sp g with
 |some s=>bif C.E.inl g then ae else(CV.gk ch s.a args).bind λx=>(s.f x).bind λy=>bif s.r.flat then Cp C g s.r y λv=>k v ch else ae
 |none=>bif(C.E.sm g).isNone then(TV ch args).bind λws=>(C.E.fn g).bind λfn=>(resTy C.E fn.resultTypes.toList).bind λrt=>bif rt.flat then
   sr C ih g ws (λ_=>ag) [] λv A=>(CV.dt A rt v).bind λy=>k (.sy rt y) ch else ae
  else ae
def Hf{ρ:Type}(op:Op)(tc:TC)(f:Nat->List CV->Option ρ):=
 match op with
 |.call c=>match c.callee with
  |.builtin _=>ae
  |_=>(sV tc c).bind λg=>f g.1 g.2
 |_=>ae
def UD A(v:CV):=match v with|.rf _ _=>ag|.ptr b _=>(match aD A b with|some (.cell _)=>ag|_=>af)|_=>af
def Ot(tc:TC)(op:Op):=match op with
 |.load _ a=>match vC tc a with|.rf _ _=>ag|_=>af
 |.indexAddr _ x _=>match vC tc x with|.sy (.an _) _=>ag|_=>af
 |.convert _ _ x=>match vC tc x with|.sy (.int _) _=>ag|_=>af
 |_=>af
def RG(tc:TC)(ch:CH)(b:Nat)(m:List Nat):Bool:=bn ag (λs _ ih=>match tc.get s with|.ptr c _=>bif al b c||(aD ch c).isNone then af else ih|_=>af) m
def ae1(tc:TC)(b:Nat)(m:List Nat):=match m with|[]=>ag|s::_=>match tc.get s with|.ptr c _=>al b c|_=>af
def aaq(b:Option CB):=match b with|some (.cell _)=>ag|_=>af
def OA{ρ:Type} f keep(wb:Nat->Bool) A(cm:Nat×List Nat)(op:Op)(tc:TC)(ch:CH)(k:KC ρ):=
 match cm with
 |(4,_)=>Hf op tc λg args=>Nq C ih g args ch k
 |(5,[])=>Hf op tc λg args=>NF C ih g args ch k
 |(2,[])=>match op with
  |.load ty a=>bif UD A (vC tc a)then oX C.E wb keep tc (.load ty a) ch k else ae
  |_=>ae
 |(7,m)=>match op with
  |.load ty a=>match vC tc a with
   |.ptr b p=>bif UD A (.ptr b p)&&ae1 tc b m then oX C.E wb keep tc (.load ty a) ch k else ae
   |_=>ae
  |_=>ae
 |(6,m)=>match op with
  |.store ty a x=>match vC tc a with
   |.ptr b _=>bif RG tc ch b m&&aaq (aD ch b)then oX C.E wb keep tc (.store ty a x) ch k else ae
   |_=>ae
  |_=>ae
 |(0,_)=>bif pL op||Ot tc op then oX C.E wb keep tc op ch k else ae
 |(1,[])=>bif DN op then oX C.E wb keep tc op ch k else match op with
  |.call c=>match c.callee with
   |.builtin .len=>oX C.E wb keep tc (.call c) ch k
   |.builtin .min=>oX C.E wb keep tc (.call c) ch k
   |.builtin .max=>oX C.E wb keep tc (.call c) ch k
   |.builtin _=>ae
   |_=>(sV tc c).bind λg=>P6 C g.1 g.2 ch k
  |_=>ae
 |(3,_)=>CZ C ih f keep wb op tc ch k
 |_=>ae
def RD{ρ:Type} keep(op:Op)(tc:TC)(ch:CH)(k:KC ρ):=
 match op with
 |.alloc ty=>GV C.E ty ch k
 |.box ty x=>match C.E.kind ty with|some (.arr _ _)=>ae|_=>Cz C.E ty (vC tc x) ch k
 |.buildSlice ty n ps=>bif jQ.rS (iW (vC tc) ps)then jQ C.E keep ty n (iW (vC tc) ps) ch k else ae
 |.makeSlice ty l c=>Jw C.E ty (vC tc l) (vC tc c) ch k
 |_=>ae
def Ac(n i:Nat)(cm:Nat×List Nat):=bif(al cm.1 1||al cm.1 5)&&eT (λj=>bu i j&&cQ j n) cm.2 then(cm.1,[])else cm
def LL{ρ:Type} f keep(wb:Nat->Bool) A n i(cm:Nat×List Nat) op tc ch(k:KC ρ):=
 bif bS C.E op&&al cm.1 1 then RD C keep op tc ch k else OA C ih f keep wb A (Ac n i cm) op tc ch k
def sN(f:Nat)(keep:Bool)(I:CH)(ops:Array Oper)(n:Nat)(m:Nat):(ρ:Type)->List Oper->List (Nat×List Nat)->Nat->(Nat->Bool)->TC->CH->(TC->CH->Option ρ)->Option ρ:=
 hG (λ_ _ _ _ _ _ _ _=>ae) (λ_ A ρ l ds i wb tc ch k=>match l with
  |[]=>k tc ch
  |o::l=>match Ph C.E ops o l ds tc with
   |some (d,t,g,(p,x,y),U,J)=>zm ops (λtc k=>A Bool g ds i (λb=>bu (aF ch) b) tc ch k) d x y p g t tc λtc=>A ρ U J i wb tc ch k
   |none=>match ds with
    |[]=>ae
    |cm::ds=>uj ops tc o.guard (λtc=>LL C ih f keep wb I n i cm o.op tc ch λv ch=>A ρ l ds (bif bS C.E o.op then i+1 else i) wb (mX tc o.dst v) ch k) λtc=>A ρ l ds (bif bS C.E o.op then i+1 else i) wb (mX tc o.dst (.aH [])) ch k) m
def auX{ρ:Type} f keep(wb:Nat->Bool) A(ops:Array Oper) n(l:List Oper)(ds:List (Nat×List Nat)) i tc ch(k:TC->CH->Option ρ):=sN C ih f keep A ops n (aF l+1) ρ l ds i wb tc ch k
def Lh{ρ:Type} f id(wb:Nat->Bool)(ops:Array Oper) tc ch(k:TC->CH->Option ρ):=
 (C.E.dr f id).bind λds=>auX C ih f (C.E.keep f) wb ch ops (news C.E ops.toList) ops.toList ds 0 tc ch k
def WJ(tc:TC)(b:Nat):Nat:=bif bu 1000000 b then match tc.get (b-1000000)with
 |.own c _=>c
 |.dR c _ _ _ _=>c
 |.ptr c _=>c
 |.mp c=>c
 |.tl c _ _=>c
 |_=>b else b
def Hint.at(H:Hint)(tc:TC):Hint:=⟨H.dF,bn [] (λp _ ih=>(WJ tc p.1,p.2)::ih) H.cells,bn [] (λp _ ih=>(WJ tc p.1,p.2)::ih) H.dw⟩
def akS(tc:TC)(ch:CH)(k:Nat):Nat:=match tc.get 0 with
 |.yl b=>match aD ch b with|some (.nN g _ _ _ _)=>Nat.add k (Nat.mul g 10000000)|_=>k
 |_=>k
def Zs(C:CE)(f:Nat)(tc:TC)(ch:CH)(key:Nat):Option Hint:=eN (C.hint f key) ab (C.hint f (akS tc ch key))
def adH(f key:Nat)(tc:TC)(ch:CH):Bool:=
 bif C.sZ f (Ak key 1000001)then match(Zs C f tc ch key).map λH=>H.at tc with
  |some H=>match(UA ch H.dw).bind λvs=>H.get vs tc ch with
   |some _=>af
   |none=>ag
  |none=>af else af
def Rg{ρ:Type} f b(wb:Nat->Bool) tc ch k:=
 (arc b).bind λkey=>bif bif C.sZ f key then ag else adH C f key tc ch then ih ρ f b wb tc ch λex tc ch=>match ex with|.nm=>ih ρ f (.loop b) wb tc ch k|ex=>k ex tc ch else((Zs C f tc ch key).map λH=>H.at tc).bind λH=>(UA ch H.dw).bind λvs=>
  bif eT wb (H.ids tc ch)&&(eT wb (bN H.cells)&&(eT wb (bN H.dw)&&(i9 (H.ids tc ch++(bN H.cells++bN H.dw))&&i9 (bN H.dF)&&eT (λi=>bg (writes b) i) (bN H.dF))))then
   (H.get vs tc ch).bind λZ=>aA (λs=>match H.fill (writes b) (H.ids tc ch) vs tc ch s with
    |(J,U)=>ih (H.ty.den⊕ρ) f b (λi=>bu (aF ch) i||(bg (bN H.cells) i||bg (bN H.dw) i)) J U λex A I=>match ex with
     |.nm=>bif TC.eK tc A&&(i9 (H.ids A I)&&eT (λb=>bu (aF ch) b) (H.ids A I))then(H.get vs A I).map Sum.inl else ae
     |ex=>(k ex A I).map Sum.inr) Z
  else ae
def I2{ρ:Type}(H:Hint) f a b(wb:Nat->Bool) tc ch k:=
 (UA ch H.dw).bind λvs=>
  bif eT wb (H.ids tc ch)&&(eT wb (bN H.cells)&&(eT wb (bN H.dw)&&(i9 (H.ids tc ch++(bN H.cells++bN H.dw))&&i9 (bN H.dF)&&(eT (λi=>bg (writes a) i) (bN H.dF)&&eT (λb=>cQ b (aF ch)) (bN H.cells++bN H.dw)))))then
   bt (ih (H.ty.den⊕ρ) f a (λi=>bu (aF ch) i||(bg (H.ids tc ch) i||(bg (bN H.cells) i||bg (bN H.dw) i))) tc ch λex A I=>match ex with
     |.nm=>bif TC.eK tc A&&(i9 (H.ids A I)&&eT (λb=>bu (aF ch) b||bg (H.ids tc ch) b) (H.ids A I))then(H.get vs A I).map Sum.inl else ae
     |ex=>(k ex A I).map Sum.inr) λs=>match H.fill (writes a) (H.ids tc ch) vs tc ch s with
    |(J,U)=>ih ρ f b wb J U k
  else ae
def Nk(ch:CH)(t:Ty)(vs:List CV):Option (List t.den):=bn (ab []) (λv _ ih=>match CV.dt ch t v,ih with|some x,ab xs=>ab (x::xs)|_,_=>ae) vs
def Ic{ρ:Type}(E:Env)(f id:Nat)(wb:Nat->Bool)(tc:TC)(ch:CH)(k:CH->Option ρ):Option ρ:=
 match E.Dh f id with
 |none=>k ch
 |some (0,s)=>match tc.get s with
  |.fK=>k ch
  |.own b n=>match aD ch b with
   |some (.cC t l vs)=>bif wb b&&(al n 0&&uC wb ch (CV.gM vs))then(Nk ch t vs).bind λxs=>k (cW (pt ch (CV.gM vs)) b (.cC t (cx l xs) []))else ae
   |_=>ae
  |_=>ae
 |some (_,_)=>k ch
def wo{ρ:Type}(E:Env)(f id:Nat)(ws:List Nat)(wb:Nat->Bool)(tc:TC)(ch:CH)(k:TC->CH->Option ρ):Option ρ:=
 match E.Dh f id with
 |none=>k tc ch
 |some (1,s)=>match tc.get s with
  |.fK=>k tc ch
  |.own b n=>match aD ch b with
   |some (.cC t l [])=>bif bg ws s&&(wb b&&al n 0)then k (tc.set s (.own (aF ch) 0)) (bC ch b ae++[ab (.arr 0 af t l)])else ae
   |_=>ae
  |_=>ae
 |some (2,s)=>match tc.get s with
  |.tl b d p=>match aD ch b with
   |some (.cC u l [w])=>bif al d 1&&wb b then match w.eZ p with
    |some (.dR A v ae n af)=>match aD ch A with
     |some (.arr I af t J)=>bif al v I&&wb A then bif ak 0 (aE J.length)then(CV.put (.own (aF ch) 0) p w).bind λw'=>
       k tc (cW (bC ch A ae++[ab (.arr 0 af t (gv J n))]) b (.cC u l [w']))else ae else ae
     |_=>ae
    |_=>ae else ae
   |_=>ae
  |.dR b v ae n af=>match aD ch b with
   |some (.arr I af t l)=>bif bg ws s&&(al v I&&wb b)then bif ak 0 (aE l.length)then k (tc.set s (.own (aF ch) 0)) (bC ch b ae++[ab (.arr 0 af t (gv l n))])else ae else ae
   |_=>ae
  |_=>ae
 |some (_,_)=>k tc ch
def WY{ρ:Type}(f:Nat)(c:Code)(wb:Nat->Bool)(tc:TC)(ch:CH)(k:KX ρ):Option ρ:=
 match c with
 |.skip=>k .nm tc ch
 |.label _=>k .nm tc ch
 |.region id ops A=>Ic C.E f id wb tc ch λch=>bif A then Lh C ih f id wb ops tc ch (wo C.E f id (dstsOf ops.toList) wb · · (k .nm))else Ll C ih f (C.E.keep f) wb ops ops.toList tc ch (wo C.E f id (dstsOf ops.toList) wb · · (k .nm))
 |.seq a b=>match(keyOf b).bind (C.join f)with
  |some H=>I2 ih (H.at tc) f a b wb tc ch k
  |none=>ih ρ f a wb tc ch λex tc ch=>match ex with|.nm=>ih ρ f b wb tc ch k|ex=>k ex tc ch
 |.cond c a b=>match vC tc c with
  |.sy .bool t=>bif t then ih ρ f a wb tc ch k else ih ρ f b wb tc ch k
  |_=>ae
 |.block id b=>ih ρ f b wb tc ch λex tc ch=>match ex with|.exit j=>bif al j id then k .nm tc ch else k (.exit j) tc ch|ex=>k ex tc ch
 |.scope b=>ih ρ f b wb tc ch k
 |.exit id=>k (.exit id) tc ch
 |.ret=>k .ret tc ch
 |.loop b=>Rg C ih f b wb tc ch k
 |.rangeFunc g ps bT body=>match vC tc g with
  |.fn g a cap=>wK C ih g (a++.yl (aF ch)::cap) wb (ch++[ab (.nN f tc ps.toList bT body)]) λ_ I=>match aD I (aF ch)with
   |some (.nN _ _ _ _ _)=>k .nm tc (bC I (aF ch) ae)
   |_=>ae
  |_=>ae
 |_=>ae
end
def N0(C:CE)(n:Nat):(ρ:Type)->Nat->Code->(Nat->Bool)->TC->CH->KX ρ->Option ρ:=
 hG (λ_ _ _ _ _ _ _=>ae) (λ_ ih _=>WY C ih) n
def pn C n g A rt x:=
 sr C (N0 C n) g (uB A x) (λ_=>ag) [] λv ch=>CV.dt ch rt v
def Z5 r(v:CV):=match v with|.sy u y=>Ty.cs u r y|_=>ae
def UE(ps:List Ap)(b:Nat):Bool:=eN ag (λw=>w) (bG (a9.ig ps) b)
def asU ps r x v ch:=
 (Z5 r v).bind λy=>(a9.back ch ps x 0).map λz=>(y,z.1)
def Hg C n g ps r x:=
 sr C (N0 C n) g (a9.mk ps x 0).1 (UE ps) (a9.news ps x) (asU ps r x)
end
end
theorem TC.aw8 i:TC.e.get i=.undef:=rfl
theorem TC.gb v l r i:(TC.n v l r).get i=if i=0 then v else if i%2=1 then l.get (i/2)else r.get (i/2-1):=by
 show ke (motive:=λ_=>CV) _ v _=_
 by_cases h:i=0
 .subst h;rfl
 have:al i 0=af:=by rw[<-ji,mr];exact h
 rw[this,ax h];by_cases h2:i%2=1
 .have:al (jI i 2) 1=ag:=by rw[mr];omega
  rw[this,aK h2];rfl
 have:al (jI i 2) 1=af:=by rw[<-ji,mr];omega
 rw[this,ax h2];rfl
theorem TC.pZ v l r i x:(TC.n v l r).set i x=if i=0 then .n x l r else if i%2=1 then .n v (l.set (i/2) x) r else .n v l (r.set (i/2-1) x):=by
 show ke (motive:=λ_=>TC) _ _ _=_
 by_cases h:i=0
 .subst h;rfl
 have:al i 0=af:=by rw[<-ji,mr];exact h
 rw[this,ax h];by_cases h2:i%2=1
 .have:al (jI i 2) 1=ag:=by rw[mr];omega
  rw[this,aK h2];rfl
 have:al (jI i 2) 1=af:=by rw[<-ji,mr];omega
 rw[this,ax h2];rfl
theorem Tm.Ii v l r i:(Tm.n v l r).get i=if i=0 then v else if i%2=1 then l.get (i/2)else r.get (i/2-1):=by
 show ke (motive:=λ_=>V) _ v _=_
 by_cases h:i=0
 .subst h;rfl
 have:al i 0=af:=by rw[<-ji,mr];exact h
 rw[this,ax h];by_cases h2:i%2=1
 .have:al (jI i 2) 1=ag:=by rw[mr];omega
  rw[this,aK h2];rfl
 have:al (jI i 2) 1=af:=by rw[<-ji,mr];omega
 rw[this,ax h2];rfl
theorem Tm.afE v l r i x:(Tm.n v l r).set i x=if i=0 then .n x l r else if i%2=1 then .n v (l.set (i/2) x) r else .n v l (r.set (i/2-1) x):=by
 show ke (motive:=λ_=>Tm) _ _ _=_
 by_cases h:i=0
 .subst h;rfl
 have:al i 0=af:=by rw[<-ji,mr];exact h
 rw[this,ax h];by_cases h2:i%2=1
 .have:al (jI i 2) 1=ag:=by rw[mr];omega
  rw[this,aK h2];rfl
 have:al (jI i 2) 1=af:=by rw[<-ji,mr];omega
 rw[this,ax h2];rfl
theorem TC.ui:∀(t:TC) i j x,i≠j->(t.set i x).get j=t.get j
 |.e,_,_,_,_=>rfl
 |.n v l r,i,j,x,h=>by
  rw[TC.pZ];by_cases hi:i=0<;>try(rw[aK hi,TC.gb,TC.gb];grind;done)
  rw[ax hi];by_cases A:j=0
  .by_cases hm:i%2=1;all_goals simp[hm,TC.gb,A]
  by_cases hm:i%2=1
  .rw [aK hm,TC.gb,TC.gb,ax A,ax A];by_cases I:j%2=1
   .rw [aK I,aK I];exact TC.ui l _ _ x (by omega)
   grind
  rw[ax hm,TC.gb,TC.gb,ax A,ax A];by_cases I:j%2=1
  .grind
  rw[ax I,ax I];exact TC.ui r _ _ x (by omega)
structure Mu where
 b:Nat->Option Nat
 o:Nat->Nat->Option (V×Nat)
def IZ(v:V):=match v with|.own _ _ _ _ _=>ag|.full _=>ag|_=>af
mutual
def VR(M:Mu):CV->V->Prop
 |.undef,_=>True
 |.sy t x,v=>v=.im (t.enc x)
 |.rf t x,v=>v=.im (.ref (t.enc x))
 |.py d,v=>v=.im d
 |.fK,v=>v=.full []
 |.agg w l,v=>∃vs,v=fJ w vs/\aO M l vs/\ib l=ag
 |.aH l,v=>∃vs,v=mM vs/\aO M l vs
 |.own b n,v=>∃s,M.o b n=ab (v,s)/\IZ v=ag
 |.ptr b p,v=>∃c,M.b b=ab c/\v=.ptr c 0 p
 |.el b n i p,v=>∃c g m s,M.o b n=ab (.own c g 0 m af,s)/\v=.ptr c g ((i,i*s)::p)
 |.fn f a c,v=>∃A cs,v=.fn f A cs/\aO M a A/\aO M c cs
 |.iv t l,v=>v=.full (l.map t.enc)
 |.dR b n o k aP,v=>(∃c g m s,M.o b n=ab (.own c g 0 m af,s)/\v=.own c g (o.getD 0) k aP/\o.getD 0+k<=m)∨∃s,M.o b n=ab (.full [],s)/\v=.full []/\k=0
 |.ifc t c,v=>∃u,v=.ifc t u/\VR M c u
 |.mp b,v=>∃c,M.b b=ab c/\v=.mp c
 |.iM j t l,v=>v=.im (.an (l.map λe=>.agg 2 [.int j e.1,t.enc e.2]))
 |.yl b,v=>∃c,M.b b=ab c/\v=.jh c
 |.tl b d p,v=>∃c g i s m,M.o b 0=ab (.own c g 0 m af,s)/\i+d=m/\v=.ptr c g ((i,i*s)::p)
 |.fw t l c,v=>∃u,v=.aH [.full (l.map t.enc),u]/\VR M c u
def aO(M:Mu):List CV->List V->Prop
 |[],vs=>vs=[]
 |v::l,vs=>∃u r,vs=u::r/\VR M v u/\aO M l r
end
structure Mu.le(M N:Mu):Prop where
 b:∀i c,M.b i=ab c->N.b i=ab c
 o:∀i n x,M.o i n=ab x->N.o i n=ab x
theorem Mu.le.refl(M:Mu):M.le M:=⟨λ_ _ h=>h,λ_ _ _ h=>h⟩
theorem Mu.le.trans{M N K:Mu}(h:M.le N)(k:N.le K):M.le K:=⟨λi c e=>k.b i c (h.b i c e),λi n x e=>k.o i n x (h.o i n x e)⟩
mutual
theorem VR.mono{M N:Mu}(h:M.le N):∀(c:CV) (v:V),VR M c v->VR N c v
 |.undef,_,_=>trivial
 |.sy _ _,_,e|.rf _ _,_,e|.py _,_,e|.fK,_,e|.iv _ _,_,e|.iM _ _ _,_,e=>by simpa only[VR]using e
 |.mp _,_,e|.yl _,_,e=>by
  simp only[VR]at e|-;obtain⟨c,e,q⟩:=e;exact⟨c,h.b _ _ e,q⟩
 |.dR _ _ _ _ _,_,e=>by
  simp only[VR]at e|-;exact e.imp (λ⟨c,g,m,s,e,q⟩=>⟨c,g,m,s,h.o _ _ _ e,q⟩) λ⟨s,e,q⟩=>⟨s,h.o _ _ _ e,q⟩
 |.ifc _ c,_,e|.fw _ _ c,_,e=>by
  simp only[VR]at e|-;obtain⟨u,e,r⟩:=e;exact⟨u,e,VR.mono h c u r⟩
 |.tl _ _ _,_,e=>by
  simp only[VR]at e|-;obtain⟨c,g,i,s,m,e,q⟩:=e;exact⟨c,g,i,s,m,h.o _ _ _ e,q⟩
 |.agg _ l,_,e=>by
  simp only[VR]at e|-;obtain⟨vs,e,r,q⟩:=e;exact⟨vs,e,aO.mono h l vs r,q⟩
 |.aH l,_,e=>by
  simp only[VR]at e|-;obtain⟨vs,e,r⟩:=e;exact⟨vs,e,aO.mono h l vs r⟩
 |.own _ _,_,e=>by
  simp only[VR]at e|-;obtain⟨s,e,q⟩:=e;exact⟨s,h.o _ _ _ e,q⟩
 |.ptr _ _,_,e=>by
  simp only[VR]at e|-;obtain⟨c,e,q⟩:=e;exact⟨c,h.b _ _ e,q⟩
 |.el _ _ _ _,_,e=>by
  simp only[VR]at e|-;obtain⟨c,g,m,s,e,q⟩:=e;exact⟨c,g,m,s,h.o _ _ _ e,q⟩
 |.fn _ a c,_,e=>by
  simp only[VR]at e|-;obtain⟨A,cs,e,I,J⟩:=e;exact⟨A,cs,e,aO.mono h a A I,aO.mono h c cs J⟩
theorem aO.mono{M N:Mu}(h:M.le N):∀(l:List CV) (vs:List V),aO M l vs->aO N l vs
 |[],_,e=>by simpa only[aO]using e
 |v::l,_,e=>by
  simp only[aO]at e|-;obtain⟨u,r,e,h1,h2⟩:=e;exact⟨u,r,e,VR.mono h v u h1,aO.mono h l r h2⟩
end
mutual
theorem VR.back{M N:Mu}(h:M.le N):∀(c:CV) (f v:V),VR M c f->VR N c v->VR M c v
 |.undef,_,_,_,_=>trivial
 |.sy _ _,_,_,_,e|.rf _ _,_,_,_,e|.py _,_,_,_,e|.fK,_,_,_,e|.iv _ _,_,_,_,e|.iM _ _ _,_,_,_,e=>by simpa only[VR]using e
 |.mp _,_,_,A,e|.yl _,_,_,A,e=>by
  simp only[VR]at A e|-;obtain⟨c0,A,_⟩:=A;obtain⟨c,e,q⟩:=e;rw[h.b _ _ A]at e;cases e;exact⟨_,A,q⟩
 |.dR _ _ _ _ _,_,_,A,e=>by
  simp only[VR]at A e|-;have key:∀{x y:V×Nat} {i n},M.o i n=ab x->N.o i n=ab y->y=x:=λa b=>by rw[h.o _ _ _ a]at b;cases b;rfl
  rcases A with⟨_,_,_,_,A,_⟩|⟨_,A,_⟩<;>rcases e with⟨c,g,m,s,e,q⟩|⟨s,e,q⟩<;>have:=key A e<;>cases this
  .exact .inl ⟨_,_,_,_,A,q⟩
  exact .inr ⟨_,A,q⟩
 |.ifc _ c,_,_,A,e|.fw _ _ c,_,_,A,e=>by
  simp only[VR]at A e|-;obtain⟨j,_,J⟩:=A;obtain⟨u,e,r⟩:=e;exact⟨u,e,VR.back h c j u J r⟩
 |.tl _ _ _,_,_,A,e=>by
  simp only[VR]at A e|-;obtain⟨_,_,_,_,_,A,_⟩:=A;obtain⟨c,g,i,s,m,e,q⟩:=e;rw[h.o _ _ _ A]at e;cases e;exact⟨_,_,_,_,_,A,q⟩
 |.agg _ l,_,_,A,e=>by
  simp only[VR]at A e|-;obtain⟨I,_,J,_⟩:=A;obtain⟨vs,e,r,q⟩:=e;exact⟨vs,e,aO.back h l I vs J r,q⟩
 |.aH l,_,_,A,e=>by
  simp only[VR]at A e|-;obtain⟨I,_,J⟩:=A;obtain⟨vs,e,r⟩:=e;exact⟨vs,e,aO.back h l I vs J r⟩
 |.own _ _,_,_,A,e=>by
  simp only[VR]at A e|-;obtain⟨B,A,_⟩:=A;obtain⟨s,e,q⟩:=e;rw[h.o _ _ _ A]at e;cases e;exact⟨_,A,q⟩
 |.ptr _ _,_,_,A,e=>by
  simp only[VR]at A e|-;obtain⟨c0,A,_⟩:=A;obtain⟨c,e,q⟩:=e;rw[h.b _ _ A]at e;cases e;exact⟨_,A,q⟩
 |.el _ _ _ _,_,_,A,e=>by
  simp only[VR]at A e|-;obtain⟨_,_,_,_,A,_⟩:=A;obtain⟨c,g,m,s,e,q⟩:=e;rw[h.o _ _ _ A]at e;cases e;exact⟨_,_,_,_,A,q⟩
 |.fn _ a c,_,_,A,e=>by
  simp only[VR]at A e|-;obtain⟨U,Z,_,p,t⟩:=A;obtain⟨d,cs,e,w,z⟩:=e;exact⟨d,cs,e,aO.back h a U d p w,aO.back h c Z cs t z⟩
theorem aO.back{M N:Mu}(h:M.le N):∀(l:List CV) (A vs:List V),aO M l A->aO N l vs->aO M l vs
 |[],_,_,_,e=>by simpa only[aO]using e
 |v::l,_,_,I,e=>by
  simp only[aO]at I e|-;obtain⟨J,U,_,Z,a⟩:=I;obtain⟨u,r,e,h1,h2⟩:=e;exact⟨u,r,e,VR.back h v J u Z h1,aO.back h l U r a h2⟩
end
def bF(M:Mu):TC->Tm->Prop
 |.e,.e=>True
 |.n v l r,.n u A I=>VR M v u/\bF M l A/\bF M r I
 |_,_=>False
theorem bF.mono{M N:Mu}(h:M.le N):∀{t:TC} {u:Tm},bF M t u->bF N t u
 |.e,.e,_=>trivial
 |.n _ _ _,.n _ _ _,⟨h1,h2,A⟩=>⟨h1.mono h _ _,h2.mono h,A.mono h⟩
theorem bF.get{M:Mu}:∀{t:TC} {u:Tm},bF M t u->∀i,VR M (t.get i) (u.get i)
 |.e,.e,_,i=>trivial
 |.n _ _ _,.n _ _ _,⟨h1,h2,A⟩,i=>by
  rw[TC.gb,Tm.Ii];split
  .omega
  grind[h2.get,A.get]
theorem bF.set{M:Mu}{x:CV}{y:V}(A:VR M x y):∀{t:TC} {u:Tm},bF M t u->∀i,bF M (t.set i x) (u.set i y)
 |.e,.e,_,i=>trivial
 |.n _ _ _,.n _ _ _,⟨h1,h2,I⟩,i=>by
  rw[TC.pZ,Tm.afE];split<;>try trivial
  split
  .exact ⟨h1,h2.set A _,I⟩
  exact⟨h1,h2,I.set A _⟩
theorem bF.mk M:∀d,bF M (TC.mk d) (Tm.mk d)
 |0=>trivial
 |d+1=>⟨trivial,bF.mk M d,bF.mk M d⟩
theorem bF.back{M N:Mu}(h:M.le N):∀{t:TC} {A u:Tm},bF M t A->bF N t u->bF M t u
 |.e,.e,.e,_,_=>trivial
 |.n _ _ _,.n _ _ _,.n _ _ _,⟨I,J,U⟩,⟨Z,a,b⟩=>⟨I.back h _ _ _ Z,J.back h a,U.back h b⟩
 |.e,.e,.n _ _ _,_,q|.n _ _ _,.n _ _ _,.e,_,q|.e,.n _ _ _,_,q,_|.n _ _ _,.e,_,q,_=>by cases q
def hY(j:IntKind)(t:Ty)(l:List (Int×t.den)):List (D×V):=l.map λe=>(.int j e.1,.im (t.enc e.2))
def XR(M:Mu)(h:Heap)(b:Nat):CB->Prop
 |.cell _|.arr _ _ _ _=>True
 |.mO j t l=>∃c,M.b b=ab c/\ar h c=ab (.mp (hY j t l))
 |.nN f tc ps bT body=>∃c t,M.b b=ab c/\ar h c=ab (.lp f t ps bT body)/\bF M tc t
 |.hole=>∃c,M.b b=ab c/\ar h c=ae
 |.cC t l vs=>∃c g A,M.b b=ab c/\M.o b 0=ab (.own c g 0 (l.length+vs.length) af,t.wd)/\ar h c=ab (.cG g t.wd ((l.map λx=>V.im (t.enc x))++A))/\aO M vs A
theorem XR.step{M M':Mu}{h h':Heap}{b:Nat}(A:M.le M')(I:∀c,M.b b=ab c->ar h' c=ar h c):∀{x:CB},XR M h b x->XR M' h' b x
 |.cell _,_|.arr _ _ _ _,_=>trivial
 |.mO _ _ _,⟨c,h1,h2⟩=>⟨c,A.b _ _ h1,(I c h1).trans h2⟩
 |.nN _ _ _ _ _,⟨c,t,h1,h2,J⟩=>⟨c,t,A.b _ _ h1,(I c h1).trans h2,J.mono A⟩
 |.hole,⟨c,h1,h2⟩=>⟨c,A.b _ _ h1,(I c h1).trans h2⟩
 |.cC _ _ _,⟨c,g,U,h1,h2,J,Z⟩=>⟨c,g,U,A.b _ _ h1,A.o _ _ _ h2,(I c h1).trans J,aO.mono A _ _ Z⟩
theorem XR.back{M M':Mu}{h h':Heap}{b:Nat}(A:M.le M'):∀{x:CB},XR M h b x->XR M' h' b x->XR M h' b x
 |.cell _,_,_|.arr _ _ _ _,_,_=>trivial
 |.mO _ _ _,⟨c,h1,_⟩,⟨I,k1,k2⟩=>by
  rw[A.b _ _ h1]at k1;cases k1;exact⟨c,h1,k2⟩
 |.nN _ _ _ _ _,⟨c,t,h1,_,Z⟩,⟨I,a,k1,k2,J⟩=>by
  rw[A.b _ _ h1]at k1;cases k1;exact⟨c,a,h1,k2,Z.back A J⟩
 |.hole,⟨c,h1,_⟩,⟨I,k1,k2⟩=>by
  rw[A.b _ _ h1]at k1;cases k1;exact⟨c,h1,k2⟩
 |.cC _ _ _,⟨c,g,f,h1,h2,_,d⟩,⟨I,i,U,k1,k2,J,e⟩=>by
  rw[A.o _ _ _ h2]at k2;cases k2;exact⟨c,g,U,h1,h2,J,aO.back A _ _ _ d e⟩
structure HS(M:Mu)(ch:CH)(h:Heap):Prop where
 cell:∀b cv,aD ch b=ab (.cell cv)->∃c v,M.b b=ab c/\ar h c=ab (.cell v)/\VR M cv v
 arr:∀b n cl t l,aD ch b=ab (.arr n cl t l)->∃u,M.o b n=ab (u,t.wd)/\
  ((u=.full []/\l=[]/\M.b b=ae)∨∃c g ro,M.b b=ab c/\u=.own c g 0 l.length af/\ar h c=ab (.arr g t.wd ro (l.map t.enc))/\(cl=af->ro=0)/\ro<=l.length)
 inj:∀b b' c,aD ch b≠ae->aD ch b'≠ae->M.b b=ab c->M.b b'=ab c->b=b'
 new:∀b n cl t l,aD ch b=ab (.arr n cl t l)->∀m,n< m->M.o b m=ae
 len:∀b c,M.b b=ab c->b< ch.length/\c< h.length
 gw:∀b n x,M.o b n=ab x->b< ch.length
 xr:∀b x,aD ch b=ab x->XR M h b x
structure Fr(wb:Nat->Bool)(M:Mu)(ch:CH)(h:Heap)(M':Mu)(ba:CH)(h':Heap):Prop where
 le:M.le M'
 lc:ch.length<=ba.length
 lh:h.length<=h'.length
 keep:∀b,b< ch.length->wb b=af->aD ba b=aD ch b
 nb:∀b c,M'.b b=ab c->(∃b0,M.b b0=ab c)∨h.length<=c
 out:∀c,c< h.length->(∀b,M.b b≠ab c)->ar h' c=ar h c
theorem lA{M:Mu}{n:Nat}:∀b c,M.b b=ab c->(∃b0,M.b b0=ab c)∨n<=c:=λb _ e=>.inl ⟨b,e⟩
theorem D6{M:Mu}{n m:Nat}:∀b c,(if b=n then ab m else M.b b)=ab c->(∃b0,M.b b0=ab c)∨m<=c:=λb c e=>by
 grind
theorem AE{h:Heap}{x:cj}{p:Nat->Prop}:∀c,c< h.length->p c->ar (aI h h.length x) c=ar h c:=λc A _=>by
 rw[bR _ _ _ _ (aL _),ax (by omega)]
theorem uO{M:Mu}{h:Heap}{x:cj}{b d:Nat}(I:M.b b=ab d)(A:d< h.length):∀c,c< h.length->(∀b,M.b b≠ab c)->ar (aI h d x) c=ar h c:=λc J U=>by
 rw[bR _ _ _ _ (dj A),ax (by grind)]
theorem Fr.refl wb M ch h:Fr wb M ch h M ch h:=⟨.refl M,aL _,aL _,λ_ _ _=>rfl,lA,λ_ _ _=>rfl⟩
theorem Fr.trans{wb:Nat->Bool}{M M' I:Mu}{ch ba A:CH}{h h' J:Heap}(a:Fr wb M ch h M' ba h')(b:Fr wb M' ba h' I A J):Fr wb M ch h I A J:=
 ⟨a.le.trans b.le,b8 a.lc b.lc,b8 a.lh b.lh,λi hi hw=>(b.keep i (fY hi a.lc) hw).trans (a.keep i hi hw),
  λi c e=>(b.nb i c e).elim (λ⟨j,U⟩=>a.nb j c U) λq=>.inr (b8 a.lh q),
  λc Z d=>(b.out c (fY Z a.lh) λi e=>(a.nb i c e).elim (λ⟨j,U⟩=>d j U) λq=>absurd Z (Nat.not_lt.2 q)).trans (a.out c Z d)⟩
def OS{ρ:Type} wb M ch h(m:R)(k:KC ρ) r:=
 ∃v h' cv ba M',m=ab (v,h')/\VR M' cv v/\HS M' ba h'/\Fr wb M ch h M' ba h'/\k cv ba=ab r
section
variable {ρ:Type} {wb:Nat->Bool} {M:Mu} {ch:CH} {h:Heap} {k:KC ρ} {r:ρ}
theorem OS.plain(A:HS M ch h){v:V}{cv:CV}(I:VR M cv v)(e:k cv ch=ab r):OS wb M ch h (ab (v,h)) k r:=
 ⟨v,h,cv,ch,M,rfl,I,A,.refl ..,e⟩
theorem fy{ch:CH}{b:Nat}{x:CB}(h:aD ch b=ab x):b< ch.length:=by
 unfold aD at h;grind[cu]
theorem de ch x b:aD (ch++[ab x]) b=if b=ch.length then ab x else aD ch b:=by
 grind[aD,cu]
theorem gp ch x b i(A:b< ch.length):aD (cW ch b x) i=if i=b then ab x else aD ch i:=by
 grind[aD,cW,cu,eO]
theorem e9 ch x b:(cW ch b x).length=ch.length:=by simp[cW]
theorem HS.rK(A:HS M ch h):M.b ch.length=ae:=by
 cases e:M.b _<;>first|exact absurd (A.len _ _ e).1 (gE _)|rfl
theorem HS.Gu(A:HS M ch h) n:M.o ch.length n=ae:=by
 cases e:M.o _ n<;>first|exact absurd (A.gw _ _ _ e) (gE _)|rfl
theorem HS.acg(A:HS M ch h){cv:CV}{v:V}(z:VR M cv v):let M':=⟨λi=>if i=ch.length then ab h.length else M.b i,M.o⟩;M.le M'/\HS M' (ch++[ab (.cell cv)]) (aI h h.length (.cell v)):=by
 intro M';have I:M.le M':=⟨λi c e=>by
  show(if i=ch.length then ab _ else M.b i)=ab c;rw[ax (by grind[A.rK])];exact e,λ_ _ _ e=>e⟩
 have j:∀c,c< h.length->ar (aI h _ (.cell v)) c=ar h c:=λc K=>by rw[bR _ _ _ _ (aL _),ax (by omega)]
 have J:∀b,b≠ch.length->M'.b b=M.b b:=λb J=>ax J
 refine⟨I,⟨λb c e=>?_,λb n cl t l e=>?_,λb b' c w y U Z=>?_,λb n cl t l e=>?_,λb c e=>?_,λb n x e=>?_,λb x e=>?_⟩⟩
 .rw [de]at e;split at e
  .rename_i m;cases e;exact⟨h.length,v,aK m,by rw[bR _ _ _ _ (aL _),aK rfl],z.mono I _ _⟩
  obtain⟨B,D,h1,h2,F⟩:=A.cell b c e;exact⟨B,D,I.b _ _ h1,by rw[j _ (A.len _ _ h1).2];omega,F.mono I _ _⟩
 .rw [de]at e;split at e
  .cases e
  obtain⟨u,h1,h2⟩:=A.arr b n cl t l e;refine⟨u,h1,h2.imp (λ⟨d,s,G⟩=>⟨d,s,by grind⟩) λ⟨c,g,ro,d,s,G,H⟩=>⟨c,g,ro,I.b _ _ d,s,by rw[j _ (A.len _ _ d).2];omega,H⟩⟩
 .by_cases f:b=ch.length
  .by_cases a:b'=ch.length<;>try grind
   rw[J b' a]at Z;have:M'.b b=ab _:=aK f;rw[this]at U;cases U;exact absurd (A.len _ _ Z).2 (gE _)
  by_cases a:b'=ch.length
  .rw [J b f]at U;have:M'.b b'=ab _:=aK a;rw[this]at Z;cases Z;exact absurd (A.len _ _ U).2 (gE _)
  rw[J b f]at U;rw[J b' a]at Z;rw[de,ax f]at w;rw[de,ax a]at y;exact A.inj b b' c w y U Z
 .rw [de]at e;split at e<;>try grind
  exact A.new b n cl t l e
 .rw [b9,ax (gE _),dH];by_cases p:b=ch.length
  .grind
  rw[J b p]at e;have:=A.len b c e;omega
 .have:=A.gw b n x e;grind
 rw[de]at e;split at e
 .cases e;trivial
 exact(A.xr b x e).step I λc q=>j c (A.len _ _ q).2
theorem HS.asa(A:HS M ch h) t l g cl ro(w:cl=af->ro=0)(f:ro<=l.length):let M':=⟨λi=>if i=ch.length then ab h.length else M.b i,λi n=>if i=ch.length/\n=0 then ab (.own h.length g 0 l.length af,t.wd)else M.o i n⟩
  M.le M'/\HS M' (ch++[ab (.arr 0 cl t l)]) (aI h h.length (.arr g t.wd ro (l.map t.enc))):=by
 intro M';have J:∀b,b≠ch.length->M'.b b=M.b b:=λb J=>ax J
 have y:∀b n,b≠ch.length->M'.o b n=M.o b n:=λb n J=>ax λq=>J q.1
 have I:M.le M':=⟨λi c e=>by
  rw[J i (by grind[A.rK])];exact e,λi n x e=>by
  rw[y i n (by grind[A.Gu])];exact e⟩
 have z:∀c,c< h.length->ar (aI h h.length (.arr g t.wd ro (l.map t.enc))) c=ar h c:=λc R=>by rw[bR _ _ _ _ (aL _),ax (by omega)]
 refine⟨I,⟨λb c e=>?_,λb n Z B D e=>?_,λb b' c H K a d=>?_,λb n Z B D e m hm=>?_,λb c e=>?_,λb n x e=>?_,λb x e=>?_⟩⟩
 .rw [de]at e;split at e<;>try grind
  obtain⟨L,N,h1,h2,O⟩:=A.cell b c e;exact⟨L,N,I.b _ _ h1,by rw[z _ (A.len _ _ h1).2];omega,O.mono I _ _⟩
 .rw [de]at e;split at e
  .rename_i U;cases e;exact⟨_,aK ⟨U,rfl⟩,.inr ⟨h.length,g,ro,aK U,rfl,by rw[bR _ _ _ _ (aL _),aK rfl],w,f⟩⟩
  obtain⟨u,h1,h2⟩:=A.arr b n Z B D e;refine⟨u,I.o _ _ _ h1,h2.imp (λ⟨s,F,P⟩=>⟨s,F,by grind⟩) λ⟨c,g,ro,s,F,P,Q⟩=>⟨c,g,ro,I.b _ _ s,F,by rw[z _ (A.len _ _ s).2];omega,Q⟩⟩
 .by_cases v:b=ch.length
  .by_cases j:b'=ch.length<;>try grind
   rw[J b' j]at d;have:M'.b b=ab h.length:=aK v;rw[this]at a;cases a;exact absurd (A.len _ _ d).2 (gE _)
  by_cases j:b'=ch.length
  .rw [J b v]at a;have:M'.b b'=ab h.length:=aK j;rw[this]at d;cases d;exact absurd (A.len _ _ a).2 (gE _)
  rw[J b v]at a;rw[J b' j]at d;rw[de,ax v]at H;rw[de,ax j]at K;exact A.inj b b' c H K a d
 .rw [de]at e;split at e
  .rename_i U;show(if b=ch.length/\m=0 then _ else M.o b m)=ae;rw[ax (by omega),U];exact A.Gu m
  rename_i G;rw[y b m G];exact A.new b n Z B D e m hm
 .rw [b9,ax (gE _),dH];by_cases p:b=ch.length
  .grind
  rw[J b p]at e;have:=A.len b c e;omega
 .rw [dH];by_cases p:b=ch.length<;>try grind
  rw[y b n p]at e;have:=A.gw b n x e;omega
 rw[de]at e;split at e
 .cases e;trivial
 exact(A.xr b x e).step I λc q=>z c (A.len _ _ q).2
theorem HS.sx(A:HS M ch h) t l g:let M':=⟨λi=>if i=ch.length then ab h.length else M.b i,λi n=>if i=ch.length/\n=0 then ab (.own h.length g 0 l.length af,t.wd)else M.o i n⟩
  M.le M'/\HS M' (ch++[ab (.arr 0 af t l)]) (aI h h.length (.arr g t.wd 0 (l.map t.enc))):=A.asa t l g _ 0 (λ_=>rfl) (bH _)
theorem HS.ach(I:HS M ch h){cv:CV}{v:V}(y:VR M cv v){c:Nat}(a:c<=h.length)(hf:∀b,M.b b≠ab c):let M':=⟨λi=>if i=ch.length then ab c else M.b i,M.o⟩;M.le M'/\HS M' (ch++[ab (.cell cv)]) (aI h c (.cell v)):=by
 intro M';have A:M.le M':=⟨λi U e=>by
  show(if i=ch.length then ab c else M.b i)=ab U;rw[ax (by grind[I.rK])];exact e,λ_ _ _ e=>e⟩
 have z:∀d,d≠c->ar (aI h c (.cell v)) d=ar h d:=λd B=>by simp[bR,a,B]
 have J:∀b,b≠ch.length->M'.b b=M.b b:=λb J=>ax J
 have H:h.length<=(aI h c (.cell v)).length/\c<(aI h c (.cell v)).length:=by grind[b9]
 refine⟨A,⟨λb D e=>?_,λb n cl t l e=>?_,λb b' d f g j m=>?_,λb n cl t l e=>?_,λb d e=>?_,λb n x e=>?_,λb x e=>?_⟩⟩
 .rw [de]at e;split at e
  .rename_i Z;cases e;exact⟨c,v,aK Z,by rw[bR _ _ _ _ a,aK rfl],y.mono A _ _⟩
  obtain⟨U,F,h1,h2,G⟩:=I.cell b _ e;exact⟨U,F,A.b _ _ h1,by grind,G.mono A _ _⟩
 .rw [de]at e;split at e<;>try grind
  obtain⟨u,h1,h2⟩:=I.arr b n cl t l e;grind
 .by_cases s:b=ch.length<;>try grind
  by_cases w:b'=ch.length
  .grind
  rw[J b s]at j;rw[J b' w]at m;rw[de,ax s]at f;rw[de,ax w]at g;exact I.inj b b' d f g j m
 .rw [de]at e;split at e<;>try grind
  exact I.new b n cl t l e
 .rw [dH];by_cases p:b=ch.length
  .grind
  rw[J b p]at e;have:=I.len b d e;omega
 .have:=I.gw b n x e;grind
 rw[de]at e;split at e
 .cases e;trivial
 exact(I.xr b x e).step A λc q=>z c λp=>hf b (p▸q)
theorem HS.ar9(A:HS M ch h)(t:Ty)(l:List t.den)(g:Nat){c:Nat}(s:c<=h.length)(hf:∀b,M.b b≠ab c):let M':Mu:=⟨λi=>if i=ch.length then ab c else M.b i,λi n=>if i=ch.length/\n=0 then ab (.own c g 0 l.length af,t.wd)else M.o i n⟩
  M.le M'/\HS M' (ch++[ab (.arr 0 af t l)]) (aI h c (.arr g t.wd 0 (l.map t.enc))):=by
 intro M';have U:∀b,b≠ch.length->M'.b b=M.b b:=λb U=>ax U
 have a:∀b n,b≠ch.length->M'.o b n=M.o b n:=λb n U=>ax λq=>U q.1
 have I:M.le M':=⟨λi c e=>by
  rw[U i (by grind[A.rK])];exact e,λi n x e=>by
  rw[a i n (by grind[A.Gu])];exact e⟩
 have F:∀d,d≠c->ar (aI h c (.arr g t.wd 0 (l.map t.enc))) d=ar h d:=λd G=>by simp[bR,s,ax,G]
 have N:h.length<=(aI h c (.arr g t.wd 0 (l.map t.enc))).length/\c<(aI h c (.arr g t.wd 0 (l.map t.enc))).length:=by grind[b9]
 refine⟨I,⟨λb cv e=>?_,λb n cl f j e=>?_,λb b' d v w y z=>?_,λb n cl f j e m hm=>?_,λb d e=>?_,λb n x e=>?_,λb x e=>?_⟩⟩
 .rw [de]at e;split at e<;>try grind
  obtain⟨H,K,h1,h2,L⟩:=A.cell b cv e;exact⟨H,K,I.b _ _ h1,by grind,L.mono I _ _⟩
 .rw [de]at e;split at e
  .rename_i J;cases e;exact⟨_,aK ⟨J,rfl⟩,.inr ⟨c,g,0,aK J,rfl,by rw[bR _ _ _ _ s,aK rfl],λ_=>rfl,bH _⟩⟩
  rename_i Z;obtain⟨u,h1,h2⟩:=A.arr b n cl f j e;grind
 .by_cases B:b=ch.length<;>try grind
  by_cases D:b'=ch.length
  .grind
  rw[U b B]at y;rw[U b' D]at z;rw[de,ax B]at v;rw[de,ax D]at w;exact A.inj b b' d v w y z
 .rw [de]at e;split at e
  .rename_i J;cases e;show(if b=ch.length/\m=0 then _ else M.o b m)=ae;rw[ax (by omega),J];exact A.Gu m
  rename_i Z;rw[a b m Z];exact A.new b n cl f j e m hm
 .rw [dH];by_cases p:b=ch.length
  .grind
  rw[U b p]at e;have:=A.len b d e;omega
 .rw [dH];by_cases p:b=ch.length<;>try grind
  rw[a b n p]at e;have:=A.gw b n x e;omega
 rw[de]at e;split at e
 .cases e;trivial
 exact(A.xr b x e).step I λc q=>F c λp=>hf b (p▸q)
theorem HS.pad(A:HS M ch h) n:HS M ch (h++bP n ae):=by
 have I:∀c,c< h.length->ar (h++bP n ae) c=ar h c:=λc J=>by
  simp[cy,List.getElem?_append_left,J]
 have U:=λb c e=>(A.len b c e).2
 refine⟨λb cv e=>?_,λb n cl t l e=>?_,A.inj,A.new,λb c e=>⟨(A.len b c e).1,by grind⟩,A.gw,λb x e=>(A.xr b x e).step (.refl M) λc q=>I c (U b c q)⟩
 .obtain ⟨c,v,h1,h2,Z⟩:=A.cell b cv e;grind
 obtain⟨u,h1,h2⟩:=A.arr b n cl t l e;grind
end
section
variable [Gh]
variable {M:Mu}
theorem oA:∀(t:Ty) (x:t.den),(t.enc x).wd=t.wd
 |.bool,_|.int _,_|.str,_|.an _,_|.st _ _,_|.aH _,_|.nl,_|.cn _ _,_|.jS,_=>by rfl
 |.err,[]|.err,_::_=>rfl
theorem DU:∀(l:Ty) (x:l.den),aO M (uB l x) ((l.dY x).map V.im)
 |.cn t l,x=>by
  exact⟨_,_,rfl,rfl,DU l x.2⟩
 |.bool,_|.int _,_|.str,_|.an _,_|.st _ _,_|.aH _,_|.nl,_|.jS,_|.err,_=>by rfl
theorem abn:∀(l:Ty) (x:l.den),ib (uB l x)=ag
 |.cn t l,x=>by
  have:=abn l x.2;trivial
 |.bool,_|.int _,_|.str,_|.an _,_|.st _ _,_|.aH _,_|.nl,_|.jS,_|.err,_=>by rfl
theorem V6(ds:List D):ga (ds.map V.im)=ab ds:=by
 induction ds with
 |nil=>rfl
 |cons d ds ih=>show(eN ae (λr=>ab (d::r)) (ga (ds.map V.im)):Option (List D))=_;rw[ih]
theorem Rr(w:Nat)(ds:List D):fJ w (ds.map V.im)=.im (.agg w ds):=by simp[fJ,V6]
theorem abT(ds:List D):mM (ds.map V.im)=.im (.aH ds):=by simp[mM,V6]
theorem abp(w:Nat)(vs:List V):V.kids (fJ w vs)=ab vs:=by
 unfold fJ;cases h:ga vs<;>first|rename_i ds;show ab (mJ ds)=_;rw[oG,<-tL h]|rfl
theorem Np:∀{l:List CV} {r:TX},rT l=ab r->∀{vs:List V},aO M l vs->vs=(r.t.dY r.x).map V.im
 |[],r,e,vs,h=>by cases e;trivial
 |v::l,r,e,vs,h=>by
  obtain⟨u,I,rfl,h1,h2⟩:=h;cases v with
  |sy t x=>
   have e:(eN ae (λr=>ab (⟨.cn t r.t,(x,r.x)⟩)) (rT l))=ab r:=e
   cases A:rT l with
   |none=>simp_all
   |some q=>
    rw[A]at e;cases e;rw[Ty.dY,mo,h1,<-Np A h2]
  |_=>cases e
theorem VR.l5{w:Nat}{l:List CV}{vs:List V}(h:aO M l vs)(A:ib l=ag):VR M (l5 w l) (fJ w vs):=by
 unfold Go.As.l5;cases e:rT l with
 |none=>exact⟨vs,rfl,h,A⟩
 |some r=>
  rw[Np e h,Rr];rfl
theorem VR.sw{l:List CV}{vs:List V}(h:aO M l vs):VR M (sw l) (mM vs):=by
 unfold Go.As.sw;cases e:rT l with
 |none=>exact⟨vs,rfl,h⟩
 |some r=>
  rw[Np e h,abT];rfl
theorem VR.kids{v:CV}{u:V}{l:List CV}(h:VR M v u)(e:v.kids=ab l):∃A,u.kids=ab A/\aO M l A/\ib l=ag:=by
 cases v with
 |sy t x=>cases t with
  |st w I=>
   cases e;subst h;refine⟨_,rfl,?_,abn ..⟩;rw[oG];exact DU I x
  |_=>cases e
 |agg w I=>
  cases e;obtain⟨vs,rfl,h,J⟩:=h;exact⟨vs,abp w vs,h,J⟩
 |_=>cases e
theorem VR.wd{v:CV}{u:V}(h:VR M v u)(A:gq v=af):v.wd=u.wd:=by
 cases v with
 |undef=>cases A
 |sy t x=>subst h;exact(oA t x).symm
 |rf t x=>subst h;rfl
 |py d=>subst h;rfl
 |fK=>subst h;rfl
 |agg w l=>obtain⟨vs,rfl,_⟩:=h;exact(Rs w vs).symm
 |aH l=>
  obtain⟨vs,rfl,_⟩:=h;unfold mM;cases ga vs<;>rfl
 |own b n=>obtain⟨_,_,h⟩:=h;cases u<;>first|rfl|cases h
 |ptr b p=>obtain⟨_,_,rfl⟩:=h;rfl
 |el b n i p=>obtain⟨_,_,_,_,_,rfl⟩:=h;rfl
 |fn f a c=>obtain⟨_,_,rfl,_⟩:=h;rfl
 |iv t l=>subst h;rfl
 |dR b n o k aP=>rcases h with⟨_,_,_,_,_,rfl,_⟩|⟨_,_,rfl,_⟩<;>rfl
 |ifc t c=>obtain⟨_,rfl,_⟩:=h;rfl
 |mp b=>obtain⟨_,_,rfl⟩:=h;rfl
 |yl b=>obtain⟨_,_,rfl⟩:=h;rfl
 |iM j t l=>subst h;rfl
 |tl b d p=>obtain⟨_,_,_,_,_,_,_,rfl⟩:=h;rfl
 |fw t l c=>obtain⟨_,rfl,_⟩:=h;rfl
theorem L6:∀{l:List CV} {A:List V},aO M l A->ib l=ag->∀k,va l k=iU A k
 |[],A,h,_,k=>by subst h;rfl
 |v::l,A,h,I,k=>by
  obtain⟨u,r,rfl,h1,h2⟩:=h;simp only[ib,vp,aM,yi]at I;cases k<;>first|rename_i k;show v.wd+va l k=u.wd+iU r k;rw[h1.wd I.1,L6 h2 I.2 k]|rfl
theorem aO.get:∀{l:List CV} {A:List V},aO M l A->∀{i:Nat} {v:CV},l[i]? =ab v->∃u,A[i]? =ab u/\VR M v u
 |[],A,_,i,v,e=>by trivial
 |w::l,A,h,i,v,e=>by
  obtain⟨u,r,rfl,h1,h2⟩:=h;cases i with
  |zero=>grind
  |succ i=>simpa using aO.get h2 (by trivial)
theorem aO.set:∀{l:List CV} {A:List V},aO M l A->∀(i:Nat) {v:CV} {u:V},VR M v u->aO M (l.set i v) (A.set i u)
 |[],A,h,i,v,u,_=>by grind[aO]
 |w::l,A,h,i,v,u,I=>by
  obtain⟨J,r,rfl,h1,h2⟩:=h;cases i with
  |zero=>simp[List.set_cons_zero,aO];grind
  |succ i=>exact⟨J,_,rfl,h1,aO.set h2 i I⟩
theorem aO.Ru{N:Mu}{l:List CV}{I:List V}(h:aO M l I)(A:M.le N):aO N l I:=aO.mono A _ _ h
theorem aO.length:∀{l:List CV} {A:List V},aO M l A->l.length=A.length
 |[],A,h=>by grind[aO]
 |w::l,A,h=>by
  obtain⟨I,r,rfl,h1,h2⟩:=h;simp[aO.length h2]
theorem acx{l:List CV}(h:ib l=ag)(i:Nat){v:CV}(A:gq v=af):ib (l.set i v)=ag:=by
 simp[ib]at h|-;grind
theorem acw{l:List CV}(h:ib l=ag){i:Nat}{v:CV}(e:l[i]? =ab v):gq v=af:=by
 simp[ib,lI]at h;grind
theorem abm(v:V)(k o:Nat):V.eF v k o=v.kids.bind λl=>bif al (iU l k) o then bG l k else ae:=by
 cases v with
 |im d=>cases d with
  |agg w l=>
   show(bif al (FW l k) o then(bG l k).map V.im else ae)=(ab (mJ l)).bind _;simp[ah,oG,agF,cu,pb]
  |_=>rfl
 |agg w l|_=>rfl
theorem VR.eF{v c:CV}{u:V}{k o:Nat}(h:VR M v u)(e:v.eF k o=ab c):∃x,u.eF k o=ab x/\VR M c x/\gq c=af:=by
 obtain⟨l,I,e⟩:=ay.1 e;obtain⟨a,h1,h2,A⟩:=h.kids I;rw[abm,h1,ah,<-L6 h2 A k];cases J:al (va l k) o with
 |false=>grind
 |true=>
  rw[J,cu]at e;rw[cu];obtain⟨x,U,Z⟩:=h2.get e;exact⟨x,U,Z,acw A e⟩
theorem VR.eZ:∀{p:List (Nat×Nat)} {v c:CV} {u:V},VR M v u->v.eZ p=ab c->gq v=af->∃x,u.eZ p=ab x/\VR M c x/\gq c=af
 |[],v,c,u,h,e,A=>by cases e;exact⟨u,rfl,h,A⟩
 |s::p,v,c,u,h,e,_=>by
  obtain⟨y,h1,h2⟩:=ay.1 e;obtain⟨x,Z,I,J⟩:=h.eF h1;obtain⟨z,a,U⟩:=VR.eZ I h2 J;refine⟨z,?_,U⟩;show(V.eF u s.1 s.2).bind (λv=>V.eZ v p)=ab z
  grind
theorem abS(w:Nat)(l:List CV):gq (l5 w l)=af:=by unfold l5;cases rT l<;>rfl
theorem VR.put{x:CV}{y:V}(J:VR M x y)(A:gq x=af):∀{p:List (Nat×Nat)} {v c:CV} {u:V},VR M v u->CV.put x p v=ab c->∃z,V.put y p u=ab z/\VR M c z/\gq c=af
 |[],v,c,u,h,e=>by
  have e:(bif al x.wd v.wd&&not (gq v)then ab x else ae)=ab c:=e;cases I:al x.wd v.wd&&not (gq v)with
  |false=>grind
  |true=>
   rw[I]at e;cases e;refine⟨y,?_,J,A⟩;show(bif al y.wd u.wd then ab y else ae)=ab y;simp_all[J.wd,A,h.wd,I,ao]
 |s::p,v,c,u,h,e=>by
  have a:gq v=af:=by cases v<;>first|rfl|cases e
  obtain⟨l,b,e⟩:=ay.1 e;obtain⟨d,h1,h2,Z⟩:=h.kids b;cases I:al (va l s.1) s.2 with
  |false=>grind
  |true=>
   rw[I,cu]at e;obtain⟨q,f,e⟩:=ay.1 e;obtain⟨k1,U,e⟩:=Option.map_eq_some_iff.1 e;subst e;obtain⟨t,g,i⟩:=h2.get f;obtain⟨z,j,m,n⟩:=VR.put J A i U;refine⟨fJ u.wd (d.set s.1 z),?_,?_,abS ..⟩
   .show (u.kids.bind λl=>bif al (iU l s.1) s.2 then(bG l s.1).bind λc=>(V.put y p c).map λo=>fJ u.wd (bC l s.1 o)else ae)=_
    rw[h1,ah,<-L6 h2 Z,I,ao,cu,g,ah,j,jJ,eO]
   .rw [h.wd a,eO];exact VR.l5 (h2.set _ m) (acx Z _ n)
theorem VR.norm{v:CV}{u:V}{l:List CV}(h:VR M v u)(e:v.kids=ab l):∃A,u=fJ u.wd A/\u.kids=ab A:=by
 cases v with
 |sy t x=>cases t with
  |st w I=>
   subst h;refine⟨(I.dY x).map V.im,by rw[Rr];rfl,?_⟩
   show ab (mJ _)=_;simp
  |_=>cases e
 |agg w I=>
  obtain⟨vs,rfl,_⟩:=h;exact⟨vs,by rw[Rs],abp w vs⟩
 |_=>cases e
theorem ad1:∀{p:List (Nat×Nat)} {w c:CV} {z y:V},VR M w z->w.eZ p=ab c->z.eZ p=ab y->V.put y p z=ab z
 |[],w,c,z,y,_,_,e=>by
  cases e;show(bif al z.wd z.wd then ab z else ae)=ab z;simp
 |s::p,w,c,z,y,h,J,e=>by
  obtain⟨n,I,J⟩:=ay.1 J;obtain⟨x,A,b,_⟩:=h.eF I;have e:(V.eF z s.1 s.2).bind (λv=>V.eZ v p)=ab y:=e
  rw[A]at e;have ih:=ad1 b J e;have d:∃l,w.kids=ab l:=by
   obtain⟨l,U,_⟩:=ay.1 I;exact⟨l,U⟩
  obtain⟨l,U⟩:=d;obtain⟨Z,f,a⟩:=h.norm U;rw[abm,a,ah]at A;show(z.kids.bind λl=>bif al (iU l s.1) s.2 then(bG l s.1).bind λc=>(V.put y p c).map λg=>fJ z.wd (bC l s.1 g)else ae)=_
  rw[a,ah];cases i:al (iU Z s.1) s.2 with
  |false=>grind
  |true=>
   rw[i,ao]at A;rw[ao,A,ah,ih,jJ,eO];rw[cu]at A;have:Z.set s.1 x=Z:=by
    obtain⟨j,m⟩:=List.getElem?_eq_some_iff.1 A;rw[<-m];simp
   rw[this,<-f]
theorem VR.part{v c:CV}{u:V}{i:Nat}(h:VR M v u)(e:v.part i=ab c):∃x,u.part i=ab x/\VR M c x:=by
 cases v with
 |sy t x=>cases t with
  |aH A=>
   have e:bG (uB A x) i=ab c:=e;rw[cu]at e;subst h;obtain⟨y,h1,h2⟩:=(DU (M:=M) A x).get e;refine⟨y,?_,h2⟩;show(bG (A.dY x) i).map V.im=_;simp_all
  |_=>cases e
 |aH l=>
  have e:bG l i=ab c:=e;rw[cu]at e;obtain⟨vs,rfl,h⟩:=h;obtain⟨y,h1,h2⟩:=h.get e;refine⟨y,?_,h2⟩;unfold mM;cases I:ga vs with
  |none=>show bG vs i=_;simp_all
  |some ds=>
   show(bG ds i).map V.im=_;rw[cu,<-pb,<-tL I];omega
 |_=>cases e
theorem iO{ti:TI}{v:CV}{u:V}(h:VR M v u)(e:dE ti v=ag):cA ti u=ag/\gq v=af:=by
 simp[dE,aM]at e;obtain⟨J,A⟩:=e;have I:gq v=af:=by cases v<;>first|rfl|cases A
 refine⟨?_,I⟩;simp[cA,aM];refine⟨by simp_all[h.wd,I,J],?_⟩
 cases v with
 |sy t x=>
  subst h;cases t with
  |err=>cases x<;>exact A
  |_=>trivial
 |rf t x=>grind[VR,Ek,iy,iy.J3]
 |py d=>subst h;exact A
 |fK=>subst h;exact A
 |agg w l=>
  obtain⟨vs,rfl,_⟩:=h;unfold fJ;cases ga vs<;>exact A
 |own b n=>obtain⟨_,_,h⟩:=h;cases u<;>first|exact A|cases h
 |ptr b p=>obtain⟨_,_,rfl⟩:=h;exact A
 |el b n i p=>obtain⟨_,_,_,_,_,rfl⟩:=h;exact A
 |fn f a c=>obtain⟨_,_,rfl,_⟩:=h;exact A
 |iv t l=>subst h;exact A
 |dR b n o k aP=>rcases h with⟨_,_,_,_,_,rfl,_⟩|⟨_,_,rfl,_⟩<;>exact A
 |ifc t c=>obtain⟨_,rfl,_⟩:=h;exact A
 |mp b=>obtain⟨_,_,rfl⟩:=h;exact A
 |yl b=>obtain⟨_,_,rfl⟩:=h;exact A
 |tl b d p=>obtain⟨_,_,_,_,_,_,_,rfl⟩:=h;exact A
 |undef|aH l|iM j t l|fw t l c=>cases A
mutual
theorem RI:∀d:D,VR M (uJ d) (.im d)/\gq (uJ d)=af
 |.bool _|.int _ _|.str _=>by simp[uJ,VR,Ty.enc,gq]
 |.nil|.ref _|.an _|.fn _|.dD|.ifc _ _|.mN=>by simp[uJ,VR,gq]
 |.eE=>⟨rfl,rfl⟩
 |.agg w l=>by
  rw[uJ,<-Rr]
  exact⟨VR.l5 (Ei l).1 (Ei l).2,abS ..⟩
 |.aH l=>by
  rw[uJ,<-abT]
  exact⟨VR.sw (Ei l).1,by unfold sw;cases rT (uK l)<;>rfl⟩
theorem Ei:∀l:List D,aO M (uK l) (l.map V.im)/\ib (uK l)=ag
 |[]=>by simp[uK,aO,ib]
 |d::l=>by
  simp only[uK,mo,aO,ib,vp,aM,yi]
  exact⟨⟨_,_,rfl,(RI d).1,(Ei l).1⟩,(RI d).2,(Ei l).2⟩
end
theorem kv{a b:Ty}{x:a.den}{y:b.den}(h:Ty.cs a b x=ab y):∃e:a=b,y=e▸x:=by
 unfold Ty.cs at h;grind
theorem jR{a b:Ty}{x:a.den}{y:b.den}(h:Ty.cs a b x=ab y):a=b/\b.enc y=a.enc x/\(∀M,VR M (.sy b y) (.im (a.enc x))):=by
 obtain⟨rfl,rfl⟩:=kv h;exact⟨rfl,rfl,λ_=>rfl⟩
end
section
variable [Gh]
variable {M:Mu} {ch:CH} {h:Heap}
theorem Hv(h:Heap)(v:V):v.data h=v.cV (gL h):=by
 cases v<;>first|rfl|simp[V.data]
theorem CU(o:Nat->Nat->Nat->Nat->Option (List D)):∀ds:List D,V.dW o (ds.map V.im)=ab ds
 |[]=>by rfl
 |d::ds=>by simp[V.dW,V.cV,CU o ds]
theorem Xu(o:Nat->Nat->Nat->Nat->Option (List D))(w:Nat)(A:List V):(fJ w A).cV o=(V.dW o A).map (.agg w):=by
 unfold fJ;cases I:ga A with
 |none=>rfl
 |some ds=>rw[tL I,CU];rfl
theorem Xv(o:Nat->Nat->Nat->Nat->Option (List D))(A:List V):(mM A).cV o=(V.dW o A).map .aH:=by
 unfold mM;cases I:ga A with
 |none=>rfl
 |some ds=>rw[tL I,CU];rfl
theorem HS.own(I:HS M ch h){b n A:Nat}{c:Bool}{t:Ty}{l:List t.den}(J:aD ch b=ab (.arr A c t l))(U:al n A=ag){v:V}(Z:VR M (.own b n) v):
  (v=.full []/\l=[]/\M.b b=ae)∨∃x g ro,M.b b=ab x/\v=.own x g 0 l.length af/\ar h x=ab (.arr g t.wd ro (l.map t.enc))/\(c=af->ro=0)/\ro<=l.length:=by
 have:=bU U;subst this;simp[VR]at Z;obtain⟨u,h1,h2⟩:=I.arr b n c t l J;grind
theorem HS.dR(I:HS M ch h){b n A:Nat}{c:Bool}{t:Ty}{l:List t.den}{o:Option Nat}{k:Nat}{aP:Bool}(J:aD ch b=ab (.arr A c t l))(U:al n A=ag){v:V}(Z:VR M (.dR b n o k aP) v):
  (v=.full []/\l=[]/\M.b b=ae/\k=0)∨∃x g ro,M.b b=ab x/\v=.own x g (o.getD 0) k aP/\o.getD 0+k<=l.length/\ar h x=ab (.arr g t.wd ro (l.map t.enc))/\(c=af->ro=0)/\ro<=l.length/\M.o b n=ab (.own x g 0 l.length af,t.wd):=by
 have:=bU U;subst this;simp[VR]at Z;obtain⟨u,h1,h2⟩:=I.arr b n c t l J;grind
theorem CT{α β:Type}(f:α->β)(o:Option Nat)(n:Nat)(l:List α):(fT o n l).map f=fT o n (l.map f):=by
 cases o<;>simp[fT,gv,wY,Vp]
theorem akU{α:Type}{o:Option Nat}{n:Nat}{l:List α}(h:o.getD 0+n<=l.length):(fT o n l).length=n:=by
 cases o
 .grind[fT,gv]
 rename_i o;grind[fT,gv,wY]
theorem On{o:Option Nat}{n:Nat}{l:List D}(h:o.getD 0+n<=l.length):ir l (o.getD 0) n=fT o n l:=by
 unfold ir;cases A:al (o.getD 0) 0&&al n (aF l)with
 |true=>
  rw[aM]at A;have h2:=bU A.2;cases o with
  |none=>simp[fT,gv,h2]
  |some o=>
   simp_all[fT,gv,wY,h2]
 |false=>
  cases o
  .rfl
  rfl
theorem CS{o:Option Nat}{n g:Nat}{l:List D}(h:o.getD 0+n<=l.length):fx g g (o.getD 0) n l=ag:=by
 unfold fx;simp_all
theorem asV{x g s ro:Nat}{l:List D}{o:Option Nat}{n:Nat}(A:ar h x=ab (.arr g s ro l))(I:o.getD 0+n<=l.length):gL h x g (o.getD 0) n=ab (fT o n l):=by
 simp[gL,A,CS,I,On]
theorem asW{x g s ro:Nat}{l:List D}(A:ar h x=ab (.arr g s ro l)):gL h x g 0 l.length=ab l:=by
 have:bu l.length l.length=ag:=km (aL _);simp[gL,A,fx,ir,this]
theorem aw3{t u:Ty}{y:u.den}:CV.dt ch t (.sy u y)=Ty.cs u t y:=by cases t<;>rfl
theorem O8{f:Nat}{a c:List CV}{x:Nat}{v:V}(e:(match a,c with|[],[]=>ab f|_,_=>ae)=ab x)(r:VR M (.fn f a c) v):v=.fn f [] []/\x=f/\a=[]/\c=[]:=by
 split at e
 .simp [VR,aO]at r;grind
 trivial
theorem OD(p:HS M ch h)(t:Ty):(∀(cv:CV) (x:t.den) (v:V),CV.dt ch t cv=ab x->VR M cv v->v.cV (gL h)=ab (t.enc x))/\
  (∀(vs:List CV) (x:t.den) (A:List V),CV.gk ch t vs=ab x->aO M vs A->V.dW (gL h) A=ab (t.dY x)):=by
 have sy:∀(t u:Ty) (y:u.den) (x:t.den) (v:V),Ty.cs u t y=ab x->VR M (.sy u y) v->v.cV (gL h)=ab (t.enc x):=λt u y x v e r=>by
  obtain⟨rfl,he,_⟩:=jR e;simp_all[VR,he,V.cV]
 induction t with
 |bool=>exact⟨λcv x v e r=>(by cases cv<;>first|(exact sy _ _ _ _ _ e r)|cases e),λvs x A e r=>(by trivial)⟩
 |err=>exact⟨λcv x v e r=>(by cases cv<;>first|(exact sy _ _ _ _ _ e r)|cases e),λvs x A e r=>(by trivial)⟩
 |jS=>
  refine⟨λcv x v e r=>?_,λvs x A e r=>(by trivial)⟩
  cases cv with
  |sy u y=>exact sy _ _ _ _ _ e r
  |fn f a c=>
   obtain⟨rfl,rfl,rfl,rfl⟩:=O8 (M:=M) e r;rfl
  |_=>cases e
 |int k=>exact⟨λcv x v e r=>(by cases cv<;>first|(exact sy _ _ _ _ _ e r)|cases e),λvs x A e r=>(by trivial)⟩
 |str=>exact⟨λcv x v e r=>(by cases cv<;>first|(exact sy _ _ _ _ _ e r)|cases e),λvs x A e r=>(by trivial)⟩
 |an t _=>
  refine⟨λcv x v e r=>?_,λvs x A e r=>(by trivial)⟩
  cases cv with
  |sy u y=>exact sy _ _ _ _ _ e r
  |fK=>
   have e:(ab []:Option (List t.den))=ab x:=e;grind[VR,V.cV,Ty.enc]
  |own b n=>
   have e:(match aD ch b with
    |some (.arr J _ u l)=>bif al n J then Ty.cs (.an u) (.an t) l else ae
    |_=>ae)=ab x:=e
   split at e
   .rename_i J c u l Z;cases U:al n J with
    |false=>grind
    |true=>
     rw[U,ao]at e;obtain⟨I,he,_⟩:=jR e;cases I;rcases p.own Z U r with⟨rfl,rfl,_⟩|⟨y,g,ro,_,rfl,d,_⟩
     .simp_all[he,V.cV,Ty.enc]
     rw[he];have:=asW d;simp_all[gg,V.cV,this,Ty.enc]
   trivial
  |iv u l=>
   have e:Ty.cs (.an u) (.an t) l=ab x:=e;obtain⟨I,he,_⟩:=jR e;simp_all[VR,he,V.cV,Ty.enc]
  |dR b n o m aP=>
   have e:(match aD ch b with
    |some (.arr J _ u l)=>bif al n J then Ty.cs (.an u) (.an t) (fT o m l)else ae
    |_=>ae)=ab x:=e
   split at e
   .rename_i J c u l Z;cases U:al n J with
    |false=>grind
    |true=>
     rw[U,ao]at e;obtain⟨I,he,_⟩:=jR e;cases I;rcases p.dR Z U r with⟨rfl,rfl,_,rfl⟩|⟨y,g,ro,_,rfl,hm,d,_⟩
     .rw [he];cases o<;>simp[V.cV,Ty.enc,fT,gv,wY]
     rw[he];have:=asV (o:=o) (n:=m) d (by grind)
     simp[V.cV,this,Ty.enc,CT]
   trivial
  |_=>cases e
 |st w l ih=>
  refine⟨λcv x v e r=>?_,λvs x A e r=>(by trivial)⟩
  cases cv with
  |sy u y=>exact sy _ _ _ _ _ e r
  |agg w' vs=>
   have q:(bif al w w' then CV.gk ch l vs else ae)=ab x:=e;cases hw:al w w' with
   |false=>grind
   |true=>
    rw[hw,ao]at q;have:=bU hw;subst this;simp only[VR]at r;obtain⟨A,rfl,r,_⟩:=r;rw[Xu,ih.2 vs x A q r];rfl
  |_=>cases e
 |aH l ih=>
  refine⟨λcv x v e r=>?_,λvs x A e r=>(by trivial)⟩
  cases cv with
  |sy u y=>exact sy _ _ _ _ _ e r
  |aH vs=>
   have e:CV.gk ch l vs=ab x:=e;simp only[VR]at r;obtain⟨A,rfl,r⟩:=r;rw[Xv,ih.2 vs x A e r];rfl
  |_=>cases e
 |nl=>
  refine⟨λcv x v e r=>(by cases cv<;>first|(exact sy _ _ _ _ _ e r)|cases e),λvs x A e r=>?_⟩
  cases vs with
  |nil=>
   grind[aO,V.dW,Ty.dY]
  |cons _ _=>cases e
 |cn t l i j=>
  refine⟨λcv x v e r=>(by cases cv<;>first|(exact sy _ _ _ _ _ e r)|cases e),λvs x A e r=>?_⟩
  cases vs
  .cases e
  rename_i v vs;have e:(match CV.dt ch t v,CV.gk ch l vs with
   |some x,ab y=>ab (x,y)
   |_,_=>ae)=ab x:=e
  split at e
  .rename_i y z h1 h2;cases e;simp only[aO]at r;obtain⟨u,s,rfl,B,D⟩:=r;simp[V.dW,i.1 v y u h1 B,j.2 vs z s h2 D,Ty.dY]
  trivial
theorem HL(A:HS M ch h){t:Ty}{cv:CV}{x:t.den}{v:V}(e:CV.dt ch t cv=ab x)(r:VR M cv v):v.data h=ab (t.enc x):=by
 rw[Hv];exact(OD A t).1 cv x v e r
theorem HM(I:HS M ch h){t:Ty}{vs:List CV}{x:t.den}{A:List V}(e:CV.gk ch t vs=ab x)(r:aO M vs A):nD h A=ab (t.dY x):=by
 have:=(OD I t).2 vs x A e r;have key:∀A,nD h A=V.dW (gL h) A:=by
  intro A;induction A with
  |nil=>rfl
  |cons u A ih=>
   show(V.data h u).bind (λd=>(nD h A).map (d:: ·))=_
   rw[ih,Hv];cases h1:u.cV (gL h)<;>cases h2:V.dW (gL h) A<;>simp[V.dW,h1,h2]
 grind
theorem Kd(A:List V):(∀w,(fJ w A).owns=V.eP A)/\(mM A).owns=V.eP A:=by
 cases I:ga A with
 |none=>exact⟨λw=>by simp[fJ,I,V.owns,V.fe],by simp[mM,I,V.owns,V.fe]⟩
 |some ds=>
  have J:V.eP A=[]:=by
   rw[tL I];clear I;induction ds with
   |nil=>rfl
   |cons d ds ih=>trivial
  exact⟨λw=>by unfold fJ;rw[I,J];rfl,by unfold mM;rw[I,J];rfl⟩
theorem AG(v:V):v.owns=v.fe:=by cases v<;>first|rfl|simp[V.owns]
theorem aw7(f:Nat->Option Nat)(a b:List Nat):(a++b).filterMap f=a.filterMap f++b.filterMap f:=BO
theorem R5(p:HS M ch h)(t:Ty):(∀(cv:CV) (x:t.den) (v:V),CV.dt ch t cv=ab x->VR M cv v->v.fe=cv.iP.filterMap M.b)/\
  (∀(vs:List CV) (x:t.den) (A:List V),CV.gk ch t vs=ab x->aO M vs A->V.eP A=(CV.gM vs).filterMap M.b):=by
 have sy:∀(u:Ty) (y:u.den) (v:V),VR M (.sy u y) v->v.fe=(CV.sy u y).iP.filterMap M.b:=λu y v r=>by
  grind[VR,V.fe,CV.iP]
 induction t with
 |bool=>exact⟨λcv x v e r=>(by cases cv<;>first|(exact sy _ _ _ r)|cases e),λvs x A e r=>(by trivial)⟩
 |err=>exact⟨λcv x v e r=>(by cases cv<;>first|(exact sy _ _ _ r)|cases e),λvs x A e r=>(by trivial)⟩
 |jS=>
  refine⟨λcv x v e r=>?_,λvs x A e r=>(by trivial)⟩
  cases cv with
  |sy u y=>exact sy _ _ _ r
  |fn f a c=>
   obtain⟨rfl,rfl,rfl,rfl⟩:=O8 (M:=M) e r;rfl
  |_=>cases e
 |int k=>exact⟨λcv x v e r=>(by cases cv<;>first|(exact sy _ _ _ r)|cases e),λvs x A e r=>(by trivial)⟩
 |str=>exact⟨λcv x v e r=>(by cases cv<;>first|(exact sy _ _ _ r)|cases e),λvs x A e r=>(by trivial)⟩
 |an t _=>
  refine⟨λcv x v e r=>?_,λvs x A e r=>(by trivial)⟩
  cases cv with
  |sy u y=>exact sy _ _ _ r
  |fK=>
   grind[VR,V.fe,CV.iP]
  |own b n=>
   have e:(match aD ch b with
    |some (.arr I _ u l)=>bif al n I then Ty.cs (.an u) (.an t) l else ae
    |_=>ae)=ab x:=e
   split at e
   .rename_i I c u l Z;cases d:al n I with
    |false=>grind
    |true=>
     rcases p.own Z d r with⟨rfl,rfl,U⟩|⟨y,g,ro,U,rfl,D,_⟩
     all_goals simp[V.fe,CV.iP,U]
   trivial
  |iv u l=>
   grind[VR,V.fe,CV.iP]
  |dR b n o m aP=>
   have e:(match aD ch b with
    |some (.arr I _ u l)=>bif al n I then Ty.cs (.an u) (.an t) (fT o m l)else ae
    |_=>ae)=ab x:=e
   split at e
   .rename_i I c u l Z;cases d:al n I with
    |false=>grind
    |true=>
     rcases p.dR Z d r with⟨rfl,rfl,U,_⟩|⟨y,g,ro,U,rfl,_⟩
     all_goals simp[V.fe,CV.iP,U]
   trivial
  |_=>cases e
 |st w l ih=>
  refine⟨λcv x v e r=>?_,λvs x A e r=>(by trivial)⟩
  cases cv with
  |sy u y=>exact sy _ _ _ r
  |agg w' vs=>
   have J:(bif al w w' then CV.gk ch l vs else ae)=ab x:=e;cases hw:al w w' with
   |false=>grind
   |true=>
    rw[hw,ao]at J;simp only[VR]at r;obtain⟨A,rfl,r,_⟩:=r;rw[<-AG,(Kd A).1,ih.2 vs x A J r];rfl
  |_=>cases e
 |aH l ih=>
  refine⟨λcv x v e r=>?_,λvs x A e r=>(by trivial)⟩
  cases cv with
  |sy u y=>exact sy _ _ _ r
  |aH vs=>
   have J:CV.gk ch l vs=ab x:=e;simp only[VR]at r;obtain⟨A,rfl,r⟩:=r;rw[<-AG,(Kd A).2,ih.2 vs x A J r];rfl
  |_=>cases e
 |nl=>
  refine⟨λcv x v e r=>(by cases cv<;>first|(exact sy _ _ _ r)|cases e),λvs x A e r=>?_⟩
  cases vs with
  |nil=>
   grind[aO,V.eP,CV.gM]
  |cons _ _=>cases e
 |cn t l i j=>
  refine⟨λcv x v e r=>(by cases cv<;>first|(exact sy _ _ _ r)|cases e),λvs x A e r=>?_⟩
  cases vs
  .cases e
  rename_i v vs;have J:(match CV.dt ch t v,CV.gk ch l vs with
   |some x,ab y=>ab (x,y)
   |_,_=>ae)=ab x:=e
  split at J
  .rename_i y z h1 h2;simp only[aO]at r;obtain⟨u,q,rfl,s,B⟩:=r;simp[V.eP,CV.gM,i.1 v y u h1 s,j.2 vs z q h2 B]
  trivial
theorem ac2:∀A:List V,V.nT A=V.eP A
 |[]=>by rfl
 |u::A=>by
  have ih:=ac2 A;show(match u with|.im _=>V.nT A|v=>v.owns++V.nT A)=_
  cases u<;>simp[V.eP,V.fe,ih,V.owns]
theorem ac7(I:HS M ch h){t:Ty}{vs:List CV}{x:t.den}{A:List V}(e:CV.gk ch t vs=ab x)(r:aO M vs A):V.nT A=(CV.gM vs).filterMap M.b:=by
 rw[ac2];exact(R5 I t).2 vs x A e r
theorem alq(t:Ty):(∀x:t.den,(t.enc x).flat=t.flat)/\(∀x:t.den,D.mG (t.dY x)=t.mG):=by
 induction t with
 |bool|int _|str|an _ _|nl|jS=>exact⟨λx=>by rfl,λx=>by rfl⟩
 |err=>
  refine⟨λx=>?_,λx=>by rfl⟩
  show(iL x).flat=ag;induction x with
  |nil=>rfl
  |cons p l ih=>simp[iL,D.flat,D.mG,Bool.true_and,Bool.and_true];omega
 |st w l ih=>exact⟨λx=>by simp[Ty.enc,D.flat,Ty.flat,ih],λx=>by rfl⟩
 |aH l ih=>exact⟨λx=>by simp[Ty.enc,D.flat,Ty.flat,ih],λx=>by rfl⟩
 |cn t l A I=>exact⟨λx=>by rfl,λx=>by simp[Ty.dY,D.mG,Ty.mG,A,I]⟩
theorem C2(t:Ty)(x:t.den):(t.enc x).flat=t.flat:=(alq t).1 x
theorem HS.Oa(A:HS M ch h){b n:Nat}{c:Bool}{t:Ty}{l:List t.den}(f:aD ch b=ab (.arr n c t l)):
  HS M (cW ch b (.arr n ag t l)) (match M.b b with|some x=>(match ar h x with|some (.arr g s _ L)=>aI h x (.arr g s (aF L) L)|_=>h)|none=>h):=by
 obtain⟨u,h1,h2⟩:=A.arr b n c t l f;have Z:∀i,aD (cW ch b (.arr n ag t l)) i=if i=b then ab (.arr n ag t l)else aD ch i:=λi=>gp ch _ b i (fy f)
 rcases h2 with⟨rfl,rfl,j⟩|⟨x,g,ro,j,rfl,K,V,N⟩
 .rw [j];refine⟨λb' cv e=>?_,λb' I cl a d e=>?_,λz B J D F v w=>?_,λb' I cl a d e=>?_,λb' J e=>?_,λb' I x e=>?_,λb' y e=>?_⟩
  .rw [Z]at e;split at e<;>try grind
   exact A.cell b' cv e
  .rw [Z]at e;split at e<;>try grind
   exact A.arr b' I cl a d e
  .refine A.inj z B J (λq=>D ?_) (λq=>F ?_) v w
   all_goals grind
  .rw [Z]at e;split at e
   .rename_i he;cases e;subst he;exact A.new _ _ _ _ _ f
   exact A.new b' I cl a d e
  .rw [e9];exact A.len b' J e
  .rw [e9];exact A.gw b' I x e
  rw[Z]at e;split at e
  .cases e;trivial
  exact(A.xr b' y e).step (.refl M) λ_ _=>rfl
 rw[j];have m:=(A.len _ _ j).2;simp only[K];have o:∀y,ar (aI h x (.arr g t.wd (aF (l.map t.enc)) (l.map t.enc))) y=if y=x then ab (.arr g t.wd (aF (l.map t.enc)) (l.map t.enc))else ar h y:=λy=>bR _ _ _ _ (dj m)
 refine⟨λb' cv e=>?_,λb' I cl a d e=>?_,λz B J D F v w=>?_,λb' I cl a d e=>?_,λb' J e=>?_,λb' I x e=>?_,λb' y e=>?_⟩
 .rw [Z]at e;split at e
  .cases e
  rename_i U;obtain⟨J,W,v,w,X⟩:=A.cell b' cv e;grind
 .rw [Z]at e;split at e
  .rename_i he;cases e;simp_all
  rename_i U;obtain⟨O,P,Q⟩:=A.arr b' I cl a d e;refine⟨O,P,Q.imp id λ⟨y,R,G,H,S,Y,T⟩=>⟨y,R,G,H,S,?_,T⟩⟩
  rw[o,ax (by intro q;subst q;exact U (A.inj b' b _ (by simp[e]) (by simp[f]) H j))]
  omega
 .refine A.inj z B J (λq=>D ?_) (λq=>F ?_) v w
  all_goals grind
 .rw [Z]at e;split at e
  .rename_i he;cases e;subst he;exact A.new _ _ _ _ _ f
  exact A.new b' I cl a d e
 .rw [e9,b9,aK m];exact A.len b' J e
 .rw [e9];exact A.gw b' I x e
 rw[Z]at e;split at e
 .cases e;trivial
 rename_i U;exact(A.xr b' y e).step (.refl M) λJ q=>by rw[o,ax (by intro p;subst p;exact U (A.inj b' b _ (by simp[e]) (by simp[f]) q j))]
theorem akD(b:Nat)(A:List Nat)(h:Heap):Go.As.close h (b::A)=Go.As.close (match ar h b with|some (.arr g s _ l)=>aI h b (.arr g s (aF l) l)|_=>h) A:=by
 show(match ar h b with|some (.arr g s _ l)=>Go.As.close (aI h b (.arr g s (aF l) l)) A|_=>Go.As.close h A)=_
 split<;>simp_all
theorem Xd(b:Nat)(A:List Nat)(ch:CH):pt ch (b::A)=pt (match aD ch b with|some (.arr v _ t l)=>cW ch b (.arr v ag t l)|_=>ch) A:=by
 show(match aD ch b with|some (.arr v _ t l)=>pt (cW ch b (.arr v ag t l)) A|_=>pt ch A)=_
 split<;>simp_all
theorem HS.gH(I:HS M ch h):∀(A:List Nat),(∀b∈A,∃n c t l,aD ch b=ab (.arr n c t l))->Go.As.gH h (A.filterMap M.b)=ag
 |[],_=>rfl
 |b::A,J=>by
  obtain⟨n,c,t,l,Z⟩:=J b (eh ..);have ih:=HS.gH I A λb' h'=>J b' (List.mem_cons_of_mem _ h')
  obtain⟨u,h1,h2⟩:=I.arr b n c t l Z;rcases h2 with⟨_,_,U⟩|⟨x,g,ro,U,_,a,_⟩<;>try grind
  rw[ahT U];show(match ar h x with|some (.arr ..)=>Go.As.gH h (A.filterMap M.b)|_=>af)=ag
  simp[a,ih]
theorem HS.close{wb:Nat->Bool}:∀(A:List Nat) {ch:CH} {h:Heap},HS M ch h->(∀b∈A,∃n c t l,aD ch b=ab (.arr n c t l)/\(c=ag∨wb b=ag))->
  HS M (pt ch A) (Go.As.close h (A.filterMap M.b))/\(pt ch A).length=ch.length/\(Go.As.close h (A.filterMap M.b)).length=h.length/\(∀b,wb b=af->aD (pt ch A) b=aD ch b)/\(∀c,c< h.length->(∀b,M.b b≠ab c)->ar (Go.As.close h (A.filterMap M.b)) c=ar h c)
 |[],ch,h,U,_=>⟨U,rfl,rfl,λ_ _=>rfl,λ_ _ _=>rfl⟩
 |b::A,ch,h,U,v=>by
  obtain⟨n,c,t,l,a,w⟩:=v b (eh ..);have h1:=U.Oa a;have d:=fy a;rw[Xd];simp[a];have hp:∀i,aD (cW ch b (.arr n ag t l)) i=if i=b then ab (.arr n ag t l)else aD ch i:=λi=>gp ch _ b i d
  have Z:∀b'∈A,∃z p B D,aD (cW ch b (.arr n ag t l)) b'=ab (.arr z p B D)/\(p=ag∨wb b'=ag):=λb' h'=>by
   grind
  have I:∀i,wb i=af->aD (cW ch b (.arr n ag t l)) i=aD ch i:=λi hi=>by
   grind
  obtain⟨u,H,F⟩:=U.arr b n c t l a;rcases F with⟨_,_,J⟩|⟨x,g,ro,J,_,q,_⟩
  .rw [J]at h1;obtain⟨e,f,j,m,o⟩:=HS.close A h1 Z;rw[List.filterMap_cons_none J];exact⟨e,f.trans (e9 ..),j,λi hi=>(m i hi).trans (I i hi),o⟩
  rw[J]at h1;simp only[q]at h1;obtain⟨e,f,j,m,o⟩:=HS.close A h1 Z;rw[ahT J,akD];simp only[q];exact⟨e,f.trans (e9 ..),j.trans (by rw[b9,aK (U.len _ _ J).2]),λi hi=>(m i hi).trans (I i hi),
   λy G s=>(o y (by rw[b9,aK (U.len _ _ J).2];omega) s).trans (uO J (U.len _ _ J).2 y G s)⟩
theorem R4(t:Ty):(∀(cv:CV) (x:t.den),CV.dt ch t cv=ab x->∀b∈cv.iP,∃n c u l,aD ch b=ab (.arr n c u l))/\
  (∀(vs:List CV) (x:t.den),CV.gk ch t vs=ab x->∀b∈CV.gM vs,∃n c u l,aD ch b=ab (.arr n c u l)):=by
 have sy:∀(u:Ty) (y:u.den),∀b∈(CV.sy u y).iP,∃n c u l,aD ch b=ab (.arr n c u l):=λu y b A=>by trivial
 induction t with
 |bool=>exact⟨λcv x e=>(by cases cv<;>first|(exact sy _ _)|cases e),λvs x e=>(by trivial)⟩
 |err=>exact⟨λcv x e=>(by cases cv<;>first|(exact sy _ _)|cases e),λvs x e=>(by trivial)⟩
 |jS=>
  refine⟨λcv x e=>?_,λvs x e=>(by trivial)⟩
  cases cv with
  |sy u y=>exact sy _ _
  |fn f a c=>simp[CV.iP]
  |_=>cases e
 |int k=>exact⟨λcv x e=>(by cases cv<;>first|(exact sy _ _)|cases e),λvs x e=>(by trivial)⟩
 |str=>exact⟨λcv x e=>(by cases cv<;>first|(exact sy _ _)|cases e),λvs x e=>(by trivial)⟩
 |an t _=>
  refine⟨λcv x e=>?_,λvs x e=>(by trivial)⟩
  cases cv with
  |sy u y=>exact sy _ _
  |fK=>simp[CV.iP]
  |own b n=>
   have e:(match aD ch b with
    |some (.arr I _ u l)=>bif al n I then Ty.cs (.an u) (.an t) l else ae
    |_=>ae)=ab x:=e
   split at e
   .rename_i I c u l A;simp_all[CV.iP,A]
   trivial
  |iv u l=>simp[CV.iP]
  |dR b n o m aP=>
   have e:(match aD ch b with
    |some (.arr I _ u l)=>bif al n I then Ty.cs (.an u) (.an t) (fT o m l)else ae
    |_=>ae)=ab x:=e
   split at e
   .rename_i I c u l A;simp_all[CV.iP,A]
   trivial
  |_=>cases e
 |st w l ih=>
  refine⟨λcv x e=>?_,λvs x e=>(by trivial)⟩
  cases cv with
  |sy u y=>exact sy _ _
  |agg w' vs=>
   have J:(bif al w w' then CV.gk ch l vs else ae)=ab x:=e;cases hw:al w w' with
   |false=>grind
   |true=>
    rw[hw,ao]at J;grind[CV.iP]
  |_=>cases e
 |aH l ih=>
  refine⟨λcv x e=>?_,λvs x e=>(by trivial)⟩
  cases cv with
  |sy u y=>exact sy _ _
  |aH vs=>
   have J:CV.gk ch l vs=ab x:=e;grind[CV.iP]
  |_=>cases e
 |nl=>
  refine⟨λcv x e=>(by cases cv<;>first|(exact sy _ _)|cases e),λvs x e=>?_⟩
  cases vs
  .simp[CV.gM]
  cases e
 |cn t l U Z=>
  refine⟨λcv x e=>(by cases cv<;>first|(exact sy _ _)|cases e),λvs x e=>?_⟩
  cases vs
  .cases e
  rename_i v vs;have J:(match CV.dt ch t v,CV.gk ch l vs with
   |some x,ab y=>ab (x,y)
   |_,_=>ae)=ab x:=e
  split at J<;>try trivial
  rename_i y z h1 h2;intro b A;simp only[CV.gM,cD]at A;rcases A with A|A
  .exact U.1 v y h1 b A
  exact Z.2 vs z h2 b A
end
section
variable [Gh]
variable {ρ:Type} {wb:Nat->Bool} {M:Mu} {ch:CH} {h:Heap} {k:KC ρ} {r:ρ} {E:Env}
mutual
theorem uL:∀v:V,VR M (ic v) v
 |.im d=>(RI d).1
 |.full []=>by simp[ic,VR]
 |.full (_::_)=>by simp[ic,VR]
 |.agg w l=>by
  rw[ic];cases A:ib (xl l)&&(ga l).isNone with
  |false=>exact trivial
  |true=>
   rw[aM]at A;rw[ao];have he:V.agg w l=fJ w l:=by
    unfold fJ;cases I:ga l
    .rfl
    rw[I]at A;cases A.2
   rw[he];exact VR.l5 (acJ l) A.1
 |.fn f a c=>by
  cases a with
  |nil=>cases c with
   |nil=>simp[ic,VR,aO]
   |cons _ _=>simp[ic,VR]
  |cons _ _=>cases c<;>simp[ic,VR]
 |.undef|.aH _|.own _ _ _ _ _|.ptr _ _ _|.ifc _ _|.mp _|.jh _=>by simp[ic,VR]
theorem acJ:∀l:List V,aO M (xl l) l
 |[]=>by simp[xl,aO]
 |v::l=>by
  simp only[xl,aO];exact⟨v,l,rfl,uL v,acJ l⟩
end
theorem akH(v:Value):VR M (Of v) (eN V.undef (λx=>x) (uM v)):=by
 unfold Of;cases uM v with
 |none=>trivial
 |some x=>exact uL x
theorem je{tc:TC}{t:Tm}(A:bF M tc t)(o:Operand):VR M (vC tc o) (ev t o):=by
 cases o with
 |tmp n=>exact A.get n
 |const v=>exact akH v
 |func f=>exact⟨[],[],rfl,rfl,rfl⟩
 |global g=>trivial
theorem Bq{tc:TC}{t:Tm}(A:bF M tc t)(l:Array Operand):aO M (o6 tc l) (dk t l):=by
 unfold o6 dk;induction l.toList with
 |nil=>rfl
 |cons o l ih=>exact⟨_,_,rfl,je A o,ih⟩
theorem OJ{tc:TC}{t:Tm}(A:bF M tc t)(ps:Array (Nat×Operand)):∃l,lO (ev t) ps=l/\l.map fg=(iW (vC tc) ps).map fg/\aO M ((iW (vC tc) ps).map gU) (l.map gU):=by
 refine⟨_,rfl,?_⟩;unfold lO iW;induction ps.toList with
 |nil=>trivial
 |cons p l ih=>exact⟨congrArg _ ih.1,_,_,rfl,je A p.2,ih.2⟩
theorem VR.Am{p:List (Nat×Nat)}{v c:CV}{u:V}(h:VR M v u)(e:v.eZ p=ab c):∃x,u.eZ p=ab x/\VR M c x:=by
 cases p
 .cases e;exact⟨u,rfl,h⟩
 rename_i s p;obtain⟨y,h1,h2⟩:=ay.1 e;obtain⟨x,U,A,I⟩:=h.eF h1;obtain⟨z,Z,J,_⟩:=VR.eZ A h2 I;refine⟨z,?_,J⟩;show(V.eF u s.1 s.2).bind (λv=>V.eZ v p)=ab z
 grind
theorem ajd(U:HS M ch h){t:Nat}(e:GV E t ch k=ab r):OS wb M ch h (xP E h.length h t) k r:=by
 obtain⟨ti,Z,e⟩:=ay.1 e;cases J:cA ti ti.zero with
 |false=>grind
 |true=>
  rw[J]at e;have e:k (.ptr (aF ch) []) (ch++[ab (.cell (ic ti.zero))])=ab r:=e;rw[bz]at e;obtain⟨A,I⟩:=U.acg (uL ti.zero);refine⟨.ptr h.length 0 [],_,.ptr ch.length [],_,⟨λi=>if i=ch.length then ab h.length else M.b i,M.o⟩,?_,(show∃c,(if ch.length=ch.length then ab h.length else M.b ch.length)=ab c/\V.ptr h.length 0 []=.ptr c 0 []from⟨h.length,aK rfl,rfl⟩),I,⟨A,by simp,by simp[b9],λb J _=>by rw[de,ax (by omega)],D6,AE⟩,e⟩
  unfold xP;grind
theorem HS.extra(A:HS M ch h)(x:cj):HS M ch (aI h h.length x):=by
 have I:∀c,c< h.length->ar (aI h h.length x) c=ar h c:=λc d=>by rw[bR _ _ _ _ (aL _),ax (by omega)]
 refine⟨λb cv e=>?_,λb n cl t l e=>?_,A.inj,A.new,λb c e=>?_,A.gw,λb x e=>(A.xr b x e).step (.refl M) λc q=>I c (A.len b c q).2⟩
 .obtain ⟨c,v,h1,h2,U⟩:=A.cell b cv e;exact⟨c,v,h1,by rw[I _ (A.len _ _ h1).2];omega,U⟩
 .obtain ⟨u,h1,h2⟩:=A.arr b n cl t l e;exact⟨u,h1,h2.imp id λ⟨c,g,ro,J,Z,f,a⟩=>⟨c,g,ro,J,Z,by rw[I _ (A.len _ _ J).2];omega,a⟩⟩
 have:=A.len b c e;grind[b9]
theorem Fr.extra(wb:Nat->Bool)(M:Mu)(ch:CH)(h:Heap)(x:cj):Fr wb M ch h M ch (aI h h.length x):=
 ⟨.refl M,aL _,by simp[b9],λ_ _ _=>rfl,lA,AE⟩
theorem ajZ(a:HS M ch h){t:Nat}{x:CV}{I:V}(J:VR M x I)(e:Cz E t x ch k=ab r):OS wb M ch h (nW E h.length h t I) k r:=by
 obtain⟨ti,d,e⟩:=ay.1 e;cases A:dE ti x with
 |false=>grind
 |true=>
  rw[A]at e;unfold nW;rw[d,ah,(iO J A).1];split at e
  .rename_i m el f;cases x with
   |sy u y=>
    subst J;rw[f];exact⟨.im (.ref (u.enc y)),_,.rf u y,ch,M,rfl,by rfl,a.extra _,.extra ..,e⟩
   |_=>cases e
  have e:k (.ptr (aF ch) []) (ch++[ab (.cell x)])=ab r:=e;rw[bz]at e;obtain⟨U,Z⟩:=a.acg J;have A:nW.v5 h.length h ti.k I=ab (.ptr h.length 0 [],aI h h.length (.cell I)):=by
   unfold nW.v5;grind
  exact⟨.ptr h.length 0 [],_,.ptr ch.length [],_,⟨λi=>if i=ch.length then ab h.length else M.b i,M.o⟩,A,(show∃c,(if ch.length=ch.length then ab h.length else M.b ch.length)=ab c/\V.ptr h.length 0 []=.ptr c 0 []from⟨h.length,aK rfl,rfl⟩),Z,⟨U,by simp,by simp[b9],λb A _=>by rw[de,ax (by omega)],D6,AE⟩,e⟩
theorem Un(J:HS M ch h){b d:Nat}{p:List (Nat×Nat)}{u:Ty}{l:List u.den}{vs:List CV}{v:V}{w:CV}(U:aD ch b=ab (.cC u l vs))(Z:VR M (.tl b d p) v)(I:bu d (aF vs)=ag)(hw:bG vs (oY (aF vs) d)=ab w):
  ∃c g A i j z,v=.ptr c g ((i,i*u.wd)::p)/\M.b b=ab c/\ar h c=ab (.cG g u.wd ((l.map λx=>V.im (u.enc x))++A))/\aO M vs A/\((l.map λx=>V.im (u.enc x))++A)[i]? =ab z/\VR M w z/\(i=l.length+j/\oY (aF vs) d=j/\M.o b 0=ab (.own c g 0 (l.length+vs.length) af,u.wd)):=by
 obtain⟨c,g,i,s,m,h1,h2,rfl⟩:=Z;obtain⟨e,f,A,k1,k2,n,a⟩:=J.xr b _ U;rw[h1]at k2;have I:=jl I;rw[cu]at hw;obtain⟨z,q,t⟩:=a.get hw;have y:i=l.length+oY (aF vs) d:=by
  grind[oY,bz]
 grind
theorem aby(I:HS M ch h){t:Nat}{a:CV}{N:V}(Z:VR M a N)(e:DY E t a ch k=ab r):OS wb M ch h (gd E h t N) k r:=by
 unfold DY at e;obtain⟨ti,S,e⟩:=ay.1 e;unfold gd;rw[S,ah];cases a with
 |ptr b p=>
  simp only[VR]at Z;obtain⟨c,T,rfl⟩:=Z;have e:(match aD ch b with|some (.cell v)=>(v.eZ p).bind λv=>bif dE ti v then k v ch else ae|_=>ae)=ab r:=e
  split at e
  .rename_i v f;obtain⟨O,L,h1,h2,W⟩:=I.cell b v f;rw[T]at h1;cases h1;obtain⟨y,o,e⟩:=ay.1 e;obtain⟨z,F,A⟩:=W.Am o;cases J:dE ti y with
   |false=>grind
   |true=>
    rw[J,ao]at e;have:(eU h c 0 p).bind (λv=>bif cA ti v then ab (v,h)else ae)=(ab (z,h):R):=by
     unfold eU;rw[h2];show((L.eZ p).bind _:R)=_;rw[F,ah,(iO A J).1,ao]
    show OS wb M ch h ((eU h c 0 p).bind λv=>bif cA ti v then ab (v,h)else ae) k r
    rw[this];exact OS.plain I A e
  trivial
 |rf u x=>
  simp only[VR]at Z;subst Z;have e:(bif dE ti (.sy u x)then k (.sy u x) ch else ae)=ab r:=e;cases J:dE ti (.sy u x)with
  |false=>grind
  |true=>
   rw[J,ao]at e;have B:VR M (.sy u x) (.im (u.enc x)):=rfl;show OS wb M ch h (bif cA ti (.im (u.enc x))then ab (.im (u.enc x),h)else ae) k r;rw[(iO B J).1,ao];exact OS.plain I B e
 |el b n i p=>
  simp only[VR]at Z;obtain⟨c,g,m,s,J,rfl⟩:=Z;have e:(match aD ch b with
   |some (.arr L _ u l)=>bif al n L then(l[i]?).bind λx=>(CV.eZ (.sy u x) p).bind λy=>bif dE ti y then k y ch else ae else ae
   |some (.cC u l [])=>bif al n 0 then(l[i]?).bind λx=>(CV.eZ (.sy u x) p).bind λy=>bif dE ti y then k y ch else ae else ae
   |_=>ae)=ab r:=e
  split at e
  .rename_i X cl u l f;cases H:al n X with
   |false=>grind
   |true=>
    rw[H,ao]at e;have:=bU H;subst this;obtain⟨u0,K,G⟩:=I.arr b n cl u l f;rw[J]at K;cases K;rcases G with⟨q,_⟩|⟨O,Y,ro,K,G,q3,_⟩<;>try trivial
    cases G;obtain⟨x,hx,e⟩:=ay.1 e;obtain⟨y,o,e⟩:=ay.1 e;have B:VR M (.sy u x) (.im (u.enc x)):=rfl;obtain⟨z,F,A⟩:=B.Am o;cases U:dE ti y with
    |false=>grind
    |true=>
     rw[U,ao]at e;have:eU h c g ((i,i*u.wd)::p)=ab z:=by
      unfold eU;simp_all
     show OS wb M ch h ((eU h c g ((i,i*u.wd)::p)).bind λv=>bif cA ti v then ab (v,h)else ae) k r
     rw[this,ah,(iO A U).1,ao];exact OS.plain I A e
  .rename_i u l f;obtain⟨H,D⟩:=aU e;have:=bU H;subst this;obtain⟨O,Y,P,k1,k2,k3,Q⟩:=I.xr b _ f;rw[k2]at J;cases J;simp only[aO]at Q;subst Q;obtain⟨x,hx,D⟩:=ay.1 D;obtain⟨y,o,D⟩:=ay.1 D;have B:VR M (.sy u x) (.im (u.enc x)):=rfl;obtain⟨z,F,A⟩:=B.Am o;cases U:dE ti y with
   |false=>grind
   |true=>
    rw[U,ao]at D;have:eU h c g ((i,i*u.wd)::p)=ab z:=by
     unfold eU;simp_all
    show OS wb M ch h ((eU h c g ((i,i*u.wd)::p)).bind λv=>bif cA ti v then ab (v,h)else ae) k r
    rw[this,ah,(iO A U).1,ao];exact OS.plain I A D
  trivial
 |tl b d p=>
  have e:(match aD ch b with
   |some (.cC _ _ vs)=>bif bu d (aF vs)then(bG vs (oY (aF vs) d)).bind λw=>(w.eZ p).bind λy=>bif dE ti y then k y ch else ae else ae
   |_=>ae)=ab r:=e
  split at e<;>try trivial
  rename_i u l vs f;obtain⟨hd,e⟩:=aU e;obtain⟨w,hw,e⟩:=ay.1 e;obtain⟨y,o,e⟩:=ay.1 e;obtain⟨c,g,P,i,j,z,rfl,K,G,q3,q4,q5,q6⟩:=Un I f Z hd hw;obtain⟨z',F,A⟩:=q5.Am o;cases U:dE ti y with
  |false=>rw[U,au]at e;cases e
  |true=>
   rw[U,ao]at e;have:eU h c g ((i,i*u.wd)::p)=ab z':=by
    unfold eU;rw[G];show(bif al g g&&al (i*u.wd) (i*u.wd)then(bG ((l.map λx=>V.im (u.enc x))++P) i).bind λd=>d.eZ p else ae)=_
    rw[gj,gj,cu,q4];exact F
   show OS wb M ch h ((eU h c g ((i,i*u.wd)::p)).bind λv=>bif cA ti v then ab (v,h)else ae) k r
   rw[this,ah,(iO A U).1,ao];exact OS.plain I A e
 |_=>cases e
theorem HS.adW(A:HS M ch h){b c:Nat}{j cv:CV}{v:V}(f:aD ch b=ab (.cell j))(g:M.b b=ab c)(z:VR M cv v):HS M (cW ch b (.cell cv)) (aI h c (.cell v)):=by
 have I:=(A.len _ _ g).2;have U:∀i,aD (cW ch b (.cell cv)) i=if i=b then ab (.cell cv)else aD ch i:=λi=>gp ch _ b i (fy f)
 have B:∀y,ar (aI h c (.cell v)) y=if y=c then ab (.cell v)else ar h y:=λy=>bR _ _ _ _ (dj I)
 have D:∀b' x,aD ch b'=ab x->b'≠b->M.b b'≠ab c:=λb' x e Z q=>Z (A.inj b' b c (by simp[e]) (by simp[f]) q g)
 refine⟨λb' w e=>?_,λb' n cl t l e=>?_,λm o J p s a d=>?_,λb' n cl t l e=>?_,λb' J e=>?_,λb' n x e=>?_,λb' y e=>?_⟩
 .rw [U]at e;split at e
  .grind
  obtain⟨J,F,a,d,G⟩:=A.cell b' w e;grind
 .rw [U]at e;split at e<;>try grind
  obtain⟨u,a,d⟩:=A.arr b' n cl t l e;grind
 .refine A.inj m o J (λq=>p ?_) (λq=>s ?_) a d
  all_goals grind
 .rw [U]at e;split at e<;>try grind
  exact A.new b' n cl t l e
 .rw [e9,b9,aK I];exact A.len b' J e
 .rw [e9];exact A.gw b' n x e
 rw[U]at e;split at e
 .cases e;trivial
 exact(A.xr b' y e).step (.refl M) λJ q=>by grind
theorem HS.adV(A:HS M ch h){b n:Nat}{c:Bool}{t:Ty}{l I:List t.den}(d:aD ch b=ab (.arr n c t l))(B:I.length=l.length){x g ro:Nat}(v:M.b b=ab x)(L:M.o b n=ab (.own x g 0 l.length af,t.wd))
  (D:c=af->ro=0) (z:ro<=l.length):HS M (cW ch b (.arr n c t I)) (aI h x (.arr g t.wd ro (I.map t.enc))):=by
 have J:=(A.len _ _ v).2;have a:∀i,aD (cW ch b (.arr n c t I)) i=if i=b then ab (.arr n c t I)else aD ch i:=λi=>gp ch _ b i (fy d)
 have N:∀y,ar (aI h x (.arr g t.wd ro (I.map t.enc))) y=if y=x then ab (.arr g t.wd ro (I.map t.enc))else ar h y:=λy=>bR _ _ _ _ (dj J)
 have O:∀b' y,aD ch b'=ab y->b'≠b->M.b b'≠ab x:=λb' y e f q=>f (A.inj b' b x (by simp[e]) (by simp[d]) q v)
 refine⟨λb' w e=>?_,λb' U cl j m e=>?_,λF G Z H K p s=>?_,λb' U cl j m e=>?_,λb' Z e=>?_,λb' U x e=>?_,λb' y e=>?_⟩
 .rw [a]at e;split at e<;>try grind
  obtain⟨Z,P,p,s,Q⟩:=A.cell b' w e;grind
 .rw [a]at e;split at e
  .grind
  obtain⟨u,p,s⟩:=A.arr b' U cl j m e;grind
 .refine A.inj F G Z (λq=>H ?_) (λq=>K ?_) p s
  all_goals grind
 .rw [a]at e;split at e
  .rename_i he;cases e;subst he;exact A.new _ _ _ _ _ d
  exact A.new b' U cl j m e
 .rw [e9,b9,aK J];exact A.len b' Z e
 .rw [e9];exact A.gw b' U x e
 rw[a]at e;split at e
 .cases e;trivial
 exact(A.xr b' y e).step (.refl M) λZ q=>by grind
theorem XZ(t:Ty):(∀(cv:CV) (x:t.den) (u:V),CV.dt [] t cv=ab x->VR M cv u->u.cV (gL h)=ab (t.enc x)/\u.fe=[])/\
  (∀(vs:List CV) (x:t.den) (A:List V),CV.gk [] t vs=ab x->aO M vs A->V.dW (gL h) A=ab (t.dY x)/\V.eP A=[]):=by
 have sy:∀(t u:Ty) (y:u.den) (x:t.den) (v:V),Ty.cs u t y=ab x->VR M (.sy u y) v->v.cV (gL h)=ab (t.enc x)/\v.fe=[]:=λt u y x v e r=>by
  obtain⟨rfl,he,_⟩:=jR e;simp_all[VR,he,V.cV,V.fe]
 induction t with
 |bool=>exact⟨λcv x v e r=>(by cases cv<;>first|(exact sy _ _ _ _ _ e r)|cases e),λvs x A e r=>(by trivial)⟩
 |err=>exact⟨λcv x v e r=>(by cases cv<;>first|(exact sy _ _ _ _ _ e r)|cases e),λvs x A e r=>(by trivial)⟩
 |jS=>
  refine⟨λcv x v e r=>?_,λvs x A e r=>(by trivial)⟩
  cases cv with
  |sy u y=>exact sy _ _ _ _ _ e r
  |fn f a c=>
   obtain⟨rfl,rfl,rfl,rfl⟩:=O8 (M:=M) e r;trivial
  |_=>cases e
 |int k=>exact⟨λcv x v e r=>(by cases cv<;>first|(exact sy _ _ _ _ _ e r)|cases e),λvs x A e r=>(by trivial)⟩
 |str=>exact⟨λcv x v e r=>(by cases cv<;>first|(exact sy _ _ _ _ _ e r)|cases e),λvs x A e r=>(by trivial)⟩
 |an t _=>
  refine⟨λcv x v e r=>?_,λvs x A e r=>(by trivial)⟩
  cases cv with
  |sy u y=>exact sy _ _ _ _ _ e r
  |fK=>
   have e:(ab []:Option (List t.den))=ab x:=e;grind[VR,V.cV,Ty.enc,V.fe]
  |own b n=>cases e
  |iv u l=>
   obtain⟨Z,he,_⟩:=jR e;simp_all[VR,he,V.cV,Ty.enc,V.fe]
  |_=>cases e
 |st w l ih=>
  refine⟨λcv x v e r=>?_,λvs x A e r=>(by trivial)⟩
  cases cv with
  |sy u y=>exact sy _ _ _ _ _ e r
  |agg w' vs=>
   have I:(bif al w w' then CV.gk [] l vs else ae)=ab x:=e;cases hw:al w w' with
   |false=>grind
   |true=>
    rw[hw,ao]at I;have:=bU hw;subst this;simp only[VR]at r;obtain⟨A,rfl,r,_⟩:=r;rw[Xu,(ih.2 vs x A I r).1,<-AG,(Kd A).1];exact⟨by rfl,(ih.2 vs x A I r).2⟩
  |_=>cases e
 |aH l ih=>
  refine⟨λcv x v e r=>?_,λvs x A e r=>(by trivial)⟩
  cases cv with
  |sy u y=>exact sy _ _ _ _ _ e r
  |aH vs=>
   have I:CV.gk [] l vs=ab x:=e;simp only[VR]at r;obtain⟨A,rfl,r⟩:=r;rw[Xv,(ih.2 vs x A I r).1,<-AG,(Kd A).2];exact⟨by rfl,(ih.2 vs x A I r).2⟩
  |_=>cases e
 |nl=>
  refine⟨λcv x v e r=>(by cases cv<;>first|(exact sy _ _ _ _ _ e r)|cases e),λvs x A e r=>?_⟩
  cases vs with
  |nil=>
   grind[aO,V.dW,Ty.dY,V.eP]
  |cons _ _=>cases e
 |cn t l J U=>
  refine⟨λcv x v e r=>(by cases cv<;>first|(exact sy _ _ _ _ _ e r)|cases e),λvs x A e r=>?_⟩
  cases vs
  .cases e
  rename_i v vs;have I:(match CV.dt [] t v,CV.gk [] l vs with
   |some x,ab y=>ab (x,y)
   |_,_=>ae)=ab x:=e
  split at I
  .rename_i y z h1 h2;cases I;simp only[aO]at r;obtain⟨u,d,rfl,g,i⟩:=r;simp[V.dW,V.eP,J.1 v y u h1 g,U.2 vs z d h2 i,Ty.dY]
  trivial
theorem atG{t:Ty}{x:CV}{A:V}{p:List (Nat×Nat)}{y z:t.den}(I:VR M x A)(f:gq x=af)(e:Kx t x p y=ab z):
  ∃Z,A.data h=ab Z/\A.owns=[]/\V.put (.im Z) p (.im (t.enc y))=ab (.im (t.enc z)):=by
 cases p with
 |nil=>
  have e:(bif al x.wd t.wd then CV.dt [] t x else ae)=ab z:=e;cases a:al x.wd t.wd with
  |false=>grind
  |true=>
   rw[a]at e;obtain⟨h1,h2⟩:=(XZ (M:=M) (h:=h) t).1 x z A e I;refine⟨t.enc z,by simp[Hv,h1],by simp[AG,h2],?_⟩
   show(bif al (t.enc z).wd (t.enc y).wd then ab (V.im (t.enc z))else ae)=_;simp[oA,gj,ao]
 |cons q p=>
  unfold Kx at e;split at e<;>try trivial
  rename_i g i b;cases b;split at e
  .rename_i u w;split at e
   .rename_i c d hp;subst I;have J:VR M (.sy t y) (.im (t.enc y)):=rfl;obtain⟨v,h1,h2,_⟩:=VR.put (show VR M (.sy u w) (.im (u.enc w))from rfl) rfl J hp;obtain⟨rfl,U,_⟩:=jR e;exact⟨_,rfl,rfl,by rw[h1,h2,U]⟩
   trivial
  .simp only[VR]at I;subst I;split at e
   .split at e
    .rename_i c d hp;have J:VR M (.sy t y) (.im (t.enc y)):=rfl;obtain⟨v,h1,h2,_⟩:=VR.put (show VR M (.sy (.an _) []) (.im (.an []))from rfl) rfl J hp;obtain⟨rfl,U,_⟩:=jR e;exact⟨.an [],rfl,rfl,by rw[h1,h2,U]⟩
    trivial
   trivial
  trivial
theorem HS.Sy(A:HS M ch h){b c g:Nat}{u:Ty}{l l':List u.den}{vs vs':List CV}(m:aD ch b=ab (.cC u l vs))(Z:M.b b=ab c)(p:l'.length+vs'.length=l.length+vs.length)(s:M.o b 0=ab (.own c g 0 (l.length+vs.length) af,u.wd)){us':List V}(v:aO M vs' us'):
  HS M (cW ch b (.cC u l' vs')) (aI h c (.cG g u.wd ((l'.map λx=>V.im (u.enc x))++us'))):=by
 have J:=(A.len _ _ Z).2;have I:∀i,aD (cW ch b (.cC u l' vs')) i=if i=b then ab (.cC u l' vs')else aD ch i:=λi=>gp _ _ _ _ (fy m)
 have a:∀y,y≠c->ar (aI h c (.cG g u.wd ((l'.map λx=>V.im (u.enc x))++us'))) y=ar h y:=λy z=>by rw[bR _ _ _ _ (dj J),ax z]
 have H:∀b' y,aD ch b'=ab y->b'≠b->M.b b'≠ab c:=λb' y e d q=>d (A.inj b' b c (by simp[e]) (by simp[m]) q Z)
 refine⟨λb' w e=>?_,λb' n cl t l e=>?_,λB D U F G f j=>?_,λb' n cl t l e=>?_,λb' U e=>?_,λb' n x e=>?_,λb' y e=>?_⟩
 .rw [I]at e;split at e<;>try grind
  obtain⟨U,K,f,j,L⟩:=A.cell b' w e;grind
 .rw [I]at e;split at e<;>try grind
  obtain⟨u,f,j⟩:=A.arr b' n cl t l e;grind
 .refine A.inj B D U (λq=>F ?_) (λq=>G ?_) f j
  all_goals grind
 .rw [I]at e;split at e<;>try grind
  exact A.new b' n cl t l e
 .rw [e9,b9,aK J];exact A.len b' U e
 .rw [e9];exact A.gw b' n x e
 rw[I]at e;split at e
 .rename_i he;subst he;cases e;exact⟨c,g,us',Z,by simp[p,s],by rw[bR _ _ _ _ (dj J),aK rfl],v⟩
 exact(A.xr b' y e).step (.refl M) λU q=>a U (by grind)
theorem avT(Z:HS M ch h){t:Nat}{a x:CV}{a' A:V}(D:VR M a a')(H:VR M x A)(e:T5 E wb t a x ch k=ab r):OS wb M ch h (ra E h t a' A) k r:=by
 unfold T5 at e;obtain⟨ti,ht,e⟩:=ay.1 e;unfold ra;rw[ht,ah];cases ho:dE ti x with
 |false=>grind
 |true=>
 rw[ho,ao]at e;obtain⟨f,o⟩:=iO H ho;cases a with
 |ptr b p=>
  simp only[VR]at D;obtain⟨c,K,rfl⟩:=D;have e:(bif wb b then(match aD ch b with
   |some (.cell v)=>(x.put p v).bind λI=>k .undef (cW ch b (.cell I))
   |_=>ae)else ae)=ab r:=e
  cases hw:wb b
  .grind
  rw[hw,ao]at e;split at e
  .rename_i v J;obtain⟨c',I,h1,h2,h3⟩:=Z.cell b v J;rw[K]at h1;cases h1;obtain⟨y,N,e⟩:=ay.1 e;obtain⟨z,O,P,_⟩:=VR.put H o h3 N;show OS wb M ch h (bif cA ti A then(lE h c 0 p A).map λh'=>(.undef,h')else ae) k r
   rw[f,ao];have:lE h c 0 p A=ab (aI h c (.cell z)):=by
    simp[lE,h2,O]
   rw[this];exact⟨.undef,_,.undef,_,M,rfl,trivial,Z.adW J K P,⟨.refl M,by simp[e9,aL],by grind[b9],λi _ hi=>by
    rw[gp _ _ _ _ (fy J),ax (by grind)],lA,uO K (Z.len _ _ K).2⟩,e⟩
  trivial
 |el b n i p=>
  simp only[VR]at D;obtain⟨c,g,m,s,F,rfl⟩:=D;have e:(bif wb b then(match aD ch b with
   |some (.arr I af u l)=>bif al n I then(l[i]?).bind λy=>(Kx u x p y).bind λL=>k .undef (cW ch b (.arr I af u (l.set i L)))else ae
   |_=>ae)else ae)=ab r:=e
  cases hw:wb b with
  |false=>grind
  |true=>
   rw[hw,ao]at e;split at e
   .rename_i n' u l J;cases hn:al n n' with
    |false=>grind
    |true=>
     rw[hn,ao]at e;have:=bU hn;subst this;obtain⟨u0,U,G⟩:=Z.arr b n af u l J;rw[F]at U;cases U;rcases G with⟨q,_⟩|⟨c',g',ro,U,G,Q,R,q5⟩<;>try trivial
     cases G;have:=R rfl;subst this;obtain⟨y,N,e⟩:=ay.1 e;obtain⟨L,S,e⟩:=ay.1 e;obtain⟨T,r1,r2,r3⟩:=atG (h:=h) H o S;show OS wb M ch h (bif cA ti A then(lE h c g ((i,i*u.wd)::p) A).map λh'=>(.undef,h')else ae) k r
     rw[f,ao];have:lE h c g ((i,i*u.wd)::p) A=ab (aI h c (.arr g u.wd 0 ((l.set i L).map u.enc))):=by
      unfold lE;rw[Q];show(bif al g g&&(al (i*u.wd) (i*u.wd)&&bu 0 i)then(bG (l.map u.enc) i).bind λd=>(A.data h).bind λT=>(V.put (.im T) p (.im d)).bind λI=>(match I with
       |.im d'=>bif Go.As.gH h A.owns&&not (bg A.owns c)then ab (aI (Go.As.close h A.owns) c (.arr g u.wd 0 (bC (l.map u.enc) i d')))else ae
       |_=>ae:Option Heap)else ae)=_
      rw[gj,gj,cu,pb,N,km (bH i)];show((A.data h).bind λT=>_:Option Heap)=_
      rw[r1,ah,r3,ah,r2];show ab (aI h c (.arr g u.wd 0 (bC (l.map u.enc) i (u.enc L))))=_;simp
     rw[this];exact⟨.undef,_,.undef,_,M,rfl,trivial,Z.adV J (by simp) U F (λ_=>rfl) (bH _),⟨.refl M,by simp[e9,aL],by grind[b9],λj _ hi=>by
      rw[gp _ _ _ _ (fy J),ax (by grind)],lA,uO U (Z.len _ _ U).2⟩,e⟩
   trivial
 |tl b d p=>
  have e:(bif wb b then(match aD ch b with
   |some (.cC u l vs)=>bif bu d (aF vs)then(bG vs (oY (aF vs) d)).bind λw=>(x.put p w).bind λw'=>k .undef (cW ch b (.cC u l (bC vs (oY (aF vs) d) w')))else ae
   |_=>ae)else ae)=ab r:=e
  obtain⟨hw,e⟩:=aU e;split at e
  .rename_i u l vs J;obtain⟨hd,e⟩:=aU e;obtain⟨w,W,e⟩:=ay.1 e;obtain⟨w',X,e⟩:=ay.1 e;obtain⟨c,g,B,i,j,z,rfl,U,G,Q,R,q5,q6,q7,q8⟩:=Un Z J D hd W;obtain⟨Y,O,P,_⟩:=VR.put H o q5 X;show OS wb M ch h (bif cA ti A then(lE h c g ((i,i*u.wd)::p) A).map λh'=>(.undef,h')else ae) k r
   rw[f,ao];have:lE h c g ((i,i*u.wd)::p) A=ab (aI h c (.cG g u.wd ((l.map λx=>V.im (u.enc x))++B.set j Y))):=by
    unfold lE;rw[G];show(bif al g g&&al (i*u.wd) (i*u.wd)then(bG ((l.map λx=>V.im (u.enc x))++B) i).bind λv=>(V.put A p v).map λI=>aI h c (.cG g u.wd (bC ((l.map λx=>V.im (u.enc x))++B) i I))else ae)=_
    rw[gj,gj,cu,R];show((V.put A p z).map λI=>aI h c (.cG g u.wd (bC ((l.map λx=>V.im (u.enc x))++B) i I)))=_
    rw[O];show ab (aI h c (.cG g u.wd (bC ((l.map λx=>V.im (u.enc x))++B) i Y)))=_
    rw[eO,q6,List.set_append_right _ _ (by simp)]
    simp
   rw[this];rw[q7]at e;refine⟨.undef,_,.undef,_,M,rfl,trivial,Z.Sy J U (by rw[eO,fQ]) q8 (us':=B.set j Y) ?_,⟨.refl M,by rw[e9];exact aL _,by rw[b9];split<;>omega,λi _ hi=>by
     rw[gp _ _ _ _ (fy J),ax (by intro q;subst q;rw[hw]at hi;cases hi)],lA,uO U (Z.len _ _ U).2⟩,e⟩
   rw[eO];exact Q.set j P
  trivial
 |_=>cases e
end
section
variable [Gh]
variable {ρ:Type} {wb:Nat->Bool} {M:Mu} {ch:CH} {h:Heap} {k:KC ρ} {r:ρ} {E:Env}
theorem asf(J:HS M ch h){x:CV}{U:V}(I:VR M x U)(e:acp x ch k=ab r):OS wb M ch h (Fz h U) k r:=by
 cases x<;>first|rename_i b d p;have A:=I;simp only[VR]at I;obtain⟨_,_,_,_,_,_,_,rfl⟩:=I;exact OS.plain J A e|rename_i b n i p;have A:=I;simp only[VR]at I;obtain⟨c,g,m,s,Z,rfl⟩:=I;exact OS.plain J A e|rename_i b p;have A:=I;simp only[VR]at I;obtain⟨c,Z,rfl⟩:=I;exact OS.plain J A e|rename_i t y;have A:=I;simp only[VR]at I;subst I;exact OS.plain J A e|cases e
theorem NB{op:BinOp}{j:IntKind}{a b:Int}(e:G0 op j a b ch k=ab r):∃v cv,intArith op j a b=ab v/\VR M cv v/\k cv ch=ab r:=by
 have hi:∀n,kI j ch k n=ab r->∃v cv,im j n=ab v/\VR M cv v/\k cv ch=ab r:=λn e=>⟨_,.sy (.int j) n,rfl,by rfl,e⟩
 have A:∀b,kB ch k b=ab r->∃v cv,bm b=ab v/\VR M cv v/\k cv ch=ab r:=λb e=>⟨_,.sy .bool b,rfl,by rfl,e⟩
 cases op with
 |quo=>
  have e:(bif aj b 0 then ae else kI j ch k (wr j (a.tdiv b)))=ab r:=e;show∃v cv,(bif aj b 0 then ae else im j (wr j (a.tdiv b)))=ab v/\_;grind
 |rem=>
  have e:(bif aj b 0 then ae else kI j ch k (a.tmod b))=ab r:=e;show∃v cv,(bif aj b 0 then ae else im j (a.tmod b))=ab v/\_;grind
 |shl=>
  have e:(bif ak b 0 then ae else kI j ch k (wr j (a*aE (2^BP b.toNat (kb j)))))=ab r:=e;show∃v cv,(bif ak b 0 then ae else im j (wr j (a*aE (2^BP b.toNat (kb j)))))=ab v/\_;grind
 |shr=>
  have e:(bif ak b 0 then ae else kI j ch k (a.fdiv (aE (2^BP b.toNat (kb j)))))=ab r:=e;show∃v cv,(bif ak b 0 then ae else im j (a.fdiv (aE (2^BP b.toNat (kb j)))))=ab v/\_;grind
 |eql|neq|lss|leq|gtr|geq=>exact A _ e
 |_=>exact hi _ e
theorem acP{ti:TI}{u:Ty}(hw:al u.wd ti.size=ag)(x:u.den)(A:Ek ti.k (.sy u x)=ag):cA ti (.im (u.enc x))=ag:=
 (iO (M:=⟨λ_=>ae,λ_ _=>ae⟩) (v:=.sy u x) rfl (by unfold dE;rw[aM];trivial)).1
theorem Yl:∀(n t:Nat) (u:Ty),iJ E n t u=ag->tX E n t=ag->(u=.bool∨(∃j,u=.int j)∨∃w l,u=.st w l)/\∀a b:u.den,hZ E n t (u.enc a) (u.enc b)=ab (cJ u a b)
 |0,_,_,h,_=>by cases h
 |n+1,t,u,h,I=>by
  unfold iJ at h;split at h
  .cases h
  rename_i ti J;rw[aM]at h;obtain⟨hw,h⟩:=h;simp only[tX,J]at I;have step:∀a b:u.den,(∀x:u.den,Ek ti.k (.sy u x)=ag)->hZ E (n+1) t (u.enc a) (u.enc b)=(match ti.k,u.enc a,u.enc b with
   |.bool,.bool a,.bool b=>ab (a==b)
   |.int _,.int k a,.int e b=>bif gu k e then ab (aj a b)else ae
   |.st fs,.agg _ xs,.agg _ g=>hZ.se fs 0 xs g (hZ E n)
   |_,_,_=>ae):=λa b A=>by
   show((E.ty t).bind λti=>_:Option Bool)=_
   rw[J,ah,acP hw a (A a),acP hw b (A b)];rfl
  split at h
  .rename_i A;refine⟨.inl rfl,λa b=>?_⟩
   rw[step a b (λx=>by rw[A];rfl),A]
   rfl
  .rename_i k e A;have:=QD h;subst this;refine⟨.inr (.inl ⟨_,rfl⟩),λa b=>?_⟩
   rw[step a b (λx=>by rw[A];rfl),A]
   simp only[Ty.enc,cJ];have:gu k k=ag:=by cases k<;>rfl
   grind
  .rename_i A;rw[A]at I;cases I
  .rename_i A;rw[A]at I;cases I
  .rename_i fs w l A;rw[A]at I;have U:∀(fs:List (Nat×Nat×Nat)) (l:Ty) (o:Nat),tO (λt u=>iJ E n t u) w fs l o=ag->(fs.all λf=>tX E n f.2.2)=ag->∀a b:l.den,hZ.se fs o (l.dY a) (l.dY b) (hZ E n)=ab (cJ l a b):=by
    intro fs;induction fs with
    |nil=>
     intro l o h1 h2;cases l with
     |nl=>exact λa b=>by rfl
     |_=>cases h1
    |cons f fs Z=>
     intro l o h1 h2;cases l with
     |cn v l=>
      simp only[tO,aM]at h1;obtain⟨d,s,i,m⟩:=h1;rw[vp,aM]at h2;obtain⟨_,p⟩:=Yl n f.2.2 v i h2.1;have q:=Z l (o+v.wd) m h2.2;intro a b
      obtain⟨f0,f1,f2⟩:=f;simp only[Ty.dY];show(bif al f0 o then(match hZ E n f2 (v.enc a.1) (v.enc b.1),hZ.se fs (o+(v.enc a.1).wd) (l.dY a.2) (l.dY b.2) (hZ E n)with
       |some b,ab c=>ab (b&&c)
       |_,_=>ae)else ae)=_
      have d:al f0 o=ag:=d;rw[d,ao,p,oA,q];rfl
     |_=>cases h1
   refine⟨.inr (.inr ⟨_,_,rfl⟩),λa b=>?_⟩
   rw[step a b (λx=>by rw[A];rfl),A]
   simp only[Ty.enc];exact U fs l 0 h I a b
  .rename_i A;rw[A]at I;cases I
  trivial
theorem alB(I:HS M ch h){op:BinOp}{t:Nat}{lit:Bool}{a b:List (Nat×Int)}(e:Yo E op t lit a b ch k=ab r):OS wb M ch h (l7 h (jP E op t lit (.im (iL a)) (.im (iL b)))) k r:=by
 cases b with
 |cons _ _=>cases e
 |nil=>
  obtain⟨ti,U,e⟩:=ay.1 e;split at e
  .rename_i m A;cases hm:not m||lit with
   |false=>grind
   |true=>
    rw[hm]at e;have Z:agy ti.k lit=ag:=by
     rw[A];cases m<;>first|exact hm|rfl
    have J:oC E t lit (.im (iL a)) (.im (iL []))=ab (cY a):=by
     unfold oC;have:(oH (.im (iL a))||oH (.im (iL [])))=ag:=by cases a<;>rfl
     have h1:qP ti.k (.im (iL a))=ab (cY a):=by
      rw[A];cases a<;>rfl
     have h2:qP ti.k (.im (iL []))=ab ag:=by
      rw[A];rfl
     grind
    have c:jP E op t lit (.im (iL a)) (.im (iL []))=oB E op t lit (.im (iL a)) (.im (iL [])):=by cases a<;>rfl
    rw[c];split at e
    .exact (show l7 h (oB E .eql t lit (.im (iL a)) (.im (iL [])))=ab (.im (.bool (cY a)),h) by unfold oB;rw[J];rfl)▸OS.plain (cv:=.sy .bool (cY a)) I rfl e
    .exact (show l7 h (oB E .neq t lit (.im (iL a)) (.im (iL [])))=ab (.im (.bool (not (cY a))),h) by unfold oB;rw[J];rfl)▸OS.plain (cv:=.sy .bool (not (cY a))) I rfl e
    trivial
  trivial
theorem ano(A:HS M ch h){t:Nat}{x:CV}{I:V}(J:VR M x I)(e:Qb E t x ch k=ab r):OS wb M ch h (Fw E h t I) k r:=by
 unfold Qb at e;unfold Fw;split at e
 .cases e
 .rename_i U d Z;rw[Z];split at e
  .replace e:=ay.1 e;obtain⟨y,a,e⟩:=e;obtain⟨rfl,he,_⟩:=jR a;subst J;cases U with
   |ifc m=>grind
   |_=>
    refine OS.plain (cv:=.sy .err ((t,y.1)::y.2.1)) A ?_ e;simp_all[VR,he,Ty.enc,Ty.dY,iL]
  .rename_i b p;obtain⟨c,f,rfl⟩:=J;cases U with
   |ifc m=>grind
   |_=>exact OS.plain (cv:=.ifc t (.ptr b p)) A (by simp[VR];grind) e
  trivial
 trivial
theorem ajG(n:HS M ch h){op:BinOp}{t:Nat}{lit:Bool}{x y:CV}{Z d:V}(f:VR M x Z)(g:VR M y d)(e:NL E op t lit x y ch k=ab r):OS wb M ch h (l7 h (jP E op t lit Z d)) k r:=by
 have U:∀{v cv},jP E op t lit Z d=ab v->VR M cv v->k cv ch=ab r->OS wb M ch h (l7 h (jP E op t lit Z d)) k r:=λh1 h2 m=>by
  rw[h1];exact OS.plain n h2 m
 unfold NL at e;split at e
 .simp_all[VR,Ty.enc,alB,n,e]
 .rename_i j a i b;simp only[VR,Ty.enc]at f g;subst f;subst g;have step:∀o,(∃v cv,intArith o j a b=ab v/\VR M cv v/\k cv ch=ab r)->(jP E op t lit (.im (.int j a)) (.im (.int i b))=intArith o j a b)->OS wb M ch h (l7 h (jP E op t lit (.im (.int j a)) (.im (.int i b)))) k r:=λo ⟨v,cv,h1,h2,m⟩ he=>U (he.trans h1) h2 m
  split at e
  .exact step .shl (NB e) rfl
  .exact step .shr (NB e) rfl
  .rename_i D F;cases q:gu j i with
   |false=>grind
   |true=>
    rw[q,ao]at e;refine step op (NB e) ?_;show DJ op j a i b=_;unfold DJ;grind
 .rename_i u a I b _ s;simp only[VR]at f g;subst f;subst g;cases A:Ut E u t with
  |false=>grind
  |true=>
   rw[A,ao]at e;simp only[Ut,aM]at A;obtain⟨p,z,e⟩:=ay.1 e;obtain⟨rfl,he,_⟩:=jR z;obtain⟨B,J⟩:=Yl 12 t I A.1 A.2;have key:∀c:Bool,kB ch k c=ab r->jP E op t lit (.im (I.enc a)) (.im (I.enc b))=ab (.im (.bool c))->OS wb M ch h (l7 h (jP E op t lit (.im (I.enc a)) (.im (I.enc b)))) k r:=λc h1 h2=>U (cv:=.sy .bool c) h2 rfl h1
   replace J:hZ E 12 t (I.enc a) (I.enc b)=ab (cJ I a p):=by have:=J a p;simp_all
   rcases B with rfl|⟨j,rfl⟩|⟨w,l,rfl⟩
   .split at e
    .exact key _ e (by simp[jP,Ty.enc,oB,oC,oH,A.2];exact J)
    .exact key _ e (by simp[jP,Ty.enc,oB,oC,oH,A.2];exact J)
    trivial
   .grind
   .split at e
    .exact key _ e (by simp[jP,Ty.enc,oB,oC,oH,A.2];exact J)
    .exact key _ e (by simp[jP,Ty.enc,oB,oC,oH,A.2];exact J)
    trivial
 trivial
end
section
variable [Gh]
variable {ρ:Type} {wb:Nat->Bool} {M:Mu} {ch:CH} {h:Heap} {k:KC ρ} {r:ρ} {E:Env}
theorem VR.int{j:IntKind}{n:Int}{u:V}(h:VR M (.sy (.int j) n) u):u=.im (.int j n):=by trivial
theorem VR.bool{b:Bool}{u:V}(h:VR M (.sy .bool b) u):u=.im (.bool b):=by trivial
theorem VR.str{s:List Nat}{u:V}(h:VR M (.sy .str s) u):u=.im (.str s):=by trivial
theorem VR.an{t:Ty}{l:List t.den}{u:V}(h:VR M (.sy (.an t) l) u):u=.im (.an (l.map t.enc)):=by trivial
theorem OS.of_int(A:HS M ch h){j:IntKind}{n:Int}(e:kI j ch k n=ab r):OS wb M ch h (ab (.im (.int j n),h)) k r:=OS.plain A (by rfl) e
theorem awo(A:HS M ch h){op:UnOp}{x:CV}{I:V}(J:VR M x I)(e:Uv op x ch k=ab r):OS wb M ch h (l7 h (Bo op I)) k r:=by
 unfold Uv at e;split at e
 .have:=J.bool;subst this;exact OS.plain (cv:=.sy .bool _) A (by rfl) e
 .have:=J.int;subst this;exact OS.of_int A e
 trivial
theorem akP(I:HS M ch h){s d:Nat}{x:CV}{A:V}(J:VR M x A)(e:Oi E s d x ch k=ab r):OS wb M ch h (sd E h h.length s d A) k r:=by
 unfold Oi at e;unfold sd;split at e
 .rename_i h1 h2;have:=J.int;simp_all[h1,h2,OS.of_int,I,e]
 trivial
theorem HV{J:Nat->Option (Nat×Nat)}:∀(ps:List (Nat×CV)) (I:List (Nat×V)) (l:List CV) (g:List V) {y:List CV},I.map fg=ps.map fg->aO M (ps.map gU) (I.map gU)->aO M l g->ib l=ag->HT J ps l=ab y->
  ∃s,mE g J I=ab s/\aO M y s/\ib y=ag
 |[],I,l,g,y,h1,_,z,B,e=>by
  cases I
  .cases e;exact⟨g,rfl,z,B⟩
  cases h1
 |p::ps,I,l,g,y,h1,h2,z,B,e=>by
  cases I with
  |nil=>cases h1
  |cons Z I=>
   simp at h1;obtain⟨u,P,he,A,Q⟩:=h2;cases he;obtain⟨v,F,e⟩:=ay.1 e;obtain⟨c,G,e⟩:=ay.1 e;rw[cu]at G;obtain⟨c',H,K⟩:=z.get G;cases L:al (va l p.1) v.1&&(al c.wd v.2&&(al p.2.wd v.2&&z4 p.2))with
   |false=>grind
   |true=>
    rw[L,ao,eO]at e;simp only[aM]at L;obtain⟨R,S,T,U⟩:=L;have D:gq p.2=af:=by cases hp:p.2<;>first|rfl|(rw[hp]at U;cases U)
    have N:jU Z.2=ag:=by
     cases hp:p.2 with
     |undef=>rw[hp]at U;cases U
     |sy t x=>
      rw[hp]at A U;rw[A];cases t<;>first|rfl|(cases U;done)|(cases x<;>rfl)|simp[Ty.enc,jU]
     |ifc t c=>rw[hp]at A;simp only[VR]at A;obtain⟨_,O,_⟩:=A;rw[O];rfl
     |rf t x=>rw[hp]at A;simp only[VR]at A;rw[A];rfl
     |py d=>
      rw[hp]at A U;simp only[VR]at A;rw[A];cases d<;>first|rfl|cases U
     |fK=>rw[hp]at A;simp only[VR]at A;rw[A];rfl
     |agg w l=>
      rw[hp]at A;obtain⟨vs,O,_⟩:=A;rw[O];unfold fJ;cases ga vs<;>rfl
     |aH l=>rw[hp]at U;cases U
     |own b n=>
      rw[hp]at A;obtain⟨_,_,q⟩:=A;cases W:Z.2<;>first|rfl|(rw[W]at q;cases q)
     |ptr b q=>rw[hp]at A;simp only[VR]at A;obtain⟨_,_,q⟩:=A;rw[q];rfl
     |el b n i q=>rw[hp]at A;simp only[VR]at A;obtain⟨_,_,_,_,_,q⟩:=A;rw[q];rfl
     |fn f a c=>rw[hp]at A;simp only[VR]at A;obtain⟨_,_,q,_⟩:=A;rw[q];rfl
     |iv t l=>rw[hp]at A;simp only[VR]at A;rw[A];rfl
     |dR b n o m aP=>rw[hp]at A;simp only[VR]at A;rcases A with⟨_,_,_,_,_,q,_⟩|⟨_,_,q,_⟩<;>rw[q]<;>rfl
     |mp b=>rw[hp]at A;simp only[VR]at A;obtain⟨_,_,q⟩:=A;rw[q];rfl
     |yl b=>rw[hp]at A;simp only[VR]at A;obtain⟨_,_,q⟩:=A;rw[q];rfl
     |iM j t l=>rw[hp]at U;cases U
     |tl b d q=>rw[hp]at A;simp only[VR]at A;obtain⟨_,_,_,_,_,_,_,q⟩:=A;rw[q];rfl
     |fw t l c=>rw[hp]at U;cases U
    obtain⟨s,X,Y,r3⟩:=HV ps I (l.set p.1 p.2) (g.set p.1 Z.2) h1.2 Q (z.set _ A) (acx B _ D) e;refine⟨s,?_,Y,r3⟩;show((J Z.1).bind λv=>(bG g Z.1).bind λc=>bif al (iU g Z.1) v.1&&(al c.wd v.2&&(al Z.2.wd v.2&&jU Z.2))then mE (bC g Z.1 Z.2) J I else ae)=_
    rw[h1.1,F,ah,cu,H,ah,<-L6 z B,R,<-K.wd (acw B G),S,<-A.wd D,T,N,eO];exact X
theorem aj5(b:HS M ch h){t:Nat}{ps:List (Nat×CV)}{A:List (Nat×V)}(h1:A.map fg=ps.map fg)(h2:aO M (ps.map gU) (A.map gU))(e:WN E t ps ch k=ab r):OS wb M ch h (xQ E h t A) k r:=by
 obtain⟨ti,g,e⟩:=ay.1 e;obtain⟨l,i,e⟩:=ay.1 e;obtain⟨c,j,d,f⟩:=(uL (M:=M) ti.zero).kids i;unfold xQ;rw[g,ah,j,ah];split at e
 .rename_i fs I;obtain⟨n,hf,e⟩:=ay.1 e;obtain⟨J,U,Z,a⟩:=HV ps A l c h1 h2 d f hf;simp only[I];rw[U];exact OS.plain b (VR.l5 Z a) e
 .rename_i m el I;obtain⟨te,hte,e⟩:=ay.1 e;obtain⟨n,hf,e⟩:=ay.1 e;obtain⟨J,U,Z,a⟩:=HV ps A l c h1 h2 d f hf;simp[I];rw[hte,ah,U];exact OS.plain b (VR.l5 Z a) e
 trivial
theorem alQ(U:HS M ch h){t j:Nat}{x:CV}{a:V}(Z:VR M x a)(e:Yv E t x j ch k=ab r):OS wb M ch h (A6 E h t a j) k r:=by
 obtain⟨ti,o,e⟩:=ay.1 e;unfold A6;rw[o,ah];split at e
 .rename_i fs q;obtain⟨f,hf,e⟩:=ay.1 e;simp only[q];rw[hf,ah];cases v:al f.2.1 0 with
  |true=>grind
  |false=>
   rw[v]at e;cases x with
   |ptr b p=>
    obtain⟨c,l,rfl⟩:=Z;exact OS.plain (cv:=.ptr b (p++[(j,f.1)])) U (by simp[VR];grind) e
   |el b n i p=>
    obtain⟨c,g,m,s,l,rfl⟩:=Z;exact OS.plain (cv:=.el b n i (p++[(j,f.1)])) U (by simp[VR];grind) e
   |tl b d p=>
    obtain⟨c,g,i,s,m,l,D,rfl⟩:=Z;exact OS.plain (cv:=.tl b d (p++[(j,f.1)])) U (by simp[VR];grind) e
   |rf u y=>
    subst Z;have e:(match CV.eF (.sy u y) j f.1 with
     |some (.sy A I)=>bif al A.wd f.2.1 then k (.rf A I) ch else ae
     |_=>ae)=ab r:=e
    split at e
    .rename_i A I J;obtain⟨z,w,B,_⟩:=(show VR M (.sy u y) (.im (u.enc y))from rfl).eF J;subst B;cases hw:al A.wd f.2.1 with
     |false=>grind
     |true=>
      rw[hw]at e;show OS wb M ch h (match V.eF (.im (u.enc y)) j f.1 with
       |some (.im d')=>bif al d'.wd f.2.1 then ab (.im (.ref d'),h)else ae
       |_=>ae) k r
      rw[w];show OS wb M ch h (bif al (A.enc I).wd f.2.1 then ab (.im (.ref (A.enc I)),h)else ae) k r;rw[oA,hw];exact OS.plain (cv:=.rf A I) U (by rfl) e
    trivial
   |_=>cases e
 trivial
theorem axt{A:TK}{v:CV}{u:V}(h:VR M v u)(I:gq v=af)(e:Ek A v=ag):iy A u=ag:=by
 have:=(iO (ti:=⟨A,v.wd,0,.undef⟩) h (by simp[dE,aM,gj,e])).1
 simp_all[cA,aM,this]
theorem alp(A:HS M ch h){b n I:Nat}{c:Bool}{t:Ty}{l:List t.den}(J:aD ch b=ab (.arr I c t l))(U:al n I=ag){v:V}(a:VR M (.own b n) v)(Z:0< l.length):
  ∃x g,v=.own x g 0 l.length af/\M.o b n=ab (.own x g 0 l.length af,t.wd):=by
 rcases A.own J U a with⟨_,rfl,_⟩|⟨x,g,ro,_,rfl,_⟩<;>try grind
 have:=bU U;subst this;obtain⟨u,h1,_⟩:=A.arr b n c t l J;grind
theorem av7{α:Type}{l:List α}{vs:List CV}{n:Int}{I:Nat->Option ρ}(e:Uj l vs n I=ab r):
  ∃d,ai 0 n=ag/\ak n (aE (l.length+vs.length))=ag/\n.toNat+d=l.length+vs.length/\I d=ab r:=by
 unfold Uj at e;split at e
 .replace e:=aU e;obtain⟨A,e⟩:=e;rw[pJ,decide_eq_true_eq]at A;subst A;refine⟨1,?_,?_,?_,e⟩<;>try trivial
  rw[oF];grind
 split at e
 .obtain ⟨A,e⟩:=aU e;rw[aM,gX]at A;have h2:n.toNat< vs.length:=by
   simp_all
  refine⟨_,by simp[gX,decide_eq_true_eq,A],?_,?_,e⟩
  .simp_all[oF,decide_eq_true_eq]
  grind[oY,bz]
 trivial
theorem anv(J:HS M ch h){t:Nat}{x i:CV}{O P:V}(I:VR M x O)(hi:VR M i P)(e:Qg E t x i ch k=ab r):OS wb M ch h (pX E h t O P) k r:=by
 unfold Qg at e;split at e
 .rename_i j n;have:=hi.int;subst this;obtain⟨ti,T,f⟩:=ay.1 e;clear e;show OS wb M ch h ((E.ty t).bind λti=>_) k r
  rw[T,ah];split at f
  .rename_i el D;obtain⟨te,hte,e⟩:=ay.1 f;clear f;simp only[D];split at e
   .rename_i u l;have:=I.an;subst this;cases hw:al u.wd te.size with
    |false=>grind
    |true=>
     rw[hw,ao]at e;cases A:ai 0 n with
     |false=>grind
     |true=>
      rw[A,ao]at e;obtain⟨y,F,e⟩:=ay.1 e;show OS wb M ch h (oz E h el (l.map u.enc) n) k r;unfold oz;rw[hte,ah,A,ao,cu,pb,F];show OS wb M ch h (bif al (u.enc y).wd te.size then ab (.im (.ref (u.enc y)),h)else ae) k r;rw[oA,hw,ao];exact OS.plain (cv:=.rf u y) J (by rfl) e
   .rename_i b v;split at e
    .rename_i G c u l Z;cases hw:al v G&&al u.wd te.size with
     |false=>grind
     |true=>
      rw[hw,ao]at e;rw[aM]at hw;cases A:ai 0 n&&ak n (aE l.length)with
      |false=>grind
      |true=>
       rw[A,ao]at e;rw[aM]at A;have q:0< l.length:=by
        cases W:l with
        |nil=>
         exfalso;rw[W]at A;have h1:ak n 0=ag:=A.2;have h2:ai 0 n=ag:=A.1;simp_all[ai,h2,h1]
        |cons _ _=>simp
       obtain⟨y,g,rfl,Q⟩:=alp J Z hw.1 I q;show OS wb M ch h ((E.ty el).bind λte=>bif ai 0 n&&(ak n (aE l.length)&&(al 0 0||rh h y te.size))then ab (.ptr y g [(0+n.toNat,(0+n.toNat)*te.size)],h)else ae) k r
       rw[hte,ah,A.1,A.2];have U:=bU hw.2;rw[db,<-U];exact OS.plain (cv:=.el b v n.toNat []) J (by simp only[VR];grind) e
    .rename_i u l Z;replace e:=aU e;obtain⟨hw,e⟩:=e;rw[aM]at hw;have:=bU hw.1;subst this;obtain⟨A,e⟩:=aU e;rw[aM]at A;obtain⟨c,g,X,k1,k2,Y,k4⟩:=J.xr b _ Z;simp only[VR]at I;obtain⟨s0,I,_⟩:=I;rw[k2]at I;cases I;show OS wb M ch h ((E.ty el).bind λte=>bif ai 0 n&&(ak n (aE (l.length+([]:List CV).length))&&(al 0 0||rh h c te.size))then ab (.ptr c g [(0+n.toNat,(0+n.toNat)*te.size)],h)else ae) k r
     rw[hte,ah,A.1,show l.length+([]:List CV).length=l.length from rfl,A.2];have U:=bU hw.2;rw[db,<-U];exact OS.plain (cv:=.el b 0 n.toNat []) J (by simp only[VR];grind) e
    .rename_i u l vs _ Z;replace e:=aU e;obtain⟨hw,e⟩:=e;rw[aM]at hw;have:=bU hw.1;subst this;obtain⟨d,H,K,L,e⟩:=av7 e;obtain⟨c,g,X,k1,k2,Y,k4⟩:=J.xr b _ Z;simp only[VR]at I;obtain⟨s0,I,_⟩:=I;rw[k2]at I;cases I;have R:al 0 0||rh h c te.size=ag:=rfl
     show OS wb M ch h ((E.ty el).bind λte=>bif ai 0 n&&(ak n (aE (l.length+vs.length))&&(al 0 0||rh h c te.size))then ab (.ptr c g [(0+n.toNat,(0+n.toNat)*te.size)],h)else ae) k r
     rw[hte,ah,H,K];have U:=bU hw.2;rw[db,<-U];exact OS.plain (cv:=.tl b d []) J (by simp only[VR];exact⟨c,g,_,_,_,k2,L,rfl⟩) e
    trivial
   .rename_i u l;simp only[VR]at I;subst I;cases hw:al u.wd te.size with
    |false=>rw[hw,au]at e;cases e
    |true=>
     rw[hw,ao]at e;cases A:ai 0 n with
     |false=>rw[A,au]at e;cases e
     |true=>
      rw[A,ao]at e;obtain⟨y,F,e⟩:=ay.1 e;show OS wb M ch h (oz E h el (l.map u.enc) n) k r;unfold oz;rw[hte,ah,A,ao,cu,pb,F];show OS wb M ch h (bif al (u.enc y).wd te.size then ab (.im (.ref (u.enc y)),h)else ae) k r;rw[oA,hw,ao];exact OS.plain (cv:=.rf u y) J (by simp only[VR]) e
   .rename_i b v o m aP;split at e<;>try trivial
    rename_i G c u l Z;cases hw:al v G&&al u.wd te.size with
    |false=>rw[hw,au]at e;cases e
    |true=>
     rw[hw,ao]at e;rw[aM]at hw;cases A:ai 0 n&&ak n (aE m)with
     |false=>rw[A,au]at e;cases e
     |true=>
      rw[A,ao]at e;rw[aM]at A;rcases J.dR Z hw.1 I with⟨_,_,_,rfl⟩|⟨y,g,ro,_,rfl,_,hg,_,_,Q⟩
      .exfalso;have h1:ak n 0=ag:=A.2;have h2:ai 0 n=ag:=A.1;unfold ai at h2;rw[h1]at h2;cases h2
      show OS wb M ch h ((E.ty el).bind λte=>bif ai 0 n&&(ak n (aE m)&&(al (o.getD 0) 0||rh h y te.size))then ab (.ptr y g [(o.getD 0+n.toNat,(o.getD 0+n.toNat)*te.size)],h)else ae) k r
      have N:rh h y te.size=ag:=by
       unfold rh;rw[hg];show al u.wd te.size=ag;exact hw.2
      have s:Ej o n.toNat=o.getD 0+n.toNat:=by
       cases o
       .simp [Ej]
       rename_i o;simp[Ej,Ak]
      rw[hte,ah,A.1,A.2,N,F4,<-bU hw.2,<-s];exact OS.plain (cv:=.el b v (Ej o n.toNat) []) J (by simp only[VR];exact⟨y,g,_,_,Q,rfl⟩) e
   trivial
  .rename_i m el D;obtain⟨te,hte,e⟩:=ay.1 f;clear f;simp only[D];rw[hte,ah];cases A:ai 0 n&&(ak n (aE m)&&cQ 0 te.size)with
   |false=>rw[A,au]at e;cases e
   |true=>
    rw[A,ao]at e;rw[ao];cases x with
    |ptr b p=>
     simp only[VR]at I;obtain⟨c,hc,rfl⟩:=I;exact OS.plain (cv:=.ptr b (p++[(n.toNat,n.toNat*te.size)])) J (by simp only[VR];exact⟨c,hc,rfl⟩) e
    |rf u y=>
     simp only[VR]at I;subst I;have e:(match CV.eF (.sy u y) n.toNat (n.toNat*te.size)with
      |some (.sy a w)=>bif al a.wd te.size then k (.rf a w) ch else ae
      |_=>ae)=ab r:=e
     split at e<;>try trivial
     rename_i a w B;obtain⟨z,q1,S,_⟩:=(show VR M (.sy u y) (.im (u.enc y))from rfl).eF B;simp only[VR]at S;subst S;cases hw:al a.wd te.size with
     |false=>rw[hw,au]at e;cases e
     |true=>
      rw[hw,ao]at e;show OS wb M ch h (match V.eF (.im (u.enc y)) n.toNat (n.toNat*te.size)with
       |some (.im d')=>bif al d'.wd te.size then ab (.im (.ref d'),h)else ae
       |_=>ae) k r
      rw[q1];show OS wb M ch h (bif al (a.enc w).wd te.size then ab (.im (.ref (a.enc w)),h)else ae) k r;rw[oA,hw,ao];exact OS.plain (cv:=.rf a w) J (by simp only[VR]) e
    |_=>cases e
  trivial
 trivial
theorem alI(I:HS M ch h){x:CV}{A:V}{i:Nat}(J:VR M x A)(e:((x.part i).bind λv=>k v ch)=ab r):OS wb M ch h (l7 h (A.part i)) k r:=by
 obtain⟨v,U,e⟩:=ay.1 e;obtain⟨y,h1,h2⟩:=J.part U;rw[h1];exact OS.plain I h2 e
theorem arn{α:Type}{l:List α}{vs:List CV}{A:Nat->Option ρ}(e:Rb l vs A=ab r):A (l.length+vs.length)=ab r:=by
 unfold Rb at e;split at e
 .omega
 .exact e
 grind[bz]
theorem aro(J:HS M ch h){t:Nat}{x:CV}{Z:V}(A:VR M x Z)(e:Re E t x ch k=ab r):OS wb M ch h (rX E t h Z) k r:=by
 unfold Re at e;unfold rX;split at e
 .rename_i el u l I;have:=A.an;subst this;rw[I];simp_all[bz,gg,OS.of_int,J,e]
 .rename_i el I;simp_all[VR,I,OS.of_int,J,e]
 .rename_i el b v I;split at e
  .rename_i d c u l U;cases a:al v d with
   |false=>grind
   |true=>
    rw[a,ao]at e;rw[I];rcases J.own U a A with⟨rfl,rfl,_⟩|⟨y,g,ro,_,rfl,_⟩
    all_goals simp_all[OS.of_int,J,e]
  .rename_i u l vs U;replace e:=aU e;obtain⟨hw,e⟩:=e;have:=bU hw;subst this;obtain⟨c,g,f,k1,k2,i,j⟩:=J.xr b _ U;simp only[VR]at A;obtain⟨m,A,_⟩:=A;rw[k2]at A;cases A;rw[I];have e:=arn e;exact OS.of_int J e
  trivial
 .rename_i el u l I;simp only[VR]at A;subst A;rw[I];simp_all[bz,gg,OS.of_int,J,e]
 .rename_i el b v o n aP I;rw[I];simp only[VR]at A;rcases A with⟨_,_,_,_,_,rfl,_⟩|⟨_,_,rfl,rfl⟩
  all_goals simp_all[OS.of_int,J,e]
 trivial
theorem abR(Z:HS M ch h){j:IntKind}:∀{l:List CV} {I:List V} {a:Int},aO M l I->Rq j l ch k a=ab r->OS wb M ch h ((xd j I a).map λn=>(.im (.int j n),h)) k r
 |[],I,a,U,e=>by
  subst U;exact OS.of_int Z e
 |v::l,I,a,U,e=>by
  obtain⟨u,A,rfl,d,f⟩:=U;have e:(match(generalizing:=false) v with|.sy (.int J) b=>bif gu j J then Rq j l ch k (bif ai a b then a else b)else ae|_=>ae)=ab r:=e
  split at e
  .rename_i J b _;have:=d.int;subst this;cases c:gu j J with
   |false=>grind
   |true=>
    rw[c]at e;show OS wb M ch h ((bif gu j J then xd j A (bif ai a b then a else b)else ae).map λn=>(.im (.int j n),h)) k r
    rw[c];exact abR Z f e
  trivial
theorem abI(Z:HS M ch h){j:IntKind}:∀{l:List CV} {I:List V} {a:Int},aO M l I->Ro j l ch k a=ab r->OS wb M ch h ((xb j I a).map λn=>(.im (.int j n),h)) k r
 |[],I,a,U,e=>by
  subst U;exact OS.of_int Z e
 |v::l,I,a,U,e=>by
  obtain⟨u,A,rfl,d,f⟩:=U;have e:(match(generalizing:=false) v with|.sy (.int J) b=>bif gu j J then Ro j l ch k (bif ai a b then b else a)else ae|_=>ae)=ab r:=e
  split at e
  .rename_i J b _;have:=d.int;subst this;cases c:gu j J with
   |false=>grind
   |true=>
    rw[c]at e;show OS wb M ch h ((bif gu j J then xb j A (bif ai a b then b else a)else ae).map λn=>(.im (.int j n),h)) k r
    rw[c];exact abI Z f e
  trivial
end
section
variable [Gh]
variable {ρ:Type} {wb:Nat->Bool} {M:Mu} {ch:CH} {h:Heap} {k:KC ρ} {r:ρ} {E:Env}
theorem OS.sx(J:HS M ch h) t l g{n:Nat}(U:n=l.length)(e:kL ch (.arr 0 af t l) (λb ch=>k (.own b 0) ch)=ab r):
  OS wb M ch h (ab (.own h.length g 0 n af,aI h h.length (.arr g t.wd 0 (l.map t.enc)))) k r:=by
 subst U;have e:k _ _=ab r:=e;rw[bz]at e;obtain⟨A,I⟩:=J.sx t l g;exact⟨_,_,.own _ 0,_,_,rfl,⟨t.wd,aK ⟨rfl,rfl⟩,rfl⟩,I,⟨A,by simp,by simp[b9],λb Z _=>by rw[de,ax (by omega)],D6,AE⟩,e⟩
theorem yf{u:Ty}{te:TI}{z:u.den}(A:CV.dt [] u (ic te.zero)=ab z) h:te.zero.data h=ab (u.enc z):=by
 rw[Hv];exact((XZ (M:=⟨λ_=>ae,λ_ _=>ae⟩) (h:=h) u).1 _ _ _ A (uL _)).1
theorem arP(Z:HS M ch h){t:Nat}{l c:CV}{I J:V}(a:VR M l I)(b:VR M c J)(e:Jw E t l c ch k=ab r):OS wb M ch h (uZ E h.length h t I J) k r:=by
 replace e:=ay.1 e;obtain⟨ti,d,e⟩:=e;unfold uZ;rw[d,ah];split at e
 .rename_i el f;replace e:=ay.1 e;obtain⟨te,hte,e⟩:=e;replace e:=ay.1 e;obtain⟨u,i,e⟩:=e;replace e:=ay.1 e;obtain⟨z,g,e⟩:=e;simp only[f];rw[hte,ah,yf g];split at e
  .rename_i n m;have:=a.int;subst this;have:=b.int;subst this;cases A:al u.wd te.size&&dE te (.sy u z)with
   |false=>grind
   |true=>
    rw[A]at e;rw[aM]at A;cases U:ai 0 n&&(ai n m&&ai (m*aE te.bytes) 70368744177664)with
    |false=>grind
    |true=>
     rw[U]at e;show OS wb M ch h (bif cA te _&&(ai 0 n&&(ai n m&&ai _ _))then ab _ else ae) k r;rw[U,(iO (show VR M (.sy u z) _ from rfl) A.2).1,<-bU A.1,mc,<-yC];exact OS.sx Z u _ 0 (by simp) e
  trivial
 trivial
theorem HU(y:HS M ch h){u:Ty}{sz:Nat}(g:u.wd=sz):∀ps I l {Z:List u.den},I.map fg=ps.map fg->aO M (ps.map gU) (I.map gU)->zD ch u ps l=ab Z->
  lj h sz (l.map u.enc) I=ab (Z.map u.enc)/\Z.length=l.length/\ja I=(mW ps).filterMap M.b
 |[],I,l,Z,h1,_,e=>by
  cases I<;>first|cases e;exact⟨rfl,rfl,rfl⟩|cases h1
 |p::ps,I,l,Z,h1,h2,e=>by
  cases I with
  |nil=>cases h1
  |cons U I=>
   simp at h1;simp only[mo,aO]at h2;obtain⟨v,F,he,A,H⟩:=h2;cases he;have e:((CV.dt ch u p.2).bind λx=>bif cQ p.1 (aF l)&&z4 p.2 then zD ch u ps (l.set p.1 x)else ae)=ab Z:=e
   replace e:=ay.1 e;obtain⟨x,G,e⟩:=e;cases s:cQ p.1 (aF l)&&z4 p.2 with
   |false=>rw[s,au]at e;cases e
   |true=>
    rw[s,ao]at e;rw[aM,bz]at s;have z:p.1< l.length:=jl s.1;obtain⟨K,L,N⟩:=HU y g ps I (l.set p.1 x) h1.2 H e;have B:jU U.2=ag:=by
     have J:=s.2;cases hp:p.2 with
     |undef=>rw[hp]at J;cases J
     |sy t x=>
      rw[hp]at A J;simp[VR]at A;rw[A];cases t<;>first|rfl|(cases J;done)|(cases x<;>rfl)|simp[Ty.enc]
     |ifc t c=>rw[hp]at A;simp[VR]at A;obtain⟨_,D,_⟩:=A;rw[D];rfl
     |rf t x=>rw[hp]at A;rw[A];rfl
     |py d=>
      rw[hp]at A J;simp[VR]at A;rw[A];cases d<;>first|rfl|cases J
     |fK=>rw[hp]at A;rw[A];rfl
     |agg w l=>
      rw[hp]at A;simp[VR]at A;obtain⟨vs,D,_⟩:=A;rw[D];unfold fJ;cases ga vs<;>rfl
     |aH l=>rw[hp]at J;cases J
     |own b n=>
      rw[hp]at A;simp only[VR]at A;obtain⟨_,_,q⟩:=A;cases O:U.2<;>first|rfl|(rw[O]at q;cases q)
     |ptr b q=>rw[hp]at A;simp[VR]at A;obtain⟨_,_,q⟩:=A;rw[q];rfl
     |el b n i q=>rw[hp]at A;simp[VR]at A;obtain⟨_,_,_,_,_,q⟩:=A;rw[q];rfl
     |fn f a c=>rw[hp]at A;simp[VR]at A;obtain⟨_,_,q,_⟩:=A;rw[q];rfl
     |iv t l=>rw[hp]at A;rw[A];rfl
     |dR b n o m aP=>rw[hp]at A;simp only[VR]at A;rcases A with⟨_,_,_,_,_,q,_⟩|⟨_,_,q,_⟩<;>rw[q]<;>rfl
     |mp b=>rw[hp]at A;simp[VR]at A;obtain⟨_,_,q⟩:=A;rw[q];rfl
     |yl b=>rw[hp]at A;simp[VR]at A;obtain⟨_,_,q⟩:=A;rw[q];rfl
     |iM j t l=>rw[hp]at J;cases J
     |tl b d q=>rw[hp]at A;simp[VR]at A;obtain⟨_,_,_,_,_,_,_,q⟩:=A;rw[q];rfl
     |fw t l c=>rw[hp]at J;cases J
    refine⟨?_,by rw[L,fQ],?_⟩
    .show ((U.2.data h).bind λd=>(bG (l.map u.enc) U.1).bind λ_=>bif al d.wd sz&&jU U.2 then lj h sz (bC (l.map u.enc) U.1 d) I else ae)=_
     rw[HL y G A,ah,cu,h1.1,pb,List.getElem?_eq_getElem z];show(bif al (u.enc x).wd sz&&jU U.2 then lj h sz (bC (l.map u.enc) p.1 (u.enc x)) I else ae)=_;rw[oA,g,gj,B,eO,<-List.map_set];exact K
    have P:=(R5 y u).1 p.2 x U.2 G A;show(match V.owns U.2 with|[]=>ja I|Q=>Q++ja I)=(p.2.iP++mW ps).filterMap M.b
    rw[AG,P,N,BO];cases(List.filterMap M.b p.2.iP)<;>rfl
theorem Nn:∀ps A,aO M (ps.map gU) (A.map gU)->jQ.rS ps=ag->rV A=af
 |[],A,h2,_=>by
  cases A<;>first|rfl|simp only[List.map_nil,aO]at h2;cases h2
 |p::ps,A,h2,e=>by
  simp[mo,aO]at h2;obtain⟨v,I,he,J,U⟩:=h2;cases A with
  |nil=>cases he
  |cons Z A=>
   cases he;have e:(match p.2 with|.sy _ _=>jQ.rS ps|_=>af)=ag:=e
   split at e
   .rename_i t x hp;rw[hp]at J;show(match Z.2 with|.im _=>rV _|_=>ag)=af
    rw[J];exact Nn ps _ U e
   cases e
theorem aj3(a:HS M ch h){keep:Bool}{t n:Nat}{ps:List (Nat×CV)}{A:List (Nat×V)}(h1:A.map fg=ps.map fg)(h2:aO M (ps.map gU) (A.map gU))(e:jQ E keep t n ps ch k=ab r):
  OS wb M ch h (mf E keep h.length h t n A) k r:=by
 obtain⟨ti,c,e⟩:=ay.1 e;unfold mf;rw[c,ah];split at e
 .rename_i el d;obtain⟨te,hte,e⟩:=ay.1 e;obtain⟨u,w,e⟩:=ay.1 e;obtain⟨z,f,e⟩:=ay.1 e;simp only[d];rw[hte,ah];cases Z:bu (n*te.size) 16777216&&bu n 16777216&&(al u.wd te.size&&(dE te (.sy u z)&&(jQ.zZ (mW ps)&&(not keep||jQ.rS ps))))with
  |false=>grind
  |true=>
   rw[Z]at e;rw[aM]at Z;obtain⟨g,U⟩:=Z;simp only[aM]at U;obtain⟨U,i,b,j⟩:=U;obtain⟨l,m,e⟩:=ay.1 e;have J:=bU U;obtain⟨o,p,q⟩:=HU a J ps _ _ h1 h2 m;have s:mW ps=[]:=by
    cases v:mW ps<;>first|rfl|rw[v]at b;cases b
   have I:(keep&&rV A)=af:=by
    cases keep<;>first|rw[Nn ps A h2 j];rfl|rfl
   rw[g,yf f,ah,(iO (show VR M (.sy u z) _ from rfl) i).1,I,mc,<-yC,o];rw[q,s,<-J];exact OS.sx a u l 0 (by simp[p]) e
 trivial
def Mu.add(M:Mu)(n c g m s:Nat):Mu:=⟨λi=>if i=n then ab c else M.b i,λi j=>if i=n then if j=0 then ab (.own c g 0 m af,s)else ae else M.o i j⟩
theorem HS.ks(J:HS M ch h){x:CB}{h':Heap}{c g m s:Nat}(A:∀b,aD ch b≠ae->M.b b≠ab c)(O:c< h'.length)(V:h.length<=h'.length)(P:∀y,y< h.length->y≠c->ar h' y=ar h y)
  (H:∀v,x≠.cell v) (Q:∀n cl t l,x=.arr n cl t l->n=0/\m=l.length/\s=t.wd/\∃ro,ar h' c=ab (.arr g t.wd ro (l.map t.enc))/\(cl=af->ro=0)/\ro<=l.length)
  (W:XR (M.add ch.length c g m s) h' ch.length x):M.le (M.add ch.length c g m s)/\HS (M.add ch.length c g m s) (ch++[ab x]) h':=by
 have I:M.le (M.add ch.length c g m s):=⟨λi K e=>by
  show(if i=ch.length then ab c else M.b i)=ab K;rw[ax (by intro q;subst q;rw[J.rK]at e;cases e)];exact e,λi n y e=>by
  show(if i=ch.length then _ else M.o i n)=ab y;rw[ax (by intro q;subst q;exact absurd (J.gw _ _ _ e) (gE _))];exact e⟩
 have a:∀b y d,aD ch b=ab y->M.b b=ab d->ar h' d=ar h d:=λb y d e q=>P d (J.len _ _ q).2 (by
  intro p;subst p;exact A b (by rw[e];simp) q)
 refine⟨I,⟨λb cv e=>?_,λb n cl t l e=>?_,λb b' d j w U Z=>?_,λb n cl t l e=>?_,λb d e=>?_,λb n y e=>?_,λb y e=>?_⟩⟩
 .rw [de]at e;split at e<;>try grind
  obtain⟨K,R,h1,h2,S⟩:=J.cell b cv e;exact⟨K,R,I.b _ _ h1,(a _ _ _ e h1).trans h2,S.mono I _ _⟩
 .rw [de]at e;split at e
  .rename_i z;cases e;obtain⟨rfl,rfl,rfl,ro,f,B,D⟩:=Q _ _ _ _ rfl;subst z;refine⟨.own c g 0 l.length af,?_,.inr ⟨c,g,ro,aK rfl,rfl,f,B,D⟩⟩;show(if ch.length=ch.length then(if 0=0 then _ else ae)else _)=_;rw[aK rfl,aK rfl]
  rename_i L;obtain⟨u,h1,h2⟩:=J.arr b n cl t l e;exact⟨u,I.o _ _ _ h1,h2.imp (λ⟨f,B,D⟩=>⟨f,B,(ax L).trans D⟩) λ⟨d,g,ro,f,B,D,T⟩=>⟨d,g,ro,I.b _ _ f,B,(a _ _ _ e f).trans D,T⟩⟩
 .have U:(if b=ch.length then ab c else M.b b)=ab d:=U;have Z:(if b'=ch.length then ab c else M.b b')=ab d:=Z;rw[de]at j w;by_cases F:b=ch.length<;>by_cases G:b'=ch.length
  .rw [F,G]
  .rw [aK F]at U;rw[ax G]at Z w;cases U;exact absurd Z (A _ w)
  .rw [ax F]at U j;rw[aK G]at Z;cases Z;exact absurd U (A _ j)
  rw[ax F]at U j;rw[ax G]at Z w;exact J.inj b b' d j w U Z
 .rw [de]at e;intro N hm;show(if b=ch.length then(if N=0 then _ else ae)else M.o b N)=ae;split at e
  .rename_i z;rw[aK z,ax (by omega)]
  rename_i z;rw[ax z];exact J.new b n cl t l e N hm
 .have e:(if b=ch.length then ab c else M.b b)=ab d:=e;rw[dH,ahY];split at e<;>try grind
  have:=J.len b d e;exact⟨by omega,by omega⟩
 .have e:(if b=ch.length then(if n=0 then _ else ae)else M.o b n)=ab y:=e;rw[dH,ahY];split at e
  .omega
  have:=J.gw b n y e;omega
 rw[de]at e;split at e<;>try grind
 exact(J.xr b y e).step I λd q=>a b y d e q
theorem y7{M:Mu}{n c g m s N:Nat}(h:(∃b0,M.b b0=ab c)∨N<=c):∀b d,(M.add n c g m s).b b=ab d->(∃b0,M.b b0=ab d)∨N<=d:=λb d e=>by
 have e:(if b=n then ab c else M.b b)=ab d:=e;grind
mutual
theorem abL:∀(c:CV) (v:V),VR M c v->c.mem=ag->∀d,v≠.im d
 |.own _ _,v,A,_,d=>by simp only[VR]at A;obtain⟨_,_,q⟩:=A;rintro rfl;cases q
 |.ptr _ _,v,A,_,d=>by simp only[VR]at A;obtain⟨_,_,rfl⟩:=A;simp
 |.el _ _ _ _,v,A,_,d=>by simp only[VR]at A;obtain⟨_,_,_,_,_,rfl⟩:=A;simp
 |.tl _ _ _,v,A,_,d=>by simp only[VR]at A;obtain⟨_,_,_,_,_,_,_,rfl⟩:=A;simp
 |.dR _ _ _ _ _,v,A,_,d=>by simp only[VR]at A;rcases A with⟨_,_,_,_,_,rfl,_⟩|⟨_,_,rfl,_⟩<;>simp
 |.agg w l,v,A,hm,d=>by
  simp only[VR]at A;obtain⟨vs,rfl,A,_⟩:=A;unfold fJ;rw[abN l vs A (by simpa only[CV.mem]using hm)];simp
theorem abN:∀(l:List CV) (vs:List V),aO M l vs->CV.uD l=ag->ga vs=ae
 |[],_,_,hm=>by cases hm
 |v::l,_,A,hm=>by
  simp only[aO]at A;obtain⟨u,r,rfl,h1,h2⟩:=A;simp only[CV.uD,kc]at hm;cases I:u with
  |im d=>
   rcases hm with hm|hm
   .exact absurd I (abL v u h1 hm d)
   show eN ae _ (ga r)=ae;rw[abN l r h2 hm]
  |_=>rfl
end
theorem abO:∀(ps:List (Nat×CV)) A,aO M (ps.map gU) (A.map gU)->CV.uD (ps.map gU)=ag->rV A=ag
 |[],_,_,h=>by cases h
 |p::ps,A,I,hm=>by
  cases A
  .simp [aO]at I
  rename_i J A;simp only[mo,aO]at I;obtain⟨u,r,he,h1,h2⟩:=I;cases he;simp[mo,CV.uD,kc]at hm;show(match J.2 with|.im _=>rV _|_=>ag)=ag
  split
  .rename_i d U;rcases hm with hm|hm
   .exact absurd U (abL _ _ h1 hm d)
   exact abO ps _ h2 hm
  rfl
theorem aO.replicate{c:CV}{v:V}(h:VR M c v):∀n,aO M (bP n c) (bP n v)
 |0=>rfl
 |n+1=>by simp only[List.replicate_succ,aO];exact⟨v,_,rfl,h,aO.replicate h n⟩
theorem asq{c:CV}(h:gq c=af) n:ib (bP n c)=ag:=by
 unfold ib;grind
theorem Yw{A:Nat->Option (Nat×Nat)}:∀ps l {I:List V},mE l A ps=ab I->I.length=l.length
 |[],l,I,e=>by cases e;rfl
 |p::ps,l,I,e=>by
  have e:((A _).bind λJ=>(bG l _).bind λc=>bif al _ _&&(al _ _&&(al _ _&&jU _))then mE _ _ ps else ae)=ab I:=e
  obtain⟨J,_,e⟩:=ay.1 e;obtain⟨c,_,e⟩:=ay.1 e;replace e:=aU e;obtain⟨_,e⟩:=e;rw[Yw ps _ e,eO,fQ]
theorem awB{ps:List (Nat×CV)}(h:Bt af ps=ag):∃i b q A,ps=(i,.ptr b q)::A:=by
 unfold Bt at h;grind
theorem aj2(U:HS M ch h){keep:Bool}{t n:Nat}{ps:List (Nat×CV)}{A:List (Nat×V)}(h1:A.map fg=ps.map fg)(h2:aO M (ps.map gU) (A.map gU))(hw:Bt keep ps=ag)(e:CA E t n ps ch k=ab r):
  OS wb M ch h (mf E keep h.length h t n A) k r:=by
 unfold CA at e;obtain⟨ti,B,e⟩:=ay.1 e;unfold mf;rw[B,ah];split at e
 .rename_i el F;obtain⟨te,hte,e⟩:=ay.1 e;obtain⟨z,G,e⟩:=ay.1 e;simp only[F];rw[hte,ah];obtain⟨a,e⟩:=aU e;rw[aM]at a;obtain⟨H,Z⟩:=a;simp only[aM]at Z;obtain⟨Z,K,L⟩:=Z;obtain⟨l,N,e⟩:=ay.1 e;have d:(bif keep&&rV A then ae else lj h te.size (jz n z) A)=ae:=by
   cases keep with
   |true=>
    have hw:CV.uD (ps.map gU)=ag:=hw;rw[abO ps A h2 hw];rfl
   |false=>
    obtain⟨i,b,q,w,rfl⟩:=awB hw;cases A with
    |nil=>trivial
    |cons O A=>
     simp only[mo,aO]at h2;obtain⟨u,S,he,f,T⟩:=h2;cases he;obtain⟨c,_,f⟩:=f;show((O.2.data h).bind _:Option (List D))=ae;rw[f];rfl
  obtain⟨I,f1,f2,f3⟩:=HV ps A _ _ h1 h2 (aO.replicate (uL (M:=M) te.zero) n) (asq (by simpa using L) n) N
  have J:I.length=n:=by rw[Yw _ _ f1];simp
  have P:l.length=n:=by rw[f2.length,J]
  rw[H,ao,G,ah,Z];show OS wb M ch h (match(bif keep&&rV A then ae else lj h te.size (jz n z) A)with
   |some l=>bif Go.As.gH h (ja A)then ab (.own h.length 0 0 n af,aI (Go.As.close h (ja A)) h.length (.arr 0 te.size 0 l))else ae
   |none=>(mE (jz n te.zero) (λi=>ab (i*te.size,te.size)) A).map λl=>(.own h.length 0 0 n af,aI h h.length (.cG 0 te.size l))) k r
  rw[d,mc,f1];show OS wb M ch h (ab (.own h.length 0 0 n af,aI h h.length (.cG 0 te.size I))) k r;have Q:∀y,y< h.length->y≠h.length->ar (aI h h.length (.cG 0 te.size I)) y=ar h y:=λy W _=>by rw[bR _ _ _ _ (aL _),ax (by omega)]
  have X:(aI h h.length (.cG 0 te.size I)).length=h.length+1:=by rw[b9,ax (gE _)]
  generalize CA.Uu E el te=u at*;obtain⟨j,p⟩:=U.ks (x:=.cC u [] l) (h':=aI h h.length (.cG 0 te.size I)) (c:=h.length) (g:=0) (m:=n) (s:=u.wd) (λb _ q=>absurd (U.len _ _ q).2 (gE _)) (by omega) (by omega) Q (λv q=>by cases q) (λ_ _ _ _ q=>by cases q)
   ⟨h.length,0,I,aK rfl,by
    show(if ch.length=ch.length then(if 0=0 then _ else ae)else _)=_;grind,by rw[bR _ _ _ _ (aL _),aK rfl,bU K];rfl,f2.Ru (by
    exact⟨λi R e=>by
     show(if i=ch.length then ab h.length else M.b i)=ab R;rw[ax (by intro q;subst q;rw[U.rK]at e;cases e)];exact e,λi n y e=>by
     show(if i=ch.length then _ else M.o i n)=ab y;rw[ax (by intro q;subst q;exact absurd (U.gw _ _ _ e) (gE _))];exact e⟩)⟩
  have e:k (.own (aF ch) 0) (ch++[ab (.cC u [] l)])=ab r:=e;rw[bz]at e;refine⟨_,_,.own ch.length 0,_,_,rfl,?_,p,⟨j,by simp,by omega,λb a _=>by rw[de,ax (by omega)],y7 (.inr (aL _)),λc Y _=>by rw[bR _ _ _ _ (aL _),ax (by omega)]⟩,e⟩
  simp only[VR];refine⟨u.wd,?_,rfl⟩;show(if ch.length=ch.length then(if 0=0 then _ else ae)else _)=_;simp
 trivial
theorem YA{u:Ty}:∀ps l {I:List u.den},zD ch u ps l=ab I->∀b∈mW ps,∃n c t y,aD ch b=ab (.arr n c t y)
 |[],_,_,_,b,A=>by cases A
 |p::ps,l,I,e,b,A=>by
  have e:((CV.dt ch u _).bind λx=>bif cQ _ _&&z4 _ then zD ch u ps _ else ae)=ab I:=e
  replace e:=ay.1 e;obtain⟨x,J,e⟩:=e;obtain⟨_,e⟩:=aU e;have A:b∈p.2.iP++mW ps:=A;rcases cD.1 A with A|A
  .exact (R4 (ch:=ch) u).1 _ x J b A
  exact YA ps _ e b A
theorem Rp:∀{I:List Nat},uC wb ch I=ag->∀b∈I,(∃n c u l,aD ch b=ab (.arr n c u l))->∃n c u l,aD ch b=ab (.arr n c u l)/\(c=ag∨wb b=ag)
 |[],_,b,A,_=>by cases A
 |a::I,hm,b,A,U=>by
  have hm:(bif match aD ch a with|some (.arr _ ag _ _)=>ag|_=>wb a then uC wb ch I else af)=ag:=hm
  cases J:match aD ch a with|some (.arr _ ag _ _)=>ag|_=>wb a
  .rw [J,au]at hm;cases hm
  rw[J,ao]at hm;rcases List.mem_cons.1 A with rfl|A
  .obtain ⟨n,c,u,l,Z⟩:=U;refine⟨n,c,u,l,Z,?_⟩;rw[Z]at J;cases c<;>first|exact .inl rfl|exact .inr J
  exact Rp hm b A U
theorem aj1(a:HS M ch h){t n:Nat}{ps:List (Nat×CV)}{I:List (Nat×V)}(h1:I.map fg=ps.map fg)(h2:aO M (ps.map gU) (I.map gU))(e:NS E wb t n ps ch k=ab r):
  OS wb M ch h (mf E af h.length h t n I) k r:=by
 obtain⟨ti,f,e⟩:=ay.1 e;unfold mf;rw[f,ah];split at e
 .rename_i el g;obtain⟨te,hte,e⟩:=ay.1 e;obtain⟨u,K,e⟩:=ay.1 e;obtain⟨z,i,e⟩:=ay.1 e;simp only[g];rw[hte,ah];obtain⟨J,e⟩:=aU e;rw[aM]at J;obtain⟨j,Z⟩:=J;simp only[aM]at Z;obtain⟨Z,m,o⟩:=Z;obtain⟨l,c,e⟩:=ay.1 e;have U:=bU Z;obtain⟨p,q,s⟩:=HU a U ps _ _ h1 h2 c;have A:=YA ps _ c;obtain⟨w,L,x,y,B⟩:=HS.close (wb:=wb) _ a λb J=>Rp o b J (A b J)
  rw[j,yf i,ah,(iO (show VR M (.sy u z) _ from rfl) m).1,Bool.false_and,mc,<-yC,p];show OS wb M ch h _ k r;rw[s,a.gH _ A,<-U];obtain⟨v,h',cv,ba,M',d,D,F,G,H⟩:=OS.sx (wb:=wb) w u l 0 (n:=n) (by simp[q]) e
  rw[x]at d;refine⟨v,h',cv,ba,M',d,D,F,Fr.trans ⟨.refl M,by omega,by omega,λb _ J=>y b J,lA,B⟩ G,H⟩
 trivial
theorem NQ{hi:Nat}{x:Option CV}{A:Option V}{d:Nat}{kk:Nat->Option ρ}(J:∀v,x=ab v->∃u,A=ab u/\VR M v u)(U:x=ae->A=ae)(e:Cy hi x d kk=ab r):∃n,bound hi A d=ab n/\kk n=ab r:=by
 unfold Cy at e;split at e
 .rw [U rfl];exact⟨d,rfl,e⟩
 .rename_i j n;obtain⟨u,rfl,Z⟩:=J _ rfl;have:=Z.int;subst this;cases I:ai 0 n&&ai n (aE hi)with
  |false=>grind
  |true=>
   rw[I]at e;refine⟨n.toNat,?_,e⟩;show(bif ai 0 n&&ai n _ then ab _ else ae)=_;rw[I,ao]
 trivial
theorem WL{len:Nat}{lo hi:Option V}{i j:Nat}(h1:bound len hi len=ab j)(h2:bound j lo 0=ab i):bounds len lo hi ae=ab (i,j,len):=by
 show((ab _).bind _)=_;grind
theorem alo(I:HS M ch h){b n A:Nat}{c:Bool}{t:Ty}{l:List t.den}{x g:Nat}(J:aD ch b=ab (.arr A c t l))(U:al n A=ag){v:V}(Z:VR M (.own b n) v)(he:v=.own x g 0 l.length af):M.o b n=ab (.own x g 0 l.length af,t.wd):=by
 have:=bU U;subst this;simp only[VR]at Z;obtain⟨u,h1,_⟩:=I.arr b n c t l J;grind
theorem abv{lo:Option CV}{lo':Option V}{j:Nat}{kk:Option Nat->Option ρ}(I:∀v,lo=ab v->∃u,lo'=ab u/\VR M v u)(A:lo=ae->lo'=ae)
  (e:(match(generalizing:=false) lo with
   |none=>kk ae
   |some (.sy (.int _) n)=>bif ai 0 n&&ai n (aE j)then kk (ab n.toNat)else ae
   |_=>ae)=ab r):∃i:Option Nat,bound j lo' 0=ab (i.getD 0)/\kk i=ab r/\i.getD 0<=j:=by
 split at e
 .rw [A rfl];exact⟨ae,rfl,e,bH _⟩
 .rename_i Z n;obtain⟨u,rfl,J⟩:=I _ rfl;have:=J.int;subst this;cases U:ai 0 n&&ai n (aE j)with
  |false=>grind
  |true=>
   rw[U]at e;refine⟨ab _,?_,e,?_⟩
   .show (bif ai 0 n&&ai n _ then ab _ else ae)=_;grind
   simp_all[aM,gX]
 trivial
theorem ajU{hi d n:Nat}{x:Option V}(h:bound hi x d=ab n)(A:d<=hi):n<=hi:=by
 unfold bound at h;split at h
 .simp_all[A]
 .rename_i J a;cases I:ai 0 a&&ai a (aE hi)with
  |false=>grind
  |true=>
   rw[I]at h;cases h;simp_all[aM,gX]
 trivial
theorem Oq{len:Nat}{lo hi:Option CV}{I A:Option V}{kk:Option Nat->Nat->Option ρ}(b:∀v,lo=ab v->∃u,I=ab u/\VR M v u)(U:lo=ae->I=ae)(c:∀v,hi=ab v->∃u,A=ab u/\VR M v u)(J:hi=ae->A=ae)
  (e:Oo len lo hi kk=ab r):∃(i:Option Nat) (j:Nat),bounds len I A ae=ab (i.getD 0,j,len)/\kk i j=ab r/\i.getD 0<=j/\j<=len/\(hi=ae->j=len):=by
 have d:hi=ae->∀j,bound len A len=ab j->j=len:=λq j e=>by
  rw[J q]at e;cases e;rfl
 obtain⟨j,Z,e⟩:=NQ c J e;obtain⟨i,f,e,a⟩:=abv (kk:=λi=>kk i j) b U e
 exact⟨i,j,WL Z f,e,a,ajU Z (aL _),λq=>d q j Z⟩
theorem Hr{len:Nat}{lo hi:Option CV}{mx:CV}{lo' I A:Option V}{kk:Option Nat->Nat->Option ρ}(g:∀v,lo=ab v->∃u,lo'=ab u/\VR M v u)(U:lo=ae->lo'=ae)(l:∀v,hi=ab v->∃u,I=ab u/\VR M v u)(hm:∃u,A=ab u/\VR M mx u)
  (e:CR len lo hi mx kk=ab r):∃(i:Option Nat) (j:Nat) (n:V),A=ab n/\bounds len lo' I A=ab (i.getD 0,j,j)/\kk i j=ab r/\i.getD 0<=j/\j<=len:=by
 unfold CR at e;split at e
 .rename_i k1 a k2 b;obtain⟨w,rfl,Z⟩:=l _ rfl;have:=Z.int;obtain⟨x,rfl,c⟩:=hm;have:=c.int;cases h1:ai 0 b&&ai b (aE len)with
  |false=>grind
  |true=>
   rw[h1]at e;cases h2:ai 0 a&&ai a b with
   |false=>grind
   |true=>
    rw[h2]at e;cases f:aj a b with
    |false=>grind
    |true=>
     rw[f]at e;have d:a=b:=of_decide_eq_true (by simp_all[pJ,f])
     subst d;have J:=h1;rw[aM,gX,gX]at J;have y:=of_decide_eq_true J.2;have z:aE _=(len):=rfl;have o:∀m:Nat,a<=(m)->bound m (ab (.im (.int k1 a))) len=ab _:=λm hm=>by
      show(bif ai 0 a&&ai a _ then ab _ else ae)=_;have p:ai 0 a=ag:=by grind
      have q:ai a (aE m)=ag:=by simp[gX,decide_eq_true,hm]
      rw[p,q];rfl
     have s:bound len (ab (.im (.int k2 a))) len=ab a.toNat:=by
      show(bif ai 0 a&&ai a _ then ab _ else ae)=_;rw[h1];rfl
     obtain⟨i,B,e,t⟩:=abv (lo':=lo') (j:=a.toNat) (kk:=λi=>kk i _) g U (by
      have:aE a.toNat=a:=by grind
      rw[this];exact e)
     unfold bounds;grind
 trivial
theorem Xt{l:List D} i j:cut l (i.getD 0) j=fT i (oJ j i) l:=by
 cases i
 .simp [cut,fT,oJ,gv]
 rfl
theorem Aa i j:oJ j i=j-i.getD 0:=by
 cases i
 .rfl
 rfl
theorem TP{u:Ty}{te:TI}(hw:al u.wd te.size=ag)(l:List u.den):js te.size (l.map u.enc)=ag:=by
 cases l
 .rfl
 show al _ _=ag;simp[oA,hw]
theorem avy{b g off len:Nat}{aP:Bool}{lo hi:Option V}{A:V}{i j:Nat}(I:bounds len lo hi (ab A)=ab (i,j,j)):sS b g off len aP lo hi (ab A)=ab (.own b g (off+i) (j-i) ag):=by
 simp[sS,I,ah,gj]
theorem avz{b g off len:Nat}{aP:Bool}{lo hi:Option V}{i j:Nat}(A:bounds len lo hi ae=ab (i,j,len)):sS b g off len aP lo hi ae=ab (.own b g (off+i) (j-i) (aP&&al j len)):=by
 simp[sS,A,ah]
theorem Wo{t:Ty}:∀{l:Ty} {x:l.den} {A:List t.den},G1 t l x=ab A->l.dY x=A.map t.enc
 |.nl,_,_,e=>by cases e;rfl
 |.cn u l,x,A,e=>by
  simp[G1]at e;split at e
  .rename_i y r I J;cases e;show u.enc _::l.dY _=_;rw[Wo J,<-(jR I).2.1];rfl
  cases e
 |.bool,_,_,e|.int _,_,_,e|.str,_,_,e|.an _,_,_,e|.st _ _,_,_,e|.aH _,_,_,e|.jS,_,_,e|.err,_,_,e=>by cases e
theorem avB(U:HS M ch h){t:Nat}{x:CV}{N:V}{lo hi mx:Option CV}{A I z:Option V}(Z:VR M x N)(p:∀v,lo=ab v->∃u,A=ab u/\VR M v u)(J:lo=ae->A=ae)(q:∀v,hi=ab v->∃u,I=ab u/\VR M v u)(a:hi=ae->I=ae)(hm:∀v,mx=ab v->∃u,z=ab u/\VR M v u)(f:mx=ae->z=ae)
  (e:TS E t x lo hi mx ch k=ab r):OS wb M ch h (l7 h (xY E t h N A I z)) k r:=by
 unfold TS at e;replace e:=ay.1 e;obtain⟨ti,Q,e⟩:=e;unfold xY;rw[Q,ah];split at e
 .rename_i el u l n;obtain⟨te,hte,e⟩:=ay.1 e;have:=Z.an;subst this;simp only[n];cases hw:al u.wd te.size with
  |false=>grind
  |true=>
   rw[hw,ao]at e;rw[hte,ah];split at e
   .rw [f rfl];obtain⟨j,R,e⟩:=NQ q a e;obtain⟨i,S,e⟩:=NQ p J e;have:u4 h te.size (.im (.an (l.map u.enc))) A I ae=ab (.im (.an (((l.drop i).take (j-i)).map u.enc))):=by
     show(bif js te.size (l.map u.enc)then(bounds (aF (l.map u.enc)) A I ae).bind λb=>ab (V.im (.an (cut (l.map u.enc) b.1 b.2.1)))else ae)=_
     rw[TP hw,ao,bz,gg,WL R S];simp[cut,Gg,Vp]
    rw[this];exact OS.plain (cv:=.sy (.an u) _) U (by rfl) e
   rename_i m;obtain⟨i,j,F,rfl,b,e,_,_⟩:=Hr p J q (hm _ rfl) e;have:u4 h te.size (.im (.an (l.map u.enc))) A I (ab F)=ab (.full ((fT i (oJ j i) l).map u.enc)):=by
    show(bif js te.size (l.map u.enc)then(bounds (aF (l.map u.enc)) A I (ab F)).bind λb=>bif al b.2.1 b.2.2 then ab (V.full (cut (l.map u.enc) b.1 b.2.1))else ae else ae)=_
    rw[TP hw,ao,bz,gg,b,ah];simp[gj,ao,Xt,CT]
   rw[this];exact OS.plain (cv:=.iv u _) U (by rfl) e
 .rename_i el u l n;obtain⟨te,hte,e⟩:=ay.1 e;simp only[VR]at Z;subst Z;simp only[n];cases hw:al u.wd te.size with
  |false=>rw[hw,au]at e;cases e
  |true=>
   rw[hw,ao]at e;rw[hte,ah];have key:∀mx,u4 h te.size (.full (l.map u.enc)) A I mx=(bounds l.length A I mx).map λb=>bif al b.2.1 b.2.2 then V.full (cut (l.map u.enc) b.1 b.2.1)else .im (.an (cut (l.map u.enc) b.1 b.2.1)):=λmx=>by
    show(bif js te.size (l.map u.enc)then(bounds (aF (l.map u.enc)) A I mx).map λb=>bif al b.2.1 b.2.2 then V.full (cut (l.map u.enc) b.1 b.2.1)else .im (.an (cut (l.map u.enc) b.1 b.2.1))else ae)=_
    rw[TP hw,ao,bz,gg]
   rw[key];split at e<;>try trivial
   rename_i m;obtain⟨i,j,F,rfl,b,e,_,_⟩:=Hr p J q (hm _ rfl) e;rw[b];show OS wb M ch h (l7 h (ab (bif al j j then V.full (cut (l.map u.enc) (i.getD 0) j)else .im (.an (cut (l.map u.enc) (i.getD 0) j))))) k r;rw[gj,ao,Xt,<-CT];exact OS.plain (cv:=.iv u _) U (by rfl) e
 .rename_i el b v n;replace e:=ay.1 e;obtain⟨te,hte,e⟩:=e;simp only[n];rw[hte,ah];split at e
  .rename_i T c u l w;cases hw:al v T&&al u.wd te.size with
   |false=>grind
   |true=>
    rw[hw,ao]at e;rw[aM]at hw;rcases U.own w hw.1 Z with⟨rfl,rfl,W⟩|⟨y,g,ro,W,rfl,X,_,_⟩
    .simp only[VR]at Z;obtain⟨s,O,_⟩:=Z;have key:∀mx,u4 h te.size (.full []) A I mx=(bounds 0 A I mx).map λb=>bif al b.2.1 b.2.2 then V.full (cut ([]:List D) b.1 b.2.1)else .im (.an (cut ([]:List D) b.1 b.2.1)):=λmx=>rfl
     rw[key];split at e
     .rw [f rfl];obtain⟨i,j,b',e,_,G,_⟩:=Oq p J q a e;have B:j=0:=aic.1 G;subst B;have b':bounds 0 A I ae=ab (i.getD 0,0,0):=b';rw[b'];refine OS.plain (cv:=.dR b v i (oJ 0 i) af) U ?_ e;simp only[VR];exact .inr ⟨s,O,by simp[cut],by simp[Aa]⟩
     rename_i m;obtain⟨i,j,F,rfl,b',e,_,G⟩:=Hr p J q (hm _ rfl) e;have B:j=0:=aic.1 G;subst B;have b':bounds 0 A I (ab F)=ab (i.getD 0,0,0):=b';rw[b'];refine OS.plain (cv:=.dR b v i (oJ 0 i) ag) U ?_ e;simp only[VR];exact .inr ⟨s,O,by simp[cut],by simp[Aa]⟩
    have H:=alo U w hw.1 Z rfl;have key:∀mx,u4 h te.size (.own y g 0 l.length af) A I mx=sS y g 0 l.length af A I mx:=λmx=>by
     show(match ar h y with
      |some (.arr Y s _ P)=>bif fx g Y 0 l.length P&&(al s te.size||isNone P)then sS y g 0 l.length af A I mx else ae
      |_=>ae)=_
     rw[X];show(bif fx g g 0 l.length (l.map u.enc)&&(al u.wd te.size||isNone (l.map u.enc))then sS y g 0 l.length af A I mx else ae)=_
     rw[hw.2,show fx g g 0 l.length (l.map u.enc)=ag from CS (o:=none) (by simp)];rfl
    rw[key];split at e
    .rw [f rfl];obtain⟨i,j,b',e,K,G,_⟩:=Oq p J q a e;rw[avz b'];refine OS.plain (cv:=.dR b v i (oJ j i) af) U ?_ e;simp only[VR];exact .inl ⟨y,g,_,_,H,by simp[Aa],by grind[Aa]⟩
    rename_i m;obtain⟨i,j,F,rfl,b',e,K,G⟩:=Hr p J q (hm _ rfl) e;rw[avy b'];refine OS.plain (cv:=.dR b v i (oJ j i) ag) U ?_ e;simp only[VR];exact .inl ⟨y,g,_,_,H,by simp[Aa],by grind[Aa]⟩
  trivial
 .rename_i el n;obtain⟨te,hte,e⟩:=ay.1 e;simp only[VR]at Z;subst Z;simp only[n];rw[hte,ah];split at e
  .rw [f rfl];obtain⟨i,j,b,e,_,G,_⟩:=Oq p J q a e;obtain rfl:j=0:=by omega
   have:u4 h te.size (.full []) A I ae=ab (.full []):=by
    show(bounds 0 A I ae).map (λb=>bif al b.2.1 b.2.2 then V.full (cut [] b.1 b.2.1)else .im (.an (cut [] b.1 b.2.1)))=_
    simp[b,cut]
   rw[this];exact OS.plain (cv:=.fK) U (by rfl) e
  trivial
 .rename_i m el w' l y n;simp only[n];simp only[VR]at Z;subst Z;split at e
  .obtain ⟨te,hte,e⟩:=ay.1 e;obtain⟨u,hu,e⟩:=ay.1 e;obtain⟨L,hz,e⟩:=ay.1 e;rw[J rfl,a rfl,f rfl,hte,ah];cases w:al (aF L) m&&(bu m 16777216&&al u.wd te.size)with
   |false=>grind
   |true=>
    rw[w,ao]at e;rw[aM,aM]at w;have:TQ m te.size (.im (.ref ((Ty.st w' l).enc y))) ae ae ae=ab (.full (L.map u.enc)):=by
     show(bif al (aF (l.dY y)) m&&(bu m 16777216&&(l.dY y).all λd=>al d.wd te.size)then ab (V.full (l.dY y))else ae)=_
     rw[Wo hz,bz,gg,<-bz,w.1,w.2.1,lI.2 λd hd=>?_]<;>try grind
     obtain⟨x,_,rfl⟩:=List.mem_map.1 hd;simp[oA,w]
    rw[this];exact OS.plain (cv:=.iv u L) U (by rfl) e
  trivial
 trivial
theorem akw(J:HS M ch h){d:Array Nat}{x:CV}{f:V}(m:VR M x f)(e:N6 E wb d x ch k=ab r):OS wb M ch h (G4 E d f h) k r:=by
 unfold N6 at e;replace e:=ay.1 e;obtain⟨ti,p,e⟩:=e;unfold G4;rw[p,ah];split at e
 .rename_i el q;replace e:=ay.1 e;obtain⟨te,hte,e⟩:=e;simp only[q];rw[hte,ah];split at e
  .rename_i b v o n aP;obtain⟨hw,e⟩:=aU e;split at e
   .rename_i B u l U;obtain⟨z,s,e⟩:=ay.1 e;obtain⟨A,e⟩:=aU e;rw[aM,aM]at A;obtain⟨i,e⟩:=aU e;rw[yf s,ah];have Z:=bU A.1;subst Z;rcases J.dR U A.1 m with⟨_,rfl,_⟩|⟨c,g,ro,h1,rfl,D,t,w,F,y⟩<;>try trivial
    have:=w rfl;subst this;have a:(pv o n z l).length=l.length:=by grind[pv,dH,List.length_take,List.length_replicate,List.length_drop]
    have I:(l.map u.enc).take (o.getD 0)++(jz n (u.enc z)++(l.map u.enc).drop (o.getD 0+n))=(pv o n z l).map u.enc:=by
     simp[pv,mc,Gg,Vp]
    simp only[t];rw[(iO (show VR M (.sy u z) (.im (u.enc z))from rfl) A.2.2).1,CS (by grind),A.2.1,I]
    exact⟨.im (.aH []),_,.aH [],_,M,rfl,by simp only[VR];exact⟨[],rfl,rfl⟩,J.adV U a h1 y (λ_=>rfl) (bH _),⟨.refl M,by simp[e9,aL],by grind[b9],λj _ hi=>by
     rw[gp _ _ _ _ (fy U),ax (by grind)],lA,uO h1 (J.len _ _ h1).2⟩,e⟩
   trivial
  trivial
 trivial
theorem anx(Z:HS M ch h){t:Nat}{x i:CV}{A a:V}(b:VR M x A)(hi:VR M i a)(e:Qh E t x i ch k=ab r):OS wb M ch h (A7 E h t A a) k r:=by
 unfold Qh at e;split at e
 .rename_i j n s;have:=hi.int;subst this;have:=b.str;subst this;obtain⟨ti,J,e⟩:=ay.1 e;show OS wb M ch h ((E.ty t).bind λti=>match ti.k with|.str=>bif ai 0 n then(bG s _).map _ else ae|_=>ae) k r
  rw[J,ah];split at e
  .rename_i U;cases I:ai 0 n with
   |false=>grind
   |true=>
    rw[I]at e;obtain⟨c,l,e⟩:=ay.1 e;(try simp only[U]);rw[cu,l];exact OS.of_int Z e
  trivial
 .rename_i j n o;have:=hi.int;subst this;replace e:=ay.1 e;obtain⟨ti,J,e⟩:=e;split at e
  .rename_i m el U;obtain⟨te,hte,e⟩:=ay.1 e;cases I:ai 0 n&&ak n _ with
   |false=>rw[I]at e;cases e
   |true=>
    rw[I]at e;obtain⟨w,hw,e⟩:=ay.1 e;cases f:dE te w with
    |false=>grind
    |true=>
     rw[f]at e;obtain⟨z,p,g,_⟩:=b.eF hw;have q:∀s,A≠.im (.str s):=by
      grind[V.eF]
     have:A7 E h t A (.im (.int j n))=((E.ty t).bind λti=>match ti.k with
      |.arr m el=>(E.ty el).bind λte=>bif ai 0 n&&ak n (aE m)then(A.eF n.toNat (n.toNat*te.size)).bind λw=>bif cA te w then ab (w,h)else ae else ae
      |_=>ae):=by
      cases A with
      |im d=>cases d<;>first|rfl|trivial
      |_=>rfl
     rw[this,J,ah];simp only[U];rw[hte,ah,I,p,ah,(iO g f).1];exact OS.plain Z g e
  trivial
 trivial
theorem XA(q:HS M ch h){u:Ty}{x:CV}{d:V}{l:List u.den}(e:CV.dt ch (.an u) x=ab l)(U:VR M x d):d.pz h=ab (l.map u.enc)/\nL h d=af:=by
 cases x with
 |sy t y=>
  obtain⟨rfl,he,_⟩:=jR e;simp_all[VR,he,Ty.enc,V.pz,nL]
 |fK=>
  cases e;subst U;trivial
 |own b n=>
  have e:(match aD ch b with
   |some (.arr A _ t l)=>bif al n A then Ty.cs (.an t) (.an u) l else ae
   |_=>ae)=ab l:=e
  split at e
  .rename_i A c t Z f;cases J:al n A with
   |false=>grind
   |true=>
    rw[J]at e;obtain⟨I,he,_⟩:=jR e;simp[Ty.enc,D.an.injEq]at he;rcases q.own f J U with⟨rfl,rfl,_⟩|⟨y,g,ro,_,rfl,a,_⟩<;>try(rw[he];trivial;done)
    rw[he];constructor
    .show (match ar h y with
      |some (.arr i _ _ j)=>bif fx g i 0 _ j then ab _ else ae
      |_=>ae)=_
     rw[a];have:bu Z.length _=ag:=km (aL _);simp[fx,ir,this]
    show(match ar h y with|some (.cG _ _ _)=>ag|_=>af)=af
    rw[a]
  trivial
 |iv t Z=>
  obtain⟨I,he,_⟩:=jR e;subst U;simp[Ty.enc,D.an.injEq]at he;rw[he];trivial
 |dR b n o m aP=>
  have e:(match aD ch b with
   |some (.arr A _ t l)=>bif al n A then Ty.cs _ (.an u) _ else ae
   |_=>ae)=ab l:=e
  split at e
  .rename_i A c t Z f;cases J:al n A with
   |false=>grind
   |true=>
    rw[J]at e;obtain⟨I,he,_⟩:=jR e;cases I;simp[Ty.enc,D.an.injEq]at he;rcases q.dR f J U with⟨rfl,rfl,_,rfl⟩|⟨y,g,ro,_,rfl,hm,a,_⟩
    .rw [he];have:fT o 0 ([]:List u.den)=[]:=by cases o<;>simp[fT,gv]
     rw[this];trivial
    have p:o.getD 0+m<=(Z.map u.enc).length:=by grind
    constructor
    .show (match ar h y with
      |some (.arr i _ _ j)=>bif fx g i _ m j then ab _ else ae
      |_=>ae)=_
     simp_all[CS,p,On,ao,CT]
    show(match ar h y with|some (.cG _ _ _)=>ag|_=>af)=af
    rw[a]
  trivial
 |_=>cases e
theorem HS.grow(A:HS M ch h){b n:Nat}{c:Bool}{t:Ty}{l l':List t.den}(d:aD ch b=ab (.arr n c t l))(F:l.length<=l'.length){x g ro:Nat}(B:M.b b=ab x)(G:c=af->ro=0)(D:ro<=l.length):
  let M':=⟨M.b,λi m=>if i=b/\m=n+1 then ab (.own x (g+1) 0 l'.length af,t.wd)else M.o i m⟩
  M.le M'/\HS M' (cW ch b (.arr (n+1) c t l')) (aI h x (.arr (g+1) t.wd ro (l'.map t.enc))):=by
 intro M';have p:=fy d;have a:=(A.len _ _ B).2;have f:∀i,aD _ i=if i=b then ab (.arr (n+1) c t l')else aD ch i:=λi=>gp ch _ b i p
 have R:∀y,ar _ y=if y=x then ab (.arr (g+1) t.wd ro (l'.map t.enc))else ar h y:=λy=>bR _ _ _ _ (dj a)
 have S:∀b' y,aD ch b'=ab y->b'≠b->M.b b'≠ab x:=λb' y e J q=>J (A.inj b' b x (by simp[e]) (by simp[d]) q B)
 have U:M.le M':=⟨λ_ _ e=>e,λi m y e=>by
  show(if i=b/\m=n+1 then _ else M.o i m)=ab y;rw[ax (by rintro⟨rfl,rfl⟩;rw[A.new _ _ _ _ _ d _ (aie n)]at e;cases e)];exact e⟩
 refine⟨U,⟨λb' w e=>?_,λb' I cl s v e=>?_,λH K Z L N j z=>?_,λb' I cl s v e m hm=>?_,λb' Z e=>?_,λb' I x e=>?_,λb' y e=>?_⟩⟩
 .rw [f]at e;split at e<;>try grind
  obtain⟨Z,O,j,z,P⟩:=A.cell b' w e;exact⟨Z,O,j,by grind,P.mono U _ _⟩
 .rw [f]at e;split at e
  .grind
  obtain⟨u,j,z⟩:=A.arr b' I cl s v e;grind
 .refine A.inj H K Z (λq=>L ?_) (λq=>N ?_) j z
  all_goals grind
 .rw [f]at e;show(if b'=b/\m=n+1 then _ else M.o b' m)=ae;split at e
  .rename_i he;cases e;subst he;rw[ax (by omega)]
   exact A.new _ _ _ _ _ d m (by omega)
  rename_i J;rw[ax (λq=>J q.1)]
  exact A.new b' I cl s v e m hm
 .rw [e9,b9,aK a];exact A.len b' Z e
 .rw [e9];by_cases Q:b'=b/\I=n+1
  .omega
  have e:(if b'=b/\I=n+1 then _ else M.o b' I)=ab x:=e;rw[ax Q]at e;exact A.gw b' I x e
 rw[f]at e;split at e
 .cases e;trivial
 exact(A.xr b' y e).step U λZ q=>by grind
theorem HS.born(A:HS M ch h){b n:Nat}{c:Bool}{t:Ty}{l':List t.den}(v:aD ch b=ab (.arr n c t []))(W:M.b b=ae):
  let M':=⟨λi=>if i=b then ab h.length else M.b i,λi m=>if i=b/\m=n+1 then ab (.own h.length 0 0 l'.length af,t.wd)else M.o i m⟩
  M.le M'/\HS M' (cW ch b (.arr (n+1) c t l')) (aI h h.length (.arr 0 t.wd 0 (l'.map t.enc))):=by
 intro M';have z:=fy v;have j:∀i,aD _ i=if i=b then ab (.arr (n+1) c t l')else aD ch i:=λi=>gp ch _ b i z
 have B:∀y,y< h.length->ar (aI h h.length (.arr 0 t.wd 0 (l'.map t.enc))) y=ar h y:=λy X=>by rw[bR _ _ _ _ (aL _),ax (by omega)]
 have J:∀i,i≠b->M'.b i=M.b i:=λi hi=>ax hi
 have I:M.le M':=⟨λi c e=>by
  grind,λi m y e=>by
  show(if i=b/\m=n+1 then _ else M.o i m)=ab y;rw[ax (by rintro⟨rfl,rfl⟩;rw[A.new _ _ _ _ _ v _ (aie n)]at e;cases e)];exact e⟩
 refine⟨I,⟨λb' w e=>?_,λb' a cl D F e=>?_,λg d f N O U Z=>?_,λb' a cl D F e m hm=>?_,λb' f e=>?_,λb' a x e=>?_,λb' y e=>?_⟩⟩
 .rw [j]at e;split at e<;>try grind
  obtain⟨f,P,U,Z,Q⟩:=A.cell b' w e;exact⟨f,P,I.b _ _ U,by rw[B _ (A.len _ _ U).2];omega,Q.mono I _ _⟩
 .rw [j]at e;split at e
  .rename_i he;cases e;subst he;exact⟨_,aK ⟨rfl,rfl⟩,.inr ⟨h.length,0,0,aK rfl,rfl,by rw[bR _ _ _ _ (aL _),aK rfl],λ_=>rfl,bH _⟩⟩
  obtain⟨u,U,Z⟩:=A.arr b' a cl D F e;exact⟨u,I.o _ _ _ U,Z.imp (λ⟨l,G,R⟩=>⟨l,G,by grind⟩) λ⟨y,S,H,l,G,R,T⟩=>⟨y,S,H,I.b _ _ l,G,by rw[B _ (A.len _ _ l).2];omega,T⟩⟩
 .have f1:aD ch g≠ae:=λq=>N (by grind)
  have f2:aD ch d≠ae:=λq=>O (by grind)
  by_cases K:g=b
  .by_cases s:d=b<;>try grind
   rw[J d s]at Z;have:M'.b g=ab h.length:=aK K;rw[this]at U;cases U;exact absurd (A.len _ _ Z).2 (gE _)
  by_cases s:d=b
  .rw [J g K]at U;have:M'.b d=ab h.length:=aK s;rw[this]at Z;cases Z;exact absurd (A.len _ _ U).2 (gE _)
  rw[J g K]at U;rw[J d s]at Z;exact A.inj g d f f1 f2 U Z
 .rw [j]at e;show(if b'=b/\m=n+1 then _ else M.o b' m)=ae;split at e
  .rename_i he;cases e;subst he;rw[ax (by omega)]
   exact A.new _ _ _ _ _ v m (by omega)
  rename_i L;rw[ax (λq=>L q.1)]
  exact A.new b' a cl D F e m hm
 .rw [e9,b9,ax (gE _)];by_cases p:b'=b
  .grind
  rw[J b' p]at e;have:=A.len b' f e;omega
 .rw [e9];by_cases V:b'=b/\a=n+1
  .omega
  have e:(if b'=b/\a=n+1 then _ else M.o b' a)=ab x:=e;rw[ax V]at e;exact A.gw b' a x e
 rw[j]at e;split at e
 .cases e;trivial
 exact(A.xr b' y e).step I λf q=>B f (A.len _ _ q).2
theorem vU(M:Mu) n c g m s:(M.add n c g m s).o n 0=ab (.own c g 0 m af,s):=by
 show(if n=n then if 0=0 then _ else ae else _)=_;simp
theorem V2(A:HS M ch h) c g m s:M.le (M.add ch.length c g m s):=⟨λi I e=>by
  show(if i=ch.length then ab c else M.b i)=ab I;rw[ax (by grind[A.rK])];exact e,λi n y e=>by
  show(if i=ch.length then _ else M.o i n)=ab y;rw[ax (by intro q;subst q;exact absurd (A.gw _ _ _ e) (gE _))];exact e⟩
theorem V8{te:TI}:∀{vs:List CV} {A:List V},aO M vs A->Nl te vs=ag->vX te A=ag
 |[],A,I,_=>by subst I;rfl
 |v::vs,A,I,e=>by
  simp[aO]at I;obtain⟨u,r,rfl,h1,h2⟩:=I;have e:(bif dE te v then Nl te vs else af)=ag:=e;cases J:dE te v<;>first|rw[J]at e;show(bif cA te u then vX te r else af)=ag;rw[(iO h1 J).1];exact V8 h2 e|rw[J]at e;cases e
theorem HS.gone(I:HS M ch h){b c:Nat}{x:CB}(f:aD ch b=ab x)(g:M.b b=ab c){h':Heap}(j:h'.length=h.length)(m:∀y,y≠c->ar h' y=ar h y):HS M (bC ch b ae) h'/\∀b',aD (bC ch b ae) b'≠ae->M.b b'≠ab c:=by
 have A:∀i,aD (bC ch b ae) i=if i=b then ae else aD ch i:=λi=>by
  unfold aD;rw[cu,cu,eO];grind
 have z:∀b' y,aD ch b'=ab y->b'≠b->M.b b'≠ab c:=λb' y e U q=>U (I.inj b' b c (by simp[e]) (by simp[f]) q g)
 have d:(bC ch b ae).length=ch.length:=by simp
 refine⟨⟨λb' w e=>?_,λb' n cl t l e=>?_,λo p J s v Z a=>?_,λb' n cl t l e=>?_,λb' J e=>?_,λb' n x e=>?_,λb' y e=>?_⟩,λb' e=>?_⟩
 .rw [A]at e;split at e<;>try grind
  obtain⟨J,B,Z,a,D⟩:=I.cell b' w e;grind
 .rw [A]at e;split at e<;>try grind
  obtain⟨u,Z,a⟩:=I.arr b' n cl t l e;grind
 .refine I.inj o p J (λq=>s ?_) (λq=>v ?_) Z a
  all_goals grind
 .rw [A]at e;split at e<;>try grind
  exact I.new b' n cl t l e
 .rw [d,j];exact I.len b' J e
 .rw [d];exact I.gw b' n x e
 .rw [A]at e;split at e<;>try grind
  exact(I.xr b' y e).step (.refl M) λJ q=>m J (by grind)
 rw[A]at e;split at e<;>try grind
 obtain⟨y,F⟩:=Option.ne_none_iff_exists'.1 e;grind
theorem Ju(ch:CH) b x:(bC ch b x).length=ch.length:=by simp
theorem D1(ch:CH){b i:Nat} x(hi:i≠b):aD (bC ch b x) i=aD ch i:=by
 unfold aD;rw[cu,cu,eO,List.getElem?_set_ne λq=>hi q.symm]
theorem aju{v:CV}{x:AW}(e:G2 ch v=ab x):∃b,v=.own b 0/\aD ch b=ab (.cC x.t x.l x.vs):=by
 unfold G2 at e;split at e
 .split at e
  .obtain ⟨A,e⟩:=aU e;cases e;simp_all
  trivial
 trivial
theorem ajn(a:HS M ch h){te:TI}{H:Nat}{s xc:CV}{Q x':V}{x:AW}(I:VR M s Q)(K:VR M xc x')(S:G2 ch xc=ab x)(e:Nv E wb te H s x ch k=ab r):OS wb M ch h (qx E te h.length H Q x' h) k r:=by
 obtain⟨bx,rfl,L⟩:=aju S;obtain⟨t,lx,vs⟩:=x;unfold Nv at e;replace e:=aU e;obtain⟨G,e⟩:=e;simp only[aM]at G;obtain⟨c1,c2,c3,c4,c5⟩:=G;have T:lx=[]:=by cases lx with
  |nil=>rfl
  |cons _ _=>cases c2
 subst T;have d:=bU c5;simp only at d L e;obtain⟨c,g,A,k1,k2,W,R⟩:=a.xr bx _ L;simp only[VR]at K;obtain⟨s0,K,_⟩:=K;rw[k2]at K;cases K;have W:ar h c=ab (.cG g t.wd A):=by trivial
 have J:A.length=vs.length:=R.length.symm;have X:wQ (E.kind H)=af:=by
  cases Y:E.kind H
  .rfl
  rename_i kk;rw[Y]at c1;cases kk<;>first|rfl|cases c1
 have hun:Qx A=af:=by
  cases A with
  |nil=>cases vs with
   |nil=>cases c3
   |cons _ _=>trivial
  |cons _ _=>rfl
 have hve:V.Bs h (.own c g 0 (([]:List t.den).length+vs.length) af)=ab A:=by
  unfold V.Bs;simp only[W];have hl:([]:List t.den).length+vs.length=A.length:=by simp[J]
  rw[hl];have a1:bu A.length A.length=ag:=km (aL _);simp[fx,ir,a1]
 have f:qx E te h.length H Q (.own c g 0 (([]:List t.den).length+vs.length) af) h=zb te h.length Q A h:=by
  unfold qx;have ha:nL h (.own c g 0 (([]:List t.den).length+vs.length) af)=ag:=by simp[nL,W]
  rw[X,au,ha,F4,ao,c1,ao,hve,ah,V8 R c4,ao]
 rw[f];split at e
 .simp only[VR]at I;subst I;obtain⟨hr,e⟩:=aU e;show OS wb M ch h (bif js te.size []&&(not (Qx A)&&room (aF ([]:List D)+aF A) te.bytes)then ab (.own h.length 0 0 (aF ([]:List D)+aF A) af,aI h h.length (.cG 0 te.size (mJ []++A)))else ae) k r;have U:room (aF ([]:List D)+aF A) te.bytes=ag:=by
   simp_all[bz,J,room,bW]
  rw[U,hun];show OS wb M ch h (ab (.own h.length 0 0 (aF ([]:List D)+aF A) af,aI h h.length (.cG 0 te.size A))) k r;have hg:∀y,y< h.length->y≠h.length->ar (aI h h.length (.cG 0 te.size A)) y=ar h y:=λy hy _=>by rw[bR _ _ _ _ (aL _),ax (by omega)]
  have hL:(aI h h.length (.cG 0 te.size A)).length=h.length+1:=by rw[b9,ax (gE _)]
  obtain⟨j,o⟩:=a.ks (x:=.cC t [] vs) (h':=aI h h.length (.cG 0 te.size A)) (c:=h.length) (g:=0) (m:=vs.length) (s:=t.wd) (λb _ q=>absurd (a.len _ _ q).2 (gE _)) (by omega) (by omega) hg (λv q=>by cases q) (λ_ _ _ _ q=>by cases q)
   ⟨h.length,0,A,aK rfl,by simp[vU],by rw[bR _ _ _ _ (aL _),aK rfl,d];rfl,R.Ru (V2 a ..)⟩
  have e:k (.own (aF ch) 0) (ch++[ab (.cC t [] vs)])=ab r:=e;rw[bz]at e;refine⟨_,_,.own ch.length 0,_,_,rfl,?_,o,⟨j,by simp,by omega,λb hb _=>by rw[de,ax (by omega)],y7 (.inr (aL _)),λc G _=>by grind⟩,e⟩
  simp only[VR];exact⟨t.wd,by simp[vU,bz,J],rfl⟩
 .rename_i b n;split at e
  .rename_i t' l0 hb;replace e:=aU e;obtain⟨G,e⟩:=e;simp only[aM]at G;obtain⟨d1,d2,d3⟩:=G;replace e:=ay.1 e;obtain⟨l,hl,e⟩:=e;obtain⟨he1,p⟩:=kv hl;cases he1;have p:l=l0:=p;subst p;obtain⟨hr,e⟩:=aU e;have:=bU d1;subst this;obtain⟨u,Z,us',j1,j2,j3,j4⟩:=a.xr b _ hb;simp only[VR]at I;obtain⟨s0,I,_⟩:=I;rw[j2]at I;cases I;simp only[aO]at j4;subst j4;have w:=(a.len _ _ j1).2;have N:zb te h.length (.own u Z 0 (l.length+([]:List CV).length) af) A h=ab (.own u (Z+1) 0 (l.length+aF A) af,aI h u (.cG (Z+1) te.size ((l.map λx=>V.im (t.enc x))++A))):=by
    unfold zb;simp only[j3];have U:room (l.length+aF A) te.bytes=ag:=by
     rw[bz,J];grind[bz,room,bW,Ak]
    have a1:bu l.length l.length=ag:=km (aL _);have a3:fx Z Z 0 l.length (l.map λx=>V.im (t.enc x))=ag:=by simp[fx,a1]
    have a4:ir (l.map λx=>V.im (t.enc x)) 0 l.length=l.map λx=>V.im (t.enc x):=by simp[ir]
    grind
   rw[N];generalize z:aI h u (.cG (Z+1) te.size ((l.map λx=>V.im (t.enc x))++A))=h'
   have B:h'.length=h.length:=by rw[<-z,b9,aK w]
   have O:∀y,y≠u->ar h' y=ar h y:=λy hy=>by rw[<-z,bR _ _ _ _ (dj w),ax hy]
   obtain⟨P,F⟩:=a.gone hb j1 B O;have hLc:(bC ch b ae).length=ch.length:=Ju ..;obtain⟨j,o⟩:=P.ks (x:=.cC t l vs) (h':=h') (c:=u) (g:=Z+1) (m:=l.length+vs.length) (s:=t.wd) F (by omega) (by omega) (λy _ _=>rfl) (λv q=>by cases q) (λ_ _ _ _ q=>by cases q)
    ⟨u,Z+1,A,aK rfl,by rw[vU],by rw[<-z,bR _ _ _ _ (dj w),aK rfl,d],R.Ru (V2 P ..)⟩
   have e:k (.own (aF (bC ch b ae)) 0) (bC ch b ae++[ab (.cC t l vs)])=ab r:=e;rw[bz]at e;refine⟨_,_,.own (bC ch b ae).length 0,_,_,rfl,?_,o,⟨j,by simp,by omega,λi hi hw=>?_,y7 (.inl ⟨b,j1⟩),λy hy hn=>O y (by grind)⟩,e⟩
   .simp only[VR];exact⟨t.wd,by rw[vU,bz,J],rfl⟩
   rw[de,ax (by omega),D1 _ _ (by grind)]
  trivial
 trivial
theorem ajp(a:HS M ch h){J:Array Nat}{s:CV}{n:Int}{U:V}(A:VR M s U)(e:Wf E J s n ch k=ab r):OS wb M ch h (tT E h.length J U (.im (.int .i64 n)) h) k r:=by
 replace e:=ay.1 e;obtain⟨ti,b,e⟩:=e;unfold tT;rw[b,ah];split at e
 .rename_i el c;subst A;obtain⟨te,hte,e⟩:=ay.1 e;obtain⟨j,I,e⟩:=ay.1 e;obtain⟨u,l,e⟩:=ay.1 e;obtain⟨z,d,e⟩:=ay.1 e;obtain⟨Z,e⟩:=aU e;simp only[aM]at Z;obtain⟨c1,c2,f,g⟩:=Z;obtain⟨i,e⟩:=aU e;simp only[c];rw[hte,ah,I,ah,c1];unfold qx;rw[c2];show OS wb M ch h (bif ak 0 n&&room (0+n.toNat) _ then(te.zero.data []).bind _ else ae) k r;rw[db,show room _ _=bW _ _ from rfl,i,yf d,ah,(iO (show VR M (.sy u z) _ from rfl) g).1,<-bU f,mc,<-yC];exact OS.sx a u _ 0 (by simp) e
 trivial
theorem ajr(Z:HS M ch h){ts:Array Nat}{s x:CV}{H P:V}(a:VR M s H)(hx:VR M x P)(e:Nu E wb ts s x ch k=ab r):OS wb M ch h (tT E h.length ts H P h) k r:=by
 unfold Nu at e;obtain⟨ti,ht,e⟩:=ay.1 e;unfold tT;rw[ht,ah];split at e
 .rename_i el hk;obtain⟨te,hte,e⟩:=ay.1 e;obtain⟨S,T,e⟩:=ay.1 e;simp only[hk];rw[hte,ah,T,ah];cases hz:cA te te.zero with
  |false=>grind
  |true=>
   rw[hz,ao]at e;rw[ao];split at e
   .rename_i xa W;exact ajn Z a hx W e
   obtain⟨u,hu,e⟩:=ay.1 e;obtain⟨new,U,e⟩:=ay.1 e;unfold acn at U;split at U;case h_2=>trivial
   rename_i tel X;cases hw:al u.wd te.size with
   |false=>grind
   |true=>
   rw[hw,ao]at U;have q:=bU hw;obtain⟨d1,d2⟩:=XA Z U hx;have hf:∀l:List u.den,js te.size (l.map u.enc)=ag:=λl=>by
    cases l
    .rfl
    rename_i y l;show al (u.enc y).wd te.size=ag;simp[oA,hw]
   have Y:nL h H=af:=by
    cases s with
    |own b n=>
     have e:(bif wb b then(match aD ch b with
      |some (.arr I c d l)=>bif al n I then(Ty.cs (.an d) (.an u) l).bind λl=>bif bW (l.length+new.length) te.bytes then k (.own b (n+1)) (cW ch b (.arr (n+1) c u (l++new)))else ae else ae
      |_=>ae)else ae)=ab r:=e
     cases hw:wb b with
     |false=>grind
     |true=>
      rw[hw,ao]at e;split at e
      .rename_i I c d l i;cases p:al n I with
       |false=>grind
       |true=>
        rcases Z.own i p a with⟨rfl,_⟩|⟨y,g,ro,_,rfl,v,_⟩<;>try trivial
        show(match ar h y with|some (.cG _ _ _)=>ag|_=>af)=af
        rw[v]
      trivial
    |dR b n o m aP=>
     have e:(bif aP then(bif cY new then ae else(match aD ch b with
      |some (.arr I _ d l)=>bif al n I then(Ty.cs (.an d) (.an u) l).bind λl=>bif bW (m+new.length) te.bytes then kL ch (.arr 0 af u (cx (fT o m l) new)) λb ch=>k (.own b 0) ch else ae else ae
      |_=>ae))else ae)=ab r:=e
     cases aP with
     |false=>cases e
     |true=>
      rw[ao]at e;cases Q:cY new with
      |true=>grind
      |false=>
       rw[Q,au]at e;split at e
       .rename_i I c d l i;cases p:al n I with
        |false=>grind
        |true=>
         rcases Z.dR i p a with⟨rfl,_⟩|⟨y,g,ro,_,rfl,_,v,_⟩<;>try trivial
         show(match ar h y with|some (.cG _ _ _)=>ag|_=>af)=af
         rw[v]
       trivial
    |_=>cases e
   have w:qx E te h.length S H P h=Cq te h.length H (new.map u.enc) h:=by
    unfold qx;have:wQ (E.kind S)=af:=by rw[X];rfl
    rw[this,au,Y,d2,Bool.or_self,au];have:xg E te S P h=ab (new.map u.enc):=by
     unfold xg;grind
    grind
   rw[w];cases s with
   |own b n=>
    have e:(bif wb b then(match aD ch b with
     |some (.arr I c d l)=>bif al n I then(Ty.cs (.an d) (.an u) l).bind λl=>bif bW (l.length+new.length) te.bytes then k (.own b (n+1)) (cW ch b (.arr (n+1) c u (l++new)))else ae else ae
     |_=>ae)else ae)=ab r:=e
    cases hwb:wb b with
    |false=>grind
    |true=>
     rw[hwb,ao]at e;split at e
     .rename_i I c d l0 i;cases p:al n I with
      |false=>grind
      |true=>
       rw[p,ao]at e;replace e:=ay.1 e;obtain⟨l,hl,e⟩:=e;obtain⟨z,J⟩:=kv hl;cases z;have J:l=l0:=J;subst J;have hnv:=bU p;subst hnv;cases R:bW (l.length+new.length) te.bytes with
       |false=>grind
       |true=>
        rw[R,ao]at e;have f:∀j,j< ch.length->wb j=af->aD (cW ch b (.arr (n+1) c u (l++new))) j=aD ch j:=λj _ hj=>by
         rw[gp _ _ _ _ (fy i),ax (by grind)]
        rcases Z.own i p a with⟨rfl,rfl,B⟩|⟨y,g,ro,B,rfl,v,hc,K⟩
        .obtain ⟨F,L⟩:=Z.born (l':=[]++new) i B;show OS wb M ch h (bif js te.size []&&room (aF ([]:List D)+aF (new.map u.enc)) te.bytes then ab (.own h.length 0 0 (aF ([]:List D)+aF (new.map u.enc)) af,aI h h.length (.arr 0 te.size (bif isNone (new.map u.enc)then aF ([]:List D)else 0) ([]++new.map u.enc)))else ae) k r;have A:room (aF ([]:List D)+aF (new.map u.enc)) te.bytes=ag:=by
          grind[bz,gg,room,bW]
         have G:(bif isNone (new.map u.enc)then aF ([]:List D)else 0)=0:=by simp
         rw[A,G,<-q];refine⟨_,_,.own b (n+1),_,_,rfl,?_,L,⟨F,by simp[e9,aL],by simp[b9],f,D6,AE⟩,e⟩
         show∃s,_/\_;refine⟨u.wd,(aK ⟨rfl,rfl⟩).trans ?_,rfl⟩;simp
        obtain⟨F,L⟩:=Z.grow (l':=l++new) (g:=g) i (by simp) B hc K
        show OS wb M ch h (match ar h y with
         |some (.arr N sz ro t)=>
          bif af then
           bif isNone (new.map u.enc)then ab (.own y g 0 l.length af,h)else
           bif fx g N 0 l.length t&&(al sz te.size&&room (l.length+aF (new.map u.enc)) te.bytes)
           then ab (.own h.length 0 0 (l.length+aF (new.map u.enc)) af,aI h h.length (.arr 0 te.size 0 (ir t 0 l.length++new.map u.enc)))else ae
          else
           bif fx g N 0 l.length t&&(al 0 0&&(bu ro l.length&&(al sz te.size&&room (l.length+aF (new.map u.enc)) te.bytes)))
           then ab (.own y (g+1) 0 (l.length+aF (new.map u.enc)) af,aI h y (.arr (g+1) te.size ro (ir t 0 l.length++new.map u.enc)))else ae
         |_=>ae) k r
        rw[v];have a1:bu l.length l.length=ag:=km (aL _);have a2:bu ro l.length=ag:=km K;have A:room (l.length+aF (new.map u.enc)) te.bytes=ag:=by
         grind[bz,gg,room,bW]
        have a3:fx g g 0 l.length (l.map u.enc)=ag:=by simp[fx,a1]
        have a4:ir (l.map u.enc) 0 l.length=l.map u.enc:=by simp[ir]
        simp only[au,a3,a2,A,a4,<-q,gj,F3,ao];refine⟨_,_,.own b (n+1),_,_,rfl,?_,by rw[<-ml];omega,⟨F,by simp[e9,aL],by grind[b9],f,lA,uO B (Z.len _ _ B).2⟩,e⟩
        show∃s,_/\_;refine⟨u.wd,(aK ⟨rfl,rfl⟩).trans ?_,rfl⟩;simp
     trivial
   |dR b n o m aP=>
    replace e:(bif aP then(bif cY new then ae else(match aD ch b with
     |some (.arr I _ d l)=>bif al n I then(Ty.cs (.an d) (.an u) l).bind λl=>bif bW (m+new.length) te.bytes then kL ch (.arr 0 af u (cx (fT o m l) new)) λb ch=>k (.own b 0) ch else ae else ae
     |_=>ae))else ae)=ab r:=e
    cases aP with
    |false=>cases e
    |true=>
     rw[ao]at e;cases Q:cY new with
     |true=>grind
     |false=>
      rw[Q,au]at e;have zO:isNone (new.map u.enc)=af:=by
       cases new
       .cases Q
       rfl
      split at e
      .rename_i I c d l0 i;cases p:al n I with
       |false=>grind
       |true=>
        rw[p,ao]at e;replace e:=ay.1 e;obtain⟨l,hl,e⟩:=e;obtain⟨z,J⟩:=kv hl;cases z;have J:l=l0:=J;subst J;cases R:bW (m+new.length) te.bytes with
        |false=>grind
        |true=>
         rw[R,ao]at e;rcases Z.dR i p a with⟨rfl,rfl,_,rfl⟩|⟨y,g,ro,_,rfl,hm,v,_⟩
         .have B:fT o 0 ([]:List u.den)=[]:=by cases o<;>simp[fT,gv,wY]
          rw[B]at e;show OS wb M ch h (bif js te.size []&&room (aF ([]:List D)+aF (new.map u.enc)) te.bytes then ab (.own h.length 0 0 (aF ([]:List D)+aF (new.map u.enc)) af,aI h h.length (.arr 0 te.size (bif isNone (new.map u.enc)then aF ([]:List D)else 0) ([]++new.map u.enc)))else ae) k r;have A:room (aF ([]:List D)+aF (new.map u.enc)) te.bytes=ag:=by
           grind[bz,gg,room,bW]
          have G:(bif isNone (new.map u.enc)then aF ([]:List D)else 0)=0:=by simp
          rw[A,G,<-q];exact OS.sx Z u new 0 (by simp) e
         have O:o.getD 0+m<=(l.map u.enc).length:=by rw[gg];exact hm
         show OS wb M ch h (match ar h y with
          |some (.arr N sz ro t)=>
           bif ag then
            bif isNone (new.map u.enc)then ab (.own y g (o.getD 0) m ag,h)else
            bif fx g N (o.getD 0) m t&&(al sz te.size&&room (m+aF (new.map u.enc)) te.bytes)
            then ab (.own h.length 0 0 (m+aF (new.map u.enc)) af,aI h h.length (.arr 0 te.size 0 (ir t (o.getD 0) m++new.map u.enc)))else ae
           else
            bif fx g N (o.getD 0) m t&&(al (o.getD 0) 0&&(bu ro m&&(al sz te.size&&room (m+aF (new.map u.enc)) te.bytes)))
            then ab (.own y (g+1) 0 (m+aF (new.map u.enc)) af,aI h y (.arr (g+1) te.size ro (ir t 0 m++new.map u.enc)))else ae
          |_=>ae) k r
         rw[v];have A:room (m+aF (new.map u.enc)) te.bytes=ag:=by
          rw[bz,gg];simpa[room,bW]using R
         simp only[ao,zO,au,CS O,On O,A,<-q,gj,F3];rw[<-CT,<-ml];refine OS.sx Z u (fT o m l++new) 0 ?_ e;rw[bz,gg,dH,akU hm]
      trivial
   |_=>cases e
 trivial
end
end Go.As
end
