/- A part of the proof. -/
import Derived.Test.YtceibfdaacdjlaaGreatDoorA4
set_option linter.all false
open Bool renaming and_eq_true->aM,and_self->Kt,false->af,not_eq_true->hG,not_eq_true'->Eg,or_self->acF,or_true->wH,rec->jt,true->ag
open Int renaming ofNat->aC
open List renaming all_cons->wY,all_eq_true->l9,filterMap_cons_some->adD,getElem?_map->nS,length_append->dD,length_map->gd,length_set->hV,length_singleton->EC,map_append->p8,map_cons->oL,map_drop->adJ,map_replicate->Au,mem_append->cB,mem_cons_self->e8,rec->a8,replicate->bT
open Nat renaming beq->ak,beq_eq->lk,beq_refl->iZ,ble->bp,ble_eq_true_of_le->kl,blt->cA,div->mg,eq_of_beq_eq_true->bR,le_of_ble_eq_true->gX,le_of_lt->cX,le_refl->aJ,le_trans->bU,le_zero->KW,lt_irrefl->gE,lt_of_lt_of_le->eU,lt_succ_self->ad2,min->mh,mod->i0,rec->ko,zero_add->cV,zero_le->bX
open Option renaming bind_eq_some_iff->ay,bind_some->ah,map_some->hY,none->ae,rec->dB,some->ab
open Prod renaming fst->eN,snd->gF
noncomputable section
namespace Go.As
section
inductive CV where
 |undef
 |sy (t:Ty) (x:t.den)
 |rf (t:Ty) (x:t.den)
 |m8 (d:D)
 |fA
 |agg (w:Nat) (l:List CV)
 |aG (l:List CV)
 |own (b v:Nat)
 |ptr (b:Nat) (p:List (Nat×Nat))
 |el (b v i:Nat) (p:List (Nat×Nat))
 |fn (f:Nat) (a c:List CV)
 |fm (t:Ty) (l:List t.den)
 |da (b v:Nat) (o:Option Nat) (n:Nat) (aR:Bool)
 |ifc (t:Nat) (v:CV)
 |mp (b:Nat)
 |il (j:IntKind) (t:Ty) (l:List (Int×t.den))
 |yl (b:Nat)
 |tl (b d:Nat) (p:List (Nat×Nat))
 |eW (t:Ty) (l:List t.den) (v:CV)
 deriving Inhabited
def sF(a b:Nat):=a+b
def amw(a b:Nat):=a-b
def nH(a b:Nat):=a-b
def jm{α:Type}(l:List α) n:=l.take n
def va{α:Type}(l:List α) n:=l.drop n
def fe{α:Type}(o:Option Nat)(n:Nat)(l:List α):=match o with|none=>jm l n|some o=>jm (va l o) n
def ph(o i:Option Nat):=match i with
 |none=>o
 |some i=>match o with|none=>ab i|some o=>ab (sF o i)
def Cy(o:Option Nat)(i:Nat):=match o with|none=>i|some o=>sF o i
def ik(j:Nat)(i:Option Nat):=match i with|none=>j|some i=>amw j i
def cC{α:Type}(l:List α):=match l with|[]=>ag|_::_=>af
def fO(v:CV):=match v with|.undef=>ag|_=>af
def gK(l:List CV):=l.all λv=>!fO v
def V3{α:Type}(l:List α):=match l with|[]=>ae|a::_=>ab a
inductive TC where
 |e
 |n (v:CV) (l r:TC)
inductive CB where
 |cell (v:CV)
 |arr (v:Nat) (c:Bool) (t:Ty) (l:List t.den)
 |lL (j:IntKind) (t:Ty) (l:List (Int×t.den))
 |cu (t:Ty) (l:List t.den) (vs:List CV)
 |nj (f:Nat) (tc:TC) (ps:List Nat) (bO body:Code)
 |hole
abbrev CH:=List (Option CB)
def TC.get(t:TC):Nat->CV:=
 TC.rec (λ_=>CV.undef) (λv _ _ gl gr i=>jt (jt (gr (Nat.sub (mg i 2) 1)) (gl (mg i 2)) (ak (i0 i 2) 1)) v (ak i 0)) t
def TC.set(t:TC):Nat->CV->TC:=
 TC.rec (λ_ _=>TC.e) (λv l r sl A i x=>jt (jt (TC.n v l (A (Nat.sub (mg i 2) 1) x)) (TC.n v (sl (mg i 2) x) r) (ak (i0 i 2) 1)) (TC.n x l r) (ak i 0)) t
def TC.mk(d:Nat):TC:=ko TC.e (λ_ t=>TC.n .undef t t) d
def aB(h:CH)(b:Nat):Option CB:=match bC h b with|some (ab x)=>ab x|_=>ae
def cG(h:CH)(b:Nat)(x:CB):CH:=bB h b (ab x)
def sD:(l:Ty)->l.den->List CV
 |.cn t l,x=>.sy t x.1::sD l x.2
 |_,_=>[]
def CV.kids:CV->Option (List CV)
 |.sy (.st _ l) x=>ab (sD l x)
 |.agg _ l=>ab l
 |_=>ae
def CV.part(v:CV)(i:Nat):=
 match v with
 |.sy (.aG l) x=>bC (sD l x) i
 |.aG l=>bC l i
 |_=>ae
def CV.wd:CV->Nat
 |.sy t _=>t.wd
 |.m8 d=>d.wd
 |.agg w _=>w
 |_=>1
def tA(l:List CV):Nat->Nat:=
 a8 (λ_=>0) (λv _ ih i=>match i with|0=>0|j+1=>v.wd+ih j) l
structure TX where
 t:Ty
 x:t.den
def qi(l:List CV):Option TX:=
 a8 (ab ⟨.nl,()⟩) (λv _ ih=>match v with
  |.sy t x=>dB ae (λr=>ab ⟨.cn t r.t,(x,r.x)⟩) ih
  |_=>ae) l
def kH(w:Nat)(l:List CV):CV:=dB (CV.agg w l) (λr=>CV.sy (.st w r.t) r.x) (qi l)
def qO(l:List CV):CV:=dB (CV.aG l) (λr=>CV.sy (.aG r.t) r.x) (qi l)
def CV.dw(v:CV)(k o:Nat):=v.kids.bind λl=>bif ak (tA l k) o then bC l k else ae
def CV.eQ(v:CV)(p:List (Nat×Nat)):Option CV:=
 a8 (λv=>ab v) (λs _ ih v=>(CV.dw v s.1 s.2).bind ih) p v
def CV.put(x:CV)(p:List (Nat×Nat))(v:CV):Option CV:=
 a8 (λv=>bif ak x.wd v.wd&&not (fO v)then ab x else ae) (λs _ ih v=>
  v.kids.bind λl=>bif ak (tA l s.1) s.2 then(bC l s.1).bind λc=>(ih c).map λA=>kH v.wd (bB l s.1 A)else ae) p v
mutual
def sJ:D->CV
 |.bool b=>.sy .bool b
 |.int k n=>.sy (.int k) n
 |.str s=>.sy .str s
 |.agg w l=>kH w (sK l)
 |.aG l=>qO (sK l)
 |.dn=>.sy .err []
 |d=>.m8 d
def sK:List D->List CV
 |[]=>[]
 |d::l=>sJ d::sK l
end
mutual
def ir:V->CV
 |.im d=>sJ d
 |.full []=>.fA
 |.agg w l=>bif gK (vq l)&&(fx l).isNone then kH w (vq l)else .undef
 |.fn f [] []=>.fn f [] []
 |_=>.undef
def vq:List V->List CV
 |[]=>[]
 |v::l=>ir v::vq l
end
mutual
def CV.dt(ch:CH):(t:Ty)->CV->Option t.den
 |t,.sy u x=>Ty.cs u t x
 |.ar _,.fA=>ab []
 |.iO,.fn f a c=>match a,c with|[],[]=>ab f|_,_=>ae
 |.ar t,.own b v=>match aB ch b with
  |some (.arr A _ u l)=>bif ak v A then Ty.cs (.ar u) (.ar t) l else ae
  |_=>ae
 |.ar t,.fm u l=>Ty.cs (.ar u) (.ar t) l
 |.ar t,.da b v o n _=>match aB ch b with
  |some (.arr A _ u l)=>bif ak v A then Ty.cs (.ar u) (.ar t) (fe o n l)else ae
  |_=>ae
 |.st w l,.agg w' vs=>bif ak w w' then CV.fK ch l vs else ae
 |.aG l,.aG vs=>CV.fK ch l vs
 |_,_=>ae
def CV.fK(ch:CH):(l:Ty)->List CV->Option l.den
 |.nl,[]=>ab ()
 |.cn t l,v::vs=>match CV.dt ch t v,CV.fK ch l vs with
  |some x,ab y=>ab (x,y)
  |_,_=>ae
 |_,_=>ae
end
mutual
def CV.ga:CV->List Nat
 |.own b _=>[b]
 |.da b _ _ _ _=>[b]
 |.agg _ l=>CV.fS l
 |.aG l=>CV.fS l
 |_=>[]
def CV.fS:List CV->List Nat
 |[]=>[]
 |v::l=>v.ga++CV.fS l
end
def CV.yO:CV->Bool
 |.ptr _ _|.el _ _ _ _|.mp _|.yl _|.tl _ _ _=>ag
 |.fn _ (_::_) _=>ag
 |.fn _ _ (_::_)=>ag
 |.ifc _ v=>v.yO
 |_=>af
def m7(ch:CH)(A:List Nat):CH:=
 a8 (λh=>h) (λb _ ih h=>match aB h b with
  |some (.arr v _ t l)=>ih (cG h b (.arr v ag t l))
  |_=>ih h) A ch
structure Spec where
 a:Ty
 r:Ty
 f:a.den->Option r.den
inductive Pt where
 |val (t:Ty)
 |buf (c:Bool) (t:Ty)
 |agg (w:Nat) (l:List Pt)
 |nil
 |mp (j:IntKind) (t:Ty)
 |cu (t:Ty) (p:Pt)
 |oR (t:Ty) (p:Pt)
structure Hint where
 dz:List (Nat×Pt)
 cells:List (Nat×Pt)
 di:List (Nat×Ty)
inductive Ap where
 |val (t:Ty)
 |buf (w:Bool) (t:Ty)
 |cell (w:Bool) (t:Ty)
 |fn (f:Nat) (a c:List Ap)
mutual
def Ap.ty:Ap->Ty
 |.val t=>t
 |.buf _ t=>.ar t
 |.cell _ t=>t
 |.fn _ a c=>.cn (bh.ty a) (bh.ty c)
def bh.ty:List Ap->Ty
 |[]=>.nl
 |p::l=>.cn p.ty (bh.ty l)
end
mutual
def Ap.get(ch:CH):(p:Ap)->CV->Option p.ty.den
 |.val t,.sy u x=>Ty.cs u t x
 |.buf w t,.own b n=>match aB ch b with
  |some (.arr A c u l)=>bif ak n A&&bif w then not c else c then Ty.cs (.ar u) (.ar t) l else ae
  |_=>ae
 |.cell _ t,.ptr b []=>match aB ch b with
  |some (.cell (.sy u x))=>Ty.cs u t x
  |_=>ae
 |.fn f a c,.fn I J U=>bif ak f I then match bh.get ch a J,bh.get ch c U with
  |some x,ab y=>ab (x,y)
  |_,_=>ae else ae
 |_,_=>ae
def bh.get(ch:CH):(l:List Ap)->List CV->Option (bh.ty l).den
 |[],[]=>ab ()
 |p::l,v::vs=>match Ap.get ch p v,bh.get ch l vs with
  |some x,ab y=>ab (x,y)
  |_,_=>ae
 |_,_=>ae
end
mutual
def Ap.src:Ap->CV->List (Nat×Nat)
 |.buf _ _,.own b n=>[(b,n)]
 |.cell _ _,.ptr b _=>[(b,0)]
 |.fn _ a c,.fn _ A I=>bh.src a A++bh.src c I
 |_,_=>[]
def bh.src:List Ap->List CV->List (Nat×Nat)
 |p::l,v::vs=>p.src v++bh.src l vs
 |_,_=>[]
end
mutual
def Ap.gR:Ap->List Bool
 |.val _=>[]
 |.buf w _=>[w]
 |.cell w _=>[w]
 |.fn _ a c=>bh.gR a++bh.gR c
def bh.gR:List Ap->List Bool
 |[]=>[]
 |p::l=>p.gR++bh.gR l
end
mutual
def Ap.mk:(p:Ap)->p.ty.den->Nat->CV×Nat
 |.val t,x,n=>(.sy t x,n)
 |.buf _ _,_,n=>(.own n 0,n+1)
 |.cell _ _,_,n=>(.ptr n [],n+1)
 |.fn f a c,x,n=>match bh.mk a x.1 n with|(A,n)=>match bh.mk c x.2 n with|(cs,n)=>(.fn f A cs,n)
def bh.mk:(l:List Ap)->(bh.ty l).den->Nat->List CV×Nat
 |[],_,n=>([],n)
 |p::l,x,n=>match Ap.mk p x.1 n with|(v,n)=>match bh.mk l x.2 n with|(vs,n)=>(v::vs,n)
end
mutual
def Ap.news:(p:Ap)->p.ty.den->CH
 |.val _,_=>[]
 |.buf w t,l=>[ab (.arr 0 (not w) t l)]
 |.cell _ t,x=>[ab (.cell (.sy t x))]
 |.fn _ a c,x=>bh.news a x.1++bh.news c x.2
def bh.news:(l:List Ap)->(bh.ty l).den->CH
 |[],_=>[]
 |p::l,x=>Ap.news p x.1++bh.news l x.2
end
mutual
def Ap.back(ch:CH):(p:Ap)->p.ty.den->Nat->Option (p.ty.den×Nat)
 |.val _,x,n=>ab (x,n)
 |.buf w t,l,n=>bif w then match aB ch n with
  |some (.arr v c u A)=>bif ak v 0&&not c then match Ty.cs (.ar u) (.ar t) A with|some y=>ab (y,n+1)|none=>ae else ae
  |_=>ae else ab (l,n+1)
 |.cell w t,x,n=>bif w then match aB ch n with
  |some (.cell (.sy u y))=>match Ty.cs u t y with|some y=>ab (y,n+1)|none=>ae
  |_=>ae else ab (x,n+1)
 |.fn _ a c,x,n=>match bh.back ch a x.1 n with
  |some (y,n)=>match bh.back ch c x.2 n with|some (z,n)=>ab ((y,z),n)|none=>ae
  |none=>ae
def bh.back(ch:CH):(l:List Ap)->(bh.ty l).den->Nat->Option ((bh.ty l).den×Nat)
 |[],_,n=>ab ((),n)
 |p::l,x,n=>match Ap.back ch p x.1 n with
  |some (y,n)=>match bh.back ch l x.2 n with|some (z,n)=>ab ((y,z),n)|none=>ae
  |none=>ae
end
def po(ch:CH)(q:Nat×Nat)(y:Option CB):=
 match y with
 |some (.cell v)=>cG ch q.1 (.cell v)
 |some (.arr _ c t l)=>cG ch q.1 (.arr q.2 c t l)
 |_=>ch
def px:List (Nat×Nat)->List Bool->CH->CH->CH
 |q::S,w::ws,y::A,ch=>px S ws A (bif w then po ch q y else ch)
 |_,_,_,ch=>ch
def fG:List (Nat×Nat)->List Bool->List Nat
 |q::S,w::ws=>bif w then q.1::fG S ws else fG S ws
 |_,_=>[]
structure kq where
 ps:List Ap
 r:Ty
 f:(bh.ty ps).den->Option (r.den×(bh.ty ps).den)
structure CE where
 E:Env
 sp:Nat->Option Spec
 J1:Nat->Option kq
 hint:Nat->Nat->Option Hint
 join:Nat->Nat->Option Hint
 rC:Nat->Nat->Bool
section
variable {ρ:Type}
abbrev KC(ρ:Type):=CV->CH->Option ρ
def L8(v:Value):CV:=dB .undef ir (sM v)
def vC(tc:TC)(o:Operand):=
 match o with
 |.tmp n=>tc.get n
 |.const v=>L8 v
 |.func f=>.fn f [] []
 |.global _=>.undef
def oD(tc:TC)(l:Array Operand):List CV:=a8 [] (λo _ ih=>vC tc o::ih) l.toList
def vu(k:TK)(v:CV):=
 match v with
 |.sy (.st _ _) _=>gL.jE k
 |.sy (.aG _) _=>af
 |.sy .nl _=>af
 |.sy (.cn _ _) _=>af
 |.sy _ _=>not (gL.jE k)
 |.m8 d=>gL.HX k d
 |.agg _ _=>gL.jE k
 |.aG _|.undef|.il _ _ _|.eW _ _ _=>af
 |_=>not (gL.jE k)
def dG(ti:TI)(v:CV):=ak v.wd ti.size&&vu ti.k v
def iq(ch:CH) b(k:Nat->CH->Option ρ):=k (aA ch) (ch++[ab b])
def PV(c a b:CV)(ch:CH)(k:KC ρ):Option ρ:=
 match c with
 |.sy .bool t=>match a,b with
  |.sy u x,.sy A y=>dB (bif t then k a ch else k b ch) (λI=>k (.sy u (bif t then x else I)) ch) (Ty.cs A u y)
  |_,_=>bif t then k a ch else k b ch
 |_=>ae
def E9(E:Env) t ch(k:KC ρ):=
 (E.ty t).bind λti=>bif cq ti ti.zero&&not (ak t E.fy.1)then iq ch (.cell (ir ti.zero)) λb ch=>k (.ptr b []) ch else ae
def AX(E:Env) t x(ch:CH)(k:KC ρ):=
 (E.ty t).bind λti=>bif dG ti x then match ti.k with
  |.arr _ _=>match x with|.sy u y=>k (.rf u y) ch|_=>ae
  |_=>iq ch (.cell x) λb ch=>k (.ptr b []) ch else ae
def Ff(t:Ty):(l:Ty)->l.den->Option (List t.den)
 |.cn u l,x=>match Ty.cs u t x.1,Ff t l x.2 with|some y,ab r=>ab (y::r)|_,_=>ae
 |.nl,_=>ab []
 |_,_=>ae
def G1(v:CV):=match v with|.undef|.aG _|.il _ _ _|.eW _ _ _|.sy (.aG _) _|.sy .nl _|.sy (.cn _ _) _=>af|.m8 (.aG _)=>af|_=>ag
def FZ(A:Nat->Option (Nat×Nat))(ps:List (Nat×CV))(kids:List CV):Option (List CV):=
 a8 (λl=>ab l) (λp _ ih l=>(A p.1).bind λI=>(bC l p.1).bind λc=>
  bif ak (tA l p.1) I.1&&(ak c.wd I.2&&(ak p.2.wd I.2&&G1 p.2))then ih (bB l p.1 p.2)else ae) ps kids
def ku(e:Operand->CV)(ps:Array (Nat×Operand)):List (Nat×CV):=a8 [] (λp _ ih=>(p.1,e p.2)::ih) ps.toList
def TZ(E:Env) t(ps:List (Nat×CV)) ch(k:KC ρ):=
 (E.ty t).bind λti=>(ir ti.zero).kids.bind λl=>
  match ti.k with
  |.st fs=>(FZ (λi=>(bC fs i).map λf=>(f.1,f.2.1)) ps l).bind λA=>k (kH ti.zero.wd A) ch
  |.arr _ el=>(E.ty el).bind λte=>(FZ (λi=>ab (i*te.size,te.size)) ps l).bind λA=>k (kH ti.zero.wd A) ch
  |_=>ae
def F0(ch:CH)(t:Ty)(ps:List (Nat×CV))(l:List t.den):Option (List t.den):=
 a8 (λl=>ab l) (λp _ ih l=>(CV.dt ch t p.2).bind λx=>bif cA p.1 (aA l)&&G1 p.2 then ih (l.set p.1 x)else ae) ps l
def ns(ps:List (Nat×CV)):List Nat:=a8 [] (λp _ ih=>p.2.ga++ih) ps
def jd(E:Env) keep t n(ps:List (Nat×CV)) ch(k:KC ρ):=
 (E.ty t).bind λti=>match ti.k with
  |.ar el=>(E.ty el).bind λte=>(pP E 12 el).bind λu=>(CV.dt [] u (ir te.zero)).bind λz=>
    bif bp (n*te.size) 16777216&&bp n 16777216&&(ak u.wd te.size&&(dG te (.sy u z)&&(yy (ns ps)&&(not keep||qh ps))))then
     (F0 ch u ps (bT n z)).bind λl=>iq ch (.arr 0 af u l) λb ch=>k (.own b 0) ch
    else ae
  |_=>ae
where
 yy (l:List Nat):Bool:=match l with|[]=>ag|_=>af
 qh (ps:List (Nat×CV)):=a8 ag (λp _ ih=>match p.2 with|.sy _ _=>ih|_=>af) ps
mutual
def CV.mem:CV->Bool
 |.own _ _|.ptr _ _|.da _ _ _ _ _|.el _ _ _ _|.tl _ _ _=>ag
 |.agg _ l=>CV.vf l
 |_=>af
def CV.vf:List CV->Bool
 |[]=>af
 |v::l=>v.mem||CV.vf l
end
def z6(keep:Bool)(ps:List (Nat×CV)):=
 bif keep then CV.vf (ps.map gF)else match ps with|(_,.ptr _ _)::_=>ag|_=>af
def Fl(E:Env) t n(ps:List (Nat×CV)) ch(k:KC ρ):=
 (E.ty t).bind λti=>match ti.k with
  |.ar el=>(E.ty el).bind λte=>(te.zero.data []).bind λz=>
    bif bp (n*te.size) 16777216&&bp n 16777216&&(cq te (.im z)&&(ak (RP E el te).wd te.size&&not (fO (ir te.zero))))then
     (FZ (λi=>ab (i*te.size,te.size)) ps (bT n (ir te.zero))).bind λl=>iq ch (.cu (RP E el te) [] l) λb ch=>k (.own b 0) ch
    else ae
  |_=>ae
where
 RP E el te:Ty:=match pP E 12 el with|some u=>u|none=>.bool
def ef(f:Nat->Bool)(l:List Nat):Bool:=a8 ag (λa _ ih=>bif f a then ih else af) l
def qL(wb:Nat->Bool)(ch:CH)(A:List Nat):=
 ef (λb=>match aB ch b with|some (.arr _ ag _ _)=>ag|_=>wb b) A
def LN(E:Env)(wb:Nat->Bool) t n(ps:List (Nat×CV)) ch(k:KC ρ):=
 (E.ty t).bind λti=>match ti.k with
  |.ar el=>(E.ty el).bind λte=>(pP E 12 el).bind λu=>(CV.dt [] u (ir te.zero)).bind λz=>
    bif bp (n*te.size) 16777216&&bp n 16777216&&(ak u.wd te.size&&(dG te (.sy u z)&&qL wb ch (ns ps)))then
     (F0 ch u ps (bT n z)).bind λl=>iq (m7 ch (ns ps)) (.arr 0 af u l) λb ch=>k (.own b 0) ch
    else ae
  |_=>ae
def Ch(E:Env) t(a:CV)(ch:CH)(k:KC ρ):=
 (E.ty t).bind λti=>match a with
  |.ptr b p=>match aB ch b with
   |some (.cell v)=>(v.eQ p).bind λv=>bif dG ti v then k v ch else ae
   |_=>ae
  |.rf u x=>bif dG ti (.sy u x)then k (.sy u x) ch else ae
  |.el b v i p=>match aB ch b with
   |some (.arr A _ u l)=>bif ak v A then l[i]?.bind λx=>(CV.eQ (.sy u x) p).bind λy=>bif dG ti y then k y ch else ae else ae
   |some (.cu u l [])=>bif ak v 0 then l[i]?.bind λx=>(CV.eQ (.sy u x) p).bind λy=>bif dG ti y then k y ch else ae else ae
   |_=>ae
  |.tl b d p=>match aB ch b with
   |some (.cu _ _ vs)=>bif bp d (aA vs)then(bC vs (nH (aA vs) d)).bind λw=>(w.eQ p).bind λy=>bif dG ti y then k y ch else ae else ae
   |_=>ae
  |_=>ae
def Is(t:Ty)(x:CV)(p:List (Nat×Nat))(y:t.den):=
 match p with
 |[]=>bif ak x.wd t.wd then CV.dt [] t x else ae
 |q::p=>match x with
  |.sy u z=>match CV.put (.sy u z) (q::p) (.sy t y)with
   |some (.sy A I)=>Ty.cs A t I
   |_=>ae
  |_=>ae
def Rt(E:Env)(wb:Nat->Bool) t(a x:CV)(ch:CH)(k:KC ρ):=
 (E.ty t).bind λti=>bif dG ti x then match a with
  |.ptr b p=>bif wb b then match aB ch b with
   |some (.cell v)=>(x.put p v).bind λA=>k .undef (cG ch b (.cell A))
   |_=>ae else ae
  |.el b v i p=>bif wb b then match aB ch b with
   |some (.arr A af u l)=>bif ak v A then l[i]?.bind λy=>(Is u x p y).bind λI=>k .undef (cG ch b (.arr A af u (l.set i I)))else ae
   |_=>ae else ae
  |.tl b d p=>bif wb b then match aB ch b with
   |some (.cu u l vs)=>bif bp d (aA vs)then(bC vs (nH (aA vs) d)).bind λw=>(x.put p w).bind λw'=>k .undef (cG ch b (.cu u l (bB vs (nH (aA vs) d) w')))else ae
   |_=>ae else ae
  |_=>ae else ae
def Y8(x:CV)(ch:CH)(k:KC ρ):=match x with|.ptr b p=>k (.ptr b p) ch|.el b v i p=>k (.el b v i p) ch|.tl b d p=>k (.tl b d p) ch|.rf t y=>k (.rf t y) ch|_=>ae
def cS:(t:Ty)->t.den->t.den->Bool
 |.bool,a,b=>a==b
 |.int _,a,b=>ai a b
 |.str,a,b=>seq a b
 |.st _ l,a,b=>cS l a b
 |.nl,_,_=>ag
 |.cn t l,a,b=>cS t a.1 b.1&&cS l a.2 b.2
 |_,_,_=>af
def lB:Ty->Bool
 |.bool|.int _|.str|.nl=>ag
 |.st _ l=>lB l
 |.cn t l=>lB t&&lB l
 |_=>af
def RN(E:Env) u(t:Nat):=gi E 12 t u&&lB u
def kI(k:IntKind) ch(A:KC ρ)(n:Int):=A (.sy (.int k) n) ch
def kB ch(A:KC ρ)(b:Bool):=A (.sy .bool b) ch
def Fe(op:BinOp)(k:IntKind)(x y:Int)(ch:CH)(A:KC ρ):=
 match op with
 |.add=>kI k ch A (wr k (x+y))
 |.sub=>kI k ch A (wr k (x-y))
 |.mul=>kI k ch A (wr k (x*y))
 |.quo=>bif ai y 0 then ae else kI k ch A (wr k (x.tdiv y))
 |.rem=>bif ai y 0 then ae else kI k ch A (x.tmod y)
 |.and=>kI k ch A (wr k (aC (Nat.land (word k x) (word k y))))
 |.or=>kI k ch A (wr k (aC (Nat.lor (word k x) (word k y))))
 |.xor=>kI k ch A (wr k (aC (Nat.xor (word k x) (word k y))))
 |.andNot=>kI k ch A (wr k (aC (Nat.land (word k x) (2^kb k-1-word k y))))
 |.eql=>kB ch A (ai x y)
 |.neq=>kB ch A (not (ai x y))
 |.lss=>kB ch A (ao x y)
 |.leq=>kB ch A (aj x y)
 |.gtr=>kB ch A (ao y x)
 |.geq=>kB ch A (aj y x)
 |.shl=>bif ao y 0 then ae else kI k ch A (wr k (x*aC (2^mh y.toNat (kb k))))
 |.shr=>bif ao y 0 then ae else kI k ch A (x.fdiv (aC (2^mh y.toNat (kb k))))
def Vd(E:Env)(op:BinOp) t lit(a b:List (Nat×Int))(ch:CH)(k:KC ρ):=
 bif cC b then(E.ty t).bind λti=>match ti.k with
  |.ifc m=>bif not m||lit then match op with
   |.eql=>kB ch k (cC a)
   |.neq=>kB ch k (not (cC a))
   |_=>ae else ae
  |_=>ae else ae
def LI E op t lit(x y:CV)(ch:CH)(k:KC ρ):=
 match x,y with
 |.sy .err a,.sy .err b=>Vd E op t lit a b ch k
 |.sy (.int j) a,.sy (.int A) b=>match op with
  |.shl=>Fe .shl j a b ch k
  |.shr=>Fe .shr j a b ch k
  |op=>bif fP j A then Fe op j a b ch k else ae
 |.sy u a,.sy I b=>bif RN E u t then(Ty.cs I u b).bind λb=>match op with
  |.eql=>kB ch k (cS u a b)
  |.neq=>kB ch k (not (cS u a b))
  |_=>ae else ae
 |_,_=>ae
def N4(E:Env)(t:Nat)(x:CV)(ch:CH)(k:KC ρ):Option ρ:=
 match E.kind t with
 |some (.ifc _)=>ae
 |some _=>match x with
  |.sy u z=>(Ty.cs u (.st 2 (.cn (.int .i64) (.cn .err .nl))) z).bind λy=>k (.sy .err ((t,y.1)::y.2.1)) ch
  |.ptr b p=>k (.ifc t (.ptr b p)) ch
  |_=>ae
 |none=>ae
def RQ(op:UnOp)(x:CV)(ch:CH)(k:KC ρ):=
 match op,x with
 |.not,.sy .bool b=>kB ch k (not b)
 |.neg,.sy (.int j) n=>kI j ch k (wr j (0-n))
 |.xor,.sy (.int j) n=>kI j ch k (wr j (aC (2^kb j-1-word j n)))
 |_,_=>ae
def xF(E:Env)(s d:Nat)(x:CV)(ch:CH)(k:KC ρ):Option ρ:=
 match E.kind s,E.kind d,x with
 |some (.int _),ab (.int j),.sy (.int _) n=>kI j ch k (wr j n)
 |some .str,ab .str,.sy .str b=>k (.sy .str b) ch
 |_,_,_=>ae
def Hq(E:Env) t(l c:CV)(ch:CH)(k:KC ρ):=
 (E.ty t).bind λti=>match ti.k with
  |.ar el=>(E.ty el).bind λte=>(pP E 12 el).bind λu=>(CV.dt [] u (ir te.zero)).bind λz=>match l,c with
   |.sy (.int .i64) n,.sy (.int .i64) m=>bif ak u.wd te.size&&dG te (.sy u z)then
    bif aj 0 n&&(aj n m&&aj (m*aC te.bytes) 70368744177664)then iq ch (.arr 0 af u (bT n.toNat z)) λb ch=>k (.own b 0) ch else ae
    else ae
   |_,_=>ae
  |_=>ae
def uv hi(x:Option CV)(A:Nat)(k:Nat->Option ρ):=
 match x with
 |none=>k A
 |some (.sy (.int _) n)=>bif aj 0 n&&aj n (aC hi)then k n.toNat else ae
 |_=>ae
def xH len(lo hi:Option CV)(k:Option Nat->Nat->Option ρ):=
 uv len hi len λj=>match lo with
  |none=>k ae j
  |some (.sy (.int _) n)=>bif aj 0 n&&aj n (aC j)then k (ab n.toNat) j else ae
  |_=>ae
def xI len(lo:Option CV)(hi:Option CV)(mx:CV)(k:Option Nat->Nat->Option ρ):=
 match hi,mx with
 |some (.sy (.int _) a),.sy (.int _) b=>bif aj 0 b&&aj b (aC len)then bif aj 0 a&&aj a b then bif ai a b then match lo with
  |none=>k ae a.toNat
  |some (.sy (.int _) n)=>bif aj 0 n&&aj n a then k (ab n.toNat) a.toNat else ae
  |_=>ae else ae else ae else ae
 |_,_=>ae
def OU aR(hi:Option CV)(k:Bool->Option ρ):=bif aR then match hi with|none=>k ag|some _=>ae else k af
def Ri(E:Env) t(x:CV)(lo hi mx:Option CV)(ch:CH)(k:KC ρ):=
 (E.ty t).bind λti=>match ti.k,x with
  |.ar el,.sy (.ar u) l=>(E.ty el).bind λte=>bif ak u.wd te.size then match mx with
   |none=>uv l.length hi l.length λj=>uv j lo 0 λi=>k (.sy (.ar u) ((l.drop i).take (j-i))) ch
   |some m=>xI l.length lo hi m λi j=>k (.fm u (fe i (ik j i) l)) ch else ae
  |.ar el,.fm u l=>(E.ty el).bind λte=>bif ak u.wd te.size then match mx with
   |none=>xH l.length lo hi λi j=>bif ai (aC j) (aC l.length)then k (.fm u (fe i (ik j i) l)) ch else k (.sy (.ar u) (fe i (ik j i) l)) ch
   |some m=>xI l.length lo hi m λi j=>k (.fm u (fe i (ik j i) l)) ch else ae
  |.ar el,.own b v=>(E.ty el).bind λte=>match aB ch b with
   |some (.arr A _ u l)=>bif ak v A&&ak u.wd te.size then match mx with
    |none=>xH l.length lo hi λi j=>k (.da b v i (ik j i) af) ch
    |some m=>xI l.length lo hi m λi j=>k (.da b v i (ik j i) ag) ch else ae
   |_=>ae
  |.ar el,.da b v o n aR=>(E.ty el).bind λte=>match aB ch b with
   |some (.arr A _ u l)=>bif ak v A&&ak u.wd te.size then match mx with
    |none=>OU aR hi λaR=>xH n lo hi λi j=>k (.da b v (ph o i) (ik j i) aR) ch
    |some m=>xI n lo hi m λi j=>k (.da b v (ph o i) (ik j i) ag) ch else ae
   |_=>ae
  |.str,.sy .str l=>match mx with
   |none=>uv l.length hi l.length λj=>uv j lo 0 λi=>k (.sy .str ((l.drop i).take (j-i))) ch
   |some _=>ae
  |.arr m el,.rf (.st _ l) y=>match lo,hi,mx with
   |none,ae,ae=>(E.ty el).bind λte=>(pP E 12 el).bind λu=>(Ff u l y).bind λI=>bif ak (aA I) m&&(bp m 16777216&&ak u.wd te.size)then k (.fm u I) ch else ae
   |_,_,_=>ae
  |_,_=>ae
def Vj(E:Env) t(x:CV) j(ch:CH)(k:KC ρ):=
 (E.ty t).bind λti=>match ti.k with
  |.st fs=>(bC fs j).bind λf=>bif ak f.2.1 0 then ae else match x with
   |.ptr b p=>k (.ptr b (p++[(j,f.1)])) ch
   |.el b v i p=>k (.el b v i (p++[(j,f.1)])) ch
   |.tl b d p=>k (.tl b d (p++[(j,f.1)])) ch
   |.rf u y=>match CV.dw (.sy u y) j f.1 with
    |some (.sy A I)=>bif ak A.wd f.2.1 then k (.rf A I) ch else ae
    |_=>ae
   |_=>ae
  |_=>ae
def Vk(E:Env) t(x:CV) j ch(k:KC ρ):=
 (E.ty t).bind λti=>match ti.k with
  |.st fs=>(bC fs j).bind λf=>(E.ty f.2.2).bind λA=>(x.dw j f.1).bind λv=>bif ak v.wd f.2.1&&vu A.k v then k v ch else ae
  |_=>ae
def RA{α:Type}(l:List α)(vs:List CV)(n:Int)(k:Nat->Option ρ):=
 match vs with
 |[_]=>bif ai n (aC l.length)then k 1 else ae
 |vs=>match l with
  |[]=>bif aj 0 n&&cA n.toNat (aA vs)then k (nH (aA vs) n.toNat)else ae
  |_=>ae
def N8(E:Env) t(x i:CV)(ch:CH)(k:KC ρ):=
 match i with
 |.sy (.int _) n=>(E.ty t).bind λti=>match ti.k with
  |.ar el=>(E.ty el).bind λte=>match x with
   |.sy (.ar u) l=>bif ak u.wd te.size then bif aj 0 n then l[n.toNat]?.bind λy=>k (.rf u y) ch else ae else ae
   |.own b v=>match aB ch b with
    |some (.arr A _ u l)=>bif ak v A&&ak u.wd te.size then bif aj 0 n&&ao n (aC l.length)then k (.el b v n.toNat []) ch else ae else ae
    |some (.cu u l [])=>bif ak v 0&&ak u.wd te.size then bif aj 0 n&&ao n (aC l.length)then k (.el b 0 n.toNat []) ch else ae else ae
    |some (.cu u l vs)=>bif ak v 0&&ak u.wd te.size then RA l vs n λd=>k (.tl b d []) ch else ae
    |_=>ae
   |.fm u l=>bif ak u.wd te.size then bif aj 0 n then l[n.toNat]?.bind λy=>k (.rf u y) ch else ae else ae
   |.da b v o m _=>match aB ch b with
    |some (.arr A _ u l)=>bif ak v A&&ak u.wd te.size then bif aj 0 n&&ao n (aC m)then k (.el b v (Cy o n.toNat) []) ch else ae else ae
    |_=>ae
   |_=>ae
  |.arr m el=>(E.ty el).bind λte=>bif aj 0 n&&(ao n (aC m)&&cA 0 te.size)then match x with
   |.ptr b p=>k (.ptr b (p++[(n.toNat,n.toNat*te.size)])) ch
   |.rf u y=>match CV.dw (.sy u y) n.toNat (n.toNat*te.size)with
    |some (.sy I J)=>bif ak I.wd te.size then k (.rf I J) ch else ae
    |_=>ae
   |_=>ae else ae
  |_=>ae
 |_=>ae
def N9(E:Env) t(x i:CV)(ch:CH)(k:KC ρ):=
 match i,x with
 |.sy (.int _) n,.sy .str s=>(E.ty t).bind λti=>match ti.k with
  |.str=>bif aj 0 n then s[n.toNat]?.bind λc=>k (.sy (.int .u8) (aC c)) ch else ae
  |_=>ae
 |.sy (.int _) n,x=>(E.ty t).bind λti=>match ti.k with
  |.arr m el=>(E.ty el).bind λte=>bif aj 0 n&&ao n (aC m)then(x.dw n.toNat (n.toNat*te.size)).bind λw=>bif dG te w then k w ch else ae else ae
  |_=>ae
 |_,_=>ae
def OR{α:Type}(l:List α)(vs:List CV)(k:Nat->Option ρ):=
 match vs with
 |[]=>k l.length
 |[_]=>k (sF l.length 1)
 |vs=>match l with|[]=>k (aA vs)|_=>ae
def OT(E:Env)(t:Nat)(x:CV)(ch:CH)(k:KC ρ):Option ρ:=
 match E.kind t,x with
 |some (.ar _),.sy (.ar _) l=>kI .i64 ch k (aC l.length)
 |some (.ar _),.fA=>kI .i64 ch k 0
 |some (.ar _),.own b v=>match aB ch b with
  |some (.arr A _ _ l)=>bif ak v A then kI .i64 ch k (aC l.length)else ae
  |some (.cu _ l vs)=>bif ak v 0 then OR l vs λn=>kI .i64 ch k (aC n)else ae
  |_=>ae
 |some .str,.sy .str s=>kI .i64 ch k (aC s.length)
 |some (.ar _),.fm _ l=>kI .i64 ch k (aC l.length)
 |some (.ar _),.da _ _ _ n _=>kI .i64 ch k (aC n)
 |_,_=>ae
def cK{α:Type}(a b:List α):=a++b
def bW(n bytes:Nat):=bp (n*bytes) 70368744177664&&bp n 70368744177664
def Y6(E:Env)(te:TI)(u:Ty)(t:Nat)(x:CV)(ch:CH):Option (List u.den):=
 match E.kind t with
 |some (.ar _)=>bif ak u.wd te.size then CV.dt ch (.ar u) x else ae
 |_=>ae
structure AW where
 t:Ty
 l:List t.den
 vs:List CV
def Fg(ch:CH)(v:CV):Option AW:=match v with
 |.own b n=>match aB ch b with|some (.cu t l vs)=>bif ak n 0 then ab ⟨t,l,vs⟩else ae|_=>ae
 |_=>ae
def Lj(te:TI)(l:List CV):Bool:=a8 ag (λv _ ih=>bif dG te v then ih else af) l
def Lt(E:Env)(wb:Nat->Bool) te A(s:CV)(x:AW)(ch:CH)(k:KC ρ):=
 bif G3 (E.kind A)&&(cC x.l&&(not (cC x.vs)&&(Lj te x.vs&&ak x.t.wd te.size)))then match s with
  |.fA=>bif bW (aA x.vs) te.bytes then iq ch (.cu x.t [] x.vs) λb ch=>k (.own b 0) ch else ae
  |.own b n=>match aB ch b with
   |some (.cu t l [])=>bif ak n 0&&(wb b&&ak t.wd te.size)then(Ty.cs (.ar t) (.ar x.t) l).bind λl=>bif bW (sF l.length (aA x.vs)) te.bytes then
     iq (bB ch b ae) (.cu x.t l x.vs) λb ch=>k (.own b 0) ch else ae else ae
   |_=>ae
  |_=>ae else ae
def Ls(E:Env)(wb:Nat->Bool)(J:Array Nat) s x ch(k:KC ρ):=
 ((bC J.toList 0).bind E.ty).bind λti=>match ti.k with
  |.ar el=>(E.ty el).bind λte=>(bC J.toList 1).bind λU=>bif cq te te.zero then match Fg ch x with|some x=>Lt E wb te U s x ch k|none=>(pP E 12 el).bind λu=>(Y6 E te u U x ch).bind λnew=>match s with
   |.fA=>bif bW new.length te.bytes then iq ch (.arr 0 af u new) λb ch=>k (.own b 0) ch else ae
   |.own b v=>bif wb b then match aB ch b with
    |some (.arr I c A l)=>bif ak v I then(Ty.cs (.ar A) (.ar u) l).bind λl=>bif bW (l.length+new.length) te.bytes then k (.own b (v+1)) (cG ch b (.arr (v+1) c u (cK l new)))else ae else ae
    |_=>ae else ae
   |.fm A l=>(Ty.cs (.ar A) (.ar u) l).bind λl=>bif bW (l.length+new.length) te.bytes then iq ch (.arr 0 (cC new) u (cK l new)) λb ch=>k (.own b 0) ch else ae
   |.da b v o n aR=>bif aR then bif cC new then ae else match aB ch b with
    |some (.arr I _ A l)=>bif ak v I then(Ty.cs (.ar A) (.ar u) l).bind λl=>bif bW (n+new.length) te.bytes then iq ch (.arr 0 af u (cK (fe o n l) new)) λb ch=>k (.own b 0) ch else ae else ae
    |_=>ae else ae
   |_=>ae else ae
  |_=>ae
def Pe(j:IntKind)(l:List CV)(ch:CH)(k:KC ρ):Int->Option ρ:=
 a8 (λa=>kI j ch k a) (λv _ ih a=>match v with|.sy (.int A) b=>bif fP j A then ih (bif aj a b then a else b)else ae|_=>ae) l
def Pc(j:IntKind)(l:List CV)(ch:CH)(k:KC ρ):Int->Option ρ:=
 a8 (λa=>kI j ch k a) (λv _ ih a=>match v with|.sy (.int A) b=>bif fP j A then ih (bif aj a b then b else a)else ae|_=>ae) l
def LO E(wb:Nat->Bool)(b:Builtin)(A:Array Nat)(xs:List CV)(ch:CH)(k:KC ρ):=
 match b with
 |.len=>match xs with|[x]=>(bC A.toList 0).bind λt=>OT E t x ch k|_=>ae
 |.append=>match xs with|[s,x]=>Ls E wb A s x ch k|_=>ae
 |.min=>match xs with|.sy (.int j) a::l=>Pe j l ch k a|_=>ae
 |.max=>match xs with|.sy (.int j) a::l=>Pc j l ch k a|_=>ae
 |_=>ae
def jF{α:Type}(l:List (Int×α))(n:Int)(z:α):α:=a8 z (λe _ ih=>bif ai n e.1 then e.2 else ih) l
def iE{α:Type}(l:List (Int×α))(n:Int)(x:α):List (Int×α):=a8 [(n,x)] (λe r ih=>bif ai n e.1 then(n,x)::r else e::ih) l
def Vx(u:Ty):=match u with|.bool|.int _=>ag|_=>af
def Pa(E:Env)(t:Nat)(r:Option CV)(ch:CH)(k:KC ρ):Option ρ:=
 match E.kind t,r with
 |some (.map A et),ae=>match E.kind A with
  |some (.int j)=>(pP E 12 et).bind λu=>bif Vx u then iq ch (.lL j u []) λb ch=>k (.mp b) ch else ae
  |_=>ae
 |_,_=>ae
def OV(E:Env)(t:Nat)(m key:CV)(ok:Bool)(ch:CH)(k:KC ρ):Option ρ:=
 match E.kind t,m,key with
 |some (.map A et),.mp b,.sy (.int j) n=>bif ok then ae else match aB ch b with
  |some (.lL I u l)=>bif kN E A (.int j 0)&&(fP j I&&Vx u)then(E.ty et).bind λte=>match ir te.zero with
   |.sy v z=>(Ty.cs v u z).bind λz=>k (.sy u (jF l n z)) ch
   |_=>ae else ae
  |_=>ae
 |_,_,_=>ae
def Hr(E:Env)(wb:Nat->Bool)(t:Nat)(m key x:CV)(ch:CH)(k:KC ρ):Option ρ:=
 match E.kind t,m,key,x with
 |some (.map I et),.mp b,.sy (.int j) n,.sy v y=>match aB ch b with
  |some (.lL A u l)=>bif kN E I (.int j 0)&&(fP j A&&wb b)then(E.ty et).bind λte=>bif dG te (.sy v y)then(Ty.cs v u y).bind λy=>k .undef (cG ch b (.lL A u (iE l n y)))else ae else ae
  |_=>ae
 |_,_,_,_=>ae
def nG E(wb:Nat->Bool) keep tc(op:Op)(ch:CH)(k:KC ρ):=
 match op with
 |.move x=>k (vC tc x) ch
 |.assign x=>k (vC tc x) ch
 |.pick c a b=>PV (vC tc c) (vC tc a) (vC tc b) ch k
 |.alloc ty=>E9 E ty ch k
 |.box ty x=>AX E ty (vC tc x) ch k
 |.build ty ps=>TZ E ty (ku (vC tc) ps) ch k
 |.buildSlice ty n ps=>bif z6 keep (ku (vC tc) ps)then Fl E ty n (ku (vC tc) ps) ch k else bif keep||jd.yy (ns (ku (vC tc) ps))then jd E keep ty n (ku (vC tc) ps) ch k else LN E wb ty n (ku (vC tc) ps) ch k
 |.load ty a=>Ch E ty (vC tc a) ch k
 |.store ty a x=>Rt E wb ty (vC tc a) (vC tc x) ch k
 |.nilCheck x=>Y8 (vC tc x) ch k
 |.binOp op ty x y _=>LI E op ty (isConst x||isConst y) (vC tc x) (vC tc y) ch k
 |.unOp op _ x=>RQ op (vC tc x) ch k
 |.convert s d x=>xF E s d (vC tc x) ch k
 |.makeInterface ty x=>N4 E ty (vC tc x) ch k
 |.makeFunc (.func g) a c=>k (.fn g (oD tc a) (oD tc c)) ch
 |.makeSlice ty l c=>Hq E ty (vC tc l) (vC tc c) ch k
 |.slice ty x lo hi mx=>Ri E ty (vC tc x) (lo.map (vC tc)) (hi.map (vC tc)) (mx.map (vC tc)) ch k
 |.fieldAddr ty x j=>Vj E ty (vC tc x) j ch k
 |.field ty x j=>Vk E ty (vC tc x) j ch k
 |.indexAddr ty x i=>N8 E ty (vC tc x) (vC tc i) ch k
 |.index ty x i=>N9 E ty (vC tc x) (vC tc i) ch k
 |.extract x i=>((vC tc x).part i).bind λv=>k v ch
 |.makeMap ty r=>Pa E ty (r.map (vC tc)) ch k
 |.lookup ty m x ok=>OV E ty (vC tc m) (vC tc x) ok ch k
 |.mapUpdate ty m x y=>Hr E wb ty (vC tc m) (vC tc x) (vC tc y) ch k
 |.insert ty m x y=>Hr E wb ty (vC tc m) (vC tc x) (vC tc y) ch k
 |.call c=>match c.callee with
  |.builtin b=>LO E wb b c.argTypes (oD tc c.args) ch k
  |_=>ae
 |_=>ae
abbrev KX(ρ:Type):=Ex->TC->CH->Option ρ
def Z7(l:List CV):Nat->TC->TC:=a8 (λ_ t=>t) (λv _ ih i t=>ih (i+1) (t.set i v)) l
def RD(n:Nat)(args:List CV):=Z7 args 0 (TC.mk (Mj n))
def aa0(E:Env)(tc:TC) ch(r:ResultVar):=
 match r with
 |.tmp n=>ab (tc.get n)
 |.cell a ty=>match tc.get a,E.ty ty with
  |.ptr b p,ab ti=>match aB ch b with
   |some (.cell v)=>(v.eQ p).bind λv=>bif dG ti v then ab v else ae
   |_=>ae
  |_,_=>ae
def aa1(E:Env)(tc:TC)(ch:CH)(l:List ResultVar):Option (List CV):=
 a8 (ab []) (λr _ ih=>(aa0 E tc ch r).bind λv=>ih.map (v:: ·)) l
def v9 E(fn:Func) tc ch:=
 (aa1 E tc ch fn.results.toList).map λl=>match l with
  |[v]=>v
  |l=>qO l
def dstsOf(l:List Oper):List Nat:=a8 [] (λo _ ih=>match o.dst with|some d=>d::ih|none=>ih) l
def writes(c:Code):List Nat:=
 Code.rec [] (λ_ ops _=>dstsOf ops.toList) (λ_ _ a b=>a++b) (λ_ _ _ a b=>a++b) (λ_ _ a=>a) (λ_ a=>a) (λ_ ps _ _ a b=>ps.toList++(a++b)) (λ_=>[]) (λ_ a=>a) (λ_=>[]) (λ_=>[]) [] (λ_=>[]) c
def keyOf(c:Code):Option Nat:=
 Code.rec ae (λid _ _=>ab id) (λ_ _ a b=>dB b ab a) (λ_ _ _ a b=>dB b ab a) (λ_ _ a=>a) (λ_ a=>a) (λ_ _ _ _ a b=>dB b ab a) (λ_=>ae) (λ_ a=>a) (λ_=>ae) (λ_=>ae) ae (λ_=>ae) c
mutual
def Pt.ty:Pt->Ty
 |.val t=>t
 |.buf _ t=>.ar t
 |.agg _ l=>Pt.nK l
 |.nil=>.nl
 |.mp j t=>.ar (.cn (.int j) t)
 |.cu t p=>.cn (.ar t) (.cn p.ty .nl)
 |.oR t p=>.cn (.ar t) (.cn p.ty .nl)
def Pt.nK:List Pt->Ty
 |[]=>.nl
 |p::l=>.cn p.ty (Pt.nK l)
end
def xy(ch:CH)(c:Bool)(t:Ty)(v:CV):Option (List t.den):=
 match v with
 |.fA=>ab []
 |.own b n=>match aB ch b with
  |some (.arr A I u l)=>bif ak n A&&(c||not I)then Ty.cs (.ar u) (.ar t) l else ae
  |_=>ae
 |_=>ae
mutual
def Pt.get(ch:CH):(p:Pt)->CV->Option p.ty.den
 |.val t,.sy u x=>Ty.cs u t x
 |.buf c t,v=>xy ch c t v
 |.agg w l,.agg w' vs=>bif ak w w' then Pt.ji ch l vs else ae
 |.nil,.fA=>ab ()
 |.mp j t,.il A I l=>Ty.cs (.ar (.cn (.int A) I)) (.ar (.cn (.int j) t)) l
 |.cu t p,.own b n=>match aB ch b with
  |some (.cu u l [v])=>bif ak n 0 then match Ty.cs (.ar u) (.ar t) l,Pt.get ch p v with
   |some x,ab y=>ab (x,y,())
   |_,_=>ae else ae
  |_=>ae
 |.oR t p,.eW u l v=>match Ty.cs (.ar u) (.ar t) l,Pt.get ch p v with
  |some x,ab y=>ab (x,y,())
  |_,_=>ae
 |_,_=>ae
def Pt.ji(ch:CH):(l:List Pt)->List CV->Option (Pt.nK l).den
 |[],[]=>ab ()
 |p::l,v::vs=>match Pt.get ch p v,Pt.ji ch l vs with
  |some x,ab y=>ab (x,y)
  |_,_=>ae
 |_,_=>ae
end
mutual
def Pt.mk:(p:Pt)->p.ty.den->Nat->CV×Nat
 |.val t,x,n=>(.sy t x,n)
 |.buf _ _,_,n=>(.own n 0,n+1)
 |.agg w l,x,n=>match Pt.iD l x n with|(vs,n)=>(.agg w vs,n)
 |.nil,_,n=>(.fA,n)
 |.mp j t,x,n=>(.il j t x,n)
 |.cu _ p,x,n=>(.own n 0,(Pt.mk p x.2.1 (n+1)).2)
 |.oR t p,x,n=>match Pt.mk p x.2.1 n with|(v,n)=>(.eW t x.1 v,n)
def Pt.iD:(l:List Pt)->(Pt.nK l).den->Nat->List CV×Nat
 |[],_,n=>([],n)
 |p::l,x,n=>match Pt.mk p x.1 n with|(v,n)=>match Pt.iD l x.2 n with|(vs,n)=>(v::vs,n)
end
mutual
def Pt.news:(p:Pt)->p.ty.den->Nat->CH
 |.val _,_,_=>[]
 |.buf c t,l,_=>[ab (.arr 0 c t l)]
 |.agg _ l,x,n=>Pt.np l x n
 |.nil,_,_=>[]
 |.mp _ _,_,_=>[]
 |.cu t p,x,n=>ab (.cu t x.1 [(Pt.mk p x.2.1 (n+1)).1])::Pt.news p x.2.1 (n+1)
 |.oR _ p,x,n=>Pt.news p x.2.1 n
def Pt.np:(l:List Pt)->(Pt.nK l).den->Nat->CH
 |[],_,_=>[]
 |p::l,x,n=>Pt.news p x.1 n++Pt.np l x.2 (Pt.mk p x.1 n).2
end
def aE(l:List (Nat×Pt)):List Pt:=a8 [] (λp _ ih=>p.2::ih) l
def D7(l:List (Nat×Ty)):Ty:=a8 .nl (λp _ ih=>.cn (.ar p.2) ih) l
def Hint.ty(H:Hint):Ty:=.cn (Pt.nK (aE H.dz)) (.cn (Pt.nK (aE H.cells)) (D7 H.di))
def nh(v:CV):=match v with|.il _ _ _|.eW _ _ _=>ag|_=>af
def mZ(ch:CH)(l:List (Nat×Pt)):Option (List CV):=
 a8 (ab []) (λp _ ih=>match aB ch p.1 with|some (.cell v)=>bif nh v then ae else dB ae (λvs=>ab (v::vs)) ih|some (.lL j t x)=>dB ae (λvs=>ab (.il j t x::vs)) ih|some (.cu t l [v])=>dB ae (λvs=>ab (.eW t l v::vs)) ih|_=>ae) l
def qm(v:CV):CB:=match v with|.il j t l=>.lL j t l|.eW t l v=>.cu t l [v]|v=>.cell v
def RX(ch:CH)(l:List (Nat×Ty)):Option (List (Nat×Bool)):=
 a8 (ab []) (λp _ ih=>match aB ch p.1 with|some (.arr v c _ _)=>dB ae (λvs=>ab ((v,c)::vs)) ih|_=>ae) l
def rW(ch:CH):(l:List (Nat×Ty))->List (Nat×Bool)->Option (D7 l).den
 |[],_=>ab ()
 |p::l,(v,c)::vs=>match aB ch p.1 with
  |some (.arr I A u x)=>bif ak v I&&bif c then A else not A then match Ty.cs (.ar u) (.ar p.2) x,rW ch l vs with
   |some x,ab y=>ab (x,y)
   |_,_=>ae else ae
  |_=>ae
 |_::_,[]=>ae
def Hint.get(H:Hint)(vs:List (Nat×Bool))(tc:TC)(ch:CH):Option H.ty.den:=
 match Pt.ji ch (aE H.dz) (a8 [] (λp _ ih=>tc.get p.1::ih) H.dz),(mZ ch H.cells).bind (Pt.ji ch (aE H.cells)),rW ch H.di vs with
 |some x,ab y,ab z=>ab (x,(y,z))
 |_,_,_=>ae
def qY(l:List (Nat×Pt)):List CV->TC->TC:=
 a8 (λ_ t=>t) (λp _ ih vs t=>match vs with|v::vs=>ih vs (t.set p.1 v)|[]=>t) l
def mO(l:List Nat):TC->TC:=a8 (λt=>t) (λi _ ih t=>ih (t.set i .undef)) l
def ov(l:List (Nat×Pt)):List CV->CH->CH:=
 a8 (λ_ h=>h) (λp _ ih vs h=>match vs with|v::vs=>ih vs (cG h p.1 (qm v))|[]=>h) l
def pq:(l:List (Nat×Ty))->List (Nat×Bool)->(D7 l).den->CH->CH
 |[],_,_,h=>h
 |p::l,(v,c)::vs,x,h=>pq l vs x.2 (cG h p.1 (.arr v c p.2 x.1))
 |_::_,[],_,h=>h
def nr(l:List Nat):CH->CH:=a8 (λh=>h) (λb _ ih h=>ih (bB h b ae)) l
def Hint.fill(H:Hint)(ws:List Nat)(ids:List Nat)(vs:List (Nat×Bool))(tc:TC)(ch:CH)(s:H.ty.den):TC×CH:=
 match Pt.iD (aE H.dz) s.1 (aA ch)with
 |(cs,n)=>match Pt.iD (aE H.cells) s.2.1 n with
  |(ds,_)=>(qY H.dz cs (mO ws tc),pq H.di vs s.2.2 (ov H.cells ds (nr ids ch))++(Pt.np (aE H.dz) s.1 (aA ch)++Pt.np (aE H.cells) s.2.1 n))
mutual
def Pt.ids(ch:CH):Pt->CV->List Nat
 |.buf _ _,.own b _=>[b]
 |.agg _ l,.agg _ vs=>Pt.pb ch l vs
 |.cu _ p,.own b _=>b::match aB ch b with|some (.cu _ _ [v])=>Pt.ids ch p v|_=>[]
 |.oR _ p,.eW _ _ v=>Pt.ids ch p v
 |_,_=>[]
def Pt.pb(ch:CH):List Pt->List CV->List Nat
 |p::l,v::vs=>p.ids ch v++Pt.pb ch l vs
 |_,_=>[]
end
def Hint.ids(H:Hint)(tc:TC) ch:=
 Pt.pb ch (aE H.dz) (a8 [] (λp _ ih=>tc.get p.1::ih) H.dz)++match mZ ch H.cells with|some l=>Pt.pb ch (aE H.cells) l|none=>[]
def bI{α:Type}(l:List (Nat×α)):List Nat:=a8 [] (λp _ ih=>p.1::ih) l
def iF(l:List Nat):Bool:=a8 ag (λa l ih=>bif aY l a then af else ih) l
def TC.dQ:TC->TC->Bool
 |.e,.e=>ag
 |.n _ l r,.n _ A I=>TC.dQ l A&&TC.dQ r I
 |_,_=>af
def qK{σ ρ:Type}(step:σ->Option (σ⊕ρ))(n:Nat):σ->Option ρ:=
 ko (λ_=>ae) (λ_ ih s=>match step s with
  |none=>ae
  |some (.inl A)=>ih A
  |some (.inr r)=>ab r) n
open Classical in
def aF{σ ρ:Type}(step:σ->Option (σ⊕ρ)) s:=if h:∃n r,qK step n s=ab r then ab h.choose_spec.choose else ae
def cg{σ ρ:Type}(m:Option (σ⊕ρ))(k:σ->Option ρ):=m.bind λx=>match x with|.inl s=>k s|.inr r=>ab r
section
variable (C:CE) (ih:(ρ:Type)->Nat->Code->(Nat->Bool)->TC->CH->KX ρ->Option ρ)
def kP(t:TC)(d:Option Nat)(v:CV):TC:=dB t (λn=>t.set n v) d
def E6(wb:Nat->Bool) ch(r:Ty)(args:List CV)(k:CH->Option ρ):=
 bif r.flat then k ch else bif qL wb ch (CV.fS args)then k (m7 ch (CV.fS args))else ae
def ab9(E:Env)(l:List Nat):Option Ty:=a8 (ab .nl) (λt _ ih=>(pP E 12 t).bind λa=>ih.map λl=>.cn a l) l
def resTy E(l:List Nat):=match l with|[t]=>pP E 12 t|l=>(ab9 E l).map .aG
def WZ(o:Op):=match o with|.defer _=>ag|_=>af
def u3{ρ:Type} g(args:List CV)(wb:Nat->Bool) ch(k:KC ρ):=
 (C.E.fn g).bind λfn=>fn.body.bind λc=>bif bp (aA args) fn.ntmps then
  ih ρ g c wb (RD fn.ntmps args) ch λex tc ch=>match ex with|.exit _=>ae|_=>(v9 C.E fn tc ch).bind λv=>k v ch else ae
def Mh(c:Code):Option (Code×Code×Operand×Code):=
 match c with
 |.seq a (.seq (.region id ops af) A)=>match ops.toList.reverse with
  |o::l=>match o.op,o.guard,o.dst with
   |.defer c,ae,ae=>match c.callee,c.args.toList with
    |.value f,[]=>bif l.all λo=>o.guard.isNone&&not (WZ o.op)then ab (a,.region id l.reverse.toArray af,f,A)else ae
    |_,_=>ae
   |_,_,_=>ae
  |[]=>ae
 |_=>ae
def mD:Code->Bool
 |.region _ ops A=>not A&&ops.toList.all λo=>not (qJ o)
 |.seq a b=>mD a&&mD b
 |.cond _ a b=>mD a&&mD b
 |.skip|.ret|.exit _=>ag
 |_=>af
def PW(g:Nat):Bool:=match(C.E.fn g).bind λfn=>fn.body with|some c=>mD c&&cA (xM c) 60|none=>af
where
 xM:Code->Nat
  |.seq a b=>Nat.max (xM a) (xM b)+1
  |.cond _ a b=>Nat.max (xM a) (xM b)+1
  |_=>0
def amM(E:Env)(g:Nat):Code->Bool
 |.region id _ _=>(E.Bx g id).isNone
 |_=>ag
def qF{ρ:Type} g args(wb:Nat->Bool) ch(k:KC ρ):=
 (C.E.fn g).bind λfn=>fn.body.bind λc=>match Mh c with
 |none=>u3 C ih g args wb ch k
 |some (a,b,f,A)=>bif bp (aA args) fn.ntmps&&amM C.E g b then
   ih ρ g a wb (RD fn.ntmps args) ch λex tc ch=>match ex with
    |.nm=>ih ρ g b wb tc ch λex tc ch=>match ex,vC tc f with
     |.nm,.fn I J U=>bif PW C I&&not (ak (aA (J++U)) 1)then ih ρ g A wb tc ch λex tc ch=>match ex with
      |.exit _=>ae
      |_=>u3 C ih I (J++U) wb ch λ_ ch=>(v9 C.E fn tc ch).bind λv=>k v ch else ae
     |_,_=>ae
    |_=>ae else ae
def LU{ρ:Type}(s:kq)(args:List CV)(wb:Nat->Bool)(ch:CH)(k:KC ρ):Option ρ:=
 match bh.get ch s.ps args with
 |some x=>bif iF (bI (bh.src s.ps args))&&ef wb (fG (bh.src s.ps args) (bh.gR s.ps))then
   (s.f x).bind λy=>k (.sy s.r y.1) (px (bh.src s.ps args) (bh.gR s.ps) (bh.news s.ps y.2) ch)else ae
 |none=>ae
def AO{ρ:Type} g r y(k:CV->Option ρ):=
 bif C.rC g 1000000 then match r,y with
  |.int i,y=>bif aj 0 y then k (.sy (.int i) (aC (Int.toNat y)))else ae
  |_,_=>ae else k (.sy r y)
def LW{ρ:Type}(g:Nat)(args:List CV)(wb:Nat->Bool)(ch:CH)(k:KC ρ):Option ρ:=
 match C.J1 g with
 |some s=>bif C.E.inl g||args.any CV.yO then LU s args wb ch k else ae
 |none=>
 match C.sp g with
 |some s=>bif C.E.inl g then ae else(CV.fK ch s.a args).bind λx=>(s.f x).bind λy=>E6 wb ch s.r args λch=>AO C g s.r y λv=>k v ch
 |none=>bif C.E.inl g||args.any CV.yO then qF C ih g args wb ch k else
  bif(C.E.sm g).isNone then
   (C.E.fn g).bind λfn=>(ab9 C.E fn.params.toList).bind λI=>(resTy C.E fn.resultTypes.toList).bind λrt=>(CV.fK ch I args).bind λx=>
    qF C ih g (sD I x) (λ_=>ag) [] λv A=>(CV.dt A rt v).bind λy=>E6 wb ch rt args λch=>k (.sy rt y) ch
  else ae
def L5{ρ:Type} el(xs:List CV)(ch:CH)(k:KC ρ):=
 match xs with
 |[x]=>(C.E.ty el).bind λte=>(pP C.E 12 el).bind λu=>(CV.dt ch (.ar u) x).bind λl=>bif cq te te.zero&&Kr te&&ak u.wd te.size then bif bW l.length te.bytes then iq ch (.arr 0 af u l) λb ch=>k (.own b 0) ch else ae else ae
 |_=>ae
def Lw{ρ:Type} x(xs:List CV)(wb:Nat->Bool)(ch:CH)(k:KC ρ):=
 match xs with
 |[.sy .err l,.ifc t (.ptr b [])]=>bif gI.rX x t then bif cC l then kB ch k af else
   (V3 l).bind λe=>bif ai (aC e.1) (aC (x/1000000))then bif wb b then match aB ch b with
    |some (.cell v)=>bif ak v.wd 2 then k (.sy .bool ag) (cG ch b (.cell (.sy (.st 2 (.cn (.int .i64) (.cn .err .nl))) (e.2,va l 1,()))))else ae
    |_=>ae else ae else ae else ae
 |_=>ae
def LS{ρ:Type}(g:Nat)(args:List CV)(wb:Nat->Bool)(ch:CH)(k:KC ρ):Option ρ:=
 match C.E.clone g with
 |some el=>L5 C el args ch k
 |none=>bif ak (C.E.ext g) 0 then LW C ih g args wb ch k else Lw (C.E.ext g) args wb ch k
def rp tc(c:Call):=
 match c.callee with
 |.value f=>match vC tc f with
  |.fn g a cap=>ab (g,a++(oD tc c.args++cap))
  |.sy .iO g=>ab (g,oD tc c.args)
  |_=>ae
 |_=>ae
def aaa(ps:List Nat):List CV->TC->Option TC:=
 a8 (λxs t=>match xs with|[]=>ab t|_=>ae) (λp _ ih xs t=>match xs with|[]=>ae|x::xs=>ih xs (t.set p x)) ps
def DO{ρ:Type}(b:Nat)(xs:List CV)(wb:Nat->Bool)(ch:CH)(k:KC ρ):Option ρ:=
 match aB ch b with
 |some (.nj f tc ps bO body)=>(aaa ps xs tc).bind λt0=>ih ρ f bO wb t0 (cG ch b .hole) λex I J=>match ex with
  |.nm=>ih ρ f body wb I J λex _ A=>match ex,aB A b with
   |.nm,ab .hole=>k (.sy .bool ag) (cG A b (.nj f tc ps bO body))
   |_,_=>ae
  |_=>ae
 |_=>ae
def wC tc(c:Call):=
 match c.callee with
 |.value f=>match vC tc f with
  |.yl b=>ab (b,oD tc c.args)
  |_=>ae
 |_=>ae
def Bj{ρ:Type}(f:Nat) keep(wb:Nat->Bool)(op:Op)(tc:TC)(ch:CH)(k:KC ρ):=
 match op with
 |.defer _=>ae
 |.call c=>match c.callee with
  |.builtin _=>nG C.E wb keep tc (.call c) ch k
  |_=>match wC tc c with
   |some q=>DO ih q.1 q.2 wb ch k
   |none=>(rp tc c).bind λg=>LS C ih g.1 g.2 wb ch k
 |op=>nG C.E wb keep tc op ch k
def sg{ρ:Type}(ops:Array Oper) tc(g:Option (Nat×Bool))(A no:TC->Option ρ):=
 match g with
 |none=>A tc
 |some (j,I)=>(bC ops.toList j).bind λo=>o.dst.bind λd=>match tc.get d with
  |.sy .bool b=>bif I then bif b then A (tc.set d (.sy .bool ag))else no (tc.set d (.sy .bool af))else bif b then no (tc.set d (.sy .bool ag))else A (tc.set d (.sy .bool af))
  |.aG []=>no tc
  |_=>ae
def zQ(d:Nat):List Oper->Option (List Oper×(Oper×Operand×Operand)×List Oper)
 |[]=>ae
 |o::l=>match(match o.op with|.pick (.tmp c) x y=>bif ak c d then ab (x,y)else ae|_=>ae:Option (Operand×Operand))with
  |some (x,y)=>ab ([],(o,x,y),l)
  |none=>bif o.guard.isSome then dB ae (λr=>ab (o::r.1,r.2)) (zQ d l)else ae
def VJ(ops:Array Oper)(o:Oper)(l:List Oper):Option (Nat×List Oper×(Oper×Operand×Operand)×List Oper):=
 match o.guard with
 |none=>ae
 |some (j,_)=>(bC ops.toList j).bind λA=>A.dst.bind λd=>dB ae (λr=>ab (d,r)) (zQ d (o::l))
def yX(v:Bool)(c w:CV):Option Bool:=match c,w with|.sy .bool c,.sy .bool b=>bif bif v then c else not c then ab b else ae|_,_=>ae
def Oe(v:CV):Option Bool:=match v with|.sy .bool b=>ab b|_=>ae
def Gn ops o l(tc:TC):=
 (VJ ops o l).bind λr=>dB ae (λt=>ab (r.1,t,r.2)) (Oe (tc.get r.1))
def yP(E:Env)(l:List Oper):Bool:=a8 ag (λo _ ih=>bif bJ E o.op then af else ih) l
def MX E ops o l(ds:List (Nat×List Nat)) tc:=
 (Gn ops o l tc).bind λr=>match ds.drop r.2.2.1.length with
  |(0,_)::A=>bif yP E r.2.2.1 then ab (r.1,r.2.1,r.2.2.1,r.2.2.2.1,r.2.2.2.2,A)else ae
  |_=>ae
def xD{ρ:Type}(ops:Array Oper)(A:TC->(TC->CH->Option Bool)->Option Bool) d(x y:Operand)(p:Oper)(g:List Oper) t tc(k:TC->Option ρ):=
 (bif t then A (tc.set d (.sy .bool ag)) λI _=>yX ag (I.get d) (vC I x)else A (tc.set d (.sy .bool af)) λI _=>yX af (I.get d) (vC I y)).bind λb=>
  sg ops (mO (dstsOf g) tc) p.guard (λtc=>k (kP tc p.dst (.sy .bool b))) λtc=>k (kP tc p.dst (.aG []))
def we(f:Nat)(keep:Bool)(ops:Array Oper)(n:Nat):(ρ:Type)->List Oper->(Nat->Bool)->TC->CH->(TC->CH->Option ρ)->Option ρ:=
 ko (λ_ _ _ _ _ _=>ae) (λ_ A ρ l wb tc ch k=>match l with
  |[]=>k tc ch
  |o::l=>match Gn ops o l tc with
   |some (d,t,g,(p,x,y),I)=>xD ops (λtc k=>A Bool g (λb=>bp (aA ch) b) tc ch k) d x y p g t tc λtc=>A ρ I wb tc ch k
   |none=>sg ops tc o.guard (λtc=>Bj C ih f keep wb o.op tc ch λv ch=>A ρ l wb (kP tc o.dst v) ch k) λtc=>A ρ l wb (kP tc o.dst (.aG [])) ch k) n
def JF{ρ:Type} f keep(wb:Nat->Bool)(ops:Array Oper)(l:List Oper) tc ch(k:TC->CH->Option ρ):=we C ih f keep ops (aA l+1) ρ l wb tc ch k
def yx(op:Op):=su op||match op with|.load ..|.indexAddr ..|.index ..|.slice .. =>ag|_=>af
def Zj{α:Type}(l:List α):=match l with|[]=>ag|_=>af
def GM{ρ:Type}(g:Nat)(args:List CV)(ch:CH)(k:KC ρ):Option ρ:=
 match C.E.clone g with
 |some _=>ae
 |none=>bif ak (C.E.ext g) 0&&not (C.E.inl g)then match C.sp g with
  |some s=>(CV.fK ch s.a args).bind λx=>(s.f x).bind λy=>bif s.r.flat||Zj (CV.fS args)then AO C g s.r y λv=>k v ch else ae
  |none=>ae else ae
mutual
def CV.seen(ch:CH):CV->Option (List Nat)
 |.sy _ _=>ab []
 |.ptr b p=>match aB ch b with|some (.cell (.sy _ _))=>ab [b]|_=>ae
 |.fn _ a c=>match CV.tp ch a,CV.tp ch c with|some x,ab y=>ab (x++y)|_,_=>ae
 |_=>ae
def CV.tp(ch:CH):List CV->Option (List Nat)
 |[]=>ab []
 |v::l=>match CV.seen ch v,CV.tp ch l with|some x,ab y=>ab (x++y)|_,_=>ae
end
def CC(A:List Nat)(ch:CH):CH:=a8 (λ_=>[]) (λb _ ih i=>(bif aY A i then b else ae)::ih (i+1)) ch 0
def Lm{ρ:Type} g(args:List CV) ch(k:KC ρ):=
 (CV.tp ch args).bind λA=>qF C ih g args (λb=>bp (aA ch) b) (CC A ch) λv _=>match v with|.sy t x=>k (.sy t x) ch|_=>ae
def Rk(ch:CH)(v:CV):Option CV:=
 match v with
 |.sy t x=>ab (.sy t x)
 |.ptr b []=>match aB ch b with|some (.cell (.sy t x))=>ab (.rf t x)|_=>ae
 |_=>ae
def Rl(ch:CH)(l:List CV):Option (List CV):=a8 (ab []) (λv _ ih=>match Rk ch v,ih with|some w,ab ws=>ab (w::ws)|_,_=>ae) l
def Ly{ρ:Type}(g:Nat)(args:List CV)(ch:CH)(k:KC ρ):Option ρ:=
 match C.sp g with
 |some s=>bif C.E.inl g then ae else(CV.fK ch s.a args).bind λx=>(s.f x).bind λy=>bif s.r.flat then AO C g s.r y λv=>k v ch else ae
 |none=>bif(C.E.sm g).isNone then(Rl ch args).bind λws=>(C.E.fn g).bind λfn=>(resTy C.E fn.resultTypes.toList).bind λrt=>bif rt.flat then
   qF C ih g ws (λ_=>ag) [] λv A=>(CV.dt A rt v).bind λy=>k (.sy rt y) ch else ae
  else ae
def AY{ρ:Type}(op:Op)(tc:TC)(f:Nat->List CV->Option ρ):=
 match op with
 |.call c=>match c.callee with
  |.builtin _=>ae
  |_=>(rp tc c).bind λg=>f g.1 g.2
 |_=>ae
def RY A(v:CV):=match v with|.rf _ _=>ag|.ptr b _=>(match aB A b with|some (.cell _)=>ag|_=>af)|_=>af
def Ts(l:List CV):Bool:=a8 ag (λv _ ih=>match v with|.sy _ _=>ih|_=>af) l
def Ps(tc:TC)(ch:CH)(b:Nat)(m:List Nat):Bool:=a8 ag (λs _ ih=>match tc.get s with|.ptr c _=>bif ak b c||(aB ch c).isNone then af else ih|_=>af) m
def WY(b:Option CB):=match b with|some (.cell _)=>ag|_=>af
def Ml{ρ:Type} f keep(wb:Nat->Bool) A(I:Nat×List Nat)(op:Op)(tc:TC)(ch:CH)(k:KC ρ):=
 match I with
 |(4,_)=>AY op tc λg args=>Lm C ih g args ch k
 |(5,[])=>AY op tc λg args=>Ly C ih g args ch k
 |(2,[])=>match op with
  |.load ty a=>bif RY A (vC tc a)then nG C.E wb keep tc (.load ty a) ch k else ae
  |op=>AY op tc λg args=>bif Ts args then GM C g args ch k else ae
 |(7,_)=>match op with
  |.load ty a=>match vC tc a with
   |.ptr b p=>bif RY A (.ptr b p)then nG C.E wb keep tc (.load ty a) ch k else ae
   |_=>ae
  |_=>ae
 |(6,m)=>match op with
  |.store ty a x=>match vC tc a with
   |.ptr b _=>bif Ps tc ch b m&&WY (aB ch b)then nG C.E wb keep tc (.store ty a x) ch k else ae
   |_=>ae
  |_=>ae
 |(0,_)=>bif su op then nG C.E wb keep tc op ch k else ae
 |(1,[])=>bif yx op then nG C.E wb keep tc op ch k else match op with
  |.call c=>match c.callee with
   |.builtin .len=>nG C.E wb keep tc (.call c) ch k
   |.builtin .min=>nG C.E wb keep tc (.call c) ch k
   |.builtin .max=>nG C.E wb keep tc (.call c) ch k
   |.builtin _=>ae
   |_=>(rp tc c).bind λg=>GM C g.1 g.2 ch k
  |_=>ae
 |(3,_)=>Bj C ih f keep wb op tc ch k
 |_=>ae
def Cm{ρ:Type} keep(op:Op)(tc:TC)(ch:CH)(k:KC ρ):=
 match op with
 |.alloc ty=>E9 C.E ty ch k
 |.box ty x=>match C.E.kind ty with|some (.arr _ _)=>ae|_=>AX C.E ty (vC tc x) ch k
 |.buildSlice ty n ps=>bif jd.qh (ku (vC tc) ps)then jd C.E keep ty n (ku (vC tc) ps) ch k else ae
 |.makeSlice ty l c=>Hq C.E ty (vC tc l) (vC tc c) ch k
 |.convert s d x=>match vC tc x with
  |.sy (.int j) n=>xF C.E s d (.sy (.int j) n) ch k
  |_=>ae
 |_=>ae
def yD(n i:Nat) es(A:Nat×List Nat):=bif(ak A.1 1||ak A.1 5)&&ef (λj=>(bp i j||aY es j)&&cA j n) A.2 then(A.1,[])else A
def G0(op:Op):=match op with|.convert .. =>ag|_=>af
def qP i(A:Nat×List Nat) op(es:List Nat):=bif G0 op&&ak A.1 1 then i::es else es
def J2{ρ:Type} f keep(wb:Nat->Bool) A n i(es:List Nat)(I:Nat×List Nat) op tc ch(k:KC ρ):=
 bif bJ C.E op&&ak I.1 1 then Cm C keep op tc ch k else Ml C ih f keep wb A (yD n i es I) op tc ch k
def pH(f:Nat)(keep:Bool)(I:CH)(ops:Array Oper)(n:Nat)(m:Nat):(ρ:Type)->List Oper->List (Nat×List Nat)->Nat->List Nat->(Nat->Bool)->TC->CH->(TC->CH->Option ρ)->Option ρ:=
 ko (λ_ _ _ _ _ _ _ _ _=>ae) (λ_ A ρ l ds i es wb tc ch k=>match l with
  |[]=>k tc ch
  |o::l=>match MX C.E ops o l ds tc with
   |some (d,t,g,(p,x,y),Z,J)=>xD ops (λtc k=>A Bool g ds i es (λb=>bp (aA ch) b) tc ch k) d x y p g t tc λtc=>A ρ Z J i es wb tc ch k
   |none=>match ds with
    |[]=>ae
    |U::ds=>sg ops tc o.guard (λtc=>J2 C ih f keep wb I n i es U o.op tc ch λv ch=>A ρ l ds (bif bJ C.E o.op then i+1 else i) (qP i U o.op es) wb (kP tc o.dst v) ch k) λtc=>A ρ l ds (bif bJ C.E o.op then i+1 else i) es wb (kP tc o.dst (.aG [])) ch k) m
def apc{ρ:Type} f keep(wb:Nat->Bool) A(ops:Array Oper) n(l:List Oper)(ds:List (Nat×List Nat)) i(es:List Nat) tc ch(k:TC->CH->Option ρ):=pH C ih f keep A ops n (aA l+1) ρ l ds i es wb tc ch k
def JC{ρ:Type} f id(wb:Nat->Bool)(ops:Array Oper) tc ch(k:TC->CH->Option ρ):=
 (C.E.dr f id).bind λds=>apc C ih f (C.E.keep f) wb ch ops (news C.E ops.toList) ops.toList ds 0 [] tc ch k
def TU(tc:TC)(b:Nat):Nat:=bif bp 1000000 b then match tc.get (b-1000000)with
 |.own c _=>c
 |.da c _ _ _ _=>c
 |.ptr c _=>c
 |.el c _ _ _=>c
 |.mp c=>c
 |.tl c _ _=>c
 |_=>b else b
def Hint.at(H:Hint)(tc:TC):Hint:=⟨H.dz,a8 [] (λp _ ih=>(TU tc p.1,p.2)::ih) H.cells,a8 [] (λp _ ih=>(TU tc p.1,p.2)::ih) H.di⟩
def ZZ(f key:Nat)(tc:TC)(ch:CH):Bool:=
 bif C.rC f (sF key 1000001)then match(C.hint f key).map λH=>H.at tc with
  |some H=>match(RX ch H.di).bind λvs=>H.get vs tc ch with
   |some _=>af
   |none=>ag
  |none=>af else af
def OW{ρ:Type} f b(wb:Nat->Bool) tc ch k:=
 (keyOf b).bind λkey=>bif bif C.rC f key then ag else ZZ C f key tc ch then ih ρ f b wb tc ch λex tc ch=>match ex with|.nm=>ih ρ f (.loop b) wb tc ch k|ex=>k ex tc ch else((C.hint f key).map λH=>H.at tc).bind λH=>(RX ch H.di).bind λvs=>
  bif ef wb (H.ids tc ch)&&(ef wb (bI H.cells)&&(ef wb (bI H.di)&&(iF (H.ids tc ch++(bI H.cells++bI H.di))&&iF (bI H.dz)&&ef (λi=>aY (writes b) i) (bI H.dz))))then
   (H.get vs tc ch).bind λZ=>aF (λs=>match H.fill (writes b) (H.ids tc ch) vs tc ch s with
    |(J,U)=>ih (H.ty.den⊕ρ) f b (λi=>bp (aA ch) i||(aY (bI H.cells) i||aY (bI H.di) i)) J U λex A I=>match ex with
     |.nm=>bif TC.dQ tc A&&(iF (H.ids A I)&&ef (λb=>bp (aA ch) b) (H.ids A I))then(H.get vs A I).map Sum.inl else ae
     |ex=>(k ex A I).map Sum.inr) Z
  else ae
def G6{ρ:Type}(H:Hint) f a b(wb:Nat->Bool) tc ch k:=
 (RX ch H.di).bind λvs=>
  bif ef wb (H.ids tc ch)&&(ef wb (bI H.cells)&&(ef wb (bI H.di)&&(iF (H.ids tc ch++(bI H.cells++bI H.di))&&iF (bI H.dz)&&(ef (λi=>aY (writes a) i) (bI H.dz)&&ef (λb=>cA b (aA ch)) (bI H.cells++bI H.di)))))then
   cg (ih (H.ty.den⊕ρ) f a (λi=>bp (aA ch) i||(aY (H.ids tc ch) i||(aY (bI H.cells) i||aY (bI H.di) i))) tc ch λex A I=>match ex with
     |.nm=>bif TC.dQ tc A&&(iF (H.ids A I)&&ef (λb=>bp (aA ch) b||aY (H.ids tc ch) b) (H.ids A I))then(H.get vs A I).map Sum.inl else ae
     |ex=>(k ex A I).map Sum.inr) λs=>match H.fill (writes a) (H.ids tc ch) vs tc ch s with
    |(J,U)=>ih ρ f b wb J U k
  else ae
mutual
def CV.tyX(ch:CH):CV->Option Ty
 |.sy t _=>ab t
 |.own b v=>match aB ch b with|some (.arr A _ u _)=>bif ak v A then ab (.ar u)else ae|_=>ae
 |.agg w l=>(CV.ab8 ch l).map (.st w)
 |_=>ae
def CV.ab8(ch:CH):List CV->Option Ty
 |[]=>ab .nl
 |v::l=>match CV.tyX ch v,CV.ab8 ch l with|some t,ab u=>ab (.cn t u)|_,_=>ae
end
def Li(ch:CH)(t:Ty)(vs:List CV):Option (List t.den):=a8 (ab []) (λv _ ih=>match CV.dt ch t v,ih with|some x,ab xs=>ab (x::xs)|_,_=>ae) vs
def Gj{ρ:Type}(E:Env)(f id:Nat)(wb:Nat->Bool)(tc:TC)(ch:CH)(k:CH->Option ρ):Option ρ:=
 match E.Bx f id with
 |none=>k ch
 |some (0,s)=>match tc.get s with
  |.fA=>k ch
  |.own b n=>match aB ch b with
   |some (.cu t l vs)=>bif wb b&&(ak n 0&&qL wb ch (CV.fS vs))then(Li ch t vs).bind λxs=>k (cG (m7 ch (CV.fS vs)) b (.cu t (cK l xs) []))else ae
   |_=>ae
  |.ptr b []=>match aB ch b with
   |some (.cell v)=>bif wb b&&qL wb ch v.ga then(CV.tyX ch v).bind λt=>(CV.dt ch t v).bind λx=>k (cG (m7 ch v.ga) b (.cell (.sy t x)))else ae
   |_=>ae
  |_=>ae
 |some (_,_)=>k ch
def uE{ρ:Type}(E:Env)(f id:Nat)(ws:List Nat)(wb:Nat->Bool)(tc:TC)(ch:CH)(k:TC->CH->Option ρ):Option ρ:=
 match E.Bx f id with
 |none=>k tc ch
 |some (1,s)=>match tc.get s with
  |.fA=>k tc ch
  |.own b n=>match aB ch b with
   |some (.cu t l [])=>bif aY ws s&&(wb b&&ak n 0)then k (tc.set s (.own (aA ch) 0)) (bB ch b ae++[ab (.arr 0 af t l)])else ae
   |_=>ae
  |_=>ae
 |some (2,s)=>match tc.get s with
  |.tl b d p=>match aB ch b with
   |some (.cu u l [w])=>bif ak d 1&&wb b then match w.eQ p with
    |some (.da A v ae n af)=>match aB ch A with
     |some (.arr J af t I)=>bif ak v J&&wb A then bif ao 0 (aC I.length)then(CV.put (.own (aA ch) 0) p w).bind λw'=>
       k tc (cG (bB ch A ae++[ab (.arr 0 af t (jm I n))]) b (.cu u l [w']))else ae else ae
     |_=>ae
    |_=>ae else ae
   |_=>ae
  |_=>ae
 |some (_,_)=>k tc ch
def T7{ρ:Type}(f:Nat)(c:Code)(wb:Nat->Bool)(tc:TC)(ch:CH)(k:KX ρ):Option ρ:=
 match c with
 |.skip=>k .nm tc ch
 |.label _=>k .nm tc ch
 |.region id ops A=>Gj C.E f id wb tc ch λch=>bif A then JC C ih f id wb ops tc ch (uE C.E f id (dstsOf ops.toList) wb · · (k .nm))else JF C ih f (C.E.keep f) wb ops ops.toList tc ch (uE C.E f id (dstsOf ops.toList) wb · · (k .nm))
 |.seq a b=>match(keyOf b).bind (C.join f)with
  |some H=>G6 ih (H.at tc) f a b wb tc ch k
  |none=>ih ρ f a wb tc ch λex tc ch=>match ex with|.nm=>ih ρ f b wb tc ch k|ex=>k ex tc ch
 |.cond c a b=>match vC tc c with
  |.sy .bool t=>bif t then ih ρ f a wb tc ch k else ih ρ f b wb tc ch k
  |_=>ae
 |.block id b=>ih ρ f b wb tc ch λex tc ch=>match ex with|.exit j=>bif ak j id then k .nm tc ch else k (.exit j) tc ch|ex=>k ex tc ch
 |.scope b=>ih ρ f b wb tc ch k
 |.exit id=>k (.exit id) tc ch
 |.ret=>k .ret tc ch
 |.loop b=>OW C ih f b wb tc ch k
 |.rangeFunc g ps bO body=>match vC tc g with
  |.fn g a cap=>u3 C ih g (a++.yl (aA ch)::cap) wb (ch++[ab (.nj f tc ps.toList bO body)]) λ_ I=>match aB I (aA ch)with
   |some (.nj _ _ _ _ _)=>k .nm tc (bB I (aA ch) ae)
   |_=>ae
  |_=>ae
 |_=>ae
end
def LZ(C:CE)(n:Nat):(ρ:Type)->Nat->Code->(Nat->Bool)->TC->CH->KX ρ->Option ρ:=
 ko (λ_ _ _ _ _ _ _=>ae) (λ_ ih _=>T7 C ih) n
def rZ C n g A rt x:=
 qF C (LZ C n) g (sD A x) (λ_=>ag) [] λv ch=>CV.dt ch rt v
def WO r(v:CV):=match v with|.sy u y=>Ty.cs u r y|_=>ae
def RZ(ps:List Ap)(b:Nat):Bool:=dB ag (λw=>w) (bC (bh.gR ps) b)
def anj ps r x v ch:=
 (WO r v).bind λy=>(bh.back ch ps x 0).map λz=>(y,z.1)
def afY C n g ps r x:=
 qF C (LZ C n) g (bh.mk ps x 0).1 (RZ ps) (bh.news ps x) (anj ps r x)
end
end
theorem TC.ahP i:TC.e.get i=.undef:=rfl
theorem TC.fM v l r i:(TC.n v l r).get i=if i=0 then v else if i%2=1 then l.get (i/2)else r.get (i/2-1):=by
 show jt (motive:=λ_=>CV) _ v _=_
 by_cases h:i=0
 .subst h;rfl
 .have:ak i 0=af:=by rw[<-hG,lk];exact h
  rw[this,az h];by_cases h2:i%2=1
  .have:ak (i0 i 2) 1=ag:=by rw[lk];omega
   rw[this,aK h2];rfl
  .have:ak (i0 i 2) 1=af:=by rw[<-hG,lk];omega
   rw[this,az h2];rfl
theorem TC.oB v l r i x:(TC.n v l r).set i x=if i=0 then .n x l r else if i%2=1 then .n v (l.set (i/2) x) r else .n v l (r.set (i/2-1) x):=by
 show jt (motive:=λ_=>TC) _ _ _=_
 by_cases h:i=0
 .subst h;rfl
 .have:ak i 0=af:=by rw[<-hG,lk];exact h
  rw[this,az h];by_cases h2:i%2=1
  .have:ak (i0 i 2) 1=ag:=by rw[lk];omega
   rw[this,aK h2];rfl
  .have:ak (i0 i 2) 1=af:=by rw[<-hG,lk];omega
   rw[this,az h2];rfl
theorem Tm.Gk v l r i:(Tm.n v l r).get i=if i=0 then v else if i%2=1 then l.get (i/2)else r.get (i/2-1):=by
 show jt (motive:=λ_=>V) _ v _=_
 by_cases h:i=0
 .subst h;rfl
 .have:ak i 0=af:=by rw[<-hG,lk];exact h
  rw[this,az h];by_cases h2:i%2=1
  .have:ak (i0 i 2) 1=ag:=by rw[lk];omega
   rw[this,aK h2];rfl
  .have:ak (i0 i 2) 1=af:=by rw[<-hG,lk];omega
   rw[this,az h2];rfl
theorem Tm.abx v l r i x:(Tm.n v l r).set i x=if i=0 then .n x l r else if i%2=1 then .n v (l.set (i/2) x) r else .n v l (r.set (i/2-1) x):=by
 show jt (motive:=λ_=>Tm) _ _ _=_
 by_cases h:i=0
 .subst h;rfl
 .have:ak i 0=af:=by rw[<-hG,lk];exact h
  rw[this,az h];by_cases h2:i%2=1
  .have:ak (i0 i 2) 1=ag:=by rw[lk];omega
   rw[this,aK h2];rfl
  .have:ak (i0 i 2) 1=af:=by rw[<-hG,lk];omega
   rw[this,az h2];rfl
theorem TC.uH:∀(t:TC) i j x,i≠j->(t.set i x).get j=t.get j
 |.e,_,_,_,_=>rfl
 |.n v l r,i,j,x,h=>by
  rw[TC.oB];by_cases hi:i=0
  .rw [aK hi,TC.fM,TC.fM];grind
  .rw [az hi];by_cases A:j=0
   .by_cases hm:i%2=1;all_goals simp[hm,TC.fM,A]
   .by_cases hm:i%2=1
    .rw [aK hm,TC.fM,TC.fM,az A,az A];by_cases I:j%2=1
     .rw [aK I,aK I];exact TC.uH l _ _ x (by omega)
     grind
    .rw [az hm,TC.fM,TC.fM,az A,az A];by_cases I:j%2=1
     .grind
     .rw [az I,az I];exact TC.uH r _ _ x (by omega)
structure Mu where
 b:Nat->Option Nat
 o:Nat->Nat->Option (V×Nat)
def G2(v:V):=match v with|.own _ _ _ _ _=>ag|.full _=>ag|_=>af
mutual
def VR(M:Mu):CV->V->Prop
 |.undef,_=>True
 |.sy t x,v=>v=.im (t.enc x)
 |.rf t x,v=>v=.im (.ref (t.enc x))
 |.m8 d,v=>v=.im d
 |.fA,v=>v=.full []
 |.agg w l,v=>∃vs,v=ff w vs/\aS M l vs/\gK l=ag
 |.aG l,v=>∃vs,v=lK vs/\aS M l vs
 |.own b n,v=>∃s,M.o b n=ab (v,s)/\G2 v=ag
 |.ptr b p,v=>∃c,M.b b=ab c/\v=.ptr c 0 p
 |.el b n i p,v=>∃c g m s,M.o b n=ab (.own c g 0 m af,s)/\v=.ptr c g ((i,i*s)::p)
 |.fn f a c,v=>∃A cs,v=.fn f A cs/\aS M a A/\aS M c cs
 |.fm t l,v=>v=.full (l.map t.enc)
 |.da b n o k aR,v=>(∃c g m s,M.o b n=ab (.own c g 0 m af,s)/\v=.own c g (o.getD 0) k aR/\o.getD 0+k<=m)∨∃s,M.o b n=ab (.full [],s)/\v=.full []/\k=0
 |.ifc t c,v=>∃u,v=.ifc t u/\VR M c u
 |.mp b,v=>∃c,M.b b=ab c/\v=.mp c
 |.il j t l,v=>v=.im (.ar (l.map λe=>.agg 2 [.int j e.1,t.enc e.2]))
 |.yl b,v=>∃c,M.b b=ab c/\v=.gT c
 |.tl b d p,v=>∃c g i s m,M.o b 0=ab (.own c g 0 m af,s)/\i+d=m/\v=.ptr c g ((i,i*s)::p)
 |.eW t l c,v=>∃u,v=.aG [.full (l.map t.enc),u]/\VR M c u
def aS(M:Mu):List CV->List V->Prop
 |[],vs=>vs=[]
 |v::l,vs=>∃u r,vs=u::r/\VR M v u/\aS M l r
end
structure Mu.le(M N:Mu):Prop where
 b:∀i c,M.b i=ab c->N.b i=ab c
 o:∀i n x,M.o i n=ab x->N.o i n=ab x
theorem Mu.le.refl(M:Mu):M.le M:=⟨λ_ _ h=>h,λ_ _ _ h=>h⟩
theorem Mu.le.trans{M N K:Mu}(h:M.le N)(k:N.le K):M.le K:=⟨λi c e=>k.b i c (h.b i c e),λi n x e=>k.o i n x (h.o i n x e)⟩
mutual
theorem VR.mono{M N:Mu}(h:M.le N):∀(c:CV) (v:V),VR M c v->VR N c v
 |.undef,_,_=>trivial
 |.sy _ _,_,e|.rf _ _,_,e|.m8 _,_,e|.fA,_,e|.fm _ _,_,e|.il _ _ _,_,e=>by simpa only[VR]using e
 |.mp _,_,e|.yl _,_,e=>by
  simp only[VR]at e|-
  obtain⟨c,e,q⟩:=e
  exact⟨c,h.b _ _ e,q⟩
 |.da _ _ _ _ _,_,e=>by
  simp only[VR]at e|-
  exact e.imp (λ⟨c,g,m,s,e,q⟩=>⟨c,g,m,s,h.o _ _ _ e,q⟩) λ⟨s,e,q⟩=>⟨s,h.o _ _ _ e,q⟩
 |.ifc _ c,_,e|.eW _ _ c,_,e=>by
  simp only[VR]at e|-
  obtain⟨u,e,r⟩:=e
  exact⟨u,e,VR.mono h c u r⟩
 |.tl _ _ _,_,e=>by
  simp only[VR]at e|-
  obtain⟨c,g,i,s,m,e,q⟩:=e
  exact⟨c,g,i,s,m,h.o _ _ _ e,q⟩
 |.agg _ l,_,e=>by
  simp only[VR]at e|-
  obtain⟨vs,e,r,q⟩:=e
  exact⟨vs,e,aS.mono h l vs r,q⟩
 |.aG l,_,e=>by
  simp only[VR]at e|-
  obtain⟨vs,e,r⟩:=e
  exact⟨vs,e,aS.mono h l vs r⟩
 |.own _ _,_,e=>by
  simp only[VR]at e|-
  obtain⟨s,e,q⟩:=e
  exact⟨s,h.o _ _ _ e,q⟩
 |.ptr _ _,_,e=>by
  simp only[VR]at e|-
  obtain⟨c,e,q⟩:=e
  exact⟨c,h.b _ _ e,q⟩
 |.el _ _ _ _,_,e=>by
  simp only[VR]at e|-
  obtain⟨c,g,m,s,e,q⟩:=e
  exact⟨c,g,m,s,h.o _ _ _ e,q⟩
 |.fn _ a c,_,e=>by
  simp only[VR]at e|-
  obtain⟨A,cs,e,I,q2⟩:=e
  exact⟨A,cs,e,aS.mono h a A I,aS.mono h c cs q2⟩
theorem aS.mono{M N:Mu}(h:M.le N):∀(l:List CV) (vs:List V),aS M l vs->aS N l vs
 |[],_,e=>by simpa only[aS]using e
 |v::l,_,e=>by
  simp only[aS]at e|-
  obtain⟨u,r,e,h1,h2⟩:=e
  exact⟨u,r,e,VR.mono h v u h1,aS.mono h l r h2⟩
end
mutual
theorem VR.back{M N:Mu}(h:M.le N):∀(c:CV) (f v:V),VR M c f->VR N c v->VR M c v
 |.undef,_,_,_,_=>trivial
 |.sy _ _,_,_,_,e|.rf _ _,_,_,_,e|.m8 _,_,_,_,e|.fA,_,_,_,e|.fm _ _,_,_,_,e|.il _ _ _,_,_,_,e=>by simpa only[VR]using e
 |.mp _,_,_,A,e|.yl _,_,_,A,e=>by
  simp only[VR]at A e|-
  obtain⟨c0,A,_⟩:=A
  obtain⟨c,e,q⟩:=e
  rw[h.b _ _ A]at e
  cases e
  exact⟨_,A,q⟩
 |.da _ _ _ _ _,_,_,A,e=>by
  simp only[VR]at A e|-
  have key:∀{x y:V×Nat} {i n},M.o i n=ab x->N.o i n=ab y->y=x:=λa b=>by rw[h.o _ _ _ a]at b;cases b;rfl
  rcases A with⟨_,_,_,_,A,_⟩|⟨_,A,_⟩<;>rcases e with⟨c,g,m,s,e,q⟩|⟨s,e,q⟩<;>have:=key A e<;>cases this
  .exact .inl ⟨_,_,_,_,A,q⟩
  .exact .inr ⟨_,A,q⟩
 |.ifc _ c,_,_,A,e|.eW _ _ c,_,_,A,e=>by
  simp only[VR]at A e|-
  obtain⟨j,_,J⟩:=A
  obtain⟨u,e,r⟩:=e
  exact⟨u,e,VR.back h c j u J r⟩
 |.tl _ _ _,_,_,A,e=>by
  simp only[VR]at A e|-
  obtain⟨_,_,_,_,_,A,_⟩:=A
  obtain⟨c,g,i,s,m,e,q⟩:=e
  rw[h.o _ _ _ A]at e
  cases e
  exact⟨_,_,_,_,_,A,q⟩
 |.agg _ l,_,_,A,e=>by
  simp only[VR]at A e|-
  obtain⟨I,_,J,_⟩:=A
  obtain⟨vs,e,r,q⟩:=e
  exact⟨vs,e,aS.back h l I vs J r,q⟩
 |.aG l,_,_,A,e=>by
  simp only[VR]at A e|-
  obtain⟨I,_,J⟩:=A
  obtain⟨vs,e,r⟩:=e
  exact⟨vs,e,aS.back h l I vs J r⟩
 |.own _ _,_,_,A,e=>by
  simp only[VR]at A e|-
  obtain⟨z,A,_⟩:=A
  obtain⟨s,e,q⟩:=e
  rw[h.o _ _ _ A]at e
  cases e
  exact⟨_,A,q⟩
 |.ptr _ _,_,_,A,e=>by
  simp only[VR]at A e|-
  obtain⟨c0,A,_⟩:=A
  obtain⟨c,e,q⟩:=e
  rw[h.b _ _ A]at e
  cases e
  exact⟨_,A,q⟩
 |.el _ _ _ _,_,_,A,e=>by
  simp only[VR]at A e|-
  obtain⟨_,_,_,_,A,_⟩:=A
  obtain⟨c,g,m,s,e,q⟩:=e
  rw[h.o _ _ _ A]at e
  cases e
  exact⟨_,_,_,_,A,q⟩
 |.fn _ a c,_,_,A,e=>by
  simp only[VR]at A e|-
  obtain⟨U,Z,_,p,t⟩:=A
  obtain⟨d,cs,e,w,q2⟩:=e
  exact⟨d,cs,e,aS.back h a U d p w,aS.back h c Z cs t q2⟩
theorem aS.back{M N:Mu}(h:M.le N):∀(l:List CV) (A vs:List V),aS M l A->aS N l vs->aS M l vs
 |[],_,_,_,e=>by simpa only[aS]using e
 |v::l,_,_,I,e=>by
  simp only[aS]at I e|-
  obtain⟨J,U,_,Z,a⟩:=I
  obtain⟨u,r,e,h1,h2⟩:=e
  exact⟨u,r,e,VR.back h v J u Z h1,aS.back h l U r a h2⟩
end
def bA(M:Mu):TC->Tm->Prop
 |.e,.e=>True
 |.n v l r,.n u A I=>VR M v u/\bA M l A/\bA M r I
 |_,_=>False
theorem bA.mono{M N:Mu}(h:M.le N):∀{t:TC} {u:Tm},bA M t u->bA N t u
 |.e,.e,_=>trivial
 |.n _ _ _,.n _ _ _,⟨h1,h2,h3⟩=>⟨h1.mono h _ _,h2.mono h,h3.mono h⟩
theorem bA.get{M:Mu}:∀{t:TC} {u:Tm},bA M t u->∀i,VR M (t.get i) (u.get i)
 |.e,.e,_,i=>trivial
 |.n _ _ _,.n _ _ _,⟨h1,h2,h3⟩,i=>by
  rw[TC.fM,Tm.Gk];split
  .omega
  grind[h2.get,h3.get]
theorem bA.set{M:Mu}{x:CV}{y:V}(A:VR M x y):∀{t:TC} {u:Tm},bA M t u->∀i,bA M (t.set i x) (u.set i y)
 |.e,.e,_,i=>trivial
 |.n _ _ _,.n _ _ _,⟨h1,h2,h3⟩,i=>by
  rw[TC.oB,Tm.abx];split
  .trivial
  .split
   .exact ⟨h1,h2.set A _,h3⟩
   .exact ⟨h1,h2,h3.set A _⟩
theorem bA.mk M:∀d,bA M (TC.mk d) (Tm.mk d)
 |0=>trivial
 |d+1=>⟨trivial,bA.mk M d,bA.mk M d⟩
theorem bA.back{M N:Mu}(h:M.le N):∀{t:TC} {A u:Tm},bA M t A->bA N t u->bA M t u
 |.e,.e,.e,_,_=>trivial
 |.n _ _ _,.n _ _ _,.n _ _ _,⟨I,J,U⟩,⟨Z,a,b⟩=>⟨I.back h _ _ _ Z,J.back h a,U.back h b⟩
 |.e,.e,.n _ _ _,_,q|.n _ _ _,.n _ _ _,.e,_,q|.e,.n _ _ _,_,q,_|.n _ _ _,.e,_,q,_=>by cases q
def gH(j:IntKind)(t:Ty)(l:List (Int×t.den)):List (D×V):=l.map λe=>(.int j e.1,.im (t.enc e.2))
def XR(M:Mu)(h:Heap)(b:Nat):CB->Prop
 |.cell _|.arr _ _ _ _=>True
 |.lL j t l=>∃c s ck,M.b b=ab c/\aq h c=ab (.mp (gH j t l) s ck)
 |.nj f tc ps bO body=>∃c t,M.b b=ab c/\aq h c=ab (.lp f t ps bO body)/\bA M tc t
 |.hole=>∃c,M.b b=ab c/\aq h c=ae
 |.cu t l vs=>∃c g A,M.b b=ab c/\M.o b 0=ab (.own c g 0 (l.length+vs.length) af,t.wd)/\aq h c=ab (.bN g t.wd ((l.map λx=>V.im (t.enc x))++A))/\aS M vs A
theorem XR.step{M M':Mu}{h h':Heap}{b:Nat}(A:M.le M')(I:∀c,M.b b=ab c->aq h' c=aq h c):∀{x:CB},XR M h b x->XR M' h' b x
 |.cell _,_|.arr _ _ _ _,_=>trivial
 |.lL _ _ _,⟨c,s,ck,h1,h2⟩=>⟨c,s,ck,A.b _ _ h1,(I c h1).trans h2⟩
 |.nj _ _ _ _ _,⟨c,t,h1,h2,h3⟩=>⟨c,t,A.b _ _ h1,(I c h1).trans h2,h3.mono A⟩
 |.hole,⟨c,h1,h2⟩=>⟨c,A.b _ _ h1,(I c h1).trans h2⟩
 |.cu _ _ _,⟨c,g,J,h1,h2,h3,U⟩=>⟨c,g,J,A.b _ _ h1,A.o _ _ _ h2,(I c h1).trans h3,aS.mono A _ _ U⟩
theorem XR.back{M M':Mu}{h h':Heap}{b:Nat}(A:M.le M'):∀{x:CB},XR M h b x->XR M' h' b x->XR M h' b x
 |.cell _,_,_|.arr _ _ _ _,_,_=>trivial
 |.lL _ _ _,⟨c,_,_,h1,_⟩,⟨I,s,ck,k1,k2⟩=>by
  rw[A.b _ _ h1]at k1;cases k1;exact⟨c,s,ck,h1,k2⟩
 |.nj _ _ _ _ _,⟨c,t,h1,_,h3⟩,⟨I,Z,k1,k2,J⟩=>by
  rw[A.b _ _ h1]at k1;cases k1;exact⟨c,Z,h1,k2,h3.back A J⟩
 |.hole,⟨c,h1,_⟩,⟨I,k1,k2⟩=>by
  rw[A.b _ _ h1]at k1;cases k1;exact⟨c,h1,k2⟩
 |.cu _ _ _,⟨c,g,e,h1,h2,_,a⟩,⟨I,f,U,k1,k2,J,d⟩=>by
  rw[A.o _ _ _ h2]at k2;cases k2;exact⟨c,g,U,h1,h2,J,aS.back A _ _ _ a d⟩
structure HS(M:Mu)(ch:CH)(h:Heap):Prop where
 cell:∀b cv,aB ch b=ab (.cell cv)->∃c v,M.b b=ab c/\aq h c=ab (.cell v)/\VR M cv v
 arr:∀b n cl t l,aB ch b=ab (.arr n cl t l)->∃u,M.o b n=ab (u,t.wd)/\
  ((u=.full []/\l=[]/\M.b b=ae)∨∃c g ro,M.b b=ab c/\u=.own c g 0 l.length af/\aq h c=ab (.arr g t.wd ro (l.map t.enc))/\(cl=af->ro=0)/\ro<=l.length)
 inj:∀b b' c,aB ch b≠ae->aB ch b'≠ae->M.b b=ab c->M.b b'=ab c->b=b'
 new:∀b n cl t l,aB ch b=ab (.arr n cl t l)->∀m,n< m->M.o b m=ae
 len:∀b c,M.b b=ab c->b< ch.length/\c< h.length
 fQ:∀b n x,M.o b n=ab x->b< ch.length
 xr:∀b x,aB ch b=ab x->XR M h b x
structure Fr(wb:Nat->Bool)(M:Mu)(ch:CH)(h:Heap)(M':Mu)(a9:CH)(h':Heap):Prop where
 le:M.le M'
 lc:ch.length<=a9.length
 lh:h.length<=h'.length
 keep:∀b,b< ch.length->wb b=af->aB a9 b=aB ch b
 nb:∀b c,M'.b b=ab c->(∃b0,M.b b0=ab c)∨h.length<=c
 out:∀c,c< h.length->(∀b,M.b b≠ab c)->aq h' c=aq h c
theorem jZ{M:Mu}{n:Nat}:∀b c,M.b b=ab c->(∃b0,M.b b0=ab c)∨n<=c:=λb _ e=>.inl ⟨b,e⟩
theorem yK{M:Mu}{n m:Nat}:∀b c,(if b=n then ab m else M.b b)=ab c->(∃b0,M.b b0=ab c)∨m<=c:=λb c e=>by
 grind
theorem vB{h:Heap}{x:bK}{p:Nat->Prop}:∀c,c< h.length->p c->aq (aD h h.length x) c=aq h c:=λc A _=>by
 rw[bG _ _ _ _ (aJ _),az (by omega)]
theorem vD{M:Mu}{h:Heap}{x:bK}{b d:Nat}(I:M.b b=ab d)(A:d< h.length):∀c,c< h.length->(∀b,M.b b≠ab c)->aq (aD h d x) c=aq h c:=λc J U=>by
 rw[bG _ _ _ _ (cX A),az (by grind)]
theorem Fr.refl wb M ch h:Fr wb M ch h M ch h:=⟨.refl M,aJ _,aJ _,λ_ _ _=>rfl,jZ,λ_ _ _=>rfl⟩
theorem Fr.trans{wb:Nat->Bool}{M M' I:Mu}{ch a9 A:CH}{h h' J:Heap}(a:Fr wb M ch h M' a9 h')(b:Fr wb M' a9 h' I A J):Fr wb M ch h I A J:=
 ⟨a.le.trans b.le,bU a.lc b.lc,bU a.lh b.lh,λi hi hw=>(b.keep i (eU hi a.lc) hw).trans (a.keep i hi hw),
  λi c e=>(b.nb i c e).elim (λ⟨j,U⟩=>a.nb j c U) λq=>.inr (bU a.lh q),
  λc Z d=>(b.out c (eU Z a.lh) λi e=>(a.nb i c e).elim (λ⟨j,U⟩=>d j U) λq=>absurd Z (Nat.not_lt.2 q)).trans (a.out c Z d)⟩
def OS{ρ:Type}(wb:Nat->Bool) M(ch:CH)(h:Heap)(m:R)(k:KC ρ)(r:ρ):=
 ∃v h' cv a9 M',m=ab (v,h')/\VR M' cv v/\HS M' a9 h'/\Fr wb M ch h M' a9 h'/\k cv a9=ab r
section
variable {ρ:Type} {wb:Nat->Bool} {M:Mu} {ch:CH} {h:Heap} {k:KC ρ} {r:ρ}
theorem OS.plain(A:HS M ch h){v:V}{cv:CV}(I:VR M cv v)(e:k cv ch=ab r):OS wb M ch h (ab (v,h)) k r:=
 ⟨v,h,cv,ch,M,rfl,I,A,.refl ..,e⟩
theorem eY{ch:CH}{b:Nat}{x:CB}(h:aB ch b=ab x):b< ch.length:=by
 unfold aB at h;grind[b8]
theorem cT ch x b:aB (ch++[ab x]) b=if b=ch.length then ab x else aB ch b:=by
 grind[aB,b8]
theorem fN ch x b i(A:b< ch.length):aB (cG ch b x) i=if i=b then ab x else aB ch i:=by
 grind[aB,cG,b8,dR]
theorem eI ch x b:(cG ch b x).length=ch.length:=by simp[cG,dR]
theorem HS.qb(A:HS M ch h):M.b ch.length=ae:=by
 cases e:M.b _<;>first|exact absurd (A.len _ _ e).1 (gE _)|rfl
theorem HS.EW(A:HS M ch h) n:M.o ch.length n=ae:=by
 cases e:M.o _ n<;>first|exact absurd (A.fQ _ _ _ e) (gE _)|rfl
theorem HS.Y0(A:HS M ch h){cv:CV}{v:V}(y:VR M cv v):let M':=⟨λi=>if i=ch.length then ab h.length else M.b i,M.o⟩;M.le M'/\HS M' (ch++[ab (.cell cv)]) (aD h h.length (.cell v)):=by
 intro M';have I:M.le M':=⟨λi c e=>by
  show(if i=ch.length then ab _ else M.b i)=ab c;rw[az (by grind[A.qb])];exact e,λ_ _ _ e=>e⟩
 have f:∀c,c< h.length->aq (aD h _ (.cell v)) c=aq h c:=λc G=>by rw[bG _ _ _ _ (aJ _),az (by omega)]
 have J:∀b,b≠ch.length->M'.b b=M.b b:=λb J=>az J
 refine⟨I,⟨λb c e=>?_,λb n cl t l e=>?_,λb b' c s w U q2=>?_,λb n cl t l e=>?_,λb c e=>?_,λb n x e=>?_,λb x e=>?_⟩⟩
 .rw [cT]at e;split at e
  .rename_i j;cases e;exact⟨h.length,v,aK j,by rw[bG _ _ _ _ (aJ _),aK rfl],y.mono I _ _⟩
  .obtain ⟨z,B,h1,h2,h3⟩:=A.cell b c e;exact⟨z,B,I.b _ _ h1,by rw[f _ (A.len _ _ h1).2];omega,h3.mono I _ _⟩
 .rw [cT]at e;split at e
  .cases e
  .obtain ⟨u,h1,h2⟩:=A.arr b n cl t l e;refine⟨u,h1,h2.imp (λ⟨a,m,D⟩=>⟨a,m,by grind⟩) λ⟨c,g,ro,a,m,D,F⟩=>⟨c,g,ro,I.b _ _ a,m,by rw[f _ (A.len _ _ a).2];omega,F⟩⟩
 .by_cases d:b=ch.length
  .by_cases Z:b'=ch.length
   .omega
   .rw [J b' Z]at q2;have:M'.b b=ab _:=aK d;rw[this]at U;cases U;exact absurd (A.len _ _ q2).2 (gE _)
  .by_cases Z:b'=ch.length
   .rw [J b d]at U;have:M'.b b'=ab _:=aK Z;rw[this]at q2;cases q2;exact absurd (A.len _ _ U).2 (gE _)
   .rw [J b d]at U;rw[J b' Z]at q2;rw[cT,az d]at s;rw[cT,az Z]at w;exact A.inj b b' c s w U q2
 .rw [cT]at e;split at e
  .cases e
  .exact A.new b n cl t l e
 .rw [bL,az (gE _),dD];by_cases p:b=ch.length
  .grind
  .rw [J b p]at e;have:=A.len b c e;omega
 .have:=A.fQ b n x e;grind
 .rw [cT]at e;split at e
  .cases e;trivial
  .exact (A.xr b x e).step I λc q=>f c (A.len _ _ q).2
theorem HS.HE(A:HS M ch h) t l g cl ro(v:cl=af->ro=0)(d:ro<=l.length):let M':=⟨λi=>if i=ch.length then ab h.length else M.b i,λi n=>if i=ch.length/\n=0 then ab (.own h.length g 0 l.length af,t.wd)else M.o i n⟩
  M.le M'/\HS M' (ch++[ab (.arr 0 cl t l)]) (aD h h.length (.arr g t.wd ro (l.map t.enc))):=by
 intro M';have J:∀b,b≠ch.length->M'.b b=M.b b:=λb J=>az J
 have w:∀b n,b≠ch.length->M'.o b n=M.o b n:=λb n J=>az λq=>J q.1
 have I:M.le M':=⟨λi c e=>by
  rw[J i (by grind[A.qb])];exact e,λi n x e=>by
  rw[w i n (by grind[A.EW])];exact e⟩
 have y:∀c,c< h.length->aq (aD h h.length (.arr g t.wd ro (l.map t.enc))) c=aq h c:=λc P=>by rw[bG _ _ _ _ (aJ _),az (by omega)]
 refine⟨I,⟨λb c e=>?_,λb n Z z B e=>?_,λb b' c G H a q2=>?_,λb n Z z B e m hm=>?_,λb c e=>?_,λb n x e=>?_,λb x e=>?_⟩⟩
 .rw [cT]at e;split at e
  .cases e
  .obtain ⟨K,L,h1,h2,h3⟩:=A.cell b c e;exact⟨K,L,I.b _ _ h1,by rw[y _ (A.len _ _ h1).2];omega,h3.mono I _ _⟩
 .rw [cT]at e;split at e
  .rename_i U;cases e;exact⟨_,aK ⟨U,rfl⟩,.inr ⟨h.length,g,ro,aK U,rfl,by rw[bG _ _ _ _ (aJ _),aK rfl],v,d⟩⟩
  .obtain ⟨u,h1,h2⟩:=A.arr b n Z z B e;refine⟨u,I.o _ _ _ h1,h2.imp (λ⟨j,D,N⟩=>⟨j,D,by grind⟩) λ⟨c,g,ro,j,D,N,O⟩=>⟨c,g,ro,I.b _ _ j,D,by rw[y _ (A.len _ _ j).2];omega,O⟩⟩
 .by_cases s:b=ch.length
  .by_cases f:b'=ch.length
   .omega
   .rw [J b' f]at q2;have:M'.b b=ab h.length:=aK s;rw[this]at a;cases a;exact absurd (A.len _ _ q2).2 (gE _)
  .by_cases f:b'=ch.length
   .rw [J b s]at a;have:M'.b b'=ab h.length:=aK f;rw[this]at q2;cases q2;exact absurd (A.len _ _ a).2 (gE _)
   .rw [J b s]at a;rw[J b' f]at q2;rw[cT,az s]at G;rw[cT,az f]at H;exact A.inj b b' c G H a q2
 .rw [cT]at e;split at e
  .rename_i U;show(if b=ch.length/\m=0 then _ else M.o b m)=ae;rw[az (by omega),U];exact A.EW m
  .rename_i F;rw[w b m F];exact A.new b n Z z B e m hm
 .rw [bL,az (gE _),dD];by_cases p:b=ch.length
  .grind
  .rw [J b p]at e;have:=A.len b c e;omega
 .rw [dD];by_cases p:b=ch.length
  .simp;omega
  .rw [w b n p]at e;have:=A.fQ b n x e;omega
 .rw [cT]at e;split at e
  .cases e;trivial
  .exact (A.xr b x e).step I λc q=>y c (A.len _ _ q).2
theorem HS.qR(A:HS M ch h) t l g:let M':=⟨λi=>if i=ch.length then ab h.length else M.b i,λi n=>if i=ch.length/\n=0 then ab (.own h.length g 0 l.length af,t.wd)else M.o i n⟩
  M.le M'/\HS M' (ch++[ab (.arr 0 af t l)]) (aD h h.length (.arr g t.wd 0 (l.map t.enc))):=A.HE t l g _ 0 (λ_=>rfl) (bX _)
theorem HS.Y1(I:HS M ch h){cv:CV}{v:V}(w:VR M cv v){c:Nat}(a:c<=h.length)(hf:∀b,M.b b≠ab c):let M':=⟨λi=>if i=ch.length then ab c else M.b i,M.o⟩;M.le M'/\HS M' (ch++[ab (.cell cv)]) (aD h c (.cell v)):=by
 intro M';have A:M.le M':=⟨λi U e=>by
  show(if i=ch.length then ab c else M.b i)=ab U;rw[az (by grind[I.qb])];exact e,λ_ _ _ e=>e⟩
 have y:∀d,d≠c->aq (aD h c (.cell v)) d=aq h d:=λd z=>by simp[bG,a,z]
 have J:∀b,b≠ch.length->M'.b b=M.b b:=λb J=>az J
 have F:h.length<=(aD h c (.cell v)).length/\c<(aD h c (.cell v)).length:=by grind[bL]
 refine⟨A,⟨λb B e=>?_,λb n cl t l e=>?_,λb b' d f g j q2=>?_,λb n cl t l e=>?_,λb d e=>?_,λb n x e=>?_,λb x e=>?_⟩⟩
 .rw [cT]at e;split at e
  .rename_i Z;cases e;exact⟨c,v,aK Z,by rw[bG _ _ _ _ a,aK rfl],w.mono A _ _⟩
  .obtain ⟨U,D,h1,h2,h3⟩:=I.cell b _ e;exact⟨U,D,A.b _ _ h1,by grind,h3.mono A _ _⟩
 .rw [cT]at e;split at e
  .cases e
  .obtain ⟨u,h1,h2⟩:=I.arr b n cl t l e;grind
 .by_cases m:b=ch.length
  .grind
  .by_cases s:b'=ch.length
   .grind
   .rw [J b m]at j;rw[J b' s]at q2;rw[cT,az m]at f;rw[cT,az s]at g;exact I.inj b b' d f g j q2
 .rw [cT]at e;split at e
  .cases e
  .exact I.new b n cl t l e
 .rw [dD];by_cases p:b=ch.length
  .grind
  .rw [J b p]at e;have:=I.len b d e;omega
 .have:=I.fQ b n x e;grind
 .rw [cT]at e;split at e
  .cases e;trivial
  .exact (I.xr b x e).step A λc q=>y c λp=>hf b (p▸q)
theorem HS.amC(A:HS M ch h)(t:Ty)(l:List t.den)(g:Nat){c:Nat}(s:c<=h.length)(hf:∀b,M.b b≠ab c):let M':Mu:=⟨λi=>if i=ch.length then ab c else M.b i,λi n=>if i=ch.length/\n=0 then ab (.own c g 0 l.length af,t.wd)else M.o i n⟩
  M.le M'/\HS M' (ch++[ab (.arr 0 af t l)]) (aD h c (.arr g t.wd 0 (l.map t.enc))):=by
 intro M';have U:∀b,b≠ch.length->M'.b b=M.b b:=λb U=>az U
 have a:∀b n,b≠ch.length->M'.o b n=M.o b n:=λb n U=>az λq=>U q.1
 have I:M.le M':=⟨λi c e=>by
  rw[U i (by grind[A.qb])];exact e,λi n x e=>by
  rw[a i n (by grind[A.EW])];exact e⟩
 have D:∀d,d≠c->aq (aD h c (.arr g t.wd 0 (l.map t.enc))) d=aq h d:=λd F=>by simp[bG,s,az,F]
 have K:h.length<=(aD h c (.arr g t.wd 0 (l.map t.enc))).length/\c<(aD h c (.arr g t.wd 0 (l.map t.enc))).length:=by grind[bL]
 refine⟨I,⟨λb cv e=>?_,λb n cl f j e=>?_,λb b' d v w y q2=>?_,λb n cl f j e m hm=>?_,λb d e=>?_,λb n x e=>?_,λb x e=>?_⟩⟩
 .rw [cT]at e;split at e
  .cases e
  .obtain ⟨G,H,h1,h2,h3⟩:=A.cell b cv e;exact⟨G,H,I.b _ _ h1,by grind,h3.mono I _ _⟩
 .rw [cT]at e;split at e
  .rename_i J;cases e;exact⟨_,aK ⟨J,rfl⟩,.inr ⟨c,g,0,aK J,rfl,by rw[bG _ _ _ _ s,aK rfl],λ_=>rfl,bX _⟩⟩
  .rename_i Z;obtain⟨u,h1,h2⟩:=A.arr b n cl f j e;grind
 .by_cases z:b=ch.length
  .grind
  .by_cases B:b'=ch.length
   .grind
   .rw [U b z]at y;rw[U b' B]at q2;rw[cT,az z]at v;rw[cT,az B]at w;exact A.inj b b' d v w y q2
 .rw [cT]at e;split at e
  .rename_i J;cases e;show(if b=ch.length/\m=0 then _ else M.o b m)=ae;rw[az (by omega),J];exact A.EW m
  .rename_i Z;rw[a b m Z];exact A.new b n cl f j e m hm
 .rw [dD];by_cases p:b=ch.length
  .grind
  .rw [U b p]at e;have:=A.len b d e;omega
 .rw [dD];by_cases p:b=ch.length
  .simp;omega
  .rw [a b n p]at e;have:=A.fQ b n x e;omega
 .rw [cT]at e;split at e
  .cases e;trivial
  .exact (A.xr b x e).step I λc q=>D c λp=>hf b (p▸q)
theorem HS.pad(A:HS M ch h) n:HS M ch (h++bT n ae):=by
 have I:∀c,c< h.length->aq (h++bT n ae) c=aq h c:=λc J=>by
  simp[cF,List.getElem?_append_left,J]
 have U:=λb c e=>(A.len b c e).2
 refine⟨λb cv e=>?_,λb n cl t l e=>?_,A.inj,A.new,λb c e=>⟨(A.len b c e).1,by grind⟩,A.fQ,λb x e=>(A.xr b x e).step (.refl M) λc q=>I c (U b c q)⟩
 .obtain ⟨c,v,h1,h2,h3⟩:=A.cell b cv e;grind
 .obtain ⟨u,h1,h2⟩:=A.arr b n cl t l e;grind
end
section
variable [Gh]
variable {M:Mu}
theorem m9:∀(t:Ty) (x:t.den),(t.enc x).wd=t.wd
 |.bool,_|.int _,_|.str,_|.ar _,_|.st _ _,_|.aG _,_|.nl,_|.cn _ _,_|.iO,_=>by rfl
 |.err,[]|.err,_::_=>rfl
theorem Cd:∀(l:Ty) (x:l.den),aS M (sD l x) ((l.cL x).map V.im)
 |.cn t l,x=>by
  exact⟨_,_,rfl,rfl,Cd l x.2⟩
 |.bool,_|.int _,_|.str,_|.ar _,_|.st _ _,_|.aG _,_|.nl,_|.iO,_|.err,_=>by rfl
theorem XY:∀(l:Ty) (x:l.den),gK (sD l x)=ag
 |.cn t l,x=>by
  have:=XY l x.2;trivial
 |.bool,_|.int _,_|.str,_|.ar _,_|.st _ _,_|.aG _,_|.nl,_|.iO,_|.err,_=>by rfl
theorem Tn(ds:List D):fx (ds.map V.im)=ab ds:=by
 induction ds with
 |nil=>rfl
 |cons d ds ih=>show(dB ae (λr=>ab (d::r)) (fx (ds.map V.im)):Option (List D))=_;rw[ih]
theorem Pf(w:Nat)(ds:List D):ff w (ds.map V.im)=.im (.agg w ds):=by simp[ff,Tn]
theorem YG(ds:List D):lK (ds.map V.im)=.im (.aG ds):=by simp[lK,Tn]
theorem X8(w:Nat)(vs:List V):V.kids (ff w vs)=ab vs:=by
 unfold ff;cases h:fx vs<;>first|rename_i ds;show ab (jj ds)=_;rw[mC,<-rQ h]|rfl
theorem Ll:∀{l:List CV} {r:TX},qi l=ab r->∀{vs:List V},aS M l vs->vs=(r.t.cL r.x).map V.im
 |[],r,e,vs,h=>by cases e;trivial
 |v::l,r,e,vs,h=>by
  obtain⟨u,I,rfl,h1,h2⟩:=h;cases v with
  |sy t x=>
   have e:(dB ae (λr=>ab (⟨.cn t r.t,(x,r.x)⟩)) (qi l))=ab r:=e
   cases A:qi l with
   |none=>simp_all
   |some q=>
    rw[A]at e;cases e;rw[Ty.cL,oL,h1,<-Ll A h2]
  |_=>cases e
theorem VR.kH{w:Nat}{l:List CV}{vs:List V}(h:aS M l vs)(A:gK l=ag):VR M (kH w l) (ff w vs):=by
 unfold Go.As.kH;cases e:qi l with
 |none=>exact⟨vs,rfl,h,A⟩
 |some r=>
  rw[Ll e h,Pf];rfl
theorem VR.qO{l:List CV}{vs:List V}(h:aS M l vs):VR M (qO l) (lK vs):=by
 unfold Go.As.qO;cases e:qi l with
 |none=>exact⟨vs,rfl,h⟩
 |some r=>
  rw[Ll e h,YG];rfl
theorem VR.kids{v:CV}{u:V}{l:List CV}(h:VR M v u)(e:v.kids=ab l):∃A,u.kids=ab A/\aS M l A/\gK l=ag:=by
 cases v with
 |sy t x=>cases t with
  |st w I=>
   cases e;subst h;refine⟨_,rfl,?_,XY ..⟩;rw[mC];exact Cd I x
  |_=>cases e
 |agg w I=>
  cases e;obtain⟨vs,rfl,h,J⟩:=h;exact⟨vs,X8 w vs,h,J⟩
 |_=>cases e
theorem VR.wd{v:CV}{u:V}(h:VR M v u)(A:fO v=af):v.wd=u.wd:=by
 cases v with
 |undef=>cases A
 |sy t x=>subst h;exact(m9 t x).symm
 |rf t x=>subst h;rfl
 |m8 d=>subst h;rfl
 |fA=>subst h;rfl
 |agg w l=>obtain⟨vs,rfl,_⟩:=h;exact(Pg w vs).symm
 |aG l=>
  obtain⟨vs,rfl,_⟩:=h;unfold lK;cases fx vs<;>rfl
 |own b n=>obtain⟨_,_,h⟩:=h;cases u<;>first|rfl|cases h
 |ptr b p=>obtain⟨_,_,rfl⟩:=h;rfl
 |el b n i p=>obtain⟨_,_,_,_,_,rfl⟩:=h;rfl
 |fn f a c=>obtain⟨_,_,rfl,_⟩:=h;rfl
 |fm t l=>subst h;rfl
 |da b n o k aR=>rcases h with⟨_,_,_,_,_,rfl,_⟩|⟨_,_,rfl,_⟩<;>rfl
 |ifc t c=>obtain⟨_,rfl,_⟩:=h;rfl
 |mp b=>obtain⟨_,_,rfl⟩:=h;rfl
 |yl b=>obtain⟨_,_,rfl⟩:=h;rfl
 |il j t l=>subst h;rfl
 |tl b d p=>obtain⟨_,_,_,_,_,_,_,rfl⟩:=h;rfl
 |eW t l c=>obtain⟨_,rfl,_⟩:=h;rfl
theorem Kg:∀{l:List CV} {A:List V},aS M l A->gK l=ag->∀k,tA l k=iw A k
 |[],A,h,_,k=>by subst h;rfl
 |v::l,A,h,I,k=>by
  obtain⟨u,r,rfl,h1,h2⟩:=h;simp only[gK,wY,aM,Eg]at I;cases k<;>first|rename_i k;show v.wd+tA l k=u.wd+iw r k;rw[h1.wd I.1,Kg h2 I.2 k]|rfl
theorem aS.get:∀{l:List CV} {A:List V},aS M l A->∀{i:Nat} {v:CV},l[i]? =ab v->∃u,A[i]? =ab u/\VR M v u
 |[],A,_,i,v,e=>by trivial
 |w::l,A,h,i,v,e=>by
  obtain⟨u,r,rfl,h1,h2⟩:=h;cases i with
  |zero=>grind
  |succ i=>simpa using aS.get h2 (by trivial)
theorem aS.set:∀{l:List CV} {A:List V},aS M l A->∀(i:Nat) {v:CV} {u:V},VR M v u->aS M (l.set i v) (A.set i u)
 |[],A,h,i,v,u,_=>by grind[aS]
 |w::l,A,h,i,v,u,I=>by
  obtain⟨J,r,rfl,h1,h2⟩:=h;cases i with
  |zero=>simp[List.set_cons_zero,aS];grind
  |succ i=>exact⟨J,_,rfl,h1,aS.set h2 i I⟩
theorem aS.Pj{N:Mu}{l:List CV}{I:List V}(h:aS M l I)(A:M.le N):aS N l I:=aS.mono A _ _ h
theorem aS.length:∀{l:List CV} {A:List V},aS M l A->l.length=A.length
 |[],A,h=>by grind[aS]
 |w::l,A,h=>by
  obtain⟨I,r,rfl,h1,h2⟩:=h;simp[aS.length h2]
theorem Zg{l:List CV}(h:gK l=ag)(i:Nat){v:CV}(A:fO v=af):gK (l.set i v)=ag:=by
 simp[gK]at h|-;grind
theorem Zf{l:List CV}(h:gK l=ag){i:Nat}{v:CV}(e:l[i]? =ab v):fO v=af:=by
 simp[gK,l9]at h;grind
theorem XX(v:V)(k o:Nat):V.dw v k o=v.kids.bind λl=>bif ak (iw l k) o then bC l k else ae:=by
 cases v with
 |im d=>cases d with
  |agg w l=>
   show(bif ak (Ea l k) o then(bC l k).map V.im else ae)=(ab (jj l)).bind _;simp[ah,mC,acf,b8,nS]
  |_=>rfl
 |agg w l|_=>rfl
theorem VR.dw{v c:CV}{u:V}{k o:Nat}(h:VR M v u)(e:v.dw k o=ab c):∃x,u.dw k o=ab x/\VR M c x/\fO c=af:=by
 obtain⟨l,A,e⟩:=ay.1 e;obtain⟨U,h1,h2,h3⟩:=h.kids A;rw[XX,h1,ah,<-Kg h2 h3 k];cases I:ak (tA l k) o with
 |false=>grind
 |true=>
  rw[I,b8]at e;rw[b8];obtain⟨x,J,q2⟩:=h2.get e;exact⟨x,J,q2,Zf h3 e⟩
theorem VR.eQ:∀{p:List (Nat×Nat)} {v c:CV} {u:V},VR M v u->v.eQ p=ab c->fO v=af->∃x,u.eQ p=ab x/\VR M c x/\fO c=af
 |[],v,c,u,h,e,A=>by cases e;exact⟨u,rfl,h,A⟩
 |s::p,v,c,u,h,e,_=>by
  obtain⟨y,h1,h2⟩:=ay.1 e;obtain⟨x,U,q2,I⟩:=h.dw h1;obtain⟨z,Z,J⟩:=VR.eQ q2 h2 I;refine⟨z,?_,J⟩;show(V.dw u s.1 s.2).bind (λv=>V.eQ v p)=ab z
  grind
theorem YF(w:Nat)(l:List CV):fO (kH w l)=af:=by unfold kH;cases qi l<;>rfl
theorem VR.put{x:CV}{y:V}(J:VR M x y)(A:fO x=af):∀{p:List (Nat×Nat)} {v c:CV} {u:V},VR M v u->CV.put x p v=ab c->∃z,V.put y p u=ab z/\VR M c z/\fO c=af
 |[],v,c,u,h,e=>by
  have e:(bif ak x.wd v.wd&&not (fO v)then ab x else ae)=ab c:=e;cases I:ak x.wd v.wd&&not (fO v)with
  |false=>grind
  |true=>
   rw[I]at e;cases e;refine⟨y,?_,J,A⟩;show(bif ak y.wd u.wd then ab y else ae)=ab y;simp_all[J.wd,A,h.wd,I,au]
 |s::p,v,c,u,h,e=>by
  have Z:fO v=af:=by cases v<;>first|rfl|cases e
  obtain⟨l,a,e⟩:=ay.1 e;obtain⟨b,h1,h2,h3⟩:=h.kids a;cases I:ak (tA l s.1) s.2 with
  |false=>grind
  |true=>
   rw[I,b8]at e;obtain⟨n,d,e⟩:=ay.1 e;obtain⟨k1,U,e⟩:=Option.map_eq_some_iff.1 e;subst e;obtain⟨o,f,q2⟩:=h2.get d;obtain⟨z,g,i,j⟩:=VR.put J A q2 U;refine⟨ff u.wd (b.set s.1 z),?_,?_,YF ..⟩
   .show (u.kids.bind λl=>bif ak (iw l s.1) s.2 then(bC l s.1).bind λc=>(V.put y p c).map λm=>ff u.wd (bB l s.1 m)else ae)=_
    rw[h1,ah,<-Kg h2 h3,I,au,b8,f,ah,g,hY,dR]
   .rw [h.wd Z,dR];exact VR.kH (h2.set _ i) (Zg h3 _ j)
theorem VR.norm{v:CV}{u:V}{l:List CV}(h:VR M v u)(e:v.kids=ab l):∃A,u=ff u.wd A/\u.kids=ab A:=by
 cases v with
 |sy t x=>cases t with
  |st w I=>
   subst h;refine⟨(I.cL x).map V.im,by rw[Pf];rfl,?_⟩
   show ab (jj _)=_;simp
  |_=>cases e
 |agg w I=>
  obtain⟨vs,rfl,_⟩:=h;exact⟨vs,by rw[Pg],X8 w vs⟩
 |_=>cases e
theorem aae:∀{p:List (Nat×Nat)} {w c:CV} {z y:V},VR M w z->w.eQ p=ab c->z.eQ p=ab y->V.put y p z=ab z
 |[],w,c,z,y,_,_,e=>by
  cases e;show(bif ak z.wd z.wd then ab z else ae)=ab z;simp
 |s::p,w,c,z,y,h,J,e=>by
  obtain⟨m,I,J⟩:=ay.1 J;obtain⟨x,A,q2,_⟩:=h.dw I;have e:(V.dw z s.1 s.2).bind (λv=>V.eQ v p)=ab y:=e
  rw[A]at e;have ih:=aae q2 J e;have b:∃l,w.kids=ab l:=by
   obtain⟨l,U,_⟩:=ay.1 I;exact⟨l,U⟩
  obtain⟨l,U⟩:=b;obtain⟨Z,d,a⟩:=h.norm U;rw[XX,a,ah]at A;show(z.kids.bind λl=>bif ak (iw l s.1) s.2 then(bC l s.1).bind λc=>(V.put y p c).map λf=>ff z.wd (bB l s.1 f)else ae)=_
  rw[a,ah];cases g:ak (iw Z s.1) s.2 with
  |false=>grind
  |true=>
   rw[g,au]at A;rw[au,A,ah,ih,hY,dR];rw[b8]at A;have:Z.set s.1 x=Z:=by
    obtain⟨i,j⟩:=List.getElem?_eq_some_iff.1 A;rw[<-j];simp
   rw[this,<-d]
theorem VR.part{v c:CV}{u:V}{i:Nat}(h:VR M v u)(e:v.part i=ab c):∃x,u.part i=ab x/\VR M c x:=by
 cases v with
 |sy t x=>cases t with
  |aG A=>
   have e:bC (sD A x) i=ab c:=e;rw[b8]at e;subst h;obtain⟨y,h1,h2⟩:=(Cd (M:=M) A x).get e;refine⟨y,?_,h2⟩;show(bC (A.cL x) i).map V.im=_;simp_all
  |_=>cases e
 |aG l=>
  have e:bC l i=ab c:=e;rw[b8]at e;obtain⟨vs,rfl,h⟩:=h;obtain⟨y,h1,h2⟩:=h.get e;refine⟨y,?_,h2⟩;unfold lK;cases I:fx vs with
  |none=>show bC vs i=_;simp_all
  |some ds=>
   show(bC ds i).map V.im=_;rw[b8,<-nS,<-rQ I];omega
 |_=>cases e
theorem iQ{ti:TI}{v:CV}{u:V}(h:VR M v u)(e:dG ti v=ag):cq ti u=ag/\fO v=af:=by
 simp[dG,aM]at e;obtain⟨J,A⟩:=e;have I:fO v=af:=by cases v<;>first|rfl|cases A
 refine⟨?_,I⟩;simp[cq,aM];refine⟨by simp_all[h.wd,I,J],?_⟩
 cases v with
 |sy t x=>
  subst h;cases t with
  |err=>cases x<;>exact A
  |_=>trivial
 |rf t x=>grind[VR,vu,gL,gL.HX]
 |m8 d=>subst h;exact A
 |fA=>subst h;exact A
 |agg w l=>
  obtain⟨vs,rfl,_⟩:=h;unfold ff;cases fx vs<;>exact A
 |own b n=>obtain⟨_,_,h⟩:=h;cases u<;>first|exact A|cases h
 |ptr b p=>obtain⟨_,_,rfl⟩:=h;exact A
 |el b n i p=>obtain⟨_,_,_,_,_,rfl⟩:=h;exact A
 |fn f a c=>obtain⟨_,_,rfl,_⟩:=h;exact A
 |fm t l=>subst h;exact A
 |da b n o k aR=>rcases h with⟨_,_,_,_,_,rfl,_⟩|⟨_,_,rfl,_⟩<;>exact A
 |ifc t c=>obtain⟨_,rfl,_⟩:=h;exact A
 |mp b=>obtain⟨_,_,rfl⟩:=h;exact A
 |yl b=>obtain⟨_,_,rfl⟩:=h;exact A
 |tl b d p=>obtain⟨_,_,_,_,_,_,_,rfl⟩:=h;exact A
 |undef|aG l|il j t l|eW t l c=>cases A
mutual
theorem Pv:∀d:D,VR M (sJ d) (.im d)/\fO (sJ d)=af
 |.bool _|.int _ _|.str _=>by simp[sJ,VR,Ty.enc,fO]
 |.nil|.ref _|.ar _|.fn _|.eR|.ifc _ _|.g8=>by simp[sJ,VR,fO]
 |.dn=>⟨rfl,rfl⟩
 |.agg w l=>by
  rw[sJ,<-Pf]
  exact⟨VR.kH (Cw l).1 (Cw l).2,YF ..⟩
 |.aG l=>by
  rw[sJ,<-YG]
  exact⟨VR.qO (Cw l).1,by unfold qO;cases qi (sK l)<;>rfl⟩
theorem Cw:∀l:List D,aS M (sK l) (l.map V.im)/\gK (sK l)=ag
 |[]=>by simp[sK,aS,gK]
 |d::l=>by
  simp only[sK,oL,aS,gK,wY,aM,Eg]
  exact⟨⟨_,_,rfl,(Pv d).1,(Cw l).1⟩,(Pv d).2,(Cw l).2⟩
end
theorem jf{a b:Ty}{x:a.den}{y:b.den}(h:Ty.cs a b x=ab y):∃e:a=b,y=e▸x:=by
 unfold Ty.cs at h;grind
theorem je{a b:Ty}{x:a.den}{y:b.den}(h:Ty.cs a b x=ab y):a=b/\b.enc y=a.enc x/\(∀M,VR M (.sy b y) (.im (a.enc x))):=by
 obtain⟨rfl,rfl⟩:=jf h;exact⟨rfl,rfl,λ_=>rfl⟩
end
section
variable [Gh]
variable {M:Mu} {ch:CH} {h:Heap}
theorem Bg(h:Heap)(v:V):v.data h=v.cm (gM h):=by
 cases v<;>first|rfl|simp[V.data]
theorem Bd(o:Nat->Nat->Nat->Nat->Option (List D)):∀ds:List D,V.cP o (ds.map V.im)=ab ds
 |[]=>by rfl
 |d::ds=>by simp[V.cP,V.cm,Bd o ds]
theorem Ux(o:Nat->Nat->Nat->Nat->Option (List D))(w:Nat)(A:List V):(ff w A).cm o=(V.cP o A).map (.agg w):=by
 unfold ff;cases I:fx A with
 |none=>rfl
 |some ds=>rw[rQ I,Bd];rfl
theorem Uy(o:Nat->Nat->Nat->Nat->Option (List D))(A:List V):(lK A).cm o=(V.cP o A).map .aG:=by
 unfold lK;cases I:fx A with
 |none=>rfl
 |some ds=>rw[rQ I,Bd];rfl
theorem HS.own(I:HS M ch h){b n A:Nat}{c:Bool}{t:Ty}{l:List t.den}(J:aB ch b=ab (.arr A c t l))(U:ak n A=ag){v:V}(Z:VR M (.own b n) v):
  (v=.full []/\l=[]/\M.b b=ae)∨∃x g ro,M.b b=ab x/\v=.own x g 0 l.length af/\aq h x=ab (.arr g t.wd ro (l.map t.enc))/\(c=af->ro=0)/\ro<=l.length:=by
 have:=bR U;subst this;simp[VR]at Z;obtain⟨u,h1,h2⟩:=I.arr b n c t l J;grind
theorem HS.da(I:HS M ch h){b n A:Nat}{c:Bool}{t:Ty}{l:List t.den}{o:Option Nat}{k:Nat}{aR:Bool}(J:aB ch b=ab (.arr A c t l))(U:ak n A=ag){v:V}(Z:VR M (.da b n o k aR) v):
  (v=.full []/\l=[]/\M.b b=ae/\k=0)∨∃x g ro,M.b b=ab x/\v=.own x g (o.getD 0) k aR/\o.getD 0+k<=l.length/\aq h x=ab (.arr g t.wd ro (l.map t.enc))/\(c=af->ro=0)/\ro<=l.length/\M.o b n=ab (.own x g 0 l.length af,t.wd):=by
 have:=bR U;subst this;simp[VR]at Z;obtain⟨u,h1,h2⟩:=I.arr b n c t l J;grind
theorem xK{α β:Type}(f:α->β)(o:Option Nat)(n:Nat)(l:List α):(fe o n l).map f=fe o n (l.map f):=by
 cases o<;>simp[fe,jm,va,adJ]
theorem agw{α:Type}{o:Option Nat}{n:Nat}{l:List α}(h:o.getD 0+n<=l.length):(fe o n l).length=n:=by
 cases o with
 |none=>grind[fe,jm]
 |some o=>grind[fe,jm,va]
theorem Mc{o:Option Nat}{n:Nat}{l:List D}(h:o.getD 0+n<=l.length):eP l (o.getD 0) n=fe o n l:=by
 unfold eP;cases A:ak (o.getD 0) 0&&ak n (aA l)with
 |true=>
  rw[aM]at A;have h2:=bR A.2;cases o with
  |none=>simp[fe,jm,h2]
  |some o=>
   simp_all[fe,jm,va,h2]
 |false=>
  cases o with
  |none=>rfl
  |some o=>rfl
theorem Bb{o:Option Nat}{n g:Nat}{l:List D}(h:o.getD 0+n<=l.length):dc g g (o.getD 0) n l=ag:=by
 unfold dc;simp_all
theorem ank{x g s ro:Nat}{l:List D}{o:Option Nat}{n:Nat}(J:aq h x=ab (.arr g s ro l))(U:o.getD 0+n<=l.length):gM h x g (o.getD 0) n=ab (fe o n l):=by
 show(match aq h x with
  |some (.arr I _ _ A)=>bif dc g I (o.getD 0) n A then ab (eP A (o.getD 0) n)else ae
  |some (.bN I _ A)=>bif dc g I (o.getD 0) n A then V.cP (pk h 3) (eP A (o.getD 0) n)else ae
  |_=>ae)=_
 simp[J,Bb,U,Mc]
theorem anl{x g s ro:Nat}{l:List D}(J:aq h x=ab (.arr g s ro l)):gM h x g 0 l.length=ab l:=by
 show(match aq h x with
  |some (.arr I _ _ A)=>bif dc g I 0 l.length A then ab (eP A 0 l.length)else ae
  |some (.bN I _ A)=>bif dc g I 0 l.length A then V.cP (pk h 3) (eP A 0 l.length)else ae
  |_=>ae)=_
 rw[J];have:bp l.length l.length=ag:=kl (aJ _);simp[dc,eP,this]
theorem arc{t u:Ty}{y:u.den}:CV.dt ch t (.sy u y)=Ty.cs u t y:=by cases t<;>rfl
theorem MO{f:Nat}{a c:List CV}{x:Nat}{v:V}(e:(match a,c with|[],[]=>ab f|_,_=>ae)=ab x)(r:VR M (.fn f a c) v):v=.fn f [] []/\x=f/\a=[]/\c=[]:=by
 split at e
 .simp [VR,aS]at r;grind
 trivial
theorem Mp(p:HS M ch h)(t:Ty):(∀(cv:CV) (x:t.den) (v:V),CV.dt ch t cv=ab x->VR M cv v->v.cm (gM h)=ab (t.enc x))/\
  (∀(vs:List CV) (x:t.den) (A:List V),CV.fK ch t vs=ab x->aS M vs A->V.cP (gM h) A=ab (t.cL x)):=by
 have sy:∀(t u:Ty) (y:u.den) (x:t.den) (v:V),Ty.cs u t y=ab x->VR M (.sy u y) v->v.cm (gM h)=ab (t.enc x):=λt u y x v e r=>by
  obtain⟨rfl,he,_⟩:=je e;simp_all[VR,he,V.cm]
 induction t with
 |bool=>exact⟨λcv x v e r=>(by cases cv<;>first|(exact sy _ _ _ _ _ e r)|cases e),λvs x A e r=>(by trivial)⟩
 |err=>exact⟨λcv x v e r=>(by cases cv<;>first|(exact sy _ _ _ _ _ e r)|cases e),λvs x A e r=>(by trivial)⟩
 |iO=>
  refine⟨λcv x v e r=>?_,λvs x A e r=>(by trivial)⟩
  cases cv with
  |sy u y=>exact sy _ _ _ _ _ e r
  |fn f a c=>
   obtain⟨rfl,rfl,rfl,rfl⟩:=MO (M:=M) e r;rfl
  |_=>cases e
 |int k=>exact⟨λcv x v e r=>(by cases cv<;>first|(exact sy _ _ _ _ _ e r)|cases e),λvs x A e r=>(by trivial)⟩
 |str=>exact⟨λcv x v e r=>(by cases cv<;>first|(exact sy _ _ _ _ _ e r)|cases e),λvs x A e r=>(by trivial)⟩
 |ar t _=>
  refine⟨λcv x v e r=>?_,λvs x A e r=>(by trivial)⟩
  cases cv with
  |sy u y=>exact sy _ _ _ _ _ e r
  |fA=>
   have e:(ab []:Option (List t.den))=ab x:=e;grind[VR,V.cm,Ty.enc]
  |own b n=>
   have e:(match aB ch b with
    |some (.arr J _ u l)=>bif ak n J then Ty.cs (.ar u) (.ar t) l else ae
    |_=>ae)=ab x:=e
   split at e
   .rename_i J c u l Z;cases U:ak n J with
    |false=>grind
    |true=>
     rw[U,au]at e;obtain⟨I,he,_⟩:=je e;cases I;rcases p.own Z U r with⟨rfl,rfl,_⟩|⟨y,g,ro,_,rfl,d,_⟩
     .simp_all[he,V.cm,Ty.enc]
     .rw [he];have:=anl d;simp_all[gd,V.cm,this,Ty.enc]
   trivial
  |fm u l=>
   have e:Ty.cs (.ar u) (.ar t) l=ab x:=e;obtain⟨I,he,_⟩:=je e;simp_all[VR,he,V.cm,Ty.enc]
  |da b n o m aR=>
   have e:(match aB ch b with
    |some (.arr J _ u l)=>bif ak n J then Ty.cs (.ar u) (.ar t) (fe o m l)else ae
    |_=>ae)=ab x:=e
   split at e
   .rename_i J c u l Z;cases U:ak n J with
    |false=>grind
    |true=>
     rw[U,au]at e;obtain⟨I,he,_⟩:=je e;cases I;rcases p.da Z U r with⟨rfl,rfl,_,rfl⟩|⟨y,g,ro,_,rfl,hm,d,_⟩
     .rw [he];cases o<;>simp[V.cm,Ty.enc,fe,jm,va]
     .rw [he];have:=ank (o:=o) (n:=m) d (by grind)
      simp[V.cm,this,Ty.enc,xK]
   trivial
  |_=>cases e
 |st w l ih=>
  refine⟨λcv x v e r=>?_,λvs x A e r=>(by trivial)⟩
  cases cv with
  |sy u y=>exact sy _ _ _ _ _ e r
  |agg w' vs=>
   have q:(bif ak w w' then CV.fK ch l vs else ae)=ab x:=e;cases hw:ak w w' with
   |false=>grind
   |true=>
    rw[hw,au]at q;have:=bR hw;subst this;simp only[VR]at r;obtain⟨A,rfl,r,_⟩:=r;rw[Ux,ih.2 vs x A q r];rfl
  |_=>cases e
 |aG l ih=>
  refine⟨λcv x v e r=>?_,λvs x A e r=>(by trivial)⟩
  cases cv with
  |sy u y=>exact sy _ _ _ _ _ e r
  |aG vs=>
   have e:CV.fK ch l vs=ab x:=e;simp only[VR]at r;obtain⟨A,rfl,r⟩:=r;rw[Uy,ih.2 vs x A e r];rfl
  |_=>cases e
 |nl=>
  refine⟨λcv x v e r=>(by cases cv<;>first|(exact sy _ _ _ _ _ e r)|cases e),λvs x A e r=>?_⟩
  cases vs with
  |nil=>
   grind[aS,V.cP,Ty.cL]
  |cons _ _=>cases e
 |cn t l i j=>
  refine⟨λcv x v e r=>(by cases cv<;>first|(exact sy _ _ _ _ _ e r)|cases e),λvs x A e r=>?_⟩
  cases vs with
  |nil=>cases e
  |cons v vs=>
   have e:(match CV.dt ch t v,CV.fK ch l vs with
    |some x,ab y=>ab (x,y)
    |_,_=>ae)=ab x:=e
   split at e
   .rename_i y z h1 h2;cases e;simp only[aS]at r;obtain⟨u,s,rfl,B,q2⟩:=r;simp[V.cP,i.1 v y u h1 B,j.2 vs z s h2 q2,Ty.cL]
   trivial
theorem Bk(A:HS M ch h){t:Ty}{cv:CV}{x:t.den}{v:V}(e:CV.dt ch t cv=ab x)(r:VR M cv v):v.data h=ab (t.enc x):=by
 rw[Bg];exact(Mp A t).1 cv x v e r
theorem FO(I:HS M ch h){t:Ty}{vs:List CV}{x:t.den}{A:List V}(e:CV.fK ch t vs=ab x)(r:aS M vs A):gG h A=ab (t.cL x):=by
 have:=(Mp I t).2 vs x A e r;have key:∀A,gG h A=V.cP (gM h) A:=by
  intro A;induction A with
  |nil=>rfl
  |cons u A ih=>
   show(V.data h u).bind (λd=>(gG h A).map (d:: ·))=_
   rw[ih,Bg];cases h1:u.cm (gM h)<;>cases h2:V.cP (gM h) A<;>simp[V.cP,h1,h2]
 grind
theorem Ia(A:List V):(∀w,(ff w A).owns=V.de A)/\(lK A).owns=V.de A:=by
 cases I:fx A with
 |none=>exact⟨λw=>by simp[ff,I,V.owns,V.eB],by simp[lK,I,V.owns,V.eB]⟩
 |some ds=>
  have J:V.de A=[]:=by
   rw[rQ I];clear I;induction ds with
   |nil=>rfl
   |cons d ds ih=>trivial
  exact⟨λw=>by unfold ff;rw[I,J];rfl,by unfold lK;rw[I,J];rfl⟩
theorem vE(v:V):v.owns=v.eB:=by cases v<;>first|rfl|simp[V.owns]
theorem ark(f:Nat->Option Nat)(a b:List Nat):(a++b).filterMap f=a.filterMap f++b.filterMap f:=List.filterMap_append
theorem Ic(p:HS M ch h)(t:Ty):(∀(cv:CV) (x:t.den) (v:V),CV.dt ch t cv=ab x->VR M cv v->v.eB=cv.ga.filterMap M.b)/\
  (∀(vs:List CV) (x:t.den) (A:List V),CV.fK ch t vs=ab x->aS M vs A->V.de A=(CV.fS vs).filterMap M.b):=by
 have sy:∀(u:Ty) (y:u.den) (v:V),VR M (.sy u y) v->v.eB=(CV.sy u y).ga.filterMap M.b:=λu y v r=>by
  grind[VR,V.eB,CV.ga]
 induction t with
 |bool=>exact⟨λcv x v e r=>(by cases cv<;>first|(exact sy _ _ _ r)|cases e),λvs x A e r=>(by trivial)⟩
 |err=>exact⟨λcv x v e r=>(by cases cv<;>first|(exact sy _ _ _ r)|cases e),λvs x A e r=>(by trivial)⟩
 |iO=>
  refine⟨λcv x v e r=>?_,λvs x A e r=>(by trivial)⟩
  cases cv with
  |sy u y=>exact sy _ _ _ r
  |fn f a c=>
   obtain⟨rfl,rfl,rfl,rfl⟩:=MO (M:=M) e r;rfl
  |_=>cases e
 |int k=>exact⟨λcv x v e r=>(by cases cv<;>first|(exact sy _ _ _ r)|cases e),λvs x A e r=>(by trivial)⟩
 |str=>exact⟨λcv x v e r=>(by cases cv<;>first|(exact sy _ _ _ r)|cases e),λvs x A e r=>(by trivial)⟩
 |ar t _=>
  refine⟨λcv x v e r=>?_,λvs x A e r=>(by trivial)⟩
  cases cv with
  |sy u y=>exact sy _ _ _ r
  |fA=>
   grind[VR,V.eB,CV.ga]
  |own b n=>
   have e:(match aB ch b with
    |some (.arr I _ u l)=>bif ak n I then Ty.cs (.ar u) (.ar t) l else ae
    |_=>ae)=ab x:=e
   split at e
   .rename_i I c u l Z;cases d:ak n I with
    |false=>grind
    |true=>
     rcases p.own Z d r with⟨rfl,rfl,U⟩|⟨y,g,ro,U,rfl,B,_⟩
     all_goals simp[V.eB,CV.ga,U]
   trivial
  |fm u l=>
   grind[VR,V.eB,CV.ga]
  |da b n o m aR=>
   have e:(match aB ch b with
    |some (.arr I _ u l)=>bif ak n I then Ty.cs (.ar u) (.ar t) (fe o m l)else ae
    |_=>ae)=ab x:=e
   split at e
   .rename_i I c u l Z;cases d:ak n I with
    |false=>grind
    |true=>
     rcases p.da Z d r with⟨rfl,rfl,U,_⟩|⟨y,g,ro,U,rfl,_⟩
     all_goals simp[V.eB,CV.ga,U]
   trivial
  |_=>cases e
 |st w l ih=>
  refine⟨λcv x v e r=>?_,λvs x A e r=>(by trivial)⟩
  cases cv with
  |sy u y=>exact sy _ _ _ r
  |agg w' vs=>
   have J:(bif ak w w' then CV.fK ch l vs else ae)=ab x:=e;cases hw:ak w w' with
   |false=>grind
   |true=>
    rw[hw,au]at J;simp only[VR]at r;obtain⟨A,rfl,r,_⟩:=r;rw[<-vE,(Ia A).1,ih.2 vs x A J r];rfl
  |_=>cases e
 |aG l ih=>
  refine⟨λcv x v e r=>?_,λvs x A e r=>(by trivial)⟩
  cases cv with
  |sy u y=>exact sy _ _ _ r
  |aG vs=>
   have J:CV.fK ch l vs=ab x:=e;simp only[VR]at r;obtain⟨A,rfl,r⟩:=r;rw[<-vE,(Ia A).2,ih.2 vs x A J r];rfl
  |_=>cases e
 |nl=>
  refine⟨λcv x v e r=>(by cases cv<;>first|(exact sy _ _ _ r)|cases e),λvs x A e r=>?_⟩
  cases vs with
  |nil=>
   grind[aS,V.de,CV.fS]
  |cons _ _=>cases e
 |cn t l i j=>
  refine⟨λcv x v e r=>(by cases cv<;>first|(exact sy _ _ _ r)|cases e),λvs x A e r=>?_⟩
  cases vs with
  |nil=>cases e
  |cons v vs=>
   have J:(match CV.dt ch t v,CV.fK ch l vs with
    |some x,ab y=>ab (x,y)
    |_,_=>ae)=ab x:=e
   split at J
   .rename_i y z h1 h2;simp only[aS]at r;obtain⟨u,q,rfl,s,q2⟩:=r;simp[V.de,CV.fS,i.1 v y u h1 s,j.2 vs z q h2 q2]
   trivial
theorem ZK:∀A:List V,V.j0 A=V.de A
 |[]=>by rfl
 |u::A=>by
  have ih:=ZK A;show(match u with|.im _=>V.j0 A|v=>v.owns++V.j0 A)=_
  cases u<;>simp[V.de,V.eB,ih,V.owns]
theorem ZP(I:HS M ch h){t:Ty}{vs:List CV}{x:t.den}{A:List V}(e:CV.fK ch t vs=ab x)(r:aS M vs A):V.j0 A=(CV.fS vs).filterMap M.b:=by
 rw[ZK];exact(Ic I t).2 vs x A e r
theorem ag1(t:Ty):(∀x:t.den,(t.enc x).flat=t.flat)/\(∀x:t.den,D.lE (t.cL x)=t.lE):=by
 induction t with
 |bool|int _|str|ar _ _|nl|iO=>exact⟨λx=>by rfl,λx=>by rfl⟩
 |err=>
  refine⟨λx=>?_,λx=>by rfl⟩
  show(ib x).flat=ag;induction x with
  |nil=>rfl
  |cons p l ih=>simp[ib,D.flat,D.lE,Bool.true_and,Bool.and_true];omega
 |st w l ih=>exact⟨λx=>by simp[Ty.enc,D.flat,Ty.flat,ih],λx=>by rfl⟩
 |aG l ih=>exact⟨λx=>by simp[Ty.enc,D.flat,Ty.flat,ih],λx=>by rfl⟩
 |cn t l A I=>exact⟨λx=>by rfl,λx=>by simp[Ty.cL,D.lE,Ty.lE,A,I]⟩
theorem Bm(t:Ty)(x:t.den):(t.enc x).flat=t.flat:=(ag1 t).1 x
theorem HS.L7(A:HS M ch h){b n:Nat}{c:Bool}{t:Ty}{l:List t.den}(f:aB ch b=ab (.arr n c t l)):
  HS M (cG ch b (.arr n ag t l)) (match M.b b with|some x=>(match aq h x with|some (.arr g s _ L)=>aD h x (.arr g s (aA L) L)|_=>h)|none=>h):=by
 have w:=eY f;obtain⟨u,h1,h2⟩:=A.arr b n c t l f;have Z:∀i,aB (cG ch b (.arr n ag t l)) i=if i=b then ab (.arr n ag t l)else aB ch i:=λi=>fN ch _ b i w
 rcases h2 with⟨rfl,rfl,j⟩|⟨x,g,ro,j,rfl,K,V,N⟩
 .rw [j];refine⟨λb' cv e=>?_,λb' I cl a d e=>?_,λz B J D F v q2=>?_,λb' I cl a d e=>?_,λb' J e=>?_,λb' I x e=>?_,λb' y e=>?_⟩
  .rw [Z]at e;split at e
   .cases e
   .exact A.cell b' cv e
  .rw [Z]at e;split at e
   .grind
   .exact A.arr b' I cl a d e
  .refine A.inj z B J (λq=>D ?_) (λq=>F ?_) v q2
   all_goals grind
  .rw [Z]at e;split at e
   .rename_i he;cases e;subst he;exact A.new _ _ _ _ _ f
   .exact A.new b' I cl a d e
  .rw [eI];exact A.len b' J e
  .rw [eI];exact A.fQ b' I x e
  .rw [Z]at e;split at e
   .cases e;trivial
   .exact (A.xr b' y e).step (.refl M) λ_ _=>rfl
 .rw [j];have m:=(A.len _ _ j).2;simp only[K];have o:∀y,aq (aD h x (.arr g t.wd (aA (l.map t.enc)) (l.map t.enc))) y=if y=x then ab (.arr g t.wd (aA (l.map t.enc)) (l.map t.enc))else aq h y:=λy=>bG _ _ _ _ (cX m)
  refine⟨λb' cv e=>?_,λb' I cl a d e=>?_,λz B J D F v q2=>?_,λb' I cl a d e=>?_,λb' J e=>?_,λb' I x e=>?_,λb' y e=>?_⟩
  .rw [Z]at e;split at e
   .cases e
   .rename_i U;obtain⟨J,W,v,q2,X⟩:=A.cell b' cv e;grind
  .rw [Z]at e;split at e
   .rename_i he;cases e;simp_all
   .rename_i U;obtain⟨O,P,Q⟩:=A.arr b' I cl a d e;refine⟨O,P,Q.imp id λ⟨y,R,G,H,S,Y,T⟩=>⟨y,R,G,H,S,?_,T⟩⟩
    rw[o,az (by intro q;subst q;exact U (A.inj b' b _ (by simp[e]) (by simp[f]) H j))]
    omega
  .refine A.inj z B J (λq=>D ?_) (λq=>F ?_) v q2
   all_goals grind
  .rw [Z]at e;split at e
   .rename_i he;cases e;subst he;exact A.new _ _ _ _ _ f
   .exact A.new b' I cl a d e
  .rw [eI,bL,aK m];exact A.len b' J e
  .rw [eI];exact A.fQ b' I x e
  .rw [Z]at e;split at e
   .cases e;trivial
   .rename_i U;exact(A.xr b' y e).step (.refl M) λJ q=>by rw[o,az (by intro p;subst p;exact U (A.inj b' b _ (by simp[e]) (by simp[f]) q j))]
theorem agk(b:Nat)(A:List Nat)(h:Heap):Go.As.close h (b::A)=Go.As.close (match aq h b with|some (.arr g s _ l)=>aD h b (.arr g s (aA l) l)|_=>h) A:=by
 show(match aq h b with|some (.arr g s _ l)=>Go.As.close (aD h b (.arr g s (aA l) l)) A|_=>Go.As.close h A)=_
 split<;>simp_all
theorem Uj(b:Nat)(A:List Nat)(ch:CH):m7 ch (b::A)=m7 (match aB ch b with|some (.arr v _ t l)=>cG ch b (.arr v ag t l)|_=>ch) A:=by
 show(match aB ch b with|some (.arr v _ t l)=>m7 (cG ch b (.arr v ag t l)) A|_=>m7 ch A)=_
 split<;>simp_all
theorem HS.fi(I:HS M ch h):∀(A:List Nat),(∀b∈A,∃n c t l,aB ch b=ab (.arr n c t l))->Go.As.fi h (A.filterMap M.b)=ag
 |[],_=>rfl
 |b::A,J=>by
  obtain⟨n,c,t,l,Z⟩:=J b (e8 ..);have ih:=HS.fi I A λb' h'=>J b' (List.mem_cons_of_mem _ h')
  obtain⟨u,h1,h2⟩:=I.arr b n c t l Z;rcases h2 with⟨_,_,U⟩|⟨x,g,ro,U,_,a,_⟩
  .grind
  .rw [adD U];show(match aq h x with|some (.arr ..)=>Go.As.fi h (A.filterMap M.b)|_=>af)=ag
   simp[a,ih]
theorem HS.close{wb:Nat->Bool}:∀(A:List Nat) {ch:CH} {h:Heap},HS M ch h->(∀b∈A,∃n c t l,aB ch b=ab (.arr n c t l)/\(c=ag∨wb b=ag))->
  HS M (m7 ch A) (Go.As.close h (A.filterMap M.b))/\(m7 ch A).length=ch.length/\(Go.As.close h (A.filterMap M.b)).length=h.length/\(∀b,wb b=af->aB (m7 ch A) b=aB ch b)/\(∀c,c< h.length->(∀b,M.b b≠ab c)->aq (Go.As.close h (A.filterMap M.b)) c=aq h c)
 |[],ch,h,U,_=>⟨U,rfl,rfl,λ_ _=>rfl,λ_ _ _=>rfl⟩
 |b::A,ch,h,U,v=>by
  obtain⟨n,c,t,l,a,w⟩:=v b (e8 ..);have h1:=U.L7 a;have d:=eY a;rw[Uj];simp[a];have hp:∀i,aB (cG ch b (.arr n ag t l)) i=if i=b then ab (.arr n ag t l)else aB ch i:=λi=>fN ch _ b i d
  have Z:∀b'∈A,∃z p B D,aB (cG ch b (.arr n ag t l)) b'=ab (.arr z p B D)/\(p=ag∨wb b'=ag):=λb' h'=>by
   grind
  have I:∀i,wb i=af->aB (cG ch b (.arr n ag t l)) i=aB ch i:=λi hi=>by
   grind
  obtain⟨u,G,q2⟩:=U.arr b n c t l a;rcases q2 with⟨_,_,J⟩|⟨x,g,ro,J,_,q,_⟩
  .rw [J]at h1;obtain⟨e,f,j,m,o⟩:=HS.close A h1 Z;rw[List.filterMap_cons_none J];exact⟨e,f.trans (eI ..),j,λi hi=>(m i hi).trans (I i hi),o⟩
  .rw [J]at h1;simp only[q]at h1;obtain⟨e,f,j,m,o⟩:=HS.close A h1 Z;rw[adD J,agk];simp only[q];exact⟨e,f.trans (eI ..),j.trans (by rw[bL,aK (U.len _ _ J).2]),λi hi=>(m i hi).trans (I i hi),
    λy F s=>(o y (by rw[bL,aK (U.len _ _ J).2];omega) s).trans (vD J (U.len _ _ J).2 y F s)⟩
theorem Ib(t:Ty):(∀(cv:CV) (x:t.den),CV.dt ch t cv=ab x->∀b∈cv.ga,∃n c u l,aB ch b=ab (.arr n c u l))/\
  (∀(vs:List CV) (x:t.den),CV.fK ch t vs=ab x->∀b∈CV.fS vs,∃n c u l,aB ch b=ab (.arr n c u l)):=by
 have sy:∀(u:Ty) (y:u.den),∀b∈(CV.sy u y).ga,∃n c u l,aB ch b=ab (.arr n c u l):=λu y b A=>by trivial
 induction t with
 |bool=>exact⟨λcv x e=>(by cases cv<;>first|(exact sy _ _)|cases e),λvs x e=>(by trivial)⟩
 |err=>exact⟨λcv x e=>(by cases cv<;>first|(exact sy _ _)|cases e),λvs x e=>(by trivial)⟩
 |iO=>
  refine⟨λcv x e=>?_,λvs x e=>(by trivial)⟩
  cases cv with
  |sy u y=>exact sy _ _
  |fn f a c=>simp[CV.ga]
  |_=>cases e
 |int k=>exact⟨λcv x e=>(by cases cv<;>first|(exact sy _ _)|cases e),λvs x e=>(by trivial)⟩
 |str=>exact⟨λcv x e=>(by cases cv<;>first|(exact sy _ _)|cases e),λvs x e=>(by trivial)⟩
 |ar t _=>
  refine⟨λcv x e=>?_,λvs x e=>(by trivial)⟩
  cases cv with
  |sy u y=>exact sy _ _
  |fA=>simp[CV.ga]
  |own b n=>
   have e:(match aB ch b with
    |some (.arr I _ u l)=>bif ak n I then Ty.cs (.ar u) (.ar t) l else ae
    |_=>ae)=ab x:=e
   split at e
   .rename_i I c u l A;simp_all[CV.ga,A]
   trivial
  |fm u l=>simp[CV.ga]
  |da b n o m aR=>
   have e:(match aB ch b with
    |some (.arr I _ u l)=>bif ak n I then Ty.cs (.ar u) (.ar t) (fe o m l)else ae
    |_=>ae)=ab x:=e
   split at e
   .rename_i I c u l A;simp_all[CV.ga,A]
   trivial
  |_=>cases e
 |st w l ih=>
  refine⟨λcv x e=>?_,λvs x e=>(by trivial)⟩
  cases cv with
  |sy u y=>exact sy _ _
  |agg w' vs=>
   have J:(bif ak w w' then CV.fK ch l vs else ae)=ab x:=e;cases hw:ak w w' with
   |false=>grind
   |true=>
    rw[hw,au]at J;grind[CV.ga]
  |_=>cases e
 |aG l ih=>
  refine⟨λcv x e=>?_,λvs x e=>(by trivial)⟩
  cases cv with
  |sy u y=>exact sy _ _
  |aG vs=>
   have J:CV.fK ch l vs=ab x:=e;grind[CV.ga]
  |_=>cases e
 |nl=>
  refine⟨λcv x e=>(by cases cv<;>first|(exact sy _ _)|cases e),λvs x e=>?_⟩
  cases vs with
  |nil=>simp[CV.fS]
  |cons _ _=>cases e
 |cn t l U Z=>
  refine⟨λcv x e=>(by cases cv<;>first|(exact sy _ _)|cases e),λvs x e=>?_⟩
  cases vs with
  |nil=>cases e
  |cons v vs=>
   have J:(match CV.dt ch t v,CV.fK ch l vs with
    |some x,ab y=>ab (x,y)
    |_,_=>ae)=ab x:=e
   split at J
   .rename_i y z h1 h2;intro b A;simp only[CV.fS,cB]at A;rcases A with A|A
    .exact U.1 v y h1 b A
    .exact Z.2 vs z h2 b A
   .cases J
end
section
variable [Gh]
variable {ρ:Type} {wb:Nat->Bool} {M:Mu} {ch:CH} {h:Heap} {k:KC ρ} {r:ρ} {E:Env}
mutual
theorem sL:∀v:V,VR M (ir v) v
 |.im d=>(Pv d).1
 |.full []=>by simp[ir,VR]
 |.full (_::_)=>by simp[ir,VR]
 |.agg w l=>by
  rw[ir]
  cases A:gK (vq l)&&(fx l).isNone with
  |false=>exact trivial
  |true=>
   rw[aM]at A
   rw[au]
   have he:V.agg w l=ff w l:=by
    unfold ff
    cases I:fx l with
    |none=>rfl
    |some ds=>rw[I]at A;cases A.2
   rw[he]
   exact VR.kH (Zs l) A.1
 |.fn f a c=>by
  cases a with
  |nil=>cases c with
   |nil=>simp[ir,VR,aS]
   |cons _ _=>simp[ir,VR]
  |cons _ _=>cases c<;>simp[ir,VR]
 |.undef|.aG _|.own _ _ _ _ _|.ptr _ _ _|.ifc _ _|.mp _|.gT _=>by simp[ir,VR]
theorem Zs:∀l:List V,aS M (vq l) l
 |[]=>by simp[vq,aS]
 |v::l=>by
  simp only[vq,aS]
  exact⟨v,l,rfl,sL v,Zs l⟩
end
theorem agl(v:Value):VR M (L8 v) (dB V.undef (λx=>x) (sM v)):=by
 unfold L8;cases sM v with
 |none=>trivial
 |some x=>exact sL x
theorem iW{tc:TC}{t:Tm}(A:bA M tc t)(o:Operand):VR M (vC tc o) (ev t o):=by
 cases o with
 |tmp n=>exact A.get n
 |const v=>exact agl v
 |func f=>exact⟨[],[],rfl,rfl,rfl⟩
 |global g=>trivial
theorem zY{tc:TC}{t:Tm}(A:bA M tc t)(l:Array Operand):aS M (oD tc l) (dm t l):=by
 unfold oD dm;induction l.toList with
 |nil=>rfl
 |cons o l ih=>exact⟨_,_,rfl,iW A o,ih⟩
theorem My{tc:TC}{t:Tm}(A:bA M tc t)(ps:Array (Nat×Operand)):∃l,mv (ev t) ps=l/\l.map eN=(ku (vC tc) ps).map eN/\aS M ((ku (vC tc) ps).map gF) (l.map gF):=by
 refine⟨_,rfl,?_⟩;unfold mv ku;induction ps.toList with
 |nil=>trivial
 |cons p l ih=>exact⟨congrArg _ ih.1,_,_,rfl,iW A p.2,ih.2⟩
theorem VR.yJ{p:List (Nat×Nat)}{v c:CV}{u:V}(h:VR M v u)(e:v.eQ p=ab c):∃x,u.eQ p=ab x/\VR M c x:=by
 cases p with
 |nil=>cases e;exact⟨u,rfl,h⟩
 |cons s p=>
  have A:=e
  obtain⟨y,h1,h2⟩:=ay.1 A;obtain⟨x,U,q2,I⟩:=h.dw h1;obtain⟨z,Z,J,_⟩:=VR.eQ q2 h2 I;refine⟨z,?_,J⟩;show(V.dw u s.1 s.2).bind (λv=>V.eQ v p)=ab z
  grind
theorem anB(I:HS M ch h){c a b:CV}{U J b':V}(Z:VR M c U)(f:VR M a J)(d:VR M b b')(e:PV c a b ch k=ab r):OS wb M ch h (kX h U J b') k r:=by
 unfold PV at e;split at e
 .rename_i t;simp[VR,Ty.enc]at Z;subst Z;have plain:(bif t then k a ch else k b ch)=ab r->OS wb M ch h (kX h (.im (.bool t)) J b') k r:=λe=>by
   cases t<;>first|exact OS.plain I d e|exact OS.plain I f e
  split at e
  .rename_i u x g y;cases A:Ty.cs g u y with
   |none=>simp_all
   |some j=>
    rw[A]at e;obtain⟨rfl,i,_⟩:=je A;cases t with
    |true=>grind
    |false=>
     refine OS.plain I ?_ e;simp_all[VR,d,ax,i]
  simp[plain,e]
 trivial
theorem aeX(U:HS M ch h){t:Nat}(e:E9 E t ch k=ab r):OS wb M ch h (wg E h.length h t) k r:=by
 obtain⟨ti,Z,e⟩:=ay.1 e;cases J:cq ti ti.zero&&not (ak t E.fy.1)with
 |false=>grind
 |true=>
  rw[J]at e;have e:k (.ptr (aA ch) []) (ch++[ab (.cell (ir ti.zero))])=ab r:=e;rw[bn]at e;obtain⟨A,I⟩:=U.Y0 (sL ti.zero);refine⟨.ptr h.length 0 [],_,.ptr ch.length [],_,⟨λi=>if i=ch.length then ab h.length else M.b i,M.o⟩,?_,(show∃c,(if ch.length=ch.length then ab h.length else M.b ch.length)=ab c/\V.ptr h.length 0 []=.ptr c 0 []from⟨h.length,aK rfl,rfl⟩),I,⟨A,by simp,by simp[bL],λb J _=>by rw[cT,az (by omega)],yK,vB⟩,e⟩
  unfold wg;grind
theorem HS.extra(A:HS M ch h)(x:bK):HS M ch (aD h h.length x):=by
 have I:∀c,c< h.length->aq (aD h h.length x) c=aq h c:=λc U=>by rw[bG _ _ _ _ (aJ _),az (by omega)]
 refine⟨λb cv e=>?_,λb n cl t l e=>?_,A.inj,A.new,λb c e=>?_,A.fQ,λb x e=>(A.xr b x e).step (.refl M) λc q=>I c (A.len b c q).2⟩
 .obtain ⟨c,v,h1,h2,h3⟩:=A.cell b cv e;exact⟨c,v,h1,by rw[I _ (A.len _ _ h1).2];omega,h3⟩
 .obtain ⟨u,h1,h2⟩:=A.arr b n cl t l e;exact⟨u,h1,h2.imp id λ⟨c,g,ro,J,q2,Z,q4⟩=>⟨c,g,ro,J,q2,by rw[I _ (A.len _ _ J).2];omega,q4⟩⟩
 .have:=A.len b c e;grind[bL]
theorem Fr.extra(wb:Nat->Bool)(M:Mu)(ch:CH)(h:Heap)(x:bK):Fr wb M ch h M ch (aD h h.length x):=
 ⟨.refl M,aJ _,by simp[bL],λ_ _ _=>rfl,jZ,vB⟩
theorem afE(a:HS M ch h){t:Nat}{x:CV}{I:V}(J:VR M x I)(e:AX E t x ch k=ab r):OS wb M ch h (mI E h.length h t I) k r:=by
 obtain⟨ti,d,e⟩:=ay.1 e;cases A:dG ti x with
 |false=>grind
 |true=>
  rw[A]at e;unfold mI;rw[d,ah,(iQ J A).1];split at e
  .rename_i m el f;cases x with
   |sy u y=>
    subst J;rw[f];exact⟨.im (.ref (u.enc y)),_,.rf u y,ch,M,rfl,by rfl,a.extra _,.extra ..,e⟩
   |_=>cases e
  .have e:k (.ptr (aA ch) []) (ch++[ab (.cell x)])=ab r:=e;rw[bn]at e;obtain⟨U,Z⟩:=a.Y0 J;have A:mI.uw h.length h ti.k I=ab (.ptr h.length 0 [],aD h h.length (.cell I)):=by
    unfold mI.uw;grind
   exact⟨.ptr h.length 0 [],_,.ptr ch.length [],_,⟨λi=>if i=ch.length then ab h.length else M.b i,M.o⟩,A,(show∃c,(if ch.length=ch.length then ab h.length else M.b ch.length)=ab c/\V.ptr h.length 0 []=.ptr c 0 []from⟨h.length,aK rfl,rfl⟩),Z,⟨U,by simp,by simp[bL],λb A _=>by rw[cT,az (by omega)],yK,vB⟩,e⟩
theorem RG(J:HS M ch h){b d:Nat}{p:List (Nat×Nat)}{u:Ty}{l:List u.den}{vs:List CV}{v:V}{w:CV}(U:aB ch b=ab (.cu u l vs))(Z:VR M (.tl b d p) v)(I:bp d (aA vs)=ag)(hw:bC vs (nH (aA vs) d)=ab w):
  ∃c g A i j z,v=.ptr c g ((i,i*u.wd)::p)/\M.b b=ab c/\aq h c=ab (.bN g u.wd ((l.map λx=>V.im (u.enc x))++A))/\aS M vs A/\((l.map λx=>V.im (u.enc x))++A)[i]? =ab z/\VR M w z/\(i=l.length+j/\nH (aA vs) d=j/\M.o b 0=ab (.own c g 0 (l.length+vs.length) af,u.wd)):=by
 obtain⟨c,g,i,s,m,h1,h2,rfl⟩:=Z;obtain⟨e,f,A,k1,k2,n,a⟩:=J.xr b _ U;rw[h1]at k2;have I:=gX I;rw[b8]at hw;obtain⟨z,q,t⟩:=a.get hw;have y:i=l.length+nH (aA vs) d:=by
  grind[nH,bn]
 grind
theorem Yl(I:HS M ch h){t:Nat}{a:CV}{L:V}(Z:VR M a L)(e:Ch E t a ch k=ab r):OS wb M ch h (iV E h t L) k r:=by
 unfold Ch at e;obtain⟨ti,Q,e⟩:=ay.1 e;unfold iV;rw[Q,ah];cases a with
 |ptr b p=>
  simp only[VR]at Z;obtain⟨c,S,rfl⟩:=Z;have e:(match aB ch b with|some (.cell v)=>(v.eQ p).bind λv=>bif dG ti v then k v ch else ae|_=>ae)=ab r:=e
  split at e
  .rename_i v f;obtain⟨N,K,h1,h2,h3⟩:=I.cell b v f;rw[S]at h1;cases h1;obtain⟨y,o,e⟩:=ay.1 e;obtain⟨z,F,A⟩:=h3.yJ o;cases J:dG ti y with
   |false=>grind
   |true=>
    rw[J,au]at e;have:(eJ h c 0 p).bind (λv=>bif cq ti v then ab (v,h)else ae)=(ab (z,h):R):=by
     unfold eJ;rw[h2];show((K.eQ p).bind _:R)=_;rw[F,ah,(iQ A J).1,au]
    show OS wb M ch h ((eJ h c 0 p).bind λv=>bif cq ti v then ab (v,h)else ae) k r
    rw[this];exact OS.plain I A e
  trivial
 |rf u x=>
  simp only[VR]at Z;subst Z;have e:(bif dG ti (.sy u x)then k (.sy u x) ch else ae)=ab r:=e;cases J:dG ti (.sy u x)with
  |false=>grind
  |true=>
   rw[J,au]at e;have B:VR M (.sy u x) (.im (u.enc x)):=rfl;show OS wb M ch h (bif cq ti (.im (u.enc x))then ab (.im (u.enc x),h)else ae) k r;rw[(iQ B J).1,au];exact OS.plain I B e
 |el b n i p=>
  simp only[VR]at Z;obtain⟨c,g,m,s,J,rfl⟩:=Z;have e:(match aB ch b with
   |some (.arr K _ u l)=>bif ak n K then(l[i]?).bind λx=>(CV.eQ (.sy u x) p).bind λy=>bif dG ti y then k y ch else ae else ae
   |some (.cu u l [])=>bif ak n 0 then(l[i]?).bind λx=>(CV.eQ (.sy u x) p).bind λy=>bif dG ti y then k y ch else ae else ae
   |_=>ae)=ab r:=e
  split at e
  .rename_i T cl u l f;cases G:ak n T with
   |false=>grind
   |true=>
    rw[G,au]at e;have:=bR G;subst this;obtain⟨u0,H,q2⟩:=I.arr b n cl u l f;rw[J]at H;cases H;rcases q2 with⟨q,_⟩|⟨N,W,ro,H,q2,X,_⟩
    .cases q
    .cases q2;obtain⟨x,Y,e⟩:=ay.1 e;obtain⟨y,o,e⟩:=ay.1 e;have B:VR M (.sy u x) (.im (u.enc x)):=rfl;obtain⟨z,F,A⟩:=B.yJ o;cases U:dG ti y with
     |false=>grind
     |true=>
      rw[U,au]at e;have:eJ h c g ((i,i*u.wd)::p)=ab z:=by
       unfold eJ;simp_all
      show OS wb M ch h ((eJ h c g ((i,i*u.wd)::p)).bind λv=>bif cq ti v then ab (v,h)else ae) k r
      rw[this,ah,(iQ A U).1,au];exact OS.plain I A e
  .rename_i u l f;replace e:=aQ e;obtain⟨G,D⟩:=e;have:=bR G;subst this;obtain⟨N,W,O,k1,k2,k3,P⟩:=I.xr b _ f;rw[k2]at J;cases J;simp only[aS]at P;subst P;obtain⟨x,Y,D⟩:=ay.1 D;obtain⟨y,o,D⟩:=ay.1 D;have B:VR M (.sy u x) (.im (u.enc x)):=rfl;obtain⟨z,F,A⟩:=B.yJ o;cases U:dG ti y with
   |false=>grind
   |true=>
    rw[U,au]at D;have:eJ h c g ((i,i*u.wd)::p)=ab z:=by
     unfold eJ;simp_all
    show OS wb M ch h ((eJ h c g ((i,i*u.wd)::p)).bind λv=>bif cq ti v then ab (v,h)else ae) k r
    rw[this,ah,(iQ A U).1,au];exact OS.plain I A D
  trivial
 |tl b d p=>
  have e:(match aB ch b with
   |some (.cu _ _ vs)=>bif bp d (aA vs)then(bC vs (nH (aA vs) d)).bind λw=>(w.eQ p).bind λy=>bif dG ti y then k y ch else ae else ae
   |_=>ae)=ab r:=e
  split at e
  .rename_i u l vs f;obtain⟨hd,e⟩:=aQ e;obtain⟨w,hw,e⟩:=ay.1 e;obtain⟨y,o,e⟩:=ay.1 e;obtain⟨c,g,O,i,j,z,rfl,H,q2,X,q4,q5,q6⟩:=RG I f Z hd hw;obtain⟨z',F,A⟩:=q5.yJ o;cases U:dG ti y with
   |false=>rw[U,ax]at e;cases e
   |true=>
    rw[U,au]at e;have:eJ h c g ((i,i*u.wd)::p)=ab z':=by
     unfold eJ;rw[q2];show(bif ak g g&&ak (i*u.wd) (i*u.wd)then(bC ((l.map λx=>V.im (u.enc x))++O) i).bind λd=>d.eQ p else ae)=_
     rw[iZ,iZ,b8,q4];exact F
    show OS wb M ch h ((eJ h c g ((i,i*u.wd)::p)).bind λv=>bif cq ti v then ab (v,h)else ae) k r
    rw[this,ah,(iQ A U).1,au];exact OS.plain I A e
  .cases e
 |_=>cases e
theorem HS.P2(A:HS M ch h){b c:Nat}{j cv:CV}{v:V}(f:aB ch b=ab (.cell j))(g:M.b b=ab c)(z:VR M cv v):HS M (cG ch b (.cell cv)) (aD h c (.cell v)):=by
 have Z:=eY f;have I:=(A.len _ _ g).2;have U:∀i,aB (cG ch b (.cell cv)) i=if i=b then ab (.cell cv)else aB ch i:=λi=>fN ch _ b i Z
 have B:∀y,aq (aD h c (.cell v)) y=if y=c then ab (.cell v)else aq h y:=λy=>bG _ _ _ _ (cX I)
 have D:∀b' x,aB ch b'=ab x->b'≠b->M.b b'≠ab c:=λb' x e a q=>a (A.inj b' b c (by simp[e]) (by simp[f]) q g)
 refine⟨λb' w e=>?_,λb' n cl t l e=>?_,λm o J p s d q2=>?_,λb' n cl t l e=>?_,λb' J e=>?_,λb' n x e=>?_,λb' y e=>?_⟩
 .rw [U]at e;split at e
  .grind
  .obtain ⟨J,F,d,q2,G⟩:=A.cell b' w e;grind
 .rw [U]at e;split at e
  .cases e
  .obtain ⟨u,d,q2⟩:=A.arr b' n cl t l e;grind
 .refine A.inj m o J (λq=>p ?_) (λq=>s ?_) d q2
  all_goals grind
 .rw [U]at e;split at e
  .cases e
  .exact A.new b' n cl t l e
 .rw [eI,bL,aK I];exact A.len b' J e
 .rw [eI];exact A.fQ b' n x e
 .rw [U]at e;split at e
  .cases e;trivial
  .exact (A.xr b' y e).step (.refl M) λJ q=>by grind
theorem HS.anJ(A:HS M ch h){b n:Nat}{c:Bool}{t:Ty}{l I:List t.den}(d:aB ch b=ab (.arr n c t l))(B:I.length=l.length){x g ro:Nat}(v:M.b b=ab x)(L:M.o b n=ab (.own x g 0 l.length af,t.wd))
  (D:c=af->ro=0) (z:ro<=l.length):HS M (cG ch b (.arr n c t I)) (aD h x (.arr g t.wd ro (I.map t.enc))):=by
 have f:=eY d;have J:=(A.len _ _ v).2;have a:∀i,aB (cG ch b (.arr n c t I)) i=if i=b then ab (.arr n c t I)else aB ch i:=λi=>fN ch _ b i f
 have N:∀y,aq (aD h x (.arr g t.wd ro (I.map t.enc))) y=if y=x then ab (.arr g t.wd ro (I.map t.enc))else aq h y:=λy=>bG _ _ _ _ (cX J)
 have O:∀b' y,aB ch b'=ab y->b'≠b->M.b b'≠ab x:=λb' y e j q=>j (A.inj b' b x (by simp[e]) (by simp[d]) q v)
 refine⟨λb' w e=>?_,λb' U cl m p e=>?_,λF G Z H K s q2=>?_,λb' U cl m p e=>?_,λb' Z e=>?_,λb' U x e=>?_,λb' y e=>?_⟩
 .rw [a]at e;split at e
  .cases e
  .obtain ⟨Z,P,s,q2,Q⟩:=A.cell b' w e;grind
 .rw [a]at e;split at e
  .grind
  .obtain ⟨u,s,q2⟩:=A.arr b' U cl m p e;grind
 .refine A.inj F G Z (λq=>H ?_) (λq=>K ?_) s q2
  all_goals grind
 .rw [a]at e;split at e
  .rename_i he;cases e;subst he;exact A.new _ _ _ _ _ d
  .exact A.new b' U cl m p e
 .rw [eI,bL,aK J];exact A.len b' Z e
 .rw [eI];exact A.fQ b' U x e
 .rw [a]at e;split at e
  .cases e;trivial
  .exact (A.xr b' y e).step (.refl M) λZ q=>by grind
theorem U1(t:Ty):(∀(cv:CV) (x:t.den) (u:V),CV.dt [] t cv=ab x->VR M cv u->u.cm (gM h)=ab (t.enc x)/\u.eB=[])/\
  (∀(vs:List CV) (x:t.den) (A:List V),CV.fK [] t vs=ab x->aS M vs A->V.cP (gM h) A=ab (t.cL x)/\V.de A=[]):=by
 have sy:∀(t u:Ty) (y:u.den) (x:t.den) (v:V),Ty.cs u t y=ab x->VR M (.sy u y) v->v.cm (gM h)=ab (t.enc x)/\v.eB=[]:=λt u y x v e r=>by
  obtain⟨rfl,he,_⟩:=je e;simp_all[VR,he,V.cm,V.eB]
 induction t with
 |bool=>exact⟨λcv x v e r=>(by cases cv<;>first|(exact sy _ _ _ _ _ e r)|cases e),λvs x A e r=>(by trivial)⟩
 |err=>exact⟨λcv x v e r=>(by cases cv<;>first|(exact sy _ _ _ _ _ e r)|cases e),λvs x A e r=>(by trivial)⟩
 |iO=>
  refine⟨λcv x v e r=>?_,λvs x A e r=>(by trivial)⟩
  cases cv with
  |sy u y=>exact sy _ _ _ _ _ e r
  |fn f a c=>
   obtain⟨rfl,rfl,rfl,rfl⟩:=MO (M:=M) e r;trivial
  |_=>cases e
 |int k=>exact⟨λcv x v e r=>(by cases cv<;>first|(exact sy _ _ _ _ _ e r)|cases e),λvs x A e r=>(by trivial)⟩
 |str=>exact⟨λcv x v e r=>(by cases cv<;>first|(exact sy _ _ _ _ _ e r)|cases e),λvs x A e r=>(by trivial)⟩
 |ar t _=>
  refine⟨λcv x v e r=>?_,λvs x A e r=>(by trivial)⟩
  cases cv with
  |sy u y=>exact sy _ _ _ _ _ e r
  |fA=>
   have e:(ab []:Option (List t.den))=ab x:=e;grind[VR,V.cm,Ty.enc,V.eB]
  |own b n=>cases e
  |fm u l=>
   obtain⟨Z,he,_⟩:=je e;simp_all[VR,he,V.cm,Ty.enc,V.eB]
  |_=>cases e
 |st w l ih=>
  refine⟨λcv x v e r=>?_,λvs x A e r=>(by trivial)⟩
  cases cv with
  |sy u y=>exact sy _ _ _ _ _ e r
  |agg w' vs=>
   have I:(bif ak w w' then CV.fK [] l vs else ae)=ab x:=e;cases hw:ak w w' with
   |false=>grind
   |true=>
    rw[hw,au]at I;have:=bR hw;subst this;simp only[VR]at r;obtain⟨A,rfl,r,_⟩:=r;rw[Ux,(ih.2 vs x A I r).1,<-vE,(Ia A).1];exact⟨by rfl,(ih.2 vs x A I r).2⟩
  |_=>cases e
 |aG l ih=>
  refine⟨λcv x v e r=>?_,λvs x A e r=>(by trivial)⟩
  cases cv with
  |sy u y=>exact sy _ _ _ _ _ e r
  |aG vs=>
   have I:CV.fK [] l vs=ab x:=e;simp only[VR]at r;obtain⟨A,rfl,r⟩:=r;rw[Uy,(ih.2 vs x A I r).1,<-vE,(Ia A).2];exact⟨by rfl,(ih.2 vs x A I r).2⟩
  |_=>cases e
 |nl=>
  refine⟨λcv x v e r=>(by cases cv<;>first|(exact sy _ _ _ _ _ e r)|cases e),λvs x A e r=>?_⟩
  cases vs with
  |nil=>
   grind[aS,V.cP,Ty.cL,V.de]
  |cons _ _=>cases e
 |cn t l J U=>
  refine⟨λcv x v e r=>(by cases cv<;>first|(exact sy _ _ _ _ _ e r)|cases e),λvs x A e r=>?_⟩
  cases vs with
  |nil=>cases e
  |cons v vs=>
   have I:(match CV.dt [] t v,CV.fK [] l vs with
    |some x,ab y=>ab (x,y)
    |_,_=>ae)=ab x:=e
   split at I
   .rename_i y z h1 h2;cases I;simp only[aS]at r;obtain⟨u,d,rfl,g,q2⟩:=r;simp[V.cP,V.de,J.1 v y u h1 g,U.2 vs z d h2 q2,Ty.cL]
   trivial
theorem anO{t:Ty}{x:CV}{A:V}{p:List (Nat×Nat)}{y z:t.den}(I:VR M x A)(c:fO x=af)(e:Is t x p y=ab z):
  ∃J,A.data h=ab J/\A.owns=[]/\V.put (.im J) p (.im (t.enc y))=ab (.im (t.enc z)):=by
 cases p with
 |nil=>
  have e:(bif ak x.wd t.wd then CV.dt [] t x else ae)=ab z:=e;cases U:ak x.wd t.wd with
  |false=>grind
  |true=>
   rw[U]at e;obtain⟨h1,h2⟩:=(U1 (M:=M) (h:=h) t).1 x z A e I;refine⟨t.enc z,by simp[Bg,h1],by simp[vE,h2],?_⟩
   show(bif ak (t.enc z).wd (t.enc y).wd then ab (V.im (t.enc z))else ae)=_;simp[m9,iZ,au]
 |cons q p=>
  unfold Is at e;split at e
  .trivial
  .rename_i d f Z;cases Z;split at e
   .rename_i u w;split at e
    .rename_i g i hp;subst I;have a:VR M (.sy t y) (.im (t.enc y)):=rfl;obtain⟨v,h1,h2,_⟩:=VR.put (show VR M (.sy u w) (.im (u.enc w))from rfl) rfl a hp;obtain⟨rfl,b,_⟩:=je e;exact⟨_,rfl,rfl,by rw[h1,h2,b]⟩
    trivial
   trivial
theorem HS.P8(A:HS M ch h){b c g:Nat}{u:Ty}{l l':List u.den}{vs vs':List CV}(m:aB ch b=ab (.cu u l vs))(Z:M.b b=ab c)(p:l'.length+vs'.length=l.length+vs.length)(s:M.o b 0=ab (.own c g 0 (l.length+vs.length) af,u.wd)){us':List V}(v:aS M vs' us'):
  HS M (cG ch b (.cu u l' vs')) (aD h c (.bN g u.wd ((l'.map λx=>V.im (u.enc x))++us'))):=by
 have a:=eY m;have J:=(A.len _ _ Z).2;have I:∀i,aB (cG ch b (.cu u l' vs')) i=if i=b then ab (.cu u l' vs')else aB ch i:=λi=>fN _ _ _ _ a
 have d:∀y,y≠c->aq (aD h c (.bN g u.wd ((l'.map λx=>V.im (u.enc x))++us'))) y=aq h y:=λy z=>by rw[bG _ _ _ _ (cX J),az z]
 have H:∀b' y,aB ch b'=ab y->b'≠b->M.b b'≠ab c:=λb' y e f q=>f (A.inj b' b c (by simp[e]) (by simp[m]) q Z)
 refine⟨λb' w e=>?_,λb' n cl t l e=>?_,λB D U F G j q2=>?_,λb' n cl t l e=>?_,λb' U e=>?_,λb' n x e=>?_,λb' y e=>?_⟩
 .rw [I]at e;split at e
  .cases e
  .obtain ⟨U,K,j,q2,L⟩:=A.cell b' w e;grind
 .rw [I]at e;split at e
  .cases e
  .obtain ⟨u,j,q2⟩:=A.arr b' n cl t l e;grind
 .refine A.inj B D U (λq=>F ?_) (λq=>G ?_) j q2
  all_goals grind
 .rw [I]at e;split at e
  .cases e
  .exact A.new b' n cl t l e
 .rw [eI,bL,aK J];exact A.len b' U e
 .rw [eI];exact A.fQ b' n x e
 .rw [I]at e;split at e
  .rename_i he;subst he;cases e;exact⟨c,g,us',Z,by simp[p,s],by rw[bG _ _ _ _ (cX J),aK rfl],v⟩
  .exact (A.xr b' y e).step (.refl M) λU q=>d U (by grind)
theorem ap3(Z:HS M ch h){t:Nat}{a x:CV}{X A:V}(D:VR M a X)(G:VR M x A)(e:Rt E wb t a x ch k=ab r):OS wb M ch h (oz E h t X A) k r:=by
 unfold Rt at e;obtain⟨ti,ht,e⟩:=ay.1 e;unfold oz;rw[ht,ah];cases Y:dG ti x with
 |false=>grind
 |true=>
 rw[Y,au]at e;obtain⟨f,o⟩:=iQ G Y;cases a with
 |ptr b p=>
  simp only[VR]at D;obtain⟨c,H,rfl⟩:=D;have e:(bif wb b then(match aB ch b with
   |some (.cell v)=>(x.put p v).bind λI=>k .undef (cG ch b (.cell I))
   |_=>ae)else ae)=ab r:=e
  cases hw:wb b with
  |false=>grind
  |true=>
   rw[hw,au]at e;split at e
   .rename_i v J;obtain⟨c',I,h1,h2,h3⟩:=Z.cell b v J;rw[H]at h1;cases h1;obtain⟨y,L,e⟩:=ay.1 e;obtain⟨z,N,O,_⟩:=VR.put G o h3 L;show OS wb M ch h (bif cq ti A then(jJ h c 0 p A).map λh'=>(.undef,h')else ae) k r
    rw[f,au];have:jJ h c 0 p A=ab (aD h c (.cell z)):=by
     simp[jJ,h2,N]
    rw[this];exact⟨.undef,_,.undef,_,M,rfl,trivial,Z.P2 J H O,⟨.refl M,by simp[eI,aJ],by grind[bL],λi _ hi=>by
     rw[fN _ _ _ _ (eY J),az (by grind)],jZ,vD H (Z.len _ _ H).2⟩,e⟩
   trivial
 |el b n i p=>
  simp only[VR]at D;obtain⟨c,g,m,s,F,rfl⟩:=D;have e:(bif wb b then(match aB ch b with
   |some (.arr I af u l)=>bif ak n I then(l[i]?).bind λy=>(Is u x p y).bind λK=>k .undef (cG ch b (.arr I af u (l.set i K)))else ae
   |_=>ae)else ae)=ab r:=e
  cases hw:wb b with
  |false=>grind
  |true=>
   rw[hw,au]at e;split at e
   .rename_i n' u l J;cases hn:ak n n' with
    |false=>grind
    |true=>
     rw[hn,au]at e;have:=bR hn;subst this;obtain⟨u0,U,q2⟩:=Z.arr b n af u l J;rw[F]at U;cases U;rcases q2 with⟨q,_⟩|⟨c',g',ro,U,q2,P,q4,q5⟩
     .cases q
     .cases q2;have:=q4 rfl;subst this;obtain⟨y,L,e⟩:=ay.1 e;obtain⟨K,Q,e⟩:=ay.1 e;obtain⟨R,r1,r2,r3⟩:=anO (h:=h) G o Q;show OS wb M ch h (bif cq ti A then(jJ h c g ((i,i*u.wd)::p) A).map λh'=>(.undef,h')else ae) k r
      rw[f,au];have:jJ h c g ((i,i*u.wd)::p) A=ab (aD h c (.arr g u.wd 0 ((l.set i K).map u.enc))):=by
       unfold jJ;rw[P];show(bif ak g g&&(ak (i*u.wd) (i*u.wd)&&bp 0 i)then(bC (l.map u.enc) i).bind λd=>(A.data h).bind λR=>(V.put (.im R) p (.im d)).bind λI=>(match I with
        |.im d'=>bif Go.As.fi h A.owns&&not (aY A.owns c)then ab (aD (Go.As.close h A.owns) c (.arr g u.wd 0 (bB (l.map u.enc) i d')))else ae
        |_=>ae:Option Heap)else ae)=_
       rw[iZ,iZ,b8,nS,L,kl (bX i)];show((A.data h).bind λR=>_:Option Heap)=_
       rw[r1,ah,r3,ah,r2];show ab (aD h c (.arr g u.wd 0 (bB (l.map u.enc) i (u.enc K))))=_;simp
      rw[this];exact⟨.undef,_,.undef,_,M,rfl,trivial,Z.anJ J (by simp) U F (λ_=>rfl) (bX _),⟨.refl M,by simp[eI,aJ],by grind[bL],λj _ hi=>by
       rw[fN _ _ _ _ (eY J),az (by grind)],jZ,vD U (Z.len _ _ U).2⟩,e⟩
   trivial
 |tl b d p=>
  have e:(bif wb b then(match aB ch b with
   |some (.cu u l vs)=>bif bp d (aA vs)then(bC vs (nH (aA vs) d)).bind λw=>(x.put p w).bind λw'=>k .undef (cG ch b (.cu u l (bB vs (nH (aA vs) d) w')))else ae
   |_=>ae)else ae)=ab r:=e
  obtain⟨hw,e⟩:=aQ e;split at e
  .rename_i u l vs J;obtain⟨hd,e⟩:=aQ e;obtain⟨w,S,e⟩:=ay.1 e;obtain⟨w',T,e⟩:=ay.1 e;obtain⟨c,g,B,i,j,z,rfl,U,q2,P,q4,q5,q6,q7,q8⟩:=RG Z J D hd S;obtain⟨W,N,O,_⟩:=VR.put G o q5 T;show OS wb M ch h (bif cq ti A then(jJ h c g ((i,i*u.wd)::p) A).map λh'=>(.undef,h')else ae) k r
   rw[f,au];have:jJ h c g ((i,i*u.wd)::p) A=ab (aD h c (.bN g u.wd ((l.map λx=>V.im (u.enc x))++B.set j W))):=by
    unfold jJ;rw[q2];show(bif ak g g&&ak (i*u.wd) (i*u.wd)then(bC ((l.map λx=>V.im (u.enc x))++B) i).bind λv=>(V.put A p v).map λI=>aD h c (.bN g u.wd (bB ((l.map λx=>V.im (u.enc x))++B) i I))else ae)=_
    rw[iZ,iZ,b8,q4];show((V.put A p z).map λI=>aD h c (.bN g u.wd (bB ((l.map λx=>V.im (u.enc x))++B) i I)))=_
    rw[N];show ab (aD h c (.bN g u.wd (bB ((l.map λx=>V.im (u.enc x))++B) i W)))=_
    rw[dR,q6,List.set_append_right _ _ (by simp)]
    simp
   rw[this];rw[q7]at e;refine⟨.undef,_,.undef,_,M,rfl,trivial,Z.P8 J U (by rw[dR,hV]) q8 (us':=B.set j W) ?_,⟨.refl M,by rw[eI];exact aJ _,by rw[bL];split<;>omega,λi _ hi=>by
     rw[fN _ _ _ _ (eY J),az (by intro q;subst q;rw[hw]at hi;cases hi)],jZ,vD U (Z.len _ _ U).2⟩,e⟩
   .rw [dR];exact P.set j O
  trivial
 |_=>cases e
end
section
variable [Gh]
variable {ρ:Type} {wb:Nat->Bool} {M:Mu} {ch:CH} {h:Heap} {k:KC ρ} {r:ρ} {E:Env}
theorem amI(J:HS M ch h){x:CV}{U:V}(I:VR M x U)(e:Y8 x ch k=ab r):OS wb M ch h (zK h U) k r:=by
 cases x<;>first|rename_i b d p;have A:=I;simp only[VR]at I;obtain⟨_,_,_,_,_,_,_,rfl⟩:=I;exact OS.plain J A e|rename_i b n i p;have A:=I;simp only[VR]at I;obtain⟨c,g,m,s,Z,rfl⟩:=I;exact OS.plain J A e|rename_i b p;have A:=I;simp only[VR]at I;obtain⟨c,Z,rfl⟩:=I;exact OS.plain J A e|rename_i t y;have A:=I;simp only[VR]at I;subst I;exact OS.plain J A e|cases e
theorem Lv{op:BinOp}{j:IntKind}{a b:Int}(e:Fe op j a b ch k=ab r):∃v cv,intArith op j a b=ab v/\VR M cv v/\k cv ch=ab r:=by
 have hi:∀n,kI j ch k n=ab r->∃v cv,im j n=ab v/\VR M cv v/\k cv ch=ab r:=λn e=>⟨_,.sy (.int j) n,rfl,by rfl,e⟩
 have A:∀b,kB ch k b=ab r->∃v cv,bm b=ab v/\VR M cv v/\k cv ch=ab r:=λb e=>⟨_,.sy .bool b,rfl,by rfl,e⟩
 cases op with
 |quo=>
  have e:(bif ai b 0 then ae else kI j ch k (wr j (a.tdiv b)))=ab r:=e;show∃v cv,(bif ai b 0 then ae else im j (wr j (a.tdiv b)))=ab v/\_;grind
 |rem=>
  have e:(bif ai b 0 then ae else kI j ch k (a.tmod b))=ab r:=e;show∃v cv,(bif ai b 0 then ae else im j (a.tmod b))=ab v/\_;grind
 |shl=>
  have e:(bif ao b 0 then ae else kI j ch k (wr j (a*aC (2^mh b.toNat (kb j)))))=ab r:=e;show∃v cv,(bif ao b 0 then ae else im j (wr j (a*aC (2^mh b.toNat (kb j)))))=ab v/\_;grind
 |shr=>
  have e:(bif ao b 0 then ae else kI j ch k (a.fdiv (aC (2^mh b.toNat (kb j)))))=ab r:=e;show∃v cv,(bif ao b 0 then ae else im j (a.fdiv (aC (2^mh b.toNat (kb j)))))=ab v/\_;grind
 |eql|neq|lss|leq|gtr|geq=>exact A _ e
 |_=>exact hi _ e
theorem aha:∀(l:Ty) (x y:l.den),(l.cL x).length=(l.cL y).length
 |.cn t l,x,y=>by simp[Ty.cL,aha l x.2 y.2]
 |.bool,_,_|.int _,_,_|.str,_,_|.ar _,_,_|.st _ _,_,_|.aG _,_,_|.nl,_,_|.iO,_,_|.err,_,_=>by rfl
theorem Zy{ti:TI}{u:Ty}(hw:ak u.wd ti.size=ag)(x:u.den)(A:vu ti.k (.sy u x)=ag):cq ti (.im (u.enc x))=ag:=
 (iQ (M:=⟨λ_=>ae,λ_ _=>ae⟩) (v:=.sy u x) rfl (by unfold dG;rw[aM];trivial)).1
theorem Mw:∀(n t:Nat) (u:Ty),gi E n t u=ag->lB u=ag->mq E n t=ag/\∀a b:u.den,dW E n t (u.enc a) (u.enc b)=ab (cS u a b)
 |0,_,_,h,_=>by cases h
 |n+1,t,u,h,y=>by
  unfold gi at h;split at h
  .cases h
  rename_i ti I;rw[aM]at h;obtain⟨hw,h⟩:=h;have step:∀a b:u.den,(∀x:u.den,vu ti.k (.sy u x)=ag)->dW E (n+1) t (u.enc a) (u.enc b)=(match ti.k,u.enc a,u.enc b with
   |.bool,.bool a,.bool b=>ab (a==b)
   |.int _,.int k a,.int z b=>bif fP k z then ab (ai a b)else ae
   |.str,.str a,.str b=>ab (seq a b)
   |.st fs,.agg _ xs,.agg _ g=>dW.qw fs 0 xs g (dW E n)
   |.arr m e,.agg _ xs,.agg _ g=>(E.ty e).bind λ_=>bif ak (aA xs) m&&ak (aA g) m then dW.sc xs g (dW E n e)else ae
   |_,_,_=>ae):=λa b A=>by
   show((E.ty t).bind λti=>_:Option Bool)=_
   rw[I,ah,Zy hw a (A a),Zy hw b (A b)];rfl
  split at h
  .rename_i A;refine⟨by simp[mq,I,A],λa b=>?_⟩
   rw[step a b (λx=>by rw[A];rfl),A]
   rfl
  .rename_i k z A;have:=Ol h;subst this;refine⟨by simp[mq,I,A],λa b=>?_⟩
   rw[step a b (λx=>by rw[A];rfl),A]
   simp only[Ty.enc,cS];have:fP k k=ag:=by cases k<;>rfl
   grind
  .rename_i A;refine⟨by simp[mq,I,A],λa b=>?_⟩
   rw[step a b (λx=>by rw[A];rfl),A]
   rfl
  .trivial
  .rename_i fs w l A;have U:lB l=ag:=y;have Z:∀(fs:List (Nat×Nat×Nat)) (l:Ty) (o:Nat),rV (λt u=>gi E n t u) w fs l o=ag->lB l=ag->(fs.all λf=>mq E n f.2.2)=ag/\∀a b:l.den,dW.qw fs o (l.cL a) (l.cL b) (dW E n)=ab (cS l a b):=by
    intro fs;induction fs with
    |nil=>
     intro l o h1 h2;cases l with
     |nl=>exact⟨rfl,λa b=>by rfl⟩
     |_=>cases h1
    |cons f fs i=>
     intro l o h1 h2;cases l with
     |cn v l=>
      simp only[rV,aM]at h1;obtain⟨j,B,p,q⟩:=h1;have h2:(lB v&&lB l)=ag:=h2;rw[aM]at h2;obtain⟨J,q2⟩:=Mw n f.2.2 v p h2.1;obtain⟨d,q4⟩:=i l (o+v.wd) q h2.2;refine⟨by simp only[wY,J,d,Kt],λa b=>?_⟩
      obtain⟨f0,f1,f2⟩:=f;simp only[Ty.cL];show(bif ak f0 o then(match dW E n f2 (v.enc a.1) (v.enc b.1),dW.qw fs (o+(v.enc a.1).wd) (l.cL a.2) (l.cL b.2) (dW E n)with
       |some b,ab c=>ab (b&&c)
       |_,_=>ae)else ae)=_
      have j:ak f0 o=ag:=j;rw[j,au,q2,m9,q4];rfl
     |_=>cases h1
   obtain⟨J,q2⟩:=Z fs l 0 h U;refine⟨by simp only[mq,I,A];exact J,λa b=>?_⟩
   rw[step a b (λx=>by rw[A];rfl),A]
   simp only[Ty.enc];exact q2 a b
  .rename_i m e w l A;rw[aM]at h;obtain⟨hm,h⟩:=h;split at h;case h_2=>cases h
   rename_i te hte;have U:lB l=ag:=y;have Z:∀(m:Nat) (l:Ty) (o:Nat),rU (λu=>gi E n e u) te.size w m l o=ag->lB l=ag->(∀a:l.den,(l.cL a).length=m)/\(0< m->mq E n e=ag)/\∀a b:l.den,dW.sc (l.cL a) (l.cL b) (dW E n e)=ab (cS l a b):=by
    intro m;induction m with
    |zero=>
     intro l o h1 h2;cases l with
     |nl=>exact⟨λa=>by simp[Ty.cL],λh=>absurd h (gE 0),λa b=>by simp[Ty.cL,dW.sc,cS]⟩
     |_=>cases h1
    |succ m s=>
     intro l o h1 h2;cases l with
     |cn v l=>
      simp only[rU,aM]at h1;obtain⟨B,p,q⟩:=h1;have h2:(lB v&&lB l)=ag:=h2;rw[aM]at h2;obtain⟨J,q2⟩:=Mw n e v p h2.1;obtain⟨d,_,q4⟩:=s l (o+te.size) q h2.2;refine⟨λa=>by simp[Ty.cL,d],λ_=>J,λa b=>?_⟩
      simp only[Ty.cL];show(match dW E n e (v.enc a.1) (v.enc b.1),dW.sc (l.cL a.2) (l.cL b.2) (dW E n e)with
       |some b,ab c=>ab (b&&c)
       |_,_=>ae)=_
      rw[q2,q4];rfl
     |_=>cases h1
   obtain⟨J,q2,d⟩:=Z m l 0 h U;refine⟨by simp only[mq,I,A];exact q2 (gX hm),λa b=>?_⟩
   rw[step a b (λx=>by rw[A];rfl),A]
   simp only[Ty.enc];rw[hte,ah,bn,bn,J,J,iZ,Kt,au];exact d a b
  trivial
theorem W0(u:Ty)(a:u.den)(J:lB u=ag)(A:u≠.nl)(I:∀x y,u≠.cn x y):qI (.im (u.enc a))=af:=by
 cases u<;>first|(cases J;done)|(exact absurd rfl A)|(exact absurd rfl (I _ _))|rfl|rfl
theorem ahc(I:HS M ch h){op:BinOp}{t:Nat}{lit:Bool}{a b:List (Nat×Int)}(e:Vd E op t lit a b ch k=ab r):OS wb M ch h (jq h (jA E op t lit (.im (ib a)) (.im (ib b)))) k r:=by
 cases b with
 |cons _ _=>cases e
 |nil=>
  obtain⟨ti,U,e⟩:=ay.1 e;split at e
  .rename_i m A;cases hm:not m||lit with
   |false=>grind
   |true=>
    rw[hm]at e;have Z:ab6 ti.k lit=ag:=by
     rw[A];cases m<;>first|exact hm|rfl
    have J:o0 E t lit (.im (ib a)) (.im (ib []))=ab (cC a):=by
     unfold o0;have:(qI (.im (ib a))||qI (.im (ib [])))=ag:=by cases a<;>rfl
     have h1:pg ti.k (.im (ib a))=ab (cC a):=by
      rw[A];cases a<;>rfl
     have h2:pg ti.k (.im (ib []))=ab ag:=by
      rw[A];rfl
     grind
    have c:jA E op t lit (.im (ib a)) (.im (ib []))=n5 E op t lit (.im (ib a)) (.im (ib [])):=by cases a<;>rfl
    rw[c];split at e
    .exact (show jq h (n5 E .eql t lit (.im (ib a)) (.im (ib [])))=ab (.im (.bool (cC a)),h) by unfold n5;rw[J];rfl)▸OS.plain (cv:=.sy .bool (cC a)) I rfl e
    .exact (show jq h (n5 E .neq t lit (.im (ib a)) (.im (ib [])))=ab (.im (.bool (not (cC a))),h) by unfold n5;rw[J];rfl)▸OS.plain (cv:=.sy .bool (not (cC a))) I rfl e
    trivial
  trivial
theorem aiQ(A:HS M ch h){t:Nat}{x:CV}{I:V}(J:VR M x I)(e:N4 E t x ch k=ab r):OS wb M ch h (zG E h t I) k r:=by
 unfold N4 at e;unfold zG;split at e
 .cases e
 .rename_i U d Z;rw[Z];split at e
  .replace e:=ay.1 e;obtain⟨y,a,e⟩:=e;obtain⟨rfl,he,_⟩:=je a;subst J;cases U with
   |ifc m=>grind
   |_=>
    refine OS.plain (cv:=.sy .err ((t,y.1)::y.2.1)) A ?_ e;simp_all[VR,he,Ty.enc,Ty.cL,ib]
  .rename_i b p;obtain⟨c,f,rfl⟩:=J;cases U with
   |ifc m=>grind
   |_=>exact OS.plain (cv:=.ifc t (.ptr b p)) A (by simp[VR];grind) e
  trivial
 trivial
theorem aft(s:HS M ch h){op:BinOp}{t:Nat}{lit:Bool}{x y:CV}{g i:V}(l:VR M x g)(m:VR M y i)(e:LI E op t lit x y ch k=ab r):OS wb M ch h (jq h (jA E op t lit g i)) k r:=by
 have J:∀{v cv},jA E op t lit g i=ab v->VR M cv v->k cv ch=ab r->OS wb M ch h (jq h (jA E op t lit g i)) k r:=λh1 h2 h3=>by
  rw[h1];exact OS.plain s h2 h3
 unfold LI at e;split at e
 .simp_all[VR,Ty.enc,ahc,s,e]
 .rename_i j a n b;simp only[VR,Ty.enc]at l m;subst l;subst m;have step:∀o,(∃v cv,intArith o j a b=ab v/\VR M cv v/\k cv ch=ab r)->(jA E op t lit (.im (.int j a)) (.im (.int n b))=intArith o j a b)->OS wb M ch h (jq h (jA E op t lit (.im (.int j a)) (.im (.int n b)))) k r:=λo ⟨v,cv,h1,h2,h3⟩ he=>J (he.trans h1) h2 h3
  split at e
  .exact step .shl (Lv e) rfl
  .exact step .shr (Lv e) rfl
  .rename_i w D;cases F:fP j n with
   |false=>grind
   |true=>
    rw[F,au]at e;refine step op (Lv e) ?_;show B0 op j a n b=_;unfold B0;grind
 .rename_i u a A b _ G;simp only[VR]at l m;subst l;subst m;cases I:RN E u t with
  |false=>grind
  |true=>
   rw[I,au]at e;simp only[RN,aM]at I;obtain⟨H,K,e⟩:=ay.1 e;obtain⟨rfl,he,_⟩:=je K;obtain⟨L,q2⟩:=Mw 12 t A I.1 I.2;have key:∀c:Bool,kB ch k c=ab r->jA E op t lit (.im (A.enc a)) (.im (A.enc b))=ab (.im (.bool c))->OS wb M ch h (jq h (jA E op t lit (.im (A.enc a)) (.im (A.enc b)))) k r:=λc h1 h2=>J (cv:=.sy .bool c) h2 rfl h1
   have U:A≠.nl:=by
    rintro rfl;have:=I.1;unfold gi at this;grind
   have Z:∀x y,A≠.cn x y:=by
    rintro x y rfl;have:=I.1;unfold gi at this;grind
   have p:A≠.str->(∀j,A≠.int j)->jA E op t lit (.im (A.enc a)) (.im (A.enc b))=n5 E op t lit (.im (A.enc a)) (.im (A.enc b))/\o0 E t lit (.im (A.enc a)) (.im (A.enc b))=ab (cS A a H):=λw D=>by
    refine⟨?_,?_⟩
    .cases A<;>first|rfl|(cases I.2;done)|(exact absurd rfl w)|grind|simp[jA,Ty.enc]
    .unfold o0;rw[W0 A a I.2 U Z,W0 A b I.2 U Z,acF,ax];grind
   by_cases d:A=.str
   .subst d;simp only[Ty.enc]at he;cases he;split at e
    .exact key _ e (by rfl)
    .exact key _ e (by rfl)
    trivial
   .by_cases f:∃j,A=.int j
    .obtain ⟨j,rfl⟩:=f;grind
    .obtain ⟨z,B⟩:=p d (λj q=>f ⟨j,q⟩)
     split at e
     .exact key _ e (by simp[z,n5,B])
     .exact key _ e (by simp[z,n5,B])
     trivial
 trivial
end
section
variable [Gh]
variable {ρ:Type} {wb:Nat->Bool} {M:Mu} {ch:CH} {h:Heap} {k:KC ρ} {r:ρ} {E:Env}
theorem VR.int{j:IntKind}{n:Int}{u:V}(h:VR M (.sy (.int j) n) u):u=.im (.int j n):=by trivial
theorem VR.bool{b:Bool}{u:V}(h:VR M (.sy .bool b) u):u=.im (.bool b):=by trivial
theorem VR.str{s:List Nat}{u:V}(h:VR M (.sy .str s) u):u=.im (.str s):=by trivial
theorem VR.ar{t:Ty}{l:List t.den}{u:V}(h:VR M (.sy (.ar t) l) u):u=.im (.ar (l.map t.enc)):=by trivial
theorem OS.of_int(A:HS M ch h){j:IntKind}{n:Int}(e:kI j ch k n=ab r):OS wb M ch h (ab (.im (.int j n),h)) k r:=OS.plain A (by rfl) e
theorem aqw(A:HS M ch h){op:UnOp}{x:CV}{J:V}(I:VR M x J)(e:RQ op x ch k=ab r):OS wb M ch h (jq h (wy op J)) k r:=by
 unfold RQ at e;split at e
 .have:=I.bool;subst this;exact OS.plain (cv:=.sy .bool _) A (by rfl) e
 .have:=I.int;subst this;exact OS.of_int A e
 .have:=I.int;subst this;exact OS.of_int A e
 trivial
theorem agq(A:HS M ch h){s d:Nat}{x:CV}{I:V}(J:VR M x I)(e:xF E s d x ch k=ab r):OS wb M ch h (oV E h h.length s d I) k r:=by
 unfold xF at e;unfold oV;split at e
 .rename_i h1 h2;have:=J.int;simp_all[h1,h2,OS.of_int,A,e]
 .rename_i h1 h2;have:=J.str;subst this;rw[h1,h2];exact OS.plain A (by rfl) e
 trivial
theorem F2{J:Nat->Option (Nat×Nat)}:∀(ps:List (Nat×CV)) (I:List (Nat×V)) (l:List CV) (g:List V) {y:List CV},I.map eN=ps.map eN->aS M (ps.map gF) (I.map gF)->aS M l g->gK l=ag->FZ J ps l=ab y->
  ∃s,nf g J I=ab s/\aS M y s/\gK y=ag
 |[],I,l,g,y,h1,_,h3,z,e=>by
  cases I with
  |nil=>cases e;exact⟨g,rfl,h3,z⟩
  |cons _ _=>cases h1
 |p::ps,I,l,g,y,h1,h2,h3,z,e=>by
  cases I with
  |nil=>cases h1
  |cons Z I=>
   simp at h1;obtain⟨u,O,he,A,q2⟩:=h2;cases he;obtain⟨v,D,e⟩:=ay.1 e;obtain⟨c,F,e⟩:=ay.1 e;rw[b8]at F;obtain⟨Y,G,H⟩:=h3.get F;cases K:ak (tA l p.1) v.1&&(ak c.wd v.2&&(ak p.2.wd v.2&&G1 p.2))with
   |false=>grind
   |true=>
    rw[K,au,dR]at e;simp only[aM]at K;obtain⟨P,Q,R,U⟩:=K;have B:fO p.2=af:=by cases hp:p.2<;>first|rfl|(rw[hp]at U;cases U)
    have L:ij Z.2=ag:=by
     cases hp:p.2 with
     |undef=>rw[hp]at U;cases U
     |sy t x=>
      rw[hp]at A U;rw[A];cases t<;>first|rfl|(cases U;done)|(cases x<;>rfl)|simp[Ty.enc,ij]
     |ifc t c=>rw[hp]at A;simp only[VR]at A;obtain⟨_,N,_⟩:=A;rw[N];rfl
     |rf t x=>rw[hp]at A;simp only[VR]at A;rw[A];rfl
     |m8 d=>
      rw[hp]at A U;simp only[VR]at A;rw[A];cases d<;>first|rfl|cases U
     |fA=>rw[hp]at A;simp only[VR]at A;rw[A];rfl
     |agg w l=>
      rw[hp]at A;obtain⟨vs,N,_⟩:=A;rw[N];unfold ff;cases fx vs<;>rfl
     |aG l=>rw[hp]at U;cases U
     |own b n=>
      rw[hp]at A;obtain⟨_,_,q⟩:=A;cases S:Z.2<;>first|rfl|(rw[S]at q;cases q)
     |ptr b q=>rw[hp]at A;simp only[VR]at A;obtain⟨_,_,q⟩:=A;rw[q];rfl
     |el b n i q=>rw[hp]at A;simp only[VR]at A;obtain⟨_,_,_,_,_,q⟩:=A;rw[q];rfl
     |fn f a c=>rw[hp]at A;simp only[VR]at A;obtain⟨_,_,q,_⟩:=A;rw[q];rfl
     |fm t l=>rw[hp]at A;simp only[VR]at A;rw[A];rfl
     |da b n o m aR=>rw[hp]at A;simp only[VR]at A;rcases A with⟨_,_,_,_,_,q,_⟩|⟨_,_,q,_⟩<;>rw[q]<;>rfl
     |mp b=>rw[hp]at A;simp only[VR]at A;obtain⟨_,_,q⟩:=A;rw[q];rfl
     |yl b=>rw[hp]at A;simp only[VR]at A;obtain⟨_,_,q⟩:=A;rw[q];rfl
     |il j t l=>rw[hp]at U;cases U
     |tl b d q=>rw[hp]at A;simp only[VR]at A;obtain⟨_,_,_,_,_,_,_,q⟩:=A;rw[q];rfl
     |eW t l c=>rw[hp]at U;cases U
    obtain⟨s,T,W,X⟩:=F2 ps I (l.set p.1 p.2) (g.set p.1 Z.2) h1.2 q2 (h3.set _ A) (Zg z _ B) e;refine⟨s,?_,W,X⟩;show((J Z.1).bind λv=>(bC g Z.1).bind λc=>bif ak (iw g Z.1) v.1&&(ak c.wd v.2&&(ak Z.2.wd v.2&&ij Z.2))then nf (bB g Z.1 Z.2) J I else ae)=_
    rw[h1.1,D,ah,b8,G,ah,<-Kg h3 z,P,<-H.wd (Zf z F),Q,<-A.wd B,R,L,dR];exact T
theorem afL(b:HS M ch h){t:Nat}{ps:List (Nat×CV)}{A:List (Nat×V)}(h1:A.map eN=ps.map eN)(h2:aS M (ps.map gF) (A.map gF))(e:TZ E t ps ch k=ab r):OS wb M ch h (wh E h t A) k r:=by
 obtain⟨ti,f,e⟩:=ay.1 e;obtain⟨l,g,e⟩:=ay.1 e;obtain⟨c,i,d,q2⟩:=(sL (M:=M) ti.zero).kids g;unfold wh;rw[f,ah,i,ah];split at e
 .rename_i fs I;obtain⟨j,hf,e⟩:=ay.1 e;obtain⟨J,U,Z,a⟩:=F2 ps A l c h1 h2 d q2 hf;simp only[I];rw[U];exact OS.plain b (VR.kH Z a) e
 .rename_i m el I;obtain⟨te,hte,e⟩:=ay.1 e;obtain⟨j,hf,e⟩:=ay.1 e;obtain⟨J,U,Z,a⟩:=F2 ps A l c h1 h2 d q2 hf;simp[I];rw[hte,ah,U];exact OS.plain b (VR.kH Z a) e
 trivial
theorem ahq(U:HS M ch h){t j:Nat}{x:CV}{a:V}(Z:VR M x a)(e:Vj E t x j ch k=ab r):OS wb M ch h (zF E h t a j) k r:=by
 obtain⟨ti,q,e⟩:=ay.1 e;unfold zF;rw[q,ah];split at e
 .rename_i fs v;obtain⟨f,hf,e⟩:=ay.1 e;simp only[v];rw[hf,ah];cases w:ak f.2.1 0 with
  |true=>grind
  |false=>
   rw[w]at e;cases x with
   |ptr b p=>
    obtain⟨c,l,rfl⟩:=Z;exact OS.plain (cv:=.ptr b (p++[(j,f.1)])) U (by simp[VR];grind) e
   |el b n i p=>
    obtain⟨c,g,m,s,l,rfl⟩:=Z;exact OS.plain (cv:=.el b n i (p++[(j,f.1)])) U (by simp[VR];grind) e
   |tl b d p=>
    obtain⟨c,g,i,s,m,l,D,rfl⟩:=Z;exact OS.plain (cv:=.tl b d (p++[(j,f.1)])) U (by simp[VR];grind) e
   |rf u y=>
    subst Z;have e:(match CV.dw (.sy u y) j f.1 with
     |some (.sy A I)=>bif ak A.wd f.2.1 then k (.rf A I) ch else ae
     |_=>ae)=ab r:=e
    split at e
    .rename_i A I J;obtain⟨z,B,q2,_⟩:=(show VR M (.sy u y) (.im (u.enc y))from rfl).dw J;subst q2;cases hw:ak A.wd f.2.1 with
     |false=>grind
     |true=>
      rw[hw]at e;show OS wb M ch h (match V.dw (.im (u.enc y)) j f.1 with
       |some (.im o)=>bif ak o.wd f.2.1 then ab (.im (.ref o),h)else ae
       |_=>ae) k r
      rw[B];show OS wb M ch h (bif ak (A.enc I).wd f.2.1 then ab (.im (.ref (A.enc I)),h)else ae) k r;rw[m9,hw];exact OS.plain (cv:=.rf A I) U (by rfl) e
    trivial
   |_=>cases e
 trivial
theorem am1{A:TK}{v:CV}{u:V}(h:VR M v u)(I:fO v=af)(e:vu A v=ag):gL A u=ag:=by
 have:=(iQ (ti:=⟨A,v.wd,0,.undef⟩) h (by simp[dG,aM,iZ,e])).1
 simp_all[cq,aM,this]
theorem ahs(Z:HS M ch h){t j:Nat}{x:CV}{J:V}(a:VR M x J)(e:Vk E t x j ch k=ab r):OS wb M ch h (zE E h t J j) k r:=by
 obtain⟨ti,b,e⟩:=ay.1 e;unfold zE;rw[b,ah];split at e
 .rename_i fs c;obtain⟨f,hf,e⟩:=ay.1 e;obtain⟨d,I,e⟩:=ay.1 e;obtain⟨v,g,e⟩:=ay.1 e;simp only[c];rw[hf,ah,I,ah];obtain⟨z,i,q2,U⟩:=a.dw g;rw[i,ah];cases A:ak v.wd f.2.1&&vu d.k v with
  |false=>grind
  |true=>
   rw[A]at e;rw[aM]at A;rw[<-q2.wd U,A.1,am1 q2 U A.2];exact OS.plain Z q2 e
 trivial
theorem agY(A:HS M ch h){b n I:Nat}{c:Bool}{t:Ty}{l:List t.den}(J:aB ch b=ab (.arr I c t l))(U:ak n I=ag){v:V}(a:VR M (.own b n) v)(Z:0< l.length):
  ∃x g,v=.own x g 0 l.length af/\M.o b n=ab (.own x g 0 l.length af,t.wd):=by
 rcases A.own J U a with⟨_,rfl,_⟩|⟨x,g,ro,_,rfl,_⟩
 .trivial
 .have:=bR U;subst this;obtain⟨u,h1,_⟩:=A.arr b n c t l J;grind
theorem aqd{α:Type}{l:List α}{vs:List CV}{n:Int}{I:Nat->Option ρ}(e:RA l vs n I=ab r):
  ∃d,aj 0 n=ag/\ao n (aC (l.length+vs.length))=ag/\n.toNat+d=l.length+vs.length/\I d=ab r:=by
 unfold RA at e;split at e
 .replace e:=aQ e;obtain⟨A,e⟩:=e;rw[og,decide_eq_true_eq]at A;subst A;refine⟨1,?_,?_,?_,e⟩
  .rfl
  .rw [oi];grind
  .simp
 .split at e
  .replace e:=aQ e;obtain⟨A,e⟩:=e;rw[aM,gn]at A;have h2:n.toNat< vs.length:=by
    simp_all
   refine⟨_,by simp[gn,decide_eq_true_eq,A],?_,?_,e⟩
   .simp_all[oi,decide_eq_true_eq]
   grind[nH,bn]
  trivial
theorem aiV(U:HS M ch h){t:Nat}{x i:CV}{O P:V}(I:VR M x O)(hi:VR M i P)(e:N8 E t x i ch k=ab r):OS wb M ch h (pI E h t O P) k r:=by
 unfold N8 at e;split at e
 .rename_i j n;have:=hi.int;subst this;obtain⟨ti,T,f⟩:=ay.1 e;clear e;show OS wb M ch h ((E.ty t).bind λti=>_) k r
  rw[T,ah];split at f
  .rename_i el D;obtain⟨te,hte,e⟩:=ay.1 f;clear f;simp only[D];split at e
   .rename_i u l;have:=I.ar;subst this;cases hw:ak u.wd te.size with
    |false=>grind
    |true=>
     rw[hw,au]at e;cases A:aj 0 n with
     |false=>grind
     |true=>
      rw[A,au]at e;obtain⟨y,F,e⟩:=ay.1 e;show OS wb M ch h (mu E h el (l.map u.enc) n) k r;unfold mu;rw[hte,ah,A,au,b8,nS,F];show OS wb M ch h (bif ak (u.enc y).wd te.size then ab (.im (.ref (u.enc y)),h)else ae) k r;rw[m9,hw,au];exact OS.plain (cv:=.rf u y) U (by rfl) e
   .rename_i b v;split at e
    .rename_i G c u l Z;cases hw:ak v G&&ak u.wd te.size with
     |false=>grind
     |true=>
      rw[hw,au]at e;rw[aM]at hw;cases A:aj 0 n&&ao n (aC l.length)with
      |false=>grind
      |true=>
       rw[A,au]at e;rw[aM]at A;have q:0< l.length:=by
        cases W:l with
        |nil=>
         exfalso;rw[W]at A;have h1:ao n 0=ag:=A.2;have h2:aj 0 n=ag:=A.1;simp_all[aj,h2,h1]
        |cons _ _=>simp
       obtain⟨y,g,rfl,Q⟩:=agY U Z hw.1 I q;show OS wb M ch h ((E.ty el).bind λte=>bif aj 0 n&&(ao n (aC l.length)&&(ak 0 0||iI h y te.size))then ab (.ptr y g [(0+n.toNat,(0+n.toNat)*te.size)],h)else ae) k r
       rw[hte,ah,A.1,A.2];have J:=bR hw.2;rw[cV,<-J];exact OS.plain (cv:=.el b v n.toNat []) U (by simp only[VR];grind) e
    .rename_i u l Z;replace e:=aQ e;obtain⟨hw,e⟩:=e;rw[aM]at hw;have:=bR hw.1;subst this;replace e:=aQ e;obtain⟨A,e⟩:=e;rw[aM]at A;obtain⟨c,g,X,k1,k2,Y,k4⟩:=U.xr b _ Z;simp only[VR]at I;obtain⟨s0,I,_⟩:=I;rw[k2]at I;cases I;show OS wb M ch h ((E.ty el).bind λte=>bif aj 0 n&&(ao n (aC (l.length+([]:List CV).length))&&(ak 0 0||iI h c te.size))then ab (.ptr c g [(0+n.toNat,(0+n.toNat)*te.size)],h)else ae) k r
     rw[hte,ah,A.1,show l.length+([]:List CV).length=l.length from rfl,A.2];have J:=bR hw.2;rw[cV,<-J];exact OS.plain (cv:=.el b 0 n.toNat []) U (by simp only[VR];grind) e
    .rename_i u l vs _ Z;replace e:=aQ e;obtain⟨hw,e⟩:=e;rw[aM]at hw;have:=bR hw.1;subst this;replace e:=aqd e;obtain⟨d,H,K,L,e⟩:=e;obtain⟨c,g,X,k1,k2,Y,k4⟩:=U.xr b _ Z;simp only[VR]at I;obtain⟨s0,I,_⟩:=I;rw[k2]at I;cases I;have R:ak 0 0||iI h c te.size=ag:=rfl
     show OS wb M ch h ((E.ty el).bind λte=>bif aj 0 n&&(ao n (aC (l.length+vs.length))&&(ak 0 0||iI h c te.size))then ab (.ptr c g [(0+n.toNat,(0+n.toNat)*te.size)],h)else ae) k r
     rw[hte,ah,H,K];have J:=bR hw.2;rw[cV,<-J];exact OS.plain (cv:=.tl b d []) U (by simp only[VR];exact⟨c,g,_,_,_,k2,L,rfl⟩) e
    trivial
   .rename_i u l;simp only[VR]at I;subst I;cases hw:ak u.wd te.size with
    |false=>rw[hw,ax]at e;cases e
    |true=>
     rw[hw,au]at e;cases A:aj 0 n with
     |false=>rw[A,ax]at e;cases e
     |true=>
      rw[A,au]at e;obtain⟨y,F,e⟩:=ay.1 e;show OS wb M ch h (mu E h el (l.map u.enc) n) k r;unfold mu;rw[hte,ah,A,au,b8,nS,F];show OS wb M ch h (bif ak (u.enc y).wd te.size then ab (.im (.ref (u.enc y)),h)else ae) k r;rw[m9,hw,au];exact OS.plain (cv:=.rf u y) U (by simp only[VR]) e
   .rename_i b v o m aR;split at e
    .rename_i G c u l Z;cases hw:ak v G&&ak u.wd te.size with
     |false=>rw[hw,ax]at e;cases e
     |true=>
      rw[hw,au]at e;rw[aM]at hw;cases A:aj 0 n&&ao n (aC m)with
      |false=>rw[A,ax]at e;cases e
      |true=>
       rw[A,au]at e;rw[aM]at A;have J:=bR hw.2;rcases U.da Z hw.1 I with⟨_,_,_,rfl⟩|⟨y,g,ro,_,rfl,_,hg,_,_,Q⟩
       .exfalso;have h1:ao n 0=ag:=A.2;have h2:aj 0 n=ag:=A.1;unfold aj at h2;rw[h1]at h2;cases h2
       .show OS wb M ch h ((E.ty el).bind λte=>bif aj 0 n&&(ao n (aC m)&&(ak (o.getD 0) 0||iI h y te.size))then ab (.ptr y g [(o.getD 0+n.toNat,(o.getD 0+n.toNat)*te.size)],h)else ae) k r
        have N:iI h y te.size=ag:=by
         unfold iI;rw[hg];show ak u.wd te.size=ag;exact hw.2
        have s:Cy o n.toNat=o.getD 0+n.toNat:=by
         cases o with
         |none=>simp[Cy]
         |some o=>simp[Cy,sF]
        rw[hte,ah,A.1,A.2,N,wH,<-J,<-s];exact OS.plain (cv:=.el b v (Cy o n.toNat) []) U (by simp only[VR];exact⟨y,g,_,_,Q,rfl⟩) e
    .cases e
   trivial
  .rename_i m el D;obtain⟨te,hte,e⟩:=ay.1 f;clear f;simp only[D];rw[hte,ah];cases A:aj 0 n&&(ao n (aC m)&&cA 0 te.size)with
   |false=>rw[A,ax]at e;cases e
   |true=>
    rw[A,au]at e;rw[au];cases x with
    |ptr b p=>
     simp only[VR]at I;obtain⟨c,hc,rfl⟩:=I;exact OS.plain (cv:=.ptr b (p++[(n.toNat,n.toNat*te.size)])) U (by simp only[VR];exact⟨c,hc,rfl⟩) e
    |rf u y=>
     simp only[VR]at I;subst I;have e:(match CV.dw (.sy u y) n.toNat (n.toNat*te.size)with
      |some (.sy a w)=>bif ak a.wd te.size then k (.rf a w) ch else ae
      |_=>ae)=ab r:=e
     split at e
     .rename_i a w B;obtain⟨z,q1,q2,_⟩:=(show VR M (.sy u y) (.im (u.enc y))from rfl).dw B;simp only[VR]at q2;subst q2;cases hw:ak a.wd te.size with
      |false=>rw[hw,ax]at e;cases e
      |true=>
       rw[hw,au]at e;show OS wb M ch h (match V.dw (.im (u.enc y)) n.toNat (n.toNat*te.size)with
        |some (.im S)=>bif ak S.wd te.size then ab (.im (.ref S),h)else ae
        |_=>ae) k r
       rw[q1];show OS wb M ch h (bif ak (a.enc w).wd te.size then ab (.im (.ref (a.enc w)),h)else ae) k r;rw[m9,hw,au];exact OS.plain (cv:=.rf a w) U (by simp only[VR]) e
     .cases e
    |_=>cases e
  trivial
 trivial
theorem ahj(I:HS M ch h){x:CV}{A:V}{i:Nat}(J:VR M x A)(e:((x.part i).bind λv=>k v ch)=ab r):OS wb M ch h (jq h (A.part i)) k r:=by
 obtain⟨v,U,e⟩:=ay.1 e;obtain⟨y,h1,h2⟩:=J.part U;rw[h1];exact OS.plain I h2 e
theorem alX{α:Type}{l:List α}{vs:List CV}{A:Nat->Option ρ}(e:OR l vs A=ab r):A (l.length+vs.length)=ab r:=by
 unfold OR at e;split at e
 .omega
 .exact e
 grind[bn]
theorem alY(J:HS M ch h){t:Nat}{x:CV}{Z:V}(A:VR M x Z)(e:OT E t x ch k=ab r):OS wb M ch h (qj E t h Z) k r:=by
 unfold OT at e;unfold qj;split at e
 .rename_i el u l I;have:=A.ar;subst this;rw[I];simp_all[bn,gd,OS.of_int,J,e]
 .rename_i el I;simp_all[VR,I,OS.of_int,J,e]
 .rename_i el b v I;split at e
  .rename_i d c u l U;cases a:ak v d with
   |false=>grind
   |true=>
    rw[a,au]at e;rw[I];rcases J.own U a A with⟨rfl,rfl,_⟩|⟨y,g,ro,_,rfl,_⟩
    all_goals simp_all[OS.of_int,J,e]
  .rename_i u l vs U;replace e:=aQ e;obtain⟨hw,e⟩:=e;have:=bR hw;subst this;obtain⟨c,g,f,k1,k2,i,j⟩:=J.xr b _ U;simp only[VR]at A;obtain⟨m,A,_⟩:=A;rw[k2]at A;cases A;rw[I];have e:=alX e;exact OS.of_int J e
  trivial
 .rename_i s I;have:=A.str;simp_all[I,bn,OS.of_int,J,e]
 .rename_i el u l I;simp only[VR]at A;subst A;rw[I];simp_all[bn,gd,OS.of_int,J,e]
 .rename_i el b v o n aR I;rw[I];simp only[VR]at A;rcases A with⟨_,_,_,_,_,rfl,_⟩|⟨_,_,rfl,rfl⟩
  all_goals simp_all[OS.of_int,J,e]
 trivial
theorem YE(Z:HS M ch h){j:IntKind}:∀{l:List CV} {I:List V} {a:Int},aS M l I->Pe j l ch k a=ab r->OS wb M ch h ((vg j I a).map λn=>(.im (.int j n),h)) k r
 |[],I,a,U,e=>by
  subst U;exact OS.of_int Z e
 |v::l,I,a,U,e=>by
  obtain⟨u,A,rfl,d,q2⟩:=U;have e:(match(generalizing:=false) v with|.sy (.int J) b=>bif fP j J then Pe j l ch k (bif aj a b then a else b)else ae|_=>ae)=ab r:=e
  split at e
  .rename_i J b _;have:=d.int;subst this;cases c:fP j J with
   |false=>grind
   |true=>
    rw[c]at e;show OS wb M ch h ((bif fP j J then vg j A (bif aj a b then a else b)else ae).map λn=>(.im (.int j n),h)) k r
    rw[c];exact YE Z q2 e
  trivial
theorem Yt(Z:HS M ch h){j:IntKind}:∀{l:List CV} {I:List V} {a:Int},aS M l I->Pc j l ch k a=ab r->OS wb M ch h ((ve j I a).map λn=>(.im (.int j n),h)) k r
 |[],I,a,U,e=>by
  subst U;exact OS.of_int Z e
 |v::l,I,a,U,e=>by
  obtain⟨u,A,rfl,d,q2⟩:=U;have e:(match(generalizing:=false) v with|.sy (.int J) b=>bif fP j J then Pc j l ch k (bif aj a b then b else a)else ae|_=>ae)=ab r:=e
  split at e
  .rename_i J b _;have:=d.int;subst this;cases c:fP j J with
   |false=>grind
   |true=>
    rw[c]at e;show OS wb M ch h ((bif fP j J then ve j A (bif aj a b then b else a)else ae).map λn=>(.im (.int j n),h)) k r
    rw[c];exact Yt Z q2 e
  trivial
end
section
variable [Gh]
variable {ρ:Type} {wb:Nat->Bool} {M:Mu} {ch:CH} {h:Heap} {k:KC ρ} {r:ρ} {E:Env}
theorem OS.qR(J:HS M ch h) t l g{n:Nat}(U:n=l.length)(e:iq ch (.arr 0 af t l) (λb ch=>k (.own b 0) ch)=ab r):
  OS wb M ch h (ab (.own h.length g 0 n af,aD h h.length (.arr g t.wd 0 (l.map t.enc)))) k r:=by
 subst U;have e:k _ _=ab r:=e;rw[bn]at e;obtain⟨A,I⟩:=J.qR t l g;refine⟨_,_,.own _ 0,_,_,rfl,?_,I,⟨A,by simp,by simp[bL],λb Z _=>by rw[cT,az (by omega)],yK,vB⟩,e⟩
 exact⟨t.wd,aK ⟨rfl,rfl⟩,rfl⟩
theorem OS.HE(Z:HS M ch h) t l g cl ro(I:cl=af->ro=0)(A:ro<=l.length){n:Nat}(a:n=l.length)(e:iq ch (.arr 0 cl t l) (λb ch=>k (.own b 0) ch)=ab r):
  OS wb M ch h (ab (.own h.length g 0 n af,aD h h.length (.arr g t.wd ro (l.map t.enc)))) k r:=by
 subst a;have e:k _ _=ab r:=e;rw[bn]at e;obtain⟨J,U⟩:=Z.HE t l g cl ro I A;refine⟨_,_,.own _ 0,_,_,rfl,?_,U,⟨J,by simp,by simp[bL],λb c _=>by rw[cT,az (by omega)],yK,vB⟩,e⟩
 exact⟨t.wd,aK ⟨rfl,rfl⟩,rfl⟩
theorem Ef{u:Ty}{te:TI}{z:u.den}(A:CV.dt [] u (ir te.zero)=ab z) h:te.zero.data h=ab (u.enc z):=by
 rw[Bg];exact((U1 (M:=⟨λ_=>ae,λ_ _=>ae⟩) (h:=h) u).1 _ _ _ A (sL _)).1
theorem amh(Z:HS M ch h){t:Nat}{l c:CV}{I J:V}(a:VR M l I)(b:VR M c J)(e:Hq E t l c ch k=ab r):OS wb M ch h (tk E h.length h t I J) k r:=by
 replace e:=ay.1 e;obtain⟨ti,d,e⟩:=e;unfold tk;rw[d,ah];split at e
 .rename_i el f;replace e:=ay.1 e;obtain⟨te,hte,e⟩:=e;replace e:=ay.1 e;obtain⟨u,i,e⟩:=e;replace e:=ay.1 e;obtain⟨z,g,e⟩:=e;simp only[f];rw[hte,ah,Ef g];split at e
  .rename_i n m;have:=a.int;subst this;have:=b.int;subst this;cases A:ak u.wd te.size&&dG te (.sy u z)with
   |false=>grind
   |true=>
    rw[A]at e;rw[aM]at A;cases U:aj 0 n&&(aj n m&&aj (m*aC te.bytes) 70368744177664)<;>first|rw[U]at e;show OS wb M ch h (bif cq te (.im (u.enc z))&&(aj 0 n&&(aj n m&&aj (m*aC te.bytes) 70368744177664))then ab (.own h.length 0 0 n.toNat af,aD h h.length (.arr 0 te.size 0 (kU n.toNat (u.enc z))))else ae) k r;rw[U,(iQ (show VR M (.sy u z) (.im (u.enc z))from rfl) A.2).1,<-bR A.1,nC,<-Au];exact OS.qR Z u _ 0 (by simp) e|grind
  trivial
 trivial
theorem F1(s:HS M ch h){u:Ty}{sz:Nat}(U:u.wd=sz):∀ps I l {Z:List u.den},I.map eN=ps.map eN->aS M (ps.map gF) (I.map gF)->F0 ch u ps l=ab Z->
  lC h sz (l.map u.enc) I=ab (Z.map u.enc)/\Z.length=l.length/\jo I=(ns ps).filterMap M.b
 |[],I,l,Z,h1,_,e=>by
  cases I with
  |nil=>cases e;trivial
  |cons _ _=>cases h1
 |p::ps,I,l,Z,h1,h2,e=>by
  cases I with
  |nil=>cases h1
  |cons y I=>
   simp at h1;obtain⟨v,F,he,A,q2⟩:=h2;cases he;replace e:=ay.1 e;obtain⟨x,G,e⟩:=e;cases g:cA p.1 (aA l)&&G1 p.2 with
   |false=>grind
   |true=>
    rw[g,au]at e;rw[aM,bn]at g;have z:p.1< l.length:=gX g.1;obtain⟨H,P,K⟩:=F1 s U ps _ _ h1.2 q2 e;have B:ij y.2=ag:=by
     have J:=g.2;cases hp:p.2 with
     |sy t x=>
      rw[hp]at A J;rw[A];cases t<;>first|rfl|cases J;done|cases x<;>rfl|simp[Ty.enc]
     |ifc t c=>rw[hp]at A;obtain⟨_,D,_⟩:=A;rw[D];rfl
     |m8 d=>
      rw[hp]at A J;rw[A];cases d<;>first|rfl|cases J
     |agg w l=>
      rw[hp]at A;obtain⟨vs,D,_⟩:=A;rw[D];unfold ff;cases fx vs<;>rfl
     |own b n=>
      rw[hp]at A;obtain⟨_,_,q⟩:=A;cases L:y.2<;>first|rfl|rw[L]at q;cases q
     |el b n i q=>rw[hp]at A;obtain⟨_,_,_,_,_,q⟩:=A;rw[q];rfl
     |fn f a c=>rw[hp]at A;obtain⟨_,_,q,_⟩:=A;rw[q];rfl
     |rf t x|fA|fm t l=>rw[hp]at A;rw[A];rfl
     |da b n o m aR=>rw[hp]at A;rcases A with⟨_,_,_,_,_,q,_⟩|⟨_,_,q,_⟩<;>rw[q]<;>rfl
     |ptr b q|mp b|yl b=>rw[hp]at A;obtain⟨_,_,q⟩:=A;rw[q];rfl
     |tl b d q=>rw[hp]at A;obtain⟨_,_,_,_,_,_,_,q⟩:=A;rw[q];rfl
     |undef|aG l|il j t l|eW t l c=>rw[hp]at J;cases J
    refine⟨?_,by grind,?_⟩
    .show ((y.2.data h).bind λd=>(bC _ _).bind λ_=>bif ak _ sz&&ij _ then lC h sz _ _ else ae)=_
     rw[Bk s G A,ah,b8,h1.1,nS,List.getElem?_eq_getElem z];rw[m9,U,iZ,B,dR,<-List.map_set];exact H
    .have N:=(Ic s u).1 _ x _ G A;show(match V.owns _ with|[]=>jo _|O=>O++jo _)=(p.2.ga++ns ps).filterMap _
     rw[vE,N,K];grind
theorem Lk:∀ps A,aS M (ps.map gF) (A.map gF)->jd.qh ps=ag->rR A=af
 |[],A,h2,_=>by
  cases A<;>first|rfl|trivial
 |p::ps,A,h2,e=>by
  obtain⟨v,I,he,J,q2⟩:=h2;cases A with
  |nil=>rfl
  |cons U A=>
   cases he;have e:(match p.2 with|.sy _ _=>jd.qh ps|_=>af)=ag:=e
   split at e
   .rename_i t x hp;rw[hp]at J;show(match U.2 with|.im _=>rR _|_=>ag)=af
    rw[J];exact Lk ps _ q2 e
   trivial
theorem afJ(a:HS M ch h){keep:Bool}{t n:Nat}{ps:List (Nat×CV)}{A:List (Nat×V)}(h1:A.map eN=ps.map eN)(h2:aS M (ps.map gF) (A.map gF))(e:jd E keep t n ps ch k=ab r):
  OS wb M ch h (kW E keep h.length h t n A) k r:=by
 replace e:=ay.1 e;obtain⟨ti,c,e⟩:=e;unfold kW;rw[c,ah];split at e
 .rename_i el d;replace e:=ay.1 e;obtain⟨te,hte,e⟩:=e;replace e:=ay.1 e;obtain⟨u,w,e⟩:=e;replace e:=ay.1 e;obtain⟨z,f,e⟩:=e;simp only[d];rw[hte,ah];cases Z:bp (n*te.size) 16777216&&bp n 16777216&&(ak u.wd te.size&&(dG te (.sy u z)&&(jd.yy (ns ps)&&(not keep||jd.qh ps))))with
  |false=>grind
  |true=>
   rw[Z]at e;rw[aM]at Z;obtain⟨g,U⟩:=Z;simp only[aM]at U;obtain⟨U,i,b,j⟩:=U;replace e:=ay.1 e;obtain⟨l,m,e⟩:=e;have J:=bR U;obtain⟨o,p,q⟩:=F1 a J ps _ _ h1 h2 m;have s:ns ps=[]:=by
    cases v:ns ps<;>first|rfl|rw[v]at b;cases b
   have I:(keep&&rR A)=af:=by
    cases keep<;>first|rw[Lk ps _ h2 j];rfl|rfl
   rw[g,Ef f,ah,(iQ (show VR M (.sy u z) _ from rfl) i).1,I,nC,<-Au,o];rw[q,s,<-J];exact OS.qR a u l 0 (by simp[p]) e
 trivial
def Mu.add(M:Mu)(n c g m s:Nat):Mu:=⟨λi=>if i=n then ab c else M.b i,λi j=>if i=n then if j=0 then ab (.own c g 0 m af,s)else ae else M.o i j⟩
theorem HS.jT(I:HS M ch h){x:CB}{h':Heap}{c g m s:Nat}(j:∀b,aB ch b≠ae->M.b b≠ab c)(H:c< h'.length)(R:h.length<=h'.length)(K:∀y,y< h.length->y≠c->aq h' y=aq h y)
  (p:∀v,x≠.cell v) (L:∀n cl t l,x=.arr n cl t l->n=0/\m=l.length/\s=t.wd/\∃ro,aq h' c=ab (.arr g t.wd ro (l.map t.enc))/\(cl=af->ro=0)/\ro<=l.length)
  (S:XR (M.add ch.length c g m s) h' ch.length x):M.le (M.add ch.length c g m s)/\HS (M.add ch.length c g m s) (ch++[ab x]) h':=by
 have A:M.le (M.add ch.length c g m s):=⟨λi w e=>by
  show(if i=ch.length then ab c else M.b i)=ab w;rw[az (by grind[I.qb])];exact e,λi n y e=>by
  show(if i=ch.length then _ else M.o i n)=ab y;rw[az (by intro q;subst q;exact absurd (I.fQ _ _ _ e) (gE _))];exact e⟩
 have J:∀b y d,aB ch b=ab y->M.b b=ab d->aq h' d=aq h d:=λb y d e q=>K d (I.len _ _ q).2 (by
  grind)
 refine⟨A,⟨λb cv e=>?_,λb n cl t l e=>?_,λb b' d z B f q2=>?_,λb n cl t l e=>?_,λb d e=>?_,λb n y e=>?_,λb y e=>?_⟩⟩
 .rw [cT]at e;split at e
  .grind
  .obtain ⟨w,N,h1,h2,h3⟩:=I.cell b cv e;exact⟨w,N,A.b _ _ h1,(J _ _ _ e h1).trans h2,h3.mono A _ _⟩
 .rw [cT]at e;split at e
  .rename_i D;cases e;obtain⟨rfl,rfl,rfl,ro,U,Z,a⟩:=L _ _ _ _ rfl;subst D;refine⟨.own c g 0 l.length af,?_,.inr ⟨c,g,ro,aK rfl,rfl,U,Z,a⟩⟩;show(if ch.length=ch.length then(if 0=0 then _ else ae)else _)=_;simp
  .rename_i F;obtain⟨u,h1,h2⟩:=I.arr b n cl t l e;exact⟨u,A.o _ _ _ h1,h2.imp (λ⟨U,Z,a⟩=>⟨U,Z,(az F).trans a⟩) λ⟨d,g,ro,U,Z,a,O⟩=>⟨d,g,ro,A.b _ _ U,Z,(J _ _ _ e U).trans a,O⟩⟩
 .have f:(if b=ch.length then ab c else M.b b)=ab d:=f;have q2:(if b'=ch.length then ab c else M.b b')=ab d:=q2;rw[cT]at z B;by_cases P:b=ch.length<;>by_cases Q:b'=ch.length
  .omega
  .grind
  .grind
  .rw [az P]at f z;rw[az Q]at q2 B;exact I.inj b b' d z B f q2
 .rw [cT]at e;intro G hm;show(if b=ch.length then(if G=0 then _ else ae)else M.o b G)=ae;split at e
  .grind
  .rename_i D;rw[az D];exact I.new b n cl t l e G hm
 .have e:(if b=ch.length then ab c else M.b b)=ab d:=e;rw[dD,EC];split at e
  .grind
  .have:=I.len b d e;omega
 .have e:(if b=ch.length then(if n=0 then _ else ae)else M.o b n)=ab y:=e;rw[dD,EC];split at e
  .omega
  .have:=I.fQ b n y e;omega
 .rw [cT]at e;split at e
  .grind
  .exact (I.xr b y e).step A λd q=>J b y d e q
theorem AG{M:Mu}{n c g m s N:Nat}(h:(∃b0,M.b b0=ab c)∨N<=c):∀b d,(M.add n c g m s).b b=ab d->(∃b0,M.b b0=ab d)∨N<=d:=λb d e=>by
 have e:(if b=n then ab c else M.b b)=ab d:=e;grind
mutual
theorem Yw:∀(c:CV) (v:V),VR M c v->c.mem=ag->∀d,v≠.im d
 |.own _ _,v,A,_,d=>by simp only[VR]at A;obtain⟨_,_,q⟩:=A;rintro rfl;cases q
 |.ptr _ _,v,A,_,d=>by simp only[VR]at A;obtain⟨_,_,rfl⟩:=A;simp
 |.el _ _ _ _,v,A,_,d=>by simp only[VR]at A;obtain⟨_,_,_,_,_,rfl⟩:=A;simp
 |.tl _ _ _,v,A,_,d=>by simp only[VR]at A;obtain⟨_,_,_,_,_,_,_,rfl⟩:=A;simp
 |.da _ _ _ _ _,v,A,_,d=>by simp only[VR]at A;rcases A with⟨_,_,_,_,_,rfl,_⟩|⟨_,_,rfl,_⟩<;>simp
 |.agg w l,v,A,hm,d=>by
  simp only[VR]at A
  obtain⟨vs,rfl,A,_⟩:=A
  unfold ff
  rw[Yy l vs A (by simpa only[CV.mem]using hm)];simp
theorem Yy:∀(l:List CV) (vs:List V),aS M l vs->CV.vf l=ag->fx vs=ae
 |[],_,_,hm=>by cases hm
 |v::l,_,A,hm=>by
  simp only[aS]at A
  obtain⟨u,r,rfl,h1,h2⟩:=A
  simp only[CV.vf,Bool.or_eq_true]at hm
  cases I:u with
  |im d=>
   rcases hm with hm|hm
   .exact absurd I (Yw v u h1 hm d)
   .show dB ae _ (fx r)=ae
    rw[Yy l r h2 hm]
  |_=>rfl
end
theorem Yz:∀(ps:List (Nat×CV)) A,aS M (ps.map gF) (A.map gF)->CV.vf (ps.map gF)=ag->rR A=ag
 |[],_,_,h=>by cases h
 |p::ps,A,I,hm=>by
  cases A with
  |nil=>grind[aS]
  |cons J A=>
   obtain⟨u,r,he,h1,h2⟩:=I;cases he;simp[CV.vf]at hm;show(match J.2 with|.im _=>rR _|_=>ag)=ag
   split
   .rename_i d U;rcases hm with hm|hm
    .exact absurd U (Yw _ _ h1 hm d)
    .exact Yz ps _ h2 hm
   .rfl
theorem aS.replicate{c:CV}{v:V}(h:VR M c v):∀n,aS M (bT n c) (bT n v)
 |0=>rfl
 |n+1=>by exact⟨v,_,rfl,h,aS.replicate h n⟩
theorem amO{c:CV}(h:fO c=af) n:gK (bT n c)=ag:=by
 grind[gK]
theorem Vm{A:Nat->Option (Nat×Nat)}:∀ps l {I:List V},nf l A ps=ab I->I.length=l.length
 |[],l,I,e=>by cases e;rfl
 |p::ps,l,I,e=>by
  obtain⟨J,_,e⟩:=ay.1 e;obtain⟨c,_,e⟩:=ay.1 e;replace e:=aQ e;obtain⟨_,e⟩:=e;rw[Vm ps _ e,dR,hV]
theorem aqE{ps:List (Nat×CV)}(h:z6 af ps=ag):∃i b q A,ps=(i,.ptr b q)::A:=by
 unfold z6 at h;grind
theorem afI(J:HS M ch h){keep:Bool}{t n:Nat}{ps:List (Nat×CV)}{A:List (Nat×V)}(h1:A.map eN=ps.map eN)(h2:aS M (ps.map gF) (A.map gF))(hw:z6 keep ps=ag)(e:Fl E t n ps ch k=ab r):
  OS wb M ch h (kW E keep h.length h t n A) k r:=by
 replace e:=ay.1 e;obtain⟨ti,D,e⟩:=e;unfold kW;rw[D,ah];split at e
 .rename_i el F;replace e:=ay.1 e;obtain⟨te,hte,e⟩:=e;replace e:=ay.1 e;obtain⟨z,G,e⟩:=e;simp only[F];rw[hte,ah];replace e:=aQ e;obtain⟨a,e⟩:=e;rw[aM]at a;obtain⟨H,U⟩:=a;simp only[aM]at U;obtain⟨U,K,L⟩:=U;replace e:=ay.1 e;obtain⟨l,N,e⟩:=e;have d:=bR K;have f:(bif keep&&rR A then ae else lC h te.size (kU n z) A)=ae:=by
   cases keep with
   |true=>
    rw[Yz ps _ h2 hw];rfl
   |false=>
    obtain⟨i,b,q,B,rfl⟩:=aqE hw;cases A<;>first|rename_i O A;obtain⟨u,S,he,j,q2⟩:=h2;cases he;obtain⟨c,_,j⟩:=j;show((O.2.data h).bind _)=ae;rw[j];rfl|trivial
  obtain⟨Z,f1,f2,f3⟩:=F2 ps _ _ _ h1 h2 (aS.replicate (sL (M:=M) _) n) (amO (by simpa using L) n) N
  have I:Z.length=n:=by rw[Vm _ _ f1];simp
  have P:l.length=n:=by rw[f2.length,I]
  rw[H,G,ah,U];rw[f,nC,f1];have Q:∀y,y< h.length->y≠h.length->aq (aD h _ (.bN 0 te.size Z)) y=aq h y:=λy T _=>by rw[bG _ _ _ _ (aJ _),az (by omega)]
  have W:(aD h h.length (.bN 0 te.size Z)).length=h.length+1:=by rw[bL,az (gE _)]
  generalize Fl.RP E el te=u at*;obtain⟨p,w⟩:=J.jT (x:=.cu u [] l) (h':=aD h _ _) (c:=h.length) (g:=0) (m:=n) (s:=u.wd) (λb _ q=>absurd (J.len _ _ q).2 (gE _)) (by omega) (by omega) Q (λv q=>by cases q) λ_ _ _ _ q=>by cases q
   ⟨h.length,0,Z,aK rfl,by
    show(if ch.length=ch.length then if 0=0 then _ else ae else _)=_;grind,by rw[bG _ _ _ _ (aJ _),aK rfl,d];rfl,f2.Pj (by
    exact⟨λi R e=>by
     show(if i=ch.length then ab _ else M.b i)=ab R;rw[az (by grind[J.qb])];exact e,λi n y e=>by
     show(if i=ch.length then _ else M.o i n)=ab y;rw[az (by intro q;subst q;exact absurd (J.fQ _ _ _ e) (gE _))];exact e⟩)⟩
  have e:k _ _=ab r:=e;rw[bn]at e;refine⟨_,_,.own _ 0,_,_,rfl,?_,w,⟨p,by simp,by omega,λb a _=>by rw[cT,az (by omega)],AG (.inr (aJ _)),λc X _=>by grind⟩,e⟩
  refine⟨u.wd,?_,rfl⟩;show(if ch.length=ch.length then if 0=0 then _ else ae else _)=_;simp
 trivial
theorem Vq{u:Ty}:∀ps l {I:List u.den},F0 ch u ps l=ab I->∀b∈ns ps,∃n c t y,aB ch b=ab (.arr n c t y)
 |[],_,_,_,b,A=>by cases A
 |p::ps,l,I,e,b,A=>by
  replace e:=ay.1 e;obtain⟨x,J,e⟩:=e;obtain⟨_,e⟩:=aQ e;rcases cB.1 A with A|A
  .exact (Ib (ch:=ch) u).1 _ x J b A
  .exact Vq ps _ e b A
theorem Hu:∀{I:List Nat},qL wb ch I=ag->∀b∈I,(∃n c u l,aB ch b=ab (.arr n c u l))->∃n c u l,aB ch b=ab (.arr n c u l)/\(c=ag∨wb b=ag)
 |[],_,b,A,_=>by cases A
 |a::I,hm,b,A,J=>by
  have hm:(bif match aB ch a with|some (.arr _ ag _ _)=>ag|_=>wb a then qL wb ch I else af)=ag:=hm
  cases U:match aB ch a with|some (.arr _ ag _ _)=>ag|_=>wb a with
  |false=>grind
  |true=>
   rw[U]at hm;rcases List.mem_cons.1 A with rfl|A
   .grind
   .exact Hu hm b A J
theorem afH(a:HS M ch h){t n:Nat}{ps:List (Nat×CV)}{I:List (Nat×V)}(h1:I.map eN=ps.map eN)(h2:aS M (ps.map gF) (I.map gF))(e:LN E wb t n ps ch k=ab r):
  OS wb M ch h (kW E af h.length h t n I) k r:=by
 replace e:=ay.1 e;obtain⟨ti,f,e⟩:=e;unfold kW;rw[f,ah];split at e
 .rename_i el g;replace e:=ay.1 e;obtain⟨te,hte,e⟩:=e;replace e:=ay.1 e;obtain⟨u,H,e⟩:=e;replace e:=ay.1 e;obtain⟨z,i,e⟩:=e;simp only[g];rw[hte,ah];obtain⟨J,e⟩:=aQ e;rw[aM]at J;obtain⟨j,Z⟩:=J;simp only[aM]at Z;obtain⟨Z,m,o⟩:=Z;replace e:=ay.1 e;obtain⟨l,c,e⟩:=e;have U:=bR Z;obtain⟨p,q,s⟩:=F1 a U ps _ _ h1 h2 c;have A:=Vq ps _ c;obtain⟨w,q2,x,q4,y⟩:=HS.close (wb:=wb) _ a λb J=>Hu o b J (A b J)
  rw[j,Ef i,ah,(iQ (show VR M (.sy u z) _ from rfl) m).1,nC,<-Au,p];rw[s,a.fi _ A,<-U];obtain⟨v,h',cv,a9,M',d,B,D,F,G⟩:=OS.qR (wb:=wb) w u l 0 (n:=n) (by simp[q]) e
  rw[x]at d;refine⟨v,h',cv,a9,M',d,B,D,Fr.trans ⟨.refl M,by omega,by omega,λb _ J=>q4 b J,jZ,y⟩ F,G⟩
 trivial
theorem AU{hi:Nat}{x:Option CV}{A:Option V}{d:Nat}{kk:Nat->Option ρ}(J:∀v,x=ab v->∃u,A=ab u/\VR M v u)(U:x=ae->A=ae)(e:uv hi x d kk=ab r):∃n,bound hi A d=ab n/\kk n=ab r:=by
 unfold uv at e;split at e
 .rw [U rfl];exact⟨d,rfl,e⟩
 .rename_i j n;obtain⟨u,rfl,Z⟩:=J _ rfl;have:=Z.int;subst this;cases I:aj 0 n&&aj n (aC hi)<;>first|rw[I]at e;refine⟨n.toNat,?_,e⟩;show(bif aj 0 n&&aj n (aC hi)then ab n.toNat else ae)=_;rw[I,au]|grind
 trivial
theorem LL{len:Nat}{lo hi:Option V}{i j:Nat}(h1:bound len hi len=ab j)(h2:bound j lo 0=ab i):bounds len lo hi ae=ab (i,j,len):=by
 show(ab _).bind _=_
 grind
theorem agX(I:HS M ch h){b n A:Nat}{c:Bool}{t:Ty}{l:List t.den}{x g:Nat}(J:aB ch b=ab (.arr A c t l))(U:ak n A=ag){v:V}(Z:VR M (.own b n) v)(he:v=.own x g 0 l.length af):M.o b n=ab (.own x g 0 l.length af,t.wd):=by
 have:=bR U;subst this;simp[VR]at Z;obtain⟨u,h1,_⟩:=I.arr b n c t l J;grind
theorem Yi{lo:Option CV}{lo':Option V}{j:Nat}{kk:Option Nat->Option ρ}(I:∀v,lo=ab v->∃u,lo'=ab u/\VR M v u)(A:lo=ae->lo'=ae)
  (e:(match(generalizing:=false) lo with
   |none=>kk ae
   |some (.sy (.int _) n)=>bif aj 0 n&&aj n (aC j)then kk (ab n.toNat)else ae
   |_=>ae)=ab r):∃i:Option Nat,bound j lo' 0=ab (i.getD 0)/\kk i=ab r/\i.getD 0<=j:=by
 split at e
 .rw [A rfl];exact⟨ae,rfl,e,bX _⟩
 .rename_i Z n;obtain⟨u,rfl,J⟩:=I _ rfl;have:=J.int;subst this;cases U:aj 0 n&&aj n (aC j)with
  |false=>grind
  |true=>
   rw[U]at e;refine⟨ab _,?_,e,?_⟩
   .show (bif aj 0 n&&aj n _ then ab _ else ae)=_;grind
   simp_all[gn]
 trivial
theorem afB{hi d n:Nat}{x:Option V}(h:bound hi x d=ab n)(A:d<=hi):n<=hi:=by
 unfold bound at h;split at h
 .simp_all[A]
 .rename_i J a;cases I:aj 0 a&&aj a (aC hi)<;>first|rw[I]at h;cases h;simp_all[aM,gn]|grind
 trivial
theorem Ba{len:Nat}{lo hi:Option CV}{I A:Option V}{kk:Option Nat->Nat->Option ρ}(b:∀v,lo=ab v->∃u,I=ab u/\VR M v u)(U:lo=ae->I=ae)(c:∀v,hi=ab v->∃u,A=ab u/\VR M v u)(J:hi=ae->A=ae)
  (e:xH len lo hi kk=ab r):∃(i:Option Nat) (j:Nat),bounds len I A ae=ab (i.getD 0,j,len)/\kk i j=ab r/\i.getD 0<=j/\j<=len/\(hi=ae->j=len):=by
 have d:hi=ae->∀j,bound len A len=ab j->j=len:=λq j e=>by
  rw[J q]at e;cases e;rfl
 obtain⟨j,Z,e⟩:=AU c J e;obtain⟨i,f,e,a⟩:=Yi (kk:=λi=>kk i j) b U e
 exact⟨i,j,LL Z f,e,a,afB Z (aJ _),λq=>d q j Z⟩
theorem xJ{len:Nat}{lo hi:Option CV}{mx:CV}{lo' I A:Option V}{kk:Option Nat->Nat->Option ρ}(f:∀v,lo=ab v->∃u,lo'=ab u/\VR M v u)(J:lo=ae->lo'=ae)(g:∀v,hi=ab v->∃u,I=ab u/\VR M v u)(hm:∃u,A=ab u/\VR M mx u)
  (e:xI len lo hi mx kk=ab r):∃(i:Option Nat) (j:Nat) (l:V),A=ab l/\bounds len lo' I A=ab (i.getD 0,j,j)/\kk i j=ab r/\i.getD 0<=j/\j<=len:=by
 unfold xI at e;split at e
 .rename_i k1 a k2 b;obtain⟨s,rfl,U⟩:=g _ rfl;have:=U.int;obtain⟨t,rfl,Z⟩:=hm;have:=Z.int;cases h1:aj 0 b&&aj b (aC len)with
  |false=>grind
  |true=>
   rw[h1]at e;cases h2:aj 0 a&&aj a b with
   |false=>grind
   |true=>
    rw[h2]at e;cases h3:ai a b with
    |false=>grind
    |true=>
     rw[h3]at e;have c:a=b:=of_decide_eq_true (by simp_all[og])
     subst c;have d:=h1;rw[gn,gn]at d;have n:∀m:Nat,a<=m->bound m (ab (.im (.int k1 a))) len=ab _:=λm hm=>by
      show(bif aj 0 a&&aj a _ then ab _ else ae)=_;have o:aj 0 a=ag:=by grind
      have q2:aj a (aC m)=ag:=by simp[gn,hm]
      rw[o,q2];rfl
     have p:bound len (ab (.im (.int k2 a))) len=ab a.toNat:=by
      show(bif aj 0 a&&aj a _ then ab _ else ae)=_;rw[h1];rfl
     obtain⟨i,w,e,q⟩:=Yi (lo':=lo') (j:=a.toNat) (kk:=λi=>kk i _) f J (by
      have:aC a.toNat=a:=by grind
      rw[this];exact e)
     grind[bounds]
 trivial
theorem Md{l:List D} i j:cut l (i.getD 0) j=fe i (ik j i) l:=by
 cases i<;>rfl
theorem ni i j:ik j i=j-i.getD 0:=by
 cases i<;>rfl
theorem HW o i:(ph o i).getD 0=o.getD 0+i.getD 0:=by
 cases i<;>first|rename_i i;cases o<;>simp[ph,sF]|rfl
theorem Rg{u:Ty}{te:TI}(hw:ak u.wd te.size=ag)(l:List u.den):gZ te.size (l.map u.enc)=ag:=by
 cases l<;>first|rename_i y l;show ak (u.enc y).wd te.size=ag;simp[m9,hw]|rfl
theorem abE{b g off len:Nat}{aR:Bool}{lo hi:Option V}{A:V}{i j:Nat}(I:bounds len lo hi (ab A)=ab (i,j,j)):kY b g off len aR lo hi (ab A)=ab (.own b g (off+i) (j-i) ag):=by
 simp[kY,I,iZ]
theorem abF{b g off len:Nat}{aR:Bool}{lo hi:Option V}{i j:Nat}(A:bounds len lo hi ae=ab (i,j,len)):kY b g off len aR lo hi ae=ab (.own b g (off+i) (j-i) (aR&&ak j len)):=by
 simp[kY,A]
theorem TE{t:Ty}:∀{l:Ty} {x:l.den} {A:List t.den},Ff t l x=ab A->l.cL x=A.map t.enc
 |.nl,_,_,e=>by cases e;rfl
 |.cn u l,x,A,e=>by
  simp[Ff]at e;split at e
  .rename_i y r I J;cases e;show u.enc _::l.cL _=_;rw[TE J,<-(je I).2.1];rfl
  trivial
 |.bool,_,_,e|.int _,_,_,e|.str,_,_,e|.ar _,_,_,e|.st _ _,_,_,e|.aG _,_,_,e|.iO,_,_,e|.err,_,_,e=>by cases e
theorem apR(U:HS M ch h){t:Nat}{x:CV}{x':V}{lo hi mx:Option CV}{A I P:Option V}(B:VR M x x')(w:∀v,lo=ab v->∃u,A=ab u/\VR M v u)(J:lo=ae->A=ae)(z:∀v,hi=ab v->∃u,I=ab u/\VR M v u)(Z:hi=ae->I=ae)(hm:∀v,mx=ab v->∃u,P=ab u/\VR M v u)(a:mx=ae->P=ae)
  (e:Ri E t x lo hi mx ch k=ab r):OS wb M ch h (jq h (tq E t h x' A I P)) k r:=by
 unfold Ri at e;replace e:=ay.1 e;obtain⟨ti,ht,e⟩:=e;unfold tq;rw[ht,ah];split at e
 .rename_i el u l F;replace e:=ay.1 e;obtain⟨te,hte,e⟩:=e;have:=B.ar;subst this;simp only[F];cases hw:ak u.wd te.size with
  |false=>grind
  |true=>
   rw[hw,au]at e;rw[hte,ah];split at e
   .rw [a rfl];obtain⟨j,W,e⟩:=AU z Z e;obtain⟨i,X,e⟩:=AU w J e;have:rn h te.size (.im (.ar (l.map u.enc))) A I ae=ab (.im (.ar (((l.drop i).take (j-i)).map u.enc))):=by
     show(bif gZ te.size (l.map u.enc)then(bounds (aA (l.map u.enc)) A I ae).bind λb=>ab (V.im (.ar (cut (l.map u.enc) b.1 b.2.1)))else ae)=_
     rw[Rg hw,au,bn,gd,LL W X];simp[cut,List.map_take,adJ]
    rw[this];exact OS.plain (cv:=.sy (.ar u) _) U (by rfl) e
   .rename_i m;obtain⟨i,j,N,rfl,b,e,_,_⟩:=xJ w J z (hm _ rfl) e;have:rn h te.size (.im (.ar (l.map u.enc))) A I (ab N)=ab (.full ((fe i (ik j i) l).map u.enc)):=by
     show(bif gZ te.size (l.map u.enc)then(bounds (aA (l.map u.enc)) A I (ab N)).bind λb=>bif ak b.2.1 b.2.2 then ab (V.full (cut (l.map u.enc) b.1 b.2.1))else ae else ae)=_
     rw[Rg hw,au,bn,gd,b,ah];simp[iZ,au,Md,xK]
    rw[this];exact OS.plain (cv:=.fm u _) U (by rfl) e
 .rename_i el u l F;replace e:=ay.1 e;obtain⟨te,hte,e⟩:=e;simp only[VR]at B;subst B;simp only[F];cases hw:ak u.wd te.size with
  |false=>grind
  |true=>
   rw[hw,au]at e;rw[hte,ah];have key:∀mx,rn h te.size (.full (l.map u.enc)) A I mx=(bounds l.length A I mx).map λb=>bif ak b.2.1 b.2.2 then V.full (cut (l.map u.enc) b.1 b.2.1)else .im (.ar (cut (l.map u.enc) b.1 b.2.1)):=λmx=>by
    show(bif gZ te.size (l.map u.enc)then(bounds (aA (l.map u.enc)) A I mx).map λb=>bif ak b.2.1 b.2.2 then V.full (cut (l.map u.enc) b.1 b.2.1)else .im (.ar (cut (l.map u.enc) b.1 b.2.1))else ae)=_
    rw[Rg hw,au,bn,gd]
   rw[key];split at e
   .rw [a rfl];obtain⟨i,j,b,e,_,_,_⟩:=Ba w J z Z e;rw[b];show OS wb M ch h (jq h (ab (bif ak j l.length then V.full (cut (l.map u.enc) (i.getD 0) j)else .im (.ar (cut (l.map u.enc) (i.getD 0) j))))) k r;have hq:ak j l.length=ai (aC j) (aC l.length):=by
     rfl
    rw[hq,Md,<-xK];cases hc:ai (aC j) (aC l.length)with
    |true=>
     rw[hc,au]at e;exact OS.plain (cv:=.fm u _) U (by rfl) e
    |false=>
     rw[hc,ax]at e;exact OS.plain (cv:=.sy (.ar u) _) U (by rfl) e
   .rename_i m;obtain⟨i,j,N,rfl,b,e,_,_⟩:=xJ w J z (hm _ rfl) e;rw[b];show OS wb M ch h (jq h (ab (bif ak j j then V.full (cut (l.map u.enc) (i.getD 0) j)else .im (.ar (cut (l.map u.enc) (i.getD 0) j))))) k r;rw[iZ,au,Md,<-xK];exact OS.plain (cv:=.fm u _) U (by rfl) e
 .rename_i el b v F;replace e:=ay.1 e;obtain⟨te,hte,e⟩:=e;simp only[F];rw[hte,ah];split at e
  .rename_i Y c u l L;cases hw:ak v Y&&ak u.wd te.size with
   |false=>grind
   |true=>
    rw[hw,au]at e;rw[aM]at hw;rcases U.own L hw.1 B with⟨rfl,rfl,h0⟩|⟨y,g,ro,h0,rfl,hg,_,_⟩
    .simp only[VR]at B;obtain⟨s,O,_⟩:=B;have key:∀mx,rn h te.size (.full []) A I mx=(bounds 0 A I mx).map λb=>bif ak b.2.1 b.2.2 then V.full (cut ([]:List D) b.1 b.2.1)else .im (.ar (cut ([]:List D) b.1 b.2.1)):=λmx=>rfl
     rw[key];split at e
     .rw [a rfl];obtain⟨i,j,b',e,_,G,_⟩:=Ba w J z Z e;have f:j=0:=KW.1 G;subst f;have b':bounds 0 A I ae=ab (i.getD 0,0,0):=b';rw[b'];refine OS.plain (cv:=.da b v i (ik 0 i) af) U ?_ e;simp only[VR];exact .inr ⟨s,O,by simp[cut],by simp[ni]⟩
     .rename_i m;obtain⟨i,j,N,rfl,b',e,_,G⟩:=xJ w J z (hm _ rfl) e;have f:j=0:=KW.1 G;subst f;have b':bounds 0 A I (ab N)=ab (i.getD 0,0,0):=b';rw[b'];refine OS.plain (cv:=.da b v i (ik 0 i) ag) U ?_ e;simp only[VR];exact .inr ⟨s,O,by simp[cut],by simp[ni]⟩
    .have S:=agX U L hw.1 B rfl;have key:∀mx,rn h te.size (.own y g 0 l.length af) A I mx=kY y g 0 l.length af A I mx:=λmx=>by
      show(match aq h y with
       |some (.arr Q s _ H)=>bif dc g Q 0 l.length H&&(ak s te.size||isNone H)then kY y g 0 l.length af A I mx else ae
       |some (.bN Q s H)=>bif dc g Q 0 l.length H&&(ak s te.size||yz H)then kY y g 0 l.length af A I mx else ae
       |_=>ae)=_
      rw[hg];show(bif dc g g 0 l.length (l.map u.enc)&&(ak u.wd te.size||isNone (l.map u.enc))then kY y g 0 l.length af A I mx else ae)=_
      rw[hw.2,show dc g g 0 l.length (l.map u.enc)=ag from Bb (o:=none) (by simp)];rfl
     rw[key];split at e
     .rw [a rfl];obtain⟨i,j,b',e,R,G,_⟩:=Ba w J z Z e;rw[abF b'];refine OS.plain (cv:=.da b v i (ik j i) af) U ?_ e;simp only[VR];exact .inl ⟨y,g,_,_,S,by simp[ni],by grind[ni]⟩
     .rename_i m;obtain⟨i,j,N,rfl,b',e,R,G⟩:=xJ w J z (hm _ rfl) e;rw[abE b'];refine OS.plain (cv:=.da b v i (ik j i) ag) U ?_ e;simp only[VR];exact .inl ⟨y,g,_,_,S,by simp[ni],by grind[ni]⟩
  trivial
 .rename_i el b v o n aR F;replace e:=ay.1 e;obtain⟨te,hte,e⟩:=e;simp only[F];rw[hte,ah];split at e
  .rename_i Y c u l L;cases hw:ak v Y&&ak u.wd te.size with
   |false=>grind
   |true=>
    rw[hw,au]at e;rw[aM]at hw;rcases U.da L hw.1 B with⟨rfl,_,_,rfl⟩|⟨y,g,ro,_,rfl,hon,hg,_,_,O⟩
    .simp only[VR]at B;obtain⟨s,O⟩:∃s,M.o b v=ab (.full [],s):=by
      grind
     have key:∀mx,rn h te.size (.full []) A I mx=(bounds 0 A I mx).map λb=>bif ak b.2.1 b.2.2 then V.full (cut ([]:List D) b.1 b.2.1)else .im (.ar (cut ([]:List D) b.1 b.2.1)):=λmx=>rfl
     rw[key];split at e
     .rw [a rfl];unfold OU at e;have p:∃K,xH 0 lo hi (λi j=>k (.da b v (ph o i) (ik j i) K) ch)=ab r:=by
       cases aR with
       |false=>simp_all[e]
       |true=>
        rw[au]at e;split at e
        all_goals simp_all
      obtain⟨K,e⟩:=p;obtain⟨i,j,b',e,_,G,_⟩:=Ba w J z Z e;have f:j=0:=KW.1 G;subst f;rw[b'];refine OS.plain (cv:=.da b v (ph o i) (ik 0 i) K) U ?_ e;simp only[VR];exact .inr ⟨s,O,by simp[cut],by simp[ni]⟩
     .rename_i m;obtain⟨i,j,N,rfl,b',e,_,G⟩:=xJ w J z (hm _ rfl) e;have f:j=0:=KW.1 G;subst f;rw[b'];refine OS.plain (cv:=.da b v (ph o i) (ik 0 i) ag) U ?_ e;simp only[VR];exact .inr ⟨s,O,by simp[cut],by simp[ni]⟩
    .have key:∀mx,rn h te.size (.own y g (o.getD 0) n aR) A I mx=kY y g (o.getD 0) n aR A I mx:=λmx=>by
      show(match aq h y with
       |some (.arr Q s _ H)=>bif dc g Q (o.getD 0) n H&&(ak s te.size||isNone H)then kY y g (o.getD 0) n aR A I mx else ae
       |some (.bN Q s H)=>bif dc g Q (o.getD 0) n H&&(ak s te.size||yz H)then kY y g (o.getD 0) n aR A I mx else ae
       |_=>ae)=_
      rw[hg];show(bif dc g g (o.getD 0) n (l.map u.enc)&&(ak u.wd te.size||isNone (l.map u.enc))then kY y g (o.getD 0) n aR A I mx else ae)=_
      rw[hw.2,Bb (by grind)];rfl
     rw[key];split at e
     .rw [a rfl];unfold OU at e;have p:(aR=af∨hi=ae)/\xH n lo hi (λi j=>k (.da b v (ph o i) (ik j i) aR) ch)=ab r:=by
       grind
      obtain⟨T,e⟩:=p;obtain⟨i,j,b',e,R,G,hjn⟩:=Ba w J z Z e;rw[abF b'];have lH:(aR&&ak j n)=aR:=by
       rcases T with rfl|q
       all_goals simp_all
      rw[lH];refine OS.plain (cv:=.da b v (ph o i) (ik j i) aR) U ?_ e;simp only[VR];exact .inl ⟨y,g,_,_,O,by rw[ni,HW],by grind[ni,HW]⟩
     .rename_i m;obtain⟨i,j,N,rfl,b',e,R,G⟩:=xJ w J z (hm _ rfl) e;rw[abE b'];refine OS.plain (cv:=.da b v (ph o i) (ik j i) ag) U ?_ e;simp only[VR];exact .inl ⟨y,g,_,_,O,by rw[ni,HW],by grind[ni,HW]⟩
  trivial
 .rename_i l F;have:=B.str;subst this;simp only[F];split at e
  .rw [a rfl];obtain⟨j,W,e⟩:=AU z Z e;obtain⟨i,X,e⟩:=AU w J e;have:Rj (.im (.str l)) A I ae=ab (.im (.str ((l.drop i).take (j-i)))):=by
    show((bounds (aA l) A I ae).map λb=>V.im (.str (cut l b.1 b.2.1)))=_
    simp[bn,LL,W,X,cut]
   rw[this];exact OS.plain (cv:=.sy .str _) U (by rfl) e
  trivial
 .rename_i m el w' l y F;simp only[F];simp only[VR]at B;subst B;split at e
  .replace e:=ay.1 e;obtain⟨te,hte,e⟩:=e;replace e:=ay.1 e;obtain⟨u,hu,e⟩:=e;replace e:=ay.1 e;obtain⟨zs,hz,e⟩:=e;rw[J rfl,Z rfl,a rfl,hte,ah];cases L:ak (aA zs) m&&(bp m 16777216&&ak u.wd te.size)with
   |false=>grind
   |true=>
    rw[L,au]at e;rw[aM,aM]at L;have he:=TE hz;have:Rh m te.size (.im (.ref ((Ty.st w' l).enc y))) ae ae ae=ab (.full (zs.map u.enc)):=by
     show(bif ak (aA (l.cL y)) m&&(bp m 16777216&&(l.cL y).all λd=>ak d.wd te.size)then ab (V.full (l.cL y))else ae)=_
     rw[he,bn,gd,<-bn,L.1,L.2.1,l9.2 λd hd=>?_]
     .rfl
     .obtain ⟨x,_,rfl⟩:=List.mem_map.1 hd;simp[m9,L]
    rw[this];exact OS.plain (cv:=.fm u zs) U (by rfl) e
  trivial
 trivial
theorem aiX(Z:HS M ch h){t:Nat}{x i:CV}{A a:V}(b:VR M x A)(hi:VR M i a)(e:N9 E t x i ch k=ab r):OS wb M ch h (zH E h t A a) k r:=by
 unfold N9 at e;split at e
 .rename_i j n s;have:=hi.int;subst this;have:=b.str;subst this;replace e:=ay.1 e;obtain⟨ti,J,e⟩:=e;show OS wb M ch h ((E.ty t).bind λti=>match ti.k with|.str=>bif aj 0 n then(bC s _).map _ else ae|_=>ae) k r
  rw[J,ah];split at e
  .rename_i U;cases I:aj 0 n<;>first|rw[I]at e;replace e:=ay.1 e;obtain⟨c,g,e⟩:=e;(try simp only[U]);rw[b8,g];exact OS.of_int Z e|grind
  trivial
 .rename_i j n l;have:=hi.int;subst this;replace e:=ay.1 e;obtain⟨ti,J,e⟩:=e;split at e
  .rename_i m el U;replace e:=ay.1 e;obtain⟨te,hte,e⟩:=e;cases I:aj 0 n&&ao n (aC m)with
   |false=>grind
   |true=>
    rw[I]at e;replace e:=ay.1 e;obtain⟨w,hw,e⟩:=e;cases f:dG te w with
    |false=>grind
    |true=>
     rw[f]at e;obtain⟨z,o,q2,_⟩:=b.dw hw;have p:∀s,A≠.im (.str s):=by
      grind[V.dw]
     have:zH E h t A (.im (.int j n))=(E.ty t).bind λti=>match ti.k with
      |.arr m el=>(E.ty el).bind λte=>bif aj 0 n&&ao n (aC m)then(A.dw n.toNat (n.toNat*te.size)).bind λw=>bif cq te w then ab (w,h)else ae else ae
      |_=>ae:=by
      cases A with
      |im d=>cases d<;>first|rfl|trivial
      |_=>rfl
     rw[this,J,ah];simp only[U];rw[hte,ah,I,o,ah,(iQ q2 f).1];exact OS.plain Z q2 e
  trivial
 trivial
theorem UC(p:HS M ch h){u:Ty}{x:CV}{d:V}{l:List u.den}(e:CV.dt ch (.ar u) x=ab l)(U:VR M x d):d.ks h=ab (l.map u.enc)/\kD h d=af:=by
 cases x with
 |sy t y=>
  obtain⟨rfl,he,_⟩:=je e;simp_all[VR,Ty.enc,V.ks,kD]
 |fA=>
  cases e;subst U;trivial
 |own b n=>
  have e:(match aB ch b with
   |some (.arr A _ t l)=>bif ak n A then Ty.cs (.ar t) (.ar u) l else ae
   |_=>ae)=ab l:=e
  split at e
  .rename_i A c t Z f;cases J:ak n A with
   |false=>grind
   |true=>
    rw[J]at e;obtain⟨I,he,_⟩:=je e;simp[Ty.enc]at he;rcases p.own f J U with⟨rfl,rfl,_⟩|⟨y,g,ro,_,rfl,a,_⟩
    .rw [he];trivial
    .rw [he];constructor
     .show (match aq h y with
       |some (.arr i _ _ j)=>bif dc g i 0 _ j then ab _ else ae
       |_=>ae)=_
      rw[a];have:bp _ Z.length=ag:=kl (aJ _);simp[dc,eP,this]
     .show (match aq h y with|some (.bN _ _ _)=>ag|_=>af)=af
      rw[a]
  trivial
 |fm t Z=>
  obtain⟨I,he,_⟩:=je e;subst U;simp[Ty.enc]at he;rw[he];trivial
 |da b n o m aR=>
  have e:(match aB ch b with
   |some (.arr A _ t l)=>bif ak n A then Ty.cs _ (.ar u) _ else ae
   |_=>ae)=ab l:=e
  split at e
  .rename_i A c t Z f;cases J:ak n A with
   |false=>grind
   |true=>
    rw[J]at e;obtain⟨I,he,_⟩:=je e;cases I;simp[Ty.enc]at he;rcases p.da f J U with⟨rfl,rfl,_,rfl⟩|⟨y,g,ro,_,rfl,hm,a,_⟩
    .rw [he];have:fe o 0 ([]:List u.den)=[]:=by cases o<;>simp[fe,jm]
     rw[this];trivial
    .have q:o.getD 0+m<=(Z.map u.enc).length:=by grind
     constructor
     .show (match aq h y with
       |some (.arr i _ _ j)=>bif dc g i _ m j then ab _ else ae
       |_=>ae)=_
      simp_all[Bb,Mc,xK]
     .show (match aq h y with|some (.bN _ _ _)=>ag|_=>af)=af
      rw[a]
  trivial
 |_=>cases e
theorem HS.grow(A:HS M ch h){b n:Nat}{c:Bool}{t:Ty}{l l':List t.den}(d:aB ch b=ab (.arr n c t l))(D:l.length<=l'.length){x g ro:Nat}(z:M.b b=ab x)(F:c=af->ro=0)(B:ro<=l.length):
  let M':=⟨M.b,λi m=>if i=b/\m=n+1 then ab (.own x (g+1) 0 l'.length af,t.wd)else M.o i m⟩
  M.le M'/\HS M' (cG ch b (.arr (n+1) c t l')) (aD h x (.arr (g+1) t.wd ro (l'.map t.enc))):=by
 intro M';have p:=eY d;have a:=(A.len _ _ z).2;have f:∀i,aB _ i=if i=b then ab (.arr (n+1) c t l')else aB ch i:=λi=>fN ch _ b i p
 have Q:∀y,aq _ y=if y=x then ab (.arr (g+1) t.wd ro (l'.map t.enc))else aq h y:=λy=>bG _ _ _ _ (cX a)
 have R:∀b' y,aB ch b'=ab y->b'≠b->M.b b'≠ab x:=λb' y e J q=>J (A.inj b' b x (by simp[e]) (by simp[d]) q z)
 have U:M.le M':=⟨λ_ _ e=>e,λi m y e=>by
  show(if i=b/\m=n+1 then _ else M.o i m)=ab y;rw[az (by rintro⟨rfl,rfl⟩;rw[A.new _ _ _ _ _ d _ (ad2 n)]at e;cases e)];exact e⟩
 refine⟨U,⟨λb' w e=>?_,λb' I cl s v e=>?_,λG H Z K L j q2=>?_,λb' I cl s v e m hm=>?_,λb' Z e=>?_,λb' I x e=>?_,λb' y e=>?_⟩⟩
 .rw [f]at e;split at e
  .cases e
  .obtain ⟨Z,N,j,q2,O⟩:=A.cell b' w e;exact⟨Z,N,j,by grind,O.mono U _ _⟩
 .rw [f]at e;split at e
  .grind
  .obtain ⟨u,j,q2⟩:=A.arr b' I cl s v e;grind
 .refine A.inj G H Z (λq=>K ?_) (λq=>L ?_) j q2
  all_goals grind
 .rw [f]at e;show(if b'=b/\m=n+1 then _ else M.o b' m)=ae;split at e
  .rename_i he;cases e;subst he;rw[az (by omega)]
   exact A.new _ _ _ _ _ d m (by omega)
  .rename_i J;rw[az λq=>J q.1]
   exact A.new b' I cl s v e m hm
 .rw [eI,bL,aK a];exact A.len b' Z e
 .rw [eI];by_cases P:b'=b/\I=n+1
  .omega
  .have e:(if b'=b/\I=n+1 then _ else M.o b' I)=ab x:=e;rw[az P]at e;exact A.fQ b' I x e
 .rw [f]at e;split at e
  .cases e;trivial
  .exact (A.xr b' y e).step U λZ q=>by grind
theorem HS.born(A:HS M ch h){b n:Nat}{c:Bool}{t:Ty}{l':List t.den}(s:aB ch b=ab (.arr n c t []))(V:M.b b=ae):
  let M':=⟨λi=>if i=b then ab h.length else M.b i,λi m=>if i=b/\m=n+1 then ab (.own h.length 0 0 l'.length af,t.wd)else M.o i m⟩
  M.le M'/\HS M' (cG ch b (.arr (n+1) c t l')) (aD h h.length (.arr 0 t.wd 0 (l'.map t.enc))):=by
 intro M';have v:=eY s;have g:∀i,aB _ i=if i=b then ab (.arr (n+1) c t l')else aB ch i:=λi=>fN ch _ b i v
 have z:∀y,y< h.length->aq (aD h _ (.arr 0 t.wd 0 (l'.map t.enc))) y=aq h y:=λy W=>by rw[bG _ _ _ _ (aJ _),az (by omega)]
 have J:∀i,i≠b->M'.b i=M.b i:=λi hi=>az hi
 have I:M.le M':=⟨λi c e=>by
  grind,λi m y e=>by
  show(if i=b/\m=n+1 then _ else M.o i m)=ab y;rw[az (by rintro⟨rfl,rfl⟩;rw[A.new _ _ _ _ _ s _ (ad2 n)]at e;cases e)];exact e⟩
 refine⟨I,⟨λb' w e=>?_,λb' Z cl B D e=>?_,λf a d L N U q2=>?_,λb' Z cl B D e m hm=>?_,λb' d e=>?_,λb' Z x e=>?_,λb' y e=>?_⟩⟩
 .rw [g]at e;split at e
  .cases e
  .obtain ⟨d,O,U,q2,P⟩:=A.cell b' w e;exact⟨d,O,I.b _ _ U,by rw[z _ (A.len _ _ U).2];omega,P.mono I _ _⟩
 .rw [g]at e;split at e
  .rename_i he;cases e;subst he;exact⟨_,aK ⟨rfl,rfl⟩,.inr ⟨h.length,0,0,aK rfl,rfl,by rw[bG _ _ _ _ (aJ _),aK rfl],λ_=>rfl,bX _⟩⟩
  .obtain ⟨u,U,q2⟩:=A.arr b' Z cl B D e;exact⟨u,I.o _ _ _ U,q2.imp (λ⟨j,F,Q⟩=>⟨j,F,by grind⟩) λ⟨y,R,G,j,F,Q,S⟩=>⟨y,R,G,I.b _ _ j,F,by rw[z _ (A.len _ _ j).2];omega,S⟩⟩
 .have f1:aB ch f≠ae:=λq=>L (by grind)
  have f2:aB ch a≠ae:=λq=>N (by grind)
  by_cases H:f=b
  .by_cases l:a=b
   .omega
   .rw [J a l]at q2;have:M'.b f=ab _:=aK H;rw[this]at U;cases U;exact absurd (A.len _ _ q2).2 (gE _)
  .by_cases l:a=b
   .rw [J f H]at U;have:M'.b a=ab _:=aK l;rw[this]at q2;cases q2;exact absurd (A.len _ _ U).2 (gE _)
   .rw [J f H]at U;rw[J a l]at q2;exact A.inj f a d f1 f2 U q2
 .rw [g]at e;show(if b'=b/\m=n+1 then _ else M.o b' m)=ae;split at e
  .rename_i he;cases e;subst he;rw[az (by omega)]
   exact A.new _ _ _ _ _ s m (by omega)
  .rename_i K;rw[az λq=>K q.1]
   exact A.new b' Z cl B D e m hm
 .rw [eI,bL,az (gE _)];by_cases p:b'=b
  .grind
  .rw [J b' p]at e;have:=A.len b' d e;omega
 .rw [eI];by_cases T:b'=b/\Z=n+1
  .omega
  .have e:(if b'=b/\Z=n+1 then _ else M.o b' Z)=ab x:=e;rw[az T]at e;exact A.fQ b' Z x e
 .rw [g]at e;split at e
  .cases e;trivial
  .exact (A.xr b' y e).step I λd q=>z d (A.len _ _ q).2
theorem xl(M:Mu) n c g m s:(M.add n c g m s).o n 0=ab (.own c g 0 m af,s):=by
 show(if n=n then if 0=0 then _ else ae else _)=_;simp
theorem Th(A:HS M ch h) c g m s:M.le (M.add ch.length c g m s):=⟨λi I e=>by
  show(if i=ch.length then ab c else M.b i)=ab I;rw[az (by grind[A.qb])];exact e,λi n y e=>by
  show(if i=ch.length then _ else M.o i n)=ab y;rw[az (by intro q;subst q;exact absurd (A.fQ _ _ _ e) (gE _))];exact e⟩
theorem Tp{te:TI}:∀{vs:List CV} {A:List V},aS M vs A->Lj te vs=ag->uj te A=ag
 |[],A,I,_=>by subst I;rfl
 |v::vs,A,I,e=>by
  obtain⟨u,r,rfl,h1,h2⟩:=I;have e:(bif dG te v then Lj te vs else af)=ag:=e;cases J:dG te v<;>first|rw[J]at e;show(bif cq te u then uj te r else af)=ag;rw[(iQ h1 J).1];exact Tp h2 e|grind
theorem HS.gone(I:HS M ch h){b c:Nat}{x:CB}(d:aB ch b=ab x)(f:M.b b=ab c){h':Heap}(g:h'.length=h.length)(j:∀y,y≠c->aq h' y=aq h y):HS M (bB ch b ae) h'/\∀b',aB (bB ch b ae) b'≠ae->M.b b'≠ab c:=by
 have A:∀i,aB (bB ch b ae) i=if i=b then ae else aB ch i:=λi=>by
  grind[aB,b8,dR]
 have v:∀b' y,aB ch b'=ab y->b'≠b->M.b b'≠ab c:=λb' y e U q=>U (I.inj b' b c (by simp[e]) (by simp[d]) q f)
 have a:(bB ch b ae).length=ch.length:=by simp
 refine⟨⟨λb' w e=>?_,λb' n cl t l e=>?_,λm o J p s Z q2=>?_,λb' n cl t l e=>?_,λb' J e=>?_,λb' n x e=>?_,λb' y e=>?_⟩,λb' e=>?_⟩
 .rw [A]at e;split at e
  .cases e
  .obtain ⟨J,z,Z,q2,B⟩:=I.cell b' w e;grind
 .rw [A]at e;split at e
  .cases e
  .obtain ⟨u,Z,q2⟩:=I.arr b' n cl t l e;grind
 .refine I.inj m o J (λq=>p ?_) (λq=>s ?_) Z q2
  all_goals grind
 .rw [A]at e;split at e
  .cases e
  .exact I.new b' n cl t l e
 .rw [a,g];exact I.len b' J e
 .rw [a];exact I.fQ b' n x e
 .rw [A]at e;split at e
  .cases e
  .exact (I.xr b' y e).step (.refl M) λJ q=>j J (by grind)
 .rw [A]at e;split at e
  .trivial
  .obtain ⟨y,D⟩:=Option.ne_none_iff_exists'.1 e;grind
theorem O9(ch:CH) b x:(bB ch b x).length=ch.length:=by simp
theorem Ho(ch:CH){b i:Nat} x(hi:i≠b):aB (bB ch b x) i=aB ch i:=by
 unfold aB;rw[b8,b8,dR,List.getElem?_set_ne λq=>hi q.symm]
theorem aff{v:CV}{x:AW}(e:Fg ch v=ab x):∃b,v=.own b 0/\aB ch b=ab (.cu x.t x.l x.vs):=by
 unfold Fg at e;split at e
 .split at e
  .replace e:=aQ e;obtain⟨A,e⟩:=e;cases e;simp_all
  trivial
 trivial
theorem ae9(a:HS M ch h){te:TI}{G:Nat}{s xc:CV}{O x':V}{x:AW}(I:VR M s O)(P:VR M xc x')(R:Fg ch xc=ab x)(e:Lt E wb te G s x ch k=ab r):OS wb M ch h (oQ E te h.length G O x' h) k r:=by
 obtain⟨bx,rfl,S⟩:=aff R;obtain⟨t,lx,vs⟩:=x;unfold Lt at e;replace e:=aQ e;obtain⟨F,e⟩:=e;simp only[aM]at F;obtain⟨c1,c2,c3,c4,c5⟩:=F;have T:lx=[]:=by cases lx with
  |nil=>rfl
  |cons _ _=>cases c2
 subst T;have H:=bR c5;obtain⟨c,g,A,k1,k2,k3,Q⟩:=a.xr bx _ S;obtain⟨s0,P,_⟩:=P;rw[k2]at P;cases P;have J:A.length=vs.length:=Q.length.symm;have W:u6 (E.kind G)=af:=by
  cases X:E.kind G with
  |none=>rfl
  |some kk=>rw[X]at c1;cases kk<;>first|rfl|cases c1
 have Y:yz A=af:=by
  cases A with
  |nil=>cases vs with
   |nil=>cases c3
   |cons _ _=>trivial
  |cons _ _=>rfl
 have hve:V.z5 h (.own c g 0 (([]:List t.den).length+vs.length) af)=ab A:=by
  unfold V.z5;simp only[k3];have hl:([]:List t.den).length+vs.length=A.length:=by simp[J]
  rw[hl];have a1:bp A.length A.length=ag:=kl (aJ _);simp[dc,eP,a1]
 have d:oQ E te h.length G O (.own c g 0 (([]:List t.den).length+vs.length) af) h=rT te h.length O A h:=by
  unfold oQ;have ha:kD h (.own c g 0 (([]:List t.den).length+vs.length) af)=ag:=by simp[kD,k3]
  rw[W,ax,ha,wH,au,c1,au,hve,ah,Tp Q c4,au]
 rw[d];split at e
 .subst I;replace e:=aQ e;obtain⟨hr,e⟩:=e;show OS wb M ch h (bif gZ te.size []&&(not (yz A)&&room (aA ([]:List D)+aA A) te.bytes)then ab (.own h.length 0 0 (aA ([]:List D)+aA A) af,aD h h.length (.bN 0 te.size (jj []++A)))else ae) k r;have U:room (aA ([]:List D)+aA A) te.bytes=ag:=by
   simp_all[bn,J,room,bW]
  rw[U,Y];show OS wb M ch h (ab (.own h.length 0 0 (aA ([]:List D)+aA A) af,aD h h.length (.bN 0 te.size A))) k r;have hg:∀y,y< h.length->y≠h.length->aq (aD h h.length (.bN 0 te.size A)) y=aq h y:=λy hy _=>by rw[bG _ _ _ _ (aJ _),az (by omega)]
  have hL:(aD h h.length (.bN 0 te.size A)).length=h.length+1:=by rw[bL,az (gE _)]
  obtain⟨f,j⟩:=a.jT (x:=.cu t [] vs) (h':=aD h h.length (.bN 0 te.size A)) (c:=h.length) (g:=0) (m:=vs.length) (s:=t.wd) (λb _ q=>absurd (a.len _ _ q).2 (gE _)) (by omega) (by omega) hg (λv q=>by cases q) (λ_ _ _ _ q=>by cases q)
   ⟨h.length,0,A,aK rfl,by simp[xl],by rw[bG _ _ _ _ (aJ _),aK rfl,H];rfl,Q.Pj (Th a ..)⟩
  have e:k (.own (aA ch) 0) (ch++[ab (.cu t [] vs)])=ab r:=e;rw[bn]at e;refine⟨_,_,.own ch.length 0,_,_,rfl,?_,j,⟨f,by simp,by omega,λb hb _=>by rw[cT,az (by omega)],AG (.inr (aJ _)),λc F _=>by grind⟩,e⟩
  simp only[VR];exact⟨t.wd,by simp[xl,bn,J],rfl⟩
 .rename_i b n;split at e
  .rename_i t' l0 hb;replace e:=aQ e;obtain⟨F,e⟩:=e;simp only[aM]at F;obtain⟨d1,d2,d3⟩:=F;replace e:=ay.1 e;obtain⟨l,hl,e⟩:=e;obtain⟨he1,o⟩:=jf hl;cases he1;have o:l=l0:=o;subst o;replace e:=aQ e;obtain⟨hr,e⟩:=e;have:=bR d1;subst this;obtain⟨p,Z,us',j1,j2,j3,j4⟩:=a.xr b _ hb;obtain⟨s0,I,_⟩:=I;rw[j2]at I;cases I;subst j4;have u:=(a.len _ _ j1).2;have K:rT te h.length (.own p Z 0 (l.length+([]:List CV).length) af) A h=ab (.own p (Z+1) 0 (l.length+aA A) af,aD h p (.bN (Z+1) te.size ((l.map λx=>V.im (t.enc x))++A))):=by
    unfold rT;simp only[j3];have U:room (l.length+aA A) te.bytes=ag:=by
     rw[bn,J];grind[bn,room,bW,sF]
    have a1:bp l.length l.length=ag:=kl (aJ _);have a3:dc Z Z 0 l.length (l.map λx=>V.im (t.enc x))=ag:=by simp[dc,a1]
    grind[eP]
   rw[K];generalize w:aD h p (.bN (Z+1) te.size ((l.map λx=>V.im (t.enc x))++A))=h'
   have z:h'.length=h.length:=by rw[<-w,bL,aK u]
   have L:∀y,y≠p->aq h' y=aq h y:=λy hy=>by rw[<-w,bG _ _ _ _ (cX u),az hy]
   obtain⟨N,B⟩:=a.gone hb j1 z L;have hLc:(bB ch b ae).length=ch.length:=O9 ..;obtain⟨f,j⟩:=N.jT (x:=.cu t l vs) (h':=h') (c:=p) (g:=Z+1) (m:=l.length+vs.length) (s:=t.wd) B (by omega) (by omega) (λy _ _=>rfl) (λv q=>by cases q) (λ_ _ _ _ q=>by cases q)
    ⟨p,Z+1,A,aK rfl,by rw[xl],by rw[<-w,bG _ _ _ _ (cX u),aK rfl,H],Q.Pj (Th N ..)⟩
   have e:k (.own (aA (bB ch b ae)) 0) (bB ch b ae++[ab (.cu t l vs)])=ab r:=e;rw[bn]at e;refine⟨_,_,.own (bB ch b ae).length 0,_,_,rfl,?_,j,⟨f,by simp,by omega,λi hi hw=>?_,AG (.inl ⟨b,j1⟩),λy hy hn=>L y (by grind)⟩,e⟩
   .simp only[VR];exact⟨t.wd,by rw[xl,bn,J],rfl⟩
   .rw [cT,az (by omega),Ho _ _ (by grind)]
  trivial
 trivial
theorem afc(d:HS M ch h){ts:Array Nat}{s x:CV}{Q x':V}(I:VR M s Q)(hx:VR M x x')(e:Ls E wb ts s x ch k=ab r):OS wb M ch h (uu E h.length ts Q x' h) k r:=by
 unfold Ls at e;replace e:=ay.1 e;obtain⟨ti,ht,e⟩:=e;unfold uu;rw[ht,ah];split at e
 .rename_i el hk;replace e:=ay.1 e;obtain⟨te,hte,e⟩:=e;replace e:=ay.1 e;obtain⟨tx,WC,e⟩:=e;simp only[hk];rw[hte,ah,WC,ah];cases hz:cq te te.zero with
  |false=>grind
  |true=>
   rw[hz,au]at e;rw[au];split at e
   .rename_i xa hxa;exact ae9 d I hx hxa e
   replace e:=ay.1 e;obtain⟨u,hu,e⟩:=e;replace e:=ay.1 e;obtain⟨new,a,e⟩:=e;unfold Y6 at a;split at a;case h_2=>trivial
   rename_i tel hkx;cases hw:ak u.wd te.size with
   |false=>grind
   |true=>
   rw[hw,au]at a;have f:=bR hw;obtain⟨d1,d2⟩:=UC d a hx;have hf:∀l:List u.den,gZ te.size (l.map u.enc)=ag:=λl=>by
    cases l with
    |nil=>rfl
    |cons y l=>show ak (u.enc y).wd te.size=ag;simp[m9,hw]
   have hsa:kD h Q=af:=by
    cases s with
    |fA=>simp only[VR]at I;subst I;rfl
    |own b n=>
     have e:(bif wb b then(match aB ch b with
      |some (.arr U c i l)=>bif ak n U then(Ty.cs (.ar i) (.ar u) l).bind λl=>bif bW (l.length+new.length) te.bytes then k (.own b (n+1)) (cG ch b (.arr (n+1) c u (l++new)))else ae else ae
      |_=>ae)else ae)=ab r:=e
     cases hw:wb b with
     |false=>grind
     |true=>
      rw[hw,au]at e;split at e
      .rename_i U c i l B;cases p:ak n U with
       |false=>grind
       |true=>
        rcases d.own B p I with⟨rfl,_⟩|⟨y,g,ro,_,rfl,H,_⟩
        .rfl
        .show (match aq h y with|some (.bN _ _ _)=>ag|_=>af)=af
         rw[H]
      trivial
    |fm t l=>simp only[VR]at I;subst I;rfl
    |da b n o m aR=>
     have e:(bif aR then(bif cC new then ae else(match aB ch b with
      |some (.arr U _ i l)=>bif ak n U then(Ty.cs (.ar i) (.ar u) l).bind λl=>bif bW (m+new.length) te.bytes then iq ch (.arr 0 af u (cK (fe o m l) new)) λb ch=>k (.own b 0) ch else ae else ae
      |_=>ae))else ae)=ab r:=e
     cases aR with
     |false=>cases e
     |true=>
      rw[au]at e;cases R:cC new with
      |true=>grind
      |false=>
       rw[R,ax]at e;split at e
       .rename_i U c i l B;cases p:ak n U with
        |false=>grind
        |true=>
         rcases d.da B p I with⟨rfl,_⟩|⟨y,g,ro,_,rfl,_,H,_⟩
         .rfl
         .show (match aq h y with|some (.bN _ _ _)=>ag|_=>af)=af
          rw[H]
       trivial
    |_=>cases e
   have K:oQ E te h.length tx Q x' h=uo te h.length Q (new.map u.enc) h:=by
    unfold oQ;have:u6 (E.kind tx)=af:=by rw[hkx];rfl
    rw[this,ax,hsa,d2,acF,ax];have:vj E te tx x' h=ab (new.map u.enc):=by
     unfold vj;grind
    grind
   rw[K];cases s with
   |fA=>
    simp only[VR]at I;subst I;have e:(bif bW new.length te.bytes then iq ch (.arr 0 af u new) λb ch=>k (.own b 0) ch else ae)=ab r:=e
    cases Z:bW new.length te.bytes with
    |false=>grind
    |true=>
     rw[Z,au]at e;show OS wb M ch h (bif gZ te.size []&&room (aA ([]:List D)+aA (new.map u.enc)) te.bytes then ab (.own h.length 0 0 (aA ([]:List D)+aA (new.map u.enc)) af,aD h h.length (.arr 0 te.size (bif isNone (new.map u.enc)then aA ([]:List D)else 0) ([]++new.map u.enc)))else ae) k r;have A:room (aA ([]:List D)+aA (new.map u.enc)) te.bytes=ag:=by
      grind[bn,gd,room,bW]
     have v:(bif isNone (new.map u.enc)then aA ([]:List D)else 0)=0:=by simp
     rw[A,v,<-f];exact OS.qR d u new 0 (by simp) e
   |own b n=>
    have e:(bif wb b then(match aB ch b with
     |some (.arr U c i l)=>bif ak n U then(Ty.cs (.ar i) (.ar u) l).bind λl=>bif bW (l.length+new.length) te.bytes then k (.own b (n+1)) (cG ch b (.arr (n+1) c u (l++new)))else ae else ae
     |_=>ae)else ae)=ab r:=e
    cases S:wb b with
    |false=>grind
    |true=>
     rw[S,au]at e;split at e
     .rename_i U c i P B;cases p:ak n U with
      |false=>rw[p,ax]at e;cases e
      |true=>
       rw[p,au]at e;replace e:=ay.1 e;obtain⟨l,T,e⟩:=e;obtain⟨w,J⟩:=jf T;cases w;have J:l=P:=J;subst J;have hnv:=bR p;subst hnv;cases Z:bW (l.length+new.length) te.bytes with
       |false=>rw[Z,ax]at e;cases e
       |true=>
        rw[Z,au]at e;have z:∀j,j< ch.length->wb j=af->aB (cG ch b (.arr (n+1) c u (l++new))) j=aB ch j:=λj _ hj=>by
         rw[fN _ _ _ _ (eY B),az (by intro q;subst q;rw[S]at hj;cases hj)]
        rcases d.own B p I with⟨rfl,rfl,L⟩|⟨y,g,ro,L,rfl,H,hc,F⟩
        .obtain ⟨N,O⟩:=d.born (l':=[]++new) B L;show OS wb M ch h (bif gZ te.size []&&room (aA ([]:List D)+aA (new.map u.enc)) te.bytes then ab (.own h.length 0 0 (aA ([]:List D)+aA (new.map u.enc)) af,aD h h.length (.arr 0 te.size (bif isNone (new.map u.enc)then aA ([]:List D)else 0) ([]++new.map u.enc)))else ae) k r;have A:room (aA ([]:List D)+aA (new.map u.enc)) te.bytes=ag:=by
          rw[bn,bn,gd];simpa[room,bW]using Z
         have v:(bif isNone (new.map u.enc)then aA ([]:List D)else 0)=0:=by cases isNone (new.map u.enc)<;>rfl
         rw[A,v,<-f];refine⟨_,_,.own b (n+1),_,_,rfl,?_,O,⟨N,by rw[eI];exact aJ _,by rw[bL];split<;>omega,z,yK,vB⟩,e⟩
         show∃s,_/\_;refine⟨u.wd,(aK ⟨rfl,rfl⟩).trans ?_,rfl⟩;simp
        .obtain ⟨N,O⟩:=d.grow (l':=l++new) (g:=g) B (by simp) L hc F
         show OS wb M ch h (match aq h y with
          |some (.arr W sz ro G)=>
           bif af then
            bif isNone (new.map u.enc)then ab (.own y g 0 l.length af,h)else
            bif dc g W 0 l.length G&&(ak sz te.size&&room (l.length+aA (new.map u.enc)) te.bytes)
            then ab (.own h.length 0 0 (l.length+aA (new.map u.enc)) af,aD h h.length (.arr 0 te.size 0 (eP G 0 l.length++new.map u.enc)))else ae
           else
            bif dc g W 0 l.length G&&(ak 0 0&&(bp ro l.length&&(ak sz te.size&&room (l.length+aA (new.map u.enc)) te.bytes)))
            then ab (.own y (g+1) 0 (l.length+aA (new.map u.enc)) af,aD h y (.arr (g+1) te.size ro (eP G 0 l.length++new.map u.enc)))else ae
          |_=>ae) k r
         rw[H];have a1:bp l.length l.length=ag:=kl (aJ _);have a2:bp ro l.length=ag:=kl F;have A:room (l.length+aA (new.map u.enc)) te.bytes=ag:=by
          rw[bn,gd];simpa[room,bW]using Z
         have a3:dc g g 0 l.length (l.map u.enc)=ag:=by simp[dc,a1]
         have a4:eP (l.map u.enc) 0 l.length=l.map u.enc:=by simp[eP]
         simp only[ax,a3,a2,A,a4,<-f,iZ,Kt,au];refine⟨_,_,.own b (n+1),_,_,rfl,?_,by rw[<-p8];exact O,⟨N,by rw[eI];exact aJ _,by rw[bL];split<;>omega,z,jZ,vD L (d.len _ _ L).2⟩,e⟩
         show∃s,_/\_;refine⟨u.wd,(aK ⟨rfl,rfl⟩).trans ?_,rfl⟩;rw[bn];simp
     .cases e
   |fm i P=>
    simp only[VR]at I;subst I;replace e:((Ty.cs (.ar i) (.ar u) P).bind λl=>bif bW (l.length+new.length) te.bytes then iq ch (.arr 0 (cC new) u (cK l new)) λb ch=>k (.own b 0) ch else ae)=ab r:=e
    replace e:=ay.1 e;obtain⟨l,T,e⟩:=e;obtain⟨w,J⟩:=jf T;cases w;have J:l=P:=J;subst J;cases Z:bW (l.length+new.length) te.bytes with
    |false=>rw[Z,ax]at e;cases e
    |true=>
     rw[Z,au]at e;show OS wb M ch h (bif gZ te.size (l.map u.enc)&&room (aA (l.map u.enc)+aA (new.map u.enc)) te.bytes then ab (.own h.length 0 0 (aA (l.map u.enc)+aA (new.map u.enc)) af,aD h h.length (.arr 0 te.size (bif isNone (new.map u.enc)then aA (l.map u.enc)else 0) (l.map u.enc++new.map u.enc)))else ae) k r;have A:room (aA (l.map u.enc)+aA (new.map u.enc)) te.bytes=ag:=by
      rw[bn,bn,gd,gd];simpa[room,bW]using Z
     rw[hf,A,<-f,<-p8];have F:cC new=af->(bif isNone (new.map u.enc)then aA (l.map u.enc)else 0)=0:=λq=>by
      cases new with
      |nil=>cases q
      |cons _ _=>rfl
     have X:(bif isNone (new.map u.enc)then aA (l.map u.enc)else 0)<=(l++new).length:=by
      rw[bn,gd,dD];cases isNone (new.map u.enc)
      .simp
      .simp
     refine OS.HE d u (l++new) 0 (cC new) _ F X (by rw[bn,bn];simp) e
   |da b n o m aR=>
    replace e:(bif aR then(bif cC new then ae else(match aB ch b with
     |some (.arr U _ i l)=>bif ak n U then(Ty.cs (.ar i) (.ar u) l).bind λl=>bif bW (m+new.length) te.bytes then iq ch (.arr 0 af u (cK (fe o m l) new)) λb ch=>k (.own b 0) ch else ae else ae
     |_=>ae))else ae)=ab r:=e
    cases aR with
    |false=>cases e
    |true=>
     rw[au]at e;cases R:cC new with
     |true=>rw[R,au]at e;cases e
     |false=>
      rw[R,ax]at e;have yj:isNone (new.map u.enc)=af:=by
       cases new with
       |nil=>cases R
       |cons _ _=>rfl
      split at e
      .rename_i U c i P B;cases p:ak n U with
       |false=>rw[p,ax]at e;cases e
       |true=>
        rw[p,au]at e;replace e:=ay.1 e;obtain⟨l,T,e⟩:=e;obtain⟨w,J⟩:=jf T;cases w;have J:l=P:=J;subst J;cases Z:bW (m+new.length) te.bytes with
        |false=>rw[Z,ax]at e;cases e
        |true=>
         rw[Z,au]at e;rcases d.da B p I with⟨rfl,rfl,_,rfl⟩|⟨y,g,ro,_,rfl,hm,H,_⟩
         .have L:fe o 0 ([]:List u.den)=[]:=by cases o<;>simp[fe,jm,va]
          rw[L]at e;show OS wb M ch h (bif gZ te.size []&&room (aA ([]:List D)+aA (new.map u.enc)) te.bytes then ab (.own h.length 0 0 (aA ([]:List D)+aA (new.map u.enc)) af,aD h h.length (.arr 0 te.size (bif isNone (new.map u.enc)then aA ([]:List D)else 0) ([]++new.map u.enc)))else ae) k r;have A:room (aA ([]:List D)+aA (new.map u.enc)) te.bytes=ag:=by
           rw[bn,bn,gd];simpa[room,bW]using Z
          have v:(bif isNone (new.map u.enc)then aA ([]:List D)else 0)=0:=by cases isNone (new.map u.enc)<;>rfl
          rw[A,v,<-f];exact OS.qR d u new 0 (by simp) e
         .have Y:o.getD 0+m<=(l.map u.enc).length:=by rw[gd];exact hm
          show OS wb M ch h (match aq h y with
           |some (.arr W sz ro G)=>
            bif ag then
             bif isNone (new.map u.enc)then ab (.own y g (o.getD 0) m ag,h)else
             bif dc g W (o.getD 0) m G&&(ak sz te.size&&room (m+aA (new.map u.enc)) te.bytes)
             then ab (.own h.length 0 0 (m+aA (new.map u.enc)) af,aD h h.length (.arr 0 te.size 0 (eP G (o.getD 0) m++new.map u.enc)))else ae
            else
             bif dc g W (o.getD 0) m G&&(ak (o.getD 0) 0&&(bp ro m&&(ak sz te.size&&room (m+aA (new.map u.enc)) te.bytes)))
             then ab (.own y (g+1) 0 (m+aA (new.map u.enc)) af,aD h y (.arr (g+1) te.size ro (eP G 0 m++new.map u.enc)))else ae
           |_=>ae) k r
          rw[H];have A:room (m+aA (new.map u.enc)) te.bytes=ag:=by
           rw[bn,gd];simpa[room,bW]using Z
          simp only[au,yj,ax,Bb Y,Mc Y,A,<-f,iZ,Kt];rw[<-xK,<-p8];refine OS.qR d u (fe o m l++new) 0 ?_ e;rw[bn,gd,dD,agw hm]
      .cases e
   |_=>cases e
 trivial
end
end Go.As
end
