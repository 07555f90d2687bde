/- A part of the proof. -/
import Derived.Test.YtlfolhmfdmcmiaaGreatDoorChecked
import Derived.WalkKit
import Derived.LaidEql
import Derived.Stop.Asserts
import Derived.RowKitTokens
import Derived.Deep.MidRow
set_option linter.all false
open Functor renaming map->ag8
open Go.IntKind renaming u8->aho
open Go.Result renaming andThen->BO
open Go.Sem renaming run_bind->kg
open Go.Value renaming int->ahw
open Go.World renaming cell?_alloc_at->ahx,cell?_alloc_lt->yp,frozen?_alloc_old->ML
open Option renaming none->ae,some->ab
noncomputable section
namespace Go.Proofs.YtlfolhmfdmcmiaaGreatDoor
section
open Go Go.Proofs Go.RowKit Go.Extern.Stop Go.Stop Go.Extern
theorem ajA(t:Value)(w:World):
  Calls Tryz.prog 107 #[.nilIface,t] w λe w'=>e=.returned (.bool false)/\w'=w:=by
 go_enter Tryz.func107,Tryz.ntmps107
 go_wp2
 go_ret
 exact⟨rfl,rfl⟩
theorem aiY(t:Addr)(w:World):(ReflectliteValue.unpack (.iface 171 (.pointer (ab t)))).run Tryz.prog w
  =.ok (.agg #[.pointer (ab ⟨3,171,ae⟩),.pointer (ab ⟨w.heap.size,0,ae⟩),.int .u64 150]) (w.alloc (.cells #[.pointer (ab t)] 171)):=by kernel_rfl
theorem aiV(a:Addr)(w:World):(ReflectliteValue.methodAny (ReflectliteValue.valueError "reflectlite.Value.Type" 0) (λt _ _ _=>ReflectliteType.toType t) #[.agg #[.pointer (some ⟨3,171,none⟩),.pointer (some a),.int .u64 150]]).run Tryz.prog w
  =.ok (.iface 270 (.agg #[.pointer (ab ⟨3,171,ae⟩)])) w:=by kernel_rfl
theorem aiQ(h:Value)(w:World):(Go.method 526 270 (.agg #[h]) "Kind").run Tryz.prog w=.ok (387,h) w:=by kernel_rfl
theorem aiM(w:World):((ReflectliteType.abiMethod λt=>ag8 (λa:Nat=>ahw aho (a:Int)) (Rtype.kind t)) #[.pointer (ab ⟨3,171,ae⟩)]).run Tryz.prog w=.ok (.int .u8 22) w:=by kernel_rfl
theorem aiL(w:World):((ReflectliteType.abiMethod λt=>ag8 (λa:Nat=>ahw aho (a:Int)) (Rtype.kind t)) #[.pointer (ab ⟨3,169,ae⟩)]).run Tryz.prog w=.ok (.int .u8 25) w:=by kernel_rfl
theorem rlm(z:Sem Value)(f:TypeId->Addr->Nat->Nat->Sem Value)(v:Value):
  ReflectliteValue.method z f #[v]=(do match<-ReflectliteValue.parts v with|none=>z|some (t,a,fl)=>f t a fl (fl%32)):=rfl
theorem VT(a:Addr)(w:World):(ReflectliteValue.parts (.agg #[.pointer (ab ⟨3,171,ae⟩),.pointer (ab a),.int .u64 150])).run Tryz.prog w=.ok (ab (171,a,150)) w:=by kernel_rfl
theorem aiK(a p:Addr)(W:World)(A:W.cell? a=ab (.pointer (ab p))):
  (ReflectliteValue.method (ReflectliteValue.valueError "reflectlite.Value.IsNil" 0) ReflectliteValue.isNil #[.agg #[.pointer (some ⟨3,171,none⟩),.pointer (some a),.int .u64 150]]).run Tryz.prog W=.ok (.bool false) W:=by
 rw[rlm]
 simp only[kg,VT,BO]
 simp[ReflectliteValue.isNil,loadVar,isAgg,underlying,Tryz.underlying171,A,BO]
theorem aiO(h:Value)(w:World):(Go.method 526 270 (.agg #[h]) "Elem").run Tryz.prog w=.ok (398,.agg #[h]) w:=by kernel_rfl
theorem aiP(h:Value)(w:World):(Go.method 526 270 (.agg #[h]) "Implements").run Tryz.prog w=.ok (399,.agg #[h]) w:=by kernel_rfl
theorem aiN(h:Value)(w:World):(Go.method 526 270 (.agg #[h]) "AssignableTo").run Tryz.prog w=.ok (396,.agg #[h]) w:=by kernel_rfl
theorem aiG(w:World):(ReflectliteType.method ReflectliteType.elem #[.agg #[.pointer (ab ⟨3,171,ae⟩)]]).run Tryz.prog w=.ok (.iface 270 (.agg #[.pointer (ab ⟨3,169,ae⟩)])) w:=by kernel_rfl
theorem aiJ(w:World):(ReflectliteType.relation "Implements" ReflectliteType.implements_ #[.agg #[.pointer (some ⟨3,169,none⟩)],.iface 270 (.agg #[.pointer (some ⟨3,166,none⟩)])]).run Tryz.prog w=.ok (.bool true) w:=by kernel_rfl
theorem aiW(v:Value)(w:World):(ReflectliteType.typeOf #[.iface 169 v]).run Tryz.prog w=.ok (.iface 270 (.agg #[.pointer (ab ⟨3,169,ae⟩)])) w:=by kernel_rfl
theorem aiE(w:World):(ReflectliteType.relation "AssignableTo" ReflectliteType.assignableTo #[.agg #[.pointer (some ⟨3,169,none⟩)],.iface 270 (.agg #[.pointer (some ⟨3,169,none⟩)])]).run Tryz.prog w=.ok (.bool true) w:=by kernel_rfl
theorem aiX(c0 c1:Value)(w:World):(ReflectliteValue.unpack (.iface 169 (.agg #[c0,c1]))).run Tryz.prog w
  =.ok (.agg #[.pointer (ab ⟨3,169,ae⟩),.pointer (ab ⟨w.heap.size,0,ae⟩),.int .u64 153]) (w.alloc (.cells #[c0,c1] 169)):=by kernel_rfl
theorem aiH(w:World):(Rtype.elem? 171).run Tryz.prog w=.ok (ab 169) w:=by kernel_rfl
theorem aiR(p:Addr)(w:World):(ReflectliteValue.mk 169 p ReflectliteValue.flagAddr).run Tryz.prog w=.ok (.agg #[.pointer (ab ⟨3,169,ae⟩),.pointer (ab p),.int .u64 409]) w:=by kernel_rfl
theorem aiI(a p:Addr)(W:World)(A:W.cell? a=ab (.pointer (ab p))):
  (ReflectliteValue.method (ReflectliteValue.valueError "reflectlite.Value.Elem" 0) ReflectliteValue.elem #[.agg #[.pointer (some ⟨3,171,none⟩),.pointer (some a),.int .u64 150]]).run Tryz.prog W
   =.ok (.agg #[.pointer (ab ⟨3,169,ae⟩),.pointer (ab p),.int .u64 409]) W:=by
 rw[rlm]
 simp only[kg,VT,BO]
 simp[ReflectliteValue.elem,loadVar,isAgg,underlying,Tryz.underlying171,A,BO,aiH,aiR]
theorem rls(v x:Value):ReflectliteValue.set #[v,x]=(do
  let(ab (dst,a,fl),ab (src,b,_)):=(<-ReflectliteValue.parts v,<-ReflectliteValue.parts x)
   |unsupported (.noEntry "extern/(internal/reflectlite.Value).Set.zeroValue")
  if fl/ReflectliteValue.flagAddr%2==0 then unsupported (.noEntry "extern/(internal/reflectlite.Value).Set.unaddressable")
  let val<-loadVar src b
  if<-Rtype.directlyAssignable dst src then storeVar dst a val
  else if<-Rtype.implements dst src then
   if(<-Rtype.kind src)==20 then
    match val with
    |.nilIface=>unsupported (.noEntry "extern/reflectlite: a nil value of one interface type handed on as a value of another")
    |_=>storeVar dst a val
   else storeVar dst a (.iface src val)
  else panicString ("reflectlite.Set: value of type " ++(←Rtype.spelt src)++ " is not assignable to type " ++(←Rtype.spelt dst))
  pure (.tuple #[])):=rfl
theorem aiT(a:Addr)(w:World):(ReflectliteValue.parts (.agg #[.pointer (ab ⟨3,169,ae⟩),.pointer (ab a),.int .u64 409])).run Tryz.prog w=.ok (ab (169,a,409)) w:=by kernel_rfl
theorem aiS(a:Addr)(w:World):(ReflectliteValue.parts (.agg #[.pointer (ab ⟨3,169,ae⟩),.pointer (ab a),.int .u64 153])).run Tryz.prog w=.ok (ab (169,a,153)) w:=by kernel_rfl
theorem aiF(w:World):(Rtype.directlyAssignable 169 169).run Tryz.prog w=.ok true w:=by kernel_rfl
theorem awZ(w:World):(sizeOf 169).run Tryz.prog w=.ok 2 w:=by kernel_rfl
theorem aiU(b o s:Nat)(c0 c1:Value)(W:World)(A:W.rangeAt s 0 [c0,c1])(I:W.there b o 2)(J:c0.oneCell'=true)(h1:c1.oneCell'=true):
  (ReflectliteValue.set #[.agg #[.pointer (ab ⟨3,169,ae⟩),.pointer (ab ⟨b,o,ae⟩),.int .u64 409],.agg #[.pointer (ab ⟨3,169,ae⟩),.pointer (ab ⟨s,0,ae⟩),.int .u64 153]]).run Tryz.prog W
   =.ok (.tuple #[]) (W.setCells b o [c0,c1]):=by
 have U:=run_loadVar_mid (P:=Tryz.prog) W s 0 169 [c0,c1] _ A Tryz.underlying169 rfl (by kernel_rfl)
 have Z:=run_storeVar_mid (P:=Tryz.prog) W b o 169 #[c0,c1] I (by kernel_rfl) (by simp[J,h1])
 rw[rls]
 simp only[kg,aiT,aiS,BO]
 simp[ReflectliteValue.flagAddr,U,aiF,Z,BO]
set_option maxHeartbeats 4000000 in
theorem ajz(b o:Nat)(c0 c1:Value)(w:World)(U:b< w.heap.size)(a:w.there b o 2)(I:c0.oneCell'=true)(h1:c1.oneCell'=true)(Z:w.cell? ⟨0,0,ae⟩=ab (.iface 270 (.agg #[.pointer (ab ⟨3,166,ae⟩)]))):
  Calls Tryz.prog 107 #[.iface 169 (.agg #[c0,c1]),.iface 171 (.pointer (ab ⟨b,o,ae⟩))] w λev w'=>ev=.returned (.bool true)/\w'=((((w.alloc (.cells #[.pointer (ab ⟨b,o,ae⟩)] 171)).alloc (.cells #[.pointer (ab ⟨3,171,ae⟩),.pointer (ab ⟨w.heap.size,0,ae⟩),.int .u64 150] 215)).alloc (.cells #[.pointer (ab ⟨3,171,ae⟩),.pointer (ab ⟨w.heap.size,0,ae⟩),.int .u64 150] 215)).alloc (.cells #[c0,c1] 169)).setCells b o [c0,c1]:=by
 have x:=@run_callFunc_extern Tryz.prog 150 _ (λargs=>ReflectliteValue.unpack (args.getD 0 (.tuple #[]))) Tryz.func150 (by kernel_rfl) (by kernel_rfl) (by kernel_rfl) (by kernel_rfl)
 have y:=@run_callFunc_extern Tryz.prog 151 _ (ReflectliteValue.methodAny (ReflectliteValue.valueError "reflectlite.Value.Type" 0) (λt _ _ _=>ReflectliteType.toType t)) Tryz.func151 (by kernel_rfl) (by kernel_rfl) (by kernel_rfl) (by kernel_rfl)
 have z:=@run_callFunc_extern Tryz.prog 152 _ (ReflectliteValue.method (ReflectliteValue.valueError "reflectlite.Value.IsNil" 0) ReflectliteValue.isNil) Tryz.func152 (by kernel_rfl) (by kernel_rfl) (by kernel_rfl) (by kernel_rfl)
 have c:=@run_callFunc_extern Tryz.prog 387 _ (ReflectliteType.abiMethod λt=>do pure (.int .u8 (<-Rtype.kind t))) Tryz.func387 (by kernel_rfl) (by kernel_rfl) (by kernel_rfl) (by kernel_rfl)
 have d:=@run_callFunc_extern Tryz.prog 398 _ (ReflectliteType.method ReflectliteType.elem) Tryz.func398 (by kernel_rfl) (by kernel_rfl) (by kernel_rfl) (by kernel_rfl)
 have e:=@run_callFunc_extern Tryz.prog 399 _ (ReflectliteType.relation "Implements" ReflectliteType.implements_) Tryz.func399 (by kernel_rfl) (by kernel_rfl) (by kernel_rfl) (by kernel_rfl)
 have f:=@run_callFunc_extern Tryz.prog 207 _ ReflectliteType.typeOf Tryz.func207 (by kernel_rfl) (by kernel_rfl) (by kernel_rfl) (by kernel_rfl)
 have g:=@run_callFunc_extern Tryz.prog 396 _ (ReflectliteType.relation "AssignableTo" ReflectliteType.assignableTo) Tryz.func396 (by kernel_rfl) (by kernel_rfl) (by kernel_rfl) (by kernel_rfl)
 have i:=@run_callFunc_extern Tryz.prog 208 _ (ReflectliteValue.method (ReflectliteValue.valueError "reflectlite.Value.Elem" 0) ReflectliteValue.elem) Tryz.func208 (by kernel_rfl) (by kernel_rfl) (by kernel_rfl) (by kernel_rfl)
 have k:=@run_callFunc_extern Tryz.prog 209 _ ReflectliteValue.set Tryz.func209 (by kernel_rfl) (by kernel_rfl) (by kernel_rfl) (by kernel_rfl)
 have B:=aiW
 have C:=aiN
 have l:=aiE
 have m:=aiX
 have f6:=aiY
 have f7:=aiV
 have D:=aiQ
 have E:=aiO
 have F:=aiP
 have n:=aiM
 have p:=aiL
 have q:=aiG
 have r:=aiJ
 have G:=aiK ⟨w.heap.size,0,ae⟩ ⟨b,o,ae⟩ ((w.alloc (.cells #[.pointer (ab ⟨b,o,ae⟩)] 171)).alloc (.cells #[.pointer (ab ⟨3,171,ae⟩),.pointer (ab ⟨w.heap.size,0,ae⟩),.int .u64 150] 215)) (by simp)
 have J:0< w.heap.size:=by
  rcases Nat.eq_zero_or_pos w.heap.size with I|h
  .simp [World.cell?,I]at Z
  .exact h
 have s:((w.alloc (.cells #[.pointer (ab ⟨b,o,ae⟩)] 171)).alloc (.cells #[.pointer (ab ⟨3,171,ae⟩),.pointer (ab ⟨w.heap.size,0,ae⟩),.int .u64 150] 215)).cell? ⟨0,0,ae⟩=ab (.iface 270 (.agg #[.pointer (ab ⟨3,166,ae⟩)])):=by
  rw[yp _ _ ⟨0,0,ae⟩ (by simp),yp _ _ ⟨0,0,ae⟩ J];exact Z
 have el:=aiI ⟨w.heap.size,0,ae⟩ ⟨b,o,ae⟩ (((w.alloc (.cells #[.pointer (ab ⟨b,o,ae⟩)] 171)).alloc (.cells #[.pointer (ab ⟨3,171,ae⟩),.pointer (ab ⟨w.heap.size,0,ae⟩),.int .u64 150] 215)).alloc (.cells #[.pointer (ab ⟨3,171,ae⟩),.pointer (ab ⟨w.heap.size,0,ae⟩),.int .u64 150] 215)) (by rw[yp _ _ ⟨w.heap.size,0,ae⟩ (by simp;omega)];simp)
 have st:=aiU b o (w.heap.size+1+1+1) c0 c1 ((((w.alloc (.cells #[.pointer (ab ⟨b,o,ae⟩)] 171)).alloc (.cells #[.pointer (ab ⟨3,171,ae⟩),.pointer (ab ⟨w.heap.size,0,ae⟩),.int .u64 150] 215)).alloc (.cells #[.pointer (ab ⟨3,171,ae⟩),.pointer (ab ⟨w.heap.size,0,ae⟩),.int .u64 150] 215)).alloc (.cells #[c0,c1] 169))
  (λj v A=>by
   match j,A with
   |0,A=>cases A;rw[ahx _ _ _ _ (by simp)];rfl
   |1,A=>cases A;rw[ahx _ _ _ _ (by simp)];rfl)
  (λj u=>by
   have:=a j u
   refine⟨?_,?_⟩
   .rw [yp _ _ ⟨b,o+j,ae⟩ (by simp;omega),yp _ _ ⟨b,o+j,ae⟩ (by simp;omega),yp _ _ ⟨b,o+j,ae⟩ (by simp;omega),yp _ _ ⟨b,o+j,ae⟩ U];exact this.1
   .rw [ML _ _ ⟨b,o+j,ae⟩ (by simp;omega),ML _ _ ⟨b,o+j,ae⟩ (by simp;omega),ML _ _ ⟨b,o+j,ae⟩ (by simp;omega),ML _ _ ⟨b,o+j,ae⟩ (Nat.ne_of_lt U)];exact this.2) I h1
 go_enter Tryz.func107,Tryz.ntmps107
 go_wp2
 refine wp_loop_rounds 1 ?_
 rw[rounds_succ]
 go_wp2
 go_ret
 exact⟨rfl,rfl⟩
end
end Go.Proofs.YtlfolhmfdmcmiaaGreatDoor
end
