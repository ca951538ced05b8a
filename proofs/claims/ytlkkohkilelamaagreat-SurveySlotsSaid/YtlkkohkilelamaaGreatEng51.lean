import Derived.Test.YtlkkohkilelamaaGreatEng31
import Derived.Test.YtlkkohkilelamaaGreatEng45
set_option linter.unusedSimpArgs false
set_option linter.unusedVariables false
/- A part of the proof of SurveySlots. -/
namespace Go.Eng
open Go Go.RowKit
inductive CP where
 |int (k:IntKind)
 |con (k:IntKind) (n:Int)
 |bool
 |str (n:Nat)
 |nm (i:Nat)
 |nil
def cT{α β:Type}(R:α->β->Prop):Z8 α->Z8 β->Prop
 |[],[]=>True
 |a::r,b::s=>R a b/\cT R r s
 |_,_=>False
theorem cT.len{α β:Type}{R:α->β->Prop}:∀{l:Z8 α} {m:Z8 β},cT R l m->l.length=m.length
 |[],[],_=>rfl
 |_::_,_::_,h=>by simp[cT.len h.2]
 |[],_::_,h=>h.elim
 |_::_,[],h=>h.elim
theorem cT.imp{α β:Type}{R S:α->β->Prop}(hi:∀a b,R a b->S a b):∀{l:Z8 α} {m:Z8 β},cT R l m->cT S l m
 |[],[],_=>trivial
 |_::_,_::_,h=>⟨hi _ _ h.1,cT.imp hi h.2⟩
 |[],_::_,h=>h.elim
 |_::_,[],h=>h.elim
theorem cT.at{α β:Type}{R:α->β->Prop}:∀{l:Z8 α} {m:Z8 β} {i:Nat} {a:α},cT R l m->l[i]? =some a-> ∃b,m[i]? =some b/\R a b
 |_::_,b::_,0,_,h,e=>by simp at e;subst e;exact⟨b,J,h.1⟩
 |_::_,_::_,_+1,_,h,e=>by
  obtain⟨b,h1,h2⟩:=cT.at h.2 (by simpa using e)
  exact⟨b,by simpa using h1,h2⟩
 |[],_,_,_,_,e=>by simp at e
 |_::_,[],_,_,h,_=>h.elim
theorem ng(k:IntKind)(n:Int):k.has (k.wrap n):=by unfold IntKind.has IntKind.wrap;cases k<;>simp[IntKind.min,IntKind.max,IntKind.bits,IntKind.signed]<;>(try split)<;>omega
def CP.denP(P:Nat->Vw->Z7->Prop)(V:Vw):CP->Z7->Prop
 |.int k,v=>∃n,v=.int k n/\k.has n
 |.con k n,v=>v=.int k n/\k.has n
 |.bool,v=>∃b,v=.bool b
 |.str m,v=>∃s:Z5,v=.string s/\s.size<=m
 |.nm i,v=>P i V v
 |.nil,v=>v=.slice none 0 0
inductive NK where
 |sl
 |int (k:IntKind)
 |str (m:Nat)
def NK.den(V:Vw):NK->Z7->Prop
 |.sl,v=>∃(sz n:Nat) (xs:Z8 Z7),(n:Int)<=9223372036854775807/\eL V v sz n xs
 |.int k,v=>∃n,v=.int k n/\k.has n
 |.str m,v=>∃s:Z5,v=.string s/\s.size<=m
structure Facts where
 P:Nat->Vw->Value->Prop
 mono:∀{i V V' v},V.le V'->P i V v->P i V' v
 kd:Nat->NK
 kdOk:∀{i V v},P i V v->(kd i).den V v
 con:Nat->Value->Bool
 conOk:∀{i v} V,con i v=true->P i V v
 inh:Nat->Bool
 inhOk:∀{i} V,inh i=true-> ∃v,P i V v
 nil:Nat->Bool
 nilOk:∀{i} V,nil i=true->P i V (.slice none 0 0)
 le:Nat->Nat->Bool
 leOk:∀{i j V v},le i j=true->P i V v->P j V v
 J9q:Nat->Vw->List Value->Prop
 jmono:∀{i V V' xs},V.le V'->J9q i V xs->J9q i V' xs
 joint:Nat->List CP->Bool
 jointOk:∀{i V l xs},joint i l=true->cT (CP.denP P V) l xs->J9q i V xs
 row:Nat->Nat->List CP->Option Nat
 rowOk:∀{e len l i V b vs},row e len l=some i->V.get b=some (.cells vs.toArray e (0,0))->cT (CP.denP P V) l vs->P i V (.slice (some ⟨b,0,none⟩) len len)
 jle:Nat->Nat->Bool
 jleOk:∀{i j V xs},jle i j=true->J9q i V xs->J9q j V xs
def ol{α:Type}:Nat->Nat->Z8 α->Z4 (Z8 α)
 |0,0,_=>some []
 |0,n+1,x::r=>match ol 0 n r with
  |some l=>some (x::l)
  |none=>none
 |o+1,n,_::r=>ol o n r
 |0,_+1,[]=>none
 |_+1,_,[]=>none
abbrev CP.den(Φ:Facts)(V:Vw):CP->Z7->Prop:=CP.denP Φ.P V
variable{Φ:Facts}{V V':Vw}
theorem CP.den_mono(h:V.le V'){c:CP}{v:Z7}(d:c.den Φ V v):c.den Φ V' v:=by
 cases c with
 |nm i=>exact Φ.mono h d
 |_=>exact d
theorem CP.one{c:CP}{v:Z7}(d:c.den Φ V v):v.oneCell'=true:=by
 cases c with
 |int k=>obtain⟨n,rfl,_⟩:=d;rfl
 |con k n=>obtain⟨rfl,_⟩:=d;rfl
 |bool=>obtain⟨b,rfl⟩:=d;rfl
 |str m=>obtain⟨s,rfl,_⟩:=d;rfl
 |nil=>cases d;rfl
 |nm i=>
  have h:=Φ.kdOk d;cases l:Φ.kd i with
  |sl=>rw[l]at h;obtain⟨sz,n,xs,_,h⟩:=h;rcases h.2 with⟨a,c,rfl,_⟩|⟨b,off,o,cs,e,p,rfl,_⟩<;>rfl
  |int k=>rw[l]at h;obtain⟨n,rfl,_⟩:=h;rfl
  |str m=>rw[l]at h;obtain⟨n,rfl,_⟩:=h;rfl
theorem CP.notAgg{c:CP}{v:Z7}(d:c.den Φ V v)(cs:Array Z7):v≠ .agg cs:=λe=>by have:=CP.one d;rw[e]at this;cases this
def CP.le(Φ:Facts):CP->CP->Bool
 |.int k,.int k'=>j9 k k'
 |.con k n,.int k'=>j9 k k'
 |.con k n,.con k' n'=>j9 k k'&&decide (n=n')
 |.bool,.bool=>true
 |.str a,.str b=>Nat.ble a b
 |.nm i,.nm j=>Nat.beq i j||Φ.le i j
 |.nm i,.int k'=>match Φ.kd i with
  |.int k=>j9 k k'
  |_=>false
 |.nm i,.str b=>match Φ.kd i with
  |.str a=>Nat.ble a b
  |_=>false
 |.con k n,.nm j=>Φ.con j (.int k n)
 |.str 0,.nm j=>Φ.con j (.string ByteArray.empty)
 |.nil,.nm j=>Φ.nil j
 |.nil,.nil=>true
 |_,_=>false
theorem CP.le_ok{a b:CP}{v:Z7}(h:a.le Φ b=true)(d:a.den Φ V v):b.den Φ V v:=by unfold CP.le at h;split at h;{have:=mZ.1 h;subst this;exact d};{have:=mZ.1 h;subst this;exact⟨_,d⟩};{simp at h;obtain⟨p,rfl⟩:=h;have:=mZ.1 p;subst this;exact d};{exact d};{obtain⟨s,rfl,m⟩:=d;exact⟨s,J,ZC m (Yz h)⟩};{simp only[Zv]at h;(rcases h with h|h);{have:=ZM h;subst this;exact d};exact Φ.leOk h d};{have l:=Φ.kdOk d;split at h;{rename_i o;rw[o]at l;have:=mZ.1 h;subst this;exact l};cases h};{have l:=Φ.kdOk d;split at h;{rename_i o;rw[o]at l;obtain⟨s,rfl,m⟩:=l;exact⟨s,J,ZC m (Yz h)⟩};cases h};{obtain⟨rfl,_⟩:=d;exact Φ.conOk V h};{obtain⟨s,rfl,m⟩:=d;(have:s=ByteArray.empty:=by simp_all);subst this;exact Φ.conOk V h};{cases d;exact Φ.nilOk V h};{exact d};cases h
inductive AC where
 |c (p:CP)
 |ptr (l off:Nat)
inductive PT where
 |one (p:CP)
 |agg (l:List CP)
 |opq (i:Nat) (l:List CP)
abbrev AL:=Z8 AC×Z4 Nat
inductive AV where
 |a (x:AC)
 |agg (l:AL)
 |vagg (l:List CP)
 |vopq (i:Nat) (l:List CP)
 |tup (l:List PT)
section
variable(Φ:Facts)(V:Vw)
def AC.rel:AC->A->Prop
 |.c p,x=>∃v,x=.v v/\p.den Φ V v
 |.ptr l o,x=>x=.ptr l o
def E7(j:Z4 Nat)(cs:Z8 A):Prop:= ∀i,j=some i-> ∃vs,mj cs=some vs/\Φ.J9q i V vs
def AL.rel(x:AL)(cs:Z8 A):Prop:=cT (AC.rel Φ V) x.1 cs/\E7 Φ V x.2 cs
def PT.den:PT->Z7->Prop
 |.one p,v=>p.den Φ V v
 |.agg l,v=>∃xs:Z8 Z7,v=.agg xs.toArray/\cT (CP.den Φ V) l xs
 |.opq i l,v=>∃xs:Z8 Z7,v=.agg xs.toArray/\cT (CP.den Φ V) l xs/\Φ.J9q i V xs
def AV.rel:AV->SV->Prop
 |.a x,s=>∃y,s=.a y/\x.rel Φ V y
 |.agg l,s=>∃cs,s=.agg cs/\AL.rel Φ V l cs
 |.vagg l,s=>∃xs:Z8 Z7,s=.a (.v (.agg xs.toArray))/\cT (CP.den Φ V) l xs
 |.vopq i l,s=>∃xs:Z8 Z7,s=.a (.v (.agg xs.toArray))/\cT (CP.den Φ V) l xs/\Φ.J9q i V xs
 |.tup l,s=>∃vs:Z8 Z7,s=.a (.v (.tuple vs.toArray))/\cT (PT.den Φ V) l vs
end
theorem AC.mono(h:V.le V'){c:AC}{x:A}(d:c.rel Φ V x):c.rel Φ V' x:=by
 cases c with
 |c p=>obtain⟨v,rfl,m⟩:=d;exact⟨v,J,CP.den_mono h m⟩
 |ptr l o=>exact d
theorem PT.mono(h:V.le V'){c:PT}{x:Z7}(m:c.den Φ V x):c.den Φ V' x:=by
 cases c with
 |one p=>exact CP.den_mono h m
 |agg l=>obtain⟨xs,rfl,d⟩:=m;exact⟨xs,J,d.imp λ_ _=>CP.den_mono h⟩
 |opq i l=>obtain⟨xs,rfl,d,o⟩:=m;exact⟨xs,J,d.imp λ_ _=>CP.den_mono h,Φ.jmono h o⟩
theorem AL.mono(h:V.le V'){x:AL}{cs:Z8 A}(d:AL.rel Φ V x cs):AL.rel Φ V' x cs:=
 ⟨d.1.imp λ_ _=>AC.mono h,λi e=>by obtain⟨l,o,m⟩:=d.2 i e;exact⟨l,o,Φ.jmono h m⟩⟩
theorem pD{cs:Z8 A}:E7 Φ V none cs:=λi h=>by cases h
theorem BE:∀xs:Z8 Z7,mj (xs.map .v)=some xs
 |[]=>rfl
 |x::r=>by simp only[Zq,mj,BE r]
theorem AV.mono(h:V.le V'){c:AV}{x:SV}(m:c.rel Φ V x):c.rel Φ V' x:=by
 cases c with
 |a p=>obtain⟨v,rfl,d⟩:=m;exact⟨v,J,AC.mono h d⟩
 |agg l=>obtain⟨xs,rfl,d⟩:=m;exact⟨xs,J,AL.mono h d⟩
 |vagg l=>obtain⟨xs,rfl,d⟩:=m;exact⟨xs,J,d.imp λ_ _=>CP.den_mono h⟩
 |vopq i l=>obtain⟨xs,rfl,d,o⟩:=m;exact⟨xs,J,d.imp λ_ _=>CP.den_mono h,Φ.jmono h o⟩
 |tup l=>obtain⟨xs,rfl,d⟩:=m;exact⟨xs,J,d.imp λ_ _=>PT.mono h⟩
def uS:Z7->Z4 CP
 |.int k n=>bif decide (k.min<=n)&&decide (n<=k.max)then some (.con k n)else none
 |.bool _=>some .bool
 |.string s=>some (.str s.size)
 |.slice none 0 0=>some .nil
 |_=>none
theorem CO{v:Z7}{c:CP}(h:uS v=some c):c.den Φ V v:=by
 unfold uS at h;split at h
 .rename_i k n;cases d:(decide (k.min<=n)&&decide (n<=k.max))with
  |false=>rw[d]at h;cases h
  |true=>rw[d]at h;cases h;simp at d;exact⟨J,d⟩
 {cases h;exact⟨_,J⟩};{cases h;exact⟨_,J,ZS _⟩};{cases h;rfl};cases h
structure AEnt where
 path:List (Nat×Bool)
 av:AV
abbrev AF:=Z8 (Nat×AEnt)
abbrev AO:=Z8 (Nat×AL×Nat)
def fE(Φ:Facts)(V:Vw)(G:AF)(F:cy):Prop:= ∀t e,lk G t=some e-> ∃g x,lk F t=some ⟨e.path,g,x⟩/\e.av.rel Φ V x
def jl(Φ:Facts)(V:Vw)(H:AO)(O:Own):Prop:= ∀l x,lk H l=some x-> ∃cs,lk O l=some (.lit cs x.2)/\AL.rel Φ V x.1 cs
theorem fE.mono(h:V.le V'){G:AF}{F:cy}(l:fE Φ V G F):fE Φ V' G F:=λt e o=>by obtain⟨g,x,m,d⟩:=l t e o;exact⟨g,x,m,AV.mono h d⟩
theorem jl.mono(h:V.le V'){G:AO}{F:Own}(l:jl Φ V G F):jl Φ V' G F:=λt e o=>by obtain⟨cs,m,d⟩:=l t e o;exact⟨cs,m,AL.mono h d⟩
theorem fE.put{G:AF}{F:cy}(o:fE Φ V G F){d:Nat}{p:Z8 (Nat×Bool)}{av:AV}{g:Bool}{x:SV}(y:av.rel Φ V x):fE Φ V ((d,⟨p,av⟩)::G) ((d,⟨p,g,x⟩)::F):=λt e l=>by rw[fm]at l;by_cases hd:d=t;{subst hd;simp at l;subst l;exact⟨g,x,dF _ _ _,y⟩};simp only[hd,Zt]at l;obtain⟨z,w,u,m⟩:=o t e l;exact⟨z,w,by rw[gB _ _ hd];exact u,m⟩
theorem jl.put{G:AO}{F:Own}(u:jl Φ V G F){d:Nat}{l:AL}{ty:Nat}{cs:Z8 A}(y:AL.rel Φ V l cs):jl Φ V ((d,l,ty)::G) ((d,.lit cs ty)::F):=λt e m=>by rw[fm]at m;by_cases hd:d=t;{subst hd;simp at m;subst m;exact⟨cs,dF _ _ _,y⟩};simp only[hd,Zt]at m;obtain⟨o,w,p⟩:=u t e m;exact⟨o,by rw[gB _ _ hd];exact w,p⟩
def gm(G:AF)(p:Z8 (Nat×Bool)):Operand->Z4 AV
 |.tmp t=>match lk G t with
  |some e=>bif ni e.path p then some e.av else none
  |none=>none
 |.const v=>match uS v with
  |some c=>some (.a (.c c))
  |none=>none
 |_=>none
theorem gL{G:AF}{F:cy}(u:fE Φ V G F){p:Z8 (Nat×Bool)}{o:Operand}{av:AV}(h:gm G p o=some av):∃s,cV F p o=some s/\av.rel Φ V s:=by
 cases o with
 |tmp t=>
  simp only[gm]at h;split at h
  .rename_i e l;obtain⟨g,x,w,m⟩:=u t e l;cases d:ni e.path p with
   |false=>rw[d]at h;cases h
   |true=>rw[d]at h;cases h;exact⟨x,by simp only[cV,w,d,Za],m⟩
  cases h
 |const v=>simp only[gm]at h;split at h;{rename_i c y;cases h;exact⟨_,J,_,J,v,J,CO y⟩};cases h
 |_=>cases h
def lS(ops:Array Oper)(G:AF)(C:Z8 Nat):Z4 (Nat×Bool)->Z4 (Z8 (Nat×Bool)×Z8 Nat)
 |none=>some ([],C)
 |some (j,want)=>match ops[j]? with
  |some oj=>match oj.dst with
   |some s=>match lk G s with
    |some ⟨pj,.a (.c .bool)⟩=>some ((s,want)::pj,s::C)
    |_=>none
   |none=>none
  |none=>none
theorem vA{ops:Array Oper}{G:AF}{F:cy}(w:fE Φ V G F){C m:Z8 Nat}{p:Z8 (Nat×Bool)}{d:Z4 (Nat×Bool)}(h:lS ops G C d=some (p,m)):∃g,gd ops F C d=some (p,g,m):=by
 cases d with
 |none=>cases h;exact⟨true,J⟩
 |some jw=>obtain⟨j,l⟩:=jw;simp only[lS]at h;split at h;{rename_i E o;split at h;{rename_i s B;split at h;{rename_i u t;cases h;obtain⟨g,x,z,y,rfl,v,rfl,b,rfl⟩:=w s _ t;cases u<;>cases l<;>simp only[gd,o,B,z]<;>exact⟨_,J⟩};cases h};cases h};cases h
theorem yo{R:AC->A->Prop}:∀{o n:Nat} {l r:Z8 AC} {cs:Z8 A},cT R l cs->ol o n l=some r-> ∃r',nf o n cs=some r'/\cT R r r'
 |0,0,_,r,cs,_,h=>by simp[ol]at h;subst h;exact⟨[],J,ZY⟩
 |0,n+1,x::l,r,y::cs,ha,h=>by
  simp only[ol]at h
  split at h
  ·
   rename_i q hq
   cases h
   obtain⟨r',h1,h2⟩:=yo ha.2 hq
   refine⟨y::r',?_,ha.1,h2⟩
   simp only[nf,nY]at h1⊢
   simp only[kC,h1]
  . cases h
 |o+1,n,x::l,r,y::cs,ha,h=>by
  obtain⟨r',h1,h2⟩:=yo (o:=o) ha.2 (by simpa[ol]using h)
  exact⟨r',by simpa[nf,nY]using h1,h2⟩
 |0,_+1,[],_,_,_,h=>by simp[ol]at h
 |_+1,_,[],_,_,_,h=>by simp[ol]at h
 |0,_+1,_::_,_,[],ha,_=>ha.elim
 |_+1,_,_::_,_,[],ha,_=>ha.elim
def ou:Nat->Z8 AC->Z8 AC->Z4 (Z8 AC)
 |0,[],l=>some l
 |0,x::xs,_::l=>match ou 0 xs l with
  |some r=>some (x::r)
  |none=>none
 |0,_::_,[]=>none
 |n+1,xs,y::l=>match ou n xs l with
  |some r=>some (y::r)
  |none=>none
 |_+1,_,[]=>none
theorem zR{R:AC->A->Prop}:∀{o:Nat} {v l r:Z8 AC} {vs cs:Z8 A},cT R v vs->cT R l cs->ou o v l=some r-> ∃r',jB o vs cs=some r'/\cT R r r'
 |0,[],l,r,[],cs,_,hl,h=>by simp[ou]at h;subst h;exact⟨cs,by cases cs<;>rfl,hl⟩
 |0,x::v,z::l,r,a::vs,y::cs,hv,hl,h=>by
  simp only[ou]at h
  split at h
  ·
   rename_i q hq
   cases h
   obtain⟨r',h1,h2⟩:=zR hv.2 hl.2 hq
   exact⟨a::r',by simp only[jB,h1],hv.1,h2⟩
  . cases h
 |o+1,v,z::l,r,vs,y::cs,hv,hl,h=>by
  simp only[ou]at h
  split at h
  ·
   rename_i q hq
   cases h
   obtain⟨r',h1,h2⟩:=zR hv hl.2 hq
   exact⟨y::r',by simp only[jB,h1],hl.1,h2⟩
  . cases h
 |0,_::_,[],_,_,_,_,_,h=>by simp[ou]at h
 |_+1,_,[],_,_,_,_,_,h=>by simp[ou]at h
 |0,[],_,_,_::_,_,hv,_,_=>hv.elim
 |0,_::_,_::_,_,[],_,hv,_,_=>hv.elim
 |0,_::_,_::_,_,_::_,[],_,hl,_=>hl.elim
 |_+1,_,_::_,_,_,[],_,hl,_=>hl.elim
theorem qp{l:Z8 CP}:∀{l:Z8 CP} {xs:Z8 Z7},cT (CP.den Φ V) l xs->cT (AC.rel Φ V) (l.map .c) (xs.map .v)
 |[],[],_=>trivial
 |_::_,x::_,h=>⟨⟨x,J,h.1⟩,qp (l:=l) h.2⟩
 |[],_::_,h=>h.elim
 |_::_,[],h=>h.elim
def JK:AV->Z4 (Z8 AC)
 |.agg cs=>some cs.1
 |.vagg cs=>some (cs.map .c)
 |.vopq _ cs=>some (cs.map .c)
 |_=>none
theorem SZ{av:AV}{l:Z8 AC}{s:SV}(h:JK av=some l)(hs:av.rel Φ V s):∃cs,tG s=some cs/\cT (AC.rel Φ V) l cs:=by
 cases av with
 |agg cs=>cases h;obtain⟨c,rfl,m,_⟩:=hs;exact⟨c,J,m⟩
 |vagg cs=>cases h;obtain⟨xs,rfl,d⟩:=hs;exact⟨xs.map .v,by simp[tG],qp (l:=[]) d⟩
 |vopq i cs=>cases h;obtain⟨xs,rfl,d,_⟩:=hs;exact⟨xs.map .v,by simp[tG],qp (l:=[]) d⟩
 |_=>cases h
def w5:Z8 AC->Z4 AV
 |[x]=>some (.a x)
 |_=>none
def xZ:AV->Z4 AL
 |.a x=>some ([x],none)
 |.agg cs=>some cs
 |.vagg l=>some (l.map .c,none)
 |.vopq i l=>some (l.map .c,some i)
 |.tup _=>none
theorem Dk{O:Own}{av:AV}{l:AL}{s:SV}(h:xZ av=some l)(hs:av.rel Φ V s):∃cs,mv O s=some cs/\AL.rel Φ V l cs:=by
 cases av with
 |a x=>
  cases h;obtain⟨y,rfl,o⟩:=hs;cases x with
  |ptr l k=>cases o;exact⟨_,J,⟨J,ZY⟩,pD⟩
  |c p=>
   obtain⟨v,rfl,m⟩:=o;refine⟨[.v v],?_,⟨⟨v,J,m⟩,ZY⟩,pD⟩;cases v with
   |agg cs=>exact absurd J (CP.notAgg m cs)
   |_=>rfl
 |agg cs=>cases h;obtain⟨c,rfl,w⟩:=hs;exact⟨c,J,w⟩
 |vagg cs=>cases h;obtain⟨xs,rfl,d⟩:=hs;exact⟨xs.map .v,by simp[mv],qp (l:=[]) d,pD⟩
 |vopq i cs=>cases h;obtain⟨xs,rfl,d,u⟩:=hs;exact⟨xs.map .v,by simp[mv],qp (l:=[]) d,λk t=>by cases t;exact⟨xs,BE xs,u⟩⟩
 |tup l=>cases h
theorem yg{O:Own}:∀{l:Z8 AC} {cs:Z8 A},cT (AC.rel Φ V) l cs->gg O cs
 |[],[],_=>trivial
 |.c p::_,_::_,⟨⟨v,e,hv⟩,h⟩=>by subst e;exact⟨CP.one hv,yg h⟩
 |.ptr _ _::_,_::_,⟨e,h⟩=>by cases e;exact⟨ZY,yg h⟩
 |[],_::_,h=>h.elim
 |.c _::_,[],h=>h.elim
 |.ptr _ _::_,[],h=>h.elim
def pJ:Z8 Z7->Z4 (Z8 AC)
 |[]=>some []
 |v::r=>match uS v,pJ r with
  |some c,some l=>some (.c c::l)
  |_,_=>none
theorem u7:∀{z:Z8 Z7} {l:Z8 AC},pJ z=some l->cT (AC.rel Φ V) l (z.map .v)
 |[],l,h=>by cases h;trivial
 |v::r,l,h=>by
  simp only[pJ]at h
  split at h
  ·
   rename_i c m hc hm
   cases h
   exact⟨⟨v,J,CO hc⟩,u7 hm⟩
  . cases h
def uF(G:AF)(p:Z8 (Nat×Bool))(flds:Z8 (Nat×Nat×Nat)):Z8 (Nat×Operand)->Z8 AC->Z4 (Z8 AC)
 |[],cs=>some cs
 |(i,x)::r,cs=>match flds[i]?,gm G p x with
  |some (off,_,sz),some s=>match xZ s with
   |some vs=>bif Nat.beq vs.1.length sz then(match ou off vs.1 cs with
    |some cs'=>uF G p flds r cs'
    |none=>none)else none
   |none=>none
  |_,_=>none
theorem CT{G:AF}{F:cy}{O:Own}(o:fE Φ V G F){p:Z8 (Nat×Bool)}{flds:Z8 (Nat×Nat×Nat)}:∀{parts:Z8 (Nat×Operand)} {l l':Z8 AC} {cs:Z8 A},cT (AC.rel Φ V) l cs->uF G p flds parts l=some l'->
  ∃cs',ot F O p flds parts cs=some cs'/\cT (AC.rel Φ V) l' cs'
 |[],l,l',cs,hl,h=>by cases h;exact⟨cs,J,hl⟩
 |(i,x)::r,l,l',cs,hl,h=>by
  simp only[uF]at h
  split at h
  ·
   rename_i off ft sz s hfl hx
   split at h
   ·
    rename_i vs hvs
    cases hz:Nat.beq vs.1.length sz with
    |false=>rw[hz]at h;cases h
    |true=>
     rw[hz]at h
     split at h
     ·
      rename_i q hq
      obtain⟨sv,h1,h2⟩:=gL o hx
      obtain⟨c,z,m,_⟩:=Dk (O:=O) hvs h2
      obtain⟨B,y,t⟩:=zR m hl hq
      obtain⟨cs',w,u⟩:=CT (O:=O) o t h
      refine⟨cs',?_,u⟩
      have d:Nat.beq c.length sz=true:=by rw[<-m.len];exact hz
      simp only[ot,hfl,h1,z,d,Za,y,w]
     grind
   . cases h
  . cases h
def rb(Φ:Facts):CP->Z4 IntKind
 |.int k=>some k
 |.con k _=>some k
 |.nm i=>match Φ.kd i with
  |.int k=>some k
  |_=>none
 |_=>none
theorem wd{c:CP}{k:IntKind}{v:Z7}(h:rb Φ c=some k)(d:c.den Φ V v):∃n,v=.int k n/\k.has n:=by
 cases c with
 |int k'=>cases h;exact d
 |con k' n=>cases h;exact⟨n,d.1,d.2⟩
 |nm i=>have l:=Φ.kdOk d;simp only[rb]at h;split at h;{rename_i m;cases h;rw[m]at l;exact l};cases h
 |_=>cases h
def uR(Φ:Facts):CP->Z4 Nat
 |.str m=>some m
 |.nm i=>match Φ.kd i with
  |.str m=>some m
  |_=>none
 |_=>none
theorem Bq{c:CP}{m:Nat}{v:Z7}(h:uR Φ c=some m)(d:c.den Φ V v):∃s:Z5,v=.string s/\s.size<=m:=by
 cases c with
 |str k'=>cases h;exact d
 |nm i=>have l:=Φ.kdOk d;simp only[uR]at h;split at h;{rename_i o;cases h;rw[o]at l;exact l};cases h
 |_=>cases h
def BX(Φ:Facts)(tt:Z8 (Nat×TI))(op:BinOp)(t:Nat)(a b:CP):Z4 CP:=
 match rb Φ a,rb Φ b with
 |some k,some k'=>bif j9 k k' then(match op with
  |.add=>some (.int k)
  |.sub=>some (.int k)
  |.mul=>some (.int k)
  |.eql=>some .bool
  |.neq=>some .bool
  |.lss=>some .bool
  |.leq=>some .bool
  |.gtr=>some .bool
  |.geq=>some .bool
  |_=>none)else none
 |_,_=>match uR Φ a,uR Φ b with
  |some _,some _=>match op with
   |.eql=>some .bool
   |.neq=>some .bool
   |_=>none
  |_,_=>match a,b,op with
   |.bool,.bool,.eql=>match lk tt t with
    |some ⟨_,_,_,_,.bool⟩=>some .bool
    |_=>none
   |.bool,.bool,.neq=>match lk tt t with
    |some ⟨_,_,_,_,.bool⟩=>some .bool
    |_=>none
   |_,_,_=>none
theorem Wh{tt:Z8 (Nat×TI)}{u:BinOp}{t:Nat}{a b c:CP}{x y:Z7}(h:BX Φ tt u t a b=some c)(p:a.den Φ V x)(o:b.den Φ V y):∃v,qH tt u t x y=some v/\c.den Φ V v:=by
 unfold BX at h;split at h
 .rename_i k M L z;obtain⟨n,rfl,O⟩:=wd L p;obtain⟨m,rfl,E⟩:=wd z o;cases d:j9 k M with
  |false=>rw[d]at h;cases h
  |true=>
   rw[d]at h;simp only[Za]at h;simp only[qH,qx,d,Za]
   cases u<;>simp only[Z0,reduceCtorEq]at h<;>subst h<;>first
    |exact⟨_,rfl,_,rfl,ng _ _⟩
    |exact⟨_,rfl,_,rfl⟩
 split at h;{rename_i m N E w;obtain⟨s,rfl,_⟩:=Bq E p;obtain⟨l,rfl,_⟩:=Bq w o;cases u<;>simp only[Z0,reduceCtorEq]at h<;>subst h<;>exact⟨_,J,_,J⟩};split at h;{split at h;{rename_i B;cases h;obtain⟨s,rfl⟩:=p;obtain⟨l,rfl⟩:=o;exact⟨.bool (s==l),by simp only[qH,B,uW],_,J⟩};cases h};{split at h;{rename_i B;cases h;obtain⟨s,rfl⟩:=p;obtain⟨l,rfl⟩:=o;exact⟨.bool (s !=l),by simp only[qH,B,uW],_,J⟩};cases h};cases h
def A9(off n:Nat)(cs:AL):Z4 Nat:=bif Nat.beq off 0&&Nat.beq n cs.1.length then cs.2 else none
def sQ(Φ:Facts)(tt:Z8 (Nat×TI))(G:AF)(H:AO)(p:Z8 (Nat×Bool)):Op->Z4 AV
 |.move x=>gm G p x
 |.assign x=>gm G p x
 |.nilCheck x=>match gm G p x with
  |some (.a (.ptr l off))=>some (.a (.ptr l off))
  |_=>none
 |.pick (.tmp tc) a (.const (.bool false))=>match gm G p (.tmp tc),gm G ((tc,true)::p) a with
  |some (.a (.c .bool)),some (.a (.c .bool))=>some (.a (.c .bool))
  |_,_=>none
 |.pick (.tmp tc) (.const (.bool true)) b=>match gm G p (.tmp tc),gm G ((tc,false)::p) b with
  |some (.a (.c .bool)),some (.a (.c .bool))=>some (.a (.c .bool))
  |_,_=>none
 |.load t x=>match gm G p x with
  |some (.a (.ptr l off))=>match lk H l,lk tt t with
   |some (cs,_),some ti=>match ol off ti.size cs.1 with
    |some r=>match ti.agg with
     |true=>some (.agg (r,A9 off ti.size cs))
     |false=>w5 r
    |none=>none
   |_,_=>none
  |_=>none
 |.fieldAddr s x f=>match gm G p x,lk tt s with
  |some (.a (.ptr l off)),some ti=>match ti.flds[f]? with
   |some (fo,_,_+1)=>some (.a (.ptr l (off+fo)))
   |_=>none
  |_,_=>none
 |.field s x f=>match gm G p x,lk tt s with
  |some v,some ti=>match ti.flds[f]? with
   |some (fo,ft,fs)=>match lk tt ft,JK v with
    |some fi,some cs=>match ol fo fi.size cs with
     |some r=>match fi.agg with
      |true=>some (.agg (r,none))
      |false=>w5 r
     |none=>none
    |_,_=>none
   |none=>none
  |_,_=>none
 |.binOp op t x y _=>match gm G p x,gm G p y with
  |some (.a (.c a)),some (.a (.c b))=>match BX Φ tt op t a b with
   |some c=>some (.a (.c c))
   |none=>none
  |_,_=>none
 |.unOp .not _ x=>match gm G p x with
  |some (.a (.c .bool))=>some (.a (.c .bool))
  |_=>none
 |.convert s d x=>match gm G p x,lk tt s,lk tt d with
  |some (.a (.c a)),some _,some ⟨_,_,_,_,.int k⟩=>match rb Φ a with
   |some _=>some (.a (.c (.int k)))
   |none=>none
  |_,_,_=>none
 |.extract x i=>match gm G p x with
  |some (.tup l)=>match l[i]? with
   |some (.one c)=>some (.a (.c c))
   |some (.agg cs)=>some (.vagg cs)
   |some (.opq i cs)=>some (.vopq i cs)
   |none=>none
  |_=>none
 |.build t parts=>match lk tt t with
  |some ⟨_,_,z,flds,.struct⟩=>bif ri flds then(match pJ z with
   |some zs=>match uF G p flds parts.toList zs with
    |some cs=>some (.agg (cs,none))
    |none=>none
   |none=>none)else none
  |_=>none
 |.call ⟨.builtin .len,args,ts⟩=>match args.toList,ts.toList with
  |[x],[t]=>match gm G p x,lk tt t with
   |some (.a (.c c)),some ⟨_,_,_,_,.str⟩=>match uR Φ c with
    |some m=>bif Nat.ble m 9223372036854775807 then some (.a (.c (.int .i64)))else none
    |none=>none
   |_,_=>none
  |_,_=>none
 |_=>none
theorem PU{off n i:Nat}{cs:AL}(h:A9 off n cs=some i):off=0/\n=cs.1.length/\cs.2=some i:=by
 unfold A9 at h;cases d:(Nat.beq off 0&&Nat.beq n cs.1.length)with
 |false=>rw[d]at h;cases h
 |true=>
  rw[d]at h
  simp_all
theorem Il:∀l:Z8 A,nf 0 l.length l=some l
 |[]=>rfl
 |x::r=>by
  have:=Il r
  simp only[nf,nY,Y8,kC]at this⊢
  rw[this]
theorem AD{tt:Z8 (Nat×TI)}{G:AF}{H:AO}{F:cy}{O:Own}(E:fE Φ V G F)(ho:jl Φ V H O){p:Z8 (Nat×Bool)}{op:Op}{av:AV}(h:sQ Φ tt G H p op=some av):∃s,eI tt F O p op=some s/\av.rel Φ V s:=by
 unfold sQ at h;split at h;{exact gL E h};{exact gL E h};{split at h;{rename_i o;cases h;obtain⟨s,d,y,rfl,rfl⟩:=gL E o;exact⟨_,by simp only[eI,d],_,J,J⟩};cases h};{split at h;{rename_i o hy;cases h;obtain⟨s,d,y,rfl,v,rfl,b,rfl⟩:=gL E o;obtain⟨s',w,y',rfl,v',rfl,b',rfl⟩:=gL E hy;exact⟨.a (.v (.bool (b&&b'))),by simp only[eI,d,w],_,J,_,J,_,J⟩};cases h};{split at h;{rename_i o hy;cases h;obtain⟨s,d,y,rfl,v,rfl,b,rfl⟩:=gL E o;obtain⟨s',w,y',rfl,v',rfl,b',rfl⟩:=gL E hy;exact⟨.a (.v (.bool (b||b'))),by simp only[eI,d,w],_,J,_,J,_,J⟩};cases h}
 .split at h
  .rename_i l off o;split at h
   .rename_i cs ty ti hl L;split at h
    .rename_i r N;obtain⟨s,d,y,rfl,rfl⟩:=gL E o;obtain⟨c,w,M,ag⟩:=ho l _ hl;obtain⟨r',R,B⟩:=yo M N;split at h;{rename_i X;cases h;refine⟨.agg r',by simp only[eI,d,w,L,R,X],_,J,B,λi hi=>?_⟩;obtain⟨ac,Y,af⟩:=PU hi;have Z:=M.len;subst ac;rw[Z]at Y;rw[Y,Il]at R;cases R;exact ag i af};rename_i X;unfold w5 at h;split at h
     .cases h;rename_i x
      match r',B with
      |[y],B=>exact⟨.a y,by simp only[eI,d,w,L,R,X,qm],_,J,B.1⟩
      |[],B=>exact B.elim
      |_::_::_,B=>exact B.2.elim
     cases h
    cases h
   cases h
  cases h
 .split at h;{rename_i l off ti o L;split at h;{rename_i fo _ _ hf;cases h;obtain⟨s,d,y,rfl,rfl⟩:=gL E o;exact⟨_,by simp only[eI,d,L,hf],_,J,J⟩};cases h};cases h
 .split at h
  .rename_i v ti o L;split at h
   .rename_i fo ft fs hf;split at h
    .rename_i fi cs a7 W;split at h
     .rename_i r N;obtain⟨s,d,ak⟩:=gL E o;obtain⟨c,w,M⟩:=SZ W ak;obtain⟨r',R,B⟩:=yo M N;split at h;{rename_i X;cases h;exact⟨.agg r',by simp only[eI,d,w,L,hf,a7,R,X],_,J,B,pD⟩};rename_i X;unfold w5 at h;split at h
      .cases h
       match r',B with
       |[y],B=>exact⟨.a y,by simp only[eI,d,w,L,hf,a7,R,X,qm],_,J,B.1⟩
       |[],B=>exact B.elim
       |_::_::_,B=>exact B.2.elim
      cases h
     cases h
    cases h
   cases h
  cases h
 .split at h;{rename_i a b o hy;split at h;{rename_i c N;cases h;obtain⟨s,d,y,rfl,v,rfl,hv⟩:=gL E o;obtain⟨s',w,y',rfl,v',rfl,ah⟩:=gL E hy;obtain⟨u,M,R⟩:=Wh N hv ah;exact⟨.a (.v u),by simp only[eI,d,w,M],_,J,u,J,R⟩};cases h};cases h
 {split at h;{rename_i o;cases h;obtain⟨s,d,y,rfl,v,rfl,b,rfl⟩:=gL E o;exact⟨.a (.v (.bool (!b))),by simp only[eI,d,un],_,J,_,J,_,J⟩};cases h}
 .split at h;{rename_i a _ _ _ _ _ k o hs hd;split at h;{rename_i k0 hk;cases h;obtain⟨s,d,y,rfl,v,rfl,hv⟩:=gL E o;obtain⟨n,rfl,hn⟩:=wd hk hv;exact⟨.a (.v (.int k (k.wrap n))),by simp only[eI,d,hs,hd],_,J,_,J,_,J,ng _ _⟩};cases h};cases h
 .split at h;{rename_i l o;obtain⟨s,d,vs,rfl,T⟩:=gL E o;split at h;{rename_i c N;cases h;obtain⟨v,w,M⟩:=T.at N;exact⟨.a (.v v),by simp only[eI,d,w],_,J,v,J,M⟩};{rename_i c N;cases h;obtain⟨v,w,xs,rfl,M⟩:=T.at N;exact⟨.a (.v (.agg xs.toArray)),by simp only[eI,d,w],xs,J,M⟩};{rename_i i c N;cases h;obtain⟨v,w,xs,rfl,M⟩:=T.at N;exact⟨.a (.v (.agg xs.toArray)),by simp only[eI,d,w],xs,J,M⟩};cases h};cases h
 .split at h
  .rename_i _ _ z flds ht;cases hp:ri flds with
   |false=>rw[hp]at h;cases h
   |true=>rw[hp]at h;split at h;{rename_i zs hz;split at h;{rename_i cs W;cases h;obtain⟨ab,d,w⟩:=CT (O:=O) E (u7 hz) W;exact⟨.agg ab,by simp only[eI,ht,hp,Za,d],_,J,w,pD⟩};cases h};cases h
  cases h
 .split at h
  .rename_i x t o ht;split at h
   .rename_i c0 _ _ _ _ hv hk;split at h
    .rename_i m hm;cases hb:Nat.ble m 9223372036854775807 with
     |false=>rw[hb]at h;cases h
     |true=>rw[hb]at h;cases h;obtain⟨s,d,y,rfl,v,rfl,aj⟩:=gL E hv;obtain⟨sv,rfl,ar⟩:=Bq hm aj;refine⟨.a (.v (.int .i64 sv.size)),by simp only[eI,o,ht,d,hk],_,J,_,J,_,J,?_⟩;have:=Yz hb;unfold IntKind.has;simp[IntKind.min,IntKind.max,IntKind.bits,IntKind.signed];omega
    cases h
   cases h
  cases h
 cases h
structure Vws(V:Vw)(w0:World)(W Z:Vw):Prop where
 le0:(vw w0).le W
 zw:Z.le W
 vz:V.le Z
 new:∀k o,Z.get k=some o->V.get k=some o\/w0.heap.size<=k
structure AS where
 G:AF
 C:List Nat
 H:AO
 nl:Nat
section
variable{Φ:Facts}{V:Vw}{w0:Z6}{P:Z3}{tt:Z8 (Nat×TI)}{ops:Array Oper}{Q:Exit->Act->Z6->Prop}{o:Oper}{rest:Z8 Oper}{n:Nat}{S:AS}{K:Act->Z6->Prop}
def AJ(Φ:Facts)(V:Vw)(w0:Z6)(K:Act->Z6->Prop)(n:Nat)(S:AS):Prop:=
 ∀F O W Z,Vws V w0 W Z->fE Φ Z S.G F->jl Φ Z S.H O->KJ K n F S.C O S.nl W
def nr(n:Nat)(C':Z8 Nat):Z4 Nat->Z4 Nat
 |some d=>bif Nat.blt d n&& !(dh d C')then some d else none
 |none=>none
theorem tP{l:Z8 Nat}{x:Z4 Nat}{d:Nat}(h:nr n l x=some d):x=some d/\(Nat.blt d n&& !(dh d l))=true:=by
 cases x with
 |none=>cases h
 |some e=>
  simp only[nr]at h
  grind
theorem TL(y:dl P tt){p:Z8 (Nat×Bool)}{m:Z8 Nat}{d:Nat}{av:AV}(E:lS ops S.G S.C o.guard=some (p,m))(hd:nr n m o.dst=some d)(R:sQ Φ tt S.G S.H p o.op=some av) (l:AJ Φ V w0 (wpList P ops Q rest) n ⟨(d,⟨p,av⟩)::S.G,m,S.H,S.nl⟩):AJ Φ V w0 (wpList P ops Q (o::rest)) n S:=by intro F O W Z t w z;obtain⟨g,u⟩:=vA w E;obtain⟨s,M,B⟩:=AD w z R;obtain⟨N,L⟩:=tP hd;exact ua u N L (jr y M)<|l _ O W Z t (w.put B) z
def Cb(Φ:Facts):CP->Bool
 |.nil=>true
 |.nm i=>match Φ.kd i with
  |.sl=>true
  |_=>false
 |_=>false
theorem Pr{Z:Vw}{c:CP}{v:Z7}(h:Cb Φ c=true)(d:c.den Φ Z v):∃(sz n:Nat) (xs:Z8 Z7),(n:Int)<=9223372036854775807/\eL Z v sz n xs:=by
 cases c with
 |nil=>cases d;exact⟨0,0,[],dc,J,.inl ⟨none,0,J,J⟩⟩
 |nm i=>have l:=Φ.kdOk d;simp only[Cb]at h;split at h;{rename_i m;rw[m]at l;exact l};cases h
 |_=>cases h
def Bw(Φ:Facts)(tt:Z8 (Nat×TI))(G:AF)(p:Z8 (Nat×Bool)):Op->Bool
 |.call ⟨.builtin .len,args,ts⟩=>match args.toList,ts.toList with
  |[x],[t]=>match gm G p x,lk tt t with
   |some (.a (.c c)),some ⟨_,_,_,_,.slice _⟩=>Cb Φ c
   |_,_=>false
  |_,_=>false
 |_=>false
theorem S0{Z:Vw}{G:AF}{F:cy}(w:fE Φ Z G F){p:Z8 (Nat×Bool)}{d:Op}(h:Bw Φ tt G p d=true):∃v sz n xs,qs tt F p d=some v/\((n:Nat):Int)<=9223372036854775807/\eL Z v sz n xs:=by
 unfold Bw at h;split at h
 .split at h;{rename_i x t B l;split at h;{rename_i c _ _ _ _ _ L m;obtain⟨s,u,y,rfl,v,rfl,o⟩:=gL w L;obtain⟨sz,n,xs,E,z⟩:=Pr h o;exact⟨v,sz,n,xs,by simp only[qs,B,l,u,m],E,z⟩};cases h};cases h
 cases h
def xI(Φ:Facts)(G:AF)(p:Z8 (Nat×Bool)):Z8 Operand->Z4 IntKind
 |[x,y]=>match gm G p x,gm G p y with
  |some (.a (.c a)),some (.a (.c b))=>match rb Φ a,rb Φ b with
   |some k,some k'=>bif j9 k k' then some k else none
   |_,_=>none
  |_,_=>none
 |_=>none
def AM(Φ:Facts)(G:AF)(p:Z8 (Nat×Bool)):Op->Z4 IntKind
 |.call ⟨.builtin .min,args,_⟩=>xI Φ G p args.toList
 |.call ⟨.builtin .max,args,_⟩=>xI Φ G p args.toList
 |_=>none
theorem FO{Z:Vw}{G:AF}{F:cy}(w:fE Φ Z G F){p:Z8 (Nat×Bool)}{l:Z8 Operand}{k:IntKind}(h:xI Φ G p l=some k):∃x y a b,l=[x,y]/\cV F p x=some (.a (.v (.int k a)))/\cV F p y=some (.a (.v (.int k b)))/\k.has a/\k.has b:=by
 unfold xI at h;split at h
 .rename_i x y;split at h
  .rename_i a b E B;split at h
   .rename_i k1 L o d;cases t:j9 k1 L with
    |false=>rw[t]at h;cases h
    |true=>
     rw[t]at h;cases h;have:=mZ.1 t;subst this;obtain⟨s,T,z,rfl,v,rfl,M⟩:=gL w E;obtain⟨N,R,z,rfl,O,rfl,u⟩:=gL w B;obtain⟨n,rfl,V⟩:=wd o M;obtain⟨m,rfl,W⟩:=wd d u
     grind
   cases h
  cases h
 cases h
theorem NX{Z:Vw}{G:AF}{F:cy}(z:fE Φ Z G F){p:Z8 (Nat×Bool)}{w:Op}{k:IntKind}(h:AM Φ G p w=some k):∃mx a b,oO F p w=some (mx,k,a,b)/\k.has a/\k.has b:=by unfold AM at h;split at h;{obtain⟨x,y,a,b,l,t,m,u,o⟩:=FO z h;refine⟨false,a,b,?_,u,o⟩;have d:j9 k k=true:=mZ.2 J;simp only[oO,l,t,m,d,Za]};{obtain⟨x,y,a,b,l,t,m,u,o⟩:=FO z h;refine⟨true,a,b,?_,u,o⟩;have d:j9 k k=true:=mZ.2 J;simp only[oO,l,t,m,d,Za]};cases h
def uU(Φ:Facts)(tt:Z8 (Nat×TI))(G:AF)(p:Z8 (Nat×Bool))(op:Op):Z4 AV:=match Bw Φ tt G p op with
 |true=>some (.a (.c (.int .i64)))
 |false=>match AM Φ G p op with
  |some k=>some (.a (.c (.int k)))
  |none=>none
theorem Lh(t:dl P tt){Z W:Vw}(d:Z.le W){G:AF}{F:cy}(w:fE Φ Z G F){p:Z8 (Nat×Bool)}{av:AV}{C:Z8 Nat}{O:Go.Eng.Own}{nl:Nat}(h:uU Φ tt G p o.op=some av):∃s,av.rel Φ Z s/\ ∀g,dY P o n F C O nl W p g s:=by
 unfold uU at h;split at h;{rename_i z;cases h;obtain⟨v,sz,m,xs,l,L,u⟩:=S0 w z;refine⟨_,⟨_,J,_,J,_,J,?_⟩,λg=>ic t l (λ_=>u.mono d)⟩;unfold IntKind.has;simp[IntKind.min,IntKind.max,IntKind.bits,IntKind.signed];omega};split at h
 .rename_i k y;cases h;obtain⟨B,a,b,l,u,E⟩:=NX w y;refine⟨_,⟨_,J,_,J,_,J,?_⟩,λg=>mO l⟩
  grind
 cases h
theorem SF(y:dl P tt){p:Z8 (Nat×Bool)}{t:Z8 Nat}{d:Nat}{av:AV}(B:lS ops S.G S.C o.guard=some (p,t))(hd:nr n t o.dst=some d)(R:uU Φ tt S.G p o.op=some av) (m:AJ Φ V w0 (wpList P ops Q rest) n ⟨(d,⟨p,av⟩)::S.G,t,S.H,S.nl⟩):AJ Φ V w0 (wpList P ops Q (o::rest)) n S:=by intro F O W Z l w M;obtain⟨g,u⟩:=vA w B;obtain⟨N,E⟩:=tP hd;obtain⟨s,L,z⟩:=Lh (P:=P) (C:=t) (O:=O) (nl:=S.nl) y l.zw w R;exact ua u N E (z g)<|m _ O W Z l (w.put L) M
def xy(tt:Z8 (Nat×TI))(G:AF):Op->Z4 (AL×Nat)
 |.alloc e=>match lk tt e with
  |some ti=>match pJ ti.zero with
   |some l=>some ((l,none),e)
   |none=>none
  |none=>none
 |.box e x=>match gm G [] x with
  |some s=>match xZ s with
   |some cs=>some (cs,e)
   |none=>none
  |none=>none
 |_=>none
theorem TU{Z:Vw}{G:AF}{F:cy}{O:Go.Eng.Own}(z:fE Φ Z G F){o:Op}{l:AL}{e:Nat}(h:xy tt G o=some (l,e)):∃cs,m5 tt F O o=some (cs,e)/\AL.rel Φ Z l cs:=by
 unfold xy at h;split at h
 .split at h;{rename_i B m;split at h;{rename_i q d;cases h;exact⟨_,by simp only[m5,m],u7 d,pD⟩};cases h};cases h
 .split at h;{rename_i s y;split at h;{rename_i q d;cases h;obtain⟨x,u,p⟩:=gL z y;obtain⟨cs,w,t⟩:=Dk (O:=O) d p;exact⟨cs,by simp only[m5,u,w],t⟩};cases h};cases h
 cases h
theorem LB(t:dl P tt){d e:Nat}{l:AL}(M:o.guard=none)(hd:nr n S.C o.dst=some d)(w:xy tt S.G o.op=some (l,e)) (m:AJ Φ V w0 (wpList P ops Q rest) n ⟨(d,⟨[],.a (.ptr S.nl 0)⟩)::S.G,S.C,(S.nl,l,e)::S.H,S.nl+1⟩):AJ Φ V w0 (wpList P ops Q (o::rest)) n S:=by intro F O W Z p u E;obtain⟨cs,B,y⟩:=TU (O:=O) u w;obtain⟨L,z⟩:=tP hd;exact ED t M B L z<|m _ _ W Z p (u.put ⟨_,J,J⟩)<|E.put y
def pu(tt:Z8 (Nat×TI))(G:AF)(H:AO):Op->Z4 (Nat×AL×Nat)
 |.store t y x=>match gm G [] y,gm G [] x,lk tt t with
  |some (.a (.ptr l off)),some s,some ti=>match lk H l,xZ s with
   |some (cs,e),some vs=>bif Nat.beq vs.1.length ti.size then(match ou off vs.1 cs.1 with
    |some r=>some (l,(r,bif Nat.beq off 0&&Nat.beq vs.1.length cs.1.length then vs.2 else none),e)
    |none=>none)else none
   |_,_=>none
  |_,_,_=>none
 |_=>none
theorem Es:∀{vs cs r:Z8 A},vs.length=cs.length->jB 0 vs cs=some r->r=vs
 |[],[],r,_,h=>by simp[jB]at h;exact h
 |x::vs,y::cs,r,hl,h=>by
  simp only[jB]at h
  split at h
  ·
   rename_i q hq
   cases h
   rw[Es (by simpa using hl) hq]
  . cases h
 |[],_::_,_,hl,_=>by cases hl
 |_::_,[],_,hl,_=>by cases hl
theorem K3{Z:Vw}{G:AF}{H:AO}{F:cy}{O:Go.Eng.Own}(E:fE Φ Z G F)(hO:jl Φ Z H O){N:Op}{l e:Nat}{r:AL}(h:pu tt G H N=some (l,r,e)):∃cs vs,m8 tt F O N=some (l,cs,e,vs)/\gg O vs/\AL.rel Φ Z r cs:=by
 unfold pu at h;split at h
 .split at h
  .rename_i l' off s M hy hx u;split at h
   .rename_i cs e' vs Y w;cases p:Nat.beq vs.1.length M.size with
    |false=>rw[p]at h;cases h
    |true=>
     rw[p]at h;split at h
     .rename_i q T;cases h;obtain⟨sy,W,y',rfl,rfl⟩:=gL E hy;obtain⟨sx,R,h3⟩:=gL E hx;obtain⟨c,V,m,o⟩:=Dk (O:=O) w h3;obtain⟨t,h6,B,_⟩:=hO l _ Y;obtain⟨z,L,h9⟩:=zR m B T;(have y:Nat.beq c.length M.size=true:=by rw[<-m.len];exact p);refine⟨z,c,by simp only[m8,W,R,u,h6,V,y,Za,L],yg m,h9,λi hi=>?_⟩;cases d:(Nat.beq off 0&&Nat.beq vs.1.length cs.1.length)with
      |false=>rw[d]at hi;cases hi
      |true=>rw[d]at hi;simp only[Z1]at d;have e1:=ZM d.1;have X:=ZM d.2;subst e1;(have e3:c.length=t.length:=by rw[<-m.len,<-B.len];exact X);have e4:z=c:=Es e3 L;subst e4;exact o i hi
     grind
   cases h
  cases h
 cases h
theorem On(p:dl P tt){l e:Nat}{r:AL}(E:o.guard=none)(hd:o.dst=none)(w:pu tt S.G S.H o.op=some (l,r,e)) (d:AJ Φ V w0 (wpList P ops Q rest) n ⟨S.G,S.C,(l,r,e)::S.H,S.nl⟩):AJ Φ V w0 (wpList P ops Q (o::rest)) n S:=by intro F O W Z m t u;obtain⟨cs,L,z,y,B⟩:=K3 t u w;exact fw p E hd z y<|d _ _ W Z m t<|u.put B
structure SumT where
 f:Nat
 ps:List PT
 rs:List PT
def dJ(Φ:Facts)(P:Z3)(s:SumT):Prop:=eJ P s.f/\ ∀V w (vals:Z8 Z7),V.le (vw w)->cT (PT.den Φ V) s.ps vals->
 Calls P s.f vals.toArray w λe w'=>∃v V',e=.returned v/\cH w w'/\Vext w.heap.size V V' w'/\ ∃rs,cT (PT.den Φ V') s.rs rs/\v=eY rs
def so(f:Nat)(p:SumT->Bool):Z8 SumT->Z4 SumT
 |[]=>none
 |s::r=>bif Nat.beq s.f f then(bif p s then some s else so f p r)else so f p r
theorem uE{f:Nat}{p:SumT->Bool}{s:SumT}:∀{l:Z8 SumT},so f p l=some s->s∈l/\s.f=f/\p s=true
 |x::r,h=>by
  simp only[so]at h
  cases hb:Nat.beq x.f f with
  |true=>
   rw[hb]at h
   cases hp:p x with
   |true=>rw[hp]at h;cases h;exact⟨Zj,ZM hb,hp⟩
   |false=>rw[hp]at h;obtain⟨h1,h2⟩:=uE h;exact⟨Zr _ h1,h2⟩
  |false=>rw[hb]at h;obtain⟨h1,h2⟩:=uE h;exact⟨Zr _ h1,h2⟩
def oR(Φ:Facts):Z8 CP->Z8 CP->Bool
 |[],[]=>true
 |a::r,b::s=>a.le Φ b&&oR Φ r s
 |_,_=>false
theorem rX{Z:Vw}:∀{a b:Z8 CP} {xs:Z8 Z7},oR Φ a b=true->cT (CP.den Φ Z) a xs->cT (CP.den Φ Z) b xs
 |[],[],[],_,_=>trivial
 |a::r,b::s,x::xs,h,ha=>by
  simp only[oR,Z1]at h
  exact⟨CP.le_ok h.1 ha.1,rX h.2 ha.2⟩
 |[],_::_,_,h,_=>by cases h
 |_::_,[],_,h,_=>by cases h
 |[],[],_::_,_,h=>h.elim
 |_::_,_::_,[],_,h=>h.elim
def qd:Z8 AC->Z4 (Z8 CP)
 |[]=>some []
 |.c p::r=>match qd r with
  |some l=>some (p::l)
  |none=>none
 |.ptr _ _::_=>none
theorem B0{Z:Vw}{E:Env}:∀{l:Z8 AC} {q:Z8 CP} {cs:Z8 A},qd l=some q->cT (AC.rel Φ Z) l cs->cT (CP.den Φ Z) q (cs.map (A.den E))
 |[],q,[],h,_=>by cases h;trivial
 |.c p::r,q,_::cs,h,⟨⟨v,e,hv⟩,ha⟩=>by
  subst e
  simp only[qd]at h
  split at h
  ·
   rename_i m hm
   cases h
   exact⟨hv,B0 hm ha⟩
  . cases h
 |.ptr _ _::_,_,_,h,_=>by cases h
 |[],_,_::_,_,h=>h.elim
 |.c _::_,_,[],_,h=>h.elim
def GQ(Φ:Facts)(i:Nat):Z4 Nat->Bool
 |some j=>Nat.beq i j||Φ.jle j i
 |none=>false
def xD(Φ:Facts):PT->AV->Bool
 |.one c,.a (.c p)=>p.le Φ c
 |.agg l,.agg cs=>match qd cs.1 with
  |some q=>oR Φ q l
  |none=>false
 |.agg l,.vagg q=>oR Φ q l
 |.agg l,.vopq _ q=>oR Φ q l
 |.opq i l,.vopq j q=>(Nat.beq i j||Φ.jle j i)&&oR Φ q l
 |.opq i l,.vagg q=>Φ.joint i q&&oR Φ q l
 |.opq i l,.agg cs=>match qd cs.1 with
  |some q=>(GQ Φ i cs.2||Φ.joint i q)&&oR Φ q l
  |none=>false
 |_,_=>false
theorem IQ{Z:Vw}{E:Env}{t:PT}{av:AV}{s:SV}(h:xD Φ t av=true)(hs:av.rel Φ Z s):t.den Φ Z (s.den E):=by
 unfold xD at h;split at h;{obtain⟨y,rfl,v,rfl,z⟩:=hs;exact CP.le_ok h z};{obtain⟨cs,rfl,p,_⟩:=hs;split at h;{rename_i q m;exact⟨_,J,rX h (B0 m p)⟩};cases h};{obtain⟨xs,rfl,d⟩:=hs;exact⟨xs,J,rX h d⟩};{obtain⟨xs,rfl,d,_⟩:=hs;exact⟨xs,J,rX h d⟩};{obtain⟨xs,rfl,d,l⟩:=hs;simp only[Z1,Zv]at h;refine⟨xs,J,rX h.2 d,?_⟩;(rcases h.1 with h1|h1);{have:=ZM h1;subst this;exact l};exact Φ.jleOk h1 l};{obtain⟨xs,rfl,d⟩:=hs;simp only[Z1]at h;exact⟨xs,J,rX h.2 d,Φ.jointOk h.1 d⟩}
 .obtain⟨cs,rfl,p,l⟩:=hs;split at h
  .rename_i q m;simp only[Z1,Zv]at h;have d:=B0 (E:=E) m p;refine⟨_,J,rX h.2 d,?_⟩;rcases h.1 with h1|h1
   .unfold GQ at h1;split at h1;{rename_i j o;obtain⟨B,w,u⟩:=l j o;rw[Ac w];(rcases Zv _ _▸h1 with h1|h1);{have:=ZM h1;subst this;exact u};exact Φ.jleOk h1 u}
    grind
   exact Φ.jointOk h1 d
  cases h
 cases h
def wR(Φ:Facts)(G:AF)(p:Z8 (Nat×Bool)):Z8 PT->Z8 Operand->Bool
 |[],[]=>true
 |pt::r,x::xs=>match gm G p x with
  |some av=>xD Φ pt av&&wR Φ G p r xs
  |none=>false
 |_,_=>false
theorem DB{Z:Vw}{G:AF}{F:cy}(d:fE Φ Z G F){p:Z8 (Nat×Bool)}:∀{ps:Z8 PT} {xs:Z8 Operand},wR Φ G p ps xs=true-> ∃ss,qC F p xs=some ss/\ ∀E:Env,cT (PT.den Φ Z) ps (ss.map (SV.den E))
 |[],[],_=>⟨[],J,λ_=>trivial⟩
 |pt::r,x::xs,h=>by
  simp only[wR]at h
  split at h
  ·
   rename_i av hav
   simp at h
   obtain⟨s,h1,h2⟩:=gL d hav
   obtain⟨ss,m,l⟩:=DB d h.2
   exact⟨s::ss,by simp only[qC,h1,m],λE=>⟨IQ h.1 h2,l E⟩⟩
  . cases h
 |[],_::_,h=>by cases h
 |_::_,[],h=>by cases h
def tb:Z8 PT->AV
 |[.one c]=>.a (.c c)
 |[.agg l]=>.vagg l
 |[.opq i l]=>.vopq i l
 |l=>.tup l
theorem w3{Z:Vw}:∀{l:Z8 PT} {rs:Z8 Z7},cT (PT.den Φ Z) l rs->(tb l).rel Φ Z (.a (.v (eY rs)))
 |[],[],h=>⟨[],J,h⟩
 |[.one c],[v],h=>⟨_,J,v,J,h.1⟩
 |[.agg l],[v],h=>by obtain⟨xs,rfl,hx⟩:=h.1;exact⟨xs,J,hx⟩
 |[.opq i l],[v],h=>by obtain⟨xs,rfl,hx⟩:=h.1;exact⟨xs,J,hx⟩
 |a::b::l,x::y::rs,h=>by cases a<;>exact⟨x::y::rs,J,h⟩
 |[],_::_,h=>h.elim
 |_::_,[],h=>h.elim
 |[.one _],_::_::_,h=>h.2.elim
 |[.agg _],_::_::_,h=>h.2.elim
 |[.opq _ _],_::_::_,h=>h.2.elim
 |_::_::_,[_],h=>h.2.elim
def CP.inh(Φ:Facts):CP->Bool
 |.nm i=>Φ.inh i
 |.con k n=>decide (k.min<=n)&&decide (n<=k.max)
 |_=>true
theorem CP.inh_ok(Z:Vw){c:CP}(h:c.inh Φ=true):∃v,c.den Φ Z v:=by
 cases c with
 |int k=>exact⟨_,_,J,ng k 0⟩
 |con k n=>simp only[CP.inh,Z1,ZV]at h;exact⟨_,J,h⟩
 |bool=>exact⟨_,true,J⟩
 |str m=>exact⟨_,ByteArray.empty,J,sm⟩
 |nm i=>exact Φ.inhOk Z h
 |nil=>exact⟨_,J⟩
def zf(Φ:Facts):Z8 CP->Bool
 |[]=>true
 |c::r=>c.inh Φ&&zf Φ r
theorem JL(Z:Vw):∀{l:Z8 CP},zf Φ l=true-> ∃xs,cT (CP.den Φ Z) l xs
 |[],_=>⟨[],ZY⟩
 |c::r,h=>by
  simp only[zf,Z1]at h
  obtain⟨v,hv⟩:=CP.inh_ok Z h.1
  obtain⟨xs,d⟩:=JL Z h.2
  exact⟨v::xs,hv,d⟩
def pH(Φ:Facts):Z8 PT->Bool
 |[]=>true
 |.one c::r=>c.inh Φ&&pH Φ r
 |.agg l::r=>zf Φ l&&pH Φ r
 |.opq _ _::_=>false
theorem wX(Z:Vw):∀{l:Z8 PT},pH Φ l=true-> ∃rs,cT (PT.den Φ Z) l rs
 |[],_=>⟨[],ZY⟩
 |.one c::r,h=>by
  simp only[pH,Z1]at h
  obtain⟨v,hv⟩:=CP.inh_ok Z h.1
  obtain⟨xs,d⟩:=wX Z h.2
  exact⟨v::xs,hv,d⟩
 |.agg l::r,h=>by
  simp only[pH,Z1]at h
  obtain⟨v,hv⟩:=JL Z h.1
  obtain⟨xs,d⟩:=wX Z h.2
  exact⟨.agg v.toArray::xs,⟨v,J,hv⟩,d⟩
 |.opq _ _::_,h=>by cases h
def MV(p:Z8 (Nat×Bool))(b:Bool):Bool:=match p with
 |[]=>true
 |_::_=>b
def vL(Φ:Facts)(Sg:Z8 SumT)(G:AF)(p:Z8 (Nat×Bool)):Op->Z4 SumT
 |.call ⟨.value (.func f),args,_⟩=>so f (λs=>wR Φ G p s.ps args.toList&&MV p (pH Φ s.rs)) Sg
 |_=>none
theorem Oz{F:cy}{C:Z8 Nat}{O:Go.Eng.Own}{nl:Nat}{W:Vw}{p:Z8 (Nat×Bool)}{g:Bool}{u:Z8 Nat}{d f:Nat}{M:Z8 SV}(Ψ:Z7->Vw->Prop) (N:gd ops F C o.guard=some (p,g,u)) (hv:fL F p o.op=some (f,M)) (B:eJ P f) (hd:o.dst=some d) (t:(Nat.blt d n&& !(dh d u))=true) (hi:g=false-> ∃v,Ψ v W) (m:∀E w,Mem E O nl W w->Calls P f (M.map (SV.den E)).toArray w λe w'=>∃v V',e=.returned v/\cH w w'/\Vext w.heap.size W V' w'/\Ψ v V') (l:∀v V',W.le V'->Ψ v V'->KJ (wpList P ops Q rest) n ((d,⟨p,g,.a (.v v)⟩)::F) u O nl V'):KJ (wpList P ops Q (o::rest)) n F C O nl W:=by
 cases g with
 |true=>exact K8 Ψ N hv B hd t (λ_=>m) (λv V' L h=>l v V' L (h J))
 |false=>obtain⟨v,z⟩:=hi J;constructor;intro E a w y X Z;obtain⟨V,R,Y,T⟩:=gz X N;simp at t;unfold wpList;rw[V];simp only[Zw,Zt,hd];refine(l v W (Vw.le.refl _) z).out E _ w (by simp[Act.put,y]) ?_ Z;have:=Frm.put (p:=p) (g:=false) (s:=.a (.v v)) R t.1 t.2 Y T sm;simpa using this
theorem No{Sg:Z8 SumT}(aj:∀s∈Sg,dJ Φ P s){p:Z8 (Nat×Bool)}{C':Z8 Nat}{d:Nat}{s:SumT}(t:lS ops S.G S.C o.guard=some (p,C'))(hd:nr n C' o.dst=some d)(hv:vL Φ Sg S.G p o.op=some s) (R:AJ Φ V w0 (wpList P ops Q rest) n ⟨(d,⟨p,tb s.rs⟩)::S.G,C',S.H,S.nl⟩):AJ Φ V w0 (wpList P ops Q (o::rest)) n S:=by
 intro F O W Z l hF hO;obtain⟨g,m⟩:=vA hF t;obtain⟨h3,h4⟩:=tP hd;unfold vL at hv;split at hv
 .rename_i f al ts aa;obtain⟨X,hf,hb⟩:=uE hv;simp only[Z1]at hb;obtain⟨T,y⟩:=aj s X;obtain⟨ss,h5,h6⟩:=DB hF hb.1;(have ab:fL F p o.op=some (f,ss):=by rw[aa];simp only[fL,w9,cV,h5,Yp,Zb]);rw[hf]at T y;refine Oz (λv V'=>∃B:Vw,B.le V'/\Z.le B/\(∀k u,B.get k=some u->Z.get k=some u\/w0.heap.size<=k)/\(tb s.rs).rel Φ B (.a (.v v))) m ab T h3 h4 ?_ ?_ ?_
  .intro a8
   have hp:p≠[]:=by
    intro hp;subst hp;cases M:o.guard with
    |none=>rw[M]at m;simp only[gd,Z0,ZN]at m;rw[a8]at m;cases m.2.1
    |some jw=>rw[M]at t;obtain⟨j,am⟩:=jw;simp only[lS]at t;split at t;{split at t;{split at t;{cases t};cases t};cases t};cases t
   have ag:pH Φ s.rs=true:=by
    cases p with
    |nil=>exact absurd J hp
    |cons a b=>exact hb.2
   obtain⟨rs,z⟩:=wX Z ag;exact⟨eY rs,Z,l.zw,Vw.le.refl _,λk u h=>.inl h,w3 z⟩
  .intro E w hm;have ae:w0.heap.size<=w.heap.size:=(hm.below l.le0).size;refine(y Z w _ (l.zw.trans hm.leV) (h6 E)).mono ?_;rintro e w' ⟨v,V2,rfl,N,L,rs,z,rfl⟩;refine⟨_,W.grown w w',J,N,Vext.grown hm.leV N,V2,⟨?_,?_,?_,?_⟩,L.le,λk u h=>(L.get k u h).2.imp id (ZC ae),w3 z⟩;{intro k u hk;obtain⟨h1,Y⟩:=L.get k u hk;simp only[Vw.grown];(rcases Y with Y|Y);{have h7:=l.zw.get _ _ Y;rw[ZW (hm.leV.lt h7)];exact h7};rw[ZX om];exact h1};{exact l.zw.os.trans L.le.os.symm};{exact l.zw.tape.trans L.le.tape.symm};exact l.zw.output.trans L.le.output.symm
  rintro v V' ak ⟨B,h7,h8,h9,ac⟩;refine R _ O V' B ⟨l.le0.trans ak,h7,l.vz.trans h8,λk u h=>?_⟩ ((hF.mono h8).put ac)<|hO.mono h8;(rcases h9 k u h with h|h);{exact l.new k u h};exact .inr h
 cases hv
def sI(tt:Z8 (Nat×TI))(G:AF)(p:Z8 (Nat×Bool)):Op->Z4 (Nat×Nat×Z8 CP)
 |.buildSlice t len parts=>match lk tt t with
  |some ⟨_,_,_,_,.slice e⟩=>match lk tt e with
   |some ti=>bif Nat.ble (len*ti.size) 16777216&&Nat.beq ti.zero.length ti.size then(match pJ (eU len ti.zero)with
    |some zs=>match uF G p (pM e ti.size len 0) parts.toList zs with
     |some cs=>match qd cs with
      |some l=>some (e,len,l)
      |none=>none
     |none=>none
    |none=>none)else none
   |none=>none
  |_=>none
 |_=>none
theorem KN{Z:Vw}:∀{l:Z8 AC} {q:Z8 CP} {cs:Z8 A},qd l=some q->cT (AC.rel Φ Z) l cs-> ∃vs,mj cs=some vs/\cT (CP.den Φ Z) q vs
 |[],q,[],h,_=>by cases h;exact⟨[],J,ZY⟩
 |.c p::r,q,_::cs,h,⟨⟨v,e,hv⟩,ha⟩=>by
  subst e
  simp only[qd]at h
  split at h
  ·
   rename_i m hm
   cases h
   obtain⟨vs,h1,h2⟩:=KN hm ha
   exact⟨v::vs,by simp only[mj,h1],hv,h2⟩
  . cases h
 |.ptr _ _::_,_,_,h,_=>by cases h
 |[],_,_::_,_,h=>h.elim
 |.c _::_,_,[],_,h=>h.elim
theorem El{Z:Vw}{G:AF}{F:cy}{O:Go.Eng.Own}(N:fE Φ Z G F){p:Z8 (Nat×Bool)}{z:Op}{e len:Nat}{l:Z8 CP}(h:sI tt G p z=some (e,len,l)):∃vs,qF tt F O p z=some (len,vs,e)/\cT (CP.den Φ Z) l vs:=by
 unfold sI at h;split at h
 .rename_i t d parts;split at h
  .rename_i _ _ _ _ V u;split at h
   .rename_i y o;cases m:(Nat.ble (d*y.size) 16777216&&Nat.beq y.zero.length y.size)with
    |false=>rw[m]at h;cases h
    |true=>
     rw[m]at h;split at h
     .rename_i W R;split at h;{rename_i cs w;split at h;{rename_i q E;cases h;obtain⟨c,M,B⟩:=CT (O:=O) N (u7 R) w;obtain⟨vs,T,L⟩:=KN E B;exact⟨vs,by simp only[qF,u,o,m,Za,M,T],L⟩};cases h}
      grind
     grind
   cases h
  cases h
 cases h
theorem VQ{F:cy}{C:Z8 Nat}{O:Go.Eng.Own}{nl:Nat}{W:Vw}(y:(vw w0).le W){d:Nat}(z:Nat->Z7)(t:Obj)(R:o.guard=none)(hd:o.dst=some d)(B:(Nat.blt d n&& !(dh d C))=true) (N:∀E (a:Act) w,Frm E n F C nl a.tmps->Mem E O nl W w->(execOp a.eval o).run P w=.ok (.value (z w.heap.size)) (w.alloc t)) (l:∀b V',W.le V'->w0.heap.size<=b->V'.get b=some t->KJ (wpList P ops Q rest) n ((d,⟨[],true,.a (.v (z b))⟩)::F) C O nl V'):KJ (wpList P ops Q (o::rest)) n F C O nl W:=by constructor;intro E a w u L m;simp at B;unfold wpList;rw[show Region.wanted o (yielded ops a.tmps)=true by simp[Region.wanted,R]];simp;left;unfold Oper.wp;rw[N E a w L m];show wpList P ops Q rest (a.put o.dst _) _;rw[hd];have M:=m.vext t;refine(l w.heap.size _ M.le (m.below y).size (by simp[Vw.put])).out E _ _ (by simp[Act.put,u]) ?_<|m.ext (mh w t) M;have:=Frm.put (p:=[]) (g:=true) (s:=.a (.v (z w.heap.size))) L B.1 B.2 J sm (λ_=>rfl);simpa[SV.den,A.den]using this
theorem OE(N:dl P tt){d e len i:Nat}{l:Z8 CP}(Y:o.guard=none)(hd:nr n S.C o.dst=some d)(hv:sI tt S.G [] o.op=some (e,len,l))(hr:Φ.row e len l=some i) (y:AJ Φ V w0 (wpList P ops Q rest) n ⟨(d,⟨[],.a (.c (.nm i))⟩)::S.G,S.C,S.H,S.nl⟩):AJ Φ V w0 (wpList P ops Q (o::rest)) n S:=by
 intro F O W Z m R hO;obtain⟨h3,h4⟩:=tP hd;obtain⟨L,h1,T⟩:=El (O:=O) R hv;refine VQ (w0:=w0) m.le0 (λb=>.slice (some ⟨b,0,none⟩) len len) (.cells L.toArray e (0,0)) Y h3 h4 (λE a w hf hm=>wL N hf (by rfl) hm h1) λb V' p X B=>?_
 have u:Z.le (Z.put b (.cells L.toArray e (0,0))):=by
  refine⟨λk M t=>?_,J,J,J⟩;simp only[Vw.put];by_cases z:k=b
  .subst z;have:=p.get _ _ (m.zw.get _ _ t)
   simp_all
  simp_all
 refine y _ O V' (Z.put b (.cells L.toArray e (0,0))) ⟨m.le0.trans p,⟨λk M t=>?_,p.os.trans m.zw.os,p.tape.trans m.zw.tape,p.output.trans m.zw.output⟩,m.vz.trans u,λk M t=>?_⟩ ((R.mono u).put ?_)<|hO.mono u;{simp only[Vw.put]at t;split at t;{rename_i z;subst z;cases t;exact B};exact p.get _ _ (m.zw.get _ _ t)};{simp only[Vw.put]at t;split at t;{rename_i z;subst z;exact .inr X};exact m.new k M t};exact⟨_,J,_,J,Φ.rowOk hr (by simp[Vw.put]) (T.imp λ_ _=>CP.den_mono u)⟩
theorem Uh(a7:dl P tt){p:Z8 (Nat×Bool)}{Y:Z8 Nat}{d e len i:Nat}{l:Z8 CP}(hg:lS ops S.G S.C o.guard=some (p,Y))(hd:nr n Y o.dst=some d)(hv:sI tt S.G p o.op=some (e,len,l))(hr:Φ.row e len l=some i)(hn:Φ.nil i=true) (B:AJ Φ V w0 (wpList P ops Q rest) n ⟨(d,⟨p,.a (.c (.nm i))⟩)::S.G,Y,S.H,S.nl⟩):AJ Φ V w0 (wpList P ops Q (o::rest)) n S:=by
 intro F O W Z m X hO;obtain⟨g,a0⟩:=vA X hg;obtain⟨h3,h4⟩:=tP hd;obtain⟨L,h1,h2⟩:=El (O:=O) X hv;constructor;intro E a w M hf N;obtain⟨q1,q2,q3,q4⟩:=gz hf a0;have T:=h4;simp only[Z1,eD,ZJ]at T;unfold wpList;rw[q1];cases g with
 |true=>
  left;unfold Oper.wp;rw[wL a7 q2 q3.symm N h1];show wpList P ops Q rest (a.put o.dst _) _;rw[h3];have y:=N.vext (.cells L.toArray e (0,0));have hb:w0.heap.size<=w.heap.size:=(N.below m.le0).size;have t:(W.put w.heap.size (.cells L.toArray e (0,0))).get w.heap.size=some (.cells L.toArray e (0,0)):=by simp[Vw.put]
  have z:Z.le (Z.put w.heap.size (.cells L.toArray e (0,0))):=by
   refine⟨λk ob u=>?_,J,J,J⟩;simp only[Vw.put];by_cases R:k=w.heap.size;{subst R;have:=y.le.get _ _ (m.zw.get _ _ u);rw[t]at this;rw[ZW J];exact this}
   simp_all
  (have hw:Vws V w0 (W.put w.heap.size (.cells L.toArray e (0,0))) (Z.put w.heap.size (.cells L.toArray e (0,0))):=by refine⟨m.le0.trans y.le,⟨λk ob u=>?_,m.zw.os,m.zw.tape,m.zw.output⟩,m.vz.trans z,λk ob u=>?_⟩;{simp only[Vw.put]at u;split at u;{rename_i R;subst R;cases u;exact t};exact y.le.get _ _ (m.zw.get _ _ u)};simp only[Vw.put]at u;split at u;{rename_i R;subst R;exact .inr hb};exact m.new k ob u);refine(B _ O _ _ hw ((X.mono z).put (g:=true) (x:=.a (.v (.slice (some ⟨w.heap.size,0,none⟩) len len))) ⟨_,J,_,J,Φ.rowOk hr (by simp[Vw.put]) (h2.imp λ_ _=>CP.den_mono z)⟩) (hO.mono z)).out E _ _ (by simp[Act.put,M]) ?_<|N.ext (mh w _) y;have:=Frm.put (p:=p) (g:=true) (s:=.a (.v (.slice (some ⟨w.heap.size,0,none⟩) len len))) q2 T.1 T.2 q3 q4 (λ_=>rfl);simpa[SV.den,A.den]using this
 |false=>simp only[Zw,Zt,h3];refine(B _ O W Z m (X.put (g:=false) (x:=.a (.v (.slice none 0 0))) ⟨_,J,_,J,Φ.nilOk Z hn⟩) hO).out E _ w (by simp[Act.put,M]) ?_ N;have:=Frm.put (p:=p) (g:=false) (s:=.a (.v (.slice none 0 0))) q2 T.1 T.2 q3 q4 sm;simpa using this
end
section
variable{Φ:Facts}{V:Vw}{w0:Z6}{P:Z3}{tt:Z8 (Nat×TI)}{ops:Array Oper}{Q:Exit->Act->Z6->Prop}{o:Oper}{rest:Z8 Oper}{n:Nat}{S:AS}{K:Act->Z6->Prop}
def Df(Φ:Facts)(tt:Z8 (Nat×TI))(Sg:Z8 SumT)(n:Nat)(ops:Array Oper)(o:Oper)(S:AS):Z4 AS:=
 match lS ops S.G S.C o.guard with
 |some (p,C')=>match nr n C' o.dst with
  |some d=>match sQ Φ tt S.G S.H p o.op with
   |some av=>some ⟨(d,⟨p,av⟩)::S.G,C',S.H,S.nl⟩
   |none=>match uU Φ tt S.G p o.op with
    |some av=>some ⟨(d,⟨p,av⟩)::S.G,C',S.H,S.nl⟩
    |none=>match vL Φ Sg S.G p o.op with
     |some s=>some ⟨(d,⟨p,tb s.rs⟩)::S.G,C',S.H,S.nl⟩
     |none=>match o.guard with
      |none=>match nr n S.C o.dst,xy tt S.G o.op with
       |some d,some (l,e)=>some ⟨(d,⟨[],.a (.ptr S.nl 0)⟩)::S.G,S.C,(S.nl,l,e)::S.H,S.nl+1⟩
       |some d,none=>match sI tt S.G [] o.op with
        |some (e,len,l)=>match Φ.row e len l with
         |some i=>some ⟨(d,⟨[],.a (.c (.nm i))⟩)::S.G,S.C,S.H,S.nl⟩
         |none=>none
        |none=>none
       |none,_=>none
      |some _=>match sI tt S.G p o.op with
       |some (e,len,l)=>match Φ.row e len l with
        |some i=>bif Φ.nil i then some ⟨(d,⟨p,.a (.c (.nm i))⟩)::S.G,C',S.H,S.nl⟩else none
        |none=>none
       |none=>none
  |none=>match o.guard,o.dst with
   |none,none=>match pu tt S.G S.H o.op with
    |some (l,r,e)=>some ⟨S.G,S.C,(l,r,e)::S.H,S.nl⟩
    |none=>none
   |_,_=>none
 |none=>none
theorem P8(t:dl P tt){Sg:Z8 SumT}(N:∀s∈Sg,dJ Φ P s){O:AS}(h:Df Φ tt Sg n ops o S=some O)(m:AJ Φ V w0 (wpList P ops Q rest) n O):AJ Φ V w0 (wpList P ops Q (o::rest)) n S:=by
 unfold Df at h;split at h
 .rename_i p X z;split at h
  .rename_i d hd;split at h;{rename_i av W;cases h;exact TL t z hd W m};split at h;{rename_i R;cases h;exact SF t z hd R m};split at h;{rename_i s M;cases h;exact No N z hd M m};split at h
   .rename_i u;split at h;{rename_i T l e w y;cases h;exact LB t u w y m}
    .rename_i T w y;split at h;{rename_i e len l B;split at h;{rename_i i E;cases h;exact OE t u w B E m};cases h};cases h
    cases h
   split at h
   .rename_i e len l B;split at h
    .rename_i i E;cases y:Φ.nil i with
     |false=>rw[y]at h;cases h
     |true=>rw[y]at h;cases h;exact Uh t z hd B E y m
    cases h
   cases h
  split at h;{rename_i u L;split at h;{rename_i l r e M;cases h;exact On t u L M m};cases h};cases h
 cases h
def zx(Φ:Facts)(tt:Z8 (Nat×TI))(Sg:Z8 SumT)(n:Nat)(ops:Array Oper):Z8 Oper->AS->Z4 AS
 |[],S=>some S
 |o::r,S=>match Df Φ tt Sg n ops o S with
  |some S'=>zx Φ tt Sg n ops r S'
  |none=>none
def BK(G:AF)(t:Nat):Bool:=match lk G t with
 |some ⟨[],_⟩=>true
 |_=>false
def pv(G:AF):AF:=G.filter λq=>BK G q.1
theorem xu{α:Type}(f:Nat->Bool)(t:Nat):∀l:Z8 (Nat×α),lk (l.filter λq=>f q.1) t=if f t=true then lk l t else none
 |[]=>by simp[lk]
 |(k,a)::r=>by
  have ih:=xu f t r
  by_cases m:k=t
  ·
   subst m
   cases d:f k with
   |true=>simp[A',d,fm]
   |false=>rw[A'];simp only[d,Zw,Zt]at ih⊢;exact ih
  ·
   cases d:f k with
   |true=>rw[A'];simp only[d,Yf,fm,m,Zt];exact ih
   |false=>rw[A'];simp only[d,Zw,Zt,fm,m];exact ih
theorem Dx{α β:Type}(h:Nat->β)(t:Nat):∀l:Z8 (Nat×α),lk (l.map λq=>(q.1,h q.1)) t=(lk l t).map λ_=>h t
 |[]=>rfl
 |(k,a)::r=>by
  simp only[Zq,fm]
  by_cases hk:k=t
  . subst hk;simp
  . simp only[hk,Zt];exact Dx h t r
def uI(F:cy)(t:Nat):SV:=match cV F [] (.tmp t)with
 |some x=>x
 |none=>.a (.v undef)
theorem E9(l:AJ Φ V w0 K n ⟨pv S.G,[],S.H,S.nl⟩):AJ Φ V w0 K n S:=by
 intro F O W Z u M L
 have key:∀t e,lk (pv S.G) t=some e-> ∃g x,e.path=[]/\lk F t=some ⟨[],g,x⟩/\e.av.rel Φ Z x/\cV F [] (.tmp t)=some x:=by
  intro t e d;rw[pv,xu (BK S.G)]at d;split at d
  .rename_i y;unfold BK at y;rw[d]at y;obtain⟨p,av⟩:=e;obtain⟨g,x,o,B⟩:=M t _ d;cases p with
   |nil=>exact⟨g,x,J,o,B,by simp only[cV,o,ni,Za]⟩
   |cons a b=>cases y
  cases d
 have h:=l ((pv S.G).map λq=>(q.1,⟨[],true,uI F q.1⟩)) O W Z u ?_ L
 .refine⟨λE a w hd N T=>h.out E a w hd (N.plain ?_) T⟩;intro t e d;rw[Dx (λt=>(⟨[],true,uI F t⟩:Ent))]at d;cases z:lk (pv S.G) t with
  |none=>rw[z]at d;cases d
  |some ae=>rw[z]at d;cases d;obtain⟨g,x,_,_,_,m⟩:=key t ae z;exact⟨x,by simp only[uI,m],m⟩
 intro t e d;obtain⟨g,x,o,B,R,m⟩:=key t e d;refine⟨true,x,?_,R⟩;rw[Dx (λt=>(⟨[],true,uI F t⟩:Ent)),d,o];simp only[YR,uI,m]
theorem Fw(htt:dl P tt){Sg:Z8 SumT}(hSg:∀s∈Sg,dJ Φ P s):∀{l:Z8 Oper} {S S':AS},zx Φ tt Sg n ops l S=some S'->AJ Φ V w0 (Q .normal) n ⟨pv S'.G,[],S'.H,S'.nl⟩->AJ Φ V w0 (wpList P ops Q l) n S
 |[],S,S',h,next=>by
  cases h
  intro F O W Z hvw hF hO
  exact⟨λE a w hd hf hm=>(E9 next F O W Z hvw hF hO).out E a w hd hf hm⟩
 |o::r,S,S',h,next=>by
  simp only[zx]at h
  split at h
  ·
   rename_i S1 h1
   exact P8 htt hSg h1<|Fw htt hSg h next
  . cases h
end
inductive DD where
 |val (d:Nat) (p:List (Nat×Bool)) (av:AV)
 |sto (l:Nat) (r:AL) (e:Nat)
def DD.key:DD->Z4 Nat
 |.val d _ _=>some d
 |.sto _ _ _=>none
def DD.lab:DD->Z4 Nat
 |.val _ _ _=>none
 |.sto l _ _=>some l
def lf(o:Oper):Z8 Nat:=((o.after.toList.filter λe=>Region.binds .any e).map λe=>e.on)
def w8(o:Oper):Bool:=match o.guard with
 |none=>true
 |some (j,_)=>dh j (lf o)
def tE(Φ:Facts)(tt:Z8 (Nat×TI))(Sg:Z8 SumT)(n:Nat)(C:Z8 Nat)(ops:Array Oper)(G:AF)(H HS:AO)(o:Oper):Z4 DD:=
 bif w8 o then(match lS ops G [] o.guard with
 |none=>none
 |some (p,_)=>match o.dst with
  |some d=>bif Nat.blt d n&& !(dh d C)then(match sQ Φ tt G H p o.op with
   |some av=>some (.val d p av)
   |none=>match uU Φ tt G p o.op with
    |some av=>some (.val d p av)
    |none=>match vL Φ Sg G p o.op with
     |some s=>some (.val d p (tb s.rs))
     |none=>none)else none
  |none=>match o.guard with
   |some _=>none
   |none=>match pu tt G HS o.op with
    |some (l,r,e)=>some (.sto l r e)
    |none=>none)else none
def qX(ds:Z8 DD):Z8 Nat->AF->Z4 AF
 |[],G=>some G
 |j::r,G=>match qX ds r G with
  |some G'=>match ds[j]? with
   |some (.val d p av)=>some ((d,⟨p,av⟩)::G')
   |some (.sto _ _ _)=>some G'
   |none=>none
  |none=>none
def ux(Φ:Facts)(tt:Z8 (Nat×TI))(Sg:Z8 SumT)(n:Nat)(C:Z8 Nat)(ops:Array Oper)(G:AF)(H HS:AO):Z8 Oper->Z8 DD->Z4 (Z8 DD)
 |[],ds=>some ds
 |o::r,ds=>match qX ds (lf o) G with
  |some G'=>match tE Φ tt Sg n C ops G' H HS o with
   |some x=>ux Φ tt Sg n C ops G H HS r (ds++[x])
   |none=>none
  |none=>none
def rP:Z8 Oper->Z8 Nat
 |[]=>[]
 |o::r=>match o.dst with
  |some d=>d::rP r
  |none=>rP r
def mE:Z8 Nat->Bool
 |[]=>true
 |x::r=> !(dh x r)&&mE r
def lY{α:Type}(ks:Z8 Nat)(l:Z8 (Nat×α)):Z8 (Nat×α):=l.filter λq=> !(dh q.1 ks)
section
variable{Φ:Facts}{V:Vw}{w0:Z6}{P:Z3}{tt:Z8 (Nat×TI)}{Sg:Z8 SumT}{n:Nat}{C:Z8 Nat}{G0:AF}{H0 HS:AO}
theorem BZ{ops:Array Oper}:∀{l:Z8 Oper} {acc ds:Z8 DD},ux Φ tt Sg n C ops G0 H0 HS l acc=some ds->ds.length=acc.length+l.length/\(∀k,k<acc.length->ds[k]? =acc[k]?)/\
  ∀k o,l[k]? =some o-> ∃G' x,qX (ds.take (acc.length+k)) (lf o) G0=some G'/\tE Φ tt Sg n C ops G' H0 HS o=some x/\ds[acc.length+k]? =some x
 |[],acc,ds,h=>by cases h;exact⟨J,λ_ _=>rfl,λk o h=>by simp at h⟩
 |o::r,acc,ds,h=>by
  simp only[ux]at h
  split at h
  ·
   rename_i G' hG
   split at h
   ·
    rename_i x hx
    obtain⟨h1,h2,h3⟩:=BZ h
    simp only[ZQ,Y8,Ys]at h1 h2 h3
    have m:ds.take acc.length=acc:=by
     apply Yc
     intro k
     rw[List.getElem?_take]
     split
     ·
      rename_i d
      rw[h2 k om,List.getElem?_append_left d]
     ·
      rename_i d
      rw[List.getElem?_eq_none om]
    grind
   . cases h
  . cases h
structure DInv(Φ:Facts)(Z:Vw)(G0:AF)(H0 HS:AO)(C0:List Nat)(ops:Array Oper)(ds:List DD)(listed:List Bool)(C:List Nat)(F:cy)(O:Go.Eng.Own):Prop where
 base:fE Φ Z G0 F
 own:jl Φ Z H0 O
 val:∀(j d:Nat) (p:List (Nat×Bool)) (av:AV),listed[j]? =some true->ds[j]? =some (DD.val d p av)-> ∃g x,lk F d=some ⟨p,g,x⟩/\av.rel Φ Z x
 cs:∀s,dh s C=true->dh s C0=true\/ ∃(j jj:Nat) (w:Bool) (o oj:Oper),listed[j]? =some true/\ops[j]? =some o/\o.guard=some (jj,w)/\ops[jj]? =some oj/\oj.dst=some s
 dn:∀(j:Nat) o,listed[j]? =some true->ops[j]? =some o-> ∀i∈lf o,listed[i]? =some true
 sto:∀(j l:Nat) (r:AL) (e:Nat),ds[j]? =some (DD.sto l r e)->listed[j]? =some true-> ∃cs,lk O l=some (.lit cs e)/\AL.rel Φ Z r cs
 pend:∀(j l:Nat) (r:AL) (e:Nat) (x:AL×Nat),ds[j]? =some (DD.sto l r e)->listed[j]? =some false->lk HS l=some x-> ∃cs,lk O l=some (.lit cs x.2)/\AL.rel Φ Z x.1 cs
theorem DInv.mono{Z z:Vw}(o:Z.le z){B C:Z8 Nat}{ops:Array Oper}{ds:Z8 DD}{m:Z8 Bool}{F:cy}{O:Go.Eng.Own}(h:DInv Φ Z G0 H0 HS B ops ds m C F O):DInv Φ z G0 H0 HS B ops ds m C F O:=
 ⟨h.base.mono o,h.own.mono o,λj d p av w t=>(by obtain⟨g,x,y,u⟩:=h.val j d p av w t;exact⟨g,x,y,AV.mono o u⟩),h.cs,h.dn,
  λj l r e w t=>by obtain⟨cs,y,u⟩:=h.sto j l r e w t;exact⟨cs,y,AL.mono o u⟩,
  λj l r e x w t E=>by obtain⟨cs,y,u⟩:=h.pend j l r e x w t E;exact⟨cs,y,AL.mono o u⟩⟩
theorem yR{Z:Vw}{G:AF}{F:cy}(m:fE Φ Z G F){d:Nat}{p:Z8 (Nat×Bool)}{av:AV}(h:∃g x,lk F d=some ⟨p,g,x⟩/\av.rel Φ Z x):fE Φ Z ((d,⟨p,av⟩)::G) F:=λt e l=>by rw[fm]at l;by_cases hd:d=t;{grind};simp only[hd,Zt]at l;exact m t e l
theorem Ho{Z:Vw}{u C:Z8 Nat}{ops:Array Oper}{ds:Z8 DD}{l:Z8 Bool}{F:cy}{O:Go.Eng.Own}(h:DInv Φ Z G0 H0 HS u ops ds l C F O)(m:Nat):∀{js:Z8 Nat} {G':AF},(∀j∈js,l[j]? =some true)->qX (ds.take m) js G0=some G'->fE Φ Z G' F/\ ∀j∈js,j<m
 |[],G',_,he=>by cases he;exact⟨h.base,sm⟩
 |j::r,G',hl,he=>by
  simp only[qX]at he
  split at he
  ·
   rename_i G1 h1
   obtain⟨h2,h3⟩:=Ho h m (λk o=>hl k (Zr _ o)) h1
   have t:∀{x:DD},(ds.take m)[j]? =some x->j<m/\ds[j]? =some x:=by
    grind
   split at he
   ·
    rename_i d p av hd
    cases he
    obtain⟨w,y⟩:=t hd
    exact⟨yR h2 (h.val j d p av (hl j Zj) y),λk o=>by rcases Zg.1 o with rfl|o<;>first|exact w|exact h3 k o⟩
   ·
    simp_all
   . cases he
  . cases he
theorem NE{G:AF}{p:Op}{l e:Nat}{r:AL}(h:pu tt G HS p=some (l,r,e)):∃x,lk HS l=some x/\pu tt G [(l,x)] p=some (l,r,e):=by
 unfold pu at h;split at h
 .rename_i t y x;split at h
  .rename_i N off s L B E m;split at h
   .rename_i cs M u z o;cases d:Nat.beq u.1.length L.size with
    |false=>rw[d]at h;cases h
    |true=>
     rw[d]at h;split at h;{rename_i q w;cases h;exact⟨_,z,by simp only[pu,B,E,m,dF,o,d,Za,w]⟩}
     grind
   cases h
  cases h
 cases h
theorem D8{ds:Z8 DD}{m:Nat}:∀{js:Z8 Nat} {G G':AF},qX (ds.take m) js G=some G'-> ∀j∈js,j<m
 |[],_,_,_,j,hj=>by simp at hj
 |k::r,G,G',he,j,hj=>by
  simp only[qX]at he
  split at he
  ·
   rename_i G1 h1
   have hlt:∀{x:DD},(ds.take m)[k]? =some x->k<m:=by
    grind
   rcases Zg.1 hj with rfl|hj
   ·
    grind
   . exact D8 h1 j hj
  . cases he
def e8(f:DD->Z4 Nat):Z8 DD->Z8 Nat
 |[]=>[]
 |x::r=>match f x with
  |some k=>k::e8 f r
  |none=>e8 f r
theorem Do{f:DD->Z4 Nat}{x:DD}{k:Nat}(d:f x=some k):∀{ds:Z8 DD} {i:Nat},ds[i]? =some x->k∈e8 f ds
 |y::r,0,h=>by simp at h;subst h;simp[e8,d]
 |y::r,i+1,h=>by
  have:=Do d (ds:=r) (by simpa using h)
  simp only[e8]
  split
  . exact Zr _ this
  . exact this
 |[],_,h=>by simp at h
theorem xT{f:DD->Z4 Nat}:∀{ds:Z8 DD} {i j:Nat} {x y:DD} {k:Nat},mE (e8 f ds)=true->ds[i]? =some x->ds[j]? =some y->f x=some k->f y=some k->i=j
 |z::r,0,0,_,_,_,_,_,_,_,_=>rfl
 |z::r,0,j+1,x,y,k,hn,hx,hy,fx,fy=>by
  simp at hx;subst hx
  simp only[e8,fx,mE,Z1,ZJ]at hn
  have:=Do fy (ds:=r) (i:=j) (by simpa using hy)
  rw[kR.2 this]at hn
  cases hn.1
 |z::r,i+1,0,x,y,k,hn,hx,hy,fx,fy=>by
  simp at hy;subst hy
  simp only[e8,fy,mE,Z1,ZJ]at hn
  have:=Do fx (ds:=r) (i:=i) (by simpa using hx)
  rw[kR.2 this]at hn
  cases hn.1
 |z::r,i+1,j+1,x,y,k,hn,hx,hy,fx,fy=>by
  have d:mE (e8 f r)=true:=by
   simp only[e8]at hn
   split at hn
   . simp only[mE,Z1]at hn;exact hn.2
   . exact hn
  have:=xT (i:=i) (j:=j) (x:=x) (y:=y) d (by simpa using hx) (by simpa using hy) fx fy
  omega
 |[],_,_,_,_,_,_,h,_,_,_=>by simp at h
def l6:Z8 Bool->Nat
 |[]=>0
 |true::r=>l6 r
 |false::r=>l6 r+1
theorem w4:∀{l:Z8 Bool} {i:Nat},l[i]? =some false->l6 l=l6 (dz l i)+1
 |b::r,0,h=>by simp at h;subst h;rfl
 |true::r,i+1,h=>by
  have:=w4 (i:=i) (by simpa using h)
  simp only[l6,dz]
  omega
 |false::r,i+1,h=>by
  have:=w4 (i:=i) (by simpa using h)
  simp only[l6,dz]
  omega
 |[],_,h=>by simp at h
theorem HT:∀(l:Z8 Bool) (i:Nat),(dz l i).length=l.length
 |[],_=>rfl
 |_::_,0=>rfl
 |_::r,i+1=>by simp[dz,HT r i]
theorem mW:∀(l:Z8 Bool) (i j:Nat),(dz l i)[j]? =if i=j/\j<l.length then some true else l[j]?
 |[],_,_=>by simp[dz]
 |b::r,0,0=>by simp[dz]
 |b::r,0,j+1=>by simp[dz]
 |b::r,i+1,0=>by simp[dz]
 |b::r,i+1,j+1=>by simp[dz,mW r i j]
theorem Cf{ops:Array Oper}{d:Z8 Bool}{i:Nat}(h:i∈Region.ready .any ops d.toArray):∃o,ops[i]? =some o/\d[i]? =some false/\ ∀j∈lf o,d[j]? =some true:=by
 unfold Region.ready at h;simp at h;obtain⟨y,p,t⟩:=h;(have u:ops[i]? =some ops[i]:=by simp[y]);refine⟨ops[i],u,?_,?_⟩
 .cases l:d[i]? with
  |none=>simp[l]at p
  |some b=>simp[l]at p;rw[p]
 intro j m;rw[u]at t;simp only[YR,YK,D',Zv,ZJ]at t;unfold lf at m;simp at m;obtain⟨e,⟨w,z⟩,rfl⟩:=m;(rcases t e (by simpa using w)with h4|h4);{rw[z]at h4;cases h4};cases l:d[e.on]? with
 |none=>simp[l]at h4
 |some b=>simp[l]at h4;rw[h4]
theorem GF:∀{l:Z8 Bool} {k:Nat},l6 l=k+1-> ∃i:Nat,l[i]? =some false/\ ∀j:Nat,j<i->l[j]? =some true
 |false::r,k,_=>⟨0,J,λj hj=>om⟩
 |true::r,k,h=>by
  obtain⟨i,h1,h2⟩:=GF (k:=k) (by simpa[l6]using h)
  refine⟨i+1,by simpa using h1,λj hj=>?_⟩
  cases j with
  |zero=>rfl
  |succ j=>simpa using h2 j om
 |[],k,h=>by simp[l6]at h
theorem EL{ops:Array Oper}{d:Z8 Bool}{i:Nat}{o:Oper}(m:ops[i]? =some o)(hi:d[i]? =some false)(p:∀j∈lf o,d[j]? =some true):i∈Region.ready .any ops d.toArray:=by
 unfold Region.ready;have l:=(Array.getElem?_eq_some_iff.1 m).1;simp;refine⟨l,?_,?_⟩;{simp[hi]};rw[m];simp only[YR,YK,D',Zv,ZJ];intro e t;cases u:Region.binds .any e with
 |false=>exact .inl J
 |true=>right;have:=p e.on (by unfold lf;simp;exact⟨e,⟨by simpa using t,u⟩,J⟩);simp[this]
theorem Tp{ops:Array Oper}{Q:Exit->Act->Z6->Prop}{sp:Z8 Nat}{y:Go.Eng.Own}{m nl:Nat}{V0 W:Vw}{l:Nat}{d:Z8 Bool}{F:cy}{O:Go.Eng.Own} (p:Region.ready .any ops d.toArray=[]) (h:KJ (Q .normal) n F C O nl W):HJ P ops Q sp y m V0 l d n F C O nl W:=by
 constructor;intro E0 E a w t hd u z B;have o:=h.out E a w hd u z;cases l with
 |zero=>exact⟨p,o⟩
 |succ f=>exact⟨λ_=>o,λi hi=>by rw[p]at hi;cases hi⟩
theorem P0{ops:Array Oper}{G:AF}{o c1:Z8 Nat}{p:Z8 (Nat×Bool)}{d:Z4 (Nat×Bool)}(h:lS ops G o d=some (p,c1))(l:Z8 Nat):∃c2,lS ops G l d=some (p,c2)/\((d=none/\p=[]/\c2=l)\/ ∃(j:Nat) (w:Bool) (oj:Oper) (s:Nat),d=some (j,w)/\ops[j]? =some oj/\oj.dst=some s/\c2=s::l):=by
 cases d with
 |none=>cases h;exact⟨l,J,.inl ⟨J,J,J⟩⟩
 |some jw=>
  obtain⟨j,m⟩:=jw;simp only[lS]at h⊢
  grind
theorem F7{ops:Array Oper}{G:AF}{H l:AO}{o:Oper}{x:DD}{d:Nat}(h:tE Φ tt Sg n C ops G H l o=some x)(hd:o.dst=some d):∃p av,x=.val d p av:=by
 unfold tE at h
 grind
theorem Wm{ops:Array Oper}{Q:Exit->Act->Z6->Prop}{sp:Z8 Nat}{V:Go.Eng.Own}{y nl:Nat}{V0 W:Vw}{t:Nat}{l:Z8 Bool}{F:cy}{O:Go.Eng.Own}{C:Z8 Nat}{o:Oper}(i:Nat){p:Z8 (Nat×Bool)}{g:Bool}{z:Z8 Nat}{d f:Nat}{R:Z8 SV}(Ψ:Z7->Vw->Prop)(hi:ops[i]? =some o) (T:gd ops F C o.guard=some (p,g,z)) (Y:fL F p o.op=some (f,R)) (M:eJ P f) (hd:o.dst=some d) (X:(Nat.blt d n&& !(dh d z))=true) (L:g=false-> ∃v,Ψ v W) (u:∀E w,Mem E O nl W w->Calls P f (R.map (SV.den E)).toArray w λe w'=>∃v V',e=.returned v/\cH w w'/\Vext w.heap.size W V' w'/\Ψ v V') (m:∀v V',W.le V'->Ψ v V'->HJ P ops Q sp V y V0 t (dz l i) n ((d,⟨p,g,.a (.v v)⟩)::F) z O nl V'):HI P ops Q sp V y V0 t l n F C O nl W i:=by
 cases g with
 |true=>exact gA i Ψ hi T Y M hd X (λ_=>u) (λv V' N h=>m v V' N (h J))
 |false=>obtain⟨v,B⟩:=L J;exact pB i hi T hd X (λh=>by cases h)<|m v W (Vw.le.refl _) B
theorem XR(aI:dl P tt)(bE:∀s∈Sg,dJ Φ P s){ops:Array Oper}{Q:Exit->Act->Z6->Prop}{ds:Z8 DD}{nl:Nat}{V0:Vw}
  (hd:ux Φ tt Sg n C ops G0 H0 HS ops.toList []=some ds) (hk:mE (e8 DD.key ds)=true) (hl:mE (e8 DD.lab ds)=true)
  (bn:∀(i d:Nat) (p:Z8 (Nat×Bool)) (av:AV),ds[i]? =some (DD.val d p av)->lk G0 d=none) (bu:∀(i l:Nat) (r:AL) (e:Nat),ds[i]? =some (DD.sto l r e)->lk H0 l=none)
  (aZ:∀F C1 O W Z listed,Vws V w0 W Z->listed.length=ops.size->(∀i:Nat,listed[i]? ≠some false)->DInv Φ Z G0 H0 HS C ops ds listed C1 F O->KJ (Q .normal) n F C1 O nl W):
  ∀(m:Nat) (listed:Z8 Bool) F C1 O W Z,listed.length=ops.size->l6 listed=m->Vws V w0 W Z->V0.le W->DInv Φ Z G0 H0 HS C ops ds listed C1 F O->HJ P ops Q [] [] nl V0 m listed n F C1 O nl W:=by
 obtain⟨aY,_,X⟩:=BZ hd
 simp only[Ys,Zo,Y2]at aY X
 have aF:∀{i j d:Nat} {o Y:Oper},ops[i]? =some o->ops[j]? =some Y->o.dst=some d->Y.dst=some d->i=j:=by
  intro i j d o Y hi M T R
  obtain⟨_,x,_,L,a6⟩:=X i o (by simpa using hi)
  obtain⟨_,y,_,hy,bC⟩:=X j Y (by simpa using M)
  obtain⟨_,_,rfl⟩:=F7 L T
  obtain⟨_,_,rfl⟩:=F7 hy R
  exact xT hk a6 bC J J
 have ba:∀{j:Nat} {o:Oper} {jj:Nat} {w:Bool},ops[j]? =some o->o.guard=some (jj,w)->jj∈lf o:=by
  intro j o jj w M hg
  obtain⟨_,x,_,L,_⟩:=X j o (by simpa using M)
  unfold tE at L
  cases hp:w8 o with
  |false=>rw[hp]at L;cases L
  |true=>
   unfold w8 at hp
   rw[hg]at hp
   exact kR.1 hp
 intro m
 induction m with
 |zero=>
  intro listed F C1 O W Z aN hc N ax u
  have aD:∀i:Nat,listed[i]? ≠some false:=λi hi=>by have:=w4 hi;omega
  have hr:Region.ready .any ops listed.toArray=[]:=by
   cases hq:Region.ready .any ops listed.toArray with
   |nil=>rfl
   |cons i r=>
    obtain⟨o,_,R,_⟩:=Cf (i:=i) (by rw[hq];exact Zj)
    exact absurd R<|aD i
  exact Tp hr<|aZ F C1 O W Z listed N aN aD u
 |succ m ih=>
  intro listed F C1 O W Z aN hc N ax u
  have aa:(Region.ready .any ops listed.toArray).isEmpty=false:=by
   obtain⟨i,T,R⟩:=GF hc
   have an:i<ops.size:=by have:=(List.getElem?_eq_some_iff.1 T).1;omega
   have ho:ops[i]? =some ops[i]:=by simp[an]
   obtain⟨G',x,hG,_,_⟩:=X i ops[i] (by simp[an])
   have:=EL ho T (λj M=>R j (D8 hG j M))
   cases hq:Region.ready .any ops listed.toArray with
   |nil=>rw[hq]at this;cases this
   |cons a b=>rfl
  refine wv _ J aa λi hi=>?_
  obtain⟨o,ho,ag,am⟩:=Cf hi
  obtain⟨G',x,hG,L,a6⟩:=X i o (by simpa using ho)
  obtain⟨ab,_⟩:=Ho u i am hG
  have b6:l6 (dz listed i)=m:=by have:=w4 ag;omega
  have aC:(dz listed i).length=ops.size:=by rw[HT];exact aN
  have an:i<listed.length:=(List.getElem?_eq_some_iff.1 ag).1
  have ay:∀{j:Nat},listed[j]? =some true->(dz listed i)[j]? =some true:=by
   intro j M
   rw[mW]
   split
   . rfl
   . exact M
  have b1:∀(j:Nat) Y,(dz listed i)[j]? =some true->ops[j]? =some Y-> ∀q∈lf Y,(dz listed i)[q]? =some true:=by
   intro j Y M ae q hq
   by_cases B:j=i
   ·
    subst B
    rw[ho]at ae
    cases ae
    exact ay<|am q hq
   ·
    rw[mW,ZX (λh=>B h.1.symm)]at M
    exact ay<|u.dn j Y M ae q hq
  unfold tE at L
  cases al:w8 o with
  |false=>rw[al]at L;cases L
  |true=>
  rw[al]at L
  simp only[Za]at L
  split at L
  . cases L
  ·
   rename_i p c1 ah
   split at L
   ·
    rename_i d a0
    cases ad:(Nat.blt d n&& !(dh d C))with
    |false=>rw[ad]at L;cases L
    |true=>
     rw[ad]at L
     simp only[Za]at L
     obtain⟨C2,aX,aL⟩:=P0 ah C1
     obtain⟨g,a5⟩:=vA ab aX
     simp only[Z1,ZJ]at ad
     have aK:∀(j jj:Nat) (w:Bool) (Y oj:Oper),listed[j]? =some true->ops[j]? =some Y->Y.guard=some (jj,w)->ops[jj]? =some oj->oj.dst≠some d:=by
      intro j jj w Y oj M ae bq bs bv
      have e:=aF bs ho bv a0
      subst e
      have:=u.dn j Y M ae _ (ba ae bq)
      rw[ag]at this
      cases this
     have aA:dh d C1=false:=by
      cases hm:dh d C1 with
      |false=>rfl
      |true=>
       rcases u.cs d hm with h|⟨j,jj,w,Y,oj,T,R,h3,h4,h5⟩
       . rw[h]at ad;cases ad.2
       . exact absurd h5 (aK j jj w Y oj T R h3 h4)
     have hb:(Nat.blt d n&& !(dh d C2))=true:=by
      simp only[Z1,ZJ]
      refine⟨ad.1,?_⟩
      rcases aL with⟨_,_,rfl⟩|⟨j,w,oj,s,T,R,h3,rfl⟩
      . exact aA
      ·
       have aa:d≠s:=by
        rintro rfl
        have e:=aF R ho h3 a0
        subst e
        have:=am _ (ba ho T)
        rw[ag]at this
        cases this
       show(bif Nat.beq d s then true else dh d C1)=false
       have:Nat.beq d s=false:=by rw[<-Yj,YU];exact aa
       rw[this]
       exact aA
     have b0:∀s,dh s C2=true->dh s C=true\/ ∃(j jj:Nat) (w:Bool) (Y oj:Oper),(dz listed i)[j]? =some true/\ops[j]? =some Y/\Y.guard=some (jj,w)/\ops[jj]? =some oj/\oj.dst=some s:=by
      intro s hs
      have aW:dh s C1=true->dh s C=true\/ ∃(j jj:Nat) (w:Bool) (Y oj:Oper),(dz listed i)[j]? =some true/\ops[j]? =some Y/\Y.guard=some (jj,w)/\ops[jj]? =some oj/\oj.dst=some s:=by
       intro h
       rcases u.cs s h with h|⟨j,jj,w,Y,oj,T,R,h3,h4,h5⟩
       . exact .inl h
       . exact .inr ⟨j,jj,w,Y,oj,ay T,R,h3,h4,h5⟩
      rcases aL with⟨_,_,rfl⟩|⟨j,w,oj,s',T,R,h3,rfl⟩
      . exact aW hs
      ·
       by_cases e:s=s'
       ·
        subst e
        exact .inr ⟨i,j,w,o,oj,by rw[mW,ZW ⟨J,an⟩],ho,T,R,h3⟩
       ·
        refine aW ?_
        have hs:(bif Nat.beq s s' then true else dh s C1)=true:=hs
        have:Nat.beq s s'=false:=by rw[<-Yj,YU];exact e
        rw[this]at hs
        exact hs
     -- what comes lL, whatever the value
     have aQ:∀{Z':Vw} {W':Vw} {av:AV} {s:SV},Vws V w0 W' Z'->Z.le Z'->W.le W'->ds[i]? =some (.val d p av)->av.rel Φ Z' s->
       HJ P ops Q [] [] nl V0 m (dz listed i) n ((d,⟨p,g,s⟩)::F) C2 O nl W':=by
      intro Z' W' av s be bx bp ai hs
      refine ih (dz listed i) _ C2 O W' Z' aC b6 be (ax.trans bp) ?_
      have aj:=u.mono bx
      have aa:∀{j:Nat} {d':Nat} {p':Z8 (Nat×Bool)} {ao:AV},ds[j]? =some (.val d' p' ao)->j≠i->d≠d':=λM B he=>by
       subst he
       exact B<|xT hk M ai J J
      refine⟨λt e ht=>?_,aj.own,λj d' p' ao M z=>?_,b0,b1,λj l r e z M=>?_,λj l r e x z M L=>?_⟩
      ·
       have:d≠t:=λhe=>by rw[<-he,bn i d p av ai]at ht;cases ht
       obtain⟨g,y,T,R⟩:=aj.base t e ht
       exact⟨g,y,by rw[gB _ _ this];exact T,R⟩
      ·
       by_cases B:j=i
       ·
        subst B
        rw[ai]at z
        cases z
        exact⟨g,s,dF _ _ _,hs⟩
       ·
        rw[mW,ZX (λh=>B h.1.symm)]at M
        obtain⟨g,y,T,R⟩:=aj.val j d' p' ao M z
        exact⟨g,y,by rw[gB _ _ (aa z B)];exact T,R⟩
      ·
       have B:j≠i:=λhe=>by subst he;rw[ai]at z;cases z
       rw[mW,ZX (λh=>B h.1.symm)]at M
       exact aj.sto j l r e z M
      ·
       have B:j≠i:=λhe=>by subst he;rw[ai]at z;cases z
       rw[mW,ZX (λh=>B h.1.symm)]at M
       exact aj.pend j l r e x z M L
     split at L
     ·
      rename_i av aO
      cases L
      obtain⟨s,T,R⟩:=AD (O:=O) ab u.own aO
      exact pB i ho a5 a0 hb (jr aI T)<|aQ N (Vw.le.refl _) (Vw.le.refl _) a6 R
     ·
      split at L
      ·
       rename_i bk
       cases L
       obtain⟨s,T,R⟩:=Lh (P:=P) (n:=n) (C:=C2) (O:=O) (nl:=nl) aI N.zw ab bk
       exact pB i ho a5 a0 hb (R g)<|aQ N (Vw.le.refl _) (Vw.le.refl _) a6 T
      ·
       split at L
       ·
        rename_i su az
        cases L
        unfold vL at az
        split at az
        ·
         rename_i f bG ts bB
         obtain⟨b7,hf,aH⟩:=uE az
         simp only[Z1]at aH
         obtain⟨b2,aE⟩:=bE su b7
         obtain⟨ss,h5,h6⟩:=DB ab aH.1
         have aO:fL F p o.op=some (f,ss):=by
          rw[bB]
          simp only[fL,w9,cV,h5,Yp,Zb]
         rw[hf]at b2 aE
         refine Wm i (λv V'=>∃Z':Vw,Z'.le V'/\Z.le Z'/\(∀k ob,Z'.get k=some ob->Z.get k=some ob\/w0.heap.size<=k)/\(tb su.rs).rel Φ Z' (.a (.v v))) ho a5 aO b2 a0 hb ?_ ?_ ?_
         ·
          intro bA
          have hp:p≠[]:=by
           rintro rfl
           rcases aL with⟨T,_,_⟩|⟨j,w,oj,s,T,R,h3,_⟩
           . rw[T]at a5;simp only[gd,Z0,ZN]at a5;rw[bA]at a5;cases a5.2.1
           . rw[T]at ah;simp only[lS,R,h3]at ah;split at ah<;>cases ah
          have bD:pH Φ su.rs=true:=by
           cases p with
           |nil=>exact absurd J hp
           |cons a b=>exact aH.2
          obtain⟨rs,aP⟩:=wX Z bD
          exact⟨eY rs,Z,N.zw,Vw.le.refl _,λk ob h=>.inl h,w3 aP⟩
         ·
          intro E w hm
          have bj:w0.heap.size<=w.heap.size:=(hm.below N.le0).size
          refine(aE Z w _ (N.zw.trans hm.leV) (h6 E)).mono ?_
          rintro e w' ⟨v,V2,rfl,bb,L,rs,aP,rfl⟩
          refine⟨_,W.grown w w',J,bb,Vext.grown hm.leV bb,V2,⟨?_,?_,?_,?_⟩,L.le,λk ob h=>(L.get k ob h).2.imp id (ZC bj),w3 aP⟩
          ·
           intro k ob hk
           obtain⟨T,R⟩:=L.get k ob hk
           simp only[Vw.grown]
           rcases R with R|R
           ·
            have h7:=N.zw.get _ _ R
            rw[ZW (hm.leV.lt h7)]
            exact h7
           ·
            rw[ZX om]
            exact T
          . exact N.zw.os.trans L.le.os.symm
          . exact N.zw.tape.trans L.le.tape.symm
          . exact N.zw.output.trans L.le.output.symm
         ·
          rintro v V' b9 ⟨Z',h7,h8,h9,bt⟩
          exact aQ ⟨N.le0.trans b9,h7,N.vz.trans h8,λk ob h=>(h9 k ob h).elim (N.new k ob) .inr⟩ h8 b9 a6 bt
        . cases az
       . cases L
   ·
    rename_i a0
    split at L
    . cases L
    rename_i bg
    split at L
    ·
     rename_i l r e br
     cases L
     obtain⟨x,bo,b3⟩:=NE br
     obtain⟨cs,T,R⟩:=u.pend i l r e x a6 ag bo
     have bw:jl Φ Z [(l,x)] O:=λl' y hy=>by
      rw[fm]at hy
      by_cases he:l=l'
      ·
       subst he
       simp only[Yf,Z0]at hy
       subst hy
       exact⟨cs,T,R⟩
      ·
       simp only[he,Zt]at hy
       simp[lk]at hy
     obtain⟨bl,vs,h3,h4,h5⟩:=K3 (O:=O) ab bw b3
     refine mC i aI ho bg a0 h3 h4 (.inr ⟨dm.nil,J,ax⟩)<|ih (dz listed i) _ _ _ W Z aC b6 N ax ?_
     have aa:∀{j l':Nat} {r':AL} {e':Nat},ds[j]? =some (.sto l' r' e')->j≠i->l≠l':=λM B he=>by
      subst he
      exact B<|xT hl M a6 J J
     refine⟨u.base,λt y ht=>?_,λj d' p' ao M z=>?_,λs hs=>?_,b1,λj l' r' e' z M=>?_,λj l' r' e' y z M hy=>?_⟩
     ·
      have:l≠t:=λhe=>by rw[<-he,bu i l r e a6]at ht;cases ht
      obtain⟨c,h6,h7⟩:=u.own t y ht
      exact⟨c,by rw[gB _ _ this];exact h6,h7⟩
     ·
      have B:j≠i:=λhe=>by subst he;rw[a6]at z;cases z
      rw[mW,ZX (λh=>B h.1.symm)]at M
      exact u.val j d' p' ao M z
     ·
      rcases u.cs s hs with h|⟨j,jj,w,Y,oj,T,R,h3,h4,h5⟩
      . exact .inl h
      . exact .inr ⟨j,jj,w,Y,oj,ay T,R,h3,h4,h5⟩
     ·
      by_cases B:j=i
      ·
       subst B
       rw[a6]at z
       cases z
       exact⟨bl,dF _ _ _,h5⟩
      ·
       rw[mW,ZX (λh=>B h.1.symm)]at M
       obtain⟨c,h6,h7⟩:=u.sto j l' r' e' z M
       exact⟨c,by rw[gB _ _ (aa z B)];exact h6,h7⟩
     ·
      have B:j≠i:=λhe=>by
       subst he
       rw[mW,ZW ⟨J,an⟩]at M
       cases M
      rw[mW,ZX (λh=>B h.1.symm)]at M
      obtain⟨c,h6,h7⟩:=u.pend j l' r' e' y z M hy
      exact⟨c,by rw[gB _ _ (aa z B)];exact h6,h7⟩
    . cases L
end
section
variable{Φ:Facts}{V:Vw}{w0:Z6}{P:Z3}{tt:Z8 (Nat×TI)}{ops:Array Oper}{Q:Exit->Act->Z6->Prop}{o:Oper}{rest:Z8 Oper}{n:Nat}{S:AS}{K:Act->Z6->Prop}
def uB:Z8 DD->AF->AF
 |[],G=>G
 |.val d p av::r,G=>(d,⟨p,av⟩)::uB r G
 |.sto _ _ _::r,G=>uB r G
def qL:Z8 DD->AO->AO
 |[],H=>H
 |.val _ _ _::r,H=>qL r H
 |.sto l cs e::r,H=>(l,cs,e)::qL r H
theorem CR{Z:Vw}{F:cy}{G:AF}(hG:fE Φ Z G F):∀{ds:Z8 DD},(∀x∈ds,∀d p av,x=DD.val d p av-> ∃g y,lk F d=some ⟨p,g,y⟩/\av.rel Φ Z y)->fE Φ Z (uB ds G) F
 |[],_=>hG
 |.val d p av::r,h=>yR (CR hG (λx hx=>h x (Zr _ hx))) (h _ Zj d p av J)
 |.sto _ _ _::r,h=>CR (ds:=r) hG (λx hx=>h x (Zr _ hx))
theorem DR{Z:Vw}{O:Go.Eng.Own}{H:AO}(hH:jl Φ Z H O):∀{ds:Z8 DD},(∀x∈ds,∀l r e,x=DD.sto l r e-> ∃cs,lk O l=some (.lit cs e)/\AL.rel Φ Z r cs)->jl Φ Z (qL ds H) O
 |[],_=>hH
 |.val _ _ _::r,h=>DR (ds:=r) hH (λx hx=>h x (Zr _ hx))
 |.sto l c e::r,h=>λt y hy=>by
  simp only[qL,fm]at hy
  by_cases he:l=t
  ·
   grind
  ·
   simp only[he,Zt]at hy
   exact DR hH (λx hx=>h x (Zr _ hx)) t y hy
def rl(G:AF)(H:AO):Z8 DD->Bool
 |[]=>true
 |.val d _ _::r=>(lk G d).isNone&&rl G H r
 |.sto l _ _::r=>(lk H l).isNone&&rl G H r
theorem DY{G:AF}{H:AO}:∀{ds:Z8 DD},rl G H ds=true->(∀(i d:Nat) (p:Z8 (Nat×Bool)) (av:AV),ds[i]? =some (DD.val d p av)->lk G d=none)/\ ∀(i l:Nat) (r:AL) (e:Nat),ds[i]? =some (DD.sto l r e)->lk H l=none
 |[],_=>⟨λ_ _ _ _ h=>by simp at h,λ_ _ _ _ h=>by simp at h⟩
 |.val d p av::r,h=>by
  simp only[rl,Z1,l_]at h
  obtain⟨h1,h2⟩:=DY h.2
  refine⟨λi t o m hi=>?_,λi l q e hi=>?_⟩
  ·
   cases i with
   |zero=>simp at hi;rw[<-hi.1];exact h.1
   |succ i=>exact h1 i t o m (by simpa using hi)
  ·
   cases i with
   |zero=>simp at hi
   |succ i=>exact h2 i l q e (by simpa using hi)
 |.sto l c e::r,h=>by
  simp only[rl,Z1,l_]at h
  obtain⟨h1,h2⟩:=DY h.2
  refine⟨λi t o m hi=>?_,λi u q w hi=>?_⟩
  ·
   cases i with
   |zero=>simp at hi
   |succ i=>exact h1 i t o m (by simpa using hi)
  ·
   cases i with
   |zero=>simp at hi;rw[<-hi.1];exact h.1
   |succ i=>exact h2 i u q w (by simpa using hi)
theorem Wz{Z:Vw}{G:AF}{F:cy}(ks:Z8 Nat)(h:fE Φ Z G F):fE Φ Z (lY ks G) F:=λt e d=>by rw[lY,xu (λt=> !(dh t ks))]at d;split at d;{exact h t e d};cases d
theorem S4{Z:Vw}{H:AO}{O:Go.Eng.Own}(ks:Z8 Nat)(h:jl Φ Z H O):jl Φ Z (lY ks H) O:=λt e d=>by rw[lY,xu (λt=> !(dh t ks))]at d;split at d;{exact h t e d};cases d
def BB(Φ:Facts)(tt:Z8 (Nat×TI))(Sg:Z8 SumT)(n:Nat)(ops:Array Oper)(S:AS):Z4 AS:=
 match ux Φ tt Sg n S.C ops (lY (rP ops.toList) S.G) S.H S.H ops.toList []with
 |some ds0=>match ux Φ tt Sg n S.C ops (lY (rP ops.toList) S.G) (lY (e8 DD.lab ds0) S.H) S.H ops.toList []with
  |some ds=>bif mE (e8 DD.key ds)&&(mE (e8 DD.lab ds)&&rl (lY (rP ops.toList) S.G) (lY (e8 DD.lab ds0) S.H) ds)then
    some ⟨uB ds (lY (rP ops.toList) S.G),[],qL ds (lY (e8 DD.lab ds0) S.H),S.nl⟩else none
  |none=>none
 |none=>none
theorem Ke:∀k,l6 (List.replicate k false)=k
 |0=>rfl
 |k+1=>by simp[Yr,l6,Ke k]
theorem Mz(a6:dl P tt)(z:P.follows .mixedOrders=true){Sg:Z8 SumT}(a9:∀s∈Sg,dJ Φ P s){X:AS}{id:Nat}(h:BB Φ tt Sg n ops S=some X)(M:AJ Φ V w0 (Q .normal) n ⟨pv X.G,[],X.H,X.nl⟩): AJ Φ V w0 ((Code.region id ops true).wp P Q) n S:=by
 unfold BB at h;split at h
 .rename_i a0 _;split at h
  .rename_i w B;generalize hG:lY (rP ops.toList) S.G=G0 at*;generalize hH:lY (e8 DD.lab a0) S.H=H0 at*;cases T:(mE (e8 DD.key w)&&(mE (e8 DD.lab w)&&rl G0 H0 w))with
   |false=>rw[T]at h;cases h
   |true=>
    rw[T]at h;cases h;simp only[Z1]at T;obtain⟨aa,a5,ab⟩:=T;obtain⟨a8,a7⟩:=DY ab;intro F O W Z Y hF hO;obtain⟨L,_,_⟩:=BZ B;simp only[Ys,Zo,Y2]at L
    have h1:=XR (V:=V) (w0:=w0) (Q:=Q) (nl:=S.nl) (V0:=W) a6 a9 B aa a5 a8 a7 ?_ ops.toList.length (List.replicate ops.toList.length false) F S.C O W Z sm (Ke _) Y (Vw.le.refl _)
     ⟨hG▸Wz _ hF,hH▸S4 _ hO,λj d p av t _=>(by rw[List.getElem?_replicate]at t;split at t<;>cases t),λs hs=>.inl hs,λj o t _=>(by rw[List.getElem?_replicate]at t;split at t<;>cases t),λj l r e _ t=>(by rw[List.getElem?_replicate]at t;split at t<;>cases t),
      λj l r e x _ _ y=>hO l x y⟩
    {exact gE (l:=ops.toList) (id:=id) [] [] z dm.nil J (KU h1)};intro F' C1 O' W' Z' m N ag R u
    have E:∀{j:Nat} {x:DD},w[j]? =some x->m[j]? =some true:=by
     intro j x y;have t:=(List.getElem?_eq_some_iff.1 y).1;have hq:m[j]? =some m[j]:=List.getElem?_eq_getElem om;cases hv:m[j]with
     |true=>rw[hq,hv]
     |false=>exact absurd (by rw[hq,hv]) (R j)
    have hA:=M;have h2:AJ Φ V w0 (Q .normal) n ⟨uB w G0,C1,qL w H0,S.nl⟩:=E9 (S:=⟨uB w G0,C1,qL w H0,S.nl⟩) hA;refine h2 F' O' W' Z' N (CR u.base λx y d p av e=>?_)<|DR u.own λx y l r e he=>?_;{obtain⟨j,t⟩:=Zs.1 y;subst e;exact u.val j d p av (E t) t};obtain⟨j,t⟩:=Zs.1 y;subst he;exact u.sto j l r e t<|E t
  cases h
 cases h
inductive Fr where
 |seq (c:Code)
 |blk (id:Nat)
def kZ(P:Z3)(Q0:Exit->Act->Z6->Prop):Z8 Fr->Exit->Act->Z6->Prop
 |[]=>Q0
 |.seq c::r=>Exit.then (c.wp P (kZ P Q0 r)) (kZ P Q0 r)
 |.blk id::r=>Exit.inBlock id (kZ P Q0 r)
inductive Md where
 |code (c:Code)
 |normal
 |ret
 |exit (id:Nat)
def Md.den(P:Z3)(Q:Exit->Act->Z6->Prop):Md->Act->Z6->Prop
 |.code c=>c.wp P Q
 |.normal=>Q .normal
 |.ret=>Q .ret
 |.exit id=>Q (.exit id)
def fe(Φ:Facts)(tt:Z8 (Nat×TI))(Sg:Z8 SumT)(n:Nat)(fin:AS->Bool):Nat->Md->Z8 Fr->AS->Bool
 |0,_,_,_=>false
 |k+1,.code (.seq x y),K,S=>fe Φ tt Sg n fin k (.code x) (.seq y::K) S
 |k+1,.code (.region _ ops false),K,S=>match zx Φ tt Sg n ops ops.toList S with
  |some S'=>fe Φ tt Sg n fin k .normal K ⟨pv S'.G,[],S'.H,S'.nl⟩
  |none=>false
 |k+1,.code (.region _ ops true),K,S=>match BB Φ tt Sg n ops S with
  |some S'=>fe Φ tt Sg n fin k .normal K ⟨pv S'.G,[],S'.H,S'.nl⟩
  |none=>false
 |k+1,.code (.cond c x y),K,S=>match gm S.G [] c with
  |some (.a (.c .bool))=>fe Φ tt Sg n fin k (.code x) K S&&fe Φ tt Sg n fin k (.code y) K S
  |_=>false
 |k+1,.code (.block id c),K,S=>fe Φ tt Sg n fin k (.code c) (.blk id::K) S
 |k+1,.code (.exit id),K,S=>fe Φ tt Sg n fin k (.exit id) K S
 |k+1,.code .ret,K,S=>fe Φ tt Sg n fin k .ret K S
 |k+1,.code .skip,K,S=>fe Φ tt Sg n fin k .normal K S
 |_+1,.code _,_,_=>false
 |_+1,.normal,[],S=>fin S
 |_+1,.ret,[],S=>fin S
 |_+1,.exit _,[],_=>false
 |k+1,.normal,.seq c::K,S=>fe Φ tt Sg n fin k (.code c) K S
 |k+1,.ret,.seq _::K,S=>fe Φ tt Sg n fin k .ret K S
 |k+1,.exit id,.seq _::K,S=>fe Φ tt Sg n fin k (.exit id) K S
 |k+1,.normal,.blk _::K,S=>fe Φ tt Sg n fin k .normal K S
 |k+1,.ret,.blk _::K,S=>fe Φ tt Sg n fin k .ret K S
 |k+1,.exit i,.blk id::K,S=>match Nat.beq i id with
  |true=>fe Φ tt Sg n fin k .normal K S
  |false=>fe Φ tt Sg n fin k (.exit i) K S
theorem N3(z:dl P tt)(u:P.follows .mixedOrders=true){Sg:Z8 SumT}(B:∀s∈Sg,dJ Φ P s){w:AS->Bool}{Q0:Exit->Act->Z6->Prop}(t:∀S e,e=.normal\/e=.ret->w S=true->AJ Φ V w0 (Q0 e) n S):∀(k:Nat) (m:Md) (K:Z8 Fr) (S:AS),fe Φ tt Sg n w k m K S=true->AJ Φ V w0 (m.den P (kZ P Q0 K)) n S:=by
 intro k
 induction k with
 |zero=>intro m K S h;cases h
 |succ k ih=>
  intro m K S h;cases m with
  |code c=>
   cases c with
   |seq x y=>have:=ih _ _ _ (by simpa only[fe]using h);exact λF O W Z o d p=>Ir<|this F O W Z o d p
   |region id ops dr=>
    cases dr with
    |true=>
     simp only[fe]at h;split at h;{rename_i N M;exact Mz z u B M<|ih _ _ _ h}
     grind
    |false=>simp only[fe]at h;split at h;{rename_i N M;have L:=Fw (ops:=ops) (Q:=kZ P Q0 K) z B M (ih _ _ _ h);exact λF O W Z o d p=>Gj (id:=id) (l:=ops.toList)<|L F O W Z o d p};cases h
   |cond c x y=>simp only[fe]at h;split at h;{rename_i R;simp only[Z1]at h;intro F O W Z o d p;obtain⟨s,L,T,rfl,v,rfl,b,rfl⟩:=gL d R;exact C6 L (λ_=>ih _ _ _ h.1 F O W Z o d p) λ_=>ih _ _ _ h.2 F O W Z o d p};cases h
   |block id c=>have:=ih _ _ _ (by simpa only[fe]using h);exact λF O W Z o d p=>KX<|this F O W Z o d p
   |exit id=>have:=ih _ _ _ (by simpa only[fe]using h);exact λF O W Z o d p=>Gu<|this F O W Z o d p
   |ret=>have:=ih _ _ _ (by simpa only[fe]using h);exact λF O W Z o d p=>G2<|this F O W Z o d p
   |skip=>have:=ih _ _ _ (by simpa only[fe]using h);exact λF O W Z o d p=>KA<|this F O W Z o d p
   |_=>simp only[fe]at h;cases h
  |normal=>
   cases K with
   |nil=>exact t _ _ (.inl J) (by simpa only[fe]using h)
   |cons fr K=>
    cases fr with
    |seq c=>have:=ih _ _ _ (by simpa only[fe]using h);exact λF O W Z o d p=>Fj (Q:=kZ P Q0 K)<|this F O W Z o d p
    |blk id=>have:=ih _ _ _ (by simpa only[fe]using h);exact λF O W Z o d p=>E5 (id:=id) (Q:=kZ P Q0 K)<|this F O W Z o d p
  |ret=>
   cases K with
   |nil=>exact t _ _ (.inr J) (by simpa only[fe]using h)
   |cons fr K=>
    cases fr with
    |seq c=>have:=ih _ _ _ (by simpa only[fe]using h);exact λF O W Z o d p=>FQ (K:=c.wp P (kZ P Q0 K)) (Q:=kZ P Q0 K)<|this F O W Z o d p
    |blk id=>have:=ih _ _ _ (by simpa only[fe]using h);exact λF O W Z o d p=>F4 (id:=id) (Q:=kZ P Q0 K)<|this F O W Z o d p
  |exit i=>
   cases K with
   |nil=>simp only[fe]at h;cases h
   |cons fr K=>
    cases fr with
    |seq c=>have:=ih _ _ _ (by simpa only[fe]using h);exact λF O W Z o d p=>Fm (i:=i) (K:=c.wp P (kZ P Q0 K)) (Q:=kZ P Q0 K)<|this F O W Z o d p
    |blk id=>simp only[fe]at h;split at h;{rename_i E;have:=ZM E;subst this;have:=ih _ _ _ h;exact λF O W Z o d p=>Ax (Q:=kZ P Q0 K)<|this F O W Z o d p};rename_i E;have:=ih _ _ _ h;exact λF O W Z o d p=>sO (Q:=kZ P Q0 K) E<|this F O W Z o d p
def xB(Φ:Facts)(tt:Z8 (Nat×TI))(S:AS):Z8 ResultVar->Z4 (Z8 AV)
 |[]=>some []
 |r::rs=>match(match r with
   |.tmp t=>gm S.G [] (.tmp t)
   |.cell t ty=>sQ Φ tt S.G S.H [] (.load ty (.tmp t)))with
  |some s=>match xB Φ tt S rs with
   |some l=>some (s::l)
   |none=>none
  |none=>none
theorem HX{Z:Vw}{F:cy}{O:Go.Eng.Own}(o:fE Φ Z S.G F)(hO:jl Φ Z S.H O):∀{rs:Z8 ResultVar} {l:Z8 AV},xB Φ tt S rs=some l-> ∃ss,jN tt F O rs=some ss/\cT (AV.rel Φ Z) l ss
 |[],l,h=>by cases h;exact⟨[],J,ZY⟩
 |r::rs,l,h=>by
  simp only[xB]at h
  split at h
  ·
   rename_i av hav
   split at h
   ·
    rename_i q hq
    cases h
    obtain⟨ss,h1,h2⟩:=HX o hO hq
    cases r with
    |tmp t=>
     obtain⟨s,m,d⟩:=gL o hav
     exact⟨s::ss,by simp only[jN,m,h1],d,h2⟩
    |cell t ty=>
     obtain⟨s,m,d⟩:=AD o hO hav
     exact⟨s::ss,by simp only[jN,m,h1],d,h2⟩
   . cases h
  . cases h
def yX(Φ:Facts):Z8 PT->Z8 AV->Bool
 |[],[]=>true
 |p::r,a::s=>xD Φ p a&&yX Φ r s
 |_,_=>false
theorem HF{Z:Vw}{E:Env}:∀{ps:Z8 PT} {l:Z8 AV} {ss:Z8 SV},yX Φ ps l=true->cT (AV.rel Φ Z) l ss->cT (PT.den Φ Z) ps (ss.map (SV.den E))
 |[],[],[],_,_=>trivial
 |p::r,a::l,s::ss,h,ha=>by
  simp only[yX,Z1]at h
  exact⟨IQ h.1 ha.1,HF h.2 ha.2⟩
 |[],_::_,_,h,_=>by cases h
 |_::_,[],_,h,_=>by cases h
 |[],[],_::_,_,h=>h.elim
 |_::_,_::_,[],_,h=>h.elim
def tR(Φ:Facts)(tt:Z8 (Nat×TI))(rs:Z8 PT)(results:Z8 ResultVar)(S:AS):Bool:=match xB Φ tt S results with
 |some l=>yX Φ rs l
 |none=>false
def qi:Z8 PT->Nat->AF
 |[],_=>[]
 |.one c::r,i=>(i,⟨[],.a (.c c)⟩)::qi r (i+1)
 |.agg l::r,i=>(i,⟨[],.vagg l⟩)::qi r (i+1)
 |.opq j l::r,i=>(i,⟨[],.vopq j l⟩)::qi r (i+1)
theorem xz{Z:Vw}:∀{ps:Z8 PT} {vals:Z8 Z7} (i:Nat),cT (PT.den Φ Z) ps vals->fE Φ Z (qi ps i) (k5 (vals.map λv=>.a (.v v)) i)
 |[],[],i,_=>λt e h=>by simp[qi,lk]at h
 |.one c::r,v::vs,i,h=>(xz (i+1) h.2).put ⟨_,J,v,J,h.1⟩
 |.agg l::r,v::vs,i,h=>by
  obtain⟨xs,rfl,hx⟩:=h.1
  exact(xz (i+1) h.2).put ⟨xs,J,hx⟩
 |.opq j l::r,v::vs,i,h=>by
  obtain⟨xs,rfl,hx⟩:=h.1
  exact(xz (i+1) h.2).put ⟨xs,J,hx⟩
 |[],_::_,_,h=>h.elim
 |.one _::_,[],_,h=>h.elim
 |.agg _::_,[],_,h=>h.elim
 |.opq _ _::_,[],_,h=>h.elim
def tA(Φ:Facts)(V:Vw)(w:Z6)(rs:Z8 PT)(e:Ending)(w':Z6):Prop:=
 ∃v V',e=.returned v/\cH w w'/\Vext w.heap.size V V' w'/\ ∃rs',cT (PT.den Φ V') rs rs'/\v=eY rs'
theorem Pi(p:dl P tt){fn:Func}{rs:Z8 PT}{V:Vw}{w:Z6}{S:AS}{e:Exit}(M:e=.normal\/e=.ret)(m:tR Φ tt rs fn.results.toList S=true):AJ Φ V w (bodyPost P fn (tA Φ V w rs) e) n S:=by intro F O W Z d z y;unfold tR at m;split at m;{rename_i l B;obtain⟨R,u,L⟩:=HX z y B;refine Cj p u (λE N t _=>?_) e M;exact⟨_,Z,J,t.below d.le0,⟨d.vz,λk o h=>⟨t.get k o (d.zw.get k o h),d.new k o h⟩⟩,_,HF m L,J⟩};cases m
theorem jq(m:dl P tt)(d:P.follows .mixedOrders=true){Sg:Z8 SumT}(o:∀s∈Sg,dJ Φ P s){fn:Func}{rs:Z8 PT}{V:Vw}{w:Z6}(k:Nat)(K:Z8 Fr){c:Code}(G:AF)(H:AO){nl:Nat}{F:cy}{O:Go.Eng.Own}{W Z:Vw}
  (l:fe Φ tt Sg fn.ntmps (tR Φ tt rs fn.results.toList) k (.code c) K ⟨G,[],H,nl⟩=true) (p:Vws V w W Z) (y:fE Φ Z G F) (hO:jl Φ Z H O):
  KJ (c.wp P (kZ P (bodyPost P fn (tA Φ V w rs)) K)) fn.ntmps F [] O nl W:=
 N3 (V:=V) (w0:=w) (n:=fn.ntmps) m d o (λS e u t=>Pi m u t) k (.code c) K ⟨G,[],H,nl⟩ l F O W Z p y hO
def Vw.up(V W:Vw)(b:Nat):Vw:=⟨λk=>if k<b then V.get k else W.get k,W.os,W.tape,W.output⟩
theorem eV{V W:Vw}{w:Z6}(hV:V.le (vw w))(l:(vw w).le W):Vws V w W (V.up W w.heap.size):=by
 have d:=hV.trans l;refine⟨l,⟨λk o h=>?_,J,J,J⟩,⟨λk o h=>?_,d.os,d.tape,d.output⟩,λk o h=>?_⟩;{simp only[Vw.up]at h;split at h;{exact d.get k o h};exact h};{simp only[Vw.up,ZW (hV.lt h)];exact h};simp only[Vw.up]at h
 grind
theorem lP{V W:Vw}{b sz m:Nat}{v:Z7}{xs:Z8 Z7}(h:eL W v sz m xs)(t:∀k,v.ownBlock=some k->b<=k):eL (V.up W b) v sz m xs:=by refine⟨h.1,?_⟩;(rcases h.2 with d|⟨c,off,l,cs,e,o,rfl,d,p⟩);{exact .inl d};refine .inr ⟨c,off,l,cs,e,o,J,?_,p⟩;have:=t c J;simp only[Vw.up,ZX (show¬c<b by omega)];exact d
theorem l8{V:Vw}{w:Z6}(hV:(vw w).le V){k:Nat}(h:V.get k=none):w.heap.size<=k:=by (rcases YM k w.heap.size with hl|hl);{(have d:(vw w).get k=some w.heap[k]:=by simp[vw,hl]);rw[hV.get k _ d]at h;cases h};exact hl
theorem sG{s:SumT}(h:dJ Φ P s){Z W:Vw}{w:Z6}{b:Nat}{vals:Z8 Z7}(m:Z.le W)(t:W.le (vw w))(u:b<=w.heap.size)(B:cT (PT.den Φ Z) s.ps vals): Calls P s.f vals.toArray w λe w'=>∃v V',e=.returned v/\cH w w'/\Vext w.heap.size W V' w'/\ ∃Z':Vw,Z'.le V'/\Z.le Z'/\(∀k ob,Z'.get k=some ob->Z.get k=some ob\/b<=k)/\ ∃rs,cT (PT.den Φ Z') s.rs rs/\v=eY rs:=by
 refine(h.2 Z w _ (m.trans t) B).mono ?_;rintro e w' ⟨v,z,rfl,l,d,rs,p,rfl⟩;refine⟨_,W.grown w w',J,l,Vext.grown t l,z,⟨?_,?_,?_,?_⟩,d.le,λk ob h=>(d.get k ob h).2.imp id (ZC u),rs,p,J⟩
 .intro k ob y;obtain⟨L,o⟩:=d.get k ob y;simp only[Vw.grown];rcases o with o|o
  .have E:=m.get _ _ o
   simp_all
  grind
 {exact m.os.trans d.le.os.symm};{exact m.tape.trans d.le.tape.symm};exact m.output.trans d.le.output.symm
theorem Vws.next{V W Z l d:Vw}{w0:Z6}(h:Vws V w0 W Z)(o:W.le l)(t:d.le l)(p:Z.le d)(u:∀k ob,d.get k=some ob->Z.get k=some ob\/w0.heap.size<=k):Vws V w0 l d:=
 ⟨h.le0.trans o,t,h.vz.trans p,λk ob m=>(u k ob m).elim (h.new k ob) .inr⟩
theorem mb{Z:Vw}{l:Z8 CP}{xs:Z8 Z7}{O:Go.Eng.Own}(h:cT (CP.den Φ Z) l xs):gg O (xs.map .v):=yg (qp (l:=[]) h)
theorem jR{Z:Vw}{F:cy}:fE Φ Z [] F:=λt e h=>by cases h
theorem dX{Z:Vw}{G:AF}{F:cy}{d l o:Nat}{g:Bool}(m:fE Φ Z G F)(h:lk F d=some ⟨[],g,.a (.ptr l o)⟩):fE Φ Z ((d,⟨[],.a (.ptr l o)⟩)::G) F:=
 yR m ⟨g,_,h,_,J,J⟩
theorem pa{Z:Vw}{G:AF}{F:cy}{d:Nat}{g:Bool}{p:CP}{v:Z7}(m:fE Φ Z G F)(h:lk F d=some ⟨[],g,.a (.v v)⟩)(l:p.den Φ Z v):fE Φ Z ((d,⟨[],.a (.c p)⟩)::G) F:=
 yR m ⟨g,_,h,_,J,v,J,l⟩
theorem ju{Z:Vw}{O:Go.Eng.Own}:jl Φ Z [] O:=λt e h=>by cases h
theorem dP{Z:Vw}{H:AO}{O:Go.Eng.Own}(m:jl Φ Z H O){l:Nat}{x:AL}{e:Nat}(h:∃cs,lk O l=some (.lit cs e)/\AL.rel Φ Z x cs):jl Φ Z ((l,x,e)::H) O:=λt y d=>by rw[fm]at d;by_cases hd:l=t;{grind};simp only[hd,Zt]at d;exact m t y d
theorem WL(p:dl P tt)(m:P.follows .mixedOrders=true){Sg:Z8 SumT}(y:∀s∈Sg,dJ Φ P s){f:Nat}{fn:Func}{c:Code}{ps rs:Z8 PT}(k:Nat)(t:eJ P f)(u:P.funcs[f]? =some fn)(N:fn.body=some c) (z:Nat.ble ps.length fn.ntmps=true) (o:fe Φ tt Sg fn.ntmps (tR Φ tt rs fn.results.toList) k (.code c) [] ⟨qi ps 0,[],[],0⟩=true):dJ Φ P ⟨f,ps,rs⟩:=by
 refine⟨t,λV w d T l=>?_⟩;have M:=jq (F:=k5 (d.map λv=>.a (.v v)) 0) (O:=[]) (Z:=V) p m y k [] _ _ o ⟨Vw.le.refl _,T,Vw.le.refl _,λk W h=>.inl h⟩ (xz 0 l) ju
 have B:=enter (E:=E0) (O:=[]) (nl:=0) (V:=vw w) (d.map λv=>SV.a (.v v)) u N J (jh E0 0 w) (allOk'_iff.2 λs L=>by
  simp only[Y6]at L
  obtain⟨v,_,rfl⟩:=L
  rfl) (by rw[ZK,<-l.len];exact z) M
 (have R:((d.map λv=>SV.a (.v v)).map (SV.den E0)).toArray=d.toArray:=by rw[Ym];congr 1;exact List.map_id'' (λ_=>rfl) _);rw[R]at B;exact B
def kA(Φ:Facts)(P:Z3):Z8 SumT->Prop
 |[]=>True
 |s::r=>dJ Φ P s/\kA Φ P r
theorem kA.mem:∀{l:Z8 SumT},kA Φ P l-> ∀s∈l,dJ Φ P s
 |_::_,h,s,hs=>by
  rcases Zg.1 hs with rfl|hs
  . exact h.1
  . exact kA.mem h.2 s hs
 |[],_,s,hs=>by cases hs
theorem px{L:Z8 SumT}(h:kA Φ P L)(f:Nat){s:SumT}(d:so f (λ_=>true) L=some s):dJ Φ P s:=h.mem s (uE d).1
theorem xC(t:dl P tt)(l:P.follows .mixedOrders=true){Sg:Z8 SumT}{f:Nat}{fn:Func}{c:Code}{ps rs:Z8 PT}(k:Nat)(o:eJ P f)(p:P.funcs[f]? =some fn)(u:fn.body=some c)(m:kA Φ P Sg) (d:(Nat.ble ps.length fn.ntmps&&fe Φ tt Sg fn.ntmps (tR Φ tt rs fn.results.toList) k (.code c) [] ⟨qi ps 0,[],[],0⟩)=true):kA Φ P (⟨f,ps,rs⟩::Sg):=by simp only[Z1]at d;exact⟨WL t l m.mem k o p u d.1 d.2,m⟩
end
def Kw(F:cy)(t:Nat):Z4 Nat:=match lk F t with
 |some ⟨_,_,.a (.ptr l _)⟩=>some l
 |some ⟨_,_,.a (.row l)⟩=>some l
 |_=>none
def TM(F:cy)(O:Own):Nat×Z4 Nat->Z4 Nat
 |(t,none)=>Kw F t
 |(t,some i)=>match Kw F t with
  |some l=>match lk O l with
   |some (.lit cs _)=>match cs[i]? with
    |some (.row m)=>some m
    |some (.ptr m _)=>some m
    |_=>none
   |_=>none
  |none=>none
def wK(nl:Nat):Z8 ((Nat×Z4 Nat)×Nat)->cy->Own->Z4 (cy×Own)
 |[],F,O=>some (F,O)
 |(p,t)::r,F,O=>match TM F O p with
  |some l=>bif Nat.beq l t then wK nl r F O else bif Nat.blt t nl&&Nat.blt l nl then wK nl r (qe t l F) (tN t l O)else none
  |none=>none
theorem zh{K:Act->Z6->Prop}{n:Nat}{C:Z8 Nat}{nl:Nat}{V:Vw}:∀(ps:Z8 ((Nat×Z4 Nat)×Nat)) {F F':cy} {O O':Own},wK nl ps F O=some (F',O')->KJ K n F' C O' nl V->KJ K n F C O nl V
 |[],_,_,_,_,h,next=>by
  simp only[wK,Z0,ZN]at h
  obtain⟨rfl,rfl⟩:=h
  exact next
 |(p,t)::r,F,_,O,_,h,next=>by
  simp only[wK]at h
  split at h
  ·
   rename_i l _
   cases m:Nat.beq l t with
   |true=>rw[m]at h;exact zh r h next
   |false=>
    rw[m]at h
    simp at h
    cases d:(Nat.blt t nl&&Nat.blt l nl)with
    |true=>rw[d]at h;exact dx t l d (zh r h next)
    |false=>rw[d]at h;cases h
  . cases h
def qZ:Z8 Bool->Nat->Bool
 |b::_,0=>b
 |_::r,n+1=>qZ r n
 |[],_=>false
theorem BG:∀{l:Z8 Bool} {j:Nat},qZ l j=true↔l[j]? =some true
 |b::_,0=>by simp[qZ]
 |_::r,n+1=>by simp[qZ,BG (l:=r)]
 |[],_=>by simp[qZ]
def i5(full:Z8 Bool):Z8 Nat->Bool
 |[]=>true
 |j::r=>bif qZ full j then i5 full r else false
theorem qj{full:Z8 Bool}:∀{l:Z8 Nat},i5 full l=true↔ ∀j∈l,full[j]? =some true
 |[]=>by simp[i5]
 |j::r=>by
  rw[i5]
  cases h:qZ full j with
  |true=>simp[qj,BG.1 h]
  |false=>
   simp only[cond_false,Zw,false_iff]
   intro hc
   rw[BG.2 (hc j Zj)]at h
   cases h
def ma(full:Z8 Bool):Z8 (Z8 Nat)->Z8 Bool->Nat->Z8 Nat
 |d::ds,b::ls,i=>bif b then ma full ds ls (i+1)else(bif i5 full d then i::ma full ds ls (i+1)else ma full ds ls (i+1))
 |[],_,_=>[]
 |_::_,[],_=>[]
theorem Fz{full:Z8 Bool}{j:Nat}:∀{ds:Z8 (Z8 Nat)} {ls:Z8 Bool} {i:Nat},j∈ma full ds ls i↔ ∃t d,j=i+t/\ls[t]? =some false/\ds[t]? =some d/\i5 full d=true
 |[],_,_=>by simp[ma]
 |_::_,[],_=>by simp[ma]
 |d::ds,b::ls,i=>by
  have ih:=Fz (full:=full) (j:=j) (ds:=ds) (ls:=ls) (i:=i+1)
  have key:(∃t l,j=i+t/\(b::ls)[t]? =some false/\(d::ds)[t]? =some l/\i5 full l=true)↔(j=i/\b=false/\i5 full d=true)\/j∈ma full ds ls (i+1):=by
   rw[ih]
   constructor
   ·
    grind
   ·
    rintro(⟨u,m,o⟩|⟨t,l,u,m,o,p⟩)
    . exact⟨0,d,om,by simp[m],sm,o⟩
    . exact⟨t+1,l,om,by simpa using m,by simpa using o,p⟩
  rw[key,ma]
  grind
def vC(p:Nat->Prop):Z8 Nat->Prop
 |[]=>True
 |i::r=>p i/\vC p r
theorem vC.mem{p:Nat->Prop}:∀{l:Z8 Nat},vC p l-> ∀i∈l,p i
 |_::_,h,i,hi=>(Zg.1 hi).elim (λe=>e▸h.1) (vC.mem h.2 i)
 |[],_,i,hi=>by cases hi
section
variable{P:Z3}{ops:Array Oper}{Q:Exit->Act->Z6->Prop}{sp:Z8 Nat}{O0:Own}{nl0:Nat}{V0:Vw}{fuel:Nat}{listed:Z8 Bool}{n:Nat}{F:cy}{C:Z8 Nat}{O:Own}{nl:Nat}{V:Vw}
def RD(ops:Array Oper)(deps:Z8 (Z8 Nat)):Prop:=ops.toList.map lf=deps
theorem RD.at{d:Z8 (Z8 Nat)}(h:RD ops d)(i:Nat):d[i]? =(ops[i]?).map lf:=by rw[<-show ops.toList.map lf=d from h,List.getElem?_map];simp
theorem Cu{l:Z8 (Z8 Nat)}(h:RD ops l)(i:Nat):i∈Region.ready .any ops listed.toArray↔i∈ma listed l listed 0:=by
 rw[Fz];constructor;{intro hi;obtain⟨o,p,w,m⟩:=Cf hi;exact⟨i,lf o,om,w,by rw[h.at,p];rfl,qj.2 m⟩};rintro⟨t,d,p,w,m,y⟩;rw[Zo]at p;subst p;rw[h.at]at m;cases u:ops[i]? with
 |none=>rw[u]at m;cases m
 |some o=>rw[u]at m;cases m;exact EL u w<|qj.1 y
theorem IW{l:Nat}(d:Z8 (Z8 Nat))(hd:ops.toList.map lf=d)(h:RD ops d->TJ P ops Q sp O0 l listed n F C O nl V):TJ P ops Q sp O0 l listed n F C O nl V:=h hd
theorem Lo{d:Z8 (Z8 Nat)}(m:RD ops d)(l:(ma listed d listed 0).isEmpty=false)(h:vC (HI P ops Q sp O0 nl0 V0 fuel listed n F C O nl V) (ma listed d listed 0)):HJ P ops Q sp O0 nl0 V0 (fuel+1) listed n F C O nl V:=by
 refine wv _ J ?_ λi hi=>h.mem i ((Cu m i).1 hi);cases p:Region.ready .any ops listed.toArray with
 |cons a r=>rfl
 |nil=>
  cases o:ma listed d listed 0 with
  |nil=>rw[o]at l;cases l
  |cons a r=>
   have:=(Cu m a).2 (by rw[o];exact Zj)
   simp_all
theorem Ht{d:Z8 (Z8 Nat)}(l:RD ops d)(o:Z8 Nat){m:cy}(u:ma listed d listed 0=[])(p:oi F o []=some m)(h:KJ (Q .normal) n m [] O nl V):HJ P ops Q sp O0 nl0 V0 fuel listed n F C O nl V:=by
 refine Fa o ?_ p h;cases t:Region.ready .any ops listed.toArray with
 |nil=>rfl
 |cons a r=>have:=(Cu l a).1 (by rw[t];exact Zj);rw[u]at this;cases this
end
theorem kB{P:Z3}{ops:Array Oper}{Q:Exit->Act->Z6->Prop}{sp:Z8 Nat}{o:Own}{m:Nat}{V0:Vw}{l:Nat}{d:Z8 Bool}{n:Nat}{F:cy}{C:Z8 Nat}{O:Own}{nl:Nat}{V:Vw}(i:Nat)(h:HI P ops Q sp o m V0 l d n F C O nl V i):HI P ops Q sp o m V0 l d n F C O nl V i:=h
def CN(P:Z3)(t:Nat):=((P.info? t).map (λf=>(f.size,f.bytes)),(P.info? t).bind (λf=>f.zero.map (λz=>z.cells.toList)),(P.underlying t).map eM,(P.underlying t).map (fieldsOf P))
def Bu(i:TI):=(some (i.size,i.bytes),some i.zero,some i.kind,some i.flds)
theorem dl.all{P:Z3}:∀{tt:Z8 (Nat×TI)},tt.map (λq=>CN P q.1)=tt.map (λq=>Bu q.2)->dl P tt
 |[],_=>dl.nil P
 |(t,i)::r,h=>by
  simp only[Zq,Yt]at h
  have h1:CN P t=Bu i:=h.1
  simp only[CN,Bu,ZN]at h1
  exact dl.cons ⟨h1.1,h1.2.1,h1.2.2.1,h1.2.2.2⟩<|dl.all h.2
def zd(P:Z3)(f:Nat):Bool:=match P.funcs[f]? with
 | some fn => !(fn.name == "runtime.NumGoroutine") && !fn.body.isNone
 |none=>false
theorem Er{P:Z3}(f:Nat)(h:zd P f=true):eJ P f:=by unfold zd at h;split at h;{rename_i fn d;simp only[Z1,ZJ]at h;exact⟨fn,d,h.1,h.2⟩};cases h
def rD:Z8 SumT->Z8 SumT->Z8 SumT
 |[],Sg=>Sg
 |s::r,Sg=>rD r (s::Sg)
def B8(Φ:Facts)(P:Z3)(tt:Z8 (Nat×TI))(k:Nat):Z8 SumT->Z8 SumT->Bool
 |[],_=>true
 |s::r,Sg=>(match P.funcs[s.f]? with
  |some fn=>match fn.body with
   |some c=>zd P s.f&&(Nat.ble s.ps.length fn.ntmps&&fe Φ tt Sg fn.ntmps (tR Φ tt s.rs fn.results.toList) k (.code c) [] ⟨qi s.ps 0,[],[],0⟩)
   |none=>false
  |none=>false)&&B8 Φ P tt k r (s::Sg)
theorem tM{Φ:Facts}{P:Z3}{tt:Z8 (Nat×TI)}(l:dl P tt)(d:P.follows .mixedOrders=true)(k:Nat):∀{L Sg:Z8 SumT},B8 Φ P tt k L Sg=true->kA Φ P Sg->kA Φ P (rD L Sg)
 |[],_,_,h=>h
 |s::r,Sg,hr,h=>by
  simp only[B8,Z1]at hr
  obtain⟨h1,h2⟩:=hr
  refine tM (L:=r) (Sg:=s::Sg) l d k h2 ?_
  split at h1
  ·
   rename_i fn m
   split at h1
   ·
    rename_i c o
    simp only[Z1]at h1
    exact xC l d k (Er s.f h1.1) m o h (by simp only[Z1];exact h1.2)
   . cases h1
  . cases h1
