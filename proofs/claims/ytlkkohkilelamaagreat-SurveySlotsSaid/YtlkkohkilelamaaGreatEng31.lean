import Derived.Test.YtlkkohkilelamaaGreatEng26
import Derived.ProofKit
import Derived.OpenShut
import Derived.ShutString
import Derived.ChangeOld
import Derived.Deep.Slices
import Derived.Lib.AppendZerosOnto
import Derived.Lib.Overlaps
set_option linter.unusedSimpArgs false
set_option linter.unusedVariables false
/- A part of the proof of SurveySlots. -/
namespace Go.Eng
open Go Go.RowKit Go.ChangeShapes
section
variable{H:Type}{enc:TypeId×Z7->H}{P:Z3}{w:Z6}{base:Nat}{spare:Nat->Bool}{held:Bool}{tt:Z8 (Nat×TI)}
def qf(enc:TypeId×Z7->H)(P:Z3)(w:Z6)(base:Nat)(spare:Nat->Bool)(held:Bool)(u:Nat)(c:Z7):Prop:=
 ∃fuel x,DataW.trod enc P w base spare held fuel u [c]=some x
def nX{α β:Type}(R:α->β->Prop):Z8 α->Z8 β->Prop
 |[],[]=>True
 |a::r,b::s=>R a b/\nX R r s
 |_,_=>False
theorem nX.append{α β:Type}{R:α->β->Prop}:∀{a:Z8 α} {b:Z8 β} {c:Z8 α} {d:Z8 β},nX R a b->nX R c d->nX R (a++c) (b++d)
 |[],[],_,_,_,h=>h
 |_::_,_::_,_,_,h1,h2=>⟨h1.1,nX.append h1.2 h2⟩
 |[],_::_,_,_,h1,_=>h1.elim
 |_::_,[],_,_,h1,_=>h1.elim
def tU:Z8 (Nat×Nat×Nat)->Nat->Nat->Bool
 |[],acc,size=>Nat.beq acc size
 |(off,_,sz)::r,acc,size=>Nat.beq off acc&&tU r (acc+sz) size
def wB(f:Nat->Z4 (Z8 Nat)):Z8 (Nat×Nat×Nat)->Z4 (Z8 Nat)
 |[]=>some []
 |(_,t,_)::r=>match f t with
  |some l=>match wB f r with
   |some m=>some (l++m)
   |none=>none
  |none=>none
def xA(tt:Z8 (Nat×TI)):Nat->Nat->Z4 (Z8 Nat)
 |0,_=>none
 |n+1,t=>match lk tt t with
  |some i=>match i.kind with
   |.struct=>bif tU i.flds 0 i.size then wB (xA tt n) i.flds else none
   |.int _=>some [t]
   |.bool=>some [t]
   |.str=>some [t]
   |.slice _=>some [t]
   |_=>none
  |none=>none
theorem Hi{R:Nat->Z7->Prop}{f:Nat->Z4 (Z8 Nat)}{cs:Z8 Z7}:∀{flds:Z8 (Nat×Nat×Nat)} {acc size:Nat} {us:Z8 Nat},tU flds acc size=true->wB f flds=some us->
  cs.length=size->(∀q∈flds,∀l,f q.2.1=some l->nX R l ((cs.drop q.1).take q.2.2))->nX R us (cs.drop acc)
 |[],acc,size,us,hc,hu,hl,_=>by
  simp only[tU,YU]at hc
  simp only[wB,Z0]at hu
  subst hu hc
  rw[<-hl,Zp]
  trivial
 |(off,t,sz)::r,acc,size,us,hc,hu,hl,hq=>by
  simp only[tU,Z1,YU]at hc
  simp only[wB]at hu
  split at hu
  ·
   rename_i l hfl
   split at hu
   ·
    rename_i m hm
    simp at hu
    subst hu
    have h1:=hq (off,t,sz) sm l hfl
    have o:=Hi (R:=R) (cs:=cs) hc.2 hm hl (λq d=>hq q (by simp[d]))
    rw[hc.1]at h1
    have:cs.drop acc=(cs.drop acc).take sz++cs.drop (acc+sz):=by
     rw[<-Yu,YQ]
    rw[this]
    exact h1.append o
   . simp at hu
  . simp at hu
theorem Bt(E:dl P tt):∀(n t:Nat) (us:Z8 Nat),xA tt n t=some us-> ∀{fuel:Nat} {cs:Z8 Z7} {x:DataW H×Z8 MemPlace},
  DataW.trod enc P w base spare held fuel t cs=some x->nX (qf enc P w base spare held) us cs
 |0,t,us,h,_,_,_,_=>by simp[xA]at h
 |n+1,t,us,h,fuel,cs,x,hx=>by
  simp only[xA]at h
  split at h
  ·
   rename_i i hi
   have hT:=E _ _ hi
   obtain⟨d,hd,y,M⟩:=hT.und
   have one:∀v,cs=[v]->us=[t]->nX (qf enc P w base spare held) us cs:=by
    rintro v rfl rfl
    exact⟨⟨fuel,x,hx⟩,ZY⟩
   split at h
   ·
    rename_i o
    cases z:tU i.flds 0 i.size with
    |false=>simp[z]at h
    |true=>
     simp only[z,Za]at h
     rw[o]at y
     have T:∃p,d=.struct p:=by cases d<;>first|exact⟨_,J⟩|(simp[eM]at y)
     obtain⟨p,rfl⟩:=T
     obtain⟨xs,m,rfl,_,B,O,L⟩:=DataW.trod_struct hd hx
     have W:P.cellsOf t=i.size:=by
      obtain⟨f,hf,hs,_⟩:=hT.info
      simp[Program.cellsOf,hf,hs]
     simp only[fieldsOf]at M
     have:=Hi (R:=qf enc P w base spare held) (cs:=cs) z h (by rw[B,W]) (λq V l hl=>?_)
     . simpa using this
     ·
      rw[<-M]at V
      simp only[Y6]at V
      obtain⟨f,N,rfl⟩:=V
      obtain⟨j,hj,X⟩:=Q_ N
      have Y:p[j]? =some f:=by
       rw[<-X];simp
      have h1:=L j f Y
      have Z:j<xs.length:=by rw[O];simpa using hj
      rw[List.getElem?_eq_getElem Z]at h1
      exact Bt E n f.type l hl h1
   ·
    rename_i k o
    rw[o]at y
    have u:d=.int k:=by cases d<;>simp[eM]at y;rw[y]
    subst u
    obtain⟨m,rfl,_⟩:=DataW.trod_int hd hx
    exact one _ J (by simpa using h.symm)
   ·
    rename_i o
    rw[o]at y
    have u:d=.bool:=by cases d<;>simp[eM]at y<;>rfl
    subst u
    obtain⟨m,rfl,_⟩:=DataW.trod_bool hd hx
    exact one _ J (by simpa using h.symm)
   ·
    rename_i o
    rw[o]at y
    have u:d=.string:=by cases d<;>simp[eM]at y<;>rfl
    subst u
    obtain⟨m,rfl,_⟩:=DataW.trod_string hd hx
    exact one _ J (by simpa using h.symm)
   ·
    rename_i e o
    rw[o]at y
    have u:d=.slice e:=by cases d<;>simp[eM]at y;rw[y]
    subst u
    rcases Go.Deep.open_slice hd hx with⟨rfl,_⟩|⟨a,len,a5,_,_,_,_,rfl,_⟩
    . exact one _ J (by simpa using h.symm)
    . exact one _ J (by simpa using h.symm)
   . simp at h
  . simp at h
theorem jD(m:dl P tt){u:Nat}{c:Z7}{s b:Nat}{z:Z8 Z7}{y:Z8 (Nat×Nat×Nat)}{k:IntKind}(t:lk tt u=some ⟨s,b,z,y,.int k⟩)(h:qf enc P w base spare held u c):∃n,c=.int k n/\(Lit.int k n).wf=true:=by
 obtain⟨o,x,B⟩:=h;obtain⟨d,hd,p,_⟩:=(m _ _ t).und;(have l:d=.int k:=by cases d<;>simp[eM]at p;rw[p]);subst l;obtain⟨n,L,_,E⟩:=DataW.trod_int hd B
 simp_all
theorem UB(m:dl P tt){u:Nat}{c:Z7}{s b:Nat}{z:Z8 Z7}{y:Z8 (Nat×Nat×Nat)}(t:lk tt u=some ⟨s,b,z,y,.str⟩)(h:qf enc P w base spare held u c):∃n:Z5,c=.string n/\n.size<=maxLen:=by
 obtain⟨o,x,B⟩:=h;obtain⟨d,hd,p,_⟩:=(m _ _ t).und;(have l:d=.string:=by cases d<;>simp[eM]at p<;>rfl);subst l;obtain⟨n,L,_,E⟩:=DataW.trod_string hd B
 simp_all
theorem RB{t e sz:Nat}{v:Z7}{O:Nat}{x:DataW H×Z8 MemPlace}(ht:P.underlying t=some (.slice e))(X:P.cellsOf e=sz)(u:0<sz)(h:DataW.trod enc P w base spare held O t [v]=some x): (v=.slice none 0 0)\/ ∃b off len cap cs n,∃a:Z4 Addr,v=.slice a len cap/\len<=cap/\cap<=maxLen/\(0<len->a=some ⟨b,off,none⟩/\(∃el fz,w.heap[b]? =some (.cells cs el fz))/\off+len*sz<=cs.size/\ ∀i,i<len-> ∃y,DataW.trod enc P w base spare held n e ((cs.toList.drop (off+i*sz)).take sz)=some y):=by (rcases Go.Deep.open_slice ht h with⟨p,_⟩|⟨a,len,cap,m,n,D,Pl,p,hb,hl,hm,T,_,o⟩);{left;simpa using p};right;(have hv:v=.slice (some a) len cap:=by simpa using p);by_cases V:0<len;{(have aa:len<=m:=by rw[T];split<;>omega);rw[X]at o;(have d:∀i,i<len-> ∀j,j<sz-> ∃c,w.cell? (a.add (i*sz+j))=some c:=by intro i hi j R;obtain⟨Z,l,_⟩:=o i om;obtain⟨_,N,W⟩:=World.cells?_some l;have p:=W j R;rw[Go.Deep.add_add]at p;exact⟨_,p.trans (List.getElem?_eq_getElem om)⟩);obtain⟨b,off,M⟩:=a;(have L:M=none:=by obtain⟨c,l⟩:=d 0 V 0 u;simp only[G_,q_]at l;simpa[Addr.add]using World.cell?_spot l);subst L;(obtain⟨cs,el,fz,B⟩:∃cs el fz,w.heap[b]? =some (.cells cs el fz):=by obtain⟨c,l⟩:=d 0 V 0 u;simp only[G_,q_,Addr.add_lit]at l;unfold World.cell? at l;split at l;{rename_i cs el fz hh;exact⟨cs,el,fz,hh⟩};cases l);(have z:∀k,w.cell? ((⟨b,off,none⟩:Addr).add k)=cs[off+k]? :=by intro k;rw[Addr.add_lit];simp[World.cell?,B]);(have E:off+len*sz<=cs.size:=by obtain⟨c,l⟩:=d (len - 1) om (sz - 1) om;rw[z]at l;have a7:=(Array.getElem?_eq_some_iff.1 l).1;(have:(len - 1)*sz+sz=len*sz:=by rw[<-Nat.succ_mul];congr 1;omega);omega);refine⟨b,off,len,cap,cs,n,_,hv,hl,hm,λ_=>⟨J,⟨el,fz,B⟩,E,?_⟩⟩;intro i hi;obtain⟨Z,l,Y⟩:=o i om;obtain⟨_,N,W⟩:=World.cells?_some l;refine⟨(D i,Pl i),?_⟩;rw[<-Y];congr 1;apply Yc;intro j;by_cases R:j<sz;{have p:=W j R;rw[Go.Deep.add_add,z]at p;rw[List.getElem?_take,ZW R,List.getElem?_drop];rw[<-p];simp[Nat.add_assoc]};rw[List.getElem?_take,ZX R,List.getElem?_eq_none om]};exact⟨0,0,len,cap, #[],0,some a,hv,hl,hm,λh=>absurd h V⟩
theorem Ft{α:Type}{enc':α->Z8 Z7}{sz:Nat}(o:∀a,(enc' a).length=sz){Good:α->Prop}:∀(n:Nat) (cells:Z8 Z7),cells.length=n*sz->
  (∀i,i<n-> ∃a,enc' a=(cells.drop (i*sz)).take sz/\Good a)-> ∃l:Z8 α,l.length=n/\l.flatMap enc'=cells/\ ∀a∈l,Good a
 |0,cells,hc,_=>⟨[],J,by
   have:cells=[]:=Zu (by simpa using hc)
   simp[this],sm⟩
 |n+1,cells,hc,h=>by
  rw[Y4,Yk]at hc
  obtain⟨a,ha,hg⟩:=h 0 om
  simp at ha
  obtain⟨l,t,p,u⟩:=Ft o (Good:=Good) n (cells.drop sz) (by simp;omega) (λi hi=>by
   obtain⟨b,d,m⟩:=h (i+1) om
   refine⟨b,?_,m⟩
   rw[d,Yu]
   congr 2
   rw[Y4,Yk,YI])
  refine⟨a::l,by simp[t],?_,?_⟩
  . rw[Zy,ha,p,YQ]
  ·
   intro b d
   rcases Zg.1 d with rfl|d
   . exact hg
   . exact u b d
theorem X1{α:Type}{enc':α->Z8 Z7}{Good:α->Prop}{t e sz:Nat}{v:Z7}(R:P.underlying t=some (.slice e))(M:P.cellsOf e=sz)(o:0<sz)(E:∀a,(enc' a).length=sz) (p:∀(fuel:Nat) (cs:Z8 Z7) (x:DataW H×Z8 MemPlace),DataW.trod enc P w base spare held fuel e cs=some x-> ∃a,enc' a=cs/\Good a) (h:qf enc P w base spare held t v):∃l:Z8 α,SlOf (vw w) enc' sz v l/\l.length<=maxLen/\ ∀a∈l,Good a:=by
 obtain⟨fuel,x,Y⟩:=h;(rcases RB R M o Y with rfl|⟨b,off,len,m,cs,n,a,rfl,N,hm,u⟩);{exact⟨[],⟨⟨sm,.inl ⟨none,0,J,J⟩⟩,E⟩,Zz _,sm⟩};(rcases n_ len with h0|h0);{subst h0;exact⟨[],⟨⟨sm,.inl ⟨a,m,J,J⟩⟩,E⟩,Zz _,sm⟩};obtain⟨rfl,⟨el,V,z⟩,d,L⟩:=u h0
 obtain⟨l,B,O,X⟩:=Ft E (Good:=Good) len ((cs.toList.drop off).take (len*sz)) (by simp;omega) (λi hi=>by
  obtain⟨y,W⟩:=L i hi
  obtain⟨a,Z,T⟩:=p _ _ _ W
  refine⟨a,?_,T⟩
  rw[Z,m_,Yh,Yu]
  congr 1
  have:(i+1)*sz<=len*sz:=Zn _ om
  rw[Y4,Yk]at this
  omega)
 refine⟨l,⟨⟨?_,.inr ⟨b,off,m,cs,el,V,by rw[B],z,by rw[B];exact d,by rw[B,O],by rw[B];exact N⟩⟩,E⟩,om,X⟩
 grind
theorem MQ{α:Type}(t:dl P tt){enc':α->Z8 Z7}{Good:α->Prop}{u e:Nat}{c:Z7}{s b:Nat}{z:Z8 Z7}{O:Z8 (Nat×Nat×Nat)}{o:TI} (N:lk tt u=some ⟨s,b,z,O,.slice e⟩) (T:lk tt e=some o) (m:Nat.blt 0 o.size=true) (M:∀a,(enc' a).length=o.size) (p:∀(fuel:Nat) (cs:Z8 Z7) (x:DataW H×Z8 MemPlace),DataW.trod enc P w base spare held fuel e cs=some x-> ∃a,enc' a=cs/\Good a) (h:qf enc P w base spare held u c):∃l:Z8 α,SlOf (vw w) enc' o.size c l/\l.length<=maxLen/\ ∀a∈l,Good a:=by obtain⟨d,hd,E,_⟩:=(t _ _ N).und;(have B:d=.slice e:=by cases d<;>simp[eM]at E;rw[E]);subst B;(have y:P.cellsOf e=o.size:=by obtain⟨f,L,R,_⟩:=(t _ _ T).info;simp[Program.cellsOf,L,R]);exact X1 hd y (eD.1 m) M p h
theorem TE{t:Nat}{v:Z7}{d:DataW H}{ps:Z8 MemPlace}(h:DataW.Trod enc P w base spare held t v d ps)(o:v.cells.toList=[v]):qf enc P w base spare held t v:=by obtain⟨l,m⟩:=h;rw[o]at m;exact⟨l,_,m⟩
end
section
variable{P:Z3}{tt:Z8 (Nat×TI)}{ops:Array Oper}{Q:Exit->Act->Z6->Prop}{o:Oper}{rest:Z8 Oper}{n:Nat}{F:cy}{C:Z8 Nat}{O:Own}{nl:Nat}{V:Vw}
 {K:Act->Z6->Prop} {E:Env} {w:Z6} {sp:Z8 Nat} {O0:Own} {nl0:Nat} {V0:Vw} {fuel:Nat} {listed:Z8 Bool}
theorem Mem.addKeep(p:Mem E O nl V w)(m:Nat)(L:m<nl):Mem E ((nl,.keep m (E.ρ m) (E.κ m))::O) (nl+1) V w:=by (have o:∀B c,lk ((nl,Cel.keep m (E.ρ m) (E.κ m))::O) B=some c->B≠nl->lk O B=some c:=λB c h d=>by rwa [gB _ _ (λx=>d x.symm)]at h);refine⟨?_,?_,?_,p.get,?_,p.os,p.tape,p.output,?_,?_,?_,?_,?_⟩;{intro l M q h;by_cases d:l=nl;{subst d;rw[dF]at h;cases h};exact p.lit _ _ _ (o _ _ h d)};{intro l q s Z ys h;by_cases d:l=nl;{subst d;rw[dF]at h;cases h};exact p.row _ _ _ _ _ (o _ _ h d)};{intro X Y c1 c2 k y u t z;by_cases R:X=nl;{subst R;rw[dF]at y;cases y;simp[blk]at t};by_cases N:Y=nl;{subst N;rw[dF]at u;cases u;simp[blk]at z};exact p.sep _ _ _ _ _ (o _ _ y R) (o _ _ u N) t z};{intro l c k h t;by_cases d:l=nl;{subst d;rw[dF]at h;cases h;simp[blk]at t};exact p.off _ _ _ (o _ _ h d) t};{intro l c h;by_cases d:l=nl;{omega};have:=p.lab _ _ (o _ _ h d);omega};{intro l M q h;by_cases d:l=nl;{subst d;rw[dF]at h;cases h};exact jn (YF nl) (p.labs _ _ _ (o _ _ h d))};{intro l q T h;by_cases d:l=nl;{subst d;rw[dF]at h;cases h};obtain⟨y,u⟩:=p.pin _ _ _ (o _ _ h d);exact⟨y,Y9 u⟩};{intro l k h;by_cases d:l=nl;{subst d;rw[dF]at h;cases h};exact p.big _ _ (o _ _ h d)};intro l q T v' h;by_cases d:l=nl;{subst d;rw[dF]at h;cases h;exact⟨J,J,Y9 L⟩};obtain⟨y,u,W⟩:=p.kp _ _ _ _ (o _ _ h d);exact⟨y,u,Y9 W⟩
def yY(E:Env)(base:Nat):Nat->Own
 |0=>[]
 |k+1=>(base+k,.keep k (E.ρ k) (E.κ k))::yY E base k
theorem Mem.addKeeps(hm:Mem E O nl V w):∀k,k<=nl->Mem E (yY E nl k++O) (nl+k) V w
 |0,_=>hm
 |k+1,h=>(hm.addKeeps k om).addKeep k om
def gk(E:Env)(O:Own)(base:Nat):Nat->Prop
 |0=>True
 |k+1=>lk O (base+k)=some (.keep k (E.ρ k) (E.κ k))/\gk E O base k
theorem gk.zero{base:Nat}:gk E O base 0:=trivial
theorem gk.succ{base k:Nat}(h:lk O (base+k)=some (.keep k (E.ρ k) (E.κ k)))(r:gk E O base k):gk E O base (k+1):=⟨h,r⟩
theorem gk.agree{m:Env}{o:Z6}{base:Nat}(d:Mem m O nl V o):∀{k:Nat},gk E O base k->E.agree k m
 |0,_=>λl hl=>by omega
 |k+1,⟨h1,h2⟩=>λl hl=>by
  by_cases h:l=k
  ·
   subst h
   obtain⟨h3,h4,_⟩:=d.kp _ _ _ _ h1
   simp_all
  . exact gk.agree d h2 l om
def B9(E:Env)(nl:Nat)(G:SV->Own->Nat->Vw->Prop)(e:Ending)(w':Z6):Prop:=
 ∃E' s1 O1 nl1 V1,e=.returned (s1.den E')/\E.agree nl E'/\nl<=nl1/\Mem E' O1 nl1 V1 w'/\s1.ok nl1=true/\G s1 O1 nl1 V1
theorem allOk'_mono{nl nl':Nat}(h:nl<=nl'){l:Z8 SV}(m:kI nl l=true):kI nl' l=true:=
 allOk'_iff.2 λx d=>SV.ok_mono h (allOk'_iff.1 m x d)
theorem oJ{p:Z8 (Nat×Bool)}{g:Bool}{t:Z8 Nat}{d f m:Nat}{fn:Func}{c:Code}{l:Z8 SV} (hg:gd ops F C o.guard=some (p,g,t)) (B:g=true) (hd:o.dst=some d) (W:(Nat.blt d n&& !(dh d t))=true) (hv:fL F p o.op=some (f,l)) (N:eJ P f) (R:P.funcs[f]? =some fn) (hb:fn.body=some c) (hn:fn.ntmps=m) (T:Nat.ble l.length m=true) (h:∀E,KJ (c.wp P (bodyPost P fn (B9 E nl λs1 O1 nl1 V1=>KJ (wpList P ops Q rest) n ((d,⟨p,true,s1⟩)::F) t O1 nl1 V1))) m (k5 l 0) [] (yY E nl nl++O) (nl+nl) V): KJ (wpList P ops Q (o::rest)) n F C O nl V:=by subst B;constructor;intro E a w z hf hm;obtain⟨h1,Y,Z,h4⟩:=gz hf hg;simp at W;unfold wpList;rw[h1];simp;left;obtain⟨hr,M⟩:=kG Y Z.symm hv N w;unfold Oper.wp;rw[hr,Oper.upon_enter];refine(enter l R hb hn (hm.addKeeps nl (ZS _)) (allOk'_mono om M) T (h E)).mono ?_;rintro e X ⟨E',s1,O1,nl1,V1,rfl,y,L,u,hs,hK⟩;show wpList P ops Q rest (a.put o.dst _) X;rw[hd];exact hK.out E' _ X (by simp[Act.put,z]) (Y.putTo y L W.1 W.2 Z h4 hs) u
theorem Vs(i:Nat){p:Z8 (Nat×Bool)}{g:Bool}{T:Z8 Nat}{d f m:Nat}{fn:Func}{c:Code}{M:Z8 SV} (hi:ops[i]? =some o) (hg:gd ops F C o.guard=some (p,g,T)) (Y:g=true) (hd:o.dst=some d) (hc:(Nat.blt d n&& !(dh d T))=true) (L:Nat.ble nl0 nl=true) (hv:fL F p o.op=some (f,M)) (a5:eJ P f) (a7:P.funcs[f]? =some fn) (hb:fn.body=some c) (hn:fn.ntmps=m) (a8:Nat.ble M.length m=true) (h:∀E,KJ (c.wp P (bodyPost P fn (B9 E nl λs1 O1 nl1 V1=>(fF sp (dz listed i).toArray=true\/(dm O1 O0/\eA nl0 O0=true/\V0.le V1))/\ HJ P ops Q sp O0 nl0 V0 fuel (dz listed i) n ((d,⟨p,true,s1⟩)::F) T O1 nl1 V1))) m (k5 M 0) [] (yY E nl nl++O) (nl+nl) V):HI P ops Q sp O0 nl0 V0 fuel listed n F C O nl V i:=by subst Y;refine⟨λE0 E a w W X hf hm hM=>?_⟩;obtain⟨N,B,h3,h4⟩:=gz hf hg;simp at hc;simp at L;unfold wpOp;simp only[hi];rw[N];simp;left;obtain⟨hr,a0⟩:=kG B h3.symm hv a5 w;unfold Oper.wp;rw[hr,Oper.upon_enter];refine(enter M a7 hb hn (hm.addKeeps nl (ZS _)) (allOk'_mono om a0) a8 (h E)).mono ?_;rintro e w' ⟨E',s1,O1,nl1,V1,rfl,y,Z,z,R,a6,hK⟩;(have u:E0.agree nl0 E':=λl hl=>by have N:=W l hl;have B:=y l om;exact⟨B.1.trans N.1,B.2.trans N.2⟩);(have t:fF sp (dz listed i).toArray=false->Mem E0 O0 nl0 V0 w':=λR=>by (rcases a6 with h|h);{rw[h]at R;cases R};exact z.back' u h);refine⟨t,?_⟩;rw[hd];exact hK.out E0 E' _ w' u (by simp[Act.put,X]) (B.putTo y Z hc.1 hc.2 h3 h4 R) z t
def qT:Z8 SV->Z4 (Z8 A)
 |[]=>some []
 |.a x::r=>match qT r with
  |some l=>some (x::l)
  |none=>none
 |_=>none
def vY:Z8 SV->Z4 SV
 |[s]=>some s
 |l=>match qT l with
  |some xs=>some (.tup xs)
  |none=>none
theorem Hy{E:Env}:∀{l:Z8 SV} {xs:Z8 A},qT l=some xs->l.map (SV.den E)=xs.map (A.den E)/\ ∀nl,(∀s∈l,s.ok nl=true)->dH nl xs=true
 |[],xs,h=>by simp[qT]at h;subst h;exact⟨J,λ_ _=>rfl⟩
 |x::r,xs,h=>by
  cases x with
  |a y=>
   simp only[qT]at h
   split at h
   ·
    rename_i l hl
    simp at h
    subst h
    obtain⟨h1,h2⟩:=Hy (E:=E) hl
    refine⟨by simp[h1,SV.den],λnl m=>?_⟩
    have o:=m (.a y) sm
    simp only[dH,Z1]
    exact⟨o,h2 nl λs d=>m s (by simp[d])⟩
   . cases h
  |_=>simp[qT]at h
theorem S9{E:Env}{l:Z8 SV}{s:SV}(h:vY l=some s):eY (l.map (SV.den E))=s.den E/\ ∀nl,(∀s∈l,s.ok nl=true)->s.ok nl=true:=by
 match l,h with
 |[x],h=>simp[vY]at h;subst h;exact⟨J,λnl d=>d _ sm⟩
 |[],h=>simp[vY,qT]at h;subst h;exact⟨J,λnl _=>rfl⟩
 |x::y::r,h=>simp only[vY]at h;split at h;{rename_i xs p;simp at h;subst h;obtain⟨o,m⟩:=Hy (E:=E) p;refine⟨?_,λnl d=>m nl d⟩;show Value.tuple (List.map (SV.den E) (x::y::r)).toArray=_;rw[o];rfl};cases h
def KM(base:Nat):Nat->Z8 Nat
 |0=>[]
 |k+1=>(base+k)::KM base k
theorem oa{E o:Env}{nl d:Nat}{l O1:Own}{m:Vw}{y:Z6}{t:Z8 SV}{u:SV}{G:SV->Own->Nat->Vw->Prop}(w:Mem o l d m y)(p:∀s∈t,s.ok d=true) (L:vY t=some u) (R:jH l (KM nl nl) []=some O1) (z:gk E l nl nl) (O:Nat.ble nl d=true) (hO:dm l O1) (N:eA d O1=true) (h:G u O1 d m): B9 E nl G (.returned (eY (t.map (SV.den o)))) y:=by obtain⟨M,B⟩:=S9 (E:=o) L;exact⟨o,u,O1,d,m,by rw[M],z.agree w,by simpa using O,w.weak hO N (Vw.le.refl _),B _ p,h⟩
end
theorem jd{α:Type}{enc:α->Z8 Z7}{sz:Nat}(d:∀x,(enc x).length=sz):∀(l:Z8 α) (k:Nat) (x:α),k<l.length->ei (k*sz) (enc x) (l.flatMap enc)=(l.set k x).flatMap enc
 |[],k,x,h=>by simp at h
 |y::r,0,x,h=>by
  simp only[ei,G_,U_,ZB,Zo,d,List.set_cons_zero,Zy]
  rw[u_ (by rw[d];exact ZS _),Yn (by rw[d];exact ZS _),ZB]
 |y::r,k+1,x,h=>by
  have ih:=jd d r k x (by simpa using h)
  simp only[ei,d]at ih⊢
  simp only[Yg,Zy,<-ih]
  rw[Y4,Yk,YI (k*sz) sz,T_,c_,d,ZG (by rw[d];omega),Yn (by rw[d];omega)]
  rw[show sz+k*sz - sz=k*sz by omega,show sz+k*sz+sz - sz=k*sz+sz by omega]
  simp[Zc,YI]
theorem uN{α:Type}{enc:α->Z8 Z7}(x:α):∀n,eU n (enc x)=(List.replicate n x).flatMap enc
 |0=>rfl
 |n+1=>by rw[eU,Yr,Zy,uN x n]
section
variable{n:Nat}{F:cy}{C:Z8 Nat}{O:Own}{nl:Nat}{V:Vw}{K:Act->Z6->Prop}
theorem Rc(l:Nat)(o:Nat.blt l nl=true)(h:∀b,KJ K n F C ((nl,.pin l b)::O) (nl+1) V):KJ K n F C O nl V:=by constructor;intro E a w hd m d;exact(h (E.ρ l)).out E a w hd (m.env (λ_ _=>⟨J,J⟩) (YF nl))<|d.addPin l (E.ρ l) J (by simpa using o)
theorem NZ(t p l b off:Nat)(N:cV F [] (.tmp t)=some (.a (.v (.pointer (some ⟨b,off,none⟩)))))(u:lk O p=some (.pin l b))(y:(Nat.blt t n&& !(dh t C))=true) (h:KJ K n ((t,⟨[],true,.a (.ptr l off)⟩)::F) C O nl V):KJ K n F C O nl V:=by constructor;intro E a w hd B L;simp at y;obtain⟨T,M⟩:=L.pin _ _ _ u;refine h.out E a w hd ?_ L;obtain⟨W,_⟩:=cZ B (p:=[]) J N;(have o:t<a.tmps.size:=by rw[B.size];exact y.1);have u:=B.put (d:=t) (p:=[]) (g:=true) (s:=.a (.ptr l off)) y.1 y.2 J (λq R=>by cases R) (λ_=>by simp[SV.ok,A.ok,eD,M]);simp at u;(have X:(SV.a (A.ptr l off)).den E=a.tmps.getD t undef:=by have:a.eval (.tmp t)=a.tmps.getD t undef:=rfl;rw[<-this,W,SV.den,A.den,SV.den,A.den,T]);(have m:(a.put (some t) ((SV.a (A.ptr l off)).den E)).tmps=a.tmps:=by (have z:a.tmps[t]? =some (a.tmps.getD t undef):=by simp[o]);rw[X];simp only[Act.put];apply K_;intro i;rw[Array.getElem?_setIfInBounds];by_cases hi:t=i;{subst hi;rw[ZW J,ZW o,z]};simp[hi]);rw[m]at u;exact u
end
section
variable{P:Z3}{tt:Z8 (Nat×TI)}{ops:Array Oper}{Q:Exit->Act->Z6->Prop}{o:Oper}{rest:Z8 Oper}
 {n:Nat} {F:cy} {C:Z8 Nat} {O:Own} {nl:Nat} {V:Vw} {K:Act->Z6->Prop}
def tm(tt:Z8 (Nat×TI))(F:cy)(p:Z8 (Nat×Bool)):Op->Z4 (Z7×Int×Int×Nat)
 |.slice t x none (some hi) (some mx)=>match cV F p x,cV F p hi,cV F p mx,lk tt t with
  |some (.a (.v v)),some (.a (.v (.int _ h))),some (.a (.v (.int _ m))),some ⟨_,_,_,_,.slice e⟩=>match lk tt e with
   |some ti=>some (v,h,m,ti.size)
   |none=>none
  |_,_,_,_=>none
 |_=>none
theorem EE(y:dl P tt){p:Z8 (Nat×Bool)}{g:Bool}{M:Z4 Addr}{len cap:Nat}{hi R:Int}{sz:Nat} (l:tm tt F p o.op=some (.slice M len cap,hi,R,sz)) (hb:g=true->0<=hi/\hi<=R/\R<=cap): dY P o n F C O nl V p g (.a (.v (.slice M hi.toNat R.toNat))):=by
 intro T E a w X u hm;refine⟨?_,J⟩;unfold Yv execOp;cases d:o.op with
 |slice t x lo' hi' mx'=>
  cases lo' with
  |some lo'=>simp[d,tm]at l
  |none=>
  cases hi' with
  |none=>simp[d,tm]at l
  |some hi'=>
  cases mx' with
  |none=>simp[d,tm]at l
  |some mx'=>
  simp only[d,tm]at l;split at l;{rename_i v' k1 h k2 m af by_ z fl e hx hh W Y;split at l;{rename_i ti L;simp only[Z0,ZN]at l;obtain⟨rfl,rfl,rfl,rfl⟩:=l;obtain⟨h1,_⟩:=cZ X u hx;obtain⟨h2,_⟩:=cZ X u hh;obtain⟨h3,_⟩:=cZ X u W;obtain⟨dd,B,hk,_⟩:=(y _ _ Y).und;(have Z:dd=.slice e:=by cases dd<;>simp[eM]at hk;rw[hk]);subst Z;obtain⟨b0,b1,b2⟩:=hb T;have e1:a.eval x=.slice M len cap:=h1;have e2:a.eval hi'=.int k1 h:=h2;have e3:a.eval mx'=.int k2 m:=h3;have q2:(m.toNat:Int)=m:=YZ om;(have N:(Instr.slice t (.slice M len cap) none (some (.int k1 h)) (some (.int k2 m))).run P w=.ok (.slice M h.toNat m.toNat) w:=by simp only[Instr.slice,Instr.sliceBounds,ZR,run_underlying B,ZU,ZO,(y _ _ L).sizeOf];simp[run_sliceBound,(by omega:0<=m),(by omega:m<=(cap:Int)),b0,q2,b1,Addr.add,(y _ _ L).sizeOf]);simp only[YR,M',e1,e2,e3,Instr.sliceAt,ZR,run_underlying B,ZU,N,ZO,SV.den,A.den]};simp at l}
  simp_all
 |_=>simp[d,tm]at l
def vk(tt:Z8 (Nat×TI))(F:cy)(p:Z8 (Nat×Bool)):Op->Z4 (Z7×SV×Nat×Nat×Nat)
 |.call ⟨.builtin .append,args,ts⟩=>match args.toList,ts.toList with
  |[s,x],[t,t2]=>match cV F p s,cV F p x,lk tt t,lk tt t2 with
   |some (.a (.v v)),some xs,some ⟨_,_,_,_,.slice e⟩,some t2i=>match lk tt e with
    |some ti=>bif tV t2i.kind&&Nat.blt 0 ti.bytes&&Nat.beq ti.zero.length ti.size then some (v,xs,e,ti.size,ti.bytes)else none
    |_=>none
   |_,_,_,_=>none
  |_,_=>none
 |_=>none
theorem VH(Y:dl P tt){p:Z8 (Nat×Bool)}{e sz by_ m k:Nat}{ad:Z4 Addr}{x:SV}{olds:Z8 Z7}(news:Z8 Z7)(u:vk tt F p o.op=some (.slice ad m m,x,e,sz,by_)) (a6:eL V (.slice ad m m) sz m olds) (aa:∀E w,Mem E O nl V w->Src P sz (x.den E) k news w) (hk:0<k) (hb:(m+k)*by_<=140737488355328): StepTo P o p n F C O nl V (σ:=Unit) (λ_=>True) (λ_=>.a (.row nl)) (λ_=>(nl,.row e sz (m+k) (olds++news))::O) (nl+1) (λ_=>V):=by
 constructor;intro E a w hf ae hm K Q hK;unfold Oper.wp execOp;cases a5:o.op with
 |call c=>
  obtain⟨B,a0,ts⟩:=c;simp only[a5]at u;cases B with
  |builtin b=>
   cases b with
   |append=>
    simp only[vk]at u;split at u
    .rename_i s y t t2 X az;(have ha:a0= #[s,y]:=by simpa using Y5 List.toArray X);(have ht:ts= #[t,t2]:=by simpa using Y5 List.toArray az);subst ha ht;split at u
     .rename_i v' x' aR aO z' aW L aq hs hy ar ax;split at u
      .rename_i ti an;cases M:(tV aq.kind&&Nat.blt 0 ti.bytes&&Nat.beq ti.zero.length ti.size)with
       |false=>simp[M]at u
       |true=>
        simp only[M,Za,Z0,ZN]at u;obtain⟨rfl,rfl,rfl,rfl,rfl⟩:=u;simp only[Z1,YU,eD]at M;obtain⟨⟨Z,aB⟩,ao⟩:=M;obtain⟨h2,_⟩:=cZ hf ae hs;obtain⟨h3,_⟩:=cZ hf ae hy;obtain⟨dd,aj,a8,_⟩:=(Y _ _ ar).und;(have am:dd=.slice L:=by cases dd<;>simp[eM]at a8;rw[a8]);subst am;obtain⟨d2,ag,T,_⟩:=(Y _ _ ax).und;(have ab:d2=.string\/ ∃e,d2=.slice e:=by cases d2<;>simp[eM]at T<;>(first|exact .inl J|exact .inr ⟨_,J⟩|(rw[<-T]at Z;simp[tV]at Z)));obtain⟨fi,aC,W,al,z,hz,au⟩:=(Y _ _ an).info;(have a7:m+k<=maxLen:=by have:m+k<=(m+k)*ti.bytes:=J_ _ aB;simp only[maxLen];omega);(have ay:z.cells.size=fi.size:=by rw[W,<-ao,<-au];simp);have l:=aa E w hm;have d:=a6.src (P:=P) hm.get;rw[<-W]at l d;(have a9:((m+k:Nat):Int)<=9223372036854775807:=by simp only[maxLen]at a7;omega);have aw:=GB (P:=P) (w:=w) (ty:=o.type) aj ag ab aC hz d l om a9 (growslice_fits om (by rw[al];exact hb));(have R:(olds++news).length=(m+k)*fi.size:=by rw[ZQ,d.size,l.size,Y4]);have ah:=grownCap_ge w (m+k) m L;have e2:a.eval s=.slice ad m m:=h2;simp only[resolve,invoke,builtin,ZR,ZO,ZU,B_,Zq,Yp,e2,h3,aw];have N:(w.drew.alloc (.cells (olds.toArray++news.toArray++Builtin.zeroCells z.cells (grownCap w (m+k) m L - (m+k))) L)).ownsRow w.heap.size L fi.size (.slice (some ⟨w.heap.size,0,none⟩) (m+k) (grownCap w (m+k) m L)) (m+k) (olds++news):=by refine⟨R,.inr ⟨w.heap.size,_,_,J,ZS _,heap_alloc_new w.drew _,ah,grownCap_le_maxLen w (m+k) m L a7,?_,?_⟩⟩;{simp only[h_,Yb,sK,ay,d.size,l.size,<-Y4];congr 1;omega};simp only[Q'];rw[<-R];exact List.take_left
        have ac:Below w.heap.size w (w.drew.alloc (.cells (olds.toArray++news.toArray++Builtin.zeroCells z.cells (grownCap w (m+k) m L - (m+k))) L)):=
         ⟨J,J,J,sm,λk hk=>heap_alloc_old w.drew _ hk⟩
        rw[W]at N;have ak:=hm.newRow ac N;have:=hK () (E.setκ nl _) _ ZY (Env.agree_setκ E _) ak (by simp[SV.ok,A.ok,eD]);show K (a.put o.dst _) _;simpa[SV.den,A.den,Env.setκ]using this
      simp at u
     simp at u
    simp at u
   |_=>simp[vk]at u
  |_=>simp[vk]at u
 |_=>simp[a5,vk]at u
theorem wZ{id:Nat}{l:Z8 Oper}{σ:Type}{o:Own}(sp:Z8 Nat)(Fx:σ->Z8 (Nat×SV))(Ox:σ->Own)(nl':Nat)(Vx:σ->Vw)(I:σ->Prop)(d:P.follows .mixedOrders=true) (ho:jH O [] []=some o) (hO:dm O o) (u:eA nl o=true) (h:TJ P l.toArray (pO λa w=>∃x',gM n Fx Ox nl' Vx x' a w/\I x') sp o l.length (List.replicate l.length false) n F C O nl V) (Y:∀x',I x'->KJ (Q .normal) n (dA (Fx x')) [] (Ox x') nl' (Vx x')):KJ ((Code.region id l.toArray true).wp P Q) n F C O nl V:=by
 constructor;intro E a w hd W Z;have m:Mem E O nl V {w with drawn:=w.drawn+1}:=Z.drawn _;have L:=h.out E a _ hd W m (m.weak hO u (Vw.le.refl _))
 have T:(Code.region id l.toArray true).wp P (NoPanic (pO λa w=>∃x',gM n Fx Ox nl' Vx x' a w/\I x')) a w:=
  wp_region_any d (tO (sp:=sp) (M:=λw=>Mem E o nl V w) _ _ _ _ (by simpa using L))
 refine wp_mono T ?_;intro e R B z;cases e with
 |normal=>obtain⟨x',⟨N,y,t,p⟩,X⟩:=z;exact(Y x' X).out N R B y t p
 |_=>exact z.elim
end
section
variable{P:Z3}{tt:Z8 (Nat×TI)}{ops:Array Oper}{Q:Exit->Act->Z6->Prop}{o:Oper}{rest:Z8 Oper}
 {n:Nat} {F:cy} {C:Z8 Nat} {O:Own} {nl:Nat} {V:Vw} {K:Act->Z6->Prop}
theorem Cp(nl:Nat)(l:Z8 Z7):dH nl (l.map A.v)=true:=(iC E0 l).2 nl
def rQ(F:cy)(p:Z8 (Nat×Bool)):Op->Z4 (Nat×Nat×SV×SV)
 |.call ⟨.builtin .append,args,ts⟩=>match args.toList,ts.toList with
  |[x,y],[t,t2]=>match cV F p x,cV F p y with
   |some s,some s2=>some (t,t2,s,s2)
   |_,_=>none
  |_,_=>none
 |_=>none
theorem Hs{p:Z8 (Nat×Bool)}{t t2:Nat}{s1 Y:SV}{σ:Type}{Φ:σ->Prop}{s:σ->SV}{O':σ->Own}{nl':Nat}{V':σ->Vw}(l:rQ F p o.op=some (t,t2,s1,Y)) (L:∀E w,Mem E O nl V w-> ∃x E' w',(Builtin.append_ #[t,t2] o.type #[s1.den E,Y.den E]).run P w=.ok ((s x).den E') w'/\Φ x/\E.agree nl E'/\Mem E' (O' x) nl' (V' x) w'/\(s x).ok nl'=true): StepTo P o p n F C O nl V Φ s O' nl' V':=by
 constructor;intro E a w Z M hm K Q hK;unfold Oper.wp execOp;cases B:o.op with
 |call c=>
  obtain⟨d,u,ts⟩:=c;simp only[B]at l;cases d with
  |builtin b=>
   cases b with
   |append=>
    simp only[rQ]at l;split at l;{rename_i x y t' T m X;(have ha:u= #[x,y]:=by simpa using Y5 List.toArray m);(have ht:ts= #[t',T]:=by simpa using Y5 List.toArray X);subst ha ht;split at l;{rename_i u1 u2 hx hy;obtain⟨rfl,rfl,rfl,rfl⟩:=l;obtain⟨h1,_⟩:=cZ Z M hx;obtain⟨h2,_⟩:=cZ Z M hy;obtain⟨z,E',w',hr,hΦ,R,N,W⟩:=L E w hm;simp only[resolve,invoke,builtin,ZR,ZO,ZU,B_,Zq,Yp,h1,h2,hr];exact hK z E' w' hΦ R N W};simp at l}
    simp_all
   |_=>simp[rQ]at l
  |_=>simp[rQ]at l
 |_=>simp[B,rQ]at l
def uy(tt:Z8 (Nat×TI))(t:Nat):Z4 (Nat×TI):=
 match lk tt t with
 |some ⟨_,_,_,_,.slice e⟩=>(lk tt e).map λti=>(e,ti)
 |_=>none
theorem xj(l:dl P tt){t e:Nat}{u:TI}(h:uy tt t=some (e,u)):P.underlying t=some (.slice e)/\TIok P e u:=by simp only[uy]at h;split at h;{rename_i z L zz B M o;simp only[Yl,ZN]at h;obtain⟨y,E,rfl,rfl⟩:=h;obtain⟨w,m,d,_⟩:=(l _ _ o).und;(have p:w=.slice M:=by cases w<;>simp[eM]at d;rw[d]);subst p;exact⟨m,l _ _ E⟩};simp at h
theorem SE(u:dl P tt){p:Z8 (Nat×Bool)}{g:Bool}{T:Z4 Addr}{m cap:Nat}{lo hi:Z4 Int}{sz:Nat}(Y:Z7) (L:mz tt F p o.op=some (.slice T m cap,lo,hi,sz)) (hb:g=true->0<=lo.getD 0/\lo.getD 0<=hi.getD m/\hi.getD m<=cap) (he:g=true->dV (.slice T m cap) (lo.getD 0).toNat (hi.getD m).toNat sz=Y): dY P o n F C O nl V p g (.a (.v Y)):=by
 intro R E a w hf N hm;refine⟨?_,J⟩;rw[<-he R];unfold Yv execOp;cases M:o.op with
 |slice t x lo' hi' mx=>
  cases mx with
  |some mx=>simp[M,mz]at L
  |none=>
  simp only[M,mz]at L;split at L;{rename_i Y l h ah by_ z fl e hx hl hh a7;split at L;{rename_i ti y;simp only[Z0,ZN]at L;obtain⟨rfl,rfl,rfl,rfl⟩:=L;obtain⟨h1,_⟩:=cZ hf N hx;obtain⟨dd,d,hk,_⟩:=(u _ _ a7).und;(have Z:dd=.slice e:=by cases dd<;>simp[eM]at hk;rw[hk]);subst Z;obtain⟨b0,X,b2⟩:=hb R;(have W:(Instr.slice t (.slice T m cap) (lo'.map a.eval) (hi'.map a.eval) none).run P w=.ok (dV (.slice T m cap) (l.getD 0).toNat (h.getD m).toNat ti.size) w:=by (rcases qz hf N hl with⟨rfl,el⟩|⟨kl,il,rfl,el⟩<;>rcases qz hf N hh with⟨rfl,eh⟩|⟨kh,B,rfl,eh⟩<;>rw[el,eh]<;>simp only[YK,Option.getD_none]at b0 X b2⊢);{simp[Instr.slice,run_underlying d,Instr.sliceBounds,(u _ _ y).sizeOf,dV]};{have e2:(B.toNat:Int)=B:=YZ om;simp[Instr.slice,run_underlying d,Instr.sliceBounds,(u _ _ y).sizeOf,dV,run_sliceBound,(by omega:0<=B),(by omega:B<=cap)]};{have e2:(il.toNat:Int)=il:=YZ om;simp[Instr.slice,run_underlying d,Instr.sliceBounds,(u _ _ y).sizeOf,dV,run_sliceBound,b0,X]};have e2:(B.toNat:Int)=B:=YZ om;simp[Instr.slice,run_underlying d,Instr.sliceBounds,(u _ _ y).sizeOf,dV,run_sliceBound,b0,X,(by omega:0<=B),(by omega:B<=cap),e2]);have e1:a.eval x=.slice T m cap:=h1;simp only[M',e1,Instr.sliceAt,ZR,run_underlying d,ZU,W,ZO,SV.den,A.den]};simp at L}
  simp_all
 |_=>simp[M,mz]at L
def vH(tt:Z8 (Nat×TI))(F:cy)(p:Z8 (Nat×Bool)):Op->Z4 Nat
 |.call ⟨.builtin .cap,args,ts⟩=>match args.toList,ts.toList with
  |[x],[t]=>match cV F p x,lk tt t with
   |some (.a (.v (.slice _ _ c))),some ⟨_,_,_,_,.slice _⟩=>some c
   |_,_=>none
  |_,_=>none
 |_=>none
theorem GN(N:dl P tt){p:Z8 (Nat×Bool)}{g:Bool}{c:Nat}(d:vH tt F p o.op=some c):dY P o n F C O nl V p g (.a (.v (.int .i64 c))):=by
 intro Z E a w hf L hm;refine⟨?_,J⟩;unfold Yv execOp;cases y:o.op with
 |call cl=>
  obtain⟨l,u,ts⟩:=cl;simp only[y]at d;cases l with
  |builtin b=>
   cases b with
   |cap=>simp only[vH]at d;split at d;{rename_i x t m R;(have ha:u= #[x]:=by simpa using Y5 List.toArray m);(have Y:ts= #[t]:=by simpa using Y5 List.toArray R);subst ha Y;split at d;{rename_i a1 n1 c1 sz a5 z fl e hx M;simp only[Z0]at d;subst d;obtain⟨h1,_⟩:=cZ hf L hx;obtain⟨X,B,W,_⟩:=(N _ _ M).und;(have T:X=.slice e:=by cases X<;>simp[eM]at W;rw[W]);subst T;have e1:a.eval x=.slice a1 n1 c1:=h1;simp[resolve,invoke,builtin,Builtin.cap_,e1,run_underlying B,SV.den,A.den,goInt]};simp at d};simp at d
   |_=>simp[vH]at d
  |_=>simp[vH]at d
 |_=>simp[y,vH]at d
def vK(tt:Z8 (Nat×TI))(F:cy)(p:Z8 (Nat×Bool)):Op->Z4 Nat
 |.call ⟨.builtin .len,args,ts⟩=>match args.toList,ts.toList with
  |[x],[t]=>match cV F p x,lk tt t with
   |some (.a (.v (.slice _ c _))),some ⟨_,_,_,_,.slice _⟩=>some c
   |_,_=>none
  |_,_=>none
 |_=>none
theorem pi(N:dl P tt){p:Z8 (Nat×Bool)}{g:Bool}{c:Nat}(d:vK tt F p o.op=some c):dY P o n F C O nl V p g (.a (.v (.int .i64 c))):=by
 intro Z E a w hf L hm;refine⟨?_,J⟩;unfold Yv execOp;cases y:o.op with
 |call cl=>
  obtain⟨l,u,ts⟩:=cl;simp only[y]at d;cases l with
  |builtin b=>
   cases b with
   |len=>
    simp only[vK]at d;split at d;{rename_i x t m R;(have ha:u= #[x]:=by simpa using Y5 List.toArray m);(have Y:ts= #[t]:=by simpa using Y5 List.toArray R);subst ha Y;split at d;{rename_i a1 c1 n1 sz a5 z fl e hx M;simp only[Z0]at d;subst d;obtain⟨h1,_⟩:=cZ hf L hx;obtain⟨X,B,W,_⟩:=(N _ _ M).und;(have T:X=.slice e:=by cases X<;>simp[eM]at W;rw[W]);subst T;have e1:a.eval x=.slice a1 c1 n1:=h1;simp[resolve,invoke,builtin,Builtin.len_,Builtin.lenOf,e1,run_underlying B,SV.den,A.den,goInt]};simp at d}
    simp_all
   |_=>simp[vK]at d
  |_=>simp[vK]at d
 |_=>simp[y,vK]at d
end
theorem Vw.put_le{V l:Vw}{b:Nat}{m:Obj}(h:V.le l)(p:V.get b=none):V.le (l.put b m):=
 ⟨λk o d=>by
  show(if _ then _ else _)=_
  rw[ZX (λe=>by rw[e,p]at d;cases d)]
  exact h.get k o d,h.os,h.tape,h.output⟩
theorem Vw.put_mono{V W:Vw}{b:Nat}{o1 m:Obj}(h:(V.put b o1).le W):(V.put b m).le (W.put b m):=
 ⟨λk o l=>by
  simp only[Vw.put]at l
  show(if _ then _ else _)=_
  by_cases d:k=b
  . rw[ZW d]at l⊢;exact l
  ·
   rw[ZX d]at l⊢
   exact h.get k o (by show(if _ then _ else _)=_;rw[ZX d];exact l),h.os,h.tape,h.output⟩
theorem Vw.put_get(V:Vw)(b:Nat)(d:Obj):(V.put b d).get b=some d:=by show(if _ then _ else _)=_;rw[ZW J]
def jp:Z8 Int->Nat->Z8 MapEntry
 |[],_=>[]
 |k::r,n=>⟨.int .i64 k,.bool true,n⟩::jp r (n+1)
def jk(ks:Z8 Int):Obj:=.map (jp ks 0).toArray ks.length
theorem Jp(k:Int):∀(ks:Z8 Int) (n:Nat),jp (ks++[k]) n=jp ks n++[⟨.int .i64 k,.bool true,n+ks.length⟩]
 |[],n=>by simp[jp]
 |a::r,n=>by
  rw[YY,jp,Jp k r (n+1),jp,YY,Y8,show n+1+r.length=n+(r.length+1) by omega]
theorem Bl(kd:IntKind)(k:Int):∀(ks:Z8 Int) (n i:Nat),(k∈ks-> ∃j,Instr.findNow (.int kd) (.int .i64 k) (jp ks n) i=some (some (j,.bool true)))/\(¬k∈ks->Instr.findNow (.int kd) (.int .i64 k) (jp ks n) i=some none)
 |[],n,i=>⟨λh=>(by simp at h),λ_=>rfl⟩
 |a::r,n,i=>by
  have ih:=Bl kd k r (n+1) (i+1)
  by_cases h:k=a
  ·
   subst h
   refine⟨λ_=>⟨i,?_⟩,λl=>absurd sm l⟩
   simp[jp,Instr.findNow,Instr.sameNow]
  ·
   have m:Instr.findNow (.int kd) (.int .i64 k) (jp (a::r) n) i=Instr.findNow (.int kd) (.int .i64 k) (jp r (n+1)) (i+1):=by
    rw[jp]
    have d:(k==a)=false:=by simp[h]
    simp[Instr.findNow,Instr.sameNow,d]
   simp_all
section
variable{P:Z3}{tt:Z8 (Nat×TI)}{ops:Array Oper}{Q:Exit->Act->Z6->Prop}{o:Oper}{rest:Z8 Oper}
 {n:Nat} {F:cy} {C:Z8 Nat} {O:Own} {nl:Nat} {V:Vw} {K:Act->Z6->Prop}
theorem LR{w:Z6}{t d B b:Nat}{kd:IntKind}{k:Int}{ks:Z8 Int}(y:P.underlying t=some (.map d B))(m:P.underlying d=some (.int kd))(M:(zeroValue B).run P w=.ok (.bool false) w) (L:w.heap[b]? =some (jk ks)):(Instr.lookup t (.map (some b)) (.int .i64 k) false).run P w=.ok (.bool (decide (k∈ks))) w:=by (have u:(getObj b).run P w=.ok (jk ks) w:=by simp[getObj,Sem.run,L,jk]);have p:=Bl kd k ks 0 0;(have z:∀e,(Instr.checkKey e 10000 d (.int .i64 k)).run P w=.ok () w:=λe=>by rw[show(10000:Nat)=9999+1 from J,Instr.checkKey];simp[run_underlying m]);by_cases l:k∈ks;{obtain⟨j,E⟩:=p.1 l;(have o:(Instr.findKey d (.int .i64 k) (jp ks 0)).run P w=.ok (some (j,.bool true)) w:=by simp[Instr.findKey,run_underlying m,E]);simp[Instr.lookup,run_underlying y,u,jk,z,o,l]};(have o:(Instr.findKey d (.int .i64 k) (jp ks 0)).run P w=.ok none w:=by simp[Instr.findKey,run_underlying m,p.2 l]);simp[Instr.lookup,run_underlying y,u,jk,z,o,l,M]
def yw(F:cy)(p:Z8 (Nat×Bool)):Op->Z4 (Nat×Nat×Int)
 |.lookup t x y false=>match cV F p x,cV F p y with
  |some (.a (.v (.map (some b)))),some (.a (.v (.int .i64 k)))=>some (t,b,k)
  |_,_=>none
 |_=>none
theorem Tk{p:Z8 (Nat×Bool)}{g:Bool}{t z B b:Nat}{kd:IntKind}{k:Int}(ks:Z8 Int)(l:yw F p o.op=some (t,b,k))(R:P.underlying t=some (.map z B))(W:P.underlying z=some (.int kd))(hz:∀w,(zeroValue B).run P w=.ok (.bool false) w) (T:g=true->V.get b=some (jk ks)):dY P o n F C O nl V p g (.a (.v (.bool (decide (k∈ks))))):=by
 intro u E a w L m hm;refine⟨?_,J⟩;unfold Yv execOp;cases d:o.op with
 |lookup t' x y ok=>
  cases ok with
  |true=>simp[d,yw]at l
  |false=>
   simp only[d,yw]at l;split at l;{rename_i N Y hx hy;simp only[Z0,ZN]at l;obtain⟨rfl,rfl,rfl⟩:=l;obtain⟨X,_⟩:=cZ L m hx;obtain⟨M,_⟩:=cZ L m hy;have e1:a.eval x=.map (some N):=X;have Z:a.eval y=.int .i64 Y:=M;simp only[e1,Z,ZR,LR R W (hz w) (hm.get _ _ (T u)),ZU,ZO,SV.den,A.den]}
   simp_all
 |_=>simp[d,yw]at l
def ym:Op->Z4 Nat
 |.makeMap t none=>some t
 |_=>none
theorem JD{p:Z8 (Nat×Bool)}{t:Nat}(u:ym o.op=some t): StepTo P o p n F C O nl V (σ:=Nat) (λb=>V.get b=none) (λb=>.a (.v (.map (some b)))) (λ_=>O) nl (λb=>V.put b (jk [])):=by
 constructor;intro E a w L B m K Q z;unfold Oper.wp execOp;cases d:o.op with
 |makeMap t' r=>
  cases r with
  |some r=>simp[d,ym]at u
  |none=>
   have l:V.get w.heap.size=none:=by
    cases y:V.get w.heap.size with
    |none=>rfl
    |some ob=>have:=(Array.getElem?_eq_some_iff.1 (m.get _ _ y)).1;omega
   exact z w.heap.size E _ l (λ_ _=>⟨J,J⟩) (m.ext (mh w _) (m.vext _)) J
 |_=>simp[d,ym]at u
theorem Mem.putV{E:Env}{w:Z6}(d:Mem E O nl V w){b:Nat}{Z:Obj}(N:V.get b=some Z)(B:Obj):Mem E O nl (V.put b B) {w with heap:=w.heap.setIfInBounds b B}:=by have y:b<w.heap.size:=(Array.getElem?_eq_some_iff.1 (d.get _ _ N)).1;(have p:∀k,k≠b->(w.heap.setIfInBounds b B)[k]? =w.heap[k]? :=λk h=>by rw[Array.getElem?_setIfInBounds_ne (Ne.symm h)]);(have u:∀{l c k},lk O l=some c->blk E l c=some k->k≠b:=λ{l c k} o t e=>by have:=d.off l c k o t;rw[e,N]at this;cases this);refine⟨?_,?_,d.sep,?_,?_,d.os,d.tape,d.output,d.lab,d.labs,d.pin,?_,d.kp⟩;{intro l cs e o;rw[p _ (u o J)];exact d.lit l cs e o};{intro l e sz m xs o;have T:=d.row l e sz m xs o;refine⟨T.1,?_⟩;(rcases T.2 with h|⟨g,z,L,R,W,Y,X⟩);{exact .inl h};refine .inr ⟨g,z,L,R,W,?_,X⟩;rw[p _ (u o (by simp[blk,R,Value.ownBlock]))];exact Y};{intro k M t;simp only[Vw.put]at t;by_cases h:k=b;{subst h;rw[<-t];simp[y]};rw[ZX h]at t;rw[p _ h];exact d.get k M t};{intro l c k o t;have:=u o t;show(if _ then _ else _)=_;rw[ZX this];exact d.off l c k o t};intro l k o;rw[P_];exact d.big l k o
theorem Of{w:Z6}{t d O b:Nat}{kd:IntKind}{k:Int}{ks:Z8 Int}(E:P.underlying t=some (.map d O))(o:P.underlying d=some (.int kd))(N: ¬k∈ks) (u:w.heap[b]? =some (jk ks)):(Instr.mapUpdate t (.map (some b)) (.int .i64 k) (.bool true)).run P w=.ok () {w with heap:=w.heap.setIfInBounds b (jk (ks++[k]))}:=by (have p:(getObj b).run P w=.ok (jk ks) w:=by simp[getObj,Sem.run,u,jk]);have y:=Bl kd k ks 0 0;(have M:∀e,(Instr.checkKey e 10000 d (.int .i64 k)).run P w=.ok () w:=λe=>by rw[show(10000:Nat)=9999+1 from J,Instr.checkKey];simp[run_underlying o]);(have B:(Instr.findKey d (.int .i64 k) (jp ks 0)).run P w=.ok none w:=by simp[Instr.findKey,run_underlying o,y.2 N]);(have L:∀m,(setObj b m).run P w=.ok () {w with heap:=w.heap.setIfInBounds b m}:=λm=>by simp[setObj,Sem.run,u,jk]);(have z:((jp ks 0).toArray.push ⟨.int .i64 k,.bool true,ks.length⟩)=(jp (ks++[k]) 0).toArray:=by rw[Jp];simp);(have l:Obj.map ((jp ks 0).toArray.push ⟨.int .i64 k,.bool true,ks.length⟩) (ks.length+1)=jk (ks++[k]):=by rw[z];simp[jk]);rw[<-l];simp only[jk]at p;simp[Instr.mapUpdate,run_underlying E,p,M,B,L]
def A2(F:cy)(p:Z8 (Nat×Bool)):Op->Z4 (Nat×Nat×Int)
 |.mapUpdate t x y z=>match cV F p x,cV F p y,cV F p z with
  |some (.a (.v (.map (some b)))),some (.a (.v (.int .i64 k))),some (.a (.v (.bool true)))=>some (t,b,k)
  |_,_,_=>none
 |_=>none
theorem T8{p:Z8 (Nat×Bool)}{t L et b:Nat}{kd:IntKind}{k:Int}(ks:Z8 Int)(m:A2 F p o.op=some (t,b,k))(hd:o.dst=none)(T:P.underlying t=some (.map L et))(W:P.underlying L=some (.int kd))(hn: ¬k∈ks) (B:V.get b=some (jk ks)):StepTo P o p n F C O nl V (σ:=Unit) (λ_=>True) (λ_=>.a (.v undef)) (λ_=>O) nl (λ_=>V.put b (jk (ks++[k]))):=by
 constructor;intro E a w u d M K Q Y;unfold Oper.wp execOp;cases l:o.op with
 |mapUpdate t' x y z=>
  simp only[l,A2]at m;split at m;{rename_i R Z hx hy hz;simp only[Z0,ZN]at m;obtain⟨rfl,rfl,rfl⟩:=m;obtain⟨X,_⟩:=cZ u d hx;obtain⟨N,_⟩:=cZ u d hy;obtain⟨h3,_⟩:=cZ u d hz;have e1:a.eval x=.map (some R):=X;have e2:a.eval y=.int .i64 Z:=N;have e3:a.eval z=.bool true:=h3;simp only[e1,e2,e3,ZR,Of T W hn (M.get _ _ B),ZU,ZO];have:=Y () E _ ZY (λ_ _=>⟨J,J⟩) (M.putV B _) J;exact this}
  simp_all
 |_=>simp[l,A2]at m
end
section
variable{P:Z3}{ops:Array Oper}{Q:Exit->Act->Z6->Prop}{n:Nat}{F:cy}{C:Z8 Nat}{O:Own}{nl:Nat}{V:Vw}{sp:Z8 Nat}{O0:Own}{nl0:Nat}{V0:Vw}{fuel:Nat}{listed:Z8 Bool}
theorem wj(i j k:Nat)(m:Region.ready .any ops listed.toArray=[i,j,k])(o:HI P ops Q sp O0 nl0 V0 fuel listed n F C O nl V i)(l:HI P ops Q sp O0 nl0 V0 fuel listed n F C O nl V j)(p:HI P ops Q sp O0 nl0 V0 fuel listed n F C O nl V k):HJ P ops Q sp O0 nl0 V0 (fuel+1) listed n F C O nl V:=
 wv [i,j,k] m J (λq d=>by
  simp at d
  rcases d with rfl|rfl|rfl
  . exact o
  . exact l
  . exact p)
