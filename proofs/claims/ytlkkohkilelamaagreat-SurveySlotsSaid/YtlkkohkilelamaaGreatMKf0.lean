import Derived.Test.YtlkkohkilelamaaGreatMKi2
/- A part of the proof of SurveySlots. -/
set_option linter.unusedVariables false
set_option linter.unusedSimpArgs false
set_option maxRecDepth 100000
set_option maxHeartbeats 4000000
set_option linter.unusedSectionVars false
namespace Go.Proofs.YtlkkohkilelamaaGreat
open Go Go.Eng Go.RowKit
def vr(g:Geo)(r:Record):Prop:=fX r=true/\r.block<g.blocks/\r.k<g.per
theorem RV{r:Record}(h:fX r=true)(d:r.count=0):(0<=r.block/\r.block<64)/\0<=r.k/\r.k<8:=by simp only[fX,Z1,d,Int.lt_irrefl,Zt,iB,ZV]at h;omega
theorem Ps{r:Record}(h:fX r=true):r.text.size<=256:=by
 simp only[fX,Z1]at h
 grind
theorem A4(n k:Int)(r:Record):jJ n k r=true↔r.count=0/\r.block=n/\r.k=k:=by simp[jJ]
theorem LF{l:Z8 Record}{n k:Int}(h:jO l n k=true):∃r∈l,r.count=0/\r.block=n/\r.k=k:=by rw[jO,YJ]at h;have ⟨r,h1,h2⟩:=h;exact⟨r,h1,(A4 _ _ _).1 h2⟩
theorem Ig{l:Z8 Record}{n:Int}:∀{k:Nat},(gK l n k).2=true-> ∃r∈l,r.count=0/\r.block=n
 |0,h=>by cases h
 |k+1,h=>by
  simp only[gK,Zv]at h
  rcases h with h|h
  . exact Ig h
  ·
   have ⟨r,h1,h2,h3,_⟩:=LF h
   grind
theorem Kj{l:Z8 Record}{n:Int}{r:Record}(hr:r∈l)(hc:r.count=0)(hb:r.block=n):∀{k:Nat},0<=r.k->r.k<k->(gK l n k).2=true
 |0,h0,h1=>by omega
 |k+1,h0,h1=>by
  simp only[gK,Zv]
  by_cases hk:r.k<k
  . exact .inl (Kj hr hc hb h0 hk)
  ·
   refine .inr ?_
   rw[jO,YJ]
   exact⟨r,hr,(A4 _ _ _).2 ⟨hc,hb,om⟩⟩
theorem N4{l:Z8 Record}{n k:Int}(h:∀r∈l,jJ n k r=false):j3 l n k=ByteArray.empty:=by
 unfold j3
 induction l with
 |nil=>rfl
 |cons r t ih=>
  rw[t_,h r Zj]
  simp_all
theorem HY{g:Geo}{l:Z8 Record}(h:∀r∈l,vr g r)(n:Int)(m:0<=g.per):∀k:Nat,((gK l n k).1.size:Int)<=g.per*256/\(gK l n k).1.size<=256*k
 |0=>by simp[gK];omega
 |k+1=>by
  have ⟨h1,h3⟩:=HY h n m k
  have t:=Cz (λr d=>Ps (h r d).1) n k
  rw[gK]
  rw[YP]
  by_cases p:(k:Int)<g.per
  . omega
  ·
   have:j3 l n k=ByteArray.empty:=N4 λr d=>by
    rw[Zi]
    intro o
    have:=((A4 _ _ _).1 o).2.2
    have:=(h r d).2.2
    omega
   rw[this,show(ByteArray.empty:Z5).size=0 from J]
   omega
def DX(g:Geo)(n:Int)(t:Z5):Prop:=n<g.blocks/\(t.size:Int)<=g.per*256
theorem AR{g:Geo}{n:Int}(l:0<=g.per):∀(L cur:Z8 Record) (acc:Z4 Z5),(∀r∈L,vr g r)->(∀r∈cur,vr g r)->(∀t,acc=some t->DX g n t)-> ∀t,ja n L cur acc=some t->DX g n t
 |[],cur,acc,_,_,h,t,ht=>h t ht
 |r::L,cur,acc,h1,h2,h3,t,ht=>by
  have hL:=λx d=>h1 x (Zr _ d)
  rw[ja]at ht
  split at ht
  ·
   refine AR l L _ acc hL (λx d=>?_) h3 t ht
   grind
  ·
   refine AR l L [] _ hL (λx d=>by cases d) (λu m=>?_) t ht
   split at m
   ·
    rename_i o
    cases m
    have ⟨q,hq,_,hqb⟩:=Ig o
    exact⟨hqb▸(h2 q hq).2.1,(HY h2 n l 8).1⟩
   simp_all
theorem Bf{g:Geo}{f:Int->Z4 Z5}(d:∀n t,f n=some t->DX g n t):∀(k:Nat) (a last:Int),last<a->g9 g last (dA f a k)=true
 |0,_,_,_=>rfl
 |k+1,a,last,h=>by
  rw[dA]
  cases hq:f a with
  |none=>exact Bf d k (a+1) last om
  |some t=>
   have:=d a t hq
   exact tS.2 ⟨⟨h,this.1,this.2⟩,Bf d k (a+1) a om⟩
theorem MW{g:Geo}(d:cY g=true){L:Z8 Record}(h:∀r∈L,vr g r):fO g (mU L)=true:=by have o:=dE d;rw[fO,d,ZI];exact Bf (λn t=>AR om L [] none h (λr l=>by cases l) (λt m=>by cases m) t) 64 0 (-1) om
theorem CL:∀(l:Z8 Record) (i n d:Nat),n<=i->n<=gR l i n d
 |[],_,_,_,_=>ZS _
 |r::t,i,n,d,h=>by
  rw[gR]
  split
  . exact CL t _ _ _ om
  ·
   split
   . exact ZS _
   . exact ZC om (CL t (i+1) (i+1) 0 (ZS _))
theorem Sq{l:Z8 Record}(h:∀r∈l,r.count=0):fR l=0:=by
 rw[fR,List.countP_eq_zero]
 simp_all
theorem Cv:∀(l pre:Z8 Record) (n d:Nat),n+d=pre.length->(∀r∈pre.drop n,r.count=0)->2*fR (pre.take n)<=n->(0<n->0<fR (pre.take n))->
  2*fR ((pre++l).take (gR l pre.length n d))<=gR l pre.length n d/\(0<gR l pre.length n d->0<fR ((pre++l).take (gR l pre.length n d)))
 |[],pre,n,d,h1,h2,h3,h4=>by
  rw[gR,Zb]
  exact⟨h3,h4⟩
 |r::t,pre,n,d,h1,h2,h3,h4=>by
  have hap:pre++r::t=(pre++[r])++t:=sm
  have m:(pre++[r]).length=pre.length+1:=sm
  rw[gR]
  split
  ·
   rename_i w
   have p:=Cv t (pre++[r]) n (d+1) (by rw[m];omega) (λx o=>by
    rw[u_ om]at o
    rcases Zh.1 o with o|o
    . exact h2 x o
    . rw[ZE.1 o];exact w) (by rw[Y1 om];exact h3) (by rw[Y1 om];exact h4)
   rw[m]at p
   rw[hap]
   exact p
  ·
   rename_i w
   split
   ·
    rw[Y1 om]
    exact⟨h3,h4⟩
   ·
    rename_i hd
    have hd:r.count=d:=cU hd
    have u:fR (pre++[r])=fR (pre.take n)+1:=by
     have y:fR pre=fR (pre.take n)+fR (pre.drop n):=by
      conv=>lhs;rw[<-YQ n pre]
      rw[fR,L']
      rfl
     rw[JU,y,Sq h2,ZW om]
    have p:=Cv t (pre++[r]) (pre.length+1) 0 (by rw[m]) (λx o=>by rw[Yo om]at o;cases o) (by rw[<-m,Zx,u,m];omega) (λ_=>by rw[<-m,Zx,u];omega)
    rw[m]at p
    rw[hap]
    exact p
theorem HD(l:Z8 Record):2*fR (l.take (whole l))<=whole l/\(0<whole l->0<fR (l.take (whole l))):=
 Cv l [] 0 0 J (λr d=>by cases d) (by simp[fR]) (λh=>om)
theorem xY{n:Int}:∀(L cur:Z8 Record) (t:Z5),∃u,ja n L cur (some t)=some u
 |[],_,t=>⟨t,J⟩
 |r::L,cur,t=>by
  rw[ja]
  split
  . exact xY L _ t
  ·
   split
   . exact xY L _ _
   . exact xY L _ _
theorem Ib:∀(l pre:Z8 Record),(∀r∈pre,r.count=0)->0<gR l pre.length 0 pre.length->
  ∃ds c rest,(pre++l).take (gR l pre.length 0 pre.length)=ds++c::rest/\ds≠[]/\(∀r∈ds,r.count=0)/\c.count≠0
 |[],pre,_,h=>by rw[gR]at h;omega
 |r::t,pre,h2,h=>by
  have hap:pre++r::t=(pre++[r])++t:=sm
  have d:(pre++[r]).length=pre.length+1:=sm
  rw[gR]at h⊢
  split at h
  ·
   rename_i o
   rw[ZW o]
   have z:=Ib t (pre++[r]) (λx p=>by
    rcases Zh.1 p with p|p
    . exact h2 x p
    . rw[ZE.1 p];exact o) (by rw[d];exact h)
   simp_all
  ·
   rename_i o
   rw[ZX o]
   split at h
   . omega
   ·
    rename_i hd
    rw[ZX hd]
    have u:=CL t (pre.length+1) (pre.length+1) 0 (ZS _)
    obtain⟨m,y⟩:∃m,gR t (pre.length+1) (pre.length+1) 0=pre.length+(m+1):=⟨_,(by omega:_=pre.length+((gR t (pre.length+1) (pre.length+1) 0 - pre.length - 1)+1))⟩
    refine⟨pre,r,t.take m,?_,λw=>by subst w;simp at hd;omega,h2,o⟩
    rw[y,T_,ZG om,show pre.length+(m+1) - pre.length=m+1 by omega,R_]
theorem Hb{n:Int}:∀(ds B cur:Z8 Record) (acc:Z4 Z5),(∀x∈ds,x.count=0)->ja n (ds++B) cur acc=ja n B (cur++ds) acc
 |[],B,cur,acc,_=>by simp
 |x::ds,B,cur,acc,h=>by
  rw[YY,ja,ZW (h x sm),Hb ds B _ acc (λy hy=>h y (by simp[hy]))]
  simp
theorem Hn{f:Int->Z4 Z5}{n:Int}{t:Z5}(hf:f n=some t):∀(k:Nat) (a:Int),a<=n->n<a+k->⟨n,t⟩∈dA f a k
 |0,a,h1,h2=>by omega
 |k+1,a,h1,h2=>by
  rw[dA,Zh]
  by_cases h:a=n
  . subst h;rw[hf];exact .inl Zj
  . exact .inr (Hn hf k (a+1) om om)
theorem T3{l:Z8 Record}(o:∀r∈l,fX r=true)(h:0<whole l):∃b,b∈mU (l.take (whole l)):=by have ⟨ds,c,rest,h1,h2,h3,h4⟩:=Ib l [] (λr p=>by cases p) h;change l.take (whole l)=_ at h1;have ⟨r0,hr0⟩:=List.exists_mem_of_ne_nil _ h2;have m:=Y7 (by rw[h1];exact List.mem_append_left _ hr0);have d:=RV (o r0 m) (h3 r0 hr0);have t:=Kj hr0 (h3 r0 hr0) J d.2.1 d.2.2;(have w:∃u,ja r0.block (l.take (whole l)) [] none=some u:=by rw[h1,Hb ds _ _ _ h3,ZB,ja,ZX h4,ZW t];exact xY _ _ _);have ⟨u,hu⟩:=w;exact⟨_,Hn (f:=λn=>ja n (l.take (whole l)) [] none) hu 64 0 d.1.1 om⟩
theorem WB:mU []=[]:=T6 64 0
def uJ(A:Nat->Z8 Record)(k:Nat)(s:Sight):Prop:=(s.by_=0/\s.now=s.then_)\/ ∃i,i<k/\s.by_=(i:Int)+1/\0<whole (A i)
theorem KC{A:Nat->Z8 Record}{k i:Nat}(hi:i<k)(hw:0<whole (A i)):∀(l:Z8 Block) (X:Z8 Sight),(∀s∈X,uJ A k s)-> ∀s∈kj ((i:Int)+1) X l,uJ A k s
 |[],X,h=>h
 |b::r,X,h=>by
  refine KC hi hw r (me ((i:Int)+1) X b) λs hs=>?_
  rcases ZA hs with h1|rfl
  . exact h s h1
  . exact .inr ⟨i,hi,J,hw⟩
theorem EV{g:Geo}{A:Nat->Z8 Record}{X:Z8 Sight}(d:∀s∈X,s.by_=0/\s.now=s.then_):∀k,∀s∈lq g A X k,uJ A k s
 |0,s,hs=>.inl (d s hs)
 |k+1,s,hs=>by
  have ih:∀s∈lq g A X k,uJ A (k+1) s:=λs hs=>(EV d k s hs).imp id λ⟨i,h1,h2⟩=>⟨i,om,h2⟩
  rw[lq]at hs
  by_cases l:0<whole (A k)
  . exact KC (Nat.lt_succ_self k) l _ _ ih s hs
  ·
   have:iV A k=[]:=by
    rw[iV,show whole (A k)=0 by omega,U_]
    exact WB
   rw[this]at hs
   exact ih s hs
def rx(X:Z8 Sight):Prop:= ∃q:Nat,∃s,X[q]? =some s/\s.by_≠0
theorem VV{i:Int}(hi:i≠0){X:Z8 Sight}(b:Block)(h:rx X):rx (me i X b):=by have ⟨q,s,h1,h2⟩:=h;rw[me];by_cases d:b.n.toNat=q;{subst d;exact⟨b.n.toNat,_,List.getElem?_set_self (List.getElem?_eq_some_iff.1 h1).1,hi⟩};exact⟨q,s,by rw[List.getElem?_set_ne d];exact h1,h2⟩
theorem DI{i:Int}(hi:i≠0):∀(l:Z8 Block) {X:Z8 Sight},rx X->rx (kj i X l)
 |[],X,h=>h
 |b::r,X,h=>by
  exact DI hi r<|VV hi b h
theorem I7{i:Int}(hi:i≠0):∀(l:Z8 Block) {X:Z8 Sight},(∃b∈l,b.n.toNat<X.length)->rx (kj i X l)
 |[],X,h=>by have ⟨b,hb,_⟩:=h;cases hb
 |b::r,X,h=>by
  have ⟨c,hc,hl⟩:=h
  rcases Zg.1 hc with rfl|hc
  . exact DI hi r ⟨c.n.toNat,⟨(X.getD c.n.toNat ⟨ByteArray.empty,ByteArray.empty,0⟩).now,c.text,i⟩,by rw[me];exact List.getElem?_set_self hl,hi⟩
  . exact I7 hi r ⟨c,hc,by rw[Hj];exact hl⟩
theorem GV{g:Geo}{A:Nat->Z8 Record}{X:Z8 Sight}(l:(X.length:Int)=g.blocks):∀k,(∀i,i<k->fO g (iV A i)=true)->(∃i,i<k/\ ∃b,b∈iV A i)->rx (lq g A X k)
 |0,_,h=>by have ⟨i,h,_⟩:=h;omega
 |k+1,hm,h=>by
  have ⟨i,hi,b,hb⟩:=h
  by_cases d:i=k
  ·
   subst d
   have:=CI (hm i hi) hb
   exact I7 om _ ⟨b,hb,by rw[Cg];omega⟩
  . exact DI om _ (GV l k (λj m=>hm j om) ⟨i,om,b,hb⟩)
theorem H7:∀(L:Z8 Sight) (n:Nat) (p:Int),p∈gb n L-> ∃q:Nat,p=((n+q:Nat):Int)/\ ∃s,L[q]? =some s/\s.by_≠0
 |[],_,p,h=>by cases h
 |x::r,n,p,h=>by
  rw[gb,Zh]at h
  rcases h with h|h
  ·
   split at h
   . cases h
   ·
    rename_i hb
    exact⟨0,cU h,x,J,hb⟩
  ·
   have ⟨q,h1,s,h2,h3⟩:=H7 r (n+1) p h
   exact⟨q+1,om,s,cU h2,h3⟩
theorem Ff:∀(L:Z8 Sight) (n:Nat),gb n L=[]↔ ¬rx L
 |[],n=>⟨λ_ ⟨q,s,h,_⟩=>by simp at h,cw⟩
 |x::r,n=>by
  rw[gb,List.append_eq_nil_iff,Ff r (n+1)]
  constructor
  ·
   rintro⟨h1,h2⟩ ⟨q,s,h3,h4⟩
   cases q with
   |zero=>
    simp at h3
    simp_all
   |succ q=>exact h2 ⟨q,s,cU h3,h4⟩
  ·
   intro h
   refine⟨?_,λ⟨q,s,h3,h4⟩=>h ⟨q+1,s,cU h3,h4⟩⟩
   rw[ZW]
   refine Classical.byContradiction λhb=>h ⟨0,x,J,hb⟩
theorem I4{g:Geo}{k:Nat}{d:Device}(l:cY g=true)(h:DevG g k d):gG g d=true:=by rw[gG,l,h.chk,ZD h.len];rfl
theorem Eb:∀(L:Z8 Z5) (acc:Z8 Cmd),(∀s∈L,fB s=0)->(gV L acc).2=0
 |[],_,_=>rfl
 |s::r,acc,h=>by
  rw[gV,ZX (by rw[h s Zj];simp)]
  split
  . rfl
  . exact Eb r _ λx hx=>h x (Zr _ hx)
theorem AA{g:Geo}{k:Nat}{d:Device}(h:DevG g k d){i:Nat}(hi:i<d.s.l.length):∃b,d.s.l[i]? =some b/\SecOk g i b:=by have:=List.getElem?_eq_getElem hi;exact⟨_,this,h.sec i _ this⟩
theorem Jl{g:Geo}{k:Nat}{d:Device}(o:cY g=true)(h:DevG g k d):(ib g d).2=0:=by have p:=dE o;rw[ib,ZW (I4 o h)];refine Eb _ _ λs m=>?_;rw[jM]at m;have ⟨j,hj⟩:=Zs.1 m;have l:=(List.getElem?_eq_some_iff.1 hj).1;rw[ZL]at l;rw[List.getElem?_take_of_lt om,List.getElem?_drop]at hj;exact(h.sec _ _ hj).log om om
theorem JP{g:Geo}{k:Nat}{d:Device}(m:cY g=true)(h:DevG g k d):fA g d=0:=by have u:=gC m;have o:=h.len;(have t:dw g=eO g+g.blocks*g.per:=by rw[dw,ZW m]);rw[fA,ZW (I4 m h),ZW];have ⟨b0,hb0,hs0⟩:=AA h (i:=0) om;have l:=hs0.top J;rw[lM,List.getD_eq_getElem?_getD,hb0,YK,l.1,l.2,Jl m h];simp;rw[mw,YV];intro i hi;have hi:=YC.1 hi;have p:=tj m (k:=i) om;have ⟨b,hb,hs⟩:=AA h (i:=(dt g (i:Int)).toNat) om;rw[List.getD_eq_getElem?_getD,hb,YK];exact ZD<|hs.head i om om
theorem Vk{g:Geo}{k:Nat}{d:Device}(l:cY g=true)(h:DevG g k d):mB g d g.blocks.toNat=true:=by have B:=dE l;have L:=gC l;have t:=h.len;(have M:dw g=eO g+g.blocks*g.per:=by rw[dw,ZW l]);rw[mB,YV];intro n w;have w:=YC.1 w;(have hd:∀j:Nat,(j:Int)<g.per->fI g n j=eO g+n*g.per+j:=λj m=>by rw[fI,ZW ⟨l,om,om,om,m⟩]);have y:=hd 0 om;have z:0<=(n:Int)*g.per:=Y' om om;(have o:oS g d n=true:=by rw[oS,h.chk,l,ZI,ZI];exact ZD ⟨h.len,by simp only[Int.natCast_zero]at y;omega⟩);refine ZD ?_;rw[kg,ZW o,ZW];rw[YV];intro x u;rw[i0,Y6]at u;obtain⟨j,m,rfl⟩:=u;have m:=YC.1 m;have E:=hd j om;(have p:(n:Int)*g.per+g.per<=g.blocks*g.per:=by have:((n:Int)+1)*g.per<=g.blocks*g.per:=Y3 om om;rw[u']at this;omega);have ⟨b,o,hs⟩:=AA h (i:=(fI g (n:Int) (j:Int)).toNat) om;rw[List.getD_eq_getElem?_getD,o,YK];exact ZD<|hs.data om
theorem Dp{g:Geo}{k:Nat}{d:Device}(o:cY g=true)(h:DevG g k d){A:Nat->Z8 Record}(z:RowsAll g d A){i:Nat}(hi:(i:Int)<g.slots):(∀r∈A i,vr g r)/\((A i).length:Int)<=g.journal:=by have R:=dE o;(have M:i<(fJ g d).S.length:=by rw[sM o];omega);obtain⟨s,B⟩:∃s,(fJ g d).S[i]? =some s:=⟨_,List.getElem?_eq_getElem M⟩;by_cases y:s.key=0;{rw[z.no i s B y];exact⟨λr t=>(by cases t),by simp;omega⟩};have u:=z.at_ i s B y;refine⟨λr t=>?_,u.few⟩;have ⟨j,hj⟩:=Zs.1 t;obtain⟨x,N,p,rfl⟩:=u.at_ j r hj;have E:=u.tl0;have O:=tj o (k:=i) hi;have L:=CA o (slot:=(i:Int)) (lsn:=fW (d.s.l.getD (dt g (i:Int)).toNat ByteArray.empty)+j) om om;(have m:jf x=true:=by rw[mc,Z1,Z1]at p;exact p.1.1);have w:=(h.sec _ _ N).jour i (fW (d.s.l.getD (dt g (i:Int)).toNat ByteArray.empty)+j) hi om om m;rw[oQ,ZW p];exact⟨Dq m,w.1,w.2⟩
theorem Em{g:Geo}{k:Nat}{d:Device}(l:cY g=true)(h:DevG g k d){A:Nat->Z8 Record}(o:RowsAll g d A){i:Nat}(hi:(i:Int)<g.slots):fO g (iV A i)=true:=
 MW l λr m=>(Dp l h o hi).1 r (Y7 m)
theorem Ru{g:Geo}{k:Nat}{d:Device}(l:cY g=true)(h:DevG g k d){A:Nat->Z8 Record}(m:RowsAll g d A):lV g d A=true:=by rw[lV,Vk l h,ZI,rt,YV];intro i hi;exact Em l h m (by have:=YC.1 hi;omega)
structure SvOk(g:Geo)(d:Device)(A:Nat->List Record):Prop where
 views:sr g d A=jt g d A g.slots.toNat
 sights:lX g d A=lq g A (kH g d g.blocks.toNat) g.slots.toNat
 err:oD g d A=0
 slen:((lX g d A).length:Int)=g.blocks
 two:∀i:Nat,(i:Int)<g.slots->2*fR ((A i).take (whole (A i)))<=whole (A i)/\(0<whole (A i)->0<fR ((A i).take (whole (A i))))/\whole (A i)<=(A i).length/\((A i).length:Int)<=g.journal
 si:∀s∈lX g d A,uJ A g.slots.toNat s
 sett:rI (jt g d A g.slots.toNat)=(gb 0 (lX g d A)).isEmpty
theorem Ow{g:Geo}{k:Nat}{d:Device}(p:cY g=true)(h:DevG g k d){A:Nat->Z8 Record}(u:RowsAll g d A):SvOk g d A:=by
 have T:=dE p;have B:=JP p h;have o:=xi B (Ru p h u);have m:((kH g d g.blocks.toNat).length:Int)=g.blocks:=by rw[GM];omega
 have E:∀s∈kH g d g.blocks.toNat,s.by_=0/\s.now=s.then_:=λs o=>by
  rw[kH,Y6]at o
  grind
 have t:=EV (g:=g) (A:=A) E g.slots.toNat;refine⟨by rw[sr,ZW B],o.1,o.2,by rw[o.1,Cg];exact m,λi hi=>⟨(HD _).1,(HD _).2,ur _,(Dp p h u hi).2⟩,by rw[o.1];exact t,?_⟩;rw[o.1,Ze,List.isEmpty_iff,Ff,rI,YV];constructor;{rintro w ⟨q,s,L,y⟩;(rcases t s (ZZ L)with⟨z,_⟩|⟨i,z,R,V⟩);{exact y z};have:=w _ (Y6.2 ⟨i,YC.2 z,J⟩);have:=of_decide_eq_true this;simp only[rV]at this;omega};intro O v w;rw[jt,Y6]at w;obtain⟨i,hi,rfl⟩:=w;have hi:=YC.1 hi;refine ZD λM=>O ?_;simp only[rV]at M;have ⟨b,y⟩:=T3 (l:=A i) (λr N=>((Dp p h u (i:=i) om).1 r N).1) om;exact GV m _ (λj W=>Em p h u om) ⟨i,hi,b,y⟩
theorem Wg(g:Geo):sA g ByteArray.empty:=by intro h;exact absurd h (by decide+kernel)
theorem XG{g:Geo}(d:cY g=true)(M L N:Z7):DevG g 0 (ek (fG g (eQ g) (eB 0).1 g.slots.toNat) g.nodes.toNat M L N):=by have hf:=dE d;have hz:=gC d;(have Y:dw g=eO g+g.blocks*g.per:=by rw[dw,ZW d]);have E:∀x∈fG g (eQ g) (eB 0).1 g.slots.toNat,x.size<=256:=A8 (wT g) (xf 0) _;have z:=uk g (eQ g) (eB 0).1 g.slots.toNat;have y:=(Ao 0).2 yf;have o:((g.slots.toNat:Nat):Int)<=g.slots:=om;refine⟨?_,?_,?_,?_,?_⟩;{rw[ze _ _ _ _ _ om om,z,ZD (by omega:0<(dw g).toNat),ZI,y8];intro x B;have:=E x B;omega};{show((fG g (eQ g) (eB 0).1 g.slots.toNat).length:Int)=dw g;rw[z];omega};{intro i b hi;have hi:(fG g (eQ g) (eB 0).1 g.slots.toNat)[i]? =some b:=hi;have w:=E b (ZZ hi);(have W:i<(dw g).toNat:=by rw[<-z];exact(List.getElem?_eq_some_iff.1 hi).1);(have m:i≠0->(∀k:Nat,(k:Int)<g.slots->dt g (k:Int)≠i)->b=ByteArray.empty:=λu t=>by have:=JF d (eQ g) (eB 0).1 g.slots.toNat o i om u (λk T=>t k om);rw[hi]at this;exact N_ this);refine⟨om,λu=>?_,λZ X=>?_,λs p h=>?_,λs j p O h=>?_,λ_=>w⟩;{have u:i=0:=om;subst u;have:=Fv d (eQ g) (eB 0).1 g.slots.toNat o;rw[hi]at this;cases this;have p:=Ka d;exact⟨by rw[j6,p];rfl,by rw[i7,p];exact Geo.eqB_refl g⟩};{rw[m om (λk t e=>by have:=qw d t;omega)];simp[fB]};{have:=Fi d (eQ g) (eB 0).1 g.slots.toNat o s om;rw[<-h,ZH,hi]at this;cases this;rw[iw,y];rfl};have V:=xx d p O;rw[m om (λk t e=>CK d t p O (by rw[e,h]))];exact Wg g};{intro c R;rw[show(ek (fG g (eQ g) (eB 0).1 g.slots.toNat) g.nodes.toNat M L N).cache.l=List.replicate g.nodes.toNat ⟨cz,[]⟩from J]at R;rw[P' R];exact⟨ZS _,λx B=>by cases B⟩};exact ZS _
def I2:Z8 (Nat×Nat):=[(0,0),(11,11),(12,12),(13,13),(1,1),(3,1),(2,2),(4,2),(5,5),(6,5),(7,7),(8,7),(9,9),(10,9),(14,14),(15,14),(16,16),(17,16)]
def Bp:CP->CP->Bool
 |.int a,.int b=>j9 a b
 |.bool,.bool=>true
 |.str a,.str b=>Nat.beq a b
 |.nm i,.nm j=>I2.any λp=>Nat.beq p.1 i&&Nat.beq p.2 j
 |_,_=>false
def DZ:Z8 CP->Z8 CP->Bool
 |[],[]=>true
 |a::r,b::s=>Bp a b&&DZ r s
 |_,_=>false
section
variable{g:Geo}{k:Nat}{hk:k<250}{hk':k+1<250}{V:Vw}
theorem Vt{c l:CP}{v:Z7}(h:Bp c l=true)(d:c.den (FW g k hk) V v):l.den (FW g (k+1) hk') V v:=by unfold Bp at h;split at h;{have:=mZ.1 h;subst this;exact d};{exact d};{have:=ZM h;subst this;exact d};{rename_i i j;have ⟨p,hp,h2⟩:=YJ.1 h;simp only[Z1]at h2;have o:=ZM h2.1;have t:=ZM h2.2;subst o t;have m:k*k<=(k+1)*(k+1):=E_ om om;simp only[I2,Zg,YH,w_]at hp;(rcases hp with rfl|rfl|rfl|rfl|rfl|rfl|rfl|rfl|rfl|rfl|rfl|rfl|rfl|rfl|rfl|rfl|rfl|rfl);{exact d};{exact d};{exact d};{exact d};{exact LS.up (sz:=4) (G:=nz) (B:=k*k) (B':=(k+1)*(k+1)) m d};{exact d};{exact LS.up (sz:=4) (G:=nz) (B:=k) (B':=k+1) om d};{exact d};{exact LS.up (enc:=Span.cells) (G:=λ_ s=>s.Ok) (B:=k) (B':=k+1) om d};{exact d};{exact LS.up (sz:=2) (G:=nO) (B:=k) (B':=k+1) om d};{exact d};{exact LS.up (enc:=Block.cells) (sz:=2) (G:=nO) (B:=k*k) (B':=(k+1)*(k+1)) m d};{exact d};{exact LS.up (enc:=Record.cells) (sz:=6) (G:=DV) (B:=k) (B':=k+1) om d};{exact d};{exact LS.up (enc:=da) (sz:=1) (G:=λ_ s=>s.size<=256) (B:=k) (B':=k+1) om d};exact d};cases h
theorem DF:∀{l m:Z8 CP} {xs:Z8 Z7},DZ l m=true->cT (CP.den (FW g k hk) V) l xs->cT (CP.den (FW g (k+1) hk') V) m xs
 |[],[],[],_,_=>trivial
 |a::r,b::s,x::xs,h,ha=>by
  simp only[DZ,Z1]at h
  exact⟨Vt h.1 ha.1,DF h.2 ha.2⟩
 |[],_::_,_,h,_=>by cases h
 |_::_,[],_,h,_=>by cases h
 |[],[],_::_,_,ha=>ha.elim
 |_::_,_::_,[],_,ha=>ha.elim
theorem xO{xs:Z8 Z7}(h:cT (CP.den (FW g k hk) V) ed xs):cT (CP.den (FW g (k+1) hk') V) ed xs:=DF dc h
theorem sZ{xs:Z8 Z7}(h:cT (CP.den (FW g k hk) V) dj xs):cT (CP.den (FW g (k+1) hk') V) ed xs:=DF dc h
end
abbrev iQ(f:Nat->Z7):Z8 Z7:=[f 0,f 1,f 2,f 3,f 4,f 5,f 6,f 7,f 8,f 9,f 10,f 11,f 12,f 13,f 14,f 15,f 16,f 17,f 18,f 19,f 20,f 21,f 22,f 23,f 24,f 25,f 26,f 27,f 28,f 29,f 30,f 31,f 32,f 33,f 34,f 35,f 36,f 37,f 38,f 39,f 40,f 41,f 42,f 43,f 44,f 45,f 46,f 47,f 48,f 49,f 50,f 51,f 52,f 53,f 54,f 55,f 56,f 57,f 58,f 59,f 60,f 61,f 62,f 63]
abbrev Cc(g:Geo)(d:Device)(nv lv:Z7):Z7:=.agg #[I g.nodes,I g.slots,I g.blocks,I g.per,I g.journal,I g.log,I g.lease,I g.wait,d.s.v,d.cache.v,d.keys.v,I d.next_,d.fenced.v,nv,lv]
structure WIn(g:Geo)(k:Nat)(hk:k<250)(V:Vw)(d:Device)(nv lv:Value)(N:List (Nat->Value))(E:List Event):Prop where
 di:DevIn V d
 dg:DevG g k d
 ns:SlOf V iQ 64 nv N
 nn:N.length<=16
 na:∀f∈N,cT (CP.den (FW g k hk) V) ed (iQ f)
 ls:SlOf V Event.cells 14 lv E
 ln:E.length<=2*k
def WJ(g:Geo)(k:Nat)(hk:k<250)(V:Vw)(x:Z7):Prop:= ∃d nv lv N E,x=Cc g d nv lv/\WIn g k hk V d nv lv N E
theorem WIn.mono{g:Geo}{k:Nat}{o:k<250}{V p:Vw}{d:Device}{m t:Z7}{N:Z8 (Nat->Z7)}{E:Z8 Event}(h:WIn g k o V d m t N E)(l:V.le p):WIn g k o p d m t N E:=
 ⟨h.di.mono l,h.dg,h.ns.mono l,h.nn,λf u=>(h.na f u).imp λ_ _=>CP.den_mono l,h.ls.mono l,h.ln⟩
theorem WJ.mono{g:Geo}{k:Nat}{m:k<250}{V o:Vw}{x:Z7}(h:WJ g k m V x)(l:V.le o):WJ g k m o x:=by obtain⟨d,p,t,N,E,rfl,h⟩:=h;exact⟨d,p,t,N,E,J,h.mono l⟩
theorem WJ.up{g:Geo}{k:Nat}{p:k<250}{l:k+1<250}{V:Vw}{x:Z7}(h:WJ g k p V x):WJ g (k+1) l V x:=by obtain⟨d,m,t,N,E,rfl,h⟩:=h;exact⟨d,m,t,N,E,J,h.di,h.dg.up om,h.ns,h.nn,λf o=>xO (h.na f o),h.ls,by have:=h.ln;omega⟩
theorem PH(V:Vw)(g:Geo)(ok:g.Ok)(d:Device)(nv lv:Z7)(N:Z8 (Nat->Z7))(R:∀f∈N,∃n,f 0=I n)(w:Z6)(hV:V.le (vw w))(hd:DevIn V d)(M:SlOf V iQ 64 nv N)(hn:N.length<=16)(a5:∃a n c,lv=.slice a n c): Cl 61 #[Cc g d nv lv] w λe w'=>(∃r,e=.returned (I r)/\(r=0\/r=2))/\cH w w':=by have m:=λw1 W=>mK (vw w) d w1 W (hd.mono hV);generalize gD d=cb at m;obtain⟨⟨sv,S⟩,⟨cv,D⟩,⟨kv,K⟩,nx,⟨fv,F⟩⟩:=d;obtain⟨o,L,O,Y,Z,p,T,B,X⟩:=hd;dsimp only at o L O Y Z p T B X;obtain⟨a1,n1,c1,rfl⟩:=cD o.sl;obtain⟨a2,n2,c2,rfl⟩:=cD O.sl;obtain⟨a3,n3,c3,rfl⟩:=cD p.sl;obtain⟨a4,n4,c4,rfl⟩:=cD B.sl;obtain⟨na,nn,nc,rfl⟩:=cD M.sl;obtain⟨la,ln,lc,rfl⟩:=a5;have hS:=o.mono hV;have hK:=p.mono hV;have y:=M.mono hV;simp only[maxLen]at L T;refine dC [.a (.v (.agg #[I g.nodes,I g.slots,I g.blocks,I g.per,I g.journal,I g.log,I g.lease,I g.wait,.slice a1 n1 c1,.slice a2 n2 c2,.slice a3 n3 c3,I nx,.slice a4 n4 c4,.slice na nn nc,.slice la ln lc]))] J<|Qs J<|du [1,3] J<|zE J<|ez mixed kr<|Dm 1 J<|zQ J (jc g ok) ?_;refine Dm 4 J<|lR J (λu E w1 t=>m _ t.leV) ?_;refine Dm 6 J<|Qd J (yN J hS)<|Dm 1 J<|zQ J (xd g ok) ?_;refine Dm 6 J<|Qd J (yN J hK)<|Dm 7 J<|Qd J (yN J y)<|Dm 4 J<|uP [1,41] J<|BA J ?_ ?_<;>intro h;{refine Qb J λE w' t=>?_;exact⟨⟨_,J,.inr J⟩,t.below lr⟩};refine zL [1] [] J J (σ:=Nat) (λi=>[(4,.a (.v (I i)))]) (λi=>[]) (λi=>i<=N.length) (λi=>N.length - i) (0) om ?_;rintro i hi;refine zB J<|QY J (yN J y)<|cJ J ?_ ?_<;>intro h;{obtain⟨f,z⟩:=y.at (k:=i) om;obtain⟨n0,a0⟩:=R f (ZZ z);refine QY J (gZ aJ J (λu=>y.sl) (λu=>by first|omega|(simp at h;omega))) ?_;refine QY J (gS aJ J (λu=>y.sl) (λu=>by first|omega|(simp at h;omega))) ?_;refine QY J (dy (s:=.a (.v (I n0))) (l:=N) aJ i 0 f J (λu=>y) (λu=>z) J (by rw[<-a0];rfl)) ?_;refine cJ J ?_ ?_<;>intro h;{refine Qb J λE w' t=>?_;exact⟨⟨_,J,.inr J⟩,t.below lr⟩};rw[cx om om];refine Qr (i+1) om};refine Qb J λE w' t=>?_;exact⟨⟨_,J,.inl J⟩,t.below lr⟩
def mu(n:Int):Z8 Z7:=[I n,I 0,Value.bool false,I 0,I 0,I 0,I 0,Value.bool false,I 0,I 0,I 0,cz,cz,cz,I 0,I 0,Value.bool false,cz,cz,cz,cz,Value.bool false,Value.bool false,I8 0,I 0,I 0,I8 0,I 0,S ByteArray.empty,I 0,I 0,I8 0,I 0,S ByteArray.empty,I8 0,I 0,I 0,I 0,I 0,S ByteArray.empty,I 0,I 0,I 0,S ByteArray.empty,I 0,Value.bool false,Value.bool false,cz,I 0,cz,I 0,I 0,I8 0,I 0,I 0,I8 0,I 0,cz,cz,I 0,I 0,I 0,I 0,cz]
def B5(n:Int):Nat->Z7:=λi=>(mu n).getD i undef
theorem HV(n:Int):iQ (B5 n)=mu n:=rfl
def AH(Φ:Go.Eng.Facts):Z8 CP->Z8 Z7->Bool
 |[],[]=>true
 |c::r,v::s=>(match uS v with
  |some c'=>c'.le Φ c
  |none=>false)&&AH Φ r s
 |_,_=>false
theorem Ci{Φ:Go.Eng.Facts}{V:Vw}:∀{l:Z8 CP} {xs:Z8 Z7},AH Φ l xs=true->cT (CP.den Φ V) l xs
 |[],[],_=>trivial
 |c::r,v::s,h=>by
  simp only[AH,Z1]at h
  refine⟨?_,Ci h.2⟩
  have h1:=h.1
  split at h1
  ·
   rename_i m d
   exact CP.le_ok h1<|CO d
  . cases h1
 |[],_::_,h=>by cases h
 |_::_,[],h=>by cases h
theorem U5(g:Geo){n:Int}(d:cK n){V:Vw}:cT (CP.den (FW g 0 om) V) ed (mu n):=by have h:cT (CP.den (FW g 0 om) V) ed (mu 0):=Ci kr;exact⟨dI d,h.2⟩
theorem S2(i:Nat):∀u∈mu (i:Int),u.oneCell'=true:=by intro u d;simp only[mu,Zg,YH,w_]at d;rcases d with rfl|rfl|rfl|rfl|rfl|rfl|rfl|rfl|rfl|rfl|rfl|rfl|rfl|rfl|rfl|rfl|rfl|rfl|rfl|rfl|rfl|rfl|rfl|rfl|rfl|rfl|rfl|rfl|rfl|rfl|rfl|rfl|rfl|rfl|rfl|rfl|rfl|rfl|rfl|rfl|rfl|rfl|rfl|rfl|rfl|rfl|rfl|rfl|rfl|rfl|rfl|rfl|rfl|rfl|rfl|rfl|rfl|rfl|rfl|rfl|rfl|rfl|rfl|rfl<;>rfl
def lZ(i:Nat):Z8 (Nat->Z7):=(List.range i).map λj:Nat=>B5 (j:Int)
theorem xm(i:Nat):(lZ i).length=i:=by simp[lZ]
theorem Vv(i:Nat):lZ (i+1)=lZ i++[B5 (i:Int)]:=by simp[lZ,Y0]
theorem Wy(i:Nat):(lZ i).flatMap iQ++mu (i:Int)=(lZ (i+1)).flatMap iQ:=by rw[Vv,ZF,List.flatMap_singleton,HV]
set_option maxHeartbeats 4000000 in
theorem U9(V:Vw)(g:Geo)(ok:g.Ok)(w:Z6)(hV:V.le (vw w)): kD 14 #[g.val] w V λv V'=>((cY g=false/\v=.tuple #[.agg #[I 0,I 0,I 0,I 0,I 0,I 0,I 0,I 0,cz,cz,cz,I 0,cz,cz,cz],I 40])\/(cY g=true/\ ∃x,v=.tuple #[x,I 0]/\WJ g 0 om V' x)):=by refine dU J<|zC J (jc g ok) ?_;refine cJ J ?_ ?_<;>intro h;{have z:cY g=false:=cU h;clear h;refine Qs J<|zA J<|Qb J λE N d=>?_;have hb:=d.below lr;exact⟨_,V.grown w N,J,hb,Vext.grown hV hb,.inl ⟨z,J⟩⟩};have z:cY g=true:=cU h;clear h;have hf:=dE z;have hz:=gC z;(have ht:dw g=eO g+g.blocks*g.per:=by rw[dw,ZW z]);have au:=uk g (eQ g) (eB 0).1 g.slots.toNat;have t:=λsv cv kv=>XG z sv cv kv;(have y:iS (fG g (eQ g) (eB 0).1 g.slots.toNat)=true:=by rw[y8];intro x hx;have:=A8 (wT g) (xf 0) _ x hx;omega);have ac:=λ(M:Z6) (p:V.le (vw M))=>Jr V g ok z yf M p;generalize fG g (eQ g) (eB 0).1 g.slots.toNat=T at*;obtain⟨n,hn⟩:∃n:Nat,g.nodes=n:=⟨g.nodes.toNat,om⟩;have ap:g.nodes.toNat=n:=om;rw[ap]at t;refine eR (λx V'=>∃V2:Vw,V2.le V'/\V.le V2/\(∀k o,V2.get k=some o->V.get k=some o\/w.heap.size<=k)/\ ∃a n c,x=.tuple #[.slice a n c,I 0]/\SlOf V2 da 1 (.slice a n c) T) J (λhg E M d=>(ac _ (hV.trans d.leV)).mono λe N h=>jK (d.below lr).size hV d.leV h) ?_;rintro x W0 B hx;obtain⟨Z,W,a7,ah,a,m,c,rfl,ab⟩:=hx J;clear hx;have L:=λ(M:Z6) (p:Z.le (vw M))=>Fu Z n a m c T M p ab om om om om y;rw[<-hn]at L;refine zA J<|eR (λx V'=>∃V2:Vw,V2.le V'/\Z.le V2/\(∀k o,V2.get k=some o->Z.get k=some o\/w.heap.size<=k)/\ ∃v,x=.tuple #[v,I 0]/\vI T n v V2) J (λhg E M d=>(L _ (W.trans d.leV)).mono λe N h=>jK (d.below B).size W d.leV h) ?_;rintro x2 W2 R O;obtain⟨Z2,a6,ad,Y,v,rfl,b2,m2,e2,b3,m3,e3,b4,m4,e4,rfl,a9⟩:=O J;clear O;refine zA J<|Qs J<|zA J<|Qs J<|zA J<|mV 3 13 131 64 J J<|zL [1,2,7,8] [0,1,3,4] J J (σ:=Nat) (λi=>[(9,.a (.v (I i)))]) (λi=>[(0,.lit (g.cells.map .v) 23),(1,.lit [.v (I 0),.v (I 0),.v (I 0),.v (I 0),.v (I 0),.v (I 0),.v (I 0),.v (I 0),.v cz,.v cz,.v cz,.v (I 0),.v cz,.v cz,.v cz] 33),(3,.lit [.v (I g.nodes),.v (I g.slots),.v (I g.blocks),.v (I g.per),.v (I g.journal),.v (I g.log),.v (I g.lease),.v (I g.wait),.v (.slice b2 m2 e2),.v (.slice b3 m3 e3),.v (.slice b4 m4 e4),.v (I 1),.v cz,.row 4,.v cz] 33),(4,.row 131 64 (lZ i).length ((lZ i).flatMap iQ))]) (λi=>i<=n) (λi=>n - i) (0) om ?_;rintro i hi;refine dD J ?_ ?_<;>intro h;{have af:IntKind.i64.wrap ((i:Int)+1)=((i+1:Nat):Int):=cx om om;have ax:=xm i;refine QZ J (cX aJ 64 J J J) λ_ _=>QZ J (cQ aJ (mu (i:Int)) J (λE w d=>dZ (d.row _ _ _ _ _ J)) (λ_ _ _=>(by intro u hu;exact S2 i u hu)) od) λ_ _=>?_;refine zA J<|Qs J<|zA J ?_;rw[Wy,af,show(lZ i).length+1=(lZ (i+1)).length by rw[xm,xm]];refine dx 4 6 J<|Qr (i+1) om};refine Qs J<|zA J<|cL aJ J ?_;have al:i=n:=om;subst al;intro E' N d _;have p:=B.trans R;have X:=d.below p;have r4:=d.rowFresh p (l:=4) J;have s4:SlOf (V.grown w N) iQ 64 (E'.κ 4) (lZ i):=SlOf.grown V r4 cw;have a8:=wt hV (a7.trans ad) (a6.trans d.leV) (λk o hk=>(Y k o hk).elim (ah k o) .inr);have ⟨q4,u4,t4,hk4⟩:=cD s4.sl;rw[hk4]at s4;refine⟨_,V.grown w N,J,X,Vext.grown hV X,.inr ⟨z,Cc g (ek T i (.slice b2 m2 e2) (.slice b3 m3 e3) (.slice b4 m4 e4)) (.slice q4 u4 t4) cz,by rw[<-hk4];rfl,ek T i (.slice b2 m2 e2) (.slice b3 m3 e3) (.slice b4 m4 e4),.slice q4 u4 t4,cz,lZ i,[],J,a9.mono a8,t _ _ _,s4,by rw[xm];omega,λf hf=>?_,jY _ _ _ _ cw,ZS _⟩⟩;obtain⟨j,hj,rfl⟩:=Y6.1 hf;rw[HV];exact U5 g ⟨om,by have:=YC.1 hj;omega⟩
structure SD where
 a1:Option Addr
 n1:Nat
 c1:Nat
 a2:Option Addr
 n2:Nat
 c2:Nat
 a3:Option Addr
 n3:Nat
 c3:Nat
 nx:Int
 a4:Option Addr
 n4:Nat
 c4:Nat
 S:List ByteArray
 D:List (Sl Cell)
 K:List Int
 F:List Int
abbrev SD.dev(s:SD):Device:=⟨⟨.slice s.a1 s.n1 s.c1,s.S⟩,⟨.slice s.a2 s.n2 s.c2,s.D⟩,⟨.slice s.a3 s.n3 s.c3,s.K⟩,s.nx,⟨.slice s.a4 s.n4 s.c4,s.F⟩⟩
theorem xt{V:Vw}{d:Device}(h:DevIn V d):∃s:SD,d=s.dev:=by obtain⟨⟨m,S⟩,⟨l,D⟩,⟨o,K⟩,nx,⟨p,F⟩⟩:=d;obtain⟨a1,n1,c1,rfl⟩:=cD h.s.sl;obtain⟨a2,n2,c2,rfl⟩:=cD h.cache.sl;obtain⟨a3,n3,c3,rfl⟩:=cD h.keys.sl;obtain⟨a4,n4,c4,rfl⟩:=cD h.fenced.sl;exact⟨⟨a1,n1,c1,a2,n2,c2,a3,n3,c3,nx,a4,n4,c4,S,D,K,F⟩,J⟩
abbrev wV(g:Geo)(s:SD)(na:Z4 Addr)(nn nc:Nat)(la:Z4 Addr)(ln lc:Nat):Z7:=.agg #[I g.nodes,I g.slots,I g.blocks,I g.per,I g.journal,I g.log,I g.lease,I g.wait,.slice s.a1 s.n1 s.c1,.slice s.a2 s.n2 s.c2,.slice s.a3 s.n3 s.c3,I s.nx,.slice s.a4 s.n4 s.c4,.slice na nn nc,.slice la ln lc]
theorem WJ.shape{g:Geo}{k:Nat}{l:k<250}{V:Vw}{x:Z7}(h:WJ g k l V x):∃s na nn nc la ln lc N E,x=wV g s na nn nc la ln lc/\WIn g k l V s.dev (.slice na nn nc) (.slice la ln lc) N E:=by
 obtain⟨d,m,o,N,E,rfl,h⟩:=h;obtain⟨s,rfl⟩:=xt h.di;obtain⟨na,nn,nc,rfl⟩:=cD h.ns.sl;obtain⟨la,ln,lc,rfl⟩:=cD h.ls.sl
 grind
def NS:Z8 CP:=[qI,qI]++qV++[.bool]++dR
theorem vE(e:Event):∀u∈e.cells,u.oneCell'=true:=by intro u d;simp at d;rcases d with rfl|rfl|rfl|rfl|rfl|rfl|rfl|rfl|rfl|rfl|rfl|rfl|rfl|rfl<;>rfl
theorem Sz(l:Z8 Event):∀u∈l.flatMap Event.cells,u.oneCell'=true:=by intro u d;have ⟨e,_,d⟩:=YW.1 d;exact vE e u d
theorem oz(l:Z8 Event)(e:Event):l.length+1=(l++[e]).length/\l.flatMap Event.cells++e.cells=(l++[e]).flatMap Event.cells:=by simp
theorem Xs{Φ:Go.Eng.Facts}{V:Vw}{N:Z8 (Nat->Z7)}(h:∀f∈N,cT (CP.den Φ V) ed (iQ f)):∀u∈N.flatMap iQ,u.oneCell'=true:=by
 intro u d;have ⟨f,hf,d⟩:=YW.1 d
 have key:∀{l:Z8 CP} {xs:Z8 Z7},cT (CP.den Φ V) l xs-> ∀u∈xs,u.oneCell'=true:=by
  intro l
  induction l with
  |nil=>intro xs h u d;cases xs with
   |nil=>cases d
   |cons x r=>exact h.elim
  |cons c r ih=>intro xs h u d;cases xs with
   |nil=>cases d
   |cons x s=>
    rcases Zg.1 d with rfl|d
    . exact CP.one h.1
    . exact ih h.2 u d
 grind
theorem lG{α β:Type}{R:α->β->Prop}{a:α}{r:Z8 α}:∀{xs:Z8 β},cT R (a::r) xs-> ∃x t,xs=x::t/\R a x/\cT R r t
 |x::t,h=>⟨x,t,J,h.1,h.2⟩
 |[],h=>h.elim
theorem RS{α β:Type}{R:α->β->Prop}:∀{xs:Z8 β},cT R [] xs->xs=[]
 |[],_=>rfl
 |_::_,h=>h.elim
def BN(Φ:Go.Eng.Facts):Z8 CP->Z8 CP->Bool
 |[],[]=>true
 |a::r,b::s=>a.le Φ b&&BN Φ r s
 |_,_=>false
theorem Je{Φ:Go.Eng.Facts}{V:Vw}:∀{l m:Z8 CP} {xs:Z8 Z7},BN Φ l m=true->cT (CP.den Φ V) l xs->cT (CP.den Φ V) m xs
 |[],[],[],_,_=>trivial
 |a::r,b::s,x::xs,h,ha=>by
  simp only[BN,Z1]at h
  exact⟨CP.le_ok h.1 ha.1,Je h.2 ha.2⟩
 |[],_::_,_,h,_=>by cases h
 |_::_,[],_,h,_=>by cases h
 |[],[],_::_,_,ha=>ha.elim
 |_::_,_::_,[],_,ha=>ha.elim
section
variable(g:Geo)(ok:g.Ok)(k:Nat)(hk:k<250)
theorem RR{V:Vw}{xs:Z8 Z7}(h:cT (CP.den (FW g k hk) V) ed xs):cT (CP.den (FW g k hk) V) dj xs:=Je kr h
theorem Ex{n:Int}(d:cK n){V:Vw}:cT (CP.den (FW g k hk) V) ed (mu n):=by have h:cT (CP.den (FW g k hk) V) ed (mu 0):=Ci kr;exact⟨dI d,h.2⟩
include ok in
theorem L7:dJ (FW g k hk) bJ ⟨63,[.agg dj,.one .bool,.agg dR],[.agg NS]⟩:=
 (xC aJ mixed 800 (FN 63) Tryz.func63 J (z9 g ok k hk) kr:kA (FW g k hk) bJ (_::Ic)).1
include ok in
theorem y5{V W:Vw}{w:Z6}{xs ys:Z8 Z7}{b:Bool}(hV:V.le W)(Y:W.le (vw w))(hN:cT (CP.den (FW g k hk) V) dj xs)(hA:cT (CP.den (FW g k hk) V) dR ys): kD 63 #[.agg xs.toArray,.bool b,.agg ys.toArray] w W λv V'=>∃ev:Event,v=ev.val:=by refine(DN (L7 g ok k hk) (vals:=[_,_,_]) hV Y ⟨⟨xs,J,hN⟩,⟨b,J⟩,⟨ys,J,hA⟩,ZY⟩).mono ?_;rintro e w' ⟨v,V',rfl,T,hx,Z,rs,p,rfl⟩;obtain⟨_,rfl,zs,rfl,d⟩:=ir p;refine⟨_,V',J,T,hx,?_⟩;obtain⟨x0,t0,rfl,M,d⟩:=lG d;obtain⟨x1,t1,rfl,q1,d⟩:=lG d;obtain⟨x2,t2,rfl,q2,d⟩:=lG d;obtain⟨x3,t3,rfl,q3,d⟩:=lG d;obtain⟨x4,t4,rfl,q4,d⟩:=lG d;obtain⟨x5,t5,rfl,q5,d⟩:=lG d;obtain⟨x6,t6,rfl,q6,d⟩:=lG d;obtain⟨x7,t7,rfl,O,d⟩:=lG d;obtain⟨x8,t8,rfl,m,d⟩:=lG d;obtain⟨x9,t9,rfl,L,d⟩:=lG d;obtain⟨am,X,rfl,E,d⟩:=lG d;obtain⟨N,ak,rfl,u,d⟩:=lG d;obtain⟨ac,ag,rfl,t,d⟩:=lG d;obtain⟨ah,aa,rfl,o,d⟩:=lG d;obtain rfl:=RS d;obtain⟨n0,rfl,_⟩:=M;obtain⟨n1,rfl,_⟩:=q1;obtain⟨n2,rfl,_⟩:=q2;obtain⟨n3,rfl,_⟩:=q3;obtain⟨n4,rfl,_⟩:=q4;obtain⟨R,rfl,_⟩:=q5;obtain⟨n6,rfl,_⟩:=q6;obtain⟨n7,rfl,_⟩:=O;obtain⟨n8,rfl,_⟩:=m;obtain⟨n9,rfl,_⟩:=L;obtain⟨l,rfl⟩:=E;obtain⟨y,rfl,_⟩:=u;obtain⟨z,rfl,_⟩:=t;obtain⟨B,rfl⟩:=o;exact⟨⟨n0,n1,n2,n3,n4,R,n6,n7,n8,n9,l,y,z,B⟩,J⟩
theorem HR{V:Vw}{v:Z7}(h:PT.den (FW g k hk) V (.opq 3 j0) v):∃s:SD,v=fD s.a1 s.n1 s.c1 s.a2 s.n2 s.c2 s.a3 s.n3 s.c3 s.nx s.a4 s.n4 s.c4/\DevIn V s.dev/\DevG g (k+1) s.dev:=by
 obtain⟨xs,rfl,_,d,rfl,l,m⟩:=h;obtain⟨s,rfl⟩:=xt l
 grind
theorem DS{V:Vw}{v:Z7}(h:PT.den (FW g k hk) V (.agg dj) v):∃f:Nat->Z7,v=.agg #[f 0,f 1,f 2,f 3,f 4,f 5,f 6,f 7,f 8,f 9,f 10,f 11,f 12,f 13,f 14,f 15,f 16,f 17,f 18,f 19,f 20,f 21,f 22,f 23,f 24,f 25,f 26,f 27,f 28,f 29,f 30,f 31,f 32,f 33,f 34,f 35,f 36,f 37,f 38,f 39,f 40,f 41,f 42,f 43,f 44,f 45,f 46,f 47,f 48,f 49,f 50,f 51,f 52,f 53,f 54,f 55,f 56,f 57,f 58,f 59,f 60,f 61,f 62,f 63]/\cT (CP.den (FW g k hk) V) dj (iQ f):=by obtain⟨xs,rfl,h⟩:=h;have d:=Bs (xs:=xs) (h.len.symm.trans J);exact⟨λi=>xs.getD i undef,Y5 (λl=>Value.agg (List.toArray l)) d,(Y5 (λl=>cT (CP.den (FW g k hk) V) dj l) d).mp h⟩
theorem Et{V:Vw}{v:Z7}(h:PT.den (FW g k hk) V (.agg dR) v):∃e s b,v=.agg #[I e,S s,.bool b]/\cT (CP.den (FW g k hk) V) dR [I e,S s,.bool b]:=by
 obtain⟨xs,rfl,h⟩:=h;obtain⟨_,_,_,rfl,l,d,m⟩:=j2 h;obtain⟨e,rfl,o⟩:=l;obtain⟨s,rfl,p⟩:=d;obtain⟨b,rfl⟩:=m
 grind
theorem Eh{V:Vw}{v:Z7}(h:PT.den (FW g k hk) V (.one .bool) v):∃b,v=.bool b:=h
theorem G5{V:Vw}{s:SD}(h:DevIn V s.dev)(d:DevG g k s.dev)(l:cK s.nx):PT.den (FW g k hk) V (.opq 2 j0) s.dev.val:=
 ⟨s.dev.cells,J,⟨⟨_,s.S.length,_,by have:s.S.length<=maxLen:=h.sn;simp only[maxLen]at this;omega,h.s.sl⟩,⟨_,s.D.length,_,by have:s.D.length<=maxLen:=h.cn;simp only[maxLen]at this;omega,h.cache.sl⟩,⟨_,s.K.length,_,by have:s.K.length<=maxLen:=h.kn;simp only[maxLen]at this;omega,h.keys.sl⟩,dI l,⟨_,s.F.length,_,by have:s.F.length<=maxLen:=h.fn;simp only[maxLen]at this;omega,h.fenced.sl⟩,ZY⟩,s.dev,J,h,d⟩
end
theorem QU{g:Geo}{k:Nat}{d:Device}(h:DevG g k d):cK d.next_:=by have:=h.lists;have l:=this.n1;have m:=this.n2;unfold cK;omega
def J9(g:Geo)(k:Nat)(hk':k+1<250)(V:Vw)(w:Z6)(e:Ending)(w':Z6):Prop:=
 ∃v V',e=.returned v/\cH w w'/\Vext w.heap.size V V' w'/\ ∃s na nn nc la ln lc err,v=.tuple #[wV g s na nn nc la ln lc,I err]/\(err=0->WJ g (k+1) hk' V' (wV g s na nn nc la ln lc))
theorem xG{g:Geo}{k:Nat}{d:k+1<250}{V:Vw}{w l:Z6}{s:SD}{na:Z4 Addr}{nn nc:Nat}{la:Z4 Addr}{ln lc:Nat}{err:Int}(hV:V.le (vw w))(m:cH w l)(o:err≠0):J9 g k d V w (.returned (.tuple #[wV g s na nn nc la ln lc,I err])) l:=
 ⟨_,V.grown w l,J,m,Vext.grown hV m,s,na,nn,nc,la,ln,lc,err,J,λh=>absurd h o⟩
def SO(g:Geo)(k:Nat)(hk':k+1<250)(V:Vw)(w:Z6)(xs:Z8 Z7)(s':SD)(la:Z4 Addr)(ln lc:Nat)(W:Vw):Prop:=
 (vw w).le W/\DevIn (V.up W w.heap.size) s'.dev/\DevG g (k+1) s'.dev/\cT (CP.den (FW g (k+1) hk') (V.up W w.heap.size)) ed xs/\ ∃E':Z8 Event,SlOf (V.up W w.heap.size) Event.cells 14 (.slice la ln lc) E'/\E'.length<=2*(k+1)
theorem Mo(n:Int):cK (min (IntKind.i64.wrap n) 1099511627776):=by have:=kK.1 (ng .i64 n);unfold cK at*;omega
theorem Oe(a b c:Z7):eY [a,b,c]=.tuple #[a,b,c]:=rfl
theorem Fk(a b c d:Z7):eY [a,b,c,d]=.tuple #[a,b,c,d]:=rfl
theorem yA{Φ:Go.Eng.Facts}{V:Vw}{f:Nat->Z7}{l p w t m y o u:Z7}(h:cT (CP.den Φ V) dj (iQ f))(d:cT (CP.den Φ V) qV [l,p,w,t,m,y,o,u]):
  cT (CP.den Φ V) dj [f 0,f 1,f 2,f 3,f 4,f 5,f 6,f 7,f 8,f 9,f 10,f 11,f 12,f 13,f 14,f 15,f 16,f 17,f 18,f 19,f 20,f 21,f 22,l,p,w,t,m,y,o,u,f 31,f 32,f 33,f 34,f 35,f 36,f 37,f 38,f 39,f 40,f 41,f 42,f 43,f 44,f 45,f 46,f 47,f 48,f 49,f 50,f 51,f 52,f 53,f 54,f 55,f 56,f 57,f 58,f 59,f 60,f 61,f 62,f 63]:=
 eH (i:=30) (eH (i:=29) (eH (i:=28) (eH (i:=27) (eH (i:=26) (eH (i:=25) (eH (i:=24) (eH (i:=23) h J d.1) J d.2.1) J d.2.2.1) J d.2.2.2.1) J d.2.2.2.2.1) J d.2.2.2.2.2.1) J d.2.2.2.2.2.2.1) J d.2.2.2.2.2.2.2.1
theorem O7{Φ:Go.Eng.Facts}{V:Vw}{l:Z8 CP}{xs:Z8 Z7}(h:cT (CP.den Φ V) l xs):∀u∈xs,u.oneCell'=true:=by
 induction l generalizing xs with
 |nil=>intro u d;cases xs with
  |nil=>cases d
  |cons x r=>exact h.elim
 |cons c r ih=>intro u d;cases xs with
  |nil=>cases d
  |cons x s=>
   rcases Zg.1 d with rfl|d
   . exact CP.one h.1
   . exact ih h.2 u d
theorem Ee{α β:Type}{R:α->β->Prop}:∀(n:Nat) {l:Z8 α} {xs:Z8 β},cT R l xs->cT R (l.drop n) (xs.drop n)
 |0,_,_,h=>h
 |n+1,_::_,_::_,h=>Ee n h.2
 |_+1,[],[],_=>trivial
 |_+1,[],_::_,h=>h.elim
 |_+1,_::_,[],h=>h.elim
theorem In{α β:Type}{R:α->β->Prop}:∀(n:Nat) {l:Z8 α} {xs:Z8 β},cT R l xs->cT R (l.take n) (xs.take n)
 |0,_,_,_=>trivial
 |n+1,_::_,_::_,h=>⟨h.1,In n h.2⟩
 |_+1,[],[],_=>trivial
 |_+1,[],_::_,h=>h.elim
 |_+1,_::_,[],h=>h.elim
theorem B6{Φ:Go.Eng.Facts}{V:Vw}{f:Nat->Z7}(h:cT (CP.den Φ V) dj (iQ f)):cT (CP.den Φ V) qV [f 23,f 24,f 25,f 26,f 27,f 28,f 29,f 30]:=In 8 (Ee 23 h)
theorem SL{g:Geo}{k:Nat}{V:Vw}{v:Z7}{S:Z8 Z5}{C:Z8 (Z8 Cell)}{K:Z8 Int}{nx:Int}{F:Z8 Int}(h:wz V v S C K nx F)(l:DGL g k S C K nx F):∃s:SD,v=fD s.a1 s.n1 s.c1 s.a2 s.n2 s.c2 s.a3 s.n3 s.c3 s.nx s.a4 s.n4 s.c4/\DevIn V s.dev/\DevG g k s.dev:=by obtain⟨d,rfl,hd,rfl,rfl,rfl,rfl,rfl⟩:=h;obtain⟨s,rfl⟩:=xt hd;exact⟨s,J,hd,l.dev⟩
theorem Pf(V:Vw)(g:Geo)(ok:g.Ok)(s:SD)(na:Z4 Addr)(nn nc:Nat)(la:Z4 Addr)(ln lc:Nat)(N:Z8 (Nat->Z7))(d:∀f∈N,∃n,f 0=I n)(w:Z6)(hV:V.le (vw w))(hd:DevIn V s.dev)(l:SlOf V iQ 64 (.slice na nn nc) N)(t:N.length<=16): kD 61 #[wV g s na nn nc la ln lc] w V λv V'=>∃r,v=I r/\(r=0\/r=2):=by refine(PH V g ok s.dev _ _ N d w hV hd l t ⟨la,ln,lc,J⟩).mono ?_;rintro e o ⟨⟨r,rfl,p⟩,m⟩;exact⟨_,V.grown w o,J,m,Vext.grown hV m,r,J,p⟩
theorem F8{g:Geo}{k f:Nat}{args:Array Z7}{Z W:Vw}{w0 d:Z6}(m:w0.heap.size<=d.heap.size)(B:Z.le W)(o:W.le (vw d))(h:Cl f args d (zn g k Z d)): Cl f args d λe w'=>∃v V',e=.returned v/\cH d w'/\Vext d.heap.size W V' w'/\ ∃Z':Vw,Z'.le V'/\Z.le Z'/\(∀k ob,Z'.get k=some ob->Z.get k=some ob\/w0.heap.size<=k)/\ ∃s:SD,∃err,v=.tuple #[fD s.a1 s.n1 s.c1 s.a2 s.n2 s.c2 s.a3 s.n3 s.c3 s.nx s.a4 s.n4 s.c4,I err]/\DevIn Z' s.dev/\DevG g k s.dev:=by refine h.mono λe w' p=>jK (Φ:=λv y=>∃s:SD,∃err,v=.tuple #[fD s.a1 s.n1 s.c1 s.a2 s.n2 s.c2 s.a3 s.n3 s.c3 s.nx s.a4 s.n4 s.c4,I err]/\DevIn y s.dev/\DevG g k s.dev) m B o ?_;obtain⟨v,V',rfl,u,l,L,err,S,C,K,nx,F,rfl,z,t,M⟩:=p;obtain⟨s,rfl,E,w⟩:=SL z t;exact⟨_,V',J,u,l,s,err,J,E,w⟩
set_option maxHeartbeats 16000000 in
theorem Uu(g:Geo)(ok:g.Ok)(k:Nat)(hk:k<250)(aH:k+1<250)(V:Vw)(s:SD)(na:Z4 Addr)(nn nc:Nat)(la:Z4 Addr)(ln lc:Nat)(N:Z8 (Nat->Z7))(E:Z8 Event)(t:Turn)(w:Z6)(hV:V.le (vw w))(h:WIn g k hk V s.dev (.slice na nn nc) (.slice la ln lc) N E)(ht:t.Ok)(aG:t.text.size<=5000): Cl 33 #[wV g s na nn nc la ln lc,t.val] w (J9 g k aH V w):=by
 obtain⟨aM,ah,bw,bT,aN,bK,cF⟩:=h;obtain⟨tk,tn,tp,p0,p1,p2,p3,p4,p5,p6,p7⟩:=t;obtain⟨-, -, -,r0,r1,r2,r3,r4, -,r6,r7⟩:=ht;dsimp only at aG r0 r1 r2 r3 r4 r6 r7;have bQ:=bw.mono hV;have ct:=bK.mono hV;have bE:=QU ah;(have bz:∀f∈N,∃n,f 0=I n:=λf hf=>by obtain⟨_,q0,w0⟩:=(aN f hf).at (i:=0) J;cases q0;obtain⟨n,e,_⟩:=cI w0;exact⟨n,e⟩);have bi:=px (z9 g ok k hk) 62 (s:=⟨62,[.opq 0 df,.opq 2 j0,.agg ed],[.opq 3 j0,.agg dj,.agg dR,.one .bool]⟩) kr;have bn:=px (z9 g ok k hk) 64 (s:=⟨64,[.opq 0 df,.opq 2 j0,.agg ed],[.opq 3 j0,.agg dj,.one (.int .i64)]⟩) kr;have be:=px (z9 g ok k hk) 67 (s:=⟨67,[.opq 0 df,.agg ed,.agg qV],[.agg dj,.agg dR,.one .bool,.one (.int .i64)]⟩) kr;refine dC [.a (.v (.agg #[I g.nodes,I g.slots,I g.blocks,I g.per,I g.journal,I g.log,I g.lease,I g.wait,.slice s.a1 s.n1 s.c1,.slice s.a2 s.n2 s.c2,.slice s.a3 s.n3 s.c3,I s.nx,.slice s.a4 s.n4 s.c4,.slice na nn nc,.slice la ln lc])),.a (.v (.agg #[I8 tk,I tn,.int .u64 tp,I8 p0,I p1,I p2,I8 p3,I p4,.string p5,I p6,I p7]))] J ?_;refine eR (λv V'=>∃r,v=I r/\(r=0\/r=2)) J (λhg E w1 T=>Pf (vw w) g ok s na nn nc la ln lc N bz _ T.leV (aM.mono hV) bQ bT) ?_;rintro y W0 o hy;obtain⟨r,rfl,hr⟩:=hy J;clear hy;have aL:=bQ.mono o;have cg:=ct.mono o;refine zA J<|QY J (yN J aL)<|cJ J ?_ ?_<;>intro h;{clear h;refine Qs J<|zA J<|Qb J λE' w' T=>?_;exact xG hV (T.below o) dc};have hc:0<=tn/\tn<N.length:=om;clear h;obtain⟨cR,cP⟩:=hc;obtain⟨q,rfl⟩:∃q:Nat,tn=q:=⟨tn.toNat,om⟩;obtain⟨f,hf⟩:=fk (L:=N) (k:=q) om;have a5:=aN f (ZZ hf);obtain⟨af,co,az⟩:=cI (lI a5 0);obtain⟨ag,cq,aB⟩:=cI (lI a5 1);obtain⟨up,cl⟩:=lI a5 2;obtain⟨ae,cf,bW⟩:=cI (lI a5 3);obtain⟨key,ce,cu⟩:=cI (lI a5 4);obtain⟨ad,bC⟩:=lI a5 22;obtain⟨o0,bx,b6⟩:=oh (lI a5 23);obtain⟨o1,bu,b3⟩:=cI (lI a5 24);obtain⟨o2,bG,b7⟩:=cI (lI a5 25);obtain⟨o3,bP,aZ⟩:=oh (lI a5 26);obtain⟨o4,bD,b4⟩:=cI (lI a5 27);obtain⟨o5,bH,b5⟩:=lI a5 28;obtain⟨o6,bU,aY⟩:=cI (lI a5 29);obtain⟨o7,bN,b2⟩:=cI (lI a5 30);(have bS:iQ f=[I af,I ag,Value.bool up,I ae,I key,f 5,f 6,f 7,f 8,f 9,f 10,f 11,f 12,f 13,f 14,f 15,f 16,f 17,f 18,f 19,f 20,f 21,Value.bool ad,I8 o0,I o1,I o2,I8 o3,I o4,S o5,I o6,I o7,f 31,f 32,f 33,f 34,f 35,f 36,f 37,f 38,f 39,f 40,f 41,f 42,f 43,f 44,f 45,f 46,f 47,f 48,f 49,f 50,f 51,f 52,f 53,f 54,f 55,f 56,f 57,f 58,f 59,f 60,f 61,f 62,f 63]:=by show [f 0,f 1,f 2,f 3,f 4,f 5,f 6,f 7,f 8,f 9,f 10,f 11,f 12,f 13,f 14,f 15,f 16,f 17,f 18,f 19,f 20,f 21,f 22,f 23,f 24,f 25,f 26,f 27,f 28,f 29,f 30,f 31,f 32,f 33,f 34,f 35,f 36,f 37,f 38,f 39,f 40,f 41,f 42,f 43,f 44,f 45,f 46,f 47,f 48,f 49,f 50,f 51,f 52,f 53,f 54,f 55,f 56,f 57,f 58,f 59,f 60,f 61,f 62,f 63]=_;rw[co,cq,cl,cf,ce,bC,bx,bu,bG,bP,bD,bH,bU,bN]);rw[bS]at a5;have a8:=eV hV o;have aW:=a5.imp λ_ _=>CP.den_mono a8.vz;have ar:=aM.mono a8.vz;refine QY J (yI J aL)<|QY J (dy (s:=.agg [.v (I af),.v (I ag),.v (Value.bool up),.v (I ae),.v (I key),.v (f 5),.v (f 6),.v (f 7),.v (f 8),.v (f 9),.v (f 10),.v (f 11),.v (f 12),.v (f 13),.v (f 14),.v (f 15),.v (f 16),.v (f 17),.v (f 18),.v (f 19),.v (f 20),.v (f 21),.v (Value.bool ad),.v (I8 o0),.v (I o1),.v (I o2),.v (I8 o3),.v (I o4),.v (S o5),.v (I o6),.v (I o7),.v (f 31),.v (f 32),.v (f 33),.v (f 34),.v (f 35),.v (f 36),.v (f 37),.v (f 38),.v (f 39),.v (f 40),.v (f 41),.v (f 42),.v (f 43),.v (f 44),.v (f 45),.v (f 46),.v (f 47),.v (f 48),.v (f 49),.v (f 50),.v (f 51),.v (f 52),.v (f 53),.v (f 54),.v (f 55),.v (f 56),.v (f 57),.v (f 58),.v (f 59),.v (f 60),.v (f 61),.v (f 62),.v (f 63)]) (enc:=iQ) (l:=N) aJ q 0 f J (λhg=>aL) (λhg=>hf) J (by rw[bS];rfl)) ?_;refine zA J<|fw aJ J J J fZ ?_;refine cJ J ?_ ?_<;>intro h;{clear h;refine fw aJ J J J fZ ?_;refine zA J<|Qb J λE' w' T=>?_;exact xG hV (T.below o) dc};clear h;refine fw aJ J J J fZ ?_;refine zA J<|QZ J (cX aJ 64 J J J) λ_ _=>zA J<|QZ J (cQ (e:=131) (sz:=64) (by_:=720) (m:=0) (k:=N.length) (olds:=[]) aJ (N.flatMap iQ) J (λE w1 T=>aL.sl.src T.get) (λ_ _ _=>Xs aN) om) λ_ _=>zA J<|fw aJ J J J fZ ?_;refine zA J<|QZ J (cX aJ 14 J J J) λ_ _=>zA J<|QZ J (cQ (e:=172) (sz:=14) (by_:=128) (m:=0) (k:=E.length) (olds:=[]) aJ (E.flatMap Event.cells) J (λE w1 T=>cg.sl.src T.get) (λ_ _ _=>Sz E) om) λ_ _=>zA J<|fw aJ J J J fZ ?_;refine zA J<|fw aJ J J J fZ ?_;refine du [2,3,4,6,7,8] J<|Qw ?_;rw[Zo N.length,Zo E.length,ZB,ZB];refine LU (σ:=Z8 Z7×SD×Z4 Addr×Nat×Nat×Vw) (λ(xs,p,O,M,R,W)=>[(3,.a (.ptr 1 0)),(4,.a (.ptr 2 0)),(7,.a (.ptr 4 0)),(8,.a (.ptr 9 0))]) (λ(xs,p,O,M,R,W)=>[(1,.lit [.v (I8 tk),.v (I (q:Int)),.v (.int .u64 tp),.v (I8 p0),.v (I p1),.v (I p2),.v (I8 p3),.v (I p4),.v (.string p5),.v (I p6),.v (I p7)] 106),(2,.lit [.v (I 0),.v (I 0),.v (I 0),.v (I 0),.v (I 0),.v (I 0),.v (I 0),.v (I 0),.v cz,.v cz,.v cz,.v (I 0),.v cz,.v cz,.v cz] 33),(4,.lit ([.v (I g.nodes),.v (I g.slots),.v (I g.blocks),.v (I g.per),.v (I g.journal),.v (I g.log),.v (I g.lease),.v (I g.wait),.v (.slice p.a1 p.n1 p.c1),.v (.slice p.a2 p.n2 p.c2),.v (.slice p.a3 p.n3 p.c3),.v (I p.nx),.v (.slice p.a4 p.n4 p.c4)]++[.row 6,.v (.slice O M R)]) 33),(6,.row 131 64 N.length (N.flatMap iQ)),(9,.lit (xs.map .v) 131)]) (60) (λ(xs,p,O,M,R,W)=>W) (λ(xs,p,O,M,R,W)=>SO g k aH V w xs p O M R W) ?_ ?_
 .refine JO J ?_ ?_<;>intro h;{clear h;refine QY J (mO J)<|zA J<|fw aJ J J J fZ ?_;refine zA J<|kw 8 J λlv Wf u B hn=>?_;obtain⟨O,M,R,rfl⟩:=cD B;exact Qm (([I af,I (min (IntKind.i64.wrap (ag+1)) 1099511627776),Value.bool up,I ae,I key,f 5,f 6,f 7,f 8,f 9,f 10,f 11,f 12,f 13,f 14,f 15,f 16,f 17,f 18,f 19,f 20,f 21,Value.bool ad,I8 o0,I o1,I o2,I8 o3,I o4,S o5,I o6,I o7,f 31,f 32,f 33,f 34,f 35,f 36,f 37,f 38,f 39,f 40,f 41,f 42,f 43,f 44,f 45,f 46,f 47,f 48,f 49,f 50,f 51,f 52,f 53,f 54,f 55,f 56,f 57,f 58,f 59,f 60,f 61,f 62,f 63],s,O,M,R,Wf)) (⟨(o).trans u,aM.mono (eV hV (o.trans u)).vz,ah.up om,xO (eH (i:=1) (a5.imp λ_ _=>CP.den_mono (eV hV (o.trans u)).vz) J (dI (Mo _))),E,⟨lP B (λq hq=>l8 (o) (hn q hq)),cw⟩,om⟩) (hV:=by repeat (first|exact lr|assumption|(refine Vw.le.trans ?_ (by assumption))))};clear h;refine dD J ?_ ?_<;>intro h
  .clear h;refine eR (λv V'=>∃Z':Vw,Z'.le V'/\(V.up W0 w.heap.size).le Z'/\(∀k ob,Z'.get k=some ob->(V.up W0 w.heap.size).get k=some ob\/w.heap.size<=k)/\ ∃rs,cT (PT.den (FW g k hk) Z') [.opq 3 j0,.agg dj,.agg dR,.one .bool] rs/\v=eY rs) J (λhg E w1 T=>sG bi (b:=w.heap.size) (vals:=[_,_,_]) a8.zw T.leV (T.below o).size ⟨dG g k hk ok,G5 g k hk ar ah bE,⟨_,J,aW⟩,ZY⟩) ?_;rintro y2 W1 z hy;obtain⟨Z,z1,z2,z3,rs,al,rfl⟩:=hy J;obtain⟨v1,v2,v3,v4,rfl,h1,h2,h3,h4⟩:=jE al;obtain⟨p,rfl,ab,ac⟩:=HR g k hk h1;obtain⟨d,rfl,a0⟩:=DS g k hk h2;obtain⟨e',a',b',rfl,bq⟩:=Et g k hk h3;obtain⟨ov,rfl⟩:=Eh g k hk h4;clear hy al h1 h2 h3 h4;rw[Fk];have hz:=a8.next z z1 z2 z3;have bc:=yA a0 ⟨j4 b6,dI b3,dI b7,j4 aZ,dI b4,dS b5,dI aY,dI b2,ZY⟩;have aE:=B6 a0;refine zA J ?_
   iterate 3 refine fw aJ J J J fZ ?_
   refine zA J<|fw aJ J J J fZ ?_;refine zA J<|fw aJ J J J (by first|exact mb a0|exact⟨ZY,ZY⟩|(repeat' first|exact ZY|exact J|apply YO);done|simp[gg,jG,lk,Value.oneCell']) ?_;refine cS J ?_ ?_<;>intro h;{clear h;refine fw aJ J J J fZ ?_;refine zA J<|gE [8] ([(4,.lit ([.v (I g.nodes),.v (I g.slots),.v (I g.blocks),.v (I g.per),.v (I g.journal),.v (I g.log),.v (I g.lease),.v (I g.wait),.v (.slice p.a1 p.n1 p.c1),.v (.slice p.a2 p.n2 p.c2),.v (.slice p.a3 p.n3 p.c3),.v (I p.nx),.v (.slice p.a4 p.n4 p.c4)]++[.row 6,.row 8]) 33),(9,.lit [.v (d 0),.v (d 1),.v (d 2),.v (d 3),.v (d 4),.v (d 5),.v (d 6),.v (d 7),.v (d 8),.v (d 9),.v (d 10),.v (d 11),.v (d 12),.v (d 13),.v (d 14),.v (d 15),.v (d 16),.v (d 17),.v (d 18),.v (d 19),.v (d 20),.v (d 21),.v (d 22),.v (I8 o0),.v (I o1),.v (I o2),.v (I8 o3),.v (I o4),.v (S o5),.v (I o6),.v (I o7),.v (d 31),.v (d 32),.v (d 33),.v (d 34),.v (d 35),.v (d 36),.v (d 37),.v (d 38),.v (d 39),.v (d 40),.v (d 41),.v (d 42),.v (d 43),.v (d 44),.v (d 45),.v (d 46),.v (d 47),.v (d 48),.v (d 49),.v (d 50),.v (d 51),.v (d 52),.v (d 53),.v (d 54),.v (d 55),.v (d 56),.v (d 57),.v (d 58),.v (d 59),.v (d 60),.v (d 61),.v (d 62),.v (d 63)] 131),(12,.lit [.v (I e'),.v (S a'),.v (.bool b')] 168)]) mixed oo kc ?_;refine QD [0,1,2,3] J<|QS<|Qo 4<|gA 4 (λv V'=>∃ev:Event,v=ev.val) J J J (FN 63) J J (λhg E w1 T=>y5 g ok k hk (V:=Z) (xs:=[d 0,d 1,d 2,d 3,d 4,d 5,d 6,d 7,d 8,d 9,d 10,d 11,d 12,d 13,d 14,d 15,d 16,d 17,d 18,d 19,d 20,d 21,d 22,I8 o0,I o1,I o2,I8 o3,I o4,S o5,I o6,I o7,d 31,d 32,d 33,d 34,d 35,d 36,d 37,d 38,d 39,d 40,d 41,d 42,d 43,d 44,d 45,d 46,d 47,d 48,d 49,d 50,d 51,d 52,d 53,d 54,d 55,d 56,d 57,d 58,d 59,d 60,d 61,d 62,d 63]) (ys:=[I e',S a',.bool b']) z1 T.leV bc bq) ?_;rintro y3 W2 X hy;obtain⟨ev,rfl⟩:=hy J;clear hy;refine Qo 5<|Qg 5 J J (cX aJ 14 J J J) λ_ _=>Qo 6<|Qg 6 J J (cQ aJ ev.cells J (λE w T=>dZ (T.row _ _ _ _ _ J)) (λ_ _ _=>vE ev) od) λ_ _=>Qx [7] J<|Qo 8<|mC 8 aJ J J J J fZ (.inl J) ?_;refine zH J<|fw aJ J J J fZ ?_;refine zA J ?_;rw[(oz E ev).1,(oz E ev).2];refine kw 14 J λlv Wf u B hn=>?_;obtain⟨O,M,R,rfl⟩:=cD B;have Y:=g7 hz hV (X.trans u);exact Qm (([d 0,d 1,d 2,d 3,d 4,d 5,d 6,d 7,d 8,d 9,d 10,d 11,d 12,d 13,d 14,d 15,d 16,d 17,d 18,d 19,d 20,d 21,d 22,d 23,d 24,d 25,d 26,d 27,d 28,d 29,d 30,d 31,d 32,d 33,d 34,d 35,d 36,d 37,d 38,d 39,d 40,d 41,d 42,d 43,d 44,d 45,d 46,d 47,d 48,d 49,d 50,d 51,d 52,d 53,d 54,d 55,d 56,d 57,d 58,d 59,d 60,d 61,d 62,d 63],p,O,M,R,Wf)) (⟨((o.trans z).trans X).trans u,ab.mono Y,ac,sZ (a0.imp λ_ _=>CP.den_mono Y),E++[ev],⟨lP B (λq hq=>l8 ((o.trans z).trans X) (hn q hq)),cw⟩,by simp;omega⟩) (hV:=by repeat (first|exact lr|assumption|(refine Vw.le.trans ?_ (by assumption))))};clear h;refine kw 8 J λlv Wf u B hn=>?_;obtain⟨O,M,R,rfl⟩:=cD B;have Y:=g7 hz hV u;exact Qm (([d 0,d 1,d 2,d 3,d 4,d 5,d 6,d 7,d 8,d 9,d 10,d 11,d 12,d 13,d 14,d 15,d 16,d 17,d 18,d 19,d 20,d 21,d 22,d 23,d 24,d 25,d 26,d 27,d 28,d 29,d 30,d 31,d 32,d 33,d 34,d 35,d 36,d 37,d 38,d 39,d 40,d 41,d 42,d 43,d 44,d 45,d 46,d 47,d 48,d 49,d 50,d 51,d 52,d 53,d 54,d 55,d 56,d 57,d 58,d 59,d 60,d 61,d 62,d 63],p,O,M,R,Wf)) (⟨(o.trans z).trans u,ab.mono Y,ac,sZ (a0.imp λ_ _=>CP.den_mono Y),E,⟨lP B (λq hq=>l8 (o.trans z) (hn q hq)),cw⟩,om⟩) (hV:=by repeat (first|exact lr|assumption|(refine Vw.le.trans ?_ (by assumption))))
  clear h;refine dD J ?_ ?_<;>intro h
  .clear h;refine eR (λv V'=>∃Z':Vw,Z'.le V'/\(V.up W0 w.heap.size).le Z'/\(∀k ob,Z'.get k=some ob->(V.up W0 w.heap.size).get k=some ob\/w.heap.size<=k)/\ ∃rs,cT (PT.den (FW g k hk) Z') [.opq 3 j0,.agg dj,.one (.int .i64)] rs/\v=eY rs) J (λhg E w1 T=>sG bn (b:=w.heap.size) (vals:=[_,_,_]) a8.zw T.leV (T.below o).size ⟨dG g k hk ok,G5 g k hk ar ah bE,⟨_,J,aW⟩,ZY⟩) ?_;rintro y2 W1 z hy;obtain⟨Z,z1,z2,z3,rs,al,rfl⟩:=hy J;obtain⟨v1,v2,v3,rfl,h1,h2,h3⟩:=j2 al;obtain⟨p,rfl,ab,ac⟩:=HR g k hk h1;obtain⟨d,rfl,a0⟩:=DS g k hk h2;obtain⟨e',rfl,cE⟩:=pI h3;clear hy al h1 h2 h3;rw[Oe];obtain⟨_,cc,cb⟩:=a0.at (i:=3) J;cases cc;obtain⟨ao,ch,cm⟩:=cI cb;obtain⟨_,bv,bA⟩:=a0.at (i:=22) J;cases bv;obtain⟨aD,bI⟩:=bA;have aP:=yA a0 ⟨j4 b6,dI b3,dI b7,j4 aZ,dI b4,dS b5,dI aY,dI b2,ZY⟩;have aE:=B6 a0;replace a0:cT (CP.den (FW g k hk) Z) dj [d 0,d 1,d 2,d 3,d 4,d 5,d 6,d 7,d 8,d 9,d 10,d 11,d 12,d 13,d 14,d 15,d 16,d 17,d 18,d 19,d 20,d 21,d 22,d 23,d 24,d 25,d 26,d 27,d 28,d 29,d 30,d 31,d 32,d 33,d 34,d 35,d 36,d 37,d 38,d 39,d 40,d 41,d 42,d 43,d 44,d 45,d 46,d 47,d 48,d 49,d 50,d 51,d 52,d 53,d 54,d 55,d 56,d 57,d 58,d 59,d 60,d 61,d 62,d 63]:=a0;rw[ch,bI]at a0 aP⊢;have hz:=a8.next z z1 z2 z3;refine zA J ?_
   iterate 2 refine fw aJ J J J fZ ?_
   refine cJ J ?_ ?_<;>intro h;{have ba:e'≠0:=h.1;clear h;refine fw aJ J J J fZ ?_;refine zA J<|Qb J λE' w' T=>?_;exact xG hV (T.below (o.trans z)) ba};clear h;refine fw aJ J J J fZ ?_;refine zA J<|fw aJ J J J fZ ?_;refine cJ J ?_ ?_<;>intro h;{clear h;refine fw aJ J J J fZ ?_;refine zA J<|gE [10] ([(4,.lit ([.v (I g.nodes),.v (I g.slots),.v (I g.blocks),.v (I g.per),.v (I g.journal),.v (I g.log),.v (I g.lease),.v (I g.wait),.v (.slice p.a1 p.n1 p.c1),.v (.slice p.a2 p.n2 p.c2),.v (.slice p.a3 p.n3 p.c3),.v (I p.nx),.v (.slice p.a4 p.n4 p.c4)]++[.row 6,.row 8]) 33),(9,.lit [.v (d 0),.v (d 1),.v (d 2),.v (I ao),.v (d 4),.v (d 5),.v (d 6),.v (d 7),.v (d 8),.v (d 9),.v (d 10),.v (d 11),.v (d 12),.v (d 13),.v (d 14),.v (d 15),.v (d 16),.v (d 17),.v (d 18),.v (d 19),.v (d 20),.v (d 21),.v (Value.bool aD),.v (I8 o0),.v (I o1),.v (I o2),.v (I8 o3),.v (I o4),.v (S o5),.v (I o6),.v (I o7),.v (d 31),.v (d 32),.v (d 33),.v (d 34),.v (d 35),.v (d 36),.v (d 37),.v (d 38),.v (d 39),.v (d 40),.v (d 41),.v (d 42),.v (d 43),.v (d 44),.v (d 45),.v (d 46),.v (d 47),.v (d 48),.v (d 49),.v (d 50),.v (d 51),.v (d 52),.v (d 53),.v (d 54),.v (d 55),.v (d 56),.v (d 57),.v (d 58),.v (d 59),.v (d 60),.v (d 61),.v (d 62),.v (d 63)] 131),(11,.lit [.v (d 0),.v (d 1),.v (d 2),.v (I ao),.v (d 4),.v (d 5),.v (d 6),.v (d 7),.v (d 8),.v (d 9),.v (d 10),.v (d 11),.v (d 12),.v (d 13),.v (d 14),.v (d 15),.v (d 16),.v (d 17),.v (d 18),.v (d 19),.v (d 20),.v (d 21),.v (Value.bool aD),.v (d 23),.v (d 24),.v (d 25),.v (d 26),.v (d 27),.v (d 28),.v (d 29),.v (d 30),.v (d 31),.v (d 32),.v (d 33),.v (d 34),.v (d 35),.v (d 36),.v (d 37),.v (d 38),.v (d 39),.v (d 40),.v (d 41),.v (d 42),.v (d 43),.v (d 44),.v (d 45),.v (d 46),.v (d 47),.v (d 48),.v (d 49),.v (d 50),.v (d 51),.v (d 52),.v (d 53),.v (d 54),.v (d 55),.v (d 56),.v (d 57),.v (d 58),.v (d 59),.v (d 60),.v (d 61),.v (d 62),.v (d 63)] 131)]) mixed oo kc ?_;refine QD [0,1,2,3,4,5] J<|QS<|Qo 6<|gA 6 (λv V'=>∃ev:Event,v=ev.val) J J J (FN 63) J J (λhg E w1 T=>y5 g ok k hk (V:=Z) (xs:=[d 0,d 1,d 2,I ao,d 4,d 5,d 6,d 7,d 8,d 9,d 10,d 11,d 12,d 13,d 14,d 15,d 16,d 17,d 18,d 19,d 20,d 21,Value.bool aD,I8 o0,I o1,I o2,I8 o3,I o4,S o5,I o6,I o7,d 31,d 32,d 33,d 34,d 35,d 36,d 37,d 38,d 39,d 40,d 41,d 42,d 43,d 44,d 45,d 46,d 47,d 48,d 49,d 50,d 51,d 52,d 53,d 54,d 55,d 56,d 57,d 58,d 59,d 60,d 61,d 62,d 63]) (ys:=[I ao,S ByteArray.empty,.bool false]) z1 T.leV aP ⟨dI cm,dS dc,dB,ZY⟩) ?_;rintro y3 W2 X hy;obtain⟨ev,rfl⟩:=hy J;clear hy;refine Qo 7<|Qg 7 J J (cX aJ 14 J J J) λ_ _=>Qo 8<|Qg 8 J J (cQ aJ ev.cells J (λE w T=>dZ (T.row _ _ _ _ _ J)) (λ_ _ _=>vE ev) od) λ_ _=>Qx [9] J<|Qo 10<|mC 10 aJ J J J J fZ (.inl J) ?_;refine zH J<|fw aJ J J J (by first|exact mb aE|exact⟨ZY,ZY⟩|(repeat' first|exact ZY|exact J|apply YO);done|simp[gg,jG,lk,Value.oneCell']) ?_;refine zA J ?_;rw[(oz E ev).1,(oz E ev).2];refine kw 13 J λlv Wf u B hn=>?_;obtain⟨O,M,R,rfl⟩:=cD B;have Y:=g7 hz hV (X.trans u);exact Qm (([d 0,d 1,d 2,I ao,d 4,d 5,d 6,d 7,d 8,d 9,d 10,d 11,d 12,d 13,d 14,d 15,d 16,d 17,d 18,d 19,d 20,d 21,Value.bool aD,d 23,d 24,d 25,d 26,d 27,d 28,d 29,d 30,d 31,d 32,d 33,d 34,d 35,d 36,d 37,d 38,d 39,d 40,d 41,d 42,d 43,d 44,d 45,d 46,d 47,d 48,d 49,d 50,d 51,d 52,d 53,d 54,d 55,d 56,d 57,d 58,d 59,d 60,d 61,d 62,d 63],p,O,M,R,Wf)) (⟨((o.trans z).trans X).trans u,ab.mono Y,ac,sZ (a0.imp λ_ _=>CP.den_mono Y),E++[ev],⟨lP B (λq hq=>l8 ((o.trans z).trans X) (hn q hq)),cw⟩,by simp;omega⟩) (hV:=by repeat (first|exact lr|assumption|(refine Vw.le.trans ?_ (by assumption))))};clear h;refine kw 8 J λlv Wf u B hn=>?_;obtain⟨O,M,R,rfl⟩:=cD B;have Y:=g7 hz hV u;exact Qm (([d 0,d 1,d 2,I ao,d 4,d 5,d 6,d 7,d 8,d 9,d 10,d 11,d 12,d 13,d 14,d 15,d 16,d 17,d 18,d 19,d 20,d 21,Value.bool aD,d 23,d 24,d 25,d 26,d 27,d 28,d 29,d 30,d 31,d 32,d 33,d 34,d 35,d 36,d 37,d 38,d 39,d 40,d 41,d 42,d 43,d 44,d 45,d 46,d 47,d 48,d 49,d 50,d 51,d 52,d 53,d 54,d 55,d 56,d 57,d 58,d 59,d 60,d 61,d 62,d 63],p,O,M,R,Wf)) (⟨(o.trans z).trans u,ab.mono Y,ac,sZ (a0.imp λ_ _=>CP.den_mono Y),E,⟨lP B (λq hq=>l8 (o.trans z) (hn q hq)),cw⟩,om⟩) (hV:=by repeat (first|exact lr|assumption|(refine Vw.le.trans ?_ (by assumption))))
  clear h;refine dD J ?_ ?_<;>intro h;{clear h;refine eR (λv V'=>∃Z':Vw,Z'.le V'/\(V.up W0 w.heap.size).le Z'/\(∀k ob,Z'.get k=some ob->(V.up W0 w.heap.size).get k=some ob\/w.heap.size<=k)/\ ∃p:SD,∃err,v=.tuple #[.agg #[.slice p.a1 p.n1 p.c1,.slice p.a2 p.n2 p.c2,.slice p.a3 p.n3 p.c3,I p.nx,.slice p.a4 p.n4 p.c4],I err]/\DevIn Z' p.dev/\DevG g k p.dev) J (λhg E w1 T=>F8 (T.below o).size a8.zw T.leV (R5 g k om (V.up W0 w.heap.size) s.dev (q:Int) tp _ (a8.zw.trans T.leV) ar ah)) ?_;rintro y2 W1 z hy;obtain⟨Z,z1,z2,z3,p,err,rfl,ab,ac⟩:=hy J;clear hy;have hz:=a8.next z z1 z2 z3;refine zA J<|Qs J<|zA J<|Qs J<|zA J<|kw 8 J λlv Wf u B hn=>?_;obtain⟨O,M,R,rfl⟩:=cD B;have Y:=g7 hz hV u;exact Qm (((mu af).set 1 (I ag),p,O,M,R,Wf)) (⟨(o.trans z).trans u,ab.mono Y,ac.up om,eH (i:=1) (Ex g (k+1) aH az) J (dI aB),E,⟨lP B (λq hq=>l8 (o.trans z) (hn q hq)),cw⟩,om⟩) (hV:=by repeat (first|exact lr|assumption|(refine Vw.le.trans ?_ (by assumption))))};clear h;refine dD J ?_ ?_<;>intro h;{clear h;refine eR (λv V'=>∃Z':Vw,Z'.le V'/\(V.up W0 w.heap.size).le Z'/\(∀k ob,Z'.get k=some ob->(V.up W0 w.heap.size).get k=some ob\/w.heap.size<=k)/\ ∃p:SD,∃err,v=.tuple #[.agg #[.slice p.a1 p.n1 p.c1,.slice p.a2 p.n2 p.c2,.slice p.a3 p.n3 p.c3,I p.nx,.slice p.a4 p.n4 p.c4],I err]/\DevIn Z' p.dev/\DevG g k p.dev) J (λhg E w1 T=>F8 (T.below o).size a8.zw T.leV (LQ g k om (V.up W0 w.heap.size) s.dev (q:Int) _ (a8.zw.trans T.leV) ar ah)) ?_;rintro y2 W1 z hy;obtain⟨Z,z1,z2,z3,p,err,rfl,ab,ac⟩:=hy J;clear hy;have hz:=a8.next z z1 z2 z3;refine zA J<|Qs J<|zA J<|Qs J<|zA J<|kw 8 J λlv Wf u B hn=>?_;obtain⟨O,M,R,rfl⟩:=cD B;have Y:=g7 hz hV u;exact Qm ((((mu af).set 1 (I ag)).set 2 (.bool true),p,O,M,R,Wf)) (⟨(o.trans z).trans u,ab.mono Y,ac.up om,eH (i:=2) (eH (i:=1) (Ex g (k+1) aH az) J (dI aB)) J dB,E,⟨lP B (λq hq=>l8 (o.trans z) (hn q hq)),cw⟩,om⟩) (hV:=by repeat (first|exact lr|assumption|(refine Vw.le.trans ?_ (by assumption))))};clear h;refine dD J ?_ ?_<;>intro h
  .clear h;refine eR (λv V'=>∃Z':Vw,Z'.le V'/\(V.up W0 w.heap.size).le Z'/\(∀k ob,Z'.get k=some ob->(V.up W0 w.heap.size).get k=some ob\/w.heap.size<=k)/\ ∃rs,cT (PT.den (FW g k hk) Z') [.agg dj,.agg dR,.one .bool,.one (.int .i64)] rs/\v=eY rs) J (λhg E w1 T=>sG be (b:=w.heap.size) (vals:=[_,_,_]) a8.zw T.leV (T.below o).size ⟨dG g k hk ok,⟨_,J,aW⟩,⟨[I8 p0,I p1,I p2,I8 p3,I p4,S p5,I p6,I p7],J,⟨j4 r0,dI r1,dI r2,j4 r3,dI r4,dS aG,dI r6,dI r7,ZY⟩⟩,ZY⟩) ?_;rintro y2 W1 z hy;obtain⟨Z,z1,z2,z3,rs,al,rfl⟩:=hy J;obtain⟨v1,v2,v3,v4,rfl,h1,h2,h3,h4⟩:=jE al;obtain⟨d,rfl,a0⟩:=DS g k hk h1;obtain⟨e',a',b',rfl,bq⟩:=Et g k hk h2;obtain⟨ov,rfl⟩:=Eh g k hk h3;obtain⟨er,rfl,cO⟩:=pI h4;clear hy al h1 h2 h3 h4;rw[Fk];have hz:=a8.next z z1 z2 z3;have aP:=yA (f:=λi=>([I af,I ag,Value.bool up,I ae,I key,f 5,f 6,f 7,f 8,f 9,f 10,f 11,f 12,f 13,f 14,f 15,f 16,f 17,f 18,f 19,f 20,f 21,Value.bool ad,I8 o0,I o1,I o2,I8 o3,I o4,S o5,I o6,I o7,f 31,f 32,f 33,f 34,f 35,f 36,f 37,f 38,f 39,f 40,f 41,f 42,f 43,f 44,f 45,f 46,f 47,f 48,f 49,f 50,f 51,f 52,f 53,f 54,f 55,f 56,f 57,f 58,f 59,f 60,f 61,f 62,f 63]).getD i undef) (RR g k hk (aW.imp λ_ _=>CP.den_mono z2)) ⟨j4 r0,dI r1,dI r2,j4 r3,dI r4,dS aG,dI r6,dI r7,ZY⟩;have bc:=yA a0 ⟨j4 r0,dI r1,dI r2,j4 r3,dI r4,dS aG,dI r6,dI r7,ZY⟩;have aE:=B6 a0;refine zA J ?_
   iterate 2 refine fw aJ J J J fZ ?_
   refine cJ J ?_ ?_<;>intro h;{have ba:er≠0:=cU h;clear h;refine fw aJ J J J fZ ?_;refine zA J<|Qb J λE' w' T=>?_;exact xG hV (T.below (o.trans z)) ba};clear h;refine fw aJ J J J fZ ?_;refine zA J<|gE [8] ([(4,.lit ([.v (I g.nodes),.v (I g.slots),.v (I g.blocks),.v (I g.per),.v (I g.journal),.v (I g.log),.v (I g.lease),.v (I g.wait),.v (.slice s.a1 s.n1 s.c1),.v (.slice s.a2 s.n2 s.c2),.v (.slice s.a3 s.n3 s.c3),.v (I s.nx),.v (.slice s.a4 s.n4 s.c4)]++[.row 6,.row 8]) 33),(3,.lit [.v (I af),.v (I ag),.v (Value.bool up),.v (I ae),.v (I key),.v (f 5),.v (f 6),.v (f 7),.v (f 8),.v (f 9),.v (f 10),.v (f 11),.v (f 12),.v (f 13),.v (f 14),.v (f 15),.v (f 16),.v (f 17),.v (f 18),.v (f 19),.v (f 20),.v (f 21),.v (Value.bool ad),.v (I8 p0),.v (I p1),.v (I p2),.v (I8 p3),.v (I p4),.v (S p5),.v (I p6),.v (I p7),.v (f 31),.v (f 32),.v (f 33),.v (f 34),.v (f 35),.v (f 36),.v (f 37),.v (f 38),.v (f 39),.v (f 40),.v (f 41),.v (f 42),.v (f 43),.v (f 44),.v (f 45),.v (f 46),.v (f 47),.v (f 48),.v (f 49),.v (f 50),.v (f 51),.v (f 52),.v (f 53),.v (f 54),.v (f 55),.v (f 56),.v (f 57),.v (f 58),.v (f 59),.v (f 60),.v (f 61),.v (f 62),.v (f 63)] 131)]) mixed oo kc ?_;refine QD [0,1,2,3] J<|QS<|Qo 4<|gA 4 (λv V'=>∃ev:Event,v=ev.val) J J J (FN 63) J J (λhg E w1 T=>y5 g ok k hk (V:=Z) (xs:=[I af,I ag,Value.bool up,I ae,I key,f 5,f 6,f 7,f 8,f 9,f 10,f 11,f 12,f 13,f 14,f 15,f 16,f 17,f 18,f 19,f 20,f 21,Value.bool ad,I8 p0,I p1,I p2,I8 p3,I p4,S p5,I p6,I p7,f 31,f 32,f 33,f 34,f 35,f 36,f 37,f 38,f 39,f 40,f 41,f 42,f 43,f 44,f 45,f 46,f 47,f 48,f 49,f 50,f 51,f 52,f 53,f 54,f 55,f 56,f 57,f 58,f 59,f 60,f 61,f 62,f 63]) (ys:=[I 0,S ByteArray.empty,.bool false]) z1 T.leV aP ⟨dI ⟨dc,dc⟩,dS dc,dB,ZY⟩) ?_;rintro y3 W2 X hy;obtain⟨ev,rfl⟩:=hy J;clear hy;refine Qo 5<|Qg 5 J J (cX aJ 14 J J J) λ_ _=>Qo 6<|Qg 6 J J (cQ aJ ev.cells J (λE w T=>dZ (T.row _ _ _ _ _ J)) (λ_ _ _=>vE ev) od) λ_ _=>Qx [7] J<|Qo 8<|mC 8 aJ J J J J fZ (.inl J) ?_;refine zH J<|fw aJ J J J (by first|exact mb a0|exact⟨ZY,ZY⟩|(repeat' first|exact ZY|exact J|apply YO);done|simp[gg,jG,lk,Value.oneCell']) ?_;refine cS J ?_ ?_<;>intro h;{clear h;rw[(oz E ev).1,(oz E ev).2];have bm:=ar.mono z2;refine fw aJ J J J fZ ?_;refine zA J<|gE [8] ([(4,.lit ([.v (I g.nodes),.v (I g.slots),.v (I g.blocks),.v (I g.per),.v (I g.journal),.v (I g.log),.v (I g.lease),.v (I g.wait),.v (.slice s.a1 s.n1 s.c1),.v (.slice s.a2 s.n2 s.c2),.v (.slice s.a3 s.n3 s.c3),.v (I s.nx),.v (.slice s.a4 s.n4 s.c4)]++[.row 6,.row 13]) 33),(9,.lit [.v (d 0),.v (d 1),.v (d 2),.v (d 3),.v (d 4),.v (d 5),.v (d 6),.v (d 7),.v (d 8),.v (d 9),.v (d 10),.v (d 11),.v (d 12),.v (d 13),.v (d 14),.v (d 15),.v (d 16),.v (d 17),.v (d 18),.v (d 19),.v (d 20),.v (d 21),.v (d 22),.v (I8 p0),.v (I p1),.v (I p2),.v (I8 p3),.v (I p4),.v (S p5),.v (I p6),.v (I p7),.v (d 31),.v (d 32),.v (d 33),.v (d 34),.v (d 35),.v (d 36),.v (d 37),.v (d 38),.v (d 39),.v (d 40),.v (d 41),.v (d 42),.v (d 43),.v (d 44),.v (d 45),.v (d 46),.v (d 47),.v (d 48),.v (d 49),.v (d 50),.v (d 51),.v (d 52),.v (d 53),.v (d 54),.v (d 55),.v (d 56),.v (d 57),.v (d 58),.v (d 59),.v (d 60),.v (d 61),.v (d 62),.v (d 63)] 131),(11,.lit [.v (I e'),.v (S a'),.v (.bool b')] 168)]) mixed oo kc ?_;refine QD [0,1,2,3] J<|QS<|Qo 4<|gA 4 (λv V'=>∃ev:Event,v=ev.val) J J J (FN 63) J J (λhg E w1 T=>y5 g ok k hk (V:=Z) (xs:=[d 0,d 1,d 2,d 3,d 4,d 5,d 6,d 7,d 8,d 9,d 10,d 11,d 12,d 13,d 14,d 15,d 16,d 17,d 18,d 19,d 20,d 21,d 22,I8 p0,I p1,I p2,I8 p3,I p4,S p5,I p6,I p7,d 31,d 32,d 33,d 34,d 35,d 36,d 37,d 38,d 39,d 40,d 41,d 42,d 43,d 44,d 45,d 46,d 47,d 48,d 49,d 50,d 51,d 52,d 53,d 54,d 55,d 56,d 57,d 58,d 59,d 60,d 61,d 62,d 63]) (ys:=[I e',S a',.bool b']) (z1.trans X) T.leV bc bq) ?_;rintro y4 W3 aA hy;obtain⟨ay,rfl⟩:=hy J;clear hy;refine Qo 5<|Qg 5 J J (cX aJ 14 J J J) λ_ _=>Qo 6<|Qg 6 J J (cQ aJ ay.cells J (λE w T=>dZ (T.row _ _ _ _ _ J)) (λ_ _ _=>vE ay) (by simp only[ZQ,ZP];first|omega|(dsimp only;omega))) λ_ _=>?_;refine Qx [7] J<|Qo 8<|mC 8 aJ J J J J fZ (.inl J) ?_;refine zH J<|fw aJ J J J fZ ?_;refine zA J ?_;rw[(oz (E++[ev]) ay).1,(oz (E++[ev]) ay).2];refine kw 15 J λlv Wf u B hn=>?_;obtain⟨O,M,R,rfl⟩:=cD B;have Y:=g7 hz hV ((X.trans aA).trans u);exact Qm (([d 0,d 1,d 2,d 3,d 4,d 5,d 6,d 7,d 8,d 9,d 10,d 11,d 12,d 13,d 14,d 15,d 16,d 17,d 18,d 19,d 20,d 21,d 22,d 23,d 24,d 25,d 26,d 27,d 28,d 29,d 30,d 31,d 32,d 33,d 34,d 35,d 36,d 37,d 38,d 39,d 40,d 41,d 42,d 43,d 44,d 45,d 46,d 47,d 48,d 49,d 50,d 51,d 52,d 53,d 54,d 55,d 56,d 57,d 58,d 59,d 60,d 61,d 62,d 63],s,O,M,R,Wf)) (⟨(((o.trans z).trans X).trans aA).trans u,bm.mono Y,ah.up om,sZ (a0.imp λ_ _=>CP.den_mono Y),(E++[ev])++[ay],⟨lP B (λq hq=>l8 (((o.trans z).trans X).trans aA) (hn q hq)),cw⟩,by simp;omega⟩) (hV:=by repeat (first|exact lr|assumption|(refine Vw.le.trans ?_ (by assumption))))};clear h;rw[(oz E ev).1,(oz E ev).2];have bm:=ar.mono z2;refine kw 13 J λlv Wf u B hn=>?_;obtain⟨O,M,R,rfl⟩:=cD B;have Y:=g7 hz hV (X.trans u);exact Qm (([d 0,d 1,d 2,d 3,d 4,d 5,d 6,d 7,d 8,d 9,d 10,d 11,d 12,d 13,d 14,d 15,d 16,d 17,d 18,d 19,d 20,d 21,d 22,d 23,d 24,d 25,d 26,d 27,d 28,d 29,d 30,d 31,d 32,d 33,d 34,d 35,d 36,d 37,d 38,d 39,d 40,d 41,d 42,d 43,d 44,d 45,d 46,d 47,d 48,d 49,d 50,d 51,d 52,d 53,d 54,d 55,d 56,d 57,d 58,d 59,d 60,d 61,d 62,d 63],s,O,M,R,Wf)) (⟨((o.trans z).trans X).trans u,bm.mono Y,ah.up om,sZ (a0.imp λ_ _=>CP.den_mono Y),E++[ev],⟨lP B (λq hq=>l8 ((o.trans z).trans X) (hn q hq)),cw⟩,by simp;omega⟩) (hV:=by repeat (first|exact lr|assumption|(refine Vw.le.trans ?_ (by assumption))))
  clear h;refine kw 8 J λlv Wf u B hn=>?_;obtain⟨O,M,R,rfl⟩:=cD B;exact Qm (([I af,I ag,Value.bool up,I ae,I key,f 5,f 6,f 7,f 8,f 9,f 10,f 11,f 12,f 13,f 14,f 15,f 16,f 17,f 18,f 19,f 20,f 21,Value.bool ad,I8 o0,I o1,I o2,I8 o3,I o4,S o5,I o6,I o7,f 31,f 32,f 33,f 34,f 35,f 36,f 37,f 38,f 39,f 40,f 41,f 42,f 43,f 44,f 45,f 46,f 47,f 48,f 49,f 50,f 51,f 52,f 53,f 54,f 55,f 56,f 57,f 58,f 59,f 60,f 61,f 62,f 63],s,O,M,R,Wf)) (⟨(o).trans u,aM.mono (eV hV (o.trans u)).vz,ah.up om,xO (a5.imp λ_ _=>CP.den_mono (eV hV (o.trans u)).vz),E,⟨lP B (λq hq=>l8 (o) (hn q hq)),cw⟩,om⟩) (hV:=by repeat (first|exact lr|assumption|(refine Vw.le.trans ?_ (by assumption))))
 rintro⟨xs,p,O,M,R,W⟩ ⟨an,ab,ac,aS,E1,bR,cr⟩;dsimp only at an ab ac aS bR⊢;obtain⟨d,rfl⟩:∃d:Nat->Z7,xs=iQ d:=⟨λi=>xs.getD i undef,Bs (aS.len.symm.trans J)⟩;have cj:=jd (enc:=iQ) (sz:=64) cw N q d om;refine zB J<|QY J (cW (s:=.a (.rel 6 (q*64))) 6 J J (λv V' hv=>dO aJ (q*64) J sm (λhg=>hv) (λhg=>by first|omega|(dsimp only;omega))))<|gP J J J J (fH aJ J J (O7 aS) (by show q*64+64<=N.length*64;omega) od) λ_ _=>?_;refine zA J<|Qs J<|zA J<|Qb J λE2 w' T=>?_;have bk:=T.below an;have br:=eV hV an;have bh:=wt hV br.vz (br.zw.trans T.leV) br.new;have r6:=T.rowFresh an (l:=6) J;(have e7:N.length=(N.set q d).length:=by rw[ZT]);rw[show ei (q*64) _ _=_ from cj,e7]at r6;have s6:SlOf (V.grown w w') iQ 64 (E2.κ 6) (N.set q d):=SlOf.grown V r6 cw;obtain⟨a6,m6,c6,bF⟩:=cD s6.sl;rw[bF]at s6;refine⟨_,V.grown w w',J,bk,Vext.grown hV bk,p,a6,m6,c6,O,M,R,0,(by show Value.tuple #[.agg #[I g.nodes,I g.slots,I g.blocks,I g.per,I g.journal,I g.log,I g.lease,I g.wait,.slice p.a1 p.n1 p.c1,.slice p.a2 p.n2 p.c2,.slice p.a3 p.n3 p.c3,I p.nx,.slice p.a4 p.n4 p.c4,E2.κ 6,.slice O M R],I 0]=_;rw[bF]),λ_=>⟨p.dev,_,_,N.set q d,E1,J,ab.mono bh,ac,s6,by rw[ZT];exact bT,λf2 cp=>?_,bR.mono bh,cr⟩⟩;(rcases ZA cp with h1|rfl);{exact xO ((aN f2 h1).imp λ_ _=>CP.den_mono (Vext.grown hV bk).le)};exact aS.imp λ_ _=>CP.den_mono bh
def qh(n:Int)(l:Z8 Turn):Bool:=(l.take (n+1).toNat).any (λt=>decide (5000<t.text.size))||decide (n<l.length)
theorem Pk{n:Int}{l:Z8 Turn}(m:0<=n)(h:qh n l=false):(l.length:Int)<=n/\ ∀t∈l,t.text.size<=5000:=by
 simp only[qh,Zf,Zl]at h;have ⟨h1,h2⟩:=h;refine⟨om,λt d=>?_⟩;rw[ZG om]at h1
 simp_all
theorem XA(V:Vw)(B:Z7)(l:Z8 Turn)(n:Int)(w:Z6)(hV:V.le (vw w))(u:SlOf V Turn.cells 11 B l)(N:l.length<=maxLen)(R:0<=n): Rt 13 #[B,I n] w (.bool (qh n l)):=by
 obtain⟨a,m,c,rfl⟩:=cD u.sl;have o:=u.mono hV;simp only[maxLen]at N;refine dC [.a (.v (.slice a m c)),.a (.v (I n))] J<|zL [0,1] [] J J (σ:=Nat) (λi=>[(5,.a (.v (I i)))]) (λi=>[]) (λi=>i<=l.length/\(i:Int)<=n+1/\ ∀t∈l.take i,t.text.size<=5000) (λi=>l.length - i) (0) (⟨om,om,sm⟩) ?_;rintro i ⟨hi,M,y⟩;refine zB J<|QY J (yN J o)<|cJ J ?_ ?_<;>intro h
 .have ⟨x,h_x⟩:=o.at (k:=i) om;refine QY J (yI J o) ?_
  iterate 2 refine ua J J J (yF J o) ?_
  refine QY J (yL i 8 J o h_x J)<|cJ J ?_ ?_<;>intro h;{refine cL aJ J ?_;(have z:qh n l=true:=by simp only[qh,Zv,YJ,ZV];exact .inl ⟨x,ZZ (i:=i) (by rw[List.getElem?_take_of_lt om];exact h_x),om⟩);intro E T O _;refine⟨?_,O.below lr⟩;rw[z];rfl};(have d:∀t∈l.take (i+1),t.text.size<=5000:=by rw[oX h_x];intro t p;(rcases Zh.1 p with p|p);{exact y t p};rw[ZE.1 p];omega);rw[cx om om];refine Qr (i+1)<|⟨om,om,d⟩
 (have z:qh n l=decide (n<l.length):=by (have L:(l.take (n+1).toNat).any (λt=>decide (5000<t.text.size))=false:=by grind);rw[qh,L,A_]);refine QY J (yN J o)<|zA J<|Tz J λE=>?_;rw[z];rfl
structure WR where
 s:SD
 na:Option Addr
 nn:Nat
 nc:Nat
 la:Option Addr
 ln:Nat
 lc:Nat
abbrev WR.val(g:Geo)(r:WR):Z7:=.agg #[I g.nodes,I g.slots,I g.blocks,I g.per,I g.journal,I g.log,I g.lease,I g.wait,.slice r.s.a1 r.s.n1 r.s.c1,.slice r.s.a2 r.s.n2 r.s.c2,.slice r.s.a3 r.s.n3 r.s.c3,I r.s.nx,.slice r.s.a4 r.s.n4 r.s.c4,.slice r.na r.nn r.nc,.slice r.la r.ln r.lc]
theorem WJ.wr{g:Geo}{k:Nat}{d:k<250}{V:Vw}{x:Z7}(h:WJ g k d V x):∃r:WR,x=r.val g:=by obtain⟨s,na,nn,nc,la,ln,lc,N,E,rfl,h⟩:=h.shape;exact⟨⟨s,na,nn,nc,la,ln,lc⟩,J⟩
theorem Iy{g:Geo}(ok:g.Ok){k:Nat}(L:k<250)(l:k+1<250){Z W:Vw}{w0 m:Z6}{r:WR}{t:Turn}(X:w0.heap.size<=m.heap.size)(O:Z.le W)(M:W.le (vw m))(h:WJ g k L Z (r.val g))(V:t.Ok)(p:t.text.size<=5000): kD 33 #[r.val g,t.val] m W λv V'=>∃Z':Vw,Z'.le V'/\Z.le Z'/\(∀k ob,Z'.get k=some ob->Z.get k=some ob\/w0.heap.size<=k)/\ ∃r':WR,∃err,v=.tuple #[r'.val g,I err]/\(err=0->WJ g (k+1) l Z' (r'.val g)):=by have ⟨d,nv,lv,N,E,hx,hI⟩:=h;obtain⟨s,rfl⟩:=xt hI.di;obtain⟨na,nn,nc,rfl⟩:=cD hI.ns.sl;obtain⟨la,ln,lc,rfl⟩:=cD hI.ls.sl;rw[hx];refine(Uu g ok k L l Z s na nn nc la ln lc N E t m (O.trans M) hI V p).mono λe w' Y=>jK (Φ:=λv V2=>∃r':WR,∃err,v=.tuple #[r'.val g,I err]/\(err=0->WJ g (k+1) l V2 (r'.val g))) X O M ?_;obtain⟨v,V',rfl,h1,T,R,y,B,u,w,o,z,err,rfl,h3⟩:=Y;exact⟨_,V',J,h1,T,⟨R,y,B,u,w,o,z⟩,err,J,h3⟩
set_option maxHeartbeats 4000000 in
theorem T7(g:Geo)(ok:g.Ok)(V:Vw)(r:WR)(ta:Z4 Addr)(tn tc:Nat)(L:Z8 Turn)(w:Z6)(hV:V.le (vw w))(hx:WJ g 0 om V (r.val g))(ag:SlOf V Turn.cells 11 (.slice ta tn tc) L)(hn:L.length<=200)(ht:∀t∈L,t.Ok/\t.text.size<=5000): kD 15 #[r.val g,.slice ta tn tc] w V λv V'=>∃r':WR,∃dn k,∃hk:k<250,v=.tuple #[r'.val g,I dn]/\WJ g k hk V' (r'.val g):=by
 have hL:=ag.mono hV;refine dC [.a (.v (.agg #[I g.nodes,I g.slots,I g.blocks,I g.per,I g.journal,I g.log,I g.lease,I g.wait,.slice r.s.a1 r.s.n1 r.s.c1,.slice r.s.a2 r.s.n2 r.s.c2,.slice r.s.a3 r.s.n3 r.s.c3,I r.s.nx,.slice r.s.a4 r.s.n4 r.s.c4,.slice r.na r.nn r.nc,.slice r.la r.ln r.lc])),.a (.v (.slice ta tn tc))] J<|zV [1,2,4] [0,1] J J (σ:=Nat×Int×WR×Vw) (λ(i,dn,u,W)=>[(6,.a (.v (I dn))),(7,.a (.v (I i)))]) (λ(i,dn,u,W)=>[(0,.lit [.v (I g.nodes),.v (I g.slots),.v (I g.blocks),.v (I g.per),.v (I g.journal),.v (I g.log),.v (I g.lease),.v (I g.wait),.v (.slice u.s.a1 u.s.n1 u.s.c1),.v (.slice u.s.a2 u.s.n2 u.s.c2),.v (.slice u.s.a3 u.s.n3 u.s.c3),.v (I u.s.nx),.v (.slice u.s.a4 u.s.n4 u.s.c4),.v (.slice u.na u.nn u.nc),.v (.slice u.la u.ln u.lc)] 33),(1,.lit [.v (I 0),.v (I 0),.v (I 0),.v (I 0),.v (I 0),.v (I 0),.v (I 0),.v (I 0),.v cz,.v cz,.v cz,.v (I 0),.v cz,.v cz,.v cz] 33)]) (λ(i,dn,u,W)=>W) (λ(i,dn,u,W)=>(i<=L.length/\(vw w).le W)/\ ∀hk:i<250,WJ g i hk (V.up W w.heap.size) (u.val g)) (λ(i,dn,u,W)=>L.length - i) ((0,0,r,vw w)) (⟨⟨om,Vw.le.refl _⟩,λ_=>hx.mono (eV hV lr).vz⟩) ?_;rintro⟨i,dn,u,W⟩ ⟨⟨hi,y⟩,Z⟩;dsimp only at hi y Z⊢;have X:=hL.mono y;have m:=eV hV y;refine zB J<|QY J (yN J X)<|cJ J ?_ ?_<;>intro h
 .have ⟨t,h_t⟩:=X.at (k:=i) om;have ⟨ht1,ht2⟩:=ht t (ZZ h_t);have a0:i<250:=om;have O:i+1<250:=om;have a5:=Z a0;refine yq (σ:=WR×Int×Vw) (λx=>[(4,.a (.ptr 1 0)),(6,.a (.v (I dn))),(7,.a (.v (I i))),(2,.a (.ptr 0 0)),(1,.a (.v (.slice ta tn tc))),(8,.a (.ptr 2 0)),(9,.a (.v (I x.2.1)))]) (λx=>[(0,.lit [.v (I g.nodes),.v (I g.slots),.v (I g.blocks),.v (I g.per),.v (I g.journal),.v (I g.log),.v (I g.lease),.v (I g.wait),.v (.slice u.s.a1 u.s.n1 u.s.c1),.v (.slice u.s.a2 u.s.n2 u.s.c2),.v (.slice u.s.a3 u.s.n3 u.s.c3),.v (I u.s.nx),.v (.slice u.s.a4 u.s.n4 u.s.c4),.v (.slice u.na u.nn u.nc),.v (.slice u.la u.ln u.lc)] 33),(1,.lit [.v (I 0),.v (I 0),.v (I 0),.v (I 0),.v (I 0),.v (I 0),.v (I 0),.v (I 0),.v cz,.v cz,.v cz,.v (I 0),.v cz,.v cz,.v cz] 33),(2,.lit [.v (I g.nodes),.v (I g.slots),.v (I g.blocks),.v (I g.per),.v (I g.journal),.v (I g.log),.v (I g.lease),.v (I g.wait),.v (.slice x.1.s.a1 x.1.s.n1 x.1.s.c1),.v (.slice x.1.s.a2 x.1.s.n2 x.1.s.c2),.v (.slice x.1.s.a3 x.1.s.n3 x.1.s.c3),.v (I x.1.s.nx),.v (.slice x.1.s.a4 x.1.s.n4 x.1.s.c4),.v (.slice x.1.na x.1.nn x.1.nc),.v (.slice x.1.la x.1.ln x.1.lc)] 33)]) (3) (λx=>x.2.2) (λx=>W.le x.2.2/\(x.2.1=0->WJ g (i+1) O (V.up x.2.2 w.heap.size) (x.1.val g))) mixed ?_ ?_
  .refine QT [0,1,2] J<|zt 3 J (yI J X)<|zt 4 J (dy (enc:=Turn.cells) (l:=L) aJ i 0 t J (λhg=>X) (λhg=>h_t) J J)<|QS<|Qz 5 9 ?_ ?_
   .refine gA 5 (λv V'=>∃R:Vw,R.le V'/\(V.up W w.heap.size).le R/\(∀k ob,R.get k=some ob->(V.up W w.heap.size).get k=some ob\/w.heap.size<=k)/\ ∃r':WR,∃err,v=.tuple #[r'.val g,I err]/\(err=0->WJ g (i+1) O R (r'.val g))) J J J (FN 33) J J (λhg E w1 Y=>Iy ok a0 O (Y.below y).size m.zw Y.leV a5 ht1 ht2) ?_;rintro z V' d hz;obtain⟨R,M,B,N,r',err,rfl,o⟩:=hz J;refine Qz 6 9 ?_ ?_
    .refine yH 6 J J J J J<|wj 7 8 9 kr ?_ ?_ ?_;{refine yH 7 J J J J J<|Qz 8 9 ?_ ?_;{refine yH 8 J J J J J<|Qo 9<|Qk 9 J J J J<|zI 10 J<|Qx [11] J<|Qe [1,2,4,6,7,8,9] J ?_;exact Qm (⟨r',err,V'⟩)<|⟨d,λp=>(o p).mono (g7 (m.next d M B N) hV lr)⟩};refine Qk 9 J J J J<|Qz 8 10 ?_ ?_;{refine yH 8 J J J J J<|zI 10 J<|Qx [11] J<|Qe [1,2,4,6,7,8,9] J ?_;exact Qm (⟨r',err,V'⟩)<|⟨d,λp=>(o p).mono (g7 (m.next d M B N) hV lr)⟩};refine Qi 10 J<|Qx [8,11] J<|Qe [1,2,4,6,7,8,9] J ?_;exact Qm (⟨r',err,V'⟩)<|⟨d,λp=>(o p).mono (g7 (m.next d M B N) hV lr)⟩};{refine yH 8 J J J J J<|Qz 7 9 ?_ ?_;{refine yH 7 J J J J J<|Qo 9<|Qk 9 J J J J<|zI 10 J<|Qx [11] J<|Qe [1,2,4,6,7,8,9] J ?_;exact Qm (⟨r',err,V'⟩)<|⟨d,λp=>(o p).mono (g7 (m.next d M B N) hV lr)⟩};refine Qk 9 J J J J<|Qx [7] J<|zI 10 J<|Qx [11] J<|Qe [1,2,4,6,7,8,9] J ?_;exact Qm (⟨r',err,V'⟩)<|⟨d,λp=>(o p).mono (g7 (m.next d M B N) hV lr)⟩};refine Qk 9 J J J J<|Qz 7 8 ?_ ?_;{refine yH 7 J J J J J<|Qz 8 10 ?_ ?_;{refine yH 8 J J J J J<|zI 10 J<|Qx [11] J<|Qe [1,2,4,6,7,8,9] J ?_;exact Qm (⟨r',err,V'⟩)<|⟨d,λp=>(o p).mono (g7 (m.next d M B N) hV lr)⟩};refine Qi 10 J<|Qx [8,11] J<|Qe [1,2,4,6,7,8,9] J ?_;exact Qm (⟨r',err,V'⟩)<|⟨d,λp=>(o p).mono (g7 (m.next d M B N) hV lr)⟩};refine yH 8 J J J J J<|Qx [7] J<|zI 10 J<|Qx [11] J<|Qe [1,2,4,6,7,8,9] J ?_;exact Qm (⟨r',err,V'⟩)<|⟨d,λp=>(o p).mono (g7 (m.next d M B N) hV lr)⟩
    refine Qk 9 J J J J<|Qx [6] J<|Qz 7 8 ?_ ?_;{refine yH 7 J J J J J<|Qz 8 10 ?_ ?_;{refine yH 8 J J J J J<|zI 10 J<|Qx [11] J<|Qe [1,2,4,6,7,8,9] J ?_;exact Qm (⟨r',err,V'⟩)<|⟨d,λp=>(o p).mono (g7 (m.next d M B N) hV lr)⟩};refine Qi 10 J<|Qx [8,11] J<|Qe [1,2,4,6,7,8,9] J ?_;exact Qm (⟨r',err,V'⟩)<|⟨d,λp=>(o p).mono (g7 (m.next d M B N) hV lr)⟩};refine yH 8 J J J J J<|Qx [7] J<|zI 10 J<|Qx [11] J<|Qe [1,2,4,6,7,8,9] J ?_;exact Qm (⟨r',err,V'⟩)<|⟨d,λp=>(o p).mono (g7 (m.next d M B N) hV lr)⟩
   refine Qk 9 J J J J<|Qo 5<|gA 5 (λv V'=>∃R:Vw,R.le V'/\(V.up W w.heap.size).le R/\(∀k ob,R.get k=some ob->(V.up W w.heap.size).get k=some ob\/w.heap.size<=k)/\ ∃r':WR,∃err,v=.tuple #[r'.val g,I err]/\(err=0->WJ g (i+1) O R (r'.val g))) J J J (FN 33) J J (λhg E w1 Y=>Iy ok a0 O (Y.below y).size m.zw Y.leV a5 ht1 ht2) ?_;rintro z V' d hz;obtain⟨R,M,B,N,r',err,rfl,o⟩:=hz J;refine Qx [6] J<|Qz 7 8 ?_ ?_;{refine yH 7 J J J J J<|Qz 8 10 ?_ ?_;{refine yH 8 J J J J J<|zI 10 J<|Qx [11] J<|Qe [1,2,4,6,7,8,9] J ?_;exact Qm (⟨r',err,V'⟩)<|⟨d,λp=>(o p).mono (g7 (m.next d M B N) hV lr)⟩};refine Qi 10 J<|Qx [8,11] J<|Qe [1,2,4,6,7,8,9] J ?_;exact Qm (⟨r',err,V'⟩)<|⟨d,λp=>(o p).mono (g7 (m.next d M B N) hV lr)⟩};refine yH 8 J J J J J<|Qx [7] J<|zI 10 J<|Qx [11] J<|Qe [1,2,4,6,7,8,9] J ?_;exact Qm (⟨r',err,V'⟩)<|⟨d,λp=>(o p).mono (g7 (m.next d M B N) hV lr)⟩
  rintro⟨r',err,W2⟩ ⟨T,ad⟩
  try dsimp only
  refine dD J ?_ ?_<;>intro h;{refine Qs J<|zA J ?_;have p:err=0:=h;have ab:=ad p;rw[cx (n:=(i:Int)+1) om om];refine Qr ((i+1,IntKind.i64.wrap (dn+1),r',W2))<|⟨⟨om,y.trans T⟩,λ_=>ab⟩};have aa:WJ g (i+1) O (V.up W2 w.heap.size) (u.val g):=(a5.mono (g7 m hV T)).up;rw[cx (n:=(i:Int)+1) om om];refine Qr ((i+1,dn,u,W2))<|⟨⟨om,y.trans T⟩,λ_=>aa⟩
 refine Qs J<|zA J<|Qb J λE' w' Y=>?_;have a6:=Y.below y;exact⟨_,V.grown w w',J,a6,Vext.grown hV a6,u,dn,i,om,J,(Z om).mono (wt hV m.vz (m.zw.trans Y.leV) m.new)⟩
set_option maxHeartbeats 4000000 in
theorem W8(V:Vw)(g:Geo)(ok:g.Ok)(X:Z4 Addr)(tn T:Nat)(L:Z8 Turn)(w:Z6)(hV:V.le (vw w))(N:SlOf V Turn.cells 11 (.slice X tn T) L)(Y:L.length<=maxLen)(a0:∀t∈L,t.Ok): kD 4 #[g.val,.slice X tn T] w V λv V'=>(v=.tuple #[.agg #[I 0,I 0,I 0,I 0,I 0,I 0,I 0,I 0,cz,cz,cz,I 0,cz,cz,cz],.bool false]\/ ∃r:WR,∃k,∃hk:k<250,v=.tuple #[r.val g,.bool true]/\cY g=true/\WJ g k hk V' (r.val g)):=by have hL:=N.mono hV;have u:=λ(p:Z6) (hle:V.le (vw p))=>U9 V g ok p hle;refine dN J<|dq J (λhg E p d=>XA (vw w) _ L 200 _ d.leV hL Y om) ?_;refine cJ J ?_ ?_<;>intro h;{clear h;refine Qs J<|zA J<|Qb J λE' m d=>?_;exact⟨_,V.grown w m,J,d.below lr,Vext.grown hV (d.below lr),.inl J⟩};(have a6:qh 200 L=false:=by exact h.2);clear h;have ⟨hl1,hl2⟩:=Pk om a6;refine eR (λx V'=>∃V2:Vw,V2.le V'/\V.le V2/\(∀k o,V2.get k=some o->V.get k=some o\/w.heap.size<=k)/\(cY g=false/\x=.tuple #[.agg #[I 0,I 0,I 0,I 0,I 0,I 0,I 0,I 0,cz,cz,cz,I 0,cz,cz,cz],I 40]\/cY g=true/\ ∃y,x=.tuple #[y,I 0]/\WJ g 0 om V2 y)) J (λhg E p d=>(u _ (hV.trans d.leV)).mono λe m h=>jK (d.below lr).size hV d.leV h) ?_;rintro x W0 l hx;have ⟨Z,hZ0,hVZ,hgt,hcase⟩:=hx J;clear hx;(rcases hcase with⟨hG,rfl⟩|⟨hG,y,rfl,hy⟩);{refine zA J<|Qs J<|cS J ?_ ?_<;>intro h;{clear h;refine Qs J<|zA J<|Qb J λE' m d=>?_;exact⟨_,V.grown w m,J,d.below l,Vext.grown hV (d.below l),.inl J⟩};exact absurd h dc};obtain⟨r,rfl⟩:=hy.wr;refine zA J<|Qs J<|cS J ?_ ?_<;>intro h;{exact absurd h dc};clear h;refine eR (λv V'=>∃V2:Vw,V2.le V'/\Z.le V2/\(∀k o,V2.get k=some o->Z.get k=some o\/w.heap.size<=k)/\ ∃O:WR,∃dn k,∃hk:k<250,v=.tuple #[O.val g,I dn]/\WJ g k hk V2 (O.val g)) J (λhg E p d=>(T7 g ok Z r X tn T L _ (hZ0.trans d.leV) hy (N.mono hVZ) om (λt ht=>⟨a0 t ht,hl2 t ht⟩)).mono λe m h=>jK (d.below l).size hZ0 d.leV h) ?_;rintro z W1 M hz;obtain⟨Z2,W,R,B,O,dn,k,hk,rfl,hw⟩:=hz J;clear hz;refine zA J<|Qs J<|zA J<|Qs J<|zA J<|Qb J λE' m d=>?_;have hb:=d.below (l.trans M);exact⟨_,V.grown w m,J,hb,Vext.grown hV hb,.inr ⟨O,k,hk,J,hG,hw.mono (wt hV (hVZ.trans R) (W.trans d.leV) (λk o hk=>(B k o hk).elim (hgt k o) .inr))⟩⟩
theorem JS(s:Z5):0<=fW s/\fW s<=1099511627776:=by
 rw[fW];cases d:gY s with
 |none=>exact⟨Int.le_refl _,dc⟩
 |some n=>exact(Kk d).2
theorem Tt{g:Geo}{d:Device}(y:fA g d=0)(p:∀s∈d.s.l,s.size<=maxLen):∃A,RowsAll g d A:=by
 have ⟨hG,hln⟩:=xL (xQ y).1;have w:=sM hG d
 have key:∀i:Nat,∃L:Z8 Record,(∀s,(fJ g d).S[i]? =some s->s.key=0->L=[])/\(∀s,(fJ g d).S[i]? =some s->s.key≠0->RowsOf g (i:Int) s.key (fW (d.s.l.getD (dt g (i:Int)).toNat ByteArray.empty)) d.s.l L):=by
  intro i;cases z:(fJ g d).S[i]? with
  |none=>exact⟨[],λs h=>(by cases h),λs h=>(by cases h)⟩
  |some s=>have hi:=(List.getElem?_eq_some_iff.1 z).1;have ⟨q,hq,_⟩:=Aa hG (i:=i) om;by_cases t:s.key=0;{exact⟨[],λ_ _ _=>rfl,λu h m=>by cases h;exact absurd t m⟩};have ⟨L,hL⟩:=Sm (slot:=(i:Int)) (key:=s.key) hG hln om (JS (d.s.l.getD (dt g (i:Int)).toNat ByteArray.empty)).1 (JS _).2 p;exact⟨L,λu h m=>by cases h;exact absurd m t,λu h _=>by cases h;exact hL⟩
 exact⟨λi=>Classical.choose (key i),λi s o m=>(C_ (key i)).1 s o m,λi s o m=>(C_ (key i)).2 s o m⟩
def Ev(L:Z8 Int)(x:Z7)(V':Vw):Prop:= ∃a n c,x=.slice a n c/\SlOf V' cB 1 (.slice a n c) L
theorem Rh{V:Vw}{f:Nat}{L:Z8 Int}{args:Array Z7}{w:Z6}(hV:V.le (vw w))(h:Cl f args w (Fs L w)): Cl f args w λe w'=>∃x V',e=.returned x/\cH w w'/\Vext w.heap.size V V' w'/\Ev L x V':=by refine h.mono ?_;rintro e w' ⟨⟨v,rfl,d⟩,l⟩;have ⟨V',hx,hsl⟩:=jS hV l d;obtain⟨a,n,c,rfl⟩:=cD hsl;exact⟨_,V',J,l,hx,a,n,c,J,hsl,λ_=>rfl⟩
structure ViOk(g:Geo)(x:View)(s:Slot):Prop where
 key:x.key=s.key
 claim:x.claim=s.claim
 wr:x.whole<=x.records
 rj:x.records<=g.journal
 tw:2*x.txns<=x.whole
 t0:0<=x.txns
 tp:0<x.txns↔0<x.whole
 no:x.key=0->x.records=0
theorem N6{g:Geo}{d:Device}{A:Nat->Z8 Record}(m:RowsAll g d A)(h:SvOk g d A){i:Nat}(hi:(i:Int)<g.slots){x:View}(l:(jt g d A g.slots.toNat)[i]? =some x){s:Slot}(hs:(fJ g d).S[i]? =some s):ViOk g x s:=by rw[jt,List.getElem?_map,List.getElem?_range om]at l;cases l;have ⟨h1,h2,h3,h4⟩:=h.two i hi;dsimp only;rw[show(fJ g d).S.getD i ⟨0,0⟩=s by rw[List.getD_eq_getElem?_getD,hs,YK]];refine⟨J,J,?_,?_,?_,?_,?_,?_⟩<;>simp only[rV];{omega};{exact h4};{omega};{omega};{omega};intro o;rw[m.no i s hs o];rfl
theorem Ob{g:Geo}{d:Device}{A:Nat->Z8 Record}{i:Nat}(hi:i<g.slots.toNat):∃x,(jt g d A g.slots.toNat)[i]? =some x/\x.whole=(whole (A i):Int):=by rw[jt,List.getElem?_map,List.getElem?_range hi];exact⟨_,J,J⟩
set_option maxHeartbeats 8000000 in
theorem surveySlots_law(w:Z6){v0 v1:Z7}(R0:∃g:Geo,v0=g.val/\g.Ok)(R1:∃l:Z8 Turn,SlOf (vw w) Turn.cells 11 v1 l/\l.length<=maxLen/\ ∀a∈l,Turn.Ok a): Rt 3 #[v0,v1] w (.bool true):=by
 obtain⟨g,rfl,ok⟩:=R0;obtain⟨T,hT,aK,aq⟩:=R1;obtain⟨ta,tn,tc,rfl⟩:=cD hT.sl;refine dC [.a (.v g.val),.a (.v (.slice ta tn tc))] J<|eR (λv V'=>v=.tuple #[.agg #[I 0,I 0,I 0,I 0,I 0,I 0,I 0,I 0,cz,cz,cz,I 0,cz,cz,cz],.bool false]\/ ∃r:WR,∃k,∃hk:k<250,v=.tuple #[r.val g,.bool true]/\cY g=true/\WJ g k hk V' (r.val g)) J (λhg E Y hm=>W8 (vw w) g ok ta tn tc T _ hm.leV hT aK aq) ?_;rintro x W0 ad L;have ah:=L J;clear L;(rcases ah with rfl|⟨r,k,hk,rfl,hG,hw⟩);{refine zA J<|Qs J<|cS J ?_ ?_<;>intro h;{clear h;refine zC J KK ?_;refine zA J<|Qb J λE w' hm=>⟨?_,hm.below (ad)⟩;rfl};exact absurd h dc};obtain⟨s,na,nn,nc,la,ln,lc,N,E,L,hI⟩:=hw.shape;rw[L];clear hw L;have hf:=dE hG;have aa:=hI.di;have ab:=hI.dg;clear hI;(have a7:∀b∈s.dev.s.l,b.size<=maxLen:=λb hb=>by obtain⟨i,hi⟩:=Zs.1 hb;have:=(ab.sec i b hi).size;simp only[maxLen];omega);have e0:=JP hG ab;have e1:=Jl hG ab;obtain⟨A,hA⟩:=Tt e0 a7;have Z:=Ow hG ab hA;have aI:=sM hG s.dev;have c0:=λ(W:Vw) (h0:W0.le W) (Y:Z6) (hle:W.le (vw Y))=>Wr W g ok s.dev Y hle (aa.mono h0) a7;have c1:=λ(W:Vw) (h0:W0.le W) (Y:Z6) (hle:W.le (vw Y))=>wM (enc:=View.cells) (sz:=6) cw hle (FG W g ok s.dev Y hle (aa.mono h0) a7 A (λ_=>hA));have c2:=λ(W:Vw) (h0:W0.le W) (Y:Z6) (hle:W.le (vw Y))=>wM (enc:=Sight.cells) (sz:=3) cw hle (Gv W g ok s.dev Y hle (aa.mono h0) a7 A (λ_=>hA));have c3:=λ(W:Vw) (h0:W0.le W) (Y:Z6) (hle:W.le (vw Y))=>wM (enc:=cB) (sz:=1) cw hle (Mq W g ok s.dev Y hle (aa.mono h0) a7);have aB:∀(i:Nat) (x:View) (t:Slot),(i:Int)<g.slots->(jt g s.dev A g.slots.toNat)[i]? =some x->(fJ g s.dev).S[i]? =some t->ViOk g x t:=λi x t hi L ht=>N6 hA Z hi L ht;(have az:∀i:Nat,(i:Int)<g.slots->0<whole (A i)-> ∃x,(jt g s.dev A g.slots.toNat)[i]? =some x/\0<x.whole:=λi hi hp=>by obtain⟨x,V,R⟩:=Ob (g:=g) (d:=s.dev) (A:=A) (i:=i) om;exact⟨x,V,om⟩);have aH:=S6 g s.dev A g.slots.toNat;have aC:=Z.slen;have al:=Z.si;have an:=Z.sett;(have am:wO g s.dev=mQ s.dev.s.l g.nodes.toNat:=by rw[wO,ZW e0]);have bl:=Ek s.dev.s.l g.nodes.toNat;rw[Z.views,e0]at c1;rw[Z.err]at c2;rw[e0,am]at c3;(have aj:∀x V',rU g s.dev x V'-> ∃a n c a2 n2 c2 a3 n3 c3 m,x=.tuple #[.agg #[.slice a n c,.slice a2 n2 c2,.slice a3 n3 c3],I m,I 0]/\SlOf V' Slot.cells 2 (.slice a n c) (fJ g s.dev).S:=by rintro x V' ⟨a,n,c,a2,n2,c2,a3,n3,c3,m,rfl,h⟩;obtain⟨_,_,_,_,_,_,_,_,_,he,V,_,_⟩:=h e1;simp only[Value.agg.injEq,Array.mk.injEq,Yt,x_]at he;obtain⟨M,h5,h6⟩:=he;rw[<-M]at V;exact⟨a,n,c,a2,n2,c2,a3,n3,c3,m,by rw[e1],V⟩);generalize jt g s.dev A g.slots.toNat=L1 at*;generalize lX g s.dev A=L2 at*;generalize mQ s.dev.s.l g.nodes.toNat=L3 at*;generalize (fJ g s.dev).S=TS at*;refine zA J<|Qs J<|cS J ?_ ?_<;>intro h;{exact absurd h dc};clear h;refine kt (λx V'=>rU g s.dev x V') J (c0 W0 lr) ?_;rintro x W1 ap L;obtain⟨p1,q1,r1,p2,q2,r2,p3,q3,r3,m1,rfl,V⟩:=aj _ _ (L J);clear L;have l1:=ap;refine zA J<|Qs J<|zA J<|kt (uf View.cells 6 L1 0) J (c1 W1 l1) ?_;rintro x W2 ac L;obtain⟨p4,q4,r4,rfl,R⟩:=L J;clear L;have l2:=l1.trans ac;refine zA J<|kt (uf Sight.cells 3 L2 0) J (c2 W2 l2) ?_;rintro x W3 O L;obtain⟨p5,q5,r5,rfl,B⟩:=L J;clear L;have l3:=l2.trans O;replace V:=(V.mono ac).mono O;replace R:=R.mono O;clear c0 c1 c2 aj;refine zA J<|QY J (yN J R)<|zA J<|QY J (yN J V)<|zA J<|QY J (yN J B)<|cS J ?_ ?_<;>intro h;{exfalso;simp[aH,aI,aC]at h;omega};clear h;refine zL [2,5,7,10,12] [] J J (σ:=Nat) (λi=>[(14,.a (.v (I i)))]) (λi=>[]) (λi=>(i:Int)<=g.slots) (λi=>g.slots.toNat - i) (0) om ?_;rintro i hi;refine dD J ?_ ?_<;>intro h
 .obtain⟨x,a0⟩:=R.at (k:=i) om;obtain⟨t,a6⟩:=V.at (k:=i) om;obtain⟨v1,v2,v3,v4,v5,v6,v7,v8⟩:=aB i x t om a0 a6;have b6:=hf;clear h;have ag:=cC a0;refine QY J (yI J R)<|QY J (yL i 0 J R a0 J)<|zA J<|Qs J<|zA J<|Ra J<|QT [0,1,2,3,4] J ?_;have ae:=cC a6;refine Qt 5 J J (yI J V)<|Qt 6 J J (yF J V)<|Qt 7 J J (yL i 0 J V a6 J)<|QT [8,9,10,11,12,13,14] J ?_;have ae:=cC a6;refine Qt 15 J J (yI J V)<|Qt 16 J J (yF J V)<|Qt 17 J J (yL i 1 J V a6 J)<|QT [18,19,20,21,22,23,24,25,26,27,28,29,30,31,32,33,34,35,36,37,38,39,40,41,42,43,44,45,46,47,48,49,50,51,52,53,54,55,56,57,58,59,60,61,62,63,64,65] J ?_;refine QS<|nw J ?_ ?_<;>intro h;{refine cL aJ J ?_;exfalso;have aG:decide (0<x.txns)=decide (0<x.whole):=b_.2 v7;rw[cx (n:=2*x.txns) om om]at h;(rcases h with((((((h|h)|h)|h)|h)|h)|h)|⟨ha,hb⟩);{exact h v1};{exact h v2};{omega};{omega};{omega};{omega};{exact h aG};exact hb (v8 ha)};rw[cx (n:=(i:Int)+1) om om];refine Qr (i+1) om
 clear h;refine eR (Ev (gb 0 L2)) J (λhg E Y hm=>Rh hm.leV (LP W3 _ L2 _ hm.leV B om)) ?_;rintro x W4 X L;obtain⟨p6,q6,r6,rfl,M⟩:=L J;clear L;replace R:=R.mono X;replace B:=B.mono X;have bc:=DL L2 0;refine zA J<|zL [2,5,10,12,16] [] J J (σ:=Nat) (λi=>[(17,.a (.v (I i)))]) (λi=>[]) (λi=>i<=(gb 0 L2).length) (λi=>(gb 0 L2).length - i) (0) om ?_;rintro i hi;refine zB J<|QY J (yN J M)<|cJ J ?_ ?_<;>intro h;{obtain⟨p,z⟩:=M.at (k:=i) om;obtain⟨q,hq,sg,u,aD⟩:=H7 L2 0 p (ZZ z);rw[Zo]at hq;subst hq;have bk:=(List.getElem?_eq_some_iff.1 u).1;obtain⟨j,bd,bp,aM⟩:=(al sg (ZZ u)).resolve_left (λhc=>aD hc.1);obtain⟨x,a0,bn⟩:=az j om aM;(have aF:IntKind.i64.wrap (sg.by_ - 1)=(j:Int):=by rw[cx om om];omega);have b5:=cC z;clear h;refine Ra J<|QT [0,1] J ?_;have o:=cC z;refine Qt 2 J J (yI J M)<|Qt 3 J J (dy aJ (i) 0 ((q:Int)) J (λhg=>M) (λhg=>z) J J)<|QT [4,5,6,7] J ?_;have o:=cC z;refine Qt 8 J J (yI J M)<|Qt 9 J J (dy aJ (i) 0 ((q:Int)) J (λhg=>M) (λhg=>z) J J)<|QT [10,11,12,13,14,15,16,17] J ?_;have o:=cC z;refine Qt 18 J J (yI J M)<|Qt 19 J J (dy aJ (i) 0 ((q:Int)) J (λhg=>M) (λhg=>z) J J) ?_;have y:=cC u;refine Qt 20 J J (yI J B)<|Qt 21 J J (yF J B)<|Qt 22 J J (yL q 2 J B u J)<|QT [23,24,25,26,27,28] J ?_;have o:=cC z;refine Qt 29 J J (yI J M)<|Qt 30 J J (dy aJ (i) 0 ((q:Int)) J (λhg=>M) (λhg=>z) J J) ?_;have y:=cC u;refine Qt 31 J J (yI J B)<|Qt 32 J J (yF J B)<|Qt 33 J J (yL q 2 J B u J)<|QT [34,35,36,37,38,39,40,41,42] J ?_;have o:=cC z;refine Qt 43 J J (yI J M)<|Qt 44 J J (dy aJ (i) 0 ((q:Int)) J (λhg=>M) (λhg=>z) J J) ?_;have y:=cC u;refine Qt 45 J J (yI J B)<|Qt 46 J J (yF J B)<|Qt 47 J J (yL q 2 J B u J)<|QT [48] J ?_;rw[aF];have ag:=cC a0;refine Qt 49 J J (yI J R)<|Qt 50 J J (yF J R)<|Qt 51 J J (yL j 4 J R a0 J)<|QT [52,53] J<|QS<|nw J ?_ ?_<;>intro h;{refine cL aJ J ?_;exfalso;omega};rw[cx (n:=(i:Int)+1) om om];refine Qr (i+1) om};clear h;refine zL [2,5,10,12,16] [] J J (σ:=Nat) (λi=>[(18,.a (.v (I i)))]) (λi=>[]) (λi=>(i:Int)<=g.blocks) (λi=>g.blocks.toNat - i) (0) om ?_;rintro i hi;refine dD J ?_ ?_<;>intro h
 .obtain⟨sg,u⟩:=B.at (k:=i) om;have aE:=al sg (ZZ u);clear h;refine Ra J<|QT [0,1] J ?_;have y:=cC u;refine Qt 2 J J (yI J B)<|Qt 3 J J (yF J B)<|Qt 4 J J (yL i 2 J B u J)<|QT [5,6,7,8] J ?_;have y:=cC u;refine Qt 9 J J (yI J B)<|Qt 10 J J (yF J B)<|Qt 11 J J (yL i 0 J B u J)<|QT [12,13] J ?_;have y:=cC u;refine Qt 14 J J (yI J B)<|Qt 15 J J (yF J B)<|Qt 16 J J (yL i 1 J B u J)<|QT [17,18] J<|QS<|nw J ?_ ?_<;>intro h;{refine cL aJ J ?_;exfalso;(rcases aE with⟨_,aA⟩|⟨i2,_,b3,_⟩);{exact h.2 (by rw[aA])};omega};rw[cx (n:=(i:Int)+1) om om];refine Qr (i+1) om
 clear h;refine kt (uf cB 1 L3 0) J (c3 W4 (l3.trans X)) ?_;rintro x W5 a8 L;obtain⟨p7,q7,r7,rfl,h5⟩:=L J;clear L;replace R:=R.mono a8;replace M:=M.mono a8;refine zA J<|QY J (yN J h5)<|zA J<|dq J (λhg E Y hm=>Gn W5 _ L1 _ hm.leV R om) ?_;refine zA J<|QY J (yN J M)<|zA J<|zC J (jc g ok) ?_;refine zA J<|zC J KK ?_;refine zA J<|Qb J λE w' hm=>⟨?_,hm.below ((((ad.trans l3).trans X).trans a8))⟩;show Ending.returned (.bool _)=Ending.returned (.bool true);congr 2;have ak:((L3.length:Int)=g.nodes):=om
 have hp:(((gb 0 L2).length:Int)==0)=(gb 0 L2).isEmpty:=by
  cases gb 0 L2 with
  |nil=>rfl
  |cons a r=>simp;omega
 rw[an,hG,ak,hp];simp
