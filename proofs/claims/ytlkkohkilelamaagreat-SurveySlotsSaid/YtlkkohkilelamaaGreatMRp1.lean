import Derived.Test.YtlkkohkilelamaaGreatMTSl
import Derived.Test.YtlkkohkilelamaaGreatEng45
import Derived.Test.YtlkkohkilelamaaGreatEng31
import Derived.Test.YtlkkohkilelamaaGreatEng51
/- A part of the proof of SurveySlots. -/
set_option linter.unusedVariables false
set_option linter.unusedSimpArgs false
set_option maxRecDepth 100000
set_option maxHeartbeats 4000000
namespace Go.Proofs.YtlkkohkilelamaaGreat
open Go Go.Eng Go.RowKit
theorem zl{V:Vw}{v:Z7}{sz m:Nat}{xs:Z8 Z7}(h:eL V v sz m xs):∃a c,v=.slice a m c/\m<=c/\eL V (.slice a m m) sz m xs:=by (rcases h with⟨o,⟨a,c,rfl,rfl⟩|⟨b,off,l,cs,e,f,rfl,p,d,u,t⟩⟩);{exact⟨a,c,J,Zz _,o,.inl ⟨a,0,J,J⟩⟩};exact⟨_,l,J,t,o,.inr ⟨b,off,m,cs,e,f,J,p,d,u,ZS _⟩⟩
theorem T5{V:Vw}{a:Z4 Addr}{m c sz:Nat}{xs:Z8 Z7}(h:eL V (.slice a m c) sz m xs){k:Nat}(l:k<=m):eL V (.slice a k k) sz k (xs.take (k*sz)):=by
 have ⟨h0,h1⟩:=h;have t:=Zn sz l;refine⟨by rw[ZL];omega,?_⟩;(rcases h1 with⟨u,w,d,rfl⟩|⟨b,off,o,cs,e,f,d,y,p,B,z⟩);{simp_all};cases d
 grind
theorem F0{α:Type}{V:Vw}{enc:α->Z8 Z7}{sz:Nat}{a:Z4 Addr}{n c:Nat}{l:Z8 α}(h:SlOf V enc sz (.slice a n c) l){k:Nat}(d:k<=l.length):SlOf V enc sz (.slice a k k) (l.take k):=by
 have ⟨a',c',he,_,_⟩:=zl h.sl;cases he;have:=T5 h.sl d;rw[wG h.len]at this;refine⟨?_,h.len⟩
 simp_all
theorem H5(V:Vw)(a:Z4 Addr)(n c:Nat)(l:Z8 Record)(w:Z6)(hV:V.le (vw w))(m:SlOf V Record.cells 6 (.slice a n c) l)(z:l.length<=1000000): Rt 23 #[.slice a n c] w (.slice a (whole l) (whole l)):=by have o:=m.mono hV;have p:=ur l;have ⟨a',c',he,hlc,_⟩:=zl o.sl;cases he;refine dC [.a (.v (.slice a l.length c))] J<|dq J (λt E u d=>Mb (vw w) _ l _ d.leV o (by simp only[eg];omega))<|zA J<|QY J (EE aJ J (λt=>⟨om,om,om⟩))<|zA J<|cL aJ J ?_;rw[ZH];intro E y d _;refine⟨?_,d.below lr⟩;rfl
theorem rG{α:Type}{l:Z8 α}{i:Nat}{x:α}(h:l[i]? =some x):l.take (i+1)=l.take i++[x]:=by rw[k_,h];rfl
theorem HG(V:Vw)(L:Z7)(l:Z8 Record)(w:Z6)(hV:V.le (vw w))(y:SlOf V Record.cells 6 L l)(N:l.length<=1000000): Rt 343 #[L] w (I (whole l)):=by have m:=y.mono hV;refine dU J<|zL [0] [] J J (σ:=Nat×Nat) (λ(i,n)=>[(3,.a (.v (I n))),(4,.a (.v (I i)))]) (λ(i,n)=>[]) (λ(i,n)=>i<=l.length/\n<=i/\whole l=gR (l.drop i) i n (i - n)) (λ(i,n)=>l.length - i) ((0,0)) (⟨om,om,J⟩) ?_;rintro⟨i,n⟩ ⟨hi,B,d⟩;dsimp only at hi B d⊢;refine zB J<|QY J (yN J m)<|cJ J ?_ ?_<;>intro h;{have ⟨r,h_r⟩:=m.at (k:=i) om;rw[gX h_r,gR]at d;have p:IntKind.i64.wrap ((i:Int)+1)=((i+1:Nat):Int):=cx om om;have o:=cC h_r;refine QY J (yI J m)<|QY J (yF J m)<|QY J (yL i 5 J m h_r J)<|cJ J ?_ ?_<;>intro h;{rw[ZW h,show i - n+1=i+1 - n by omega]at d;rw[p];refine Qr ((i+1,n))<|⟨by dsimp only;omega,by dsimp only;omega,d⟩};rw[ZX h]at d;clear h;(have t:IntKind.i64.wrap ((i:Int) - n)=((i - n:Nat):Int):=by rw[cx om om];omega);have o:=cC h_r;refine QY J (yI J m)<|QY J (yF J m)<|QY J (yL i 5 J m h_r J)<|cJ J ?_ ?_<;>intro h;{refine cL aJ J ?_;rw[t]at h;rw[ZW h]at d;intro E M u _;refine⟨?_,u.below lr⟩;rw[d];rfl};rw[t]at h;rw[ZX (cU h)]at d;rw[p];refine Qr ((i+1,i+1))<|⟨by dsimp only;omega,by dsimp only;omega,by dsimp only;rw[d,p_]⟩};refine cL aJ J ?_;have z:i=l.length:=om;subst z;rw[Zp,gR]at d;intro E M u _;refine⟨?_,u.below lr⟩;rw[d];rfl
def JY(L:Z8 Record)(w:Z6)(e:Ending)(w':Z6):Prop:=
 (∃v,e=.returned v/\w'.ownsRow w.heap.size 86 6 v L.length (L.flatMap Record.cells))/\cH w w'
def Fo(L:Z8 Record)(x:Z7)(V':Vw):Prop:= ∃a n c,x=.slice a n c/\SlOf V' Record.cells 6 (.slice a n c) L
theorem TZ{V:Vw}{f:Nat}{L:Z8 Record}{args:Array Z7}{w:Z6}(hV:V.le (vw w))(h:Cl f args w (JY L w)): Cl f args w λe w'=>∃x V',e=.returned x/\cH w w'/\Vext w.heap.size V V' w'/\Fo L x V':=by refine h.mono ?_;rintro e w' ⟨⟨v,rfl,d⟩,l⟩;have ⟨V',hx,hsl⟩:=jS hV l d;obtain⟨a,n,c,rfl⟩:=cD hsl;exact⟨_,V',J,l,hx,a,n,c,J,hsl,cw⟩
theorem NQ(V:Vw)(p:Z7)(l:Z8 Record)(w:Z6)(hV:V.le (vw w))(o:SlOf V Record.cells 6 p l)(z:l.length<=1000000): Cl 341 #[p] w (JY (l.take (whole l)) w):=by have t:=o.mono hV;have y:=ur l;(have M:(l.take (whole l)).length=whole l:=by rw[ZL];omega);(have m:SlOf (vw w) Record.cells 6 (dV p 0 (whole l) 6) (l.take (whole l)):=by have:=t.cut (lo:=0) (hi:=whole l) om y;simpa using this);refine dU J<|QZ J (cX aJ 6 J J J) λ_ _=>zA J<|dq J (λu E B d=>HG (vw w) _ l _ d.leV t z)<|QY J (kx aJ J (λu=>t.sl) (λu=>by dsimp only[Option.getD];omega)) ?_;rw[show((some ((whole l:Nat):Int)).getD (l.length:Int)).toNat=whole l by simp[Option.getD]];refine QZ J (cQ aJ ((l.take (whole l)).flatMap Record.cells) J (λE w d=>m.sl.src d.get) (λ_ _ _=>nM _) od) λ_ _=>zA J<|cL aJ J ?_;rw[ZB,Zo (l.take (whole l)).length];intro E L d _;exact⟨⟨E.κ 1,J,d.rowFresh lr (l:=1) J⟩,d.below lr⟩
theorem CA{g:Geo}(d:cY g=true){slot lsn:Int}(m:0<=dt g slot)(y:0<=lsn):0<=fK g slot lsn/\fK g slot lsn<dw g:=by
 have t:=dE d;have B:=gC d
 have p:0<=slot/\slot<g.slots:=by
  unfold dt at m
  grind
 (have u:dt g slot=1+2*g.nodes+g.log+slot*(1+g.journal):=by rw[dt,ZW ⟨d,p⟩]);have hd:eO g=1+2*g.nodes+g.log+g.slots*(1+g.journal):=rfl;have l:(slot+1)*(1+g.journal)<=g.slots*(1+g.journal):=Y3 om om;rw[u']at l;have w:=O_ lsn (show g.journal≠0 by omega);have o:=X8 lsn (show 0<g.journal by omega);(have z:dw g=eO g+g.blocks*g.per:=by rw[dw,ZW d]);rw[fK,ZX om];omega
structure RowsOf(g:Geo)(slot key tail:Int)(D:List ByteArray)(A:List Record):Prop where
 geo:cY g=true
 len:(D.length:Int)=dw g
 hd:0<=dt g slot
 tl0:0<=tail
 tl1:tail<=1099511627776
 few:(A.length:Int)<=g.journal
 sz:∀s∈D,s.size<=maxLen
 at_:∀(j:Nat) r,A[j]? =some r-> ∃s,D[(fK g slot (tail+j)).toNat]? =some s/\mc s key (tail+j)=true/\oQ s key (tail+j)=r
 rest:(A.length:Int)<g.journal-> ∃s,D[(fK g slot (tail+A.length)).toNat]? =some s/\mc s key (tail+A.length)=false
theorem Sm{g:Geo}{slot key d:Int}{D:Z8 Z5}(w:cY g=true)(o:(D.length:Int)=dw g)(z:0<=dt g slot)(E:0<=d)(M:d<=1099511627776)(N:∀s∈D,s.size<=maxLen):∃A,RowsOf g slot key d D A:=by
 have O:=dE w
 have p:∀m:Nat,(m:Int)<=g.journal-> ∃A:Z8 Record,A.length<=m/\(∀(j:Nat) r,A[j]? =some r-> ∃s,D[(fK g slot (d+j)).toNat]? =some s/\mc s key (d+j)=true/\oQ s key (d+j)=r)/\
   (A.length<m-> ∃s,D[(fK g slot (d+A.length)).toNat]? =some s/\mc s key (d+A.length)=false):=by
  intro m
  induction m with
  |zero=>intro _;exact⟨[],ZS _,λj r h=>by simp at h,λh=>by simp at h⟩
  |succ m ih=>
   intro R
   have ⟨A,hA1,hA2,hA3⟩:=ih om
   by_cases u:A.length<m
   . exact⟨A,om,hA2,λ_=>hA3 u⟩
   ·
    have T:A.length=m:=om
    have V:=CA w z (lsn:=d+A.length) om
    have ⟨s,hs⟩:=fk (L:=D) (k:=(fK g slot (d+A.length)).toNat) om
    cases y:mc s key (d+A.length)with
    |false=>exact⟨A,om,hA2,λ_=>⟨s,hs,y⟩⟩
    |true=>
     refine⟨A++[oQ s key (d+A.length)],by simp;omega,λj r l=>?_,λh=>by simp at h;omega⟩
     rw[List.getElem?_append]at l
     split at l
     . exact hA2 j r l
     ·
      rename_i B
      have t:j=A.length:=by
       have:=(List.getElem?_eq_some_iff.1 l).1
       simp at this
       omega
      subst t
      simp at l
      exact⟨s,hs,y,l⟩
 have ⟨A,hA1,hA2,hA3⟩:=p g.journal.toNat om;exact⟨A,w,o,z,E,M,om,N,hA2,λh=>hA3 om⟩
abbrev oM(a ca ka fa:Z4 Addr)(n c cn cc kn kc fn fc:Nat)(nx:Int):Z7:=.agg #[.slice a n c,.slice ca cn cc,.slice ka kn kc,I nx,.slice fa fn fc]
abbrev BV(g:Geo)(sa:Z4 Addr)(sn sc:Nat)(slot:Int):Z8 Z7:=[I g.nodes,I g.slots,I g.blocks,I g.per,I g.journal,I g.log,I g.lease,I g.wait,.slice sa sn sc,I slot]
def Ai(tail:Int):Nat->Int
 |0=>tail
 |n+1=>tail+((n+1:Nat):Int)
theorem Gi(tail:Int):∀n:Nat,Ai tail n=tail+(n:Int)
 |0=>by simp[Ai]
 |n+1=>rfl
theorem Ts(V:Vw)(bt bj bk:Nat)(g:Geo)(ok:g.Ok)(slot key d:Int)(D:Z8 Z5)(A:Z8 Record)(hJ:RowsOf g slot key d D A)(sa:Z4 Addr)(sn sc:Nat) (ag:V.get bt=some (.cells [I d].toArray 3 (0,0))) (ab:V.get bj=some (.cells (BV g sa sn sc slot).toArray 213 (0,0))) (aH:V.get bk=some (.cells [I key].toArray 3 (0,0))) (hs:SlOf V da 1 (.slice sa sn sc) D) (m:Nat) (w0:Z6) (hV:V.le (vw w0)): Lr m bJ 130 #[eP bt,eP bj,eP bk] (λr:Record=> #[r.val]) V (λxs=>xs=A) (λ_=>True) A.length w0:=by
 intro l J9q Jx W hW aE an aG hY h0
 have ao:V.le (vw W):=hV.trans ⟨λk o hk=>by
  have:=hW.block k (Array.getElem?_eq_some_iff.1 hk).1
  show W.heap[k]? =some o
  rw[this];exact hk,hW.os,hW.tape,hW.output⟩
 have Z:∀{R p A B},J9q R p A->(vw A).le (vw B)->J9q R p B:=λ{R p A B} h X=>an _ _ _ _ (aE _ _ _ _ none h (zm X) (λr e=>by cases e)) (λk hk=>.inl hk);have hf:=dE hJ.geo;have aQ:=hJ.few;have aW:=hJ.tl0;have aU:=hJ.tl1;have ah:IntKind.i64.wrap (d+g.journal)=d+g.journal:=cx om om;show CallsIn _ _ _ _ #[.func (.yield l) #[] #[],eP bt,eP bj,eP bk] _ _;refine wy _ [.a (.v (.func (.yield l) #[] #[])),.a (.v (eP bt)),.a (.v (eP bj)),.a (.v (eP bk))] Tryz.func130 J J (jh E0 0 W) J J<|ef<|Rr<|QY J (fp aJ J (λt=>ao.get _ _ ag) J)<|QE 1 [0,1,2,3,5] J<|rq<|Qw<|ki<|wk [0,1,2,3] [] J J (σ:=Nat×Z6) (λy=>[(5,.a (.v (I (Ai d y.1))))]) (λy=>[]) (λy=>vw y.2) (λy=>(y.1<=A.length/\J9q (λ_=>False) (A.take y.1) y.2/\V.le (vw y.2))) (λy=>A.length+1 - y.1) ((0,W)) (⟨om,h0,ao⟩) ff oo J lr ?_;rintro⟨i,W1⟩ ⟨hi,Y,M⟩;dsimp only at hi Y M⊢;rw[Gi]
 iterate 2 refine ef ?_
 refine Rr<|Yy 1 J<|QY J (fp aJ J (λt=>M.get _ _ ag) J)<|Yy 2 J<|QY J (fp aJ J (λt=>M.get _ _ ab) J)<|QE 2 [0,1,2,3,5,15] J<|rq<|Qw<|kN J ?_ ?_<;>intro h
 .simp only[Xa,Xb,Xc,Xd,Xe,Xf,Xg,Xh,Xi,Xj,Xk,Xl,Xm,Xn,Xo,Xp]at h;rw[ah]at h;(obtain⟨b,R,s,O,ay,hb,hR,af⟩:∃(b:Bool) (R:Record) (s:Z5),D[(fK g slot (d+i)).toNat]? =some s/\s.size<=maxLen/\mc s key (d+i)=b/\oQ s key (d+i)=R/\((i<A.length/\b=true/\A[i]? =some R)\/(i=A.length/\b=false)):=by by_cases ac:i<A.length;{obtain⟨r,hr⟩:∃r,A[i]? =some r:=⟨_,List.getElem?_eq_getElem ac⟩;obtain⟨s,z,a6,ax⟩:=hJ.at_ i r hr;exact⟨true,r,s,z,hJ.sz s (ZZ z),a6,ax,.inl ⟨ac,J,hr⟩⟩};have a7:i=A.length:=om;obtain⟨s,z,a6⟩:=hJ.rest om;rw[<-a7]at z a6;exact⟨false,_,s,z,hJ.sz s (ZZ z),a6,J,.inr ⟨a7,J⟩⟩);have aS:=(CA hJ.geo hJ.hd (lsn:=d+i) om).1;obtain⟨q,hq⟩:∃q:Nat,fK g slot (d+i)=q:=⟨(fK g slot (d+i)).toNat,om⟩;rw[hq,ZH]at O;have aL:=cC O;have ad:=λw=>Up g ok slot (d+i) w;rw[hq]at ad;have L:=λw=>Vo s key (d+i) ay w;rw[hb,hR]at L;have z:=hs.mono M;refine lj<|Qw<|ef<|ki<|ef<|Vc J (σ:=Unit) (λ_=>[(0,.a (.v (.func (.yield l) #[] #[]))),(1,.a (.v (eP bt))),(2,.a (.v (eP bj))),(3,.a (.v (eP bk))),(5,.a (.v (I (d+(i:Int))))),(6,.a (.ptr 0 0)),(7,.a (.v (.bool b)))]) (λ_=>[(0,.lit (R.cells.map .v) 86)]) (1) (λ_=>vw W1) (λ_=>True) mixed ?_ ?_
  .refine QT [0] J<|zt 1 J (fp aJ J (λt=>M.get _ _ ab) J)<|QT [2] J<|zt 3 J (fp aJ J (λt=>M.get _ _ ab) J)<|QT [4] J<|zt 5 J (fp aJ J (λt=>M.get _ _ ab) J)<|QT [6] J<|zt 10 J (fp aJ J (λt=>M.get _ _ aH) J)<|QT [11] J<|QS<|Qz 7 16 ?_ ?_
   .refine Qh 7 (.a (.v (I (q:Int)))) J J (FN 132) (λt E w1 T=>ad _)<|Qz 8 16 ?_ ?_
    .refine Qy 8 J J (dO aJ q J sm (λt=>z.sl) (λt=>om))<|Qz 9 16 ?_ ?_
     .refine Qy 9 J J (dy (enc:=da) (l:=D) aJ q 0 s J (λt=>z) (λt=>O) sm J)<|Qz 12 16 ?_ ?_
      .refine Qh 12 (.a (.v (.tuple #[R.val,.bool b]))) J J (FN 131) (λt E w1 T=>L _)<|Qz 13 16 ?_ ?_
       .refine yH 13 J J J J J<|wj 14 15 16 kr ?_ ?_ ?_;{refine yH 14 J J J J J<|Qz 15 16 ?_ ?_;{refine yH 15 J J J J J<|Qo 16<|Qk 16 J J J J<|zI 17 J<|Qx [18] J<|Qe [0,1,2,3,5,6,7] J ?_;exact Qm () ZY};refine Qk 16 J J J J<|Qz 15 17 ?_ ?_;{refine yH 15 J J J J J<|zI 17 J<|Qx [18] J<|Qe [0,1,2,3,5,6,7] J ?_;exact Qm () ZY};refine Qi 17 J<|Qx [15,18] J<|Qe [0,1,2,3,5,6,7] J ?_;exact Qm () ZY};{refine yH 15 J J J J J<|Qz 14 16 ?_ ?_;{refine yH 14 J J J J J<|Qo 16<|Qk 16 J J J J<|zI 17 J<|Qx [18] J<|Qe [0,1,2,3,5,6,7] J ?_;exact Qm () ZY};refine Qk 16 J J J J<|Qx [14] J<|zI 17 J<|Qx [18] J<|Qe [0,1,2,3,5,6,7] J ?_;exact Qm () ZY};refine Qk 16 J J J J<|Qz 14 15 ?_ ?_;{refine yH 14 J J J J J<|Qz 15 17 ?_ ?_;{refine yH 15 J J J J J<|zI 17 J<|Qx [18] J<|Qe [0,1,2,3,5,6,7] J ?_;exact Qm () ZY};refine Qi 17 J<|Qx [15,18] J<|Qe [0,1,2,3,5,6,7] J ?_;exact Qm () ZY};refine yH 15 J J J J J<|Qx [14] J<|zI 17 J<|Qx [18] J<|Qe [0,1,2,3,5,6,7] J ?_;exact Qm () ZY
       refine Qk 16 J J J J<|Qx [13] J<|Qz 14 15 ?_ ?_;{refine yH 14 J J J J J<|Qz 15 17 ?_ ?_;{refine yH 15 J J J J J<|zI 17 J<|Qx [18] J<|Qe [0,1,2,3,5,6,7] J ?_;exact Qm () ZY};refine Qi 17 J<|Qx [15,18] J<|Qe [0,1,2,3,5,6,7] J ?_;exact Qm () ZY};refine yH 15 J J J J J<|Qx [14] J<|zI 17 J<|Qx [18] J<|Qe [0,1,2,3,5,6,7] J ?_;exact Qm () ZY
      refine Qk 16 J J J J<|Qo 12<|Qh 12 (.a (.v (.tuple #[R.val,.bool b]))) J J (FN 131) (λt E w1 T=>L _)<|Qx [13] J<|Qz 14 15 ?_ ?_;{refine yH 14 J J J J J<|Qz 15 17 ?_ ?_;{refine yH 15 J J J J J<|zI 17 J<|Qx [18] J<|Qe [0,1,2,3,5,6,7] J ?_;exact Qm () ZY};refine Qi 17 J<|Qx [15,18] J<|Qe [0,1,2,3,5,6,7] J ?_;exact Qm () ZY};refine yH 15 J J J J J<|Qx [14] J<|zI 17 J<|Qx [18] J<|Qe [0,1,2,3,5,6,7] J ?_;exact Qm () ZY
     refine Qk 16 J J J J<|zY 9 J (dy (enc:=da) (l:=D) aJ q 0 s J (λt=>z) (λt=>O) sm J)<|Qo 12<|Qh 12 (.a (.v (.tuple #[R.val,.bool b]))) J J (FN 131) (λt E w1 T=>L _)<|Qx [13] J<|Qz 14 15 ?_ ?_;{refine yH 14 J J J J J<|Qz 15 17 ?_ ?_;{refine yH 15 J J J J J<|zI 17 J<|Qx [18] J<|Qe [0,1,2,3,5,6,7] J ?_;exact Qm () ZY};refine Qi 17 J<|Qx [15,18] J<|Qe [0,1,2,3,5,6,7] J ?_;exact Qm () ZY};refine yH 15 J J J J J<|Qx [14] J<|zI 17 J<|Qx [18] J<|Qe [0,1,2,3,5,6,7] J ?_;exact Qm () ZY
    refine Qk 16 J J J J<|zY 8 J (dO aJ q J sm (λt=>z.sl) (λt=>om))<|zY 9 J (dy (enc:=da) (l:=D) aJ q 0 s J (λt=>z) (λt=>O) sm J)<|Qo 12<|Qh 12 (.a (.v (.tuple #[R.val,.bool b]))) J J (FN 131) (λt E w1 T=>L _)<|Qx [13] J<|Qz 14 15 ?_ ?_;{refine yH 14 J J J J J<|Qz 15 17 ?_ ?_;{refine yH 15 J J J J J<|zI 17 J<|Qx [18] J<|Qe [0,1,2,3,5,6,7] J ?_;exact Qm () ZY};refine Qi 17 J<|Qx [15,18] J<|Qe [0,1,2,3,5,6,7] J ?_;exact Qm () ZY};refine yH 15 J J J J J<|Qx [14] J<|zI 17 J<|Qx [18] J<|Qe [0,1,2,3,5,6,7] J ?_;exact Qm () ZY
   refine Qk 16 J J J J<|Qo 7<|Qh 7 (.a (.v (I (q:Int)))) J J (FN 132) (λt E w1 T=>ad _)<|zY 8 J (dO aJ q J sm (λt=>z.sl) (λt=>om))<|zY 9 J (dy (enc:=da) (l:=D) aJ q 0 s J (λt=>z) (λt=>O) sm J)<|Qo 12<|Qh 12 (.a (.v (.tuple #[R.val,.bool b]))) J J (FN 131) (λt E w1 T=>L _)<|Qx [13] J<|Qz 14 15 ?_ ?_;{refine yH 14 J J J J J<|Qz 15 17 ?_ ?_;{refine yH 15 J J J J J<|zI 17 J<|Qx [18] J<|Qe [0,1,2,3,5,6,7] J ?_;exact Qm () ZY};refine Qi 17 J<|Qx [15,18] J<|Qe [0,1,2,3,5,6,7] J ?_;exact Qm () ZY};refine yH 15 J J J J J<|Qx [14] J<|zI 17 J<|Qx [18] J<|Qe [0,1,2,3,5,6,7] J ?_;exact Qm () ZY
  rintro⟨⟩ -;refine Qw<|ef ?_;rcases af with⟨ac,aj,aC⟩|⟨a7,aA⟩
  .subst aj;have aF:A.take (i+1)=A.take i++[R]:=rG aC;(have a8:∀w,(vw W1).le (vw w)->YieldAt (Rd none) (m - 1) bJ l #[R.val] w λe w'=>∃b V',e=.returned (.bool b)/\V'.le (vw w')/\ ∃W',V'=vw W'/\(b=true->J9q (λ_=>False) (A.take (i+1)) W'/\V.le (vw W'))/\(b=false->Jx (A.take (i+1)) W'):=by intro w X;refine GS (hY _ _ R w (Z Y X) (by rw[ZL];omega)) ?_;intro e w' ae;rw[aF];(rcases ae with⟨rfl,hj,aB,_⟩|⟨rfl,hj⟩);{exact⟨true,vw w',J,Vw.le.refl _,w',J,λ_=>⟨hj,aB (M.trans X)⟩,λhf=>(by cases hf)⟩};exact⟨false,vw w',J,Vw.le.refl _,w',J,λhf=>(by cases hf),λ_=>hj⟩);refine BJ 5 (by intro _ _ w1 N;first|exact N|(obtain⟨u,_⟩:=N;cases u;done)|(obtain⟨⟨_,u⟩,_⟩:=N;cases u;done)|(obtain⟨⟨_,u,_⟩,_⟩:=N;cases u;done)|(obtain⟨_,u,_⟩:=N;cases u;done)|(obtain⟨_,_,u,_⟩:=N;cases u;done)|(obtain⟨_,_,_,u,_⟩:=N;cases u;done)|(rcases N with⟨⟨_,_,u,_⟩|⟨_,u⟩,_⟩<;>cases u;done)|(exact nor _ N)) J J ?_;refine Yy 5 J<|TN<|ry _<|RG<|PF (λb V'=>∃W',V'=vw W'/\(b=true->J9q (λ_=>False) (A.take (i+1)) W'/\V.le (vw W'))/\(b=false->Jx (A.take (i+1)) W')) J (rfl) J J J (λE w X=>by exact a8 w X) ?_;rintro q2 V' ⟨W',rfl,aD,ae⟩;refine Ds (by intro _ _ w1 N;first|exact N|(obtain⟨u,_⟩:=N;cases u;done)|(obtain⟨⟨_,u⟩,_⟩:=N;cases u;done)|(obtain⟨⟨_,u,_⟩,_⟩:=N;cases u;done)|(obtain⟨_,u,_⟩:=N;cases u;done)|(obtain⟨_,_,u,_⟩:=N;cases u;done)|(obtain⟨_,_,_,u,_⟩:=N;cases u;done)|(rcases N with⟨⟨_,_,u,_⟩|⟨_,u⟩,_⟩<;>cases u;done)|(exact nor _ N)) J ?_;refine QE 2 [0,1,2,3,5,41] J<|rq<|Qw<|kN J ?_ ?_<;>intro h
   .refine mq<|QP<|QL<|QL<|QP<|qQ aJ J ?_;cases q2 with
    |true=>exact absurd h sm
    |false=>intro E w' T _;exact⟨⟨_,J⟩,.inr ⟨_,ZY,Ch aG (ae J) T.leV⟩⟩
   refine lj<|QM<|Qw<|Rr<|QE 3 [0,1,2,3,5] J<|rq<|Qw ?_;cases q2 with
   |false=>exact absurd h sm
   |true=>obtain⟨hj,hv⟩:=aD J;rw[show IntKind.i64.wrap (d+(i:Int)+1)=Ai d (i+1)from by rw[Gi];exact(cx om om).trans om];refine rW ((i+1,W')) (⟨by dsimp only;omega,hj,hv⟩) od ff oo J<|Vw.le.refl _
  subst aA;refine Rr<|Yy 5 J<|qJ (.a (.v (.bool true))) J J J J J (λt E w1 T=>absurd t sm)<|QE 2 [0,1,2,3,5,41] J<|rq<|Qw<|kN J ?_ ?_<;>intro h;{refine mq<|QP<|QL<|QL<|QP<|qQ aJ J ?_;intro E w' T _;refine⟨⟨_,J⟩,.inl ⟨A,J,λ_=>False,Z (R:=λ_=>False) (p:=A) (A:=W1) ?_ T.leV⟩⟩;rw[a7,ZG (ZS _)]at Y;exact Y};exact absurd h sm
 simp only[Xa,Xb,Xc,Xd,Xe,Xf,Xg,Xh,Xi,Xj,Xk,Xl,Xm,Xn,Xo,Xp]at h;refine vN<|QK<|QK<|QQ<|KE aJ J ?_;rw[ah]at h;have az:i=A.length:=om;intro E w' T _;refine⟨⟨_,J⟩,.inl ⟨A,J,λ_=>False,Z (R:=λ_=>False) (p:=A) (A:=W1) ?_ T.leV⟩⟩;rw[az,ZG (ZS _)]at Y;exact Y
theorem Bg{E:Env}{O:Go.Eng.Own}{nl:Nat}{w d:Z6}(m:Mem E O nl (vw w) d){l e:Nat}{cs:Z8 Go.Eng.A}(o:lk O l=some (.lit cs e)):w.heap.size<=E.ρ l:=by (rcases YM (E.ρ l) w.heap.size with h|h);{have:=m.off l _ (E.ρ l) o J;rw[show(vw w).get (E.ρ l)=w.heap[E.ρ l]? from J,Array.getElem?_eq_getElem h]at this;cases this};exact h
abbrev Eo(g:Geo)(sa:Z4 Addr)(sn sc:Nat)(slot:Int):Z7:=.agg #[I g.nodes,I g.slots,I g.blocks,I g.per,I g.journal,I g.log,I g.lease,I g.wait,.slice sa sn sc,I slot]
theorem SP(V:Vw)(g:Geo)(u:Z4 Addr)(sn y:Nat)(slot key m:Int)(w:Z6)(hV:V.le (vw w)):kD 91 #[Eo g u sn y slot,I key,I m] w V λv V'=>∃bt bj bk,v=.func (.func 130) #[] #[eP bt,eP bj,eP bk]/\V'.get bt=some (.cells [I m].toArray 3 (0,0))/\V'.get bj=some (.cells (BV g u sn y slot).toArray 213 (0,0))/\V'.get bk=some (.cells [I key].toArray 3 (0,0)):=by refine jC J<|Qb J λE L p=>?_;have z:=p.below lr;have R:=p.lit 0 _ _ J;have O:=p.lit 1 _ _ J;have M:=p.lit 2 _ _ J;have T:=Bg p (l:=0) J;have N:=Bg p (l:=1) J;have B:=Bg p (l:=2) J;refine⟨_,⟨λk=>if w.heap.size<=k then L.heap[k]? else V.get k,V.os,V.tape,V.output⟩,J,z,⟨⟨λk o d=>?_,J,J,J⟩,λk o d=>?_⟩,E.ρ 2,E.ρ 0,E.ρ 1,J,?_,?_,?_⟩;{have t:=(Array.getElem?_eq_some_iff.1 (hV.get k o d)).1;show(if _ then _ else _)=_;rw[ZX om];exact d};{change (if _ then _ else _)=_ at d;split at d;{exact⟨d,.inr (by assumption)⟩};have t:=(Array.getElem?_eq_some_iff.1 (hV.get k o d)).1;exact⟨(z.block k t).trans (hV.get k o d),.inl d⟩};{show(if _ then _ else _)=_;rw[ZW B];exact M};{show(if _ then _ else _)=_;rw[ZW T];exact R};show(if _ then _ else _)=_;rw[ZW N];exact O
def Dc(g:Geo)(D:Z8 Z5)(slot:Int):Bool:=cY g&&decide ((D.length:Int)=dw g)&&decide (0<=dt g slot)
theorem TH(V:Vw)(g:Geo)(ok:g.Ok)(slot:Int)(a ca l p:Z4 Addr)(n c cn u kn kc fn t:Nat)(nx:Int)(D:Z8 Z5)(w:Z6)(hV:V.le (vw w))(d:SlOf V da 1 (.slice a n c) D): Rt 90 #[g.val,oM a ca l p n c cn u kn kc fn t nx,I slot] w (.tuple #[Eo g a n c slot,.bool (Dc g D slot)]):=by obtain⟨L,B,z,_⟩:=zl d.sl;cases z;refine dC [.a (.v g.val),.a (.v (oM a ca l p D.length c cn u kn kc fn t nx)),.a (.v (I slot))] J<|Rb [21] J<|QD [0,1,2,3,4,5] J<|QS<|zT 6 J J (FN 40) (λy E m o=>rM g ok _)<|Qx [7] J<|uq 8 J kr J J J J (yV J) J<|uq 9 J kr J J J J (yV J) J<|uq 10 J kr J J J J (pi aJ J) J<|Qx [11] J<|zT 12 J J (FN 42) (λy E m o=>zS g ok _)<|Qx [13,14,15] J<|uq 16 J kr J J J J (yV J) J<|Qx [17] J<|zT 18 J J (FN 45) (λy E m o=>A6 g ok slot _)<|zc 19 J kr J J J (λ_=>jr aJ J) J<|zc 20 J kr J J J (λ_=>jr aJ J) J<|zJ 21 J<|Qx [22] J<|zH J<|Tz J λE=>?_;congr 5
theorem RI(V:Vw)(g:Geo)(ok:g.Ok)(slot key d:Int)(D:Z8 Z5)(A:Z8 Record)(t:RowsOf g slot key d D A)(a ca Z fa:Z4 Addr)(n c cn cc kn kc fn fc:Nat)(nx:Int)(w:Z6)(hV:V.le (vw w))(a9:SlOf V da 1 (.slice a n c) D): Cl 48 #[g.val,oM a ca Z fa n c cn cc kn kc fn fc nx,I slot,I key,I d] w λe w'=>(∃v,e=.returned v/\w'.ownsRow w.heap.size 86 6 v A.length (A.flatMap Record.cells))/\cH w w':=by
 have hs:=a9.mono hV;have hf:=dE t.geo;have ai:=t.few;have ax:=t.tl0;have aq:=t.tl1;(have a6:Dc g D slot=true:=by rw[Dc,t.geo,ZD t.len,ZD t.hd];rfl);have u:=λw1 a0=>TH (vw w) g ok slot a ca Z fa n c cn cc kn kc fn fc nx D w1 a0 hs;rw[a6]at u;refine CB<|wy 9 (E:=E0) (O:=[]) (nl:=0) [.a (.v g.val),.a (.v (oM a ca Z fa n c cn cc kn kc fn fc nx)),.a (.v (I slot)),.a (.v (I key)),.a (.v (I d))] Tryz.func48 J J (jh E0 0 w) J J<|ef<|Rr<|QE 3 [2,3,4,5,6,10] J<|rq<|Qw<|ef<|Rr<|Yy 3 J<|k8 J u<|Yy 4 J<|Qs J<|QE 1 [3,4,10,11,12] J<|rq<|Qw ?_
 iterate 2 refine ef ?_
 refine Rr<|QE 10 [3,4,10,11,30] J<|rq<|Qw<|kN J ?_ ?_<;>intro h;{grind};simp at h;refine lj<|Qw ?_
 iterate 2 refine ef ?_
 refine Rr<|Yy 3 J<|mV 2 0 86 6 J J<|BR [10,31,32,33] [2,4] J ff J J λL V1 M _ _=>kt (λv z=>∃N X Y,v=.func (.func 130) #[] #[eP N,eP X,eP Y]/\z.get N=some (.cells [I d].toArray 3 (0,0))/\z.get X=some (.cells (BV g a n c slot).toArray 213 (0,0))/\z.get Y=some (.cells [I key].toArray 3 (0,0))) J (SP V1 g a n c slot key d) ?_;rintro v z B T;obtain⟨N,X,Y,rfl,ab,ae,ac⟩:=T J;have m:=M.trans B;have ad:=hs.mono m;refine du [10,34] J<|rq<|Qw<|ki<|Vi (α:=Record) (σ:=Z8 Record) (τ:=Unit) om J (FN 130) (λr=>r.val) (λxs=>xs=A) (λ_=>True) A.length [(10,.a (.v (eP (L.ρ 2))))] (λs=>[(2,.lit [.row 4] 81),(4,.row 86 6 s.length (s.flatMap Record.cells)),(6,.keep 2 (L.ρ 2) (L.κ 2))]) (λxs s=>s=xs) (λ_=>[]) (λ_ _=>False) .ret [] ff J J oo cw cw J (λw0 hw=>Ts z N X Y g ok slot key d D A t a n c ab ae ac ad _ w0 hw) ?_ ?_ ?_;{intro l an x p Vf sz R af ak;(have al:p.length<=1001:=by rw[R];omega);refine Rr<|Yy 1 J<|Qs J<|du [10,13] J<|rq<|AX J vl λVg kz au=>ki<|nA 10 6 2 (L.ρ 2) 0 J J J<|Rr<|Yy 2 J<|QZ J (cX aJ 6 J J J) λ_ _=>QZ J (cQ aJ x.cells J (λE w W=>dZ (W.row _ _ _ _ _ J)) (λ_ _ _=>by simpa using nM [x]) od) λ_ _=>Qs J<|du [10] J<|rq<|QM ?_;have T:p.length+1=(p++[x]).length/\p.flatMap Record.cells++x.cells=(p++[x]).flatMap Record.cells:=sm;rw[T.1,T.2];refine dx 4 10 J<|Cw (p++[x]) (by rw[R]) oo J vl};{intro D3 V3 p xs hS R ag hD y;have a7:p=A:=R.trans hS;subst a7;refine QM<|Qw<|ef<|nA 10 6 2 (L.ρ 2) 0 J J J<|Rr<|Yy 1 J<|Qs J<|du [10] J<|rq<|Qw<|mq<|yk aJ J hD ?_;intro E w' W _;have o:=m.trans y;exact⟨⟨_,J,W.rowFresh o J⟩,W.below o⟩};simp
theorem TA(V:Vw)(g:Geo)(ok:g.Ok)(slot key d:Int)(D:Z8 Z5)(A:Z8 Record)(z:RowsOf g slot key d D A)(a ca o u:Z4 Addr)(n c cn p kn kc fn y:Nat)(nx:Int)(w:Z6)(hV:V.le (vw w))(m:SlOf V da 1 (.slice a n c) D): kD 48 #[g.val,oM a ca o u n c cn p kn kc fn y nx,I slot,I key,I d] w V λv V'=>∃a n c,v=.slice a n c/\SlOf V' Record.cells 6 (.slice a n c) A:=by refine(RI V g ok slot key d D A z a ca o u n c cn p kn kc fn y nx w hV m).mono ?_;rintro e B ⟨⟨v,rfl,l⟩,t⟩;have ⟨V',hx,hsl⟩:=jS hV t l;obtain⟨a,n,c,rfl⟩:=cD hsl;exact⟨_,V',J,t,hx,a,n,c,J,hsl,cw⟩
theorem pE(l:Z8 Block):∀u∈l.flatMap Block.cells,u.oneCell'=true:=by intro u d;have ⟨x,_,hx⟩:=YW.1 d;simp at hx;rcases hx with rfl|rfl<;>rfl
def lE(th:Bool)(x:Block):Z8 Block->Z8 Block
 |[]=>[x]
 |b::r=>if th=true/\b.n=x.n then x::r else if th=false/\x.n<b.n then x::b::r else b::lE th x r
def mN(l:Z8 Block)(x:Block):Z8 Block:=lE (kS l x.n).2 x l
theorem Gw(d:Bool)(x:Block):∀l:Z8 Block,(lE d x l).length<=l.length+1
 |[]=>by simp[lE]
 |b::r=>by
  have:=Gw d x r
  rw[lE]
  grind
def uz(L:Z8 Block)(w:Z6)(e:Ending)(w':Z6):Prop:=
 (∃v,e=.returned v/\w'.ownsRow w.heap.size 93 2 v L.length (L.flatMap Block.cells))/\cH w w'
theorem uh(O:Z8 Block)(x:Block):O.length+1=(O++[x]).length/\O.flatMap Block.cells++x.cells=(O++[x]).flatMap Block.cells:=sm
theorem L6(V:Vw)(sv:Z7)(l:Z8 Block)(x:Block)(w:Z6)(hV:V.le (vw w))(Y:SlOf V Block.cells 2 sv l)(hn:l.length<=2000000): Cl 261 #[sv,x.val] w (uz (mN l x) w):=by
 have t:=Y.mono hV;have W:mN l x=lE (kS l x.n).2 x l:=rfl;refine dN J<|dq J (λhg E w1 o=>Kn (vw w) _ l x.n _ o.leV t om)<|zA J ?_;generalize (kS l x.n).2=th at*;refine iD 5 93 2 J J<|zL [0,3,7] [1] J J (σ:=Nat×Bool×Z8 Block) (λ(i,d,O)=>[(5,.a (.row 1)),(8,.a (.v (.bool d))),(9,.a (.v (I i)))]) (λ(i,d,O)=>[(1,.row 93 2 O.length (O.flatMap Block.cells))]) (λ(i,d,O)=>i<=l.length/\O.length<=2*i/\O++(if d=true then l.drop i else lE th x (l.drop i))=mN l x) (λ(i,d,O)=>l.length - i) ((0,false,[])) (⟨om,sm,by rw[W];rfl⟩) ?_;rintro⟨i,d,O⟩ ⟨hi,hO,m⟩;dsimp only at hi hO m⊢;refine zB J<|QY J (yN J t)<|cJ J ?_ ?_<;>intro h
 .refine ez mixed kr<|Dm 8 J ?_;have ⟨y,h_y⟩:=t.at (k:=i) om;rw[gX h_y]at m;have u:IntKind.i64.wrap ((i:Int)+1)=((i+1:Nat):Int):=cx om om;have L:=uh O x;have hy:=uh O y;have p:=cC h_y;refine Qd J (yI J t)<|Qd J (yF J t)<|Qd J (yL i 0 J t h_y J)<|Dm 4 J<|mF J ?_ ?_<;>intro h;{obtain⟨⟨B,z⟩,M⟩:=h;subst B z;rw[ZX sm,lE,ZW ⟨J,M⟩]at m;refine QZ J (cX aJ 2 J J J) λ_ _=>QZ J (cQ aJ x.cells J (λE w o=>dZ (o.row _ _ _ _ _ J)) (λ_ _ _=>by simpa using pE [x]) od) λ_ _=>zA J ?_;rw[L.1,L.2,u];refine dx 1 3 J<|Qr ((i+1,true,O++[x]))<|⟨by dsimp only;omega,by dsimp only;simp;omega,by dsimp only;rw[ZW J,<-m];simp⟩};(have X: ¬(d=false/\th=true/\y.n=x.n):=λ⟨B,z,M⟩=>by simp[B,z,M]at h);clear h;refine ez mixed kr<|Dm 9 J ?_;have p:=cC h_y;refine Qd J (yI J t)<|Qd J (yF J t)<|Qd J (yL i 0 J t h_y J)<|Dm 4 J<|mF J ?_ ?_<;>intro h;{obtain⟨⟨B,z⟩,M⟩:=h;subst B z;rw[ZX sm,lE,ZX sm,ZW ⟨J,M⟩]at m;have N:=uh (O++[x]) y;refine QZ J (cX aJ 2 J J J) λ_ _=>QZ J (cQ aJ x.cells J (λE w o=>dZ (o.row _ _ _ _ _ J)) (λ_ _ _=>by simpa using pE [x]) od) λ_ _=>zA J ?_;rw[L.1,L.2];have p:=cC h_y;refine QY J (yI J t)<|QY J (yL i 0 J t h_y J)<|QZ J (cX aJ 2 J J J) λ_ _=>QZ J (cQ aJ y.cells J (λE w o=>dZ (o.row _ _ _ _ _ J)) (λ_ _ _=>by simpa using pE [y]) (by dsimp only;simp;omega)) λ_ _=>zA J ?_;rw[N.1,N.2,u];refine dx 1 5 J<|Qr ((i+1,true,O++[x]++[y]))<|⟨by dsimp only;omega,by dsimp only;simp;omega,by dsimp only;rw[ZW J,<-m];simp⟩};(have T: ¬(d=false/\th=false/\x.n<y.n):=λ⟨B,z,M⟩=>by simp[B,z]at h;omega);clear h;have p:=cC h_y;refine QY J (yI J t)<|QY J (yL i 0 J t h_y J)<|QZ J (cX aJ 2 J J J) λ_ _=>QZ J (cQ aJ y.cells J (λE w o=>dZ (o.row _ _ _ _ _ J)) (λ_ _ _=>by simpa using pE [y]) od) λ_ _=>zA J ?_;rw[hy.1,hy.2,u];refine dx 1 3 J ?_
  have R:O++[y]++(if d=true then l.drop (i+1)else lE th x (l.drop (i+1)))=mN l x:=by
   rw[<-m];cases d with
   |false=>rw[ZX sm,ZX sm,lE,ZX (λc=>X ⟨J,c⟩),ZX (λc=>T ⟨J,c⟩)];simp
   |true=>simp
  refine Qr ((i+1,d,O++[y]))<|⟨by dsimp only;omega,by dsimp only;simp;omega,R⟩
 have Z:i=l.length:=om;subst Z;rw[Zp]at m;clear h;refine dD J ?_ ?_<;>intro h;{subst h;have L:=uh O x;refine QZ J (cX aJ 2 J J J) λ_ _=>QZ J (cQ aJ x.cells J (λE w o=>dZ (o.row _ _ _ _ _ J)) (λ_ _ _=>by simpa using pE [x]) od) λ_ _=>zA J<|cL aJ J ?_;rw[ZX sm,lE]at m;rw[L.1,L.2,m];intro E w' o _;exact⟨⟨E.κ 3,J,o.rowFresh lr (l:=3) J⟩,o.below lr⟩};refine cL aJ J ?_;subst h;rw[ZW J,Zb]at m;rw[m];intro E w' o _;exact⟨⟨E.κ 1,J,o.rowFresh lr (l:=1) J⟩,o.below lr⟩
def jI(l more:Z8 Block):Z8 Block:=more.foldl mN l
theorem Ta(l:Z8 Block)(x:Block):(mN l x).length<=l.length+1:=Gw _ _ _
theorem xk:∀(more l:Z8 Block),(jI l more).length<=l.length+more.length
 |[],l=>by simp[jI]
 |x::r,l=>by
  have:=xk r (mN l x)
  have:=Ta l x
  simp only[jI,t_,Y8]at*
  omega
theorem TY(l d:Z8 Block)(x:Block):jI l (d++[x])=mN (jI l d) x:=by simp[jI]
theorem Jg(V:Vw)(R T:Z7)(l d:Z8 Block)(w:Z6)(hV:V.le (vw w))(u:SlOf V Block.cells 2 R l)(z:SlOf V Block.cells 2 T d)(Y:l.length+d.length<=2000000): Cl 224 #[R,T] w (uz (jI l d) w):=by have hs:=u.mono hV;have m:=z.mono hV;refine dN J<|QZ J (cX aJ 2 J J J) λ_ _=>zA J<|QZ J (cQ aJ (l.flatMap Block.cells) J (λE w o=>hs.sl.src o.get) (λ_ _ _=>pE _) od) λ_ _=>zA J ?_;rw[ZB,Zo l.length];refine dx 0 1 J ?_;(have N:jI l (d.take 0)=l:=by simp[jI]);refine zL [1] [0] J J (σ:=Nat) (λi=>[(5,.a (.row 0)),(6,.a (.v (I i)))]) (λi=>[(0,.row 93 2 (jI l (d.take i)).length ((jI l (d.take i)).flatMap Block.cells))]) (λi=>i<=d.length) (λi=>d.length - i) (0) om ?_ (hs:=by repeat (first|exact dT.nil|refine dT.cons J ?_|refine dT.cons (by simp only[N];first|done|rfl) ?_)) (hO:=by repeat (first|exact dm.nil|refine dm.cons J ?_|refine dm.cons (by simp only[N];first|done|rfl) ?_));rintro i hi;refine zB J<|QY J (yN J m)<|cJ J ?_ ?_<;>intro h;{have ⟨y,h_y⟩:=m.at (k:=i) om;have p:IntKind.i64.wrap ((i:Int)+1)=((i+1:Nat):Int):=cx om om;(have t:jI l (d.take (i+1))=mN (jI l (d.take i)) y:=by rw[kM h_y,TY]);have O:=xk (d.take i) l;(have X:(d.take i).length=i:=by rw[ZL];omega);generalize jI l (d.take i)=L at*;have M:=cC h_y;refine QY J (yI J m)<|QY J (yL i 0 J m h_y J)<|QZ J (iP 93 2 (mN L y).length ((mN L y).flatMap Block.cells) J (FN 261) (λE w o=>(L6 (vw w) _ L y w lr (o.rowOf 0 J cw) om).mono (λe W ⟨⟨v,he,ho⟩,hb⟩=>⟨v,he,ho,hb⟩))) λ_ _=>zA J ?_;rw[<-t,p];refine dx 0 2 J<|Qr (i+1) om};refine cL aJ J ?_;have B:i=d.length:=om;subst B;rw[Zx];intro E W o _;exact⟨⟨E.κ 0,J,o.rowFresh lr (l:=0) J⟩,o.below lr⟩
theorem S7(V:Vw)(z y:Z7)(l d:Z8 Block)(w:Z6)(hV:V.le (vw w))(o:SlOf V Block.cells 2 z l)(t:SlOf V Block.cells 2 y d)(M:l.length+d.length<=2000000): Cl 158 #[z,y] w (uz (jI l d) w):=by have L:=o.mono hV;have p:=t.mono hV;refine dN J<|QZ J (iP 93 2 (jI l d).length ((jI l d).flatMap Block.cells) J (FN 224) (λE u m=>(Jg (vw u) _ _ l d u lr (L.mono m.leV) (p.mono m.leV) M).mono (λe B ⟨⟨v,he,ho⟩,hb⟩=>⟨v,he,ho,hb⟩))) λ_ _=>zA J<|Qb J λE B m=>?_;exact⟨⟨E.κ 0,J,m.rowFresh lr (l:=0) J⟩,m.below lr⟩
def GI(L:Z8 Block)(x:Z7)(V':Vw):Prop:= ∃a n c,x=.slice a n c/\SlOf V' Block.cells 2 (.slice a n c) L
theorem Rf{V:Vw}{f:Nat}{L:Z8 Block}{args:Array Z7}{w:Z6}(hV:V.le (vw w))(h:Cl f args w (uz L w)): Cl f args w λe w'=>∃x V',e=.returned x/\cH w w'/\Vext w.heap.size V V' w'/\GI L x V':=by refine h.mono ?_;rintro e w' ⟨⟨v,rfl,d⟩,l⟩;have ⟨V',hx,hsl⟩:=jS hV l d;obtain⟨a,n,c,rfl⟩:=cD hsl;exact⟨_,V',J,l,hx,a,n,c,J,hsl,cw⟩
def dA(f:Int->Z4 Z5)(a:Int):Nat->Z8 Block
 |0=>[]
 |k+1=>(match f a with|some t=>[⟨a,t⟩]|none=>[])++dA f (a+1) k
theorem u9(f:Int->Z4 Z5):∀(k:Nat) (a:Int),(dA f a k).length<=k
 |0,_=>by simp[dA]
 |k+1,a=>by
  have:=u9 f k (a+1)
  rw[dA]
  grind
theorem T6(k:Nat)(a:Int):dA (λ_=>none) a k=[]:=by
 induction k generalizing a with
 |zero=>rfl
 |succ k ih=>rw[dA,ih];rfl
theorem Be(f:Int->Z4 Z5):∀(k:Nat) (a:Int),dA f a (k+1)=dA f a k++(match f (a+k)with|some t=>[⟨a+k,t⟩]|none=>[])
 |0,a=>by simp[dA]
 |k+1,a=>by
  rw[dA,Be f k (a+1),dA,Zc]
  grind
def jJ(n k:Int)(r:Record):Bool:=r.count==0&&(r.block==n&&r.k==k)
def j3(l:Z8 Record)(n k:Int):Z5:=l.foldl (λp r=>if jJ n k r=true then r.text else p) ByteArray.empty
def jO(l:Z8 Record)(n k:Int):Bool:=l.any (jJ n k)
def gK(l:Z8 Record)(n:Int):Nat->Z5×Bool
 |0=>(ByteArray.empty,false)
 |k+1=>((gK l n k).1++j3 l n k,(gK l n k).2||jO l n k)
theorem Av(l:Z8 Record)(r:Record)(n k:Int):j3 (l++[r]) n k=if jJ n k r=true then r.text else j3 l n k:=by simp[j3]
theorem yD(l:Z8 Record)(r:Record)(n k:Int):jO (l++[r]) n k=(jO l n k||jJ n k r):=by simp[jO]
theorem Cz{l:Z8 Record}(h:∀r∈l,r.text.size<=256)(n k:Int):(j3 l n k).size<=256:=by
 have key:∀(l:Z8 Record) (p:Z5),(∀r∈l,r.text.size<=256)->p.size<=256->(l.foldl (λp r=>if jJ n k r=true then r.text else p) p).size<=256:=by
  intro l
  induction l with
  |nil=>intro p _ d;exact d
  |cons r t ih=>
   intro p h d
   grind
 exact key l _ h sm
theorem Ii{l:Z8 Record}(h:∀r∈l,r.text.size<=256)(n:Int):∀k,(gK l n k).1.size<=256*k
 |0=>by simp[gK]
 |k+1=>by
  have h1:=Ii h n k
  have d:=Cz h n k
  rw[gK,YP];omega
theorem Uc(V:Vw)(W:Z7)(l:Z8 Record)(n:Int)(w:Z6)(hV:V.le (vw w))(z:SlOf V Record.cells 6 W l)(hn:l.length<=1000000)(T:∀r∈l,r.text.size<=256): Rt 342 #[W,I n] w (.tuple #[S (gK l n 8).1,.bool (gK l n 8).2]):=by
 have hs:=z.mono hV;refine dN J<|zL [0,1] [] J J (σ:=Nat) (λk=>[(6,.a (.v (S (gK l n k).1))),(7,.a (.v (.bool (gK l n k).2))),(8,.a (.v (I k)))]) (λk=>[]) (λk=>k<=8) (λk=>8 - k) (0) om ?_;rintro k hk;refine dD J ?_ ?_<;>intro h
 .have Y:=Ii T n k;have M:IntKind.i64.wrap ((k:Int)+1)=((k+1:Nat):Int):=cx om om;(have N:((gK l n k).2||jO (l.take 0) n k)=(gK l n k).2:=by simp[jO]);refine zL [0,1,6,8] [] J J (σ:=Nat×Z5×Bool) (λ(i,p,s)=>[(7,.a (.v (.bool s))),(9,.a (.v (S p))),(10,.a (.v (I i)))]) (λ(i,p,s)=>[]) (λ(i,p,s)=>i<=l.length/\p=j3 (l.take i) n k/\s=((gK l n k).2||jO (l.take i) n k)) (λ(i,p,s)=>l.length - i) ((0,ByteArray.empty,(gK l n k).2)) (⟨om,J,N.symm⟩) ?_ (hs:=by repeat (first|exact dT.nil|refine dT.cons J ?_|refine dT.cons (by simp only[N];first|done|rfl) ?_)) (hO:=by repeat (first|exact dm.nil|refine dm.cons J ?_|refine dm.cons (by simp only[N];first|done|rfl) ?_));rintro⟨i,p,s⟩ ⟨hi,u,o⟩;dsimp only at hi u o⊢;refine zB J<|QY J (yN J hs)<|cJ J ?_ ?_<;>intro h;{have ⟨r,h_r⟩:=hs.at (k:=i) om;have t:IntKind.i64.wrap ((i:Int)+1)=((i+1:Nat):Int):=cx om om;have R:=Av (l.take i) r n k;have L:=yD (l.take i) r n k;rw[<-kM h_r]at R L;have d:=cC h_r;refine QY J (yI J hs)<|QY J (yF J hs)<|QY J (yL i 5 J hs h_r J)<|zA J ?_;have d:=cC h_r;refine QY J (yI J hs)<|QY J (yF J hs)<|QY J (yL i 2 J hs h_r J)<|zA J ?_;have d:=cC h_r;refine QY J (yI J hs)<|QY J (yF J hs)<|QY J (yL i 3 J hs h_r J)<|cJ J ?_ ?_<;>intro h;{(have m:jJ n k r=true:=by simp only[jJ,Z1,beq_iff_eq];exact⟨h.1.1,h.1.2,h.2⟩);have d:=cC h_r;refine QY J (yI J hs)<|QY J (yF J hs)<|QY J (yL i 4 J hs h_r J)<|zA J ?_;rw[t];refine Qr ((i+1,r.text,true))<|⟨by dsimp only;omega,by dsimp only;rw[R,ZW m],by dsimp only;rw[L,m];simp⟩};(have m:jJ n k r=false:=by rw[Zi];intro y;simp only[jJ,Z1,beq_iff_eq]at y;simp[y.1,y.2.1,y.2.2]at h);rw[t];refine Qr ((i+1,p,s))<|⟨by dsimp only;omega,by dsimp only;rw[R,m,u];simp,by dsimp only;rw[L,m,o];simp⟩};have O:i=l.length:=om;subst O;rw[Zx]at u o;subst u o;have X:=Cz T n k;clear h;refine QY J (vf J (λhg=>om))<|zA J ?_;rw[M];refine Qr (k+1) om
 refine cL aJ J ?_;have B:k=8:=om;subst B;intro E w' Z _;refine⟨?_,Z.below lr⟩;rfl
def ja(n:Int):Z8 Record->Z8 Record->Z4 Z5->Z4 Z5
 |[],_,acc=>acc
 |r::t,cur,acc=>if r.count=0 then ja n t (cur++[r]) acc else ja n t [] (if(gK cur n 8).2=true then some (gK cur n 8).1 else acc)
def mU(L:Z8 Record):Z8 Block:=dA (λn=>ja n L [] none) 0 64
theorem Lu{l:Z8 Record}{f i:Nat}{r:Record}(d:f<=i)(h:l[i]? =some r):(l.drop f).take (i+1 - f)=(l.drop f).take (i - f)++[r]:=by rw[show i+1 - f=i - f+1 by omega];refine kM ?_;rw[List.getElem?_drop,show f+(i - f)=i by omega,h]
theorem UZ(V:Vw)(sv:Z7)(l0:Z8 Record)(w:Z6)(hV:V.le (vw w))(W:SlOf V Record.cells 6 sv l0)(a7:l0.length<=1000000)(R:∀r∈l0,r.text.size<=256): Cl 325 #[sv] w (uz (mU (l0.take (whole l0))) w):=by
 have N:=W.mono hV;refine dU J<|eR (Fo (l0.take (whole l0))) J (λT E w1 u=>TZ u.leV (NQ (vw w) _ l0 _ u.leV N a7)) ?_;rintro x V1 y L;obtain⟨a,m,c,rfl,hs⟩:=L J;clear L;have hz:∀r∈l0.take (whole l0),r.text.size<=256:=λr Z=>R r (Y7 Z);(have hn:(l0.take (whole l0)).length<=1000000:=by rw[ZL];omega);generalize l0.take (whole l0)=l at*;refine zA J<|iD 3 93 2 J J ?_;generalize hF:(λn=>ja n l [] none)=f;have e0:dA f 0 0=[]:=rfl;refine zL [0] [0] J J (σ:=Nat) (λn=>[(3,.a (.row 0)),(4,.a (.v (I n)))]) (λn=>[(0,.row 93 2 (dA f 0 n).length ((dA f 0 n).flatMap Block.cells))]) (λn=>n<=64) (λn=>64 - n) (0) om ?_ (hs:=by repeat (first|exact dT.nil|refine dT.cons J ?_|refine dT.cons (by simp only[e0];first|done|rfl) ?_)) (hO:=by repeat (first|exact dm.nil|refine dm.cons J ?_|refine dm.cons (by simp only[e0];first|done|rfl) ?_));rintro n ac;have ag:=u9 f n 0;refine dD J ?_ ?_<;>intro h
 .refine Qs J<|zA J ?_;have M:IntKind.i64.wrap ((n:Int)+1)=((n+1:Nat):Int):=cx om om;(have a5:f n=ja n l [] none:=by rw[<-hF]);have p:=Be f n 0;rw[Int.zero_add]at p;refine zL [0,3,4,5] [1] J J (σ:=Nat×Nat×Z4 Z5) (λ(i,q,o)=>[(6,.a (.v (.bool o.isSome))),(7,.a (.v (I q))),(8,.a (.v (I i)))]) (λ(i,q,o)=>[(1,.lit [.v (I n),.v (S (o.getD ByteArray.empty))] 93)]) (λ(i,q,o)=>i<=l.length/\q<=i/\ja n (l.drop i) ((l.drop q).take (i - q)) o=f n) (λ(i,q,o)=>l.length - i) ((0,0,none)) (⟨om,om,by rw[a5];rfl⟩) ?_;rintro⟨i,q,o⟩ ⟨hi,X,d⟩;dsimp only at hi X d⊢;refine zB J<|QY J (yN J hs)<|cJ J ?_ ?_<;>intro h;{have ⟨r,h_r⟩:=hs.at (k:=i) om;have z:IntKind.i64.wrap ((i:Int)+1)=((i+1:Nat):Int):=cx om om;rw[gX h_r,ja]at d;have Y:=cC h_r;refine QY J (yI J hs)<|QY J (yF J hs)<|QY J (yL i 5 J hs h_r J)<|cJ J ?_ ?_<;>intro h;{rw[ZW h,<-Lu X h_r]at d;rw[z];refine Qr ((i+1,q,o))<|⟨by dsimp only;omega,by dsimp only;omega,d⟩};rw[ZX h]at d;clear h;have O:=hs.cut (lo:=q) (hi:=i) X om;refine QY J (kx aJ J (λT=>hs.sl) (λT=>by dsimp only[Option.getD];omega))<|zA J ?_;rw[show((some (q:Int)).getD 0).toNat=q from J,show((some (i:Int)).getD (l.length:Int)).toNat=i from J];refine dq J (λT E w1 u=>Uc V1 _ ((l.drop q).take (i - q)) n _ u.leV O (by rw[ZL,Zk];omega) (λr Z=>hz r (YT (Y7 Z))))<|cS J ?_ ?_<;>intro h;generalize gK ((l.drop q).take (i - q)) n 8=tx at*;{refine Qs J<|zA J ?_;rw[ZW h]at d;rw[z];refine Qr ((i+1,i+1,some tx.1))<|⟨by dsimp only;omega,by dsimp only;omega,by dsimp only;rw[p_,U_];exact d⟩};rw[ZX (by simp[h])]at d;rw[z];refine Qr ((i+1,i+1,o))<|⟨by dsimp only;omega,by dsimp only;omega,by dsimp only;rw[p_,U_];exact d⟩};have a0:i=l.length:=om;subst a0;rw[Zp,ja]at d;clear h;rw[<-d]at p;refine dv J ?_ ?_<;>intro h;{obtain⟨t,rfl⟩:=Option.isSome_iff_exists.1 h;clear h;dsimp only[Option.getD]at p⊢;have L:=uh (dA f 0 n) ⟨n,t⟩;rw[<-p]at L;refine QZ J (cX aJ 2 J J J) λ_ _=>QZ J (cQ aJ (Block.cells ⟨n,t⟩) J (λE w u=>dZ (u.row _ _ _ _ _ J)) (λ_ _ _=>by simpa using pE [⟨n,t⟩]) od) λ_ _=>zA J ?_;rw[L.1,L.2,M];refine dx 0 3 J<|Qr (n+1) om};have B:o=none:=cU h;subst B;rw[Zb]at p;rw[M,<-p];refine Qr (n+1) om
 refine cL aJ J ?_;have a8:n=64:=om;subst a8;(have a6:dA f 0 64=mU l:=by rw[<-hF];rfl);rw[a6];intro E w' u _;exact⟨⟨E.κ 0,J,u.rowFresh y (l:=0) J⟩,u.below y⟩
def oI(f:Int->Z4 (Z8 Z5))(r:Record):Int->Z4 (Z8 Z5):=if 0<=r.k/\r.k<8 then pS f r.block r.k r.text else f
def iv(l:Z8 Record):Int->Z4 (Z8 Z5):=l.foldl oI (λ_=>none)
theorem ue(l:Z8 Record)(r:Record):iv (l++[r])=oI (iv l) r:=by simp[iv]
def pA(T F:Int->Z4 (Z8 Z5)):Int->Z4 (Z8 Z5):=λn=>match F n with
 |some p=>some p
 |none=>T n
def pp:Z8 Record->Z8 Record->(Int->Z4 (Z8 Z5))->(Int->Z4 (Z8 Z5))
 |[],_,T=>T
 |r::t,cur,T=>if r.count=0 then pp t (cur++[r]) T else pp t [] (pA T (iv cur))
def iT(p:Z8 ByteArray):ByteArray:=p.foldl (· ++ ·) ByteArray.empty
abbrev mG(l:Z8 Record)(n:Int):Z8 Z5:=[j3 l n 0,j3 l n 1,j3 l n 2,j3 l n 3,j3 l n 4,j3 l n 5,j3 l n 6,j3 l n 7]
abbrev lU(l:Z8 Record)(n:Int):Bool:=jO l n 0||jO l n 1||jO l n 2||jO l n 3||jO l n 4||jO l n 5||jO l n 6||jO l n 7
theorem Pa(l:Z8 Record)(n:Int):gK l n 8=(iT (mG l n),lU l n):=by simp[gK,iT,mG,lU]
theorem Jb:∀(m:Nat) (l:Z8 Record),l.length=m->(∀r∈l,r.count=0)-> ∀n,iv l n=(if lU l n=true then some (mG l n)else none)/\(lU l n=false->mG l n=lw)
 |0,l,hm,_,n=>by
  have:l=[]:=I_.1 hm
  subst this
  exact⟨J,cw⟩
 |m+1,l,hm,hz,n=>by
  obtain⟨d,r,rfl⟩:∃d r,l=d++[r]:=⟨l.dropLast,l.getLast (by intro h;rw[h]at hm;simp at hm),(s_ _).symm⟩
  have w:d.length=m:=cU hm
  have ⟨h1,h2⟩:=Jb m d w (λx V=>hz x (by simp[V])) n
  have p:r.count=0:=hz r sm
  rw[ue,oI]
  by_cases L:0<=r.k/\r.k<8
  ·
   rw[ZW L,pS]
   by_cases z:n=r.block
   ·
    subst z
    rw[ZW J]
    have u:(iv d r.block).getD lw=mG d r.block:=by
     rw[h1]
     cases T:lU d r.block with
     |true=>rfl
     |false=>rw[ZX sm];exact(h2 T).symm
    rw[u]
    have o:r.k=0\/r.k=1\/r.k=2\/r.k=3\/r.k=4\/r.k=5\/r.k=6\/r.k=7:=om
    have R:lU (d++[r]) r.block=true:=by
     rcases o with h|h|h|h|h|h|h|h<;>simp[lU,yD,jJ,h,p]
    refine⟨?_,λh=>by rw[R]at h;cases h⟩
    rw[ZW R]
    congr 1
    rcases o with h|h|h|h|h|h|h|h<;>simp[mG,Av,jJ,h,p]
   ·
    rw[ZX z]
    have t:(r.block==n)=false:=beq_eq_false_iff_ne.2 (λe=>z e.symm)
    have B:mG (d++[r]) n=mG d n:=by simp only[mG,Av,jJ,t,Bool.false_and,YD,Zw,Zt]
    have y:lU (d++[r]) n=lU d n:=by simp only[lU,yD,jJ,t,Bool.false_and,YD,e_]
    rw[B,y]
    exact⟨h1,h2⟩
  ·
   rw[ZX L]
   have M:(r.k==0)=false:=beq_eq_false_iff_ne.2 om
   have n1:(r.k==1)=false:=beq_eq_false_iff_ne.2 om
   have n2:(r.k==2)=false:=beq_eq_false_iff_ne.2 om
   have n3:(r.k==3)=false:=beq_eq_false_iff_ne.2 om
   have n4:(r.k==4)=false:=beq_eq_false_iff_ne.2 om
   have E:(r.k==5)=false:=beq_eq_false_iff_ne.2 om
   have N:(r.k==6)=false:=beq_eq_false_iff_ne.2 om
   have O:(r.k==7)=false:=beq_eq_false_iff_ne.2 om
   have B:mG (d++[r]) n=mG d n:=by simp only[mG,Av,jJ,M,n1,n2,n3,n4,E,N,O,YD,Zw,Zt]
   have y:lU (d++[r]) n=lU d n:=by simp only[lU,yD,jJ,M,n1,n2,n3,n4,E,N,O,YD,e_]
   rw[B,y]
   exact⟨h1,h2⟩
theorem DK(n:Int):∀(l cur:Z8 Record) (T:Int->Z4 (Z8 Z5)),(∀r∈cur,r.count=0)->(pp l cur T n).map iT=ja n l cur ((T n).map iT)
 |[],_,_,_=>rfl
 |r::t,cur,T,hz=>by
  rw[pp,ja]
  by_cases hc:r.count=0
  ·
   rw[ZW hc,ZW hc]
   exact DK n t _ T (λx hx=>by
    rcases Zh.1 hx with h|h
    . exact hz x h
    . simp at h;rw[h];exact hc)
  ·
   rw[ZX hc,ZX hc,DK n t [] _ (λx hx=>by simp at hx)]
   congr 1
   have ⟨h1,_⟩:=Jb _ cur J hz n
   rw[Pa,pA,h1]
   grind
theorem LV(L:Z8 Record):mU L=dA (λn=>(pp L [] (λ_=>none) n).map iT) 0 64:=by rw[mU];congr 1;funext n;exact(DK n L [] (λ_=>none) (λx d=>absurd d YH)).symm
theorem Hk{ty:Nat}{V0 V l:Vw}{m:Z8 (Int×Z7)}{T:Int->Z4 (Z8 Z5)}(h:MpF ty V0 V m T)(d:V.le l):MpF ty V0 l m T:=⟨h.r.mono d,h.fresh,h.inj,h.nodup⟩
theorem Lf(q:Z8 Z5)(k:Nat)(t:Z5):(q.map Value.string).toArray.setIfInBounds (0+k) (.string t)=((q.set k t).map Value.string).toArray:=by simp
theorem HK:∀D:Z8 Z5,D.flatMap da=D.map Value.string
 |[]=>rfl
 |x::r=>by rw[Zy,HK r];rfl
theorem BH{V:Vw}{b ty:Nat}{p:Z8 Z5}(d:V.get b=some (ld ty p))(m:p.length=8):SlOf V da 1 (iA b) p:=by
 have:=SlOf.ofBlock (sz:=1) (l:=p) (c:=8) d (HK p).symm cw om
 simp_all
theorem RJ{f:Int->Z4 (Z8 Z5)}{r:Record}(m:∀n p,f n=some p-> ∀s∈p,s.size<=256)(t:r.text.size<=256):∀n p,oI f r n=some p-> ∀s∈p,s.size<=256:=by
 intro n p d s o;rw[oI]at d;split at d
 .rw[pS]at d;split at d
  .cases d;rcases ZA o with h|h
   .cases l:f n with
    |none=>
     rw[l]at h;have:=P' h
     simp_all
    |some p0=>rw[l]at h;exact m n p0 l s h
   simp_all
  grind
 grind
theorem GP:∀(m:Nat) (l:Z8 Record),l.length=m->(∀r∈l,r.text.size<=256)-> ∀n p,iv l n=some p-> ∀s∈p,s.size<=256
 |0,l,hm,_,n,p,hp=>by
  have:l=[]:=I_.1 hm
  subst this
  cases hp
 |m+1,l,hm,hz,n,p,hp=>by
  obtain⟨d,r,rfl⟩:∃d r,l=d++[r]:=⟨l.dropLast,l.getLast (by intro h;rw[h]at hm;simp at hm),(s_ _).symm⟩
  rw[ue]at hp
  exact RJ (GP m d (cU hm) (λx o=>hz x (by simp[o]))) (hz r sm) n p hp
theorem Rx{m j:Nat}{seen:Array Nat}(o:j<m)(w: ¬j∈seen):((List.range m).countP λi=> !(seen.push j).contains i)<(List.range m).countP λi=> !seen.contains i:=by
 (have d:∀i,(!(seen.push j).contains i)=true->(!seen.contains i)=true:=λi h=>by simp_all);have ⟨A,B,hAB⟩:=List.append_of_mem (YC.2 o);rw[hAB,L',L',List.countP_cons,List.countP_cons];have t:=List.countP_mono_left (l:=A) (p:=λi=> !(seen.push j).contains i) (λi _=>d i);have u:=List.countP_mono_left (l:=B) (p:=λi=> !(seen.push j).contains i) (λi _=>d i)
 grind
theorem Nj(V:Vw)(a:Z4 Addr)(n c:Nat)(l:Z8 Record)(w:Z6)(hV:V.le (vw w))(bx:SlOf V Record.cells 6 (.slice a n c) l)(hn:l.length<=1000000)(hz:∀r∈l,r.text.size<=256): Cl 25 #[.slice a n c] w (uz (mU (l.take (whole l))) w):=by
 have hs:=bx.mono hV;have aG:=ur l;have be:=λw1 bI=>H5 (vw w) a n c l w1 bI hs hn;have ag:=F0 hs aG;obtain⟨L,hL⟩:∃L,l.take (whole l)=L:=⟨_,J⟩;have bq:∀r∈L,r.text.size<=256:=λr hr=>hz r (Y7 (hL▸hr));(have b7:L.length=whole l:=by rw[<-hL,ZL];omega);rw[hL]at ag⊢;generalize whole l=m at be ag b7 aG hL;subst b7;refine T1 Tryz.func25 J<|Sa<|Sb 1 [0,2] J<|Hg<|Sa<|QZ J (Lj J) λmt bd=>?_;have aw:∀O,(vw w).le ((vw w).put mt (ew O)):=λO=>Vw.put_le lr bd;refine Sc 2 [0,2,3,4] J<|Yy 1 J<|dq J (λX E w1 hm=>be _ ((aw _).trans hm.leV))<|Sb 1 [2,3,4,5] J<|QA<|EU<|Qw<|QA<|Sa<|Yy 1 J<|QY J (ic aJ J (λX=>(ag.mono (aw _)).sl))<|Sb 1 [2,3,4,5,17,18,19] J<|QJ<|Lv [2,3,5,17,18] [] J J (σ:=Nat×Nat×Z8 (Int×Z7)×(Int->Z4 (Z8 ByteArray))×Vw) (λ(i,f,O,T,Z)=>[(4,.a (.v (I f))),(19,.a (.v (I i)))]) (λ(i,f,O,T,Z)=>[]) (λ(i,f,O,T,Z)=>Z) (λ(i,f,O,T,Z)=>(i<=L.length/\f<=i/\(vw w).le Z/\Z.get mt=some (ew O)/\MpR 9 Z O T/\pp L [] (λ_=>none)=pp (L.drop i) ((L.drop f).take (i - f)) T/\(∀n p,T n=some p-> ∀s∈p,s.size<=256))) (λ(i,f,O,T,Z)=>L.length - i) ((0,0,[],λ_=>none,(vw w).put mt (ew []))) (⟨om,om,aw _,Vw.put_get _ _ _,⟨λ_ _=>rfl,λ_ _ h=>(by cases h)⟩,J,λ_ _ h=>(by cases h)⟩) ?_;rintro⟨i,f,O,T,Z⟩ ⟨hi,aW,hZ,N,hT,B,aC⟩;dsimp only at hi aW hZ N hT B aC⊢;refine Sa<|Sb 1 [2,3,4,5,17,18,19,20] J<|QA<|QX J ?_ ?_<;>intro h
 .have ⟨r,h_r⟩:=fk (L:=L) (k:=i) om;have aj:=ag.mono hZ;have aX:L.drop i=r::L.drop (i+1):=gX h_r;have ba:IntKind.i64.wrap ((i:Int)+1)=((i+1:Nat):Int):=cx om om;rw[aX,pp]at B;refine Se<|QA<|QJ<|Sa<|Yy 1 J<|QY J (yI J aj)<|QY J (yL i 0 J aj h_r J)<|Yy 2 J<|Qs J<|du [2,3,4,5,6,7,17,18,19] J<|Qw<|QA<|Sa<|Sx 3 [2,3,4,5,6,17,18,19,26] J J ?_ ?_<;>intro h;{refine QN<|QK<|QQ<|Qw<|QC<|Sb 2 [2,3,4,5,17,18,19] J ?_;rw[ZW h,<-Lu aW h_r]at B;rw[ba];refine Qr ((i+1,f,O,T,Z))<|⟨by dsimp only;omega,by dsimp only;omega,hZ,N,hT,B,aC⟩};rw[ZX h]at B;have a7:=aj.cut (lo:=f) (hi:=i) aW om;obtain⟨d,ay⟩:∃d,(L.drop f).take (i - f)=d:=⟨_,J⟩;(have bS:d.length<=1000000:=by rw[<-ay,ZL,Zk];omega);have bw:∀r∈d,r.text.size<=256:=λr hr=>bq r (YT (Y7 (ay▸hr)));rw[ay]at a7 B;refine Sf<|Yy 4 J<|QY J (kx aJ J (λX=>aj.sl) (λX=>by dsimp only[Option.getD];omega)) ?_;rw[show((some (f:Int)).getD 0).toNat=f from J,show((some (i:Int)).getD (L.length:Int)).toNat=i from J];obtain⟨xa,xn,xc,hX⟩:∃xa xn xc,dV (.slice a L.length L.length) f i 6=.slice xa xn xc:=⟨_,_,_,J⟩;rw[hX]at a7⊢;refine oJ J J J J J (FN 54) Tryz.func54 J J J λE=>Sa<|QZ J (Lj J) λmf aE=>?_;have aM:∀O,Z.le (Z.put mf (ew O)):=λO=>Vw.put_le lr aE;refine Sb 1 [0,1,4] J<|QA<|Sa<|Yy 1 J<|QY J (ic aJ J (λX=>(a7.mono (aM _)).sl))<|Sb 1 [0,4,11,12,13] J<|QJ<|Lv [0,4,11,12] [] J J (σ:=Nat×Z8 (Int×Z7)×Vw) (λ(k,u,Y)=>[(13,.a (.v (I k)))]) (λ(k,u,Y)=>[]) (λ(k,u,Y)=>Y) (λ(k,u,Y)=>(k<=d.length/\Z.le Y/\Y.get mf=some (ew u)/\MpF 9 Z Y u (iv (d.take k)))) (λ(k,u,Y)=>d.length - k) ((0,[],Z.put mf (ew []))) (⟨om,aM _,Vw.put_get _ _ _,⟨⟨λ_ _=>rfl,λ_ _ h=>(by cases h)⟩,λ_ _ h=>(by cases h),λ_ _ _ h=>(by cases h),List.nodup_nil⟩⟩) ?_;rintro⟨k,u,Y⟩ ⟨hk,R,y,hF⟩;dsimp only at hk R y hF⊢;refine Sa<|Sb 1 [0,4,11,12,13,14] J<|QA<|QX J ?_ ?_<;>intro h
  .have ⟨x,h_x⟩:=fk (L:=d) (k:=k) om;have a5:=a7.mono R;have aA:IntKind.i64.wrap ((k:Int)+1)=((k+1:Nat):Int):=cx om om;cases aD:iv (d.take k) x.block with
   |none=>
    refine Se<|QA<|QJ<|QA<|QC ?_;have aT:=cC h_x;refine QY J (yI J a5)<|QY J (yL k 0 J a5 h_x J)<|Yy 1 J<|Qs J<|du [0,4,6,11,12,13] J<|Sg<|Yy 3 J<|QY J (Kd u cz J Tryz.underlying153 Tryz.underlying3 (λw=>Tryz.zeroValue25 w) (λX=>y) (λX=>by rw[hF.r.none_ _ aD];rfl))<|Sb 1 [0,4,6,7,11,12,13] J<|QA<|Sa<|Yy 1 J<|QY J (hU (.bool true) J (λE w=>SQ 0 0 Tryz.underlying25 w))<|du [0,4,6,7,11,12,13,22] J<|Qw<|Qn J ?_ ?_<;>intro h
    .refine QC<|QZ J (OH aJ 8 8 J J J dc dc dc) λb a8=>?_;obtain⟨Vp,ah⟩:∃Vp,Vp=Y.put b (ld 9 lw):=⟨_,J⟩;have aP:Y.put b (.cells (eU 8 [.string ByteArray.empty]).toArray 9 (0,0))=Vp:=ah.symm;(have M:Y.le Vp:=by rw[ah];exact Vw.put_le lr a8);have ae:Vp.get b=some (ld 9 lw):=by rw[ah];exact Vw.put_get _ _ _
     have aQ:Z.get b=none:=by
      cases hq:Z.get b with
      |none=>rfl
      |some o=>have:=R.get _ _ hq;rw[a8]at this;cases this
     (have ao:mf≠b:=λe=>by rw[<-e,y]at a8;cases a8);have ab:lw.length=8:=rfl;have ac:(iv (d.take k) x.block=some lw/\ey u x.block=some (iA b))\/(iv (d.take k) x.block=none/\lw=lw/\Y.get b=none):=.inr ⟨aD,J,a8⟩;have aU:True:=trivial;rw[aP];refine Sc 1 [0,4,6,7,11,12,13] J<|Yy 7 J ?_
     have am:eL Vp (iA b) 1 8 (lw.flatMap da):=by
      have:=(BH ae ab).sl
      rwa [ab]at this
     refine QY J (pi aJ J)<|Sx 2 [0,4,6,7,11,12,13,33] J J ?_ ?_<;>intro h;{refine Sa<|Yy 5 J ?_;have aS:x.k.toNat<8:=om;refine QY J (dO aJ x.k.toNat J sm (λX=>am) (λX=>om))<|gP J J J J (Ju aJ (b:=b) (off:=0) J ae (by simp;omega) (.inl (Zz _)) J) λ_ _=>du [0,4,6,7,11,12,13] J<|Qw<|QC<|Yy 4 J ?_;rw[Lf];refine gP J J J J (C8 u J J Tryz.underlying153 Tryz.underlying3 ((Vw.put_other _ _ ao).trans (M.get _ _ y))) λ_ _=>du [0,4,11,12,13] J<|QM<|Qw<|QC<|Sb 2 [0,4,11,12,13] J ?_;have ⟨hs1,hs2⟩:=Fe (blk:=x.block) (k:=x.k) (t:=x.text) hF R M y aE ae ab aQ ac;(have ad:iv (d.take (k+1))=pS (iv (d.take k)) x.block x.k x.text:=by rw[rG h_x,ue,oI,ZW om]);rw[<-ad]at hs1;rw[aA];refine Qr ((k+1,fq u x.block (iA b),(Vp.put b (ld 9 (lw.set x.k.toNat x.text))).put mf (ew (fq u x.block (iA b)))))<|⟨by dsimp only;omega,hs2,Vw.put_get _ _ _,hs1⟩};refine QI<|QM<|Qw<|QC<|Sb 2 [0,4,11,12,13] J ?_;(have ad:iv (d.take (k+1))=iv (d.take k):=by rw[rG h_x,ue,oI,ZX om]);rw[aA];refine Qr ((k+1,u,Vp))<|⟨by dsimp only;omega,R.trans M,M.get _ _ y,by dsimp only;rw[ad];exact Hk hF M⟩
    exact absurd h dc
   |some q=>
    have ⟨b,hgb,a8,ab⟩:=hF.r.some_ _ _ aD;refine Se<|QA<|QJ<|QA<|QC ?_;have aT:=cC h_x;refine QY J (yI J a5)<|QY J (yL k 0 J a5 h_x J)<|Yy 1 J<|Qs J<|du [0,4,6,11,12,13] J<|Sg<|Yy 3 J<|QY J (Kd u (iA b) J Tryz.underlying153 Tryz.underlying3 (λw=>Tryz.zeroValue25 w) (λX=>y) (λX=>by rw[hgb];rfl))<|Sb 1 [0,4,6,7,11,12,13] J<|QA<|Sa<|Yy 1 J<|QY J (hU (.bool false) J (λE w=>Wj ⟨b,0,none⟩ 8 8 Tryz.underlying25 w))<|du [0,4,6,7,11,12,13,22] J<|Qw<|Qn J ?_ ?_<;>intro h;{exact absurd h dc};refine Sf<|Yy 7 J ?_;have aU:True:=trivial;have M:Y.le Y:=Vw.le.refl _;obtain⟨Vp,ah⟩:∃Vp,Vp=Y:=⟨_,J⟩;have ae:Y.get b=some (ld 9 q):=a8;have aQ:Z.get b=none:=hF.fresh _ _ hgb;(have ao:mf≠b:=λe=>by rw[<-e,y]at a8;cases a8);have ac:(iv (d.take k) x.block=some q/\ey u x.block=some (iA b))\/(iv (d.take k) x.block=none/\q=lw/\Y.get b=none):=.inl ⟨aD,hgb⟩
    have am:eL Y (iA b) 1 8 (q.flatMap da):=by
     have:=(BH ae ab).sl
     rwa [ab]at this
    refine QY J (pi aJ J)<|Sx 2 [0,4,6,7,11,12,13,33] J J ?_ ?_<;>intro h;{refine Sa<|Yy 5 J ?_;have aS:x.k.toNat<8:=om;refine QY J (dO aJ x.k.toNat J sm (λX=>am) (λX=>om))<|gP J J J J (Ju aJ (b:=b) (off:=0) J ae (by simp;omega) (.inl (Zz _)) J) λ_ _=>du [0,4,6,7,11,12,13] J<|Qw<|QC<|Yy 4 J ?_;rw[Lf];refine gP J J J J (C8 u J J Tryz.underlying153 Tryz.underlying3 ((Vw.put_other _ _ ao).trans (M.get _ _ y))) λ_ _=>du [0,4,11,12,13] J<|QM<|Qw<|QC<|Sb 2 [0,4,11,12,13] J ?_;have ⟨hs1,hs2⟩:=Fe (blk:=x.block) (k:=x.k) (t:=x.text) hF R M y aE ae ab aQ ac;(have ad:iv (d.take (k+1))=pS (iv (d.take k)) x.block x.k x.text:=by rw[rG h_x,ue,oI,ZW om]);rw[<-ad]at hs1;rw[aA];refine Qr ((k+1,fq u x.block (iA b),(Y.put b (ld 9 (q.set x.k.toNat x.text))).put mf (ew (fq u x.block (iA b)))))<|⟨by dsimp only;omega,hs2,Vw.put_get _ _ _,hs1⟩};refine QI<|QM<|Qw<|QC<|Sb 2 [0,4,11,12,13] J ?_;(have ad:iv (d.take (k+1))=iv (d.take k):=by rw[rG h_x,ue,oI,ZX om]);rw[aA];refine Qr ((k+1,u,Y))<|⟨by dsimp only;omega,R.trans M,M.get _ _ y,by dsimp only;rw[ad];exact Hk hF M⟩
  have bz:k=d.length:=om;subst bz;clear h;rw[ZG (ZS _)]at hF;have bi:=GP _ d J bw;obtain⟨F,bs⟩:∃F,iv d=F:=⟨_,J⟩;rw[bs]at hF B bi;have aq:Y.get mt=some (ew O):=R.get _ _ N;(have b3:mt≠mf:=λe=>by rw[e,aE]at N;cases N);have b8:=hT.mono R;refine QN<|QK<|QK<|QQ<|Sg<|Yy 1 J<|QZ J (LY u J Tryz.underlying153 y) λrr al=>?_;(have aB:rr≠mt:=λe=>by rw[e,aq]at al;cases al);(have bc:rr≠mf:=λe=>by rw[e,y]at al;cases al);(have aN:((Y.put rr (kQ mf u.length #[] u.length)).put mt (ew O)).le (Y.put rr (kQ mf u.length #[] u.length)):=by rw[Vw.put_self ((Vw.put_other _ _ aB.symm).trans aq)];exact lr);refine du [0,46] J<|Qw<|QJ<|Lv [0,46] [] J J (σ:=Array Nat×Z8 (Int×Z7)×Nat) (λ(seen,W,cl)=>[]) (λ(seen,W,cl)=>[]) (λ(seen,W,cl)=>(Y.put rr (kQ mf u.length seen cl)).put mt (ew W)) (λ(seen,W,cl)=>(u.length<=cl/\(∀n,(∃(i:Nat) (v:Z7),i∈seen/\u[i]? =some (n,v))->ey W n=ey u n)/\(∀n,¬(∃(i:Nat) (v:Z7),i∈seen/\u[i]? =some (n,v))->ey W n=ey O n))) (λ(seen,W,cl)=>(List.range u.length).countP (λi=> !seen.contains i)) ((#[],O,u.length)) (⟨ZS _,λn ⟨i,v,hi,_⟩=>(by simp at hi),λn _=>rfl⟩) ?_ (hV:=aN);rintro⟨seen,W,cl⟩ ⟨bk,hA,hB⟩;dsimp only at bk hA hB⊢;(have bM:((Y.put rr (kQ mf u.length seen cl)).put mt (ew W)).get rr=some (kQ mf u.length seen cl):=by rw[Vw.put_other _ _ aB,Vw.put_get]);(have bf:((Y.put rr (kQ mf u.length seen cl)).put mt (ew W)).get mf=some (ew u):=by rw[Vw.put_other _ _ b3.symm,Vw.put_other _ _ bc.symm];exact y);refine Sa<|QZ J (R6 u J bM bk bf) λq hq=>?_;rcases q with _|⟨j,kk,vv⟩
  rotate_left
  .have ⟨hj,hjs⟩:=hq;have br:=cC hj;dsimp only;refine Sb 1 [0,46,48] J<|QA<|Qn J ?_ ?_<;>intro h;{refine Se<|QJ<|Sa<|QY J (Mc u J (λX=>Vw.put_get _ _ _) (λX=>(Vw.put_other _ _ bc.symm).trans bf) (λX=>hj))<|Sb 4 [0,8,9,46] J<|QC<|Yy 3 J<|gP J J J J (C8 W J J Tryz.underlying153 Tryz.underlying3 ((Vw.put_other _ _ aB.symm).trans (Vw.put_get _ _ _))) λ_ _=>du [0,46] J<|QM<|Qw ?_;rw[Vw.put4 _ _ _ _ _ aB];(have bu:∀n,(∃(i:Nat) (v:Z7),i∈seen.push j/\u[i]? =some (n,v))->ey (fq W kk vv) n=ey u n:=by rintro n ⟨i2,v2,a6,af⟩;rw[pT];split;{rename_i e;subst e;exact(BT hF.nodup hj).symm};rename_i bp;rw[Array.mem_push]at a6;(rcases a6 with a6|rfl);{exact hA n ⟨i2,v2,a6,af⟩};rw[hj]at af;cases af;exact absurd J bp);(have bB:∀n,¬(∃(i:Nat) (v:Z7),i∈seen.push j/\u[i]? =some (n,v))->ey (fq W kk vv) n=ey O n:=by intro n b5;rw[pT,ZX (λe=>b5 ⟨j,vv,sm,by rw[hj,e]⟩)];exact hB n λ⟨i2,v2,a6,af⟩=>b5 ⟨i2,v2,by rw[Array.mem_push];exact .inl a6,af⟩);have bY:=Rx br hjs;refine Qr ((seen.push j,fq W kk vv,u.length))<|⟨ZS _,bu,bB⟩};exact absurd h dc
  dsimp only at hq⊢;refine Sb 1 [0,46,48] J<|QA<|Qn J ?_ ?_<;>intro h;{exact absurd h dc};refine QN<|QK<|QK<|QQ<|g6 aJ J ?_;intro E1 w1 bj aK;refine oa (E:=E) bj aK J J (by repeat (first|exact gk.zero|refine gk.succ J ?_)) J oo J ?_;clear bj aK w1 E1 E;refine du [2,3,5,6,17,18,19] J<|Qw<|QC<|QE 3 [2,3,4,5,17,18,19] J<|QM<|Qw<|QC<|Sb 2 [2,3,4,5,17,18,19] J ?_
  have aI:∀n,ey W n=match ey u n with|some v=>some v|none=>ey O n:=by
   intro n;cases z:ey u n with
   |some v=>have ⟨i2,a6⟩:=Jt z;exact(hA n ⟨i2,v,hq i2 (cC a6),a6⟩).trans z
   |none=>refine hB n ?_;rintro⟨i2,v2,_,af⟩;rw[BT hF.nodup af]at z;cases z
  have ap:∀b p,Y.get b=some (ld 9 p)->((Y.put rr (kQ mf u.length seen cl)).put mt (ew W)).get b=some (ld 9 p):=by intro b p hb;(have h1:b≠mt:=λe=>by rw[e,aq]at hb;cases hb);(have h2:b≠rr:=λe=>by rw[e,al]at hb;cases hb);rw[Vw.put_other _ _ h1,Vw.put_other _ _ h2];exact hb
  have hR:MpR 9 ((Y.put rr (kQ mf u.length seen cl)).put mt (ew W)) W (pA T F):=by
   refine⟨λn hn=>?_,λn p hp=>?_⟩
   .rw[pA]at hn;rw[aI];cases z:F n with
    |some p=>rw[z]at hn;cases hn
    |none=>rw[z]at hn;rw[hF.r.none_ n z];exact b8.none_ n hn
   rw[pA]at hp;rw[aI];cases z:F n with
   |some p2=>rw[z]at hp;cases hp;have ⟨b,h1,h2,h3⟩:=hF.r.some_ n p z;exact⟨b,by rw[h1],ap b p h2,h3⟩
   |none=>rw[z]at hp;have ⟨b,h1,h2,h3⟩:=b8.some_ n p hp;exact⟨b,by rw[hF.r.none_ n z];exact h1,ap b p h2,h3⟩
  have bt:∀n p,pA T F n=some p-> ∀s∈p,s.size<=256:=by
   intro n p hp;rw[pA]at hp;cases z:F n with
   |some p2=>rw[z]at hp;cases hp;exact bi n p z
   |none=>rw[z]at hp;exact aC n p hp
  (have bG:(vw w).le ((Y.put rr (kQ mf u.length seen cl)).put mt (ew W)):=by have h0:=hZ.trans R;refine⟨λk o hk=>?_,h0.os,h0.tape,h0.output⟩;(have h1:k≠mt:=λe=>by rw[e,bd]at hk;cases hk);(have h2:k≠rr:=λe=>by have:=h0.get _ _ hk;rw[e,al]at this;cases this);rw[Vw.put_other _ _ h1,Vw.put_other _ _ h2];exact h0.get _ _ hk);rw[ba];refine Qr ((i+1,i+1,W,pA T F,(Y.put rr (kQ mf u.length seen cl)).put mt (ew W)))<|⟨by dsimp only;omega,ZS _,bG,Vw.put_get _ _ _,hR,by dsimp only;rw[p_,U_];exact B,bt⟩
 have bK:i=L.length:=om;subst bK;clear h;rw[Zp,pp]at B;(have b4:mU L=dA (λn=>(T n).map iT) 0 64:=by rw[LV,B]);generalize hF:(λn=>(T n).map iT)=f8 at b4;refine QN<|QK<|QK<|QQ<|Qw<|QA<|Sa<|Sb 1 [2,3,36] J<|QJ<|iD 2 93 2 J J ?_;have e0:dA f8 0 0=[]:=rfl;refine Ql [3] [0] J J (σ:=Nat) (λj=>[(2,.a (.row 0)),(36,.a (.v (I j)))]) (λj=>[(0,.row 93 2 (dA f8 0 j).length ((dA f8 0 j).flatMap Block.cells))]) (λj=>j<=64) (λj=>64 - j) (0) om ?_ (hs:=by repeat (first|exact dT.nil|refine dT.cons J ?_|refine dT.cons (by simp only[e0];first|done|rfl) ?_)) (hO:=by repeat (first|exact dm.nil|refine dm.cons J ?_|refine dm.cons (by simp only[e0];first|done|rfl) ?_));rintro j hj;have bW:=u9 f8 j 0;refine Sa<|Sb 1 [2,3,36,37] J<|QA<|QX J ?_ ?_<;>intro h
 .have bP:j<64:=om;clear h;have b2:IntKind.i64.wrap ((j:Int)+1)=((j+1:Nat):Int):=cx om om;(have bF:f8 (j:Int)=(T (j:Int)).map iT:=by rw[<-hF]);have an:=Be f8 j 0;rw[Int.zero_add,bF]at an;cases ar:T (j:Int)with
  |none=>rw[ar]at an;(have az:dA f8 0 (j+1)=dA f8 0 j:=by rw[an];exact Zb _);refine Se<|QA<|QJ<|Sa<|Sc 2 [2,3,8,36] J<|Yy 2 J<|QY J (K6 O cz false J Tryz.underlying153 Tryz.underlying3 (λw=>Tryz.zeroValue25 w) (λX=>N) (λX=>by rw[hT.none_ _ ar];exact⟨J,J⟩))<|Sb 5 [2,3,8,9,10,36] J<|QA<|Sa<|Sn 2 [2,3,8,9,36,46] J J ?_ ?_<;>intro h;{refine QN<|QK<|QQ<|Qw<|QC<|Sb 2 [2,3,36] J ?_;rw[b2,<-az];refine Qr (j+1) om};exact absurd h dc
  |some p=>
   have ⟨b,hgb,hbZ,hp8⟩:=hT.some_ _ _ ar;have bb:=aC _ _ ar;have aV:=BH hbZ hp8;rw[ar]at an;have az:dA f8 0 (j+1)=dA f8 0 j++[⟨(j:Int),iT p⟩]:=an
   have b9:∀m:Nat,(iT (p.take m)).size<=256*m:=by
    intro m
    induction m with
    |zero=>simp[iT]
    |succ m ih=>by_cases hm:m<p.length;{obtain⟨s,hs⟩:∃s,p[m]? =some s:=⟨_,List.getElem?_eq_getElem hm⟩;rw[rG hs,iT,X_];have h1:=bb s (ZZ hs);(have h2:(List.foldl (· ++ ·) (List.foldl (· ++ ·) ByteArray.empty (p.take m)) [s]).size=(iT (p.take m)).size+s.size:=by simp[iT,YP]);omega};rw[ZG om];rw[ZG om]at ih;omega
   refine Se<|QA<|QJ<|Sa<|Sc 2 [2,3,8,36] J<|Yy 2 J<|QY J (K6 O (iA b) true J Tryz.underlying153 Tryz.underlying3 (λw=>Tryz.zeroValue25 w) (λX=>N) (λX=>by rw[hgb];exact⟨J,J⟩))<|Sb 5 [2,3,8,9,10,36] J<|QA<|Sa<|Sn 2 [2,3,8,9,36,46] J J ?_ ?_<;>intro h;{exact absurd h dc};refine Sf<|Yy 3 J<|Qs J<|du [2,3,9,11,36] J<|Qw<|QA<|Sa<|Yy 1 J<|QY J (pi aJ J)<|Sb 1 [2,3,11,36,49,50,51] J<|QJ<|Ql [2,3,11,36,49,50] [1] J J (σ:=Nat) (λk=>[(51,.a (.v (I k)))]) (λk=>[(1,.lit [.v (I j),.v (S (iT (p.take k)))] 93)]) (λk=>k<=8) (λk=>8 - k) (0) om ?_;rintro k hk;refine Sa<|Sb 1 [2,3,11,36,49,50,51,52] J<|QA<|QX J ?_ ?_<;>intro h;{refine Se<|QA<|QJ<|QA<|QC ?_;have ⟨s,h_s⟩:=aV.at (k:=k) om;have bH:=cC h_s;refine QY J (yI J aV)<|QY J (yL k 0 J aV h_s J)<|Sb 1 [2,3,11,13,36,49,50,51] J<|QC<|Yy 3 J ?_;have bV:=bb s (ZZ h_s);have bX:=b9 k;refine QY J (vf J (λX=>om))<|Yy 1 J<|Qs J<|du [2,3,11,36,49,50,51] J<|QM<|Qw<|QC<|Sb 2 [2,3,11,36,49,50,51] J ?_;rw[show iT (p.take k)++s=iT (p.take (k+1))from by rw[rG h_s];simp[iT],cx (n:=(k:Int)+1) om om];refine Qr (k+1) om};refine QN<|QK<|QK<|QQ<|Qw<|QC<|Yy 2 J ?_;have aS:k=8:=om;subst aS;rw[ZG om];refine QZ J (cX aJ 2 J J J) λ_ _=>QZ J (cQ aJ (Block.cells ⟨(j:Int),iT p⟩) J (λE w hm=>dZ (hm.row _ _ _ _ _ J)) (λ_ _ _=>by simpa using pE [⟨(j:Int),iT p⟩]) od) λ_ _=>QE 1 [2,3,36] J<|QM<|Qw<|QC<|Sb 2 [2,3,36] J ?_;have hx:=uh (dA f8 0 j) ⟨(j:Int),iT p⟩;rw[<-az]at hx;rw[hx.1,hx.2,b2];refine dx 0 3 J<|Qr (j+1) om
 refine QN<|QK<|QK<|QQ<|Sg<|Sd 2 [2] J<|uC<|cL aJ J ?_;have bD:j=64:=om;subst bD;rw[<-b4];intro E w' hm _;exact⟨⟨E.κ 0,J,hm.rowFresh hZ (l:=0) J⟩,hm.below hZ⟩
theorem X3{g:Geo}{key lsn:Int}{l:Z8 Block}(h:OfOk g key lsn l){i:Nat}{r:Record}(d:(iN g key lsn l)[i]? =some r):fX r=true:=by have m:=(List.getElem?_eq_some_iff.1 d).1;rw[An]at m;by_cases hi:i<l.length*g.per.toNat;{rw[FE hi]at d;cases d;exact h.recsB i hi};have:i=l.length*g.per.toNat:=om;subst this;rw[D2]at d;cases d;exact h.commitB
theorem D4(t:Z5):∀k,(nP t k).data.toList=t.data.toList.drop (256*k)
 |0=>by simp[nP]
 |k+1=>by
  have hz:=ll (nP t k)
  rw[nP,Ef,YL,YG,YX]
  rw[ZG (by rw[Zk];omega),<-hz]
  have d:=D4 t k
  by_cases h:(nP t k).data.toList.length<=256
  ·
   rw[Nat.min_eq_left h,Zp]
   rw[d,Zk]at h
   rw[Yn om]
  ·
   rw[Nat.min_eq_right om,d,Yu]
   congr 1
theorem HO(t:Z5)(k:Nat):(l4 t k).data.toList=(t.data.toList.drop (256*k)).take 256:=by
 have d:=ll (nP t k);rw[l4,yG,YL,YG,YX,List.drop_zero,Nat.sub_zero,<-D4,<-d]
 grind
theorem Ep(t:Z5)(k:Nat)(l:k<=100)(d:t.size<=maxLen)(w:Z6):Rt 306 #[S t,I k] w (S (l4 t k)):=by simp only[maxLen]at d;have p:=ll t;refine dN J<|QY J (mO J)<|zA J<|QY J (mO J)<|zA J ?_;rw[cx (n:=(k:Int)*256) om om,cx (n:=(k:Int)+1) om om,cx (n:=((k:Int)+1)*256) om om];refine QY J (pF aJ J (λo=>by simp;omega))<|zA J<|Tz J λE=>?_;show Ending.returned (S (t.extract (min ((k:Int)*256) (t.size:Int)).toNat (min (((k:Int)+1)*256) (t.size:Int)).toNat))=_;congr 2;apply lD;rw[HO,YL,YG,YX];by_cases h:t.size<=256*k;{rw[Yn (i:=256*k) om,Yn om];simp};rw[show(min ((k:Int)*256) (t.size:Int)).toNat=256*k by omega];by_cases m:t.size<=256*(k+1);{rw[show(min (((k:Int)+1)*256) (t.size:Int)).toNat=t.size by omega,ZG (by rw[Zk];omega),ZG (by rw[Zk];omega)]};rw[show(min (((k:Int)+1)*256) (t.size:Int)).toNat=256*k+256 by omega,I']
theorem FB{α:Type}{l:Z8 α}{k:Nat}{R:Nat->α->Prop}{x:α}(d:l[k]? =some x)(h:∀j y,j<k->l[j]? =some y->R j y)(m:R k x):∀j y,j<k+1->l[j]? =some y->R j y:=by grind
theorem WF(V:Vw)(g:Geo)(ok:g.Ok)(key lsn:Int)(sv:Z7)(l:Z8 Block)(w:Z6)(hV:V.le (vw w))(a0:SlOf V Block.cells 2 sv l)(hn:l.length<=eg): Cl 273 #[g.val,I key,I lsn,sv] w (VR g key lsn l w):=by
 have hs:=a0.mono hV;simp only[eg]at hn;refine tH J<|zC J (jc g ok)<|zA J<|QY J (yN J hs)<|zA J<|QY J (yN J hs)<|cS J ?_ ?_<;>intro h;{refine Qb J λE Y o=>⟨.inr ⟨λm=>?_,J⟩,o.below lr⟩;have h1:=m.geo;have h2:=m.some_;have h3:=m.few;have h4:=m.lsnB;have h5:l.length≠0:=λh=>h2 (Zu h);simp only[iB,Z1,ZV]at h4;simp only[h1,Bool.not_true,A_,Zv,ZV,beq_iff_eq]at h;omega};simp only[Zf,Z_,Zl,beq_eq_false_iff_ne]at h;obtain⟨⟨⟨⟨R,X⟩,ag⟩,ai⟩,y⟩:=h;have hf:=dE R;obtain⟨per,O⟩:∃per:Nat,g.per=per:=⟨g.per.toNat,om⟩;have p:g.per.toNat=per:=om;have ad:l.length<=64:=om;refine iD 10 86 6 J J ?_;(have e0:ip key lsn per l (0*per)=[]:=by simp[ip]);refine zL [1,2,3,4] [1] J J (σ:=Nat) (λi=>[(10,.a (.row 1)),(11,.a (.v (I i)))]) (λi=>[(1,.row 86 6 (ip key lsn per l (i*per)).length ((ip key lsn per l (i*per)).flatMap Record.cells))]) (λi=>i<=l.length/\(∀i' b,i'<i->l[i']? =some b->BlkOk g l i' b)/\ -1<=i9 l i) (λi=>l.length - i) (0) (⟨om,om,by simp[i9]⟩) ?_ (hs:=by repeat (first|exact dT.nil|refine dT.cons J ?_|refine dT.cons (by simp only[e0];first|done|rfl) ?_)) (hO:=by repeat (first|exact dm.nil|refine dm.cons J ?_|refine dm.cons (by simp only[e0];first|done|rfl) ?_));rintro i ⟨hi,z,a5⟩
 have ap:(i=0/\i9 l i= -1)\/(0<i/\i9 l i=(kE l (i - 1)).n):=by
  cases i with
  |zero=>exact .inl ⟨J,J⟩
  |succ j=>exact .inr ⟨om,J⟩
 (have ak:i*per<=512:=by have:i*per<=64*per:=Zn _ om;omega);refine zB J<|QY J (yN J hs)<|cJ J ?_ ?_<;>intro h;{refine ez mixed kr<|Dm 2 J ?_;have ⟨x,h_x⟩:=hs.at (k:=i) om;have ar:IntKind.i64.wrap (g.per*256)=g.per*256:=cx om om;have d:=cC h_x;refine Qd J (yI J hs)<|Qd J (yF J hs)<|Qd J (yL i 0 J hs h_x J)<|Dm 4 J ?_;have d:=cC h_x;refine Qd J (yI J hs)<|Qd J (yF J hs)<|Qd J (yL i 0 J hs h_x J)<|Dm 10 J ?_;have d:=cC h_x;refine Qd J (yI J hs)<|Qd J (yF J hs)<|Qd J (yL i 0 J hs h_x J)<|Dm 3 J<|Qd J (dO aJ ((i - 1)*2) J (by rw[cx om om];dsimp only;omega) (λu=>hs.sl) (λu=>by simp at u;rw[cx om om];omega))<|Qd J (yF J hs)<|Qd J (dy aJ (i - 1) 0 (kE l (i - 1)) J (λu=>hs) (λu=>by rw[kE,List.getD,List.getElem?_eq_getElem om];rfl) J J)<|Dm 6 J ?_;have d:=cC h_x;refine Qd J (yI J hs)<|Qd J (yF J hs)<|Qd J (yL i 1 J hs h_x J)<|Dm 6 J<|mF J ?_ ?_<;>intro h;{refine Qb J λE Y o=>⟨.inr ⟨λm=>?_,J⟩,o.below lr⟩;have ⟨k1,k2,k3⟩:=m.blks i x h_x;omega};have N:BlkOk g l i x:=⟨om,om,om⟩;have aq:0<=x.n:=om;clear h;rw[O];refine zL [1,2,3,4,11] [1] J J (σ:=Nat) (λk=>[(10,.a (.row 1)),(12,.a (.v (I k)))]) (λk=>[(1,.row 86 6 (ip key lsn per l (i*per+k)).length ((ip key lsn per l (i*per+k)).flatMap Record.cells))]) (λk=>k<=per) (λk=>per - k) (0) om ?_;rintro k hk;refine dD J ?_ ?_<;>intro h;{refine Rb [21] J<|QD [0,1,2,3] J ?_;have M:k<per:=om;have T:=UD key lsn per l h_x M;(have L:IntKind.i64.wrap (lsn+((ip key lsn per l (i*per+k)).length:Int))=lsn+(i*per+k:Nat):=by rw[ml,cx om om]);(have y:(ip key lsn per l (i*per+k)).length+1=(ip key lsn per l (i*per+(k+1))).length:=by rw[ml,ml];omega);refine QD [4,5,6,7] J ?_;have d:=cC h_x;refine zu 8 J (yI J hs)<|zu 9 J (yF J hs)<|zu 10 J (yL i 0 J hs h_x J)<|QD [11,12,13] J ?_;have d:=cC h_x;refine zu 14 J (yI J hs)<|zu 15 J (yF J hs)<|zu 16 J (yL i 1 J hs h_x J)<|QD [17] J<|QS<|Qo 18 ?_;have aj:=N.size;refine Th 18 J J (FN 306) (λu E w1 o=>Ep x.text k om (by simp only[maxLen];omega) _)<|Qx [19] J<|Qo 20 ?_;rw[L];refine Qg 20 J J (cX aJ 6 J J J) λ_ _=>Qo 21<|gv 21 J J J J J J (cQ aJ (nL key lsn per l (i*per+k)).cells J (λE w o=>by rw[T];exact dZ (o.row _ _ _ _ _ J)) (λ_ _ _=>by simpa using nM [nL key lsn per l (i*per+k)]) (by dsimp only;rw[ml];omega)) (.inl J) λ_ _=>Qx [22] J<|zH J ?_;rw[y,show(ip key lsn per l (i*per+k)).flatMap Record.cells++(nL key lsn per l (i*per+k)).cells=(ip key lsn per l (i*per+(k+1))).flatMap Record.cells by rw[<-Nat.add_assoc,Rs];simp];rw[cx (n:=(k:Int)+1) om om];refine dx 1 3 J<|Qr (k+1) om};have aa:k=per:=om;subst aa;rw[cx (n:=(i:Int)+1) om om,show i*k+k=(i+1)*k by rw[Y4,Yk]];refine Qr (i+1)<|⟨om,FB h_x z N,by rw[z7 h_x];omega⟩};have a8:i=l.length:=om;subst a8;(have L:IntKind.i64.wrap (lsn+((ip key lsn per l (l.length*per)).length:Int))=lsn+(l.length*per:Nat):=by rw[ml,cx om om]);(have y:(ip key lsn per l (l.length*per)).length+1=(iN g key lsn l).length:=by rw[ml,An,p]);(have Z:qE key lsn (l.length*per)=⟨key,lsn+(l.length*per:Nat),0,0,ByteArray.empty,((ip key lsn per l (l.length*per)).length:Int)⟩:=by simp[qE,ml]);(have W:(ip key lsn per l (l.length*per)).flatMap Record.cells++(qE key lsn (l.length*per)).cells=(iN g key lsn l).flatMap Record.cells:=by rw[iN,p];simp);have B:=An g key lsn l;rw[p]at B;rw[L];refine QZ J (cX aJ 6 J J J) λ_ _=>QZ J (cQ aJ (qE key lsn (l.length*per)).cells J (λE w o=>by rw[Z];exact dZ (o.row _ _ _ _ _ J)) (λ_ _ _=>by simpa using nM [qE key lsn (l.length*per)]) (by dsimp only;rw[ml];omega)) λ_ _=>zA J ?_;rw[y,W];refine zL [10] [] J J (σ:=Nat) (λj=>[(13,.a (.v (I j)))]) (λj=>[]) (λj=>j<=(iN g key lsn l).length/\ ∀i r,i<j->(iN g key lsn l)[i]? =some r->fX r=true) (λj=>(iN g key lsn l).length - j) (0) (⟨om,om⟩) ?_;rintro j ⟨hj,t⟩;refine dD J ?_ ?_<;>intro h;{obtain⟨r,hr⟩:∃r,(iN g key lsn l)[j]? =some r:=⟨(iN g key lsn l)[j]'om,sm⟩;refine QY J (cW (s:=.a (.rel 3 (j*6))) 3 J J (λv V' hv=>dO aJ (j*6) J sm (λu=>hv) (λu=>om)))<|QY J (cW (s:=.agg (r.cells.map .v)) 3 J J (λv V' hv=>dy aJ j 0 r J (λu=>⟨hv,cw⟩) (λu=>hr) J J))<|zC J (B1 r)<|cJ J ?_ ?_<;>intro h;{refine Qb J λE Y o=>⟨.inr ⟨λm=>?_,J⟩,o.below lr⟩;have:=X3 m hr;rw[this]at h;cases h};rw[cx (n:=(j:Int)+1) om om];refine Qr (j+1)<|⟨om,FB hr t h⟩};refine cL aJ J ?_;have a6:j=(iN g key lsn l).length:=om;subst a6;intro E Y o _;(have m:OfOk g key lsn l:=by refine⟨R,λhc=>X (by rw[hc];rfl),om,by simp only[iB,Z1,ZV];omega,λi b hb=>z i b (List.getElem?_eq_some_iff.1 hb).1 hb,λj hj=>?_,?_⟩;{exact t j _ (by rw[B,<-p];omega) (FE hj)};exact t (l.length*g.per.toNat) _ (by rw[B,p];omega) D2);exact⟨.inl ⟨m,E.κ 3,J,o.rowFresh lr (l:=3) J⟩,o.below lr⟩
theorem Mx(g:Geo)(ok:g.Ok)(d:cY g=true)(i:Nat)(hi:(i:Int)<g.nodes)(w:Z6):Rt 107 #[g.val,I i] w (I (1+i)):=by have l:=dE d;refine dN J<|zC J (jc g ok)<|zA J<|zC J (ke _ _ _)<|cS J ?_ ?_<;>intro h;{refine cL aJ J ?_;rw[lQ]at h;simp only[Zv,ZJ,Zl]at h;rw[cx om om,d]at h;(rcases h with h|h);{cases h};omega};refine Tz J λE=>?_;rw[cx om om];rfl
theorem Nv(g:Geo)(ok:g.Ok)(d:cY g=true)(i:Nat)(hi:(i:Int)<g.nodes)(w:Z6):Rt 207 #[g.val,I i] w (I (1+g.nodes+i)):=by have l:=dE d;refine dN J<|zC J (jc g ok)<|zA J<|zC J (ke _ _ _)<|cS J ?_ ?_<;>intro h;{refine cL aJ J ?_;rw[lQ]at h;simp only[Zv,ZJ,Zl]at h;rw[cx om om,d]at h;(rcases h with h|h);{cases h};omega};refine Tz J λE=>?_;rw[cx (n:=1+g.nodes) om om,cx om om];rfl
theorem OQ(g:Geo)(ok:g.Ok)(d:cY g=true)(i:Nat)(hi:(i:Int)<g.log)(w:Z6):Rt 36 #[g.val,I i] w (I (1+2*g.nodes+i)):=by have l:=dE d;refine dN J<|zC J (jc g ok)<|zA J<|zC J (ke _ _ _)<|cS J ?_ ?_<;>intro h;{refine cL aJ J ?_;rw[lQ]at h;simp only[Zv,ZJ,Zl]at h;rw[cx om om,d]at h;(rcases h with h|h);{cases h};omega};refine Tz J λE=>?_;rw[cx (n:=2*g.nodes) om om,cx (n:=1+2*g.nodes) om om,cx om om];rfl
theorem wF{g:Geo}(d:cY g=true){i:Nat}(hi:(i:Int)<g.slots):dt g (i:Int)=1+2*g.nodes+g.log+(i:Int)*(1+g.journal):=by rw[dt,ZW ⟨d,om,hi⟩]
theorem Cq{g:Geo}(d:cY g=true){i:Nat}(hi:(i:Int)<g.slots){j:Int}(l:0<=j):fK g (i:Int) j=1+2*g.nodes+g.log+(i:Int)*(1+g.journal)+1+j%g.journal:=by have h:=(tj d hi).1;rw[fK,ZX om,wF d hi]
theorem zN{a i k:Int}(d:0<=a)(h:i<k):i*a+a<=k*a:=by have:=Y3 (a:=i+1) (b:=k) (c:=a) om d;rw[u']at this;omega
theorem CK{g:Geo}(d:cY g=true){i k:Nat}(hi:(i:Int)<g.slots)(m:(k:Int)<g.slots){l:Int}(o:0<=l):dt g (i:Int)≠fK g (k:Int) l:=by intro h;have p:=dE d;rw[wF d hi,Cq d m o]at h;have u:=O_ l (b:=g.journal) om;have t:=X8 l (b:=g.journal) om;(rcases Int.lt_trichotomy (i:Int) k with h5|h5|h5);{have:=zN (a:=1+g.journal) om h5;omega};{rw[h5]at h;omega};have:=zN (a:=1+g.journal) om h5;omega
theorem vS{g:Geo}(d:cY g=true){i:Nat}(hi:(i:Int)<g.slots):dt g (i:Int)<eO g:=by have m:=dE d;have h:=zN (a:=1+g.journal) om hi;have l:eO g=1+2*g.nodes+g.log+g.slots*(1+g.journal):=rfl;rw[wF d hi];omega
theorem IG{g:Geo}(d:cY g=true){i:Nat}(hi:(i:Int)<g.slots){j:Int}(m:0<=j):fK g (i:Int) j<eO g:=by have o:=dE d;have h:=zN (a:=1+g.journal) om hi;have p:=X8 j (b:=g.journal) om;have l:eO g=1+2*g.nodes+g.log+g.slots*(1+g.journal):=rfl;rw[Cq d hi m];omega
end Go.Proofs.YtlkkohkilelamaaGreat
set_option linter.unusedVariables false
set_option linter.unusedSimpArgs false
set_option maxRecDepth 100000
set_option maxHeartbeats 4000000
namespace Go.Proofs.YtlkkohkilelamaaGreat
open Go Go.Eng Go.RowKit
def iH(l:Z8 Z5):Z8 UInt8:=l.flatMap λs=>s.data.toList
def ku(l:Z8 Z5):Z5:=cN (iH l)
theorem Jd(l:Z8 Z5):(ku l).size=(iH l).length:=gx _
theorem Ip(l:Z8 Z5):Lib.join (l.map (·.data.toList)) (ByteArray.empty).data.toList=iH l:=by
 cases l with
 |nil=>rfl
 |cons x r=>
  rw[Zq,Lib.join_cons];simp only[Lib.joinTail,iH,Zy];congr 1
  induction r with
  |nil=>rfl
  |cons y r ih=>simp at ih⊢;rw[<-ih]
theorem EM:∀l:Z8 Z5,l.flatMap da=l.map Value.string
 |[]=>rfl
 |x::r=>by rw[Zy,EM r];rfl
theorem Pt(V:Vw)(t:Z7)(l:Z8 Z5)(w:Z6)(hV:V.le (vw w))(hs:SlOf V da 1 t l)(E:l.length<=140737488355328)(N:(iH l).length<=140737488355328): Rt 94 #[t,S ByteArray.empty] w (S (ku l)):=by
 (rcases hs.sl.2 with⟨a,c,rfl,u⟩|⟨b,off,p,cs,e,fz,rfl,y,M,B,m⟩);{have:l=[]:=Zu u;subst this;exact(Tryz.strings_Join_none a c ByteArray.empty w).mono λe w' ⟨he,hw⟩=>⟨he,hw▸Below.refl _ _⟩};have d:=hV.get _ _ y;have o:=(Array.getElem?_eq_some_iff.1 d).1
 have key:=Tryz.strings_Join b off p l ByteArray.empty w (λj x L=>by
  have z:=Bx (w:=w) (off:=off) (e:=e) (fz:=fz) (cs:=cs) (k:=l.length*1) (xs:=l.flatMap da) d B j (.string x) (by
   rw[EM,List.getElem?_map,L];rfl)
  rwa [Addr.add_lit]at z) o E m (by rw[Ip];exact N)
 rw[Ip]at key;exact key
abbrev uZ(f:Fetching)(g:Geo):Z8 Z7:=f.cells++g.cells
theorem E6(f:Fetching)(g:Geo)(b:Nat)(w:Z6)(d:w.heap[b]? =some (.cells (uZ f g).toArray 221 (0,0))): Rt 92 #[.pointer (some ⟨b,0,none⟩)] w (.bool (decide (g.per<=f.k))):=by refine j5 [.a (.ptr 0 0)] d Tryz.func92 J J J J<|zW J<|ez mixed kr<|Dm 12 J<|zD J<|Qb J λE m l=>?_;exact⟨J,iI d l lr J J J⟩
theorem TB{V:Vw}{v:Z7}{sz m:Nat}{xs:Z8 Z7}(h:eL V v sz m xs):∃a c,v=.slice a m c/\m<=c/\eL V (.slice a m m) sz m xs:=by (rcases h with⟨o,⟨a,c,rfl,rfl⟩|⟨b,off,l,cs,e,f,rfl,p,d,u,t⟩⟩);{exact⟨a,c,J,Zz _,o,.inl ⟨a,0,J,J⟩⟩};exact⟨_,l,J,t,o,.inr ⟨b,off,m,cs,e,f,J,p,d,u,ZS _⟩⟩
theorem XJ(M k:Int)(g:Geo)(v y:Z7)(L:Z8 Z5)(d:Z5)(b:Nat)(w:Z6)(N:w.heap[b]? =some (.cells (uZ ⟨M,k,⟨v,L⟩⟩ g).toArray 221 (0,0))) (m:SlOf ((vw w).del b) da 1 v L) (u:SlOf ((vw w).del b) da 1 y [d]) (V:L.length<=1099511627776): Cl 93 #[.pointer (some ⟨b,0,none⟩),y] w λe w'=>e=.returned (.tuple #[])/\ ∃v',Go.Eng.Touch (· =b) w w'/\w'.ownsRow w.heap.size 9 1 v' (L++[d]).length ((L++[d]).flatMap da)/\ w'.heap[b]? =some (.cells (uZ ⟨M,IntKind.i64.wrap (k+1),⟨v',[]⟩⟩ g).toArray 221 (0,0)):=by obtain⟨a,c,rfl,O,o⟩:=TB m.sl;refine j5 [.a (.ptr 0 0),.a (.v y)] N Tryz.func93 J J J J<|zW J<|Rb [24] J<|QD [0,1,2,3,4,5,6,7,8,9,10] J ?_;have B:=m;have z:=u;refine zu 11 J (yN J B)<|QD [12,13,14,15,16] J<|zu 17 J (yN J B)<|zu 18 J (EE aJ J (λT=>⟨om,om,om⟩))<|QD [19] J<|QS<|Qo 20 ?_;rw[ZH];refine Qg 20 J J (VH aJ ([d].flatMap da) J o (λE R p=>z.sl.src p.get) sm (by dsimp only;simp;omega)) λ_ _=>Qx [21,22,23] J<|zJ 24 J<|zH J<|QY J (yN J z)<|zA J<|Qs J<|zA J<|g6 aJ J ?_;intro E w' p _;have ⟨h1,h2⟩:=pc p lr J J J;refine⟨J,E.κ 3,h1,?_,?_⟩;{have t:=p.rowFreshD lr (l0:=0) J (p.pin 1 0 _ J).1 (l:=3) J;rw[ZQ,ZF];exact t};rw[h2];rfl
section
open Go.Eng
variable{o:Oper}{n:Nat}{F:cy}{C:Z8 Nat}{O:Go.Eng.Own}{nl:Nat}{V:Vw}
theorem X6{p:Z8 (Nat×Bool)}(l r:Nat)(t k:Int)(g:Geo)(v:Z7)(L:Z8 Z5)(d:Z5)(Y:fL F p o.op=some (93,[.a (.ptr l 0),.a (.row r)])) (y:lk O l=some (.lit ((uZ ⟨t,k,⟨v,L⟩⟩ g).map .v) 221)) (T:lk O r=some (.row 9 1 [d].length ([d].flatMap da))) (R:SlOf V da 1 v L) (X:L.length<=1099511627776) (W:∀E w,Mem E O nl V w->SlOf ((vw w).del (E.ρ l)) da 1 v L): StepTo bJ o p n F C O nl V (σ:=Unit) (λ_=>True) (λ_=>.tup []) (λ_=>(l,.lit (.v (I t):: .v (I (IntKind.i64.wrap (k+1))):: .row nl::g.cells.map .v) 221)::(nl,.row 9 1 (L++[d]).length ((L++[d]).flatMap da))::O) (nl+1) (λ_=>V):=by
 refine UY (λ_=>True) (λ_=>.tup []) l 221 9 1 (λ_=>(L++[d]).length) (λ_=>(L++[d]).flatMap da) (λ_=>.v (I t):: .v (I (IntKind.i64.wrap (k+1))):: .row nl::g.cells.map .v) Y (FN 93) y
  (λ_=>by simp only[dH,A.ok,eD,Z1,ZI];exact⟨om,(iC E0 _).2 _⟩) cw ?_
 intro E w z N;refine(XJ t k g v (E.κ r) L d (E.ρ l) w (by rw[N,(iC E _).1]) (W E w z) (z.rowOfDel (enc:=da) (L:=[d]) r y T cw) X).mono ?_;rintro e Z ⟨rfl,B,M,m,u⟩;refine⟨(),B,J,M,m,?_,ZY⟩;rw[u];simp[A.den,Env.setκ,uZ,Fetching.cells]
end
def zO(f:Fetching)(g:Geo)(got:Z5)(V':Vw)(x:Z7):Prop:=
 (256<got.size/\x=.tuple #[f.val,I 50])\/(got.size<=256/\g.per<=f.k/\x=.tuple #[f.val,I 0])\/
 (got.size<=256/\f.k<g.per/\ ∃a n c,x=.tuple #[.agg #[I f.block,I (IntKind.i64.wrap (f.k+1)),.slice a n c],I 0]/\SlOf V' da 1 (.slice a n c) (f.parts.l++[got]))
theorem FV(V:Vw)(f:Fetching)(g:Geo)(m:Z5)(w:Z6)(hV:V.le (vw w))(p:SlOf V da 1 f.parts.v f.parts.l)(y:f.parts.l.length<=1099511627776): Cl 52 #[g.val,f.val,S m] w λe w'=>∃x V',e=.returned x/\cH w w'/\Vext w.heap.size V V' w'/\zO f g m V' x:=by have ⟨bk,k,⟨v,L⟩⟩:=f;simp only at p y;obtain⟨a,n,c,rfl⟩:=cD p.sl;have u:=p.mono hV;refine dC [.a (.v g.val),.a (.v (⟨bk,k,⟨.slice a n c,L⟩⟩:Fetching).val),.a (.v (S m))] J<|dD J ?_ ?_<;>intro h;{refine Qs J<|zA J<|Qb J λE w' d=>?_;have o:=d.below lr;exact⟨_,V,J,o,Vext.same hV o,.inl ⟨om,J⟩⟩};have z:=h;clear h;refine dq J (λM E B d=>E6 ⟨bk,k,⟨.slice a n c,L⟩⟩ g _ _ (d.lit 3 _ _ J))<|cJ J ?_ ?_<;>intro h;{refine QZ J (cX aJ 1 J J J) λ_ _=>QZ J (X6 3 4 bk k g (.slice a n c) L m J J J u y (λE B d=>u.mono (d.leDel (l:=3) J))) λ_ _=>zA J<|Qs J<|zA J<|Qb J λE w' d=>?_;have o:=d.below lr;have t:=d.rowFresh lr (l:=5) J;have ⟨V',hx,hsl⟩:=jS hV o t;have ⟨a',n',c',hv⟩:=cD hsl;rw[hv]at hsl;refine⟨_,V',J,o,hx,.inr (.inr ⟨om,om,a',n',c',?_,hsl,cw⟩)⟩;rw[<-hv];rfl};refine Qs J<|zA J<|Qb J λE w' d=>?_;have o:=d.below lr;exact⟨_,V,J,o,Vext.same hV o,.inr (.inl ⟨om,om,J⟩)⟩
theorem TG(f:Fetching)(g:Geo)(a:Z4 Addr)(n c:Nat)(d:f.parts.v=.slice a n c)(w:Z6):Rt 51 #[g.val,f.val] w (.bool (decide (g.per<=f.k))):=by have ⟨bk,k,⟨v,L⟩⟩:=f;simp only at d;subst d;refine dC [.a (.v g.val),.a (.v (⟨bk,k,⟨.slice a n c,L⟩⟩:Fetching).val)] J<|dq J (λo E m l=>E6 ⟨bk,k,⟨.slice a n c,L⟩⟩ g _ _ (l.lit 2 _ _ J))<|zA J<|Tz J λ_=>rfl
theorem N8(V:Vw)(f:Fetching)(w:Z6)(hV:V.le (vw w))(d:SlOf V da 1 f.parts.v f.parts.l)(o:f.parts.l.length<=140737488355328)(m:(iH f.parts.l).length<=140737488355328): Rt 53 #[f.val] w (S (ku f.parts.l)):=by have ⟨bk,k,⟨v,L⟩⟩:=f;simp only at d o m;obtain⟨a,n,c,rfl⟩:=cD d.sl;have t:=d.mono hV;refine dC [.a (.v (⟨bk,k,⟨.slice a n c,L⟩⟩:Fetching).val)] J<|dq J (λy E u p=>Pt (vw w) _ L _ p.leV t o m)<|zA J<|Tz J λ_=>rfl
def i0(T:Z8 Z5)(g:Geo)(b:Int)(k:Nat):Z8 Z5:=(List.range k).map λ(j:Nat)=>T.getD (fI g b (j:Int)).toNat ByteArray.empty
theorem UF(T:Z8 Z5)(g:Geo)(b:Int)(k:Nat):i0 T g b (k+1)=i0 T g b k++[T.getD (fI g b (k:Int)).toNat ByteArray.empty]:=by simp[i0,Y0]
theorem SB(T:Z8 Z5)(g:Geo)(b:Int)(k:Nat):(i0 T g b k).length=k:=by simp[i0]
def oS(g:Geo)(d:Device)(b:Int):Bool:=gD d&&(cY g&&decide ((d.s.l.length:Int)=dw g/\0<=fI g b 0))
def kg(g:Geo)(d:Device)(b:Int):Z5×Int:=
 if oS g d b=true then(if(i0 d.s.l g b g.per.toNat).all (λx=>decide (x.size<=256))=true then(ku (i0 d.s.l g b g.per.toNat),0)else(ByteArray.empty,50))else(ByteArray.empty,2)
theorem WZ{g:Geo}{b:Int}(l:cY g=true)(m:0<=fI g b 0){k:Nat}(p:(k:Int)<g.per):∃q:Nat,fI g b (k:Int)=(q:Int)/\(q:Int)<dw g:=by have u:=dE l;(have d:0<=b/\b<g.blocks:=by unfold fI at m;split at m;{rename_i h;exact⟨h.2.1,h.2.2.1⟩};omega);(have hd:fI g b (k:Int)=eO g+b*g.per+k:=by rw[fI,ZW ⟨l,d.1,d.2,om,p⟩]);(have t:fI g b 0=eO g+b*g.per+0:=by rw[fI,ZW ⟨l,d.1,d.2,om,om⟩]);(have w:dw g=eO g+g.blocks*g.per:=by rw[dw,ZW l]);have o:(b+1)*g.per<=g.blocks*g.per:=Y3 om om;rw[u']at o;exact⟨(fI g b (k:Int)).toNat,om,om⟩
theorem L4(V:Vw)(g:Geo)(l:Int)(k:Nat)(v:Z7)(L:Z8 Z5)(d:Z5)(y:(k:Int)<g.per)(m:k<=1000)(z:d.size<=256)(u:L.length<=1099511627776)(w:Z6)(hV:V.le (vw w))(hs:SlOf V da 1 v L): Cl 52 #[g.val,(⟨l,k,⟨v,L⟩⟩:Fetching).val,S d] w λe w'=>∃x V',e=.returned x/\cH w w'/\Vext w.heap.size V V' w'/\ ∃a n c,x=.tuple #[.agg #[I l,I ((k+1:Nat):Int),.slice a n c],I 0]/\SlOf V' da 1 (.slice a n c) (L++[d]):=by refine(FV V ⟨l,k,⟨v,L⟩⟩ g d w hV hs u).mono ?_;rintro e w' ⟨x,V',o,p,t,h|h|h⟩;{omega};{simp only at h;omega};simp only at h;rw[cx (n:=(k:Int)+1) om om]at h;exact⟨x,V',o,p,t,h.2.2⟩
theorem Ms(V:Vw)(g:Geo)(f:Fetching)(d:Z5)(y:256<d.size)(p:f.parts.l.length<=1099511627776)(w:Z6)(hV:V.le (vw w))(hs:SlOf V da 1 f.parts.v f.parts.l): Rt 52 #[g.val,f.val,S d] w (.tuple #[f.val,I 50]):=by refine(FV V f g d w hV hs p).mono ?_;rintro e u ⟨x,t,m,o,z,h|h|h⟩;{exact⟨by rw[m,h.2],o⟩};{omega};omega
theorem UU(V:Vw)(g:Geo)(ok:g.Ok)(d:Device)(blk:Int)(w:Z6)(hV:V.le (vw w))(m:DevIn V d):Rt 24 #[g.val,d.val,I blk] w (.tuple #[S (kg g d blk).1,I (kg g d blk).2]):=by
 obtain⟨⟨sv,sl⟩,⟨cv,cl⟩,⟨kv,kl⟩,nx,⟨fv,fl⟩⟩:=d;obtain⟨a1,n1,c1,rfl⟩:=cD m.s.sl;obtain⟨a2,n2,c2,rfl⟩:=cD m.cache.sl;obtain⟨a3,n3,c3,rfl⟩:=cD m.keys.sl;obtain⟨a4,n4,c4,rfl⟩:=cD m.fenced.sl;have hd:=m.mono hV;have hS:=hd.s;have aj:=hd.sn;simp only[maxLen]at hS aj;generalize hD:(⟨⟨.slice a1 n1 c1,sl⟩,⟨.slice a2 n2 c2,cl⟩,⟨.slice a3 n3 c3,kl⟩,nx,⟨.slice a4 n4 c4,fl⟩⟩:Device)=D at*;(have T:D.val=fD a1 n1 c1 a2 n2 c2 a3 n3 c3 nx a4 n4 c4:=by rw[<-hD]);(have a9:D.s.l=sl:=by rw[<-hD]);have X:=λ(u:Z6) (hle:(vw w).le (vw u))=>CX (vw w) D u hle hd;(have N:oS g D blk=(gD D&&(cY g&&decide ((sl.length:Int)=dw g/\0<=fI g blk 0))):=by rw[oS,a9]);rw[T]at X⊢;clear hD hd m T;refine dC [.a (.v g.val),.a (.v (fD a1 n1 c1 a2 n2 c2 a3 n3 c3 nx a4 n4 c4)),.a (.v (I blk))] J<|ez mixed kr<|Dm 1 J<|lR J (λL E u t=>X _ t.leV)<|Dm 3 J<|zQ J (rM g ok)<|Dm 5 J<|Qd J (yN J hS)<|Dm 1 J<|zQ J (zS g ok)<|Dm 5 J<|zQ J (IH g ok blk 0)<|Dm 2 J<|mF J ?_ ?_<;>intro h;{refine Tz J λE=>?_;(have ah:oS g D blk=false:=by rw[Zi];intro O;simp only[N,Z1,ZV]at O;rw[ZW O.1,O.2.1]at h;simp at h;omega);rw[kg,ah];rfl};(have R:oS g D blk=true:=by rw[N];simp only[Z1,ZV];obtain⟨⟨⟨h1,h2⟩,h3⟩,h4⟩:=h;refine⟨?_,h2,om,om⟩;by_cases O:gD D=true;{exact O};rw[ZX O]at h1;omega);simp only[N,Z1,ZV]at R;have ⟨hck,hgg,htot,m⟩:=R;clear h;have hf:=dE hgg;obtain⟨per,ap⟩:∃per:Nat,g.per=per:=⟨g.per.toNat,om⟩;have an:g.per.toNat=per:=om;refine Qs J<|zA J ?_;(have Z:kg g D blk=if(i0 sl g blk per).all (λx=>decide (x.size<=256))=true then(ku (i0 sl g blk per),0)else(ByteArray.empty,50):=by rw[kg,ZW (by rw[N,hck,hgg,ZD ⟨htot,m⟩];rfl),a9,an]);refine zV [2,3,4,8] [0,1,2] J J (σ:=Nat×Z7×Vw) (λy=>[]) (λy=>[(0,.lit (g.cells.map .v) 23),(1,.lit [.v (.slice a1 n1 c1),.v (.slice a2 n2 c2),.v (.slice a3 n3 c3),.v (I nx),.v (.slice a4 n4 c4)] 29),(2,.lit [.v (I blk),.v (I y.1),.v y.2.1] 129)]) (λy=>y.2.2) (λy=>y.1<=per/\(vw w).le y.2.2/\SlOf y.2.2 da 1 y.2.1 (i0 sl g blk y.1)/\(i0 sl g blk y.1).all (λx=>decide (x.size<=256))=true) (λy=>per - y.1) ((0,cz,vw w)) (⟨om,Vw.le.refl _,jY _ _ _ _ cw,J⟩) ?_;rintro⟨i,v,W⟩ ⟨hi,hW,B,p⟩
 try dsimp only
 simp only at hi hW B p;obtain⟨a5,n5,c5,rfl⟩:=cD B.sl;have aC:=SB sl g blk i;refine zB J<|zC J (TG ⟨blk,i,⟨.slice a5 n5 c5,i0 sl g blk i⟩⟩ g _ _ _ J)<|cJ J ?_ ?_<;>intro h
 .have ⟨q,hq,hqt⟩:=WZ hgg m (k:=i) om;have ⟨x,h_x⟩:=hS.at (k:=q) om;(have Y:sl.getD (fI g blk (i:Int)).toNat ByteArray.empty=x:=by rw[hq];simp[List.getD,h_x]);have o:=UF sl g blk i;rw[Y]at o;have M:=hS.mono hW;have a7:i<per:=om;(have aa:x∈i0 sl g blk per:=by rw[i0,Y6];exact⟨i,by simp[a7],Y⟩);have az:q<sl.length:=om;clear h;(have ad:∀u,Cl 50 #[g.val,I blk,I (i:Int)] u λe w'=>e=.returned (I q)/\cH u w':=λu=>by have:=IH g ok blk i u;rw[hq]at this;exact this);by_cases ac:256<x.size;{skip;refine Rb [15] J<|QD [0,1,2,3,4,5,6,7] J<|QS<|zT 8 J J (FN 50) (λL E u t=>ad _)<|zY 9 J (yI J M)<|zY 10 J (dy aJ q 0 x J (λL=>M) (λL=>h_x) J J)<|zT 11 J J (FN 52) (λL E u t=>Ms W g ⟨blk,i,⟨.slice a5 n5 c5,i0 sl g blk i⟩⟩ x ac (by simp only;omega) _ t.leV B)<|Qx [12] J<|uq 13 J kr J J J J (yV J) J<|zc 14 J kr J J J (λ_=>jr aJ J) J<|zJ 15 J<|Qx [16] J<|nw J ?_ ?_<;>intro h;{refine Qb J λE w' t=>⟨?_,t.below (hW)⟩;rw[Z,ZX (λO=>by have:=YV.1 O x aa;simp at this;omega)];rfl};exfalso;simp at h};skip;refine Rb [15] J<|QD [0,1,2,3,4,5,6,7] J<|QS<|zT 8 J J (FN 50) (λL E u t=>ad _)<|zY 9 J (yI J M)<|zY 10 J (dy aJ q 0 x J (λL=>M) (λL=>h_x) J J)<|Qo 11<|gA 11 (λz V'=>∃a n c,z=.tuple #[.agg #[I blk,I ((i+1:Nat):Int),.slice a n c],I 0]/\SlOf V' da 1 (.slice a n c) (i0 sl g blk i++[x])) J J J (FN 52) J J (λL E u t=>L4 W g blk i _ (i0 sl g blk i) x om om om om _ t.leV B) ?_;rintro z W6 a8 hz;obtain⟨a6,n6,c6,rfl,a0⟩:=hz J;rw[<-o]at a0;refine Qx [12] J<|uq 13 J kr J J J J (yV J) J<|zc 14 J kr J J J (λ_=>jr aJ J) J<|zJ 15 J<|Qx [16] J<|nw J ?_ ?_<;>intro h;{exfalso;simp at h};refine Qr ((i+1,.slice a6 n6 c6,W6))<|⟨om,hW.trans a8,a0,by rw[o,List.all_append,p];simp;omega⟩
 have ag:i=per:=om;subst ag
 have aF:(iH (i0 sl g blk i)).length<=256*8:=by
  have:∀(l:Z8 Z5),l.all (λx=>decide (x.size<=256))=true->(iH l).length<=256*l.length:=by
   intro l
   induction l with
   |nil=>intro _;simp[iH]
   |cons a r ih=>intro h;rw[g_,Z1,ZV]at h;have:=ih h.2;have hz:=ll a;simp only[iH,Zy,ZQ,Y8]at this⊢;omega
  have:=this _ p;omega
 refine dq J (λL E u t=>N8 W ⟨blk,i,⟨.slice a5 n5 c5,i0 sl g blk i⟩⟩ _ t.leV B (by simp only;omega) (by simp only;omega))<|zA J<|Qb J λE w' t=>⟨?_,t.below (hW)⟩;rw[Z,ZW p];rfl
theorem Ul(L:Z8 Z5)(x:Z5):ku (L++[x])=ku L++x:=by apply ByteArray.ext;simp[ku,cN,iH]
def mw(g:Geo)(D:Z8 Z5)(k:Nat):Bool:=(List.range k).all λi:Nat=>decide (iw (D.getD (dt g (i:Int)).toNat ByteArray.empty)=0)
theorem E4(g:Geo)(D:Z8 Z5)(k:Nat):mw g D (k+1)=(mw g D k&&decide (iw (D.getD (dt g (k:Int)).toNat ByteArray.empty)=0)):=by simp[mw,Y0]
theorem Nd{g:Geo}{D:Z8 Z5}{k n:Nat}(d:k<n)(h: ¬iw (D.getD (dt g (k:Int)).toNat ByteArray.empty)=0):mw g D n=false:=by
 rw[mw,F_]
 grind
def lM(g:Geo)(d:Device):Bool:=decide (j6 (d.s.l.getD 0 ByteArray.empty)=0)&&((i7 (d.s.l.getD 0 ByteArray.empty)).eqB g&&(mw g d.s.l g.slots.toNat&&decide ((ib g d).2=0)))
def fA(g:Geo)(d:Device):Int:=if gG g d=true then(if lM g d=true then 0 else 50)else 2
def fJ(g:Geo)(d:Device):Tb:=lL g.blocks (ji g.slots) (ib g d).1
def mP(g:Geo)(D:Z8 Z5)(k:Nat):Z8 Int:=(List.range k).map λi:Nat=>fW (D.getD (dt g (i:Int)).toNat ByteArray.empty)
theorem UQ(g:Geo)(D:Z8 Z5)(k:Nat):mP g D (k+1)=mP g D k++[fW (D.getD (dt g (k:Int)).toNat ByteArray.empty)]:=by simp[mP,Y0]
theorem AE(g:Geo)(D:Z8 Z5)(k:Nat):(mP g D k).length=k:=by simp[mP]
theorem EA{g:Geo}{D:Z8 Z5}{k n:Nat}(h:k<n):(mP g D n)[k]? =some (fW (D.getD (dt g (k:Int)).toNat ByteArray.empty)):=by simp[mP,h]
structure RowsAll(g:Geo)(d:Device)(A:Nat->List Record):Prop where
 no:∀(i:Nat) s,(fJ g d).S[i]? =some s->s.key=0->A i=[]
 at_:∀(i:Nat) s,(fJ g d).S[i]? =some s->s.key≠0->RowsOf g (i:Int) s.key (fW (d.s.l.getD (dt g (i:Int)).toNat ByteArray.empty)) d.s.l (A i)
def fR(l:Z8 Record):Nat:=l.countP λr=>decide (0<r.count)
theorem JU(l:Z8 Record)(r:Record):fR (l++[r])=fR l+if 0<r.count then 1 else 0:=by simp[fR,L',List.countP_cons]
theorem P6(l:Z8 Record):fR l<=l.length:=List.countP_le_length
def rV(s:Slot)(tail:Int)(A:Z8 Record):View:=⟨s.key,s.claim,tail,(A.length:Int),(whole A:Int),(fR (A.take (whole A)):Int)⟩
def jt(g:Geo)(d:Device)(A:Nat->Z8 Record)(k:Nat):Z8 View:=(List.range k).map λi:Nat=>rV ((fJ g d).S.getD i ⟨0,0⟩) (fW (d.s.l.getD (dt g (i:Int)).toNat ByteArray.empty)) (A i)
theorem Ws(g:Geo)(d:Device)(A:Nat->Z8 Record)(k:Nat):jt g d A (k+1)=jt g d A k++[rV ((fJ g d).S.getD k ⟨0,0⟩) (fW (d.s.l.getD (dt g (k:Int)).toNat ByteArray.empty)) (A k)]:=by simp[jt,Y0]
theorem S6(g:Geo)(d:Device)(A:Nat->Z8 Record)(k:Nat):(jt g d A k).length=k:=by simp[jt]
def kH(g:Geo)(d:Device)(k:Nat):Z8 Sight:=(List.range k).map λn:Nat=>⟨(kg g d (n:Int)).1,(kg g d (n:Int)).1,0⟩
def mB(g:Geo)(d:Device)(k:Nat):Bool:=(List.range k).all λn:Nat=>decide ((kg g d (n:Int)).2=0)
def me(i:Int)(X:Z8 Sight)(b:Block):Z8 Sight:=X.set b.n.toNat ⟨(X.getD b.n.toNat ⟨ByteArray.empty,ByteArray.empty,0⟩).now,b.text,i⟩
def kj(i:Int)(X:Z8 Sight)(l:Z8 Block):Z8 Sight:=l.foldl (me i) X
def iV(A:Nat->Z8 Record)(i:Nat):Z8 Block:=mU ((A i).take (whole (A i)))
def lq(g:Geo)(A:Nat->Z8 Record)(X:Z8 Sight):Nat->Z8 Sight
 |0=>X
 |i+1=>kj ((i:Int)+1) (lq g A X i) (iV A i)
def rt(g:Geo)(A:Nat->Z8 Record)(k:Nat):Bool:=(List.range k).all λi:Nat=>fO g (iV A i)
theorem DT(g:Geo)(d:Device)(k:Nat):kH g d (k+1)=kH g d k++[⟨(kg g d (k:Int)).1,(kg g d (k:Int)).1,0⟩]:=by simp[kH,Y0]
theorem GM(g:Geo)(d:Device)(k:Nat):(kH g d k).length=k:=by simp[kH]
theorem CC(g:Geo)(d:Device)(k:Nat):mB g d (k+1)=(mB g d k&&decide ((kg g d (k:Int)).2=0)):=by simp[mB,Y0]
theorem XL{g:Geo}{d:Device}{k n:Nat}(l:k<n)(h: ¬(kg g d (k:Int)).2=0):mB g d n=false:=by
 rw[mB,F_]
 grind
theorem XO{g:Geo}{A:Nat->Z8 Record}{k n:Nat}(d:k<n)(h: ¬fO g (iV A k)=true):rt g A n=false:=by
 rw[rt,F_]
 grind
theorem Hj(i:Int)(X:Z8 Sight)(b:Block):(me i X b).length=X.length:=by rw[me,ZT]
theorem wW(i:Int):∀(l:Z8 Block) (X:Z8 Sight),(kj i X l).length=X.length
 |[],_=>rfl
 |b::t,X=>by
  exact(wW i t (me i X b)).trans<|Hj i X b
theorem RT(i:Int)(X:Z8 Sight)(l:Z8 Block)(b:Block):kj i X (l++[b])=me i (kj i X l) b:=by simp[kj]
theorem Cg(g:Geo)(A:Nat->Z8 Record)(X:Z8 Sight):∀k,(lq g A X k).length=X.length
 |0=>rfl
 |k+1=>by rw[lq,wW,Cg g A X k]
def lV(g:Geo)(d:Device)(A:Nat->Z8 Record):Bool:=mB g d g.blocks.toNat&&rt g A g.slots.toNat
def lX(g:Geo)(d:Device)(A:Nat->Z8 Record):Z8 Sight:=if fA g d=0/\lV g d A=true then lq g A (kH g d g.blocks.toNat) g.slots.toNat else []
def oD(g:Geo)(d:Device)(A:Nat->Z8 Record):Int:=if fA g d=0 then(if lV g d A=true then 0 else 50)else fA g d
def View.eqB(a b:View):Bool:=a.key==b.key&&(a.claim==b.claim&&(a.tail==b.tail&&(a.records==b.records&&(a.whole==b.whole&&a.txns==b.txns))))
def Sight.eqB(a b:Sight):Bool:=a.now.toList==b.now.toList&&(a.then_.toList==b.then_.toList&&a.by_==b.by_)
theorem View.eqB_refl(a:View):a.eqB a=true:=by simp[View.eqB]
theorem Sight.eqB_refl(a:Sight):a.eqB a=true:=by simp[Sight.eqB]
theorem XV{d:BinOp}{ox oy:Operand}(a b:View)(w:Z6)(l:d=.eql\/d=.neq): (do eqGuard d 51 ox oy a.val b.val;binOp d 51 a.val b.val:Sem Z7).run bJ w=.ok (.bool (if d=.eql then a.eqB b else !(a.eqB b))) w:=by
 have o:bJ.underlying 51=some (.struct (bJ.fieldsOf 51)):=kr;have m:bJ.stoodInHeld 51=false:=kr;have p:bJ.eqGuardType bJ.depth 51=false:=kr
 have key:(Op.equalIn 10000 51 a.val b.val).run bJ w=.ok (a.eqB b) w:=by
  rw[show(10000:Nat)=9999+1 from J,run_equalIn_agg w 9999 51 _ _ o m];simp only[Program.fieldsOf,Tryz.underlying51]
  go_simp
  unfold View.eqB
  grind
 rw[ZR,run_eqGuard_agg w _ _ _ _ _ _ p];(rcases l with rfl|rfl);{simp only[ZU,run_eql_struct,key];rfl};simp only[ZU,run_neq_struct,key];rfl
theorem Jw{d:BinOp}{ox oy:Operand}(a b:Sight)(w:Z6)(l:d=.eql\/d=.neq): (do eqGuard d 56 ox oy a.val b.val;binOp d 56 a.val b.val:Sem Z7).run bJ w=.ok (.bool (if d=.eql then a.eqB b else !(a.eqB b))) w:=by
 have o:bJ.underlying 56=some (.struct (bJ.fieldsOf 56)):=kr;have m:bJ.stoodInHeld 56=false:=kr;have p:bJ.eqGuardType bJ.depth 56=false:=kr
 have key:(Op.equalIn 10000 56 a.val b.val).run bJ w=.ok (a.eqB b) w:=by
  rw[show(10000:Nat)=9999+1 from J,run_equalIn_agg w 9999 56 _ _ o m];simp only[Program.fieldsOf,Tryz.underlying56]
  go_simp
  unfold Sight.eqB
  grind
 rw[ZR,run_eqGuard_agg w _ _ _ _ _ _ p];(rcases l with rfl|rfl);{simp only[ZU,run_eql_struct,key];rfl};simp only[ZU,run_neq_struct,key];rfl
def gb:Nat->Z8 Sight->Z8 Int
 |_,[]=>[]
 |n,s::r=>(if s.by_=0 then []else [(n:Int)])++gb (n+1) r
theorem Gs:∀(l:Z8 Sight) (n:Nat) (s:Sight),gb n (l++[s])=gb n l++(if s.by_=0 then []else [((n+l.length:Nat):Int)])
 |[],n,s=>by simp[gb]
 |x::r,n,s=>by
  rw[YY,gb,gb,Gs r,Zc,Y8,show n+1+r.length=n+(r.length+1) by omega]
theorem JH{l:Z8 Sight}{i:Nat}{s:Sight}(h:l[i]? =some s):gb 0 (l.take (i+1))=gb 0 (l.take i)++(if s.by_=0 then []else [(i:Int)]):=by have hi:=(List.getElem?_eq_some_iff.1 h).1;rw[kM h,Gs,ZL,Zo,Nat.min_eq_left om]
theorem DL:∀(l:Z8 Sight) (n:Nat),(gb n l).length<=l.length
 |[],_=>ZS _
 |x::r,n=>by
  have:=DL r (n+1)
  rw[gb,ZQ,Y8]
  grind
def rI(l:Z8 View):Bool:=l.all λv=>decide (¬0<v.whole)
def jm(s:Z5):Int×Int:=match fu 3 s [6,6]with
 |some (l,r)=>if r.size=0/\1<=l.getD 0 0/\1<=l.getD 1 0 then(l.getD 0 0,l.getD 1 0)else(0,0)
 |none=>(0,0)
theorem Kx{l:Z8 Int}(h:l.length=2):∃a b,l=[a,b]:=by
 match l,h with
 |[a,b],_=>exact⟨a,b,J⟩
theorem MG(s:Z5)(hs:s.size<=maxLen)(w:Z6):Rt 27 #[S s] w (.tuple #[I (jm s).1,I (jm s).2]):=by
 refine dU J<|jV aJ J J J J λb1 Y t T=>eR (nT 3 s [6,6]) J (λm E X z=>oK z.leV (yT 3 s Y _ [6,6] X hs z.leV (SlOf.ofBlock (enc:=cB) (sz:=1) (l:=[6,6]) (T J) J cw (ZS _)) sm)) ?_;rintro x O p W;have R:=W J;clear W;rcases R with⟨l,r,v,u,rfl,o⟩|⟨u,rfl⟩
 .obtain⟨a,b,rfl⟩:=Kx (by rw[nU u];rfl);have B:([a,b]:Z8 Int)[0]? =some a:=rfl;have N:([a,b]:Z8 Int)[1]? =some b:=rfl;(have y:jm s=if r.size=0/\1<=a/\1<=b then(a,b)else(0,0):=by rw[jm,u];rfl);refine zA J<|ez mixed kr<|Dm 8 J ?_;have L:=cC B;refine Qd J (gZ aJ J (λm=>o.sl) (λm=>⟨om,sm⟩))<|Qd J (yL 0 0 J o B J)<|Dm 1 J ?_;have M:=cC N;refine Qd J (gZ aJ J (λm=>o.sl) (λm=>⟨om,sm⟩))<|Qd J (yL 1 0 J o N J)<|Qd J (mO J)<|Dm 2 J<|k6 J ?_ ?_<;>intro h;{refine Qb J λE V z=>⟨?_,z.below ((t.trans p))⟩;rw[y,ZX];{rfl};rintro⟨Z,h2,h3⟩;rw[mM,Z]at h;simp at h;omega};refine ez mixed kr<|Dm 1 J ?_;have L:=cC B;refine Qd J (gZ aJ J (λm=>o.sl) (λm=>⟨om,sm⟩))<|Qd J (yL 0 0 J o B J)<|Dm 1 J ?_;have M:=cC N;refine Qd J (gZ aJ J (λm=>o.sl) (λm=>⟨om,sm⟩))<|Qd J (yL 1 0 J o N J)<|Dm 2 J<|zD J<|Qb J λE V z=>⟨?_,z.below ((t.trans p))⟩;rw[y,ZW];{rfl};rw[mM]at h;generalize r.size=k at h⊢;simp at h;omega
 have B:([0,0]:Z8 Int)[0]? =some 0:=rfl;have N:([0,0]:Z8 Int)[1]? =some 0:=rfl;(have y:jm s=(0,0):=by rw[jm,u]);refine zA J<|ez mixed kr<|Dm 8 J ?_;have d:=cC B;refine Qd J (gZ aJ J (λm=>(absurd m dc:SlOf O cB 1 cz [0,0]).sl) (λm=>absurd m dc))<|Qd J (dy aJ (0) 0 ((0:Int)) J (λm=>(absurd m dc:SlOf O cB 1 cz [0,0])) (λm=>B) J J)<|Dm 1 J ?_;have d:=cC N;refine Qd J (gZ aJ J (λm=>(absurd m dc:SlOf O cB 1 cz [0,0]).sl) (λm=>absurd m dc))<|Qd J (dy aJ (1) 0 ((0:Int)) J (λm=>(absurd m dc:SlOf O cB 1 cz [0,0])) (λm=>N) J J)<|Qd J (mO J)<|Dm 2 J<|k6 J ?_ ?_<;>intro h;{refine Qb J λE V z=>⟨?_,z.below ((t.trans p))⟩;rw[y];rfl};exact absurd h dc
theorem LW(s:Z5)(hs:s.size<=maxLen)(w:Z6):Rt 293 #[S s] w (.tuple #[I (jm s).1,I (jm s).2]):=by
 refine dU J<|jV aJ J J J J λb1 Y t T=>eR (nT 3 s [6,6]) J (λm E X z=>oK z.leV (vq 3 s Y _ [6,6] X hs z.leV (SlOf.ofBlock (enc:=cB) (sz:=1) (l:=[6,6]) (T J) J cw (ZS _)) sm)) ?_;rintro x O p W;have R:=W J;clear W;rcases R with⟨l,r,v,u,rfl,o⟩|⟨u,rfl⟩
 .obtain⟨a,b,rfl⟩:=Kx (by rw[nU u];rfl);have B:([a,b]:Z8 Int)[0]? =some a:=rfl;have N:([a,b]:Z8 Int)[1]? =some b:=rfl;(have y:jm s=if r.size=0/\1<=a/\1<=b then(a,b)else(0,0):=by rw[jm,u];rfl);refine zA J ?_;have L:=cC B;refine QY J (gZ aJ J (λm=>o.sl) (λm=>⟨om,sm⟩))<|QY J (yL 0 0 J o B J)<|zA J ?_;have M:=cC N;refine QY J (gZ aJ J (λm=>o.sl) (λm=>⟨om,sm⟩))<|QY J (yL 1 0 J o N J)<|cS J ?_ ?_<;>intro h;{refine Qb J λE V z=>⟨?_,z.below ((t.trans p))⟩;rw[y,ZX];{rfl};rintro⟨Z,h2,h3⟩;rw[mM,Z]at h;simp at h;omega};refine ez mixed kr<|Dm 1 J ?_;have L:=cC B;refine Qd J (gZ aJ J (λm=>o.sl) (λm=>⟨om,sm⟩))<|Qd J (yL 0 0 J o B J)<|Dm 1 J ?_;have M:=cC N;refine Qd J (gZ aJ J (λm=>o.sl) (λm=>⟨om,sm⟩))<|Qd J (yL 1 0 J o N J)<|Dm 2 J<|zD J<|Qb J λE V z=>⟨?_,z.below ((t.trans p))⟩;rw[y,ZW];{rfl};rw[mM]at h;generalize r.size=k at h⊢;simp at h;omega
 have B:([0,0]:Z8 Int)[0]? =some 0:=rfl;have N:([0,0]:Z8 Int)[1]? =some 0:=rfl;(have y:jm s=(0,0):=by rw[jm,u]);refine zA J ?_;have d:=cC B;refine QY J (gZ aJ J (λm=>(absurd m dc:SlOf O cB 1 cz [0,0]).sl) (λm=>absurd m dc))<|QY J (dy aJ (0) 0 ((0:Int)) J (λm=>(absurd m dc:SlOf O cB 1 cz [0,0])) (λm=>B) J J)<|zA J ?_;have d:=cC N;refine QY J (gZ aJ J (λm=>(absurd m dc:SlOf O cB 1 cz [0,0]).sl) (λm=>absurd m dc))<|QY J (dy aJ (1) 0 ((0:Int)) J (λm=>(absurd m dc:SlOf O cB 1 cz [0,0])) (λm=>N) J J)<|cS J ?_ ?_<;>intro h;{refine Qb J λE V z=>⟨?_,z.below ((t.trans p))⟩;rw[y];rfl};exact absurd h dc
theorem Su(g:Geo):kV 2 (iK g)=if cY g=true then⟨1,g.nodes,2,1⟩else⟨0,0,0,1⟩:=by unfold iK;split<;>simp[lN,kV]
theorem Tw(g:Geo)(ok:g.Ok)(l:cY g=true)(i:Nat)(hi:(i:Int)<g.nodes)(w:Z6):Rt 29 #[g.val,I i] w (I (1+i)):=by have d:=Su g;rw[ZW l]at d;have m:=dE l;refine dN J<|zC J (qK g ok 2 i 0 _ d g.nodes om od od od od od (1+i) (by rw[ZX od];dsimp only;omega))<|zA J<|Tz J λ_=>rfl
theorem Gn(V:Vw)(v:Z7)(L:Z8 View)(w:Z6)(hV:V.le (vw w))(p:SlOf V View.cells 6 v L)(y:L.length<=100000): Rt 11 #[v] w (.bool (rI L)):=by have o:=p.mono hV;refine dU J<|QY J (yN J o)<|zA J<|zL [5,6] [] J J (σ:=Nat) (λi=>[(7,.a (.v (I i)))]) (λi=>[]) (λi=>i<=L.length/\ ∀(k:Nat) x,k<i->L[k]? =some x-> ¬0<x.whole) (λi=>L.length - i) (0) (⟨om,λk x l=>absurd l om⟩) ?_;rintro i ⟨hi,d⟩;refine dD J ?_ ?_<;>intro h;{have ⟨r,h_r⟩:=o.at (k:=i) om;have t:=cC h_r;refine QY J (yI J o)<|QY J (yL i 0 J o h_r J)<|zA J<|Qs J<|cJ J ?_ ?_<;>intro h;{refine Tz J λE=>?_;rw[show rI L=false from by rw[rI,F_];exact⟨r,ZZ h_r,cU h⟩];rfl};rw[cx (n:=(i:Int)+1) om om];refine Qr (i+1)<|⟨om,λk x l m=>if hki:k=i then(by subst hki;rw[h_r]at m;cases m;omega)else d k x om m⟩};refine Tz J λE=>?_;rw[show rI L=true from by rw[rI,YV];intro x m;have ⟨k,l⟩:=List.getElem?_of_mem m;have u:=(List.getElem?_eq_some_iff.1 l).1;simpa using d k x om l];rfl
def Fs(L:Z8 Int)(w:Z6)(e:Ending)(w':Z6):Prop:=
 (∃v,e=.returned v/\w'.ownsRow w.heap.size 3 1 v L.length (L.flatMap cB))/\cH w w'
theorem PK{L:Z8 Sight}{i:Nat}{s:Sight}(h:L[i]? =some s)(d: ¬s.by_=0):(gb 0 (L.take i)).length+1=(gb 0 (L.take (i+1))).length/\(gb 0 (L.take i)).flatMap cB++[I (i:Int)]=(gb 0 (L.take (i+1))).flatMap cB:=by rw[JH h,ZX d];simp
theorem LP(V:Vw)(v:Z7)(L:Z8 Sight)(w:Z6)(hV:V.le (vw w))(t:SlOf V Sight.cells 3 v L)(T:L.length<=100000): Cl 9 #[v] w (Fs (gb 0 L) w):=by have d:=t.mono hV;refine dU J<|QY J (yN J d)<|zA J<|iD 2 3 1 J J<|zL [5,6] [0] J J (σ:=Nat) (λi=>[(2,.a (.row 0)),(7,.a (.v (I i)))]) (λi=>[(0,.row 3 1 (gb 0 (L.take i)).length ((gb 0 (L.take i)).flatMap cB))]) (λi=>i<=L.length) (λi=>L.length - i) (0) om ?_;rintro i hi;have M:=DL (L.take i) 0;(have N:(L.take i).length<=i:=by rw[ZL];omega);refine dD J ?_ ?_<;>intro h;{have ⟨r,h_r⟩:=d.at (k:=i) om;have y:=cC h_r;refine QY J (yI J d)<|QY J (yL i 0 J d h_r J)<|zA J<|Qs J<|zA J<|Qs J<|zA J<|Qs J<|zA J ?_;(have p:(Sight.mk ByteArray.empty ByteArray.empty r.by_).eqB ⟨ByteArray.empty,ByteArray.empty,0⟩=(r.by_==0):=by simp[Sight.eqB]);refine QY J (hU (.bool (!(r.by_==0))) J (λE w=>p▸Jw ⟨ByteArray.empty,ByteArray.empty,r.by_⟩ ⟨ByteArray.empty,ByteArray.empty,0⟩ w (.inr J)))<|cS J ?_ ?_<;>intro h;{have o: ¬r.by_=0:=cU h;have ⟨hp1,hp2⟩:=PK h_r o;refine QZ J (cX aJ 1 J J J) λ_ _=>QZ J (cQ aJ [I (i:Int)] J (λE w m=>dZ (m.row _ _ _ _ _ J)) (λ_ _ _=>by intro u B;simp only[ZE]at B;subst B;rfl) od) λ_ _=>zA J ?_;rw[hp1,hp2,cx (n:=(i:Int)+1) om om];refine dx 0 3 J<|Qr (i+1) om};have o:r.by_=0:=cU h;(have O:gb 0 (L.take i)=gb 0 (L.take (i+1)):=by rw[JH h_r,ZW o,Zb]);rw[O,cx (n:=(i:Int)+1) om om];refine Qr (i+1) om};refine cL aJ J ?_;have z:i=L.length:=om;subst z;rw[Zx];intro E R m _;exact⟨⟨_,J,m.rowFresh lr (l:=0) J⟩,m.below lr⟩
theorem NB{s:Z5}(h:fg s=true):eo (gp s)=true:=by rw[gp,ZW h];rw[fg,Z1,Z1,beq_iff_eq,beq_iff_eq]at h;have l:=h.2.2;rw[jX]at l;split at l;{rename_i d;rw[lu,ZW d];simp only[pP]at d;simp at d;exact d.2};cases l
theorem GK:∀(L:Z8 Z5) (acc:Z8 Cmd),(∀c∈acc,eo c=true)-> ∀c∈(gV L acc).1,eo c=true
 |[],acc,h=>h
 |s::r,acc,h=>by
  rw[gV]
  split
  . intro c hc;cases hc
  ·
   split
   . exact h
   ·
    rename_i hb
    refine GK r _ λc hc=>?_
    rcases Zh.1 hc with h1|h1
    . exact h c h1
    ·
     rw[ZE.1 h1]
     exact NB (cU hb)
theorem Bd(g:Geo)(d:Device):∀c∈(ib g d).1,eo c=true:=by rw[ib];split;{exact GK _ _ (λc l=>by cases l)};simp
theorem KF{n:Nat}{blocks:Int}:∀(l:Z8 Cmd) (t:Tb),TbOk n blocks t->(∀c∈l,eo c=true)->TbOk n blocks (lL blocks t l)
 |[],t,h,_=>h
 |c::r,t,h,hc=>KF r _ (h.apply (c:=c) (Dy (hc c Zj))) (λx hx=>hc x (Zr _ hx))
theorem Wb(g:Geo)(d:Device):TbOk (gI g.slots) g.blocks (fJ g d):=KF _ _ (TbOk.new _ _) (Bd g d)
theorem Mg(V:Vw)(g:Geo)(lv:Z7)(l:Z8 Cmd)(w:Z6)(hV:V.le (vw w))(X:SlOf V Cmd.cells 8 lv l)(hl:l.length<=5000)(aa:∀c∈l,eo c=true): Cl 20 #[g.val,lv] w (g8 V (lL g.blocks (ji g.slots) l) w):=by obtain⟨a0,n0,c0,rfl⟩:=cD X.sl;refine dC [.a (.v g.val),.a (.v (.slice a0 n0 c0))] J<|eR (λv V'=>∃V2:Vw,V2.le V'/\V.le V2/\(∀k o,V2.get k=some o->V.get k=some o\/w.heap.size<=k)/\dK V2 v (ji g.slots)) J (λhg E w1 m=>(H8 V g _ (hV.trans m.leV)).mono λe w' h=>jK (m.below lr).size hV m.leV h) ?_;rintro v1 W0 Y ad;have ⟨W1,hW10,hle1,hget1,hT1⟩:=ad J;obtain⟨d1,m1,e1,d2,m2,e2,d3,m3,e3,rfl,_⟩:=id hT1;refine zA J<|Qs J<|zA J<|zV [1,2,4,5] [2] J J (σ:=Nat×Z7×Z7×Z7×Tb×Vw×Vw) (λ(i,s,u,q,t,W,Z)=>[(6,.a (.v (I i)))]) (λ(i,s,u,q,t,W,Z)=>[(2,.lit [.v s,.v u,.v q] 40)]) (λ(i,s,u,q,t,W,Z)=>W) (λ(i,s,u,q,t,W,Z)=>(i<=l.length/\t.H.length+t.Q.length<=i/\t=lL g.blocks (ji g.slots) (l.take i))/\((vw w).le W/\Z.le W)/\V.le Z/\dK Z (.agg #[s,u,q]) t/\TbOk (gI g.slots) g.blocks t/\ ∀k o,Z.get k=some o->V.get k=some o\/w.heap.size<=k) (λ(i,s,u,q,t,W,Z)=>l.length - i) ((0,_,_,_,ji g.slots,W0,W1)) (⟨⟨om,ZS _,J⟩,⟨Y,hW10⟩,hle1,hT1,TbOk.new _ _,hget1⟩) ?_;rintro⟨i,s,u,q,t,W,Z⟩ ⟨⟨hi,R,y⟩,⟨B,d⟩,z,hT,N,M⟩;dsimp only at hi R y B d z hT N M⊢;(have T:((gI g.slots:Nat):Int)<=16:=by rw[gI];omega);have p:=(X.mono z).mono d;have L:=N.fitS T om;refine zB J<|QY J (yN J p)<|cJ J ?_ ?_<;>intro h;{refine Rb [7] J<|QD [0,1,2,3] J ?_;have ⟨c,h_c⟩:=p.at (k:=i) om;refine zu 4 J (yI J p)<|zu 5 J (yL i 0 J p h_c J)<|QS<|Qo 6 ?_;have ag:=aa c (ZZ h_c);have O:=N.apply (c:=c) (Dy ag);have ac:=Dh g.blocks t c;have a9:IntKind.i64.wrap ((i:Int)+1)=((i+1:Nat):Int):=cx om om;(have a5:t.apply g.blocks c=lL g.blocks (ji g.slots) (l.take (i+1)):=by rw[kM h_c,lL,X_,y];rfl);refine gA 6 (λv V'=>∃V2:Vw,V2.le V'/\Z.le V2/\(∀k o,V2.get k=some o->Z.get k=some o\/w.heap.size<=k)/\dK V2 v (t.apply g.blocks c)) J J J (FN 39) J J (λhg E w1 m=>(EB Z g _ t c _ L.1 L.2 (d.trans m.leV) hT).mono λe w' h=>jK (m.below B).size d m.leV h) ?_;rintro v2 W2 a6 ab;have ⟨Z2,hZ2,hZZ,hgt2,hT2⟩:=ab J;obtain⟨x1,y1,z1,x2,y2,z2,x3,y3,z3,rfl,_⟩:=id hT2;refine zJ 7 J<|zH J ?_;rw[a9];refine Qr ((i+1,_,_,_,t.apply g.blocks c,W2,Z2))<|⟨⟨by dsimp only;omega,by dsimp only;omega,a5⟩,⟨B.trans a6,hZ2⟩,z.trans hZZ,hT2,O,λk o hk=>(hgt2 k o hk).elim (M k o) .inr⟩};have af:i=l.length:=om;subst af;rw[Zx]at y;have ⟨x1,y1,z1,x2,y2,z2,x3,y3,z3,hv,_⟩:=id hT;simp at hv;obtain⟨rfl,rfl,rfl⟩:=hv;refine Qs J<|zA J<|Qb J λE' w' m=>?_;exact⟨_,Z,J,m.below B,⟨z,λk o hk=>⟨(d.trans m.leV).get k o hk,M k o hk⟩⟩,y▸hT⟩
def rU(g:Geo)(d:Device)(x:Z7)(V':Vw):Prop:= ∃a n c a2 n2 c2 a3 n3 c3 m,x=.tuple #[.agg #[.slice a n c,.slice a2 n2 c2,.slice a3 n3 c3],I m,I (ib g d).2]/\((ib g d).2=0->dK V' (.agg #[.slice a n c,.slice a2 n2 c2,.slice a3 n3 c3]) (fJ g d))
theorem Kt(g:Geo)(d:Device):(ib g d).1.length<=5000:=by
 unfold ib;split
 .rename_i m;simp only[gG,Z1,ZV]at m;have o:=Hp (jM g d.s.l) [];have p:=dE m.1;have t:(jM g d.s.l).length<=g.log.toNat:=by rw[jM,ZL];omega
  grind
 simp
theorem VZ(V:Vw)(g:Geo)(ok:g.Ok)(d:Device)(w:Z6)(hV:V.le (vw w))(t:DevIn V d)(a0:∀s∈d.s.l,s.size<=maxLen): Cl 46 #[g.val,d.val] w λe w'=>∃x V',e=.returned x/\cH w w'/\Vext w.heap.size V V' w'/\rU g d x V':=by have Y:=λ(V1:Vw) (N:Z6) (W:V.le V1) (hV:V1.le (vw N))=>EK hV (X2 V1 g ok d N hV (t.mono W) a0);have O:=Bd g d;have a6:=Kt g d;have a7:lL g.blocks (ji g.slots) (ib g d).1=fJ g d:=rfl;simp only[rU];generalize fJ g d=T at*;generalize ib g d=R at*;obtain⟨⟨sv,sl⟩,⟨cv,cl⟩,⟨kv,kl⟩,nx,⟨fv,fl⟩⟩:=d;obtain⟨a1,n1,c1,rfl⟩:=cD t.s.sl;obtain⟨a2,n2,c2,rfl⟩:=cD t.cache.sl;obtain⟨a3,n3,c3,rfl⟩:=cD t.keys.sl;obtain⟨a4,n4,c4,rfl⟩:=cD t.fenced.sl;refine dC [.a (.v g.val),.a (.v (fD a1 n1 c1 a2 n2 c2 a3 n3 c3 nx a4 n4 c4))] J<|eR (λx V'=>∃V2:Vw,V2.le V'/\V.le V2/\(∀k o,V2.get k=some o->V.get k=some o\/w.heap.size<=k)/\A1 R x V2) J (λhg E N m=>(Y V _ lr (hV.trans m.leV)).mono λe w' h=>jK (m.below lr).size hV m.leV h) ?_;rintro x W0 p hx;obtain⟨Z,u,M,B,v,rfl,z⟩:=hx J;obtain⟨ra,rn,rc,rfl⟩:=cD z.sl;refine cJ J ?_ ?_<;>intro h;{refine Qs J<|zA J<|Qb J λE' w' m=>?_;exact⟨_,Z,J,m.below p,⟨M,λk o L=>⟨(u.trans m.leV).get k o L,B k o L⟩⟩,_,_,_,_,_,_,_,_,_,0,J,λW=>absurd W h⟩};have a5:R.2=0:=cU h;refine eR (λv V'=>∃V2:Vw,V2.le V'/\Z.le V2/\(∀k o,V2.get k=some o->Z.get k=some o\/w.heap.size<=k)/\dK V2 v T) J (λhg E N m=>(a7▸NW Z g _ _ _ (u.trans m.leV) z a6 O:Calls _ _ _ _ (g8 Z T _)).mono λe w' h=>jK (m.below p).size u m.leV h) ?_;rintro v2 W2 y X;have ⟨Z2,hZ2,hZZ,hgt2,hT2⟩:=X J;obtain⟨x1,y1,z1,x2,y2,z2,x3,y3,z3,rfl,_⟩:=id hT2;refine zA J<|QY J (ic aJ J (λhg=>((z.mono u).mono y).sl))<|Qs J<|zA J<|Qb J λE' w' m=>?_;exact⟨_,Z2,J,m.below (p.trans y),⟨M.trans hZZ,λk o L=>⟨(hZ2.trans m.leV).get k o L,(hgt2 k o L).elim (B k o) .inr⟩⟩,_,_,_,_,_,_,_,_,_,(R.1.length:Int),by rw[a5];rfl,λ_=>hT2⟩
theorem Wr(V:Vw)(g:Geo)(ok:g.Ok)(d:Device)(w:Z6)(hV:V.le (vw w))(t:DevIn V d)(a0:∀s∈d.s.l,s.size<=maxLen): Cl 6 #[g.val,d.val] w λe w'=>∃x V',e=.returned x/\cH w w'/\Vext w.heap.size V V' w'/\rU g d x V':=by have Y:=λ(V1:Vw) (N:Z6) (W:V.le V1) (hV:V1.le (vw N))=>EK hV (Pm V1 g ok d N hV (t.mono W) a0);have O:=Bd g d;have a6:=Kt g d;have a7:lL g.blocks (ji g.slots) (ib g d).1=fJ g d:=rfl;simp only[rU];generalize fJ g d=T at*;generalize ib g d=R at*;obtain⟨⟨sv,sl⟩,⟨cv,cl⟩,⟨kv,kl⟩,nx,⟨fv,fl⟩⟩:=d;obtain⟨a1,n1,c1,rfl⟩:=cD t.s.sl;obtain⟨a2,n2,c2,rfl⟩:=cD t.cache.sl;obtain⟨a3,n3,c3,rfl⟩:=cD t.keys.sl;obtain⟨a4,n4,c4,rfl⟩:=cD t.fenced.sl;refine dC [.a (.v g.val),.a (.v (fD a1 n1 c1 a2 n2 c2 a3 n3 c3 nx a4 n4 c4))] J<|eR (λx V'=>∃V2:Vw,V2.le V'/\V.le V2/\(∀k o,V2.get k=some o->V.get k=some o\/w.heap.size<=k)/\A1 R x V2) J (λhg E N m=>(Y V _ lr (hV.trans m.leV)).mono λe w' h=>jK (m.below lr).size hV m.leV h) ?_;rintro x W0 p hx;obtain⟨Z,u,M,B,v,rfl,z⟩:=hx J;obtain⟨ra,rn,rc,rfl⟩:=cD z.sl;refine cJ J ?_ ?_<;>intro h;{refine Qs J<|zA J<|Qb J λE' w' m=>?_;exact⟨_,Z,J,m.below p,⟨M,λk o L=>⟨(u.trans m.leV).get k o L,B k o L⟩⟩,_,_,_,_,_,_,_,_,_,0,J,λW=>absurd W h⟩};have a5:R.2=0:=cU h;refine eR (λv V'=>∃V2:Vw,V2.le V'/\Z.le V2/\(∀k o,V2.get k=some o->Z.get k=some o\/w.heap.size<=k)/\dK V2 v T) J (λhg E N m=>(a7▸Mg Z g _ _ _ (u.trans m.leV) z a6 O:Calls _ _ _ _ (g8 Z T _)).mono λe w' h=>jK (m.below p).size u m.leV h) ?_;rintro v2 W2 y X;have ⟨Z2,hZ2,hZZ,hgt2,hT2⟩:=X J;obtain⟨x1,y1,z1,x2,y2,z2,x3,y3,z3,rfl,_⟩:=id hT2;refine zA J<|QY J (ic aJ J (λhg=>((z.mono u).mono y).sl))<|Qs J<|zA J<|Qb J λE' w' m=>?_;exact⟨_,Z2,J,m.below (p.trans y),⟨M.trans hZZ,λk o L=>⟨(hZ2.trans m.leV).get k o L,(hgt2 k o L).elim (B k o) .inr⟩⟩,_,_,_,_,_,_,_,_,_,(R.1.length:Int),by rw[a5];rfl,λ_=>hT2⟩
theorem wt{V Z:Vw}{w p:Z6}(hV:V.le (vw w))(d:V.le Z)(t:Z.le (vw p))(l:∀k o,Z.get k=some o->V.get k=some o\/w.heap.size<=k):Z.le (V.grown w p):=by refine⟨λk o m=>?_,d.os.symm,d.tape.symm,d.output.symm⟩;simp only[Vw.grown];(rcases l k o m with h|h);{rw[ZW (hV.lt h)];exact h};rw[ZX om];exact t.get k o m
theorem GA{E:Env}{O:Go.Eng.Own}{nl:Nat}{w o:Z6}{W:Vw}(d:Mem E O nl W o)(m:(vw w).le W){l e:Nat}{cs:Z8 Go.Eng.A}(p:lk O l=some (.lit cs e)):w.heap.size<=E.ρ l:=by
 rcases YM (E.ρ l) w.heap.size with h|h
 .have u:=d.off l _ (E.ρ l) p J;have t:=m.get (E.ρ l) (w.heap[E.ρ l]) (by show w.heap[E.ρ l]? =_;simp[h])
  simp_all
 exact h
def wN(x1 x2 x3:Z7)(g:Geo)(d:Device)(tv:Z7):Z8 Z7:=[x1,x2,x3]++g.cells++[d.s.v,d.cache.v,d.keys.v,I d.next_,d.fenced.v,tv]
def oE(V:Vw)(b:Nat)(g:Geo)(d:Device):Prop:= ∃a n c a2 n2 c2 a3 n3 c3 ta tn tc,V.get b=some (.cells (wN (.slice a n c) (.slice a2 n2 c2) (.slice a3 n3 c3) g d (.slice ta tn tc)).toArray 84 (0,0))/\dK V (.agg #[.slice a n c,.slice a2 n2 c2,.slice a3 n3 c3]) (fJ g d)/\SlOf V cB 1 (.slice ta tn tc) (mP g d.s.l g.slots.toNat)
theorem oE.mono{V m:Vw}{b:Nat}{g:Geo}{d:Device}(h:oE V b g d)(l:V.le m):oE m b g d:=by have ⟨a,n,c,a2,n2,c2,a3,n3,c3,ta,tn,tc,h1,h2,h3⟩:=h;exact⟨a,n,c,a2,n2,c2,a3,n3,c3,ta,tn,tc,l.get _ _ h1,h2.mono l,h3.mono l⟩
def uw(g:Geo)(d:Device)(x:Z7)(V':Vw):Prop:= ∃p,x=.tuple #[.pointer p,I (fA g d)]/\(fA g d=0-> ∃b,p=some ⟨b,0,none⟩/\oE V' b g d)
theorem KI{g:Geo}{d:Device}(h:gG g d=false):fA g d=2:=by rw[fA,ZX (by simp[h])]
theorem Lx{g:Geo}{d:Device}(h:gG g d=true)(l:lM g d=false):fA g d=50:=by rw[fA,ZW h,ZX (by simp[l])]
theorem Ei{g:Geo}{d:Device}(h:gG g d=true)(l:lM g d=true):fA g d=0:=by rw[fA,ZW h,ZW l]
theorem yj(V:Vw)(g:Geo)(ok:g.Ok)(d:Device)(w:Z6)(hV:V.le (vw w))(B:DevIn V d)(Y:∀s∈d.s.l,s.size<=maxLen): Cl 21 #[g.val,d.val] w λe w'=>∃x V',e=.returned x/\cH w w'/\Vext w.heap.size V V' w'/\uw g d x V':=by
 obtain⟨⟨sv,sl⟩,⟨cv,cl⟩,⟨kv,kl⟩,nx,⟨fv,fl⟩⟩:=d;obtain⟨a1,n1,c1,rfl⟩:=cD B.s.sl;obtain⟨a2,n2,c2,rfl⟩:=cD B.cache.sl;obtain⟨a3,n3,c3,rfl⟩:=cD B.keys.sl;obtain⟨a4,n4,c4,rfl⟩:=cD B.fenced.sl;have hS:=B.s.mono hV;generalize hD:(⟨⟨.slice a1 n1 c1,sl⟩,⟨.slice a2 n2 c2,cl⟩,⟨.slice a3 n3 c3,kl⟩,nx,⟨.slice a4 n4 c4,fl⟩⟩:Device)=D at*;(have ak:D.val=fD a1 n1 c1 a2 n2 c2 a3 n3 c3 nx a4 n4 c4:=by rw[<-hD]);(have az:∀x1 x2 x3 tv,wN x1 x2 x3 g D tv=[x1,x2,x3]++g.cells++[.slice a1 n1 c1,.slice a2 n2 c2,.slice a3 n3 c3,I nx,.slice a4 n4 c4,tv]:=λ_ _ _ _=>by rw[<-hD];rfl);(have N:D.s.l=sl:=by rw[<-hD]);(have aC:D.s.v=.slice a1 n1 c1:=by rw[<-hD]);have a6:=λ(T:Z6) (hle:V.le (vw T))=>CX V D T hle B;have a0:=λ(T:Z6) (hle:V.le (vw T))=>VZ V g ok D T hle B Y;rw[aC,N]at hS;rw[N]at Y;(have al:gG g D=(cY g&&(gD D&&decide ((sl.length:Int)=dw g))):=by rw[gG,N]);(have y:lM g D=(decide (j6 (sl.getD 0 ByteArray.empty)=0)&&((i7 (sl.getD 0 ByteArray.empty)).eqB g&&(mw g sl g.slots.toNat&&decide ((ib g D).2=0)))):=by rw[lM,N]);rw[ak]at a6 a0⊢;refine Qf [.a (.v g.val),.a (.v (fD a1 n1 c1 a2 n2 c2 a3 n3 c3 nx a4 n4 c4))] Tryz.func21 J<|Sa<|Sb 4 [2,3] J<|Hg<|QA<|QA<|Ra J<|QT [0] J<|QS<|Qo 1<|Th 1 J J (FN 40) (λhg E T m=>rM g ok _) ?_;refine Qx [2,3,4] J<|Qo 5<|Th 5 J J (FN 41) (λhg E T m=>a6 _ (hV.trans m.leV)) ?_;refine Qx [6,7,8] J<|g5 9 J kr J J J J (yV J) J<|g5 10 J kr J J J J (yV J) J<|g5 11 J kr J J J J (yN J hS) J<|Qx [12] J<|Qo 13<|Th 13 J J (FN 42) (λhg E T m=>zS g ok _) ?_;refine Qx [14,15] J<|Qe [2,3,29] J<|Qw<|Qn J ?_ ?_<;>intro h;{refine Sa<|Sd 2 [4,5] J<|QL<|uC<|cL aJ J ?_;(have z:gG g D=false:=by grind);intro E w' m _;refine⟨_,V,J,m.below lr,⟨Vw.le.refl _,λk o hk=>⟨(hV.trans m.leV).get k o hk,.inl hk⟩⟩,_,by rw[KI z];rfl,λh0=>absurd h0 (by rw[KI z];decide)⟩}
 have z:gG g D=true:=by
  rw[al];simp only[Zf,Z_,bne_eq_false_iff_eq]at h;obtain⟨⟨h1,h2⟩,h3⟩:=h
  have h4:gD D=true:=by
   cases hq:gD D with
   |true=>rfl
   |false=>rw[hq]at h2;simp at h2
  simp[h1,h4,h3]
 have X:=z;rw[al]at X;simp only[Z1,ZV]at X;have ⟨hG,_,hln⟩:=X;have ⟨hi1,hi2,hi3⟩:=uT hG hln;have hf:=dE hG;have ⟨s0,hs0⟩:=fk (L:=sl) (k:=0) om;(have aw:sl.getD 0 ByteArray.empty=s0:=by simp[List.getD,hs0]);rw[aw]at y;have O:∀(W:Vw) (w':Z6),lM g D=false->W=W->V.le (vw w')->cH w w'-> ∀p,∃x V',Ending.returned (.tuple #[.pointer p,I 50])=.returned x/\cH w w'/\Vext w.heap.size V V' w'/\uw g D x V':=λW w' h1 _ h2 h3 p=>⟨_,V,J,h3,⟨Vw.le.refl _,λk o hk=>⟨h2.get k o hk,.inl hk⟩⟩,p,by rw[Lx z h1],λh0=>absurd h0 (by rw[Lx z h1];decide)⟩;refine Sf<|Sc 5 [2,3,4] J<|Sb 1 [2,3,4,5] J<|QA<|EU<|Qw<|QA<|Sa<|Yy 1 J<|oJ J J J J J (FN 28) Tryz.func28 J J J λE=>Sa<|Sc 1 [0,1] J<|Yy 6 J ?_;refine QY J (yI J hS)<|QY J (yL 0 0 J hS hs0 J)<|Sd 1 [4] J<|cL aJ J ?_;intro E1 T a8 R;refine oa (E:=E) a8 R J J (by repeat (first|exact gk.zero|refine gk.succ J ?_)) J oo J ?_;refine zC J (PI s0 (Y s0 (ZZ hs0))) ?_;refine Yy 4 J<|Qs J<|Sb 1 [2,3,4,5,6,7] J<|QJ<|Sa<|Yy 5 J<|QY J (hU (.bool (!((i7 s0).eqB g))) J (λE w=>KQ _ _ w (.inr J)))<|Sn 2 [2,3,4,5,80] J J ?_ ?_<;>intro h
 .refine QI<|QM<|Sg<|Sd 4 [4,5] J<|uC<|cL aJ J ?_
  have M:lM g D=false:=by
   rw[y];cases hq:(i7 s0).eqB g with
   |false=>simp
   |true=>rw[hq]at h;simp at h;simp[h]
  intro E w' m _;exact O V w' M J (hV.trans m.leV) (m.below lr) _
 have a5:j6 s0=0/\(i7 s0).eqB g=true:=cU h;rw[ZD a5.1,a5.2,ZI,ZI]at y;refine QA<|Sa<|Sb 3 [2,3,4,5,41,42] J<|QJ<|mV 2 16 3 1 J J<|Ql [2,3,4,5,41] [2,7] J J (σ:=Nat) (λi=>[(42,.a (.v (I i)))]) (λi=>[(2,.lit ([.v cz,.v cz,.v cz]++g.cells.map .v++[.v (.slice a1 n1 c1),.v (.slice a2 n2 c2),.v (.slice a3 n3 c3),.v (I nx),.v (.slice a4 n4 c4),.row 7]) 84),(7,.row 3 1 i ((mP g sl i).flatMap cB))]) (λi=>(i:Int)<=g.slots/\mw g sl i=true) (λi=>g.slots.toNat - i) (0) (⟨om,J⟩) ?_;rintro i ⟨hi,aj⟩;refine Sa<|Sb 1 [2,3,4,5,41,42,43] J<|QA<|QX J ?_ ?_<;>intro h;{refine Se<|QA<|QJ<|Sa<|Sc 2 [2,3,4,5,8,41,42] J<|Yy 3 J ?_;have ⟨q,hq,hqt⟩:=Aa hG (i:=i) om;have aE:q<sl.length:=om;obtain⟨x,hx⟩:∃x,sl[q]? =some x:=⟨_,List.getElem?_eq_getElem aE⟩;(have a7:sl.getD (dt g (i:Int)).toNat ByteArray.empty=x:=by rw[hq];simp[List.getD,hx]);have aA:IntKind.i64.wrap ((i:Int)+1)=((i+1:Nat):Int):=cx om om;refine zC J (A6 g ok i) ?_;rw[hq];refine oJ J J J J J (FN 28) Tryz.func28 J J J λE=>Sa<|Sc 1 [0,1] J<|Yy 6 J ?_;refine QY J (yI J hS)<|QY J (yL q 0 J hS hx J)<|Sd 1 [4] J<|cL aJ J ?_;intro E1 T a8 R;refine oa (E:=E) a8 R J J (by repeat (first|exact gk.zero|refine gk.succ J ?_)) J oo J ?_;refine zC J (MT x (Y x (ZZ hx))) ?_;refine Sb 5 [2,3,4,5,9,10,41,42] J<|QA<|Sa<|Sn 2 [2,3,4,5,9,41,42,55] J J ?_ ?_<;>intro h;{refine QN<|QK<|sO J<|QK<|QK<|sO J<|QK<|QQ<|Sg<|Sd 4 [4,5] J<|uC<|cL aJ J ?_;(have M:lM g D=false:=by rw[y,Nd (k:=i) om (by rw[a7];simpa using h)];rfl);intro E w' m _;exact O V w' M J (hV.trans m.leV) (m.below lr) _};refine Se<|QC<|Yy 6 J ?_;have aD:iw x=0:=cU h;(have ae:mw g sl (i+1)=true:=by rw[E4,aj,a7,aD];rfl);refine QZ J (cX aJ 1 J J J) λ_ _=>QZ J (cQ aJ [I (fW x)] J (λE w m=>dZ (m.row _ _ _ _ _ J)) (λ_ _ _=>by intro u hu;simp only[ZE]at hu;subst hu;rfl) od) λ_ _=>?_;refine Yy 2 J<|Qs J<|du [2,3,4,5,41,42] J<|QM<|Qw<|QC<|Sb 2 [2,3,4,5,41,42] J ?_;(have ap:(mP g sl i).flatMap cB++[I (fW x)]=(mP g sl (i+1)).flatMap cB:=by rw[UQ,a7];simp);rw[ap,aA];refine dx 7 17 J<|Qr (i+1)<|⟨om,ae⟩};refine QN<|QK<|QK<|QQ<|Sg<|Yy 2 J ?_;have aG:i=g.slots.toNat:=om;subst aG;rw[aj,ZI]at y;refine eR (λx V'=>∃V2:Vw,V2.le V'/\V.le V2/\(∀k o,V2.get k=some o->V.get k=some o\/w.heap.size<=k)/\rU g D x V2) J (λhg E T m=>(a0 _ (hV.trans m.leV)).mono λe w' h=>jK (m.below lr).size hV m.leV h) ?_;rintro x W0 t hx;obtain⟨Z,ax,aq,aB,b1,m1,e1,b2,m2,e2,b3,m3,e3,n,rfl,hT⟩:=hx J;refine Yy 5 J<|Qs J<|Sb 2 [4,5,11,13] J<|QA<|Sa<|Sn 2 [4,5,11,75] J J ?_ ?_<;>intro h;{refine QN<|QK<|QQ<|Sg<|Sd 4 [4,5] J<|uC<|cL aJ J ?_;(have M:lM g D=false:=by rw[y];simpa using h);intro E w' m _;exact O V w' M J (hV.trans (t.trans m.leV)) (m.below t) _};have ab:(ib g D).2=0:=cU h;(have ah:lM g D=true:=by rw[y,ab];rfl);refine Se<|QC<|Yy 4 J<|Qs J<|QE 1 [4,5] J<|QM<|Sg<|Sd 4 [4,5] J<|uC<|Qb J λE w' m=>?_;have hb:=m.below t;have ac:=m.lit 2 _ _ J;have aV:=GA m t (l:=2) J;have ai:=m.rowFresh t (l:=7) J;have ag:=SlOf.grown (enc:=cB) (L:=mP g sl g.slots.toNat) V (by rw[AE];exact ai) cw;have ⟨ta,tn,tc,htv⟩:=cD ag.sl;have ar:=wt hV aq (ax.trans m.leV) aB;refine⟨_,V.grown w w',J,hb,Vext.grown hV hb,_,by rw[Ei z ah];rfl,λ_=>⟨E.ρ 2,J,b1,m1,e1,b2,m2,e2,b3,m3,e3,ta,tn,tc,?_,(hT ab).mono ar,by rw[N,<-htv];exact ag⟩⟩;show(if _ then _ else _)=_;rw[ZX om,ac,az,<-htv];rfl
theorem sM{g:Geo}(m:cY g=true)(d:Device):(fJ g d).S.length=g.slots.toNat:=by have l:=(Wb g d).n;have o:=dE m;rw[gI]at l;omega
theorem KD(V:Vw)(b:Nat)(w:Z6)(hV:V.le (vw w)):kD 22 #[eP b] w V λv V'=>∃bw,v=.func (.func 47) #[] #[eP bw]/\V'.get bw=some (.cells [eP b].toArray 75 (0,0)):=by refine dU J<|Qb J λE o d=>?_;have m:=d.below lr;have p:=d.lit 0 _ _ J;have t:=GA d lr (l:=0) J;refine⟨_,V.grown w o,J,m,Vext.grown hV m,E.ρ 0,J,?_⟩;simp only[Vw.grown];rw[ZX om];exact p
def yu(A:Nat->Z8 Record)(n:Nat)(x:Nat×Z7)(V':Vw):Prop:=x.1<n/\ ∃a k c,x.2=.slice a k c/\SlOf V' Record.cells 6 (.slice a k c) (A x.1)
theorem KY(V:Vw)(bw b:Nat)(g:Geo)(ok:g.Ok)(hG:cY g=true)(d:Device)(O:DevIn V d)(A:Nat->Z8 Record)(hA:RowsAll g d A)(hL:oE V b g d)(a6:V.get bw=some (.cells [eP b].toArray 75 (0,0)))(n:Nat)(hn:g.slots.toNat=n)(m:Nat)(w0:Z6)(hV:V.le (vw w0)): ID m bJ 47 #[eP bw] (λx:Nat×Z7=> #[I (x.1:Int),x.2]) (yu A n) V (λxs=>xs.map (·.1)=List.range n) (λ_=>True) n w0:=by
 have hf:=dE hG;have aa:=sM hG d;rw[hn]at aa;have ⟨ta,tn,tc,t2,tn2,tc2,t3,tn3,tc3,la,ln,lc,hb,hT,htl⟩:=hL;have ⟨_,_,_,_,_,_,_,_,_,he,hTS,_,_⟩:=hT;simp only[Value.agg.injEq,Array.mk.injEq,Yt,x_]at he;have ⟨u,t,h3⟩:=he;rw[<-u]at hTS;have ar:=hA.at_;have aB:=hA.no;rw[hn]at htl;generalize (fJ g d).S=TS at*;obtain⟨⟨sv,sl⟩,⟨cv,cl⟩,⟨kv,kl⟩,nx,⟨fv,fl⟩⟩:=d;obtain⟨a1,n1,c1,rfl⟩:=cD O.s.sl;obtain⟨a2,n2,c2,rfl⟩:=cD O.cache.sl;obtain⟨a3,n3,c3,rfl⟩:=cD O.keys.sl;obtain⟨a4,n4,c4,rfl⟩:=cD O.fenced.sl;have hS:=O.s;dsimp only at hS ar htl;simp only[wN,Geo.cells,YY,ZB]at hb;intro l J9q Jx W hW aE aP au hY h0
 have a8:V.le (vw W):=hV.trans ⟨λk o hk=>by
  have:=hW.block k (Array.getElem?_eq_some_iff.1 hk).1
  show W.heap[k]? =some o
  rw[this];exact hk,hW.os,hW.tape,hW.output⟩
 have ab:∀{R p A B},J9q R p A->(vw A).le (vw B)->J9q (λk=>R k\/(A.heap.size<=k/\k<B.heap.size)) p B:=λ{R p A B} h L=>aE _ _ _ _ none h (zm L) (λr e=>by cases e);show CallsIn _ _ _ _ #[.func (.yield l) #[] #[],eP bw] _ _;refine wy _ [.a (.v (.func (.yield l) #[] #[])),.a (.v (eP bw))] Tryz.func47 J J (jh E0 0 W) J J<|ef<|Rr<|QY J (fp aJ J (λX=>a8.get _ _ a6) J)<|Yy 3 J<|QY J (fp aJ J (λX=>a8.get _ _ hb) J)<|QY J (ic aJ J (λX=>(hTS.mono a8).sl))<|QE 1 [0,1,10,11,12] J<|rq<|Qw<|ki ?_;rw[aa];refine wk [0,1,10,11] [] J J (σ:=Nat×Z6) (λy=>[(12,.a (.v (I y.1)))]) (λy=>[]) (λy=>vw y.2) (λy=>(y.1<=n/\(∃R xs,xs.map (·.1)=List.range y.1/\J9q R xs y.2)/\V.le (vw y.2))) (λy=>n - y.1) ((0,W)) (⟨om,⟨_,[],J,h0⟩,a8⟩) ff oo J lr ?_;rintro⟨i,W1⟩ ⟨hi,⟨R,xs,a7,aj⟩,z⟩;dsimp only at hi a7 aj z⊢;(have aV:xs.length=i:=by rw[<-ZK (f:=λx:Nat×Z7=>x.1),a7,List.length_range]);(have ag:∀v:Z7,(xs++[(i,v)]).map (·.1)=List.range (i+1):=λv=>by rw[X7,a7,Y0];rfl);(have N:∀(v:Z7) (Z:Vw),V.le Z->yu A n (i,v) Z->(∀k o,Z.get k=some o->V.get k=some o\/W1.heap.size<=k)-> ∀w,Z.le (vw w)->(vw W1).le (vw w)->YieldAt (Rd none) (m - 1) bJ l #[I (i:Int),v] w λe w'=>∃b Y,e=.returned (.bool b)/\Y.le (vw w')/\ ∃M,Y=vw M/\(b=true->(∃R xs,xs.map (·.1)=List.range (i+1)/\J9q R xs M)/\V.le (vw M))/\(b=false-> ∃xs,Jx xs M):=by intro v Z ae hP hZ w am L;refine GS (hY _ xs (i,v) w Z (ab aj L) (by have:=hP.1;dsimp only at this;omega) ae hP (λk o hk=>⟨am.get k o hk,?_⟩)) ?_;{(rcases hZ k o hk with h|h);{exact .inr h};exact .inl (.inr ⟨h,(Array.getElem?_eq_some_iff.1 (am.get k o hk)).1⟩)};intro e w' hq;(rcases hq with⟨rfl,T,aC,aT⟩|⟨rfl,T⟩);{exact⟨true,vw w',J,Vw.le.refl _,w',J,λ_=>⟨⟨_,_,ag v,T⟩,aC (z.trans L)⟩,λhf=>(by cases hf)⟩};exact⟨false,vw w',J,Vw.le.refl _,w',J,λhf=>(by cases hf),λ_=>⟨_,T⟩⟩);refine ef<|Rr<|QE 1 [0,1,10,11,12,13] J<|rq<|Qw<|ef<|kN J ?_ ?_<;>intro h
 .simp only[Xa,Xb,Xc,Xd,Xe,Xf,Xg,Xh,Xi,Xj,Xk,Xl,Xm,Xn,Xo,Xp]at h;refine lj<|Qw<|ef<|ki<|ef<|Rr<|Yy 1 J ?_;have aF:i<TS.length:=om;obtain⟨s,af⟩:∃s,TS[i]? =some s:=⟨_,List.getElem?_eq_getElem aF⟩;have ad:=hTS.mono z;have an:IntKind.i64.wrap ((i:Int)+1)=((i+1:Nat):Int):=cx om om;refine QY J (yI J ad)<|QY J (yL i 0 J ad af J)<|Yy 2 J<|Qs J<|du [0,1,3,4,10,11,12] J<|rq<|Qw<|ef<|Rr<|QE 1 [0,1,3,4,5,10,11,12] J<|rq<|Qw ?_
  iterate 2 refine ef ?_
  refine Rr<|QE 3 [0,1,3,4,5,10,11,12,19] J<|rq<|Qw<|kN J ?_ ?_<;>intro h
  .simp only[Xa,Xb,Xc,Xd,Xe,Xf,Xg,Xh,Xi,Xj,Xk,Xl,Xm,Xn,Xo,Xp]at h;refine Bm (by intro _ _ w1 u;first|exact u|(have ⟨t,_⟩:=u;cases t;done)|(obtain⟨⟨_,t⟩,_⟩:=u;cases t;done)|(obtain⟨⟨_,t,_⟩,_⟩:=u;cases t;done)|(have ⟨_,t,_⟩:=u;cases t;done)|(have ⟨_,_,t,_⟩:=u;cases t;done)|(have ⟨_,_,_,t,_⟩:=u;cases t;done)|(rcases u with⟨⟨_,_,t,_⟩|⟨_,t⟩,_⟩<;>cases t;done)|(exact nor _ u)) J [] mixed J oo kc ?_;have ap:=ar i s af h;have aI:=EA (g:=g) (D:=sl) (k:=i) (n:=n) om;generalize fW (sl.getD (dt g (i:Int)).toNat ByteArray.empty)=tl at*;have a9:=htl.mono z;refine zt 0 J (fp aJ J (λX=>z.get _ _ a6) J)<|QT [1,2] J<|zt 3 J (fp aJ J (λX=>z.get _ _ hb) J)<|zt 4 J (fp aJ J (λX=>z.get _ _ a6) J)<|QT [5,6] J<|zt 7 J (fp aJ J (λX=>z.get _ _ hb) J)<|QT [8,9,10] J<|zt 11 J (fp aJ J (λX=>z.get _ _ a6) J)<|QT [12,13] J<|zt 14 J (fp aJ J (λX=>z.get _ _ hb) J)<|QT [15] J<|zt 16 J (gZ aJ J (λX=>a9.sl) (λX=>⟨om,by simp[AE];omega⟩))<|zt 17 J (yL i 0 J a9 aI J)<|QS<|Qo 18<|gA 18 (λv Y=>∃V2:Vw,V2.le Y/\V.le V2/\(∀k o,V2.get k=some o->V.get k=some o\/W1.heap.size<=k)/\ ∃a k c,v=.slice a k c/\SlOf V2 Record.cells 6 (.slice a k c) (A i)) J J J (FN 48) J J (λX E w1 hm=>(TA V g ok (i:Int) s.key tl sl (A i) ap a1 a2 a3 a4 n1 c1 n2 c2 n3 c3 n4 c4 nx _ (z.trans hm.leV) hS).mono λe w' h=>jK (zm hm.leV).size z hm.leV h) ?_;rintro v V2 al hx;obtain⟨Z,az,ae,aA,ra,rk,rc,rfl,hr⟩:=hx J;refine Qx [19] J<|Qe [0,1,3,5,10,11,12] J<|rq<|ef<|BJ 3 (by intro _ _ w1 u;first|exact u|(have ⟨t,_⟩:=u;cases t;done)|(obtain⟨⟨_,t⟩,_⟩:=u;cases t;done)|(obtain⟨⟨_,t,_⟩,_⟩:=u;cases t;done)|(have ⟨_,t,_⟩:=u;cases t;done)|(have ⟨_,_,t,_⟩:=u;cases t;done)|(have ⟨_,_,_,t,_⟩:=u;cases t;done)|(rcases u with⟨⟨_,_,t,_⟩|⟨_,t⟩,_⟩<;>cases t;done)|(exact nor _ u)) J J ?_;refine QE 3 [0,1,3,5,10,11,12,39,40,41] J<|ry _<|rE (l:=[(0,.a (.v (.func (.yield l) #[] #[]))),(1,.a (.v (eP bw))),(10,.a (.v (.slice ta tn tc))),(11,.a (.v (I n))),(12,.a (.v (I i))),(39,.a (.v (.func (.yield l) #[] #[]))),(40,.a (.v (I i))),(41,.a (.v (.slice ra rk rc)))]) (O':=[]) (nl':=1) ?_ ff oo J<|Vw.le.refl _;refine Gk (λb Y=>∃M,Y=vw M/\(b=true->(∃R xs,xs.map (·.1)=List.range (i+1)/\J9q R xs M)/\V.le (vw M))/\(b=false-> ∃xs,Jx xs M)) J J J J (λE w L=>by exact N _ Z ae ⟨by dsimp only;omega,ra,rk,rc,J,hr⟩ aA w (az.trans L) (al.trans L)) ?_;rintro q Y ⟨M,rfl,ai,ah⟩;refine Ds (by intro _ _ w1 u;first|exact u|(have ⟨t,_⟩:=u;cases t;done)|(obtain⟨⟨_,t⟩,_⟩:=u;cases t;done)|(obtain⟨⟨_,t,_⟩,_⟩:=u;cases t;done)|(have ⟨_,t,_⟩:=u;cases t;done)|(have ⟨_,_,t,_⟩:=u;cases t;done)|(have ⟨_,_,_,t,_⟩:=u;cases t;done)|(rcases u with⟨⟨_,_,t,_⟩|⟨_,t⟩,_⟩<;>cases t;done)|(exact nor _ u)) J ?_;refine QE 1 [0,1,10,11,12,43] J<|rq<|Qw<|kN J ?_ ?_<;>intro h
   .refine mq<|QP<|QL<|QL<|QP<|qQ aJ J ?_;cases q with
    |true=>exact absurd h sm
    |false=>have ⟨xs2,T⟩:=ah J;intro E w' hm _;exact⟨⟨_,J⟩,.inr ⟨_,ZY,Ch au T hm.leV⟩⟩
   refine lj<|QM<|Qw<|Rr<|QE 2 [0,1,10,11,12] J<|rq<|Qw ?_;cases q with
   |false=>exact absurd h sm
   |true=>have ⟨T,hv⟩:=ai J;rw[an];refine rW ((i+1,M)) (⟨by dsimp only;omega,T,hv⟩) od ff oo J<|Vw.le.refl _
  simp only[Xa,Xb,Xc,Xd,Xe,Xf,Xg,Xh,Xi,Xj,Xk,Xl,Xm,Xn,Xo,Xp]at h;refine lj<|ef<|BJ 3 (by intro _ _ w1 u;first|exact u|(have ⟨t,_⟩:=u;cases t;done)|(obtain⟨⟨_,t⟩,_⟩:=u;cases t;done)|(obtain⟨⟨_,t,_⟩,_⟩:=u;cases t;done)|(have ⟨_,t,_⟩:=u;cases t;done)|(have ⟨_,_,t,_⟩:=u;cases t;done)|(have ⟨_,_,_,t,_⟩:=u;cases t;done)|(rcases u with⟨⟨_,_,t,_⟩|⟨_,t⟩,_⟩<;>cases t;done)|(exact nor _ u)) J J ?_;refine QE 3 [0,1,3,4,5,10,11,12,19,39,40,41] J<|ry _ ?_;have aD:=aB i s af om;refine rE (l:=[(0,.a (.v (.func (.yield l) #[] #[]))),(1,.a (.v (eP bw))),(10,.a (.v (.slice ta tn tc))),(11,.a (.v (I n))),(12,.a (.v (I i))),(39,.a (.v (.func (.yield l) #[] #[]))),(40,.a (.v (I i))),(41,.a (.v cz))]) (O':=[]) (nl':=1) ?_ ff oo J<|Vw.le.refl _;refine Gk (λb Y=>∃M,Y=vw M/\(b=true->(∃R xs,xs.map (·.1)=List.range (i+1)/\J9q R xs M)/\V.le (vw M))/\(b=false-> ∃xs,Jx xs M)) J J J J (λE w L=>by exact N _ V lr ⟨by dsimp only;omega,none,0,0,J,by dsimp only;rw[aD];exact jY _ _ _ _ cw⟩ (λk o hk=>.inl hk) w (z.trans L) L) ?_;rintro q Y ⟨M,rfl,ai,ah⟩;refine Ds (by intro _ _ w1 u;first|exact u|(have ⟨t,_⟩:=u;cases t;done)|(obtain⟨⟨_,t⟩,_⟩:=u;cases t;done)|(obtain⟨⟨_,t,_⟩,_⟩:=u;cases t;done)|(have ⟨_,t,_⟩:=u;cases t;done)|(have ⟨_,_,t,_⟩:=u;cases t;done)|(have ⟨_,_,_,t,_⟩:=u;cases t;done)|(rcases u with⟨⟨_,_,t,_⟩|⟨_,t⟩,_⟩<;>cases t;done)|(exact nor _ u)) J ?_;refine QE 1 [0,1,10,11,12,43] J<|rq<|Qw<|kN J ?_ ?_<;>intro h
  .refine mq<|QP<|QL<|QL<|QP<|qQ aJ J ?_;cases q with
   |true=>exact absurd h sm
   |false=>have ⟨xs2,T⟩:=ah J;intro E w' hm _;exact⟨⟨_,J⟩,.inr ⟨_,ZY,Ch au T hm.leV⟩⟩
  refine lj<|QM<|Qw<|Rr<|QE 2 [0,1,10,11,12] J<|rq<|Qw ?_;cases q with
  |false=>exact absurd h sm
  |true=>have ⟨T,hv⟩:=ai J;rw[an];refine rW ((i+1,M)) (⟨by dsimp only;omega,T,hv⟩) od ff oo J<|Vw.le.refl _
 simp only[Xa,Xb,Xc,Xd,Xe,Xf,Xg,Xh,Xi,Xj,Xk,Xl,Xm,Xn,Xo,Xp]at h;refine vN<|QK<|QK<|QQ<|KE aJ J ?_;have aH:i=n:=om;subst aH;intro E w' hm _;exact⟨⟨_,J⟩,.inl ⟨xs,a7,_,ab aj hm.leV⟩⟩
def Am{α:Type}(enc:α->Z8 Z7)(ty sz:Nat)(L:Z8 α)(er:Int)(w:Z6)(e:Ending)(w':Z6):Prop:=
 (∃v,e=.returned (.tuple #[v,I er])/\w'.ownsRow w.heap.size ty sz v L.length (L.flatMap enc))/\cH w w'
def uf{α:Type}(enc:α->Z8 Z7)(sz:Nat)(L:Z8 α)(er:Int)(x:Z7)(V':Vw):Prop:= ∃a n c,x=.tuple #[.slice a n c,I er]/\SlOf V' enc sz (.slice a n c) L
theorem wM{α:Type}{enc:α->Z8 Z7}{ty sz:Nat}{L:Z8 α}{l:Int}(o:∀x,(enc x).length=sz){V:Vw}{f:Nat}{args:Array Z7}{w:Z6}(hV:V.le (vw w))(h:Cl f args w (Am enc ty sz L l w)): Cl f args w λe w'=>∃x V',e=.returned x/\cH w w'/\Vext w.heap.size V V' w'/\uf enc sz L l x V':=by refine h.mono ?_;rintro e w' ⟨⟨v,rfl,d⟩,m⟩;have ⟨V',hx,hsl⟩:=jS hV m d;obtain⟨a,n,c,rfl⟩:=cD hsl;exact⟨_,V',J,m,hx,a,n,c,J,hsl,o⟩
theorem xQ{g:Geo}{d:Device}(h:fA g d=0):gG g d=true/\lM g d=true:=by rw[fA]at h;split at h;{rename_i l;split at h;{rename_i m;exact⟨l,m⟩};cases h};cases h
theorem xL{g:Geo}{d:Device}(h:gG g d=true):cY g=true/\(d.s.l.length:Int)=dw g:=by simp only[gG,Z1,ZV]at h;exact⟨h.1,h.2.2⟩
theorem S3(V:Vw)(b:Nat)(g:Geo)(d:Device)(y:oE V b g d)(m:DevIn V d)(q:Nat)(x:Z5)(p:d.s.l[q]? =some x)(w:Z6)(hV:V.le (vw w)): Rt 28 #[eP b,I q] w (S x):=by have ⟨ta,tn,tc,t2,tn2,tc2,t3,tn3,tc3,la,ln,lc,hb0,_,_⟩:=y;obtain⟨⟨E,sl⟩,⟨B,N⟩,⟨M,O⟩,nx,⟨R,L⟩⟩:=d;obtain⟨a1,n1,c1,rfl⟩:=cD m.s.sl;have t:=m.s.mono hV;have u:=hV.get _ _ hb0;dsimp only at t p;simp only[wN,Geo.cells,YY,ZB]at u;refine dN J<|QY J (fp aJ J (λz=>u) J)<|zA J ?_;have o:=cC p;refine QY J (yI J t)<|QY J (yL q 0 J t p J)<|zA J<|Tz J λ_=>rfl
theorem MM(V:Vw)(g:Geo)(ok:g.Ok)(d:Device)(w:Z6)(hV:V.le (vw w))(m:DevIn V d)(y:∀s∈d.s.l,s.size<=maxLen): Rt 18 #[g.val,d.val] w (I (fA g d)):=by obtain⟨⟨X,sl⟩,⟨W,N⟩,⟨Y,O⟩,nx,⟨Z,L⟩⟩:=d;obtain⟨a1,n1,c1,rfl⟩:=cD m.s.sl;obtain⟨a2,n2,c2,rfl⟩:=cD m.cache.sl;obtain⟨a3,n3,c3,rfl⟩:=cD m.keys.sl;obtain⟨a4,n4,c4,rfl⟩:=cD m.fenced.sl;generalize z:(⟨⟨.slice a1 n1 c1,sl⟩,⟨.slice a2 n2 c2,N⟩,⟨.slice a3 n3 c3,O⟩,nx,⟨.slice a4 n4 c4,L⟩⟩:Device)=D at*;(have u:D.val=fD a1 n1 c1 a2 n2 c2 a3 n3 c3 nx a4 n4 c4:=by rw[<-z]);have o:=λ(w1:Z6) (hle:(vw w).le (vw w1))=>yj (vw w) g ok D w1 hle (m.mono hV) y;rw[u]at o⊢;clear z m;refine dC [.a (.v g.val),.a (.v (fD a1 n1 c1 a2 n2 c2 a3 n3 c3 nx a4 n4 c4))] J<|kt (uw g D) J o ?_;rintro x R t B;obtain⟨p,rfl,_⟩:=B J;clear B;refine zA J<|Qb J λE T M=>⟨?_,M.below (t)⟩;rfl
def mQ(D:Z8 Z5)(k:Nat):Z8 Int:=(List.range k).map λi:Nat=>(jm (D.getD (1+i) ByteArray.empty)).1
theorem Mp(D:Z8 Z5)(k:Nat):mQ D (k+1)=mQ D k++[(jm (D.getD (1+k) ByteArray.empty)).1]:=by simp[mQ,Y0]
theorem Ek(D:Z8 Z5)(k:Nat):(mQ D k).length=k:=by simp[mQ]
def wO(g:Geo)(d:Device):Z8 Int:=if fA g d=0 then mQ d.s.l g.nodes.toNat else []
theorem Mq(V:Vw)(g:Geo)(ok:g.Ok)(d:Device)(w:Z6)(hV:V.le (vw w))(t:DevIn V d)(B:∀s∈d.s.l,s.size<=maxLen): Cl 10 #[g.val,d.val] w (Am cB 3 1 (wO g d) (fA g d) w):=by have y:=λh=>xL (xQ (g:=g) (d:=d) h).1;obtain⟨⟨sv,sl⟩,⟨cv,cl⟩,⟨kv,kl⟩,nx,⟨fv,fl⟩⟩:=d;obtain⟨a1,n1,c1,rfl⟩:=cD t.s.sl;obtain⟨a2,n2,c2,rfl⟩:=cD t.cache.sl;obtain⟨a3,n3,c3,rfl⟩:=cD t.keys.sl;obtain⟨a4,n4,c4,rfl⟩:=cD t.fenced.sl;generalize hD:(⟨⟨.slice a1 n1 c1,sl⟩,⟨.slice a2 n2 c2,cl⟩,⟨.slice a3 n3 c3,kl⟩,nx,⟨.slice a4 n4 c4,fl⟩⟩:Device)=D at*;(have W:D.val=fD a1 n1 c1 a2 n2 c2 a3 n3 c3 nx a4 n4 c4:=by rw[<-hD]);(have M:D.s.l=sl:=by rw[<-hD]);have z:=λ(w1:Z6) (hle:(vw w).le (vw w1))=>yj (vw w) g ok D w1 hle (t.mono hV) B;rw[M]at B y;(have m:wO g D=if fA g D=0 then mQ sl g.nodes.toNat else []:=by rw[wO,M]);rw[W]at z⊢;clear hD;refine dC [.a (.v g.val),.a (.v (fD a1 n1 c1 a2 n2 c2 a3 n3 c3 nx a4 n4 c4))] J<|kt (uw g D) J z ?_;rintro x W0 o O;obtain⟨p,rfl,N⟩:=O J;clear O;refine cS J ?_ ?_<;>intro h;{refine cL aJ J ?_;have a5: ¬fA g D=0:=cU h;intro E w' R _;refine⟨⟨cz,J,?_⟩,R.below o⟩;rw[m,ZX a5];exact⟨J,.inl ⟨J,J⟩⟩};have X:fA g D=0:=cU h;clear h;rw[ZW X]at m;have ⟨hG,hln⟩:=y X;obtain⟨b,rfl,hL⟩:=N X;have hf:=dE hG;have ⟨hi1,hi2,hi3⟩:=uT hG hln;have a7:=(t.mono hV).mono o;obtain⟨T,a9⟩:∃T:Nat,g.nodes=T:=⟨g.nodes.toNat,om⟩;rw[a9,ZH]at m;refine iD 4 3 1 J J<|zL [2,6,20] [2] J J (σ:=Nat) (λi=>[(4,.a (.row 2)),(21,.a (.v (I i)))]) (λi=>[(2,.row 3 1 i ((mQ sl i).flatMap cB))]) (λi=>i<=T) (λi=>T - i) (0) om ?_;rintro i hi;refine dD J ?_ ?_<;>intro h;{have ⟨x,O⟩:=fk (L:=sl) (k:=1+i) om;(have Y:sl.getD (1+i) ByteArray.empty=x:=by simp[List.getD,O]);have Z:IntKind.i64.wrap ((i:Int)+1)=((i+1:Nat):Int):=cx om om;(have a0:(mQ sl i).flatMap cB++[I (jm x).1]=(mQ sl (i+1)).flatMap cB:=by rw[Mp,Y];simp);refine zC J (Tw g ok hG i om) ?_;rw[show 1+(i:Int)=((1+i:Nat):Int) by omega];refine k8 J (S3 W0 b g D hL a7 (1+i) x (by rw[M];exact O)) ?_;refine zC J (MG x (B x (ZZ O))) ?_;refine zA J<|QZ J (cX aJ 1 J J J) λ_ _=>QZ J (cQ aJ [I (jm x).1] J (λE w R=>dZ (R.row _ _ _ _ _ J)) (λ_ _ _=>by intro u hu;simp only[ZE]at hu;subst hu;rfl) od) λ_ _=>?_;refine zA J ?_;rw[a0,Z];refine dx 2 4 J<|Qr (i+1) om};refine cL aJ J ?_;have a8:i=T:=om;subst a8;intro E w' R _;refine⟨⟨_,by rw[X];rfl,?_⟩,R.below o⟩;rw[m,Ek];exact R.rowFresh o (l:=2) J
theorem HH{g:Geo}{d:Device}{A:Nat->Z8 Record}(p:cY g=true)(o:RowsAll g d A){i:Nat}(hi:i<(fJ g d).S.length):(A i).length<=64:=by have t:=dE p;obtain⟨s,m⟩:∃s,(fJ g d).S[i]? =some s:=⟨_,List.getElem?_eq_getElem hi⟩;by_cases l:s.key=0;{rw[o.no i s m l];simp};have:=(o.at_ i s m l).few;omega
def sr(g:Geo)(d:Device)(A:Nat->Z8 Record):Z8 View:=if fA g d=0 then jt g d A g.slots.toNat else []
theorem OU{l:Z8 Record}{k:Nat}{r:Record}(h:l[k]? =some r):fR (l.take (k+1))=fR (l.take k)+if 0<r.count then 1 else 0:=by rw[kM h,JU]
theorem M7(x:View):∀u∈x.cells,u.oneCell'=true:=by intro u d;simp at d;rcases d with rfl|rfl|rfl|rfl|rfl|rfl<;>rfl
def nE(g:Geo)(d:Device)(A:Nat->Z8 Record)(i:Nat):View:=rV ((fJ g d).S.getD i ⟨0,0⟩) (fW (d.s.l.getD (dt g (i:Int)).toNat ByteArray.empty)) (A i)
theorem TO(g:Geo)(d:Device)(A:Nat->Z8 Record)(k:Nat){xs:Z8 (Nat×Z7)}(h:xs.map (·.1)=List.range k):xs.map (λx=>nE g d A x.1)=jt g d A k:=by (have:xs.map (λx=>nE g d A x.1)=(xs.map (·.1)).map (nE g d A):=by rw[Ym];rfl);rw[this,h];rfl
theorem FG(V:Vw)(g:Geo)(ok:g.Ok)(d:Device)(w:Z6)(hV:V.le (vw w))(M:DevIn V d)(aD:∀s∈d.s.l,s.size<=maxLen)(A:Nat->Z8 Record)(hA:fA g d=0->RowsAll g d A): Cl 7 #[g.val,d.val] w (Am View.cells 51 6 (sr g d A) (fA g d) w):=by
 have an:=λh=>xL (xQ (g:=g) (d:=d) h).1;have ah:=M.mono hV;have B:=λ(w1:Z6) (hle:(vw w).le (vw w1))=>yj (vw w) g ok d w1 hle ah aD;(obtain⟨a1,a2,a3,a4,n1,c1,n2,c2,n3,c3,n4,c4,nx,ar⟩:∃a1 a2 a3 a4 n1 c1 n2 c2 n3 c3 n4 c4 nx,d.val=oM a1 a2 a3 a4 n1 c1 n2 c2 n3 c3 n4 c4 nx:=by obtain⟨⟨sv,sl⟩,⟨cv,cl⟩,⟨kv,kl⟩,nx,⟨fv,fl⟩⟩:=d;obtain⟨a1,n1,c1,rfl⟩:=cD M.s.sl;obtain⟨a2,n2,c2,rfl⟩:=cD M.cache.sl;obtain⟨a3,n3,c3,rfl⟩:=cD M.keys.sl;obtain⟨a4,n4,c4,rfl⟩:=cD M.fenced.sl;exact⟨a1,a2,a3,a4,n1,c1,n2,c2,n3,c3,n4,c4,nx,J⟩);have W:=B;rw[ar]at W⊢;clear B;refine CB<|wy 9 (E:=E0) (O:=[]) (nl:=0) (V:=vw w) [.a (.v g.val),.a (.v (oM a1 a2 a3 a4 n1 c1 n2 c2 n3 c3 n4 c4 nx))] Tryz.func7 J J (jh E0 0 w) J J<|ef<|Rr<|QE 4 [2,3,4] J<|rq<|Qw<|ef<|Rr<|Yy 2 J<|kt (uw g d) J W ?_;rintro x W0 R hx;obtain⟨p,rfl,a7⟩:=hx J;clear hx;refine Yy 4 J<|Qs J<|QE 1 [4,5,6] J<|rq<|Qw ?_
 iterate 2 refine ef ?_
 refine Rr<|QE 2 [4,5,6,20] J<|rq<|Qw<|kN J ?_ ?_<;>intro h;{refine ef<|Rr<|Yy 1 J<|Qs J<|QE 1 [4,5] J<|rq<|Qw<|mq<|QL<|qQ aJ J ?_;have aC: ¬fA g d=0:=cU h;intro E w' hm _;refine⟨⟨cz,J,?_⟩,hm.below R⟩;rw[sr,ZX aC];exact⟨J,.inl ⟨J,J⟩⟩};have hz:fA g d=0:=cU h;clear h;have ⟨hG,hln⟩:=an hz;obtain⟨b,rfl,hL⟩:=a7 hz;have hA:=hA hz;have hf:=dE hG;have ae:=sM hG d;obtain⟨n,hn⟩:∃n,g.slots.toNat=n:=⟨_,J⟩;rw[hn]at ae;refine lj<|Qw ?_
 iterate 2 refine ef ?_
 refine Rr<|Yy 1 J<|mV 2 0 51 6 J J<|BR [4,6,22] [2,4] J ff J J λEa V1 ao ad _=>?_;have aM:=ad 3 _ _ J J;refine kt (λv V2=>∃bw,v=.func (.func 47) #[] #[eP bw]/\V2.get bw=some (.cells [eP b].toArray 75 (0,0))) J (KD V1 b) ?_;rintro v V2 T hv;obtain⟨bw,rfl,aL⟩:=hv J;clear hv;have m:=ao.trans T;have aE:=(ah.mono R).mono m;refine du [4,6,23] J<|rq<|Qw<|ki<|KS (α:=Nat×Z7) (σ:=Z8 View) (τ:=Unit) om J (FN 47) (λx=>I (x.1:Int)) (λx=>x.2) (yu A n) (λxs=>xs.map (·.1)=List.range n) (λ_=>True) n [(4,.a (.v (eP (Ea.ρ 2)))),(6,.a (.v (eP (Ea.ρ 3))))] (λs=>[(2,.lit [.row 4] 44),(4,.row 51 6 s.length (s.flatMap View.cells)),(6,.keep 2 (Ea.ρ 2) (Ea.κ 2))]) (λxs s=>s=xs.map λx=>nE g d A x.1) (λ_=>[]) (λ_ _=>False) .ret [] ff J J oo cw cw J J (λw0 hw=>KY V2 bw b g ok hG d aE A hA (oE.mono hL m) aL n hn _ w0 hw) ?_ ?_ ?_
 .intro l aF x Y Vx Vf sz hI Z aq b9 aI;have ⟨i,xv⟩:=x;have ⟨hin,ra,rk,rc,hxe,hr0⟩:=aI;dsimp only at hin hxe hr0⊢;subst hxe;refine ef<|Rr<|QE 1 [4,6,7,25] J<|rq<|Qw<|Rr<|QE 1 [4,6,7,8] J<|rq<|AX J vl λVg kz a0=>?_;refine ki<|ef ?_;(have b8:Y.length<n:=by rw[hI,ZK];exact Z);have ac:i<(fJ g d).S.length:=om;have b3:=HH hG hA ac;obtain⟨s,u⟩:∃s,(fJ g d).S[i]? =some s:=⟨_,List.getElem?_eq_getElem ac⟩;(have aH:(fJ g d).S.getD i ⟨0,0⟩=s:=by simp[List.getD,u]);(have au:nE g d A i=rV s (fW (d.s.l.getD (dt g (i:Int)).toNat ByteArray.empty)) (A i):=by rw[nE,aH]);have aj:=(m.trans aq).trans a0;have ⟨ta,tn,tc,t2,tn2,tc2,t3,tn3,tc3,la,ln,lc,hb,hT,htl⟩:=oE.mono hL aj;have z:=((T.trans aq).trans a0).get _ _ aM;have ⟨_,_,_,_,_,_,_,_,_,he,hTS,_,_⟩:=hT;simp only[Value.agg.injEq,Array.mk.injEq,Yt,x_]at he;have ⟨t,o,h3⟩:=he;rw[<-t]at hTS;clear t o h3;have a8:=EA (g:=g) (D:=d.s.l) (k:=i) (n:=g.slots.toNat) om;generalize fW (d.s.l.getD (dt g (i:Int)).toNat ByteArray.empty)=tl at au a8;simp only[wN,Geo.cells,YY,ZB]at hb;have hr:=hr0.mono a0;have aS:=ur (A i);have aO:=λw1 aR=>H5 Vg ra rk rc (A i) w1 aR hr om;have N:=F0 hr aS;have am:nE g d A i=⟨s.key,s.claim,tl,(A i).length,whole (A i),fR ((A i).take (whole (A i)))⟩:=au;have ⟨ra',rc',he,_⟩:=zl hr.sl;cases he;generalize b7:(A i).length=al at*;obtain⟨L,ax⟩:∃L,(A i).take (whole (A i))=L:=⟨_,J⟩;(have aP:L.length=whole (A i):=by rw[<-ax,ZL];omega);rw[ax]at N am;generalize whole (A i)=wn at*;subst aP;refine nA 4 6 2 (Ea.ρ 2) 0 J J J<|Rr<|Yy 1 J<|k8 J aO ?_;refine QE 1 [4,6,7,8,9] J<|rq<|Qw<|ef<|Bm (by intro _ _ w1 t;first|exact t|(have ⟨o,_⟩:=t;cases o;done)|(obtain⟨⟨_,o⟩,_⟩:=t;cases o;done)|(obtain⟨⟨_,o,_⟩,_⟩:=t;cases o;done)|(have ⟨_,o,_⟩:=t;cases o;done)|(have ⟨_,_,o,_⟩:=t;cases o;done)|(have ⟨_,_,_,o,_⟩:=t;cases o;done)|(rcases t with⟨⟨_,_,o,_⟩|⟨_,o⟩,_⟩<;>cases o;done)|(exact nor _ t)) J [] mixed J oo kc ?_;refine Qt 0 J J (fp aJ J (λhg=>z) J)<|QT [1,2,3] J<|Qt 4 J J (fp aJ J (λhg=>hb) J)<|QT [5] J ?_;have a6:=cC u;refine Qt 6 J J (yI J hTS)<|Qt 7 J J (yF J hTS)<|Qt 8 J J (yL i 0 J hTS u J)<|Qt 9 J J (fp aJ J (λhg=>z) J)<|QT [10,11,12] J<|Qt 13 J J (fp aJ J (λhg=>hb) J)<|QT [14] J ?_;have a6:=cC u;refine Qt 15 J J (yI J hTS)<|Qt 16 J J (yF J hTS)<|Qt 17 J J (yL i 1 J hTS u J)<|Qt 18 J J (fp aJ J (λhg=>z) J)<|QT [19,20] J<|Qt 21 J J (fp aJ J (λhg=>hb) J)<|QT [22] J ?_;have ay:=cC a8;refine Qt 23 J J (gZ aJ J (λhg=>htl.sl) (λhg=>⟨om,by simp[AE];omega⟩)) ?_;refine Qt 24 J J (yL i 0 J htl a8 J)<|QT [25] J<|Qt 26 J J (pi aJ J)<|QT [27] J<|Qt 28 J J (pi aJ J)<|QT [29] J<|QS<|Qo 30<|Qk 30 J J J J<|Qo 31<|Qi 31 J<|Qe [4,9,10] J<|rq<|Qw ?_
  iterate 2 refine ef ?_
  refine Rr<|Yy 1 J<|QY J (pi aJ J)<|QE 1 [4,10,58,59,60] J<|rq<|Qw<|ki<|wk [4,10,58,59] [8] J J (σ:=Nat) (λk=>[(60,.a (.v (I k)))]) (λk=>[(8,.lit [.v (I s.key),.v (I s.claim),.v (I tl),.v (I al),.v (I L.length),.v (I (fR (L.take k)))] 51)]) (λk=>Vg) (λk=>k<=L.length) (λk=>L.length - k) (0) om ff oo J lr ?_;rintro k hk;have b5:=P6 (L.take k);(have bc:(L.take k).length<=k:=by rw[ZL];omega);have ag:IntKind.i64.wrap ((k:Int)+1)=((k+1:Nat):Int):=cx om om;refine ef<|Rr<|QE 1 [4,10,58,59,60,61] J<|rq<|Qw<|ef<|kN J ?_ ?_<;>intro h;{simp only[Xa,Xb,Xc,Xd,Xe,Xf,Xg,Xh,Xi,Xj,Xk,Xl,Xm,Xn,Xo,Xp]at h;refine lj<|Qw<|ef<|ki<|ef<|Rr ?_;have ⟨r,h_r⟩:=fk (L:=L) (k:=k) om;have ai:=OU h_r;have aG:=cC h_r;refine QY J (yI J N)<|QY J (yL k 0 J N h_r J)<|Yy 1 J<|Qs J<|du [4,10,12,58,59,60] J<|rq<|Qw<|ef<|Rr<|QE 3 [4,10,58,59,60,66] J<|rq<|Qw<|kN J ?_ ?_<;>intro h;{simp only[Xa,Xb,Xc,Xd,Xe,Xf,Xg,Xh,Xi,Xj,Xk,Xl,Xm,Xn,Xo,Xp]at h;refine Rr<|Yy 4 J<|Qs J<|du [4,10,58,59,60] J<|rq<|QM<|Qw<|Rr<|QE 2 [4,10,58,59,60] J<|rq<|Qw ?_;rw[ZW h]at ai;rw[cx (n:=(fR (L.take k):Int)+1) om om,show(fR (L.take k):Int)+1=(fR (L.take (k+1)):Int) by omega,ag];refine rW (k+1) om od ff oo J<|Vw.le.refl _};simp only[Xa,Xb,Xc,Xd,Xe,Xf,Xg,Xh,Xi,Xj,Xk,Xl,Xm,Xn,Xo,Xp]at h;refine lj<|QM<|Qw<|Rr<|QE 2 [4,10,58,59,60] J<|rq<|Qw ?_;(have aw:fR (L.take (k+1))=fR (L.take k):=by rw[ai,ZX om];rfl);rw[<-aw,ag];refine rW (k+1) om od ff oo J<|Vw.le.refl _};simp only[Xa,Xb,Xc,Xd,Xe,Xf,Xg,Xh,Xi,Xj,Xk,Xl,Xm,Xn,Xo,Xp]at h;refine vN<|QK<|QK<|QQ<|Qw<|Rr<|Yy 2 J ?_;have aQ:k=L.length:=om;subst aQ;rw[Zx];refine QZ J (cX aJ 6 J J J) λ_ _=>QZ J (cQ aJ ((⟨s.key,s.claim,tl,(al:Int),(L.length:Int),(fR L:Int)⟩:View).cells) J (λE w hm=>dZ (hm.row _ _ _ _ _ J)) (λ_ _ _=>M7 _) od) λ_ _=>Qs J<|du [4] J<|rq<|QM ?_;(have ab:Y.length+1=(Y++[nE g d A i]).length/\Y.flatMap View.cells++(⟨s.key,s.claim,tl,(al:Int),(L.length:Int),(fR L:Int)⟩:View).cells=(Y++[nE g d A i]).flatMap View.cells:=by rw[am];simp);rw[ab.1,ab.2];refine dx 4 10 J<|Cw (Y++[nE g d A i]) (by rw[hI,X7];rfl) oo J vl
 {intro D3 V3 Y xs hS hI aV hD ak;have aK:Y=jt g d A n:=hI.trans (TO g d A n hS);subst aK;refine QM<|Qw<|ef<|nA 4 6 2 (Ea.ρ 2) 0 J J J<|Rr<|Yy 1 J<|Qs J<|QE 1 [4,5] J<|rq<|Qw<|mq<|yk aJ J hD ?_;intro E w' hm _;have X:(vw w).le (V3.del D3):=(R.trans m).trans ak;refine⟨⟨_,by rw[hz];rfl,?_⟩,hm.below X⟩;rw[sr,ZW hz,hn];exact hm.rowFresh X (l:=4) J};intro D3 V3 y aF _ hf;exact hf.elim
theorem Dq{s:Z5}(h:jf s=true):fX (iy s)=true:=by
 rw[iy,ZW h];rw[jf]at h
 grind
theorem NU{g:Geo}{slot key d:Int}{D:Z8 Z5}{A:Z8 Record}(l:RowsOf g slot key d D A):∀r∈A,r.text.size<=256:=by
 intro r m;have ⟨j,hj⟩:=Zs.1 m;have ⟨s,_,h1,h2⟩:=l.at_ j r hj;rw[oQ,ZW h1]at h2;rw[mc,Z1,Z1]at h1;have:=(vx (Dq h1.1.1)).text
 simp_all
theorem NM{g:Geo}{d:Device}{A:Nat->Z8 Record}(o:RowsAll g d A){i:Nat}(hi:i<(fJ g d).S.length):∀r∈A i,r.text.size<=256:=by obtain⟨s,m⟩:∃s,(fJ g d).S[i]? =some s:=⟨_,List.getElem?_eq_getElem hi⟩;by_cases l:s.key=0;{rw[o.no i s m l];intro r p;cases p};exact NU (o.at_ i s m l)
theorem Lk{g:Geo}:∀(l:Z8 Block) (last:Int),g9 g last l=true-> ∀x∈l,last<x.n/\x.n<g.blocks
 |[],_,_,x,hx=>by cases hx
 |y::r,last,h,x,hx=>by
  obtain⟨⟨h1,h2,_⟩,h3⟩:=tS.1 h
  rcases Zg.1 hx with rfl|hx
  . exact⟨h1,h2⟩
  ·
   have ⟨h4,h5⟩:=Lk r y.n h3 x hx
   omega
theorem CI{g:Geo}{l:Z8 Block}(h:fO g l=true){x:Block}(d:x∈l):0<=x.n/\x.n<g.blocks:=by rw[fO,Z1]at h;have ⟨h1,h2⟩:=Lk l (-1) h.2 x d;omega
theorem IZ:∀(X:Z8 Sight) (q:Nat) (x:Sight) (t:Z5),X[q]? =some x->ei (q*3+1) [Value.string t] (X.flatMap Sight.cells)=(X.set q ⟨x.now,t,x.by_⟩).flatMap Sight.cells
 |[],q,x,t,h=>by simp at h
 |y::r,0,x,t,h=>by
  simp at h
  subst h
  simp[ei]
 |y::r,q+1,x,t,h=>by
  have ih:=IZ r q x t (cU h)
  rw[show(q+1)*3+1=(q*3+1)+1+1+1 by omega,Yg,Zy,Zy,<-ih]
  simp only[ei,ZP,YY,ZB,R_]
  rw[show q*3+1+1+1+1+1=(q*3+1+1)+1+1+1 by omega]
  simp
theorem J6:∀(X:Z8 Sight) (q:Nat) (x:Sight) (t:Int),X[q]? =some x->ei (q*3+2) [I t] (X.flatMap Sight.cells)=(X.set q ⟨x.now,x.then_,t⟩).flatMap Sight.cells
 |[],q,x,t,h=>by simp at h
 |y::r,0,x,t,h=>by
  simp at h
  subst h
  simp[ei]
 |y::r,q+1,x,t,h=>by
  have ih:=J6 r q x t (cU h)
  rw[show(q+1)*3+2=(q*3+2)+1+1+1 by omega,Yg,Zy,Zy,<-ih]
  simp only[ei,ZP,YY,ZB,R_]
  rw[show q*3+2+1+1+1+1=(q*3+2+1)+1+1+1 by omega]
  simp
theorem MX(X:Z8 Sight)(b:Block)(i:Int)(d:b.n.toNat<X.length):ei (b.n.toNat*3+2) [I i] (ei (b.n.toNat*3+1) [Value.string b.text] (X.flatMap Sight.cells))=(me i X b).flatMap Sight.cells:=by
 obtain⟨x,l⟩:∃x,X[b.n.toNat]? =some x:=⟨_,List.getElem?_eq_getElem d⟩;rw[IZ X _ x _ l,J6 _ _ ⟨x.now,b.text,x.by_⟩ i (by simp[d]),me,List.set_set]
 simp_all
theorem TR(i:Int)(X:Z8 Sight){l:Z8 Block}{k:Nat}{b:Block}(h:l[k]? =some b):kj i X (l.take (k+1))=me i (kj i X (l.take k)) b:=by rw[kM h,RT]
theorem U4(x:Sight):∀u∈x.cells,u.oneCell'=true:=by intro u d;simp at d;rcases d with rfl|rfl|rfl<;>rfl
theorem Kl{g:Geo}{d:Device}{A:Nat->Z8 Record}(h: ¬fA g d=0):lX g d A=[]/\oD g d A=fA g d:=⟨by rw[lX,ZX (λl=>h l.1)],by rw[oD,ZX h]⟩
theorem xF{g:Geo}{d:Device}{A:Nat->Z8 Record}(h:fA g d=0)(m:lV g d A=false):lX g d A=[]/\oD g d A=50:=⟨by rw[lX,ZX (λl=>by rw[m]at l;cases l.2)],by rw[oD,ZW h,ZX (by simp[m])]⟩
theorem xi{g:Geo}{d:Device}{A:Nat->Z8 Record}(h:fA g d=0)(l:lV g d A=true):lX g d A=lq g A (kH g d g.blocks.toNat) g.slots.toNat/\oD g d A=0:=⟨by rw[lX,ZW ⟨h,l⟩],by rw[oD,ZW h,ZW l]⟩
def rT(A:Nat->Z8 Record)(X:Z8 Sight)(i:Nat):Z8 Sight:=kj ((i:Int)+1) X (iV A i)
theorem Gr(g:Geo)(A:Nat->Z8 Record)(X:Z8 Sight):∀n,(List.range n).foldl (rT A) X=lq g A X n
 |0=>rfl
 |n+1=>by rw[Y0,X_,Gr g A X n];rfl
theorem Us(g:Geo)(A:Nat->Z8 Record)(X:Z8 Sight){xs:Z8 (Nat×Z7)}{n:Nat}(h:xs.map (·.1)=List.range n):xs.foldl (λX x=>rT A X x.1) X=lq g A X n:=by rw[<-Gr g A X n,<-h,List.foldl_map]
theorem Vz(g:Geo)(A:Nat->Z8 Record){xs:Z8 (Nat×Z7)}{n:Nat}(h:xs.map (·.1)=List.range n)(d:∀x∈xs,fO g (iV A x.1)=true):rt g A n=true:=by
 rw[rt,YV]
 grind
theorem Gv(V:Vw)(g:Geo)(ok:g.Ok)(d:Device)(w:Z6)(hV:V.le (vw w))(a6:DevIn V d)(aP:∀s∈d.s.l,s.size<=maxLen)(A:Nat->Z8 Record)(hA:fA g d=0->RowsAll g d A): Cl 8 #[g.val,d.val] w (Am Sight.cells 56 3 (lX g d A) (oD g d A) w):=by
 have aF:=λh=>xL (xQ (g:=g) (d:=d) h).1;have ai:=a6.mono hV;(obtain⟨a1,a2,a3,a4,n1,c1,n2,c2,n3,c3,n4,c4,nx,aH⟩:∃a1 a2 a3 a4 n1 c1 n2 c2 n3 c3 n4 c4 nx,d.val=oM a1 a2 a3 a4 n1 c1 n2 c2 n3 c3 n4 c4 nx:=by obtain⟨⟨sv,sl⟩,⟨cv,cl⟩,⟨kv,kl⟩,nx,⟨fv,fl⟩⟩:=d;obtain⟨a1,n1,c1,rfl⟩:=cD a6.s.sl;obtain⟨a2,n2,c2,rfl⟩:=cD a6.cache.sl;obtain⟨a3,n3,c3,rfl⟩:=cD a6.keys.sl;obtain⟨a4,n4,c4,rfl⟩:=cD a6.fenced.sl;exact⟨a1,a2,a3,a4,n1,c1,n2,c2,n3,c3,n4,c4,nx,J⟩);have ab:=λ(w1:Z6) (hle:(vw w).le (vw w1))=>yj (vw w) g ok d w1 hle ai aP;have ac:=λ(W:Vw) (h0:(vw w).le W) (i:Nat) (w1:Z6) (hle:W.le (vw w1))=>UU W g ok d (i:Int) w1 hle (ai.mono h0);rw[aH]at ab ac⊢;refine CB<|wy 9 (E:=E0) (O:=[]) (nl:=0) (V:=vw w) [.a (.v g.val),.a (.v (oM a1 a2 a3 a4 n1 c1 n2 c2 n3 c3 n4 c4 nx))] Tryz.func8 J J (jh E0 0 w) J J<|ef<|Rr<|QE 4 [2,3,4,5] J<|rq<|Qw<|ef<|Rr<|Yy 2 J<|kt (uw g d) J ab ?_;rintro x W0 u hx;obtain⟨p,rfl,aj⟩:=hx J;refine Yy 4 J<|Qs J<|du [2,3,4,5,6] J<|rq<|Qw ?_
 iterate 2 refine ef ?_
 refine Rr<|QE 2 [2,3,4,5,6,22] J<|rq<|Qw<|kN J ?_ ?_<;>intro h;{refine ef<|Bm (by intro _ _ w1 Y;first|exact Y|(have ⟨R,_⟩:=Y;cases R;done)|(obtain⟨⟨_,R⟩,_⟩:=Y;cases R;done)|(obtain⟨⟨_,R,_⟩,_⟩:=Y;cases R;done)|(have ⟨_,R,_⟩:=Y;cases R;done)|(have ⟨_,_,R,_⟩:=Y;cases R;done)|(have ⟨_,_,_,R,_⟩:=Y;cases R;done)|(rcases Y with⟨⟨_,_,R,_⟩|⟨_,R⟩,_⟩<;>cases R;done)|(exact nor _ Y)) J [] mixed J oo kc ?_;refine QT [0] J<|QS<|zI 1 J<|zI 2 J<|Qe [4,5] J<|rq<|Qw<|mq<|QL<|qQ aJ J ?_;have an: ¬fA g d=0:=cU h;intro E w' M _;refine⟨⟨cz,by rw[(Kl an).2];rfl,?_⟩,M.below u⟩;rw[(Kl an).1];exact⟨J,.inl ⟨J,J⟩⟩};have hz:fA g d=0:=cU h;have ⟨hG,hln⟩:=aF hz;obtain⟨b,rfl,hL⟩:=aj hz;have hA:=hA hz;have hf:=dE hG;have aq:=sM hG d;obtain⟨nb,aD⟩:∃nb,g.blocks.toNat=nb:=⟨_,J⟩;obtain⟨n,hn⟩:∃n,g.slots.toNat=n:=⟨_,J⟩;rw[hn]at aq;(have ak:lV g d A=(mB g d nb&&rt g A n):=by rw[lV,aD,hn]);rw[hz];refine lj<|Qw ?_
 iterate 2 refine ef ?_
 refine Rr<|QE 3 [2,3,4,5,6,25,26] J<|rq<|Qw<|ki<|mV 2 0 56 3 J J<|wk [2,3,4,5,6,25] [2,4] J J (σ:=Nat) (λi=>[(26,.a (.v (I i)))]) (λi=>[(2,.lit [.row 4] 47),(4,.row 56 3 i ((kH g d i).flatMap Sight.cells))]) (λi=>W0) (λi=>i<=nb/\mB g d i=true) (λi=>nb - i) (0) (⟨om,J⟩) ff oo J lr ?_;rintro i ⟨hi,ar⟩;refine ef<|Rr<|QE 1 [2,3,4,5,6,25,26,27] J<|rq<|Qw<|ef<|kN J ?_ ?_<;>intro h
 .simp only[Xa,Xb,Xc,Xd,Xe,Xf,Xg,Xh,Xi,Xj,Xk,Xl,Xm,Xn,Xo,Xp]at h;refine lj<|Qw<|ef<|ki<|ef<|Rr<|QE 2 [2,3,4,5,6,7,25,26] J<|rq<|Qw<|ef<|Rr<|Yy 3 J ?_;have b0:IntKind.i64.wrap ((i:Int)+1)=((i+1:Nat):Int):=cx om om;have ao:=ac W0 u i;have ay:=DT g d i;have aE:=CC g d i;have az:=XL (g:=g) (d:=d) (k:=i) (n:=nb) om;generalize kg g d (i:Int)=r at ao ay aE az;refine k8 J ao<|QE 5 [2,3,4,5,6,8,9,25,26] J<|rq<|Qw ?_
  iterate 2 refine ef ?_
  refine Rr<|QE 2 [2,3,4,5,6,8,25,26,37] J<|rq<|Qw<|kN J ?_ ?_<;>intro h
  .refine ef<|Rr ?_
   iterate 2 refine fw aJ J J J fZ ?_
   refine du [4,5] J<|rq<|Qw<|mq<|QL<|QP<|QL<|QL<|QP<|QL<|qQ aJ J ?_;(have a0:lV g d A=false:=by rw[ak,az (cU h)];rfl);intro E w' M _;refine⟨⟨cz,by rw[(xF hz a0).2];rfl,?_⟩,M.below u⟩;rw[(xF hz a0).1];exact⟨J,.inl ⟨J,J⟩⟩
  refine lj<|Qw<|Rr<|Yy 4 J ?_;have a9:r.2=0:=cU h;refine QZ J (cX aJ 3 J J J) λ_ _=>QZ J (cQ aJ ((⟨r.1,r.1,0⟩:Sight).cells) J (λE w M=>dZ (M.row _ _ _ _ _ J)) (λ_ _ _=>U4 _) od) λ_ _=>Qs J<|du [2,3,4,5,6,25,26] J<|rq<|QM<|Qw<|Rr<|QE 2 [2,3,4,5,6,25,26] J<|rq<|Qw ?_;(have aO:(kH g d i).flatMap Sight.cells++(⟨r.1,r.1,0⟩:Sight).cells=(kH g d (i+1)).flatMap Sight.cells:=by rw[ay];simp);rw[aO,b0];refine dx 4 6 J<|rW (i+1) (⟨om,by rw[aE,ar,a9];rfl⟩) od ff oo J<|Vw.le.refl _
 simp only[Xa,Xb,Xc,Xd,Xe,Xf,Xg,Xh,Xi,Xj,Xk,Xl,Xm,Xn,Xo,Xp]at h;have b8:i=nb:=om;subst b8;refine vN<|QK<|QK<|QQ<|Qw ?_
 iterate 2 refine ef ?_
 refine Rr<|Yy 1 J<|BR [2,4,5,45] [2,3,4] J ff J J λt V1 aG ap _=>?_;have aW:=ap 0 _ _ J J;refine kt (λv V2=>∃bw,v=.func (.func 47) #[] #[eP bw]/\V2.get bw=some (.cells [eP b].toArray 75 (0,0))) J (KD V1 b) ?_;rintro v V2 aa m;obtain⟨bw,rfl,b3⟩:=m J;have z:=aG.trans aa;have aT:=(ai.mono u).mono z;obtain⟨X0,al⟩:∃X0,kH g d i=X0:=⟨_,J⟩;(have aC:X0.length=i:=by rw[<-al,GM]);rw[al];refine du [2,4,5,46] J<|rq<|Qw<|ki<|KS (α:=Nat×Z7) (σ:=Z8 Sight) (τ:=Unit) om J (FN 47) (λx=>I (x.1:Int)) (λx=>x.2) (yu A n) (λxs=>xs.map (·.1)=List.range n) (λ_=>True) n [(2,.a (.v (eP (t.ρ 0)))),(4,.a (.v (eP (t.ρ 2)))),(5,.a (.v (eP (t.ρ 3))))] (λs=>[(2,.lit [.row 4] 47),(3,.lit [.v (I 0)] 41),(4,.row 56 3 i (s.flatMap Sight.cells)),(7,.keep 2 (t.ρ 2) (t.κ 2)),(6,.keep 3 (t.ρ 3) (t.κ 3))]) (λxs s=>s=xs.foldl (λX x=>rT A X x.1) X0/\s.length=i/\ ∀x∈xs,fO g (iV A x.1)=true) (λ_=>[(2,.lit [.v cz] 47),(3,.lit [.v (I 50)] 41),(7,.keep 2 (t.ρ 2) (t.κ 2)),(6,.keep 3 (t.ρ 3) (t.κ 3))]) (λxs _=>∃x∈xs,x.1<n/\ ¬fO g (iV A x.1)=true) .ret X0 ff J ⟨J,aC,λx hx=>(by cases hx)⟩ oo cw cw J J (λw0 hw=>KY V2 bw b g ok hG d aT A hA (oE.mono hL z) b3 n hn _ w0 hw) ?_ ?_ ?_
 .intro l a8 x s1 Vx Vf sz ⟨hI,hIl,hIm⟩ hlen1 hVx hxf hPE;have ⟨j,xv⟩:=x;have ⟨hjn,ra,rk,rc,hxe,a9⟩:=hPE;dsimp only at hjn hxe a9⊢;subst hxe;refine ef<|Rr<|QE 1 [2,4,5,10,48] J<|rq<|Qw<|Rr<|QE 1 [2,4,5,10,11] J<|rq<|AX J vl λVg kz aw=>ki<|ef ?_;have aI:j<(fJ g d).S.length:=om;have bc:=HH hG hA aI;have ax:=NM hA aI;have hr:=a9.mono aw;have aA:IntKind.i64.wrap ((j:Int)+1)=(j:Int)+1:=cx om om;refine nA 4 7 2 (t.ρ 2) 0 J J J<|nA 5 6 3 (t.ρ 3) 0 J J J<|Rr<|Yy 1 J<|eR (GI (iV A j)) J (λo E w1 M=>Rf M.leV (Nj Vg ra rk rc (A j) _ M.leV hr om ax)) ?_;rintro v W3 Z m;obtain⟨sa,sk,sc,rfl,hb⟩:=m J;(have bh:(iV A j).length<=64:=by rw[iV,mU];exact u9 _ 64 0);have au:=((((aa.trans hVx).trans aw).trans Z)).get _ _ aW;have aK:rT A s1 j=kj ((j:Int)+1) s1 (iV A j):=rfl;(have aX:(a8++[(j,Value.slice ra rk rc)]).foldl (λX x=>rT A X x.1) X0=rT A s1 j:=by rw[X_,<-hI];rfl);(have b5:fO g (iV A j)=true-> ∀x∈a8++[(j,Value.slice ra rk rc)],fO g (iV A x.1)=true:=λM x hx=>by (rcases Zh.1 hx with Y|Y);{exact hIm x Y};rw[ZE.1 Y];exact M);have aV: ¬fO g (iV A j)=true-> ∃x∈a8++[(j,Value.slice ra rk rc)],x.1<n/\ ¬fO g (iV A x.1)=true:=λM=>⟨(j,Value.slice ra rk rc),sm,hjn,M⟩;generalize iV A j=B at*;refine QE 1 [2,4,5,10,12] J<|rq<|Qw ?_
  iterate 2 refine ef ?_
  refine Rr<|QY J (fp aJ J (λo=>au) J)<|Yy 1 J<|dq J (λo E w1 M=>Oa W3 g ok _ B _ M.leV hb (by simp only[maxLen];omega))<|QE 1 [4,5,10,12,54] J<|rq<|Qw<|kN J ?_ ?_<;>intro h
  .refine ef<|Rr ?_
   iterate 2 refine fw aJ J J J fZ ?_
   refine du [4,5] J<|rq<|Qw<|mq<|QL<|QP<|XS (()) (aV (cU h)) oo J vl
  refine lj<|Qw<|ef<|Rr<|Yy 1 J ?_;have ad:fO g B=true:=cU h;refine QY J (yN J hb)<|QE 1 [4,5,10,55,56,57] J<|rq<|Qw<|ki<|wk [4,5,10,55,56] [4] J J (σ:=Nat) (λk=>[(57,.a (.v (I k)))]) (λk=>[(4,.row 56 3 i ((kj ((j:Int)+1) s1 (B.take k)).flatMap Sight.cells))]) (λk=>W3) (λk=>k<=B.length) (λk=>B.length - k) (0) om ff oo J lr ?_;rintro k hk;(have bf:(kj ((j:Int)+1) s1 (B.take k)).length=i:=by rw[wW,hIl]);have aR:IntKind.i64.wrap ((k:Int)+1)=((k+1:Nat):Int):=cx om om;refine ef<|Rr<|QE 1 [4,5,10,55,56,57,58] J<|rq<|Qw<|ef<|kN J ?_ ?_<;>intro h
  .simp only[Xa,Xb,Xc,Xd,Xe,Xf,Xg,Xh,Xi,Xj,Xk,Xl,Xm,Xn,Xo,Xp]at h;have ⟨b2,h_b⟩:=fk (L:=B) (k:=k) om;have bo:=CI ad (ZZ h_b);have aY:=TR ((j:Int)+1) s1 h_b;have aU:=MX (kj ((j:Int)+1) s1 (B.take k)) b2 ((j:Int)+1) om;refine lj<|Qw<|ef<|ki<|ef<|Rr<|QY J (yI J hb)<|QY J (yL k 0 J hb h_b J)<|Yy 1 J<|Qs J<|du [4,5,10,14,55,56,57] J<|rq<|Qw<|XY J [12,15] (σ:=Unit) (λ_=>[(4,.a (.ptr 2 0)),(5,.a (.ptr 3 0)),(10,.a (.v (I j))),(55,.a (.v (.slice sa sk sc))),(56,.a (.v (I B.length))),(57,.a (.v (I k)))]) (λ_=>[(2,.lit [.row 4] 47),(3,.lit [.v (I 0)] 41),(4,.row 56 3 i (ei (b2.n.toNat*3+2) [I (IntKind.i64.wrap ((j:Int)+1))] (ei (b2.n.toNat*3+1) [Value.string b2.text] ((kj ((j:Int)+1) s1 (B.take k)).flatMap Sight.cells)))),(7,.keep 2 (t.ρ 2) (t.κ 2)),(6,.keep 3 (t.ρ 3) (t.κ 3)),(8,.size kz)]) (10) (λ_=>W3) (λ_=>True) mixed J oo J ?_ ?_
   .refine QD [0,1,2] J<|tZ 4 J kr J J J (λ_=>jr aJ J) J<|QD [6,7] J<|tZ 8 J kr J J J (λ_=>jr aJ J) J<|tZ 9 J kr J J J (λ_=>jr aJ J) J<|zu 10 J (cW (s:=.a (.rel 4 (b2.n.toNat*3))) 4 J J (λv T m=>dO aJ (b2.n.toNat*3) J sm (λo=>m) (λo=>om)))<|zu 11 J (cW (s:=.a (.rel 4 (b2.n.toNat*3+1))) 4 J J (λv T m=>gS aJ J (λo=>m) (λo=>om)))<|QS<|wj 3 5 12 kr ?_ ?_ ?_;{refine yH 3 J J J J J<|Qz 5 12 ?_ ?_;{refine yH 5 J J J J J<|Qo 12<|jo 12 J J J J J (fH aJ J J o1 (by simp only[ZP];omega) om) (.inl J) λ_ _=>zY 13 J (cW (s:=.a (.rel 4 (b2.n.toNat*3))) 4 J J (λv T m=>dO aJ (b2.n.toNat*3) J sm (λo=>m) (λo=>om)))<|zY 14 J (cW (s:=.a (.rel 4 (b2.n.toNat*3+2))) 4 J J (λv T m=>gS aJ J (λo=>m) (λo=>om)))<|Qo 15<|jo 15 J J J J J (fH aJ J J o1 (by simp only[ZP];omega) om) (.inl J) λ_ _=>Qe [4,5,10,55,56,57] J ?_;exact Qm () ZY};refine jo 12 J J J J J (fH aJ J J o1 (by simp only[ZP];omega) om) (.inl J) λ_ _=>Qx [5] J<|zY 13 J (cW (s:=.a (.rel 4 (b2.n.toNat*3))) 4 J J (λv T m=>dO aJ (b2.n.toNat*3) J sm (λo=>m) (λo=>om)))<|zY 14 J (cW (s:=.a (.rel 4 (b2.n.toNat*3+2))) 4 J J (λv T m=>gS aJ J (λo=>m) (λo=>om)))<|Qo 15<|jo 15 J J J J J (fH aJ J J o1 (by simp only[ZP];omega) om) (.inl J) λ_ _=>Qe [4,5,10,55,56,57] J ?_;exact Qm () ZY};{refine yH 5 J J J J J<|Qz 3 12 ?_ ?_;{refine yH 3 J J J J J<|Qo 12<|jo 12 J J J J J (fH aJ J J o1 (by simp only[ZP];omega) om) (.inl J) λ_ _=>zY 13 J (cW (s:=.a (.rel 4 (b2.n.toNat*3))) 4 J J (λv T m=>dO aJ (b2.n.toNat*3) J sm (λo=>m) (λo=>om)))<|zY 14 J (cW (s:=.a (.rel 4 (b2.n.toNat*3+2))) 4 J J (λv T m=>gS aJ J (λo=>m) (λo=>om)))<|Qo 15<|jo 15 J J J J J (fH aJ J J o1 (by simp only[ZP];omega) om) (.inl J) λ_ _=>Qe [4,5,10,55,56,57] J ?_;exact Qm () ZY};refine jo 12 J J J J J (fH aJ J J o1 (by simp only[ZP];omega) om) (.inl J) λ_ _=>Qx [3] J<|zY 13 J (cW (s:=.a (.rel 4 (b2.n.toNat*3))) 4 J J (λv T m=>dO aJ (b2.n.toNat*3) J sm (λo=>m) (λo=>om)))<|zY 14 J (cW (s:=.a (.rel 4 (b2.n.toNat*3+2))) 4 J J (λv T m=>gS aJ J (λo=>m) (λo=>om)))<|Qo 15<|jo 15 J J J J J (fH aJ J J o1 (by simp only[ZP];omega) om) (.inl J) λ_ _=>Qe [4,5,10,55,56,57] J ?_;exact Qm () ZY};refine jo 12 J J J J J (fH aJ J J o1 (by simp only[ZP];omega) om) (.inl J) λ_ _=>Qz 3 5 ?_ ?_;{refine yH 3 J J J J J<|Qx [5] J<|zY 13 J (cW (s:=.a (.rel 4 (b2.n.toNat*3))) 4 J J (λv T m=>dO aJ (b2.n.toNat*3) J sm (λo=>m) (λo=>om)))<|zY 14 J (cW (s:=.a (.rel 4 (b2.n.toNat*3+2))) 4 J J (λv T m=>gS aJ J (λo=>m) (λo=>om)))<|Qo 15<|jo 15 J J J J J (fH aJ J J o1 (by simp only[ZP];omega) om) (.inl J) λ_ _=>Qe [4,5,10,55,56,57] J ?_;exact Qm () ZY};refine yH 5 J J J J J<|Qx [3] J<|zY 13 J (cW (s:=.a (.rel 4 (b2.n.toNat*3))) 4 J J (λv T m=>dO aJ (b2.n.toNat*3) J sm (λo=>m) (λo=>om)))<|zY 14 J (cW (s:=.a (.rel 4 (b2.n.toNat*3+2))) 4 J J (λv T m=>gS aJ J (λo=>m) (λo=>om)))<|Qo 15<|jo 15 J J J J J (fH aJ J J o1 (by simp only[ZP];omega) om) (.inl J) λ_ _=>Qe [4,5,10,55,56,57] J ?_;exact Qm () ZY
   rintro⟨⟩ -;refine QM<|Qw<|Rr<|QE 2 [4,5,10,55,56,57] J<|rq<|Qw ?_;rw[aA,aU,<-aY];rw[aR];refine rW (k+1) om od ff oo J<|Vw.le.refl _
  simp only[Xa,Xb,Xc,Xd,Xe,Xf,Xg,Xh,Xi,Xj,Xk,Xl,Xm,Xn,Xo,Xp]at h;refine vN<|QK<|QK<|QQ<|QM ?_;have aS:k=B.length:=om;subst aS;rw[Zx,<-aK];refine Cw (rT A s1 j) (⟨aX.symm,by rw[aK,wW,hIl],b5 ad⟩) oo J vl
 .intro D3 V3 s1 xs hS ⟨hI,hIl,hIm⟩ Z hD hle4;have b1:s1=lq g A X0 n:=hI.trans (Us g A X0 hS);(have af:lV g d A=true:=by rw[ak,ar,Vz g A hS hIm];rfl);have hX:=(xi hz af).1;rw[aD,hn,al]at hX;subst b1;refine QM<|Qw<|ef<|nA 4 7 2 (t.ρ 2) 0 J J J<|nA 5 6 3 (t.ρ 3) 0 J J J<|Rr<|Yy 1 J ?_
  iterate 2 refine fw aJ J J J fZ ?_
  refine du [4,5] J<|rq<|Qw<|mq<|yk aJ J hD ?_;intro E w' M _;have N:(vw w).le (V3.del D3):=(u.trans z).trans hle4;refine⟨⟨_,by rw[(xi hz af).2];rfl,?_⟩,M.below N⟩;rw[hX,hIl];exact M.rowFresh N (l:=4) J
 intro D3 V3 y a8 _ ⟨x,hx,hxn,hxm⟩ Z hD hle4;(have a0:lV g d A=false:=by rw[ak,XO hxn hxm,YD]);refine nA 4 7 2 (t.ρ 2) 0 J J J<|nA 5 6 3 (t.ρ 3) 0 J J J<|mq<|QP<|QL<|yk aJ J hD ?_;intro E w' M _;have N:(vw w).le (V3.del D3):=(u.trans z).trans hle4;refine⟨⟨cz,by rw[(xF hz a0).2];rfl,?_⟩,M.below N⟩;rw[(xF hz a0).1];exact⟨J,.inl ⟨J,J⟩⟩
end Go.Proofs.YtlkkohkilelamaaGreat
set_option linter.unusedVariables false
set_option linter.unusedSimpArgs false
set_option maxRecDepth 100000
set_option maxHeartbeats 4000000
namespace Go.Proofs.YtlkkohkilelamaaGreat
open Go Go.Eng Go.RowKit
def ee:Geo:=⟨2,1,2,1,4,8,1,2⟩
theorem Af:cY ee=true:=dc
theorem xf(n:Int):(eB n).1.size<=256:=by unfold eB;split;{simp only[gx,pz,db,gQ];decide};simp
theorem wT(g:Geo):(eQ g).size<=256:=by unfold eQ;split;{(have d:(eu gW (iU g)).length=20:=by simp[eu,gW,iU,db,gQ]);rw[gx,pz,d];omega};simp
theorem yf:(eB 0).2=0:=(Ao 0).1.2 ⟨om,om⟩
def fQ(top hd:Z5):Z8 Z5:=[top,ByteArray.empty,ByteArray.empty,ByteArray.empty,ByteArray.empty,ByteArray.empty,ByteArray.empty,ByteArray.empty,ByteArray.empty,ByteArray.empty,ByteArray.empty,ByteArray.empty,ByteArray.empty,hd,ByteArray.empty,ByteArray.empty,ByteArray.empty,ByteArray.empty,ByteArray.empty,ByteArray.empty]
theorem PY(top hd:Z5):fG ee top hd 1=fQ top hd:=by rw[fG,fG,show dw ee=20 by decide,show dt ee ((0:Nat):Int)=13 by decide];rfl
theorem y8(l:Z8 Z5):iS l=true↔ ∀x∈l,x.size<=512:=by rw[iS,ZJ,H_];constructor;{intro h x d;have:=h x d;simp at this;omega};intro h x d;have:=h x d;simp;omega
theorem zi{top hd:Z5}(o:top.size<=256)(m:hd.size<=256):iS (fQ top hd)=true:=by rw[y8];intro x d;simp only[fQ,Zg,YH,w_]at d;have l:ByteArray.empty.size=0:=rfl;rcases d with rfl|rfl|rfl|rfl|rfl|rfl|rfl|rfl|rfl|rfl|rfl|rfl|rfl|rfl|rfl|rfl|rfl|rfl|rfl|rfl<;>omega
theorem VX(n:Nat):gV (List.replicate n ByteArray.empty) []=([],0):=by
 cases n with
 |zero=>rfl
 |succ n=>rw[Yr,gV];(have d:fB ByteArray.empty=0:=by simp[fB]);(have l:fg ByteArray.empty=false:=by simp[fg]);rw[d,l];simp
section
variable{top hd:Z5}(h1:top.size<=256)(h2:hd.size<=256)(sv cv kv:Z7)
include h1 h2
theorem Ix:gG ee (ek (fQ top hd) 2 sv cv kv)=true:=by rw[gG,Af,ze _ _ _ _ _ om om,zi h1 h2];rfl
theorem Gx:ib ee (ek (fQ top hd) 2 sv cv kv)=([],0):=by rw[ib,ZW (Ix h1 h2 sv cv kv)];exact VX 8
theorem Gl:fJ ee (ek (fQ top hd) 2 sv cv kv)=ji 1:=by rw[fJ,Gx h1 h2];rfl
theorem RF:RowsAll ee (ek (fQ top hd) 2 sv cv kv) (λ_=>[]):=by refine⟨λ_ _ _ _=>rfl,λi s l m=>?_⟩;rw[Gl h1 h2]at l;have d:=ZZ l;(have:s=⟨0,0⟩:=by have o:(ji 1).S=[⟨0,0⟩]:=rfl;rw[o]at d;exact ZE.1 d);subst this;exact absurd J m
theorem Cn(d:iL top=some ee)(p:gY hd=some 0):fA ee (ek (fQ top hd) 2 sv cv kv)=0:=by refine Ei (Ix h1 h2 sv cv kv) ?_;rw[lM,Gx h1 h2];(have m:j6 ((ek (fQ top hd) 2 sv cv kv).s.l.getD 0 ByteArray.empty)=0:=by show j6 top=0;rw[j6,d];rfl);(have t:i7 ((ek (fQ top hd) 2 sv cv kv).s.l.getD 0 ByteArray.empty)=ee:=by show i7 top=ee;rw[i7,d];rfl);(have o:mw ee (ek (fQ top hd) 2 sv cv kv).s.l ee.slots.toNat=true:=by show mw ee (fQ top hd) 1=true;rw[E4,show dt ee ((0:Nat):Int)=13 by decide];show(true&&decide (iw hd=0))=true;rw[iw,p];rfl);rw[m,t,o,Geo.eqB_refl];rfl
theorem LK(m:iL top=some ee)(d:gY hd=some 0):sr ee (ek (fQ top hd) 2 sv cv kv) (λ_=>[])=[⟨0,0,0,0,0,0⟩]:=by rw[sr,ZW (Cn h1 h2 sv cv kv m d)];show jt ee (ek (fQ top hd) 2 sv cv kv) (λ_=>[]) 1=_;rw[Ws,Gl h1 h2,show dt ee ((0:Nat):Int)=13 by decide];(have o:fW ((ek (fQ top hd) 2 sv cv kv).s.l.getD (13:Int).toNat ByteArray.empty)=0:=by show fW hd=0;rw[fW,d];rfl);rw[o];rfl
theorem xX(n:Nat)(p:n<2):kg ee (ek (fQ top hd) 2 sv cv kv) (n:Int)=(ByteArray.empty,0):=by have d:(n:Int)=0\/(n:Int)=1:=om;(have o:oS ee (ek (fQ top hd) 2 sv cv kv) (n:Int)=true:=by rw[oS,Af,ze _ _ _ _ _ om om,zi h1 h2];rcases d with h|h<;>rw[h]<;>rfl);(have m:i0 (ek (fQ top hd) 2 sv cv kv).s.l ee (n:Int) ee.per.toNat=[ByteArray.empty]:=by (rcases d with h|h);{rw[h];show [(fQ top hd).getD (fI ee 0 ((0:Nat):Int)).toNat ByteArray.empty]=_;rw[show fI ee 0 ((0:Nat):Int)=18 by decide];rfl};rw[h];show [(fQ top hd).getD (fI ee 1 ((0:Nat):Int)).toNat ByteArray.empty]=_;rw[show fI ee 1 ((0:Nat):Int)=19 by decide];rfl);rw[kg,ZW o,m,ZW sm];rfl
theorem OB:lV ee (ek (fQ top hd) 2 sv cv kv) (λ_=>[])=true:=by rw[lV];(have d:mB ee (ek (fQ top hd) 2 sv cv kv) ee.blocks.toNat=true:=by show mB ee (ek (fQ top hd) 2 sv cv kv) 2=true;rw[CC,CC,xX h1 h2 sv cv kv 0 om,xX h1 h2 sv cv kv 1 om];rfl);rw[d];rfl
theorem OM(l:iL top=some ee)(d:gY hd=some 0):lX ee (ek (fQ top hd) 2 sv cv kv) (λ_=>[])=[⟨ByteArray.empty,ByteArray.empty,0⟩,⟨ByteArray.empty,ByteArray.empty,0⟩]/\oD ee (ek (fQ top hd) 2 sv cv kv) (λ_=>[])=0:=by have ⟨e1,e2⟩:=xi (Cn h1 h2 sv cv kv l d) (OB h1 h2 sv cv kv);refine⟨?_,e2⟩;rw[e1];show lq ee (λ_=>[]) (kH ee (ek (fQ top hd) 2 sv cv kv) 2) 1=_;rw[DT,DT,xX h1 h2 sv cv kv 0 om,xX h1 h2 sv cv kv 1 om];rfl
end
theorem Jr(V:Vw)(g:Geo)(ok:g.Ok)(o:cY g=true)(p:(eB 0).2=0)(w:Z6)(hV:V.le (vw w)): Cl 31 #[g.val] w λe w'=>∃x V',e=.returned x/\cH w w'/\Vext w.heap.size V V' w'/\ ∃a n c,x=.tuple #[.slice a n c,I 0]/\SlOf V' da 1 (.slice a n c) (fG g (eQ g) (eB 0).1 g.slots.toNat):=by refine(Ut g ok (eB 0).1 (λw=>by have:=AB 0 w;rw[p]at this;exact this) w).mono ?_;rintro e w' ⟨⟨_,v,rfl,d⟩|⟨l,_⟩,m⟩;{rw[<-uk g (eQ g) (eB 0).1 g.slots.toNat]at d;have ⟨V',hx,hsl⟩:=jS hV m d;obtain⟨a,n,c,rfl⟩:=cD hsl;exact⟨_,V',J,m,hx,a,n,c,J,hsl,cw⟩};rw[o]at l;cases l
theorem Az{α:Type}{enc:α->Z8 Z7}{E:Env}{O:Go.Eng.Own}{nl:Nat}{V:Vw}{w:Z6}(d:Mem E O nl V w)(l:Nat){e sz m:Nat}{xs:Z8 Z7}{L:Z8 α}(p:lk O l=some (.row e sz m xs))(u:m=L.length)(t:xs=L.flatMap enc) (o:∀x,(enc x).length=sz):SlOf (vw w) enc sz (E.κ l) L:=by subst u t;exact d.rowOf l p o
def vI(T:Z8 Z5)(n:Nat)(v:Z7)(V':Vw):Prop:= ∃a1 m1 e1 a2 m2 e2 a3 m3 e3,v=.agg #[.slice a1 m1 e1,.slice a2 m2 e2,.slice a3 m3 e3,I 1,cz]/\DevIn V' (ek T n (.slice a1 m1 e1) (.slice a2 m2 e2) (.slice a3 m3 e3))
set_option maxHeartbeats 8000000 in
theorem Fu(V:Vw)(n:Nat)(ta:Z4 Addr)(tn tc:Nat)(T:Z8 Z5)(w:Z6)(hV:V.le (vw w))(a5:SlOf V da 1 (.slice ta tn tc) T)(h0:0<n)(h1:n<=16)(W:0<T.length)(ae:T.length<=100000)(hs:iS T=true): Cl 32 #[I n,.slice ta tn tc] w λe w'=>∃x V',e=.returned x/\cH w w'/\Vext w.heap.size V V' w'/\ ∃v,x=.tuple #[v,I 0]/\vI T n v V':=by
 have hT:=a5.mono hV;have t:eU n [(cz:Z7)]=(List.replicate n (⟨cz,[]⟩:Sl Cell)).flatMap Sl.enc:=uN (enc:=Sl.enc) (⟨cz,[]⟩:Sl Cell) n;have u:eU n [I 0]=(List.replicate n (0:Int)).flatMap cB:=uN (enc:=cB) (0:Int) n;refine T2 Tryz.func32 J<|Sa<|Sb 2 [0,1,4] J<|QA<|Sa<|Sn 6 [0,1,4,12] J J ?_ ?_<;>intro h;{exfalso;simp at h;omega};refine Se<|QA<|yq (σ:=Unit) (λ_=>[(4,.a (.ptr 0 0)),(6,.a (.ptr 5 0))]) (λ_=>[(0,.lit [.v cz,.v cz,.v cz,.v (I 0),.v cz] 29),(2,.row 9 1 (0+T.length) ([]++T.flatMap da)),(3,.row 123 1 n (eU n [cz])),(4,.row 3 1 n (eU n [I 0])),(5,.lit [.row 2,.row 3,.row 4,.v (I 1),.v cz] 29)]) (6) (λ_=>vw w) (λ_=>True) mixed ?_ ?_
 .refine QT [1,3,5] J<|IW [[],[],[0,1],[],[3,3],[],[5,5],[2,4,6],[],[8,7,2,0,1,2,3,4,5,6,7,8]] kr λB=>QS ?_
  repeat' first
   |exact trivial
   |refine YO ?_ ?_
   |(refine kB 0 ?_;refine gv 0 rfl rfl rfl rfl rfl rfl (cX aJ 1 rfl rfl rfl) (.inr λ_ _=>⟨oo,J,(by first|exact lr|assumption)⟩) (λ_ _=>?_))
   |(refine kB 2 ?_;refine gv 2 rfl rfl rfl rfl rfl rfl (cQ (e:=9) (sz:=1) (by_:=16) (m:=0) (k:=T.length) (olds:=[]) aJ (T.flatMap da) rfl (λE d o=>hT.sl.src o.get) (λ_ _ _=>pd T) om) (.inr λ_ _=>⟨oo,J,(by first|exact lr|assumption)⟩) (λ_ _=>?_))
   |(refine kB 4 ?_;refine gv 4 rfl rfl rfl rfl rfl rfl (wi (e:=123) (sz:=1) (by_:=24) (z:=[cz]) aJ n n rfl rfl rfl (ZS _) om (by simp only[maxLen];omega)) (.inr λ_ _=>⟨oo,J,(by first|exact lr|assumption)⟩) (λ_ _=>?_))
   |(refine kB 6 ?_;refine gv 6 rfl rfl rfl rfl rfl rfl (wi (e:=3) (sz:=1) (by_:=8) (z:=[I 0]) aJ n n rfl rfl rfl (ZS _) om (by simp only[maxLen];omega)) (.inr λ_ _=>⟨oo,J,(by first|exact lr|assumption)⟩) (λ_ _=>?_))
   |(refine kB 7 ?_;refine pB 7 rfl rfl rfl rfl (yV rfl) ?_)
   |(refine kB 8 ?_;refine B4 8 aJ rfl rfl rfl rfl rfl rfl ?_)
   |(refine kB 9 ?_;refine mC 9 aJ rfl rfl rfl rfl fZ (.inr ⟨oo,rfl,(by first|exact lr|assumption)⟩) ?_)
   |refine Lo B rfl ?_
   |refine Ht B [4,6] rfl rfl ?_
  all_goals refine zh [((6,none),5),((6,some 0),2),((6,some 1),3),((6,some 2),4)] J ?_
  all_goals exact DO () ZY ff oo J lr
 rintro⟨⟩ -;refine Qw<|QA<|Sa<|Yy 1 J ?_;rw[Zo T.length,ZB]
 have p:∀(d:Z6) (N O M:Z7),SlOf (vw d) da 1 N T->SlOf (vw d) Sl.enc 1 O (List.replicate n (⟨cz,[]⟩:Sl Cell))->SlOf (vw d) cB 1 M (List.replicate n (0:Int))->
   Cl 34 #[.agg #[N,O,M,I 1,cz]] d λe w'=>e=.returned (I 0)/\cH d w':=by
  intro d N O M Z Y a0
  have hh:=mK (vw d) (ek T n N O M) d lr ⟨Z,by simp only[maxLen,ek];omega,Y,by simp[maxLen,ek];omega,λc L=>by rw[ek,L_]at L;rw[L.2];exact⟨jY _ _ _ _ cw,sm⟩,a0,by simp[maxLen,ek];omega,jY _ _ _ _ cw,by simp[ek]⟩
  rw[ze _ _ _ _ _ h0 h1,hs,ZD W]at hh
  exact hh
 refine dq J (λhg E d o=>p d _ _ _ (Az o 2 J J J cw) (Az o 3 J sm t cw) (Az o 4 J sm u cw)) ?_;refine Sn 1 [4,6,24] J J ?_ ?_<;>intro h;{exact absurd h dc};refine Sf<|Yy 1 J<|Qs J<|Sd 1 [4,5] J<|Qb J λE w' o=>?_;have y:=o.below lr;have r2:=o.rowFresh lr (l:=2) J;have r3:=o.rowFresh lr (l:=3) J;have r4:=o.rowFresh lr (l:=4) J;have X:SlOf (V.grown w w') da 1 (E.κ 2) T:=SlOf.grown V r2 cw;have s3:SlOf (V.grown w w') Sl.enc 1 (E.κ 3) (List.replicate n (⟨cz,[]⟩:Sl Cell)):=SlOf.grown V (by rw[t]at r3;simpa using r3) cw;have R:SlOf (V.grown w w') cB 1 (E.κ 4) (List.replicate n (0:Int)):=SlOf.grown V (by rw[u]at r4;simpa using r4) cw;have ⟨b2,m2,e2,hk2⟩:=cD X.sl;have ⟨b3,m3,e3,hk3⟩:=cD s3.sl;have ⟨b4,m4,e4,hk4⟩:=cD R.sl;rw[hk2]at X;rw[hk3]at s3;rw[hk4]at R;refine⟨_,V.grown w w',J,y,Vext.grown hV y,.agg #[.slice b2 m2 e2,.slice b3 m3 e3,.slice b4 m4 e4,I 1,cz],by rw[<-hk2,<-hk3,<-hk4];rfl,b2,m2,e2,b3,m3,e3,b4,m4,e4,J,?_⟩;exact⟨X,by simp only[maxLen,ek];omega,s3,by simp[maxLen,ek];omega,λc L=>by rw[ek,L_]at L;rw[L.2];exact⟨jY _ _ _ _ cw,sm⟩,R,by simp[maxLen,ek];omega,jY _ _ _ _ cw,by simp[ek]⟩
theorem xW:ee.Ok:=by refine⟨?_,?_,?_,?_,?_,?_,?_,?_⟩<;>simp[ee,cK]
theorem w6(w:Z6):Rt 17 #[] w ee.val:=by refine wP J<|Qs J<|zA J<|Tz J λ_=>rfl
theorem L0(V:Vw)(w:Z6)(hV:V.le (vw w)):Cl 16 #[ee.val] w λe w'=>∃x V',e=.returned x/\cH w w'/\Vext w.heap.size V V' w'/\ ∃v,x=.tuple #[v,.bool true]/\vI (fQ (eQ ee) (eB 0).1) 2 v V':=by have hT:fG ee (eQ ee) (eB 0).1 ee.slots.toNat=fQ (eQ ee) (eB 0).1:=PY _ _;have m:=λ(z:Z6) (hle:V.le (vw z))=>Jr V ee xW Af yf z hle;rw[hT]at m;have hs:=zi (wT ee) (xf 0);have a8:(fQ (eQ ee) (eB 0).1).length=20:=rfl;generalize fQ (eQ ee) (eB 0).1=T at*;refine dU J<|eR (λx V'=>∃V2:Vw,V2.le V'/\V.le V2/\(∀k o,V2.get k=some o->V.get k=some o\/w.heap.size<=k)/\ ∃a n c,x=.tuple #[.slice a n c,I 0]/\SlOf V2 da 1 (.slice a n c) T) J (λhg E z d=>(m _ (hV.trans d.leV)).mono λe w' h=>jK (d.below lr).size hV d.leV h) ?_;rintro x W0 l X;obtain⟨Z,t,O,L,a,n,c,rfl,N⟩:=X J;clear X;refine cS J ?_ ?_<;>intro h;{exact absurd h dc};refine eR (λx V'=>∃V2:Vw,V2.le V'/\Z.le V2/\(∀k o,V2.get k=some o->Z.get k=some o\/w.heap.size<=k)/\ ∃v,x=.tuple #[v,I 0]/\vI T 2 v V2) J (λhg E z d=>(Fu Z 2 a n c T _ (t.trans d.leV) N om om om om hs).mono λe w' h=>jK (d.below l).size t d.leV h) ?_;rintro x2 W2 u p;obtain⟨Z2,M,B,y,v,rfl,b2,Y,e2,b3,m3,e3,b4,m4,e4,rfl,R⟩:=p J;clear p;refine zA J<|Qs J<|zA J<|Qs J<|zA J<|Qb J λE' w' d=>?_;exact⟨_,Z2,J,d.below (l.trans u),⟨O.trans B,λk o W=>⟨(M.trans d.leV).get k o W,(y k o W).elim (L k o) .inr⟩⟩,_,J,b2,Y,e2,b3,m3,e3,b4,m4,e4,J,R⟩
theorem KK(w:Z6):Rt 5 #[] w (.bool true):=by have N:=Ka Af;have M:=(Ao 0).2 yf;have h1:=wT ee;have h2:=xf 0;refine wP J<|zC J w6<|kt (λx V'=>∃v,x=.tuple #[v,.bool true]/\vI (fQ (eQ ee) (eB 0).1) 2 v V') J (L0 (vw w)) ?_;rintro x W0 a9 B;obtain⟨_,rfl,X,O,V,T,R,Z,Y,m4,e4,rfl,z⟩:=B J;clear B;(have y:∀s∈(ek (fQ (eQ ee) (eB 0).1) 2 (.slice X O V) (.slice T R Z) (.slice Y m4 e4)).s.l,s.size<=maxLen:=by intro s hs;have:=(y8 _).1 (zi h1 h2) s hs;simp only[maxLen];omega);have hA:=λ(_:fA ee (ek (fQ (eQ ee) (eB 0).1) 2 (.slice X O V) (.slice T R Z) (.slice Y m4 e4))=0)=>RF h1 h2 (.slice X O V) (.slice T R Z) (.slice Y m4 e4);have ev:=LK h1 h2 (.slice X O V) (.slice T R Z) (.slice Y m4 e4) N M;have es:=OM h1 h2 (.slice X O V) (.slice T R Z) (.slice Y m4 e4) N M;have e0:=Cn h1 h2 (.slice X O V) (.slice T R Z) (.slice Y m4 e4) N M;have c1:=λ(W:Vw) (h0:W0.le W) (d:Z6) (hle:W.le (vw d))=>wM (enc:=View.cells) (sz:=6) cw hle (FG W ee xW _ d hle (z.mono h0) y _ hA);have c2:=λ(W:Vw) (h0:W0.le W) (d:Z6) (hle:W.le (vw d))=>wM (enc:=Sight.cells) (sz:=3) cw hle (Gv W ee xW _ d hle (z.mono h0) y _ hA);have c3:=λ(W:Vw) (h0:W0.le W) (d:Z6) (hle:W.le (vw d))=>MM W ee xW _ d hle (z.mono h0) y;rw[ev,e0]at c1;rw[es.1,es.2]at c2;rw[e0]at c3;clear hA ev es e0 y z;simp only[ek]at c1 c2 c3;obtain⟨L,ab⟩:∃L:View,L=⟨0,0,0,0,0,0⟩:=⟨_,J⟩;obtain⟨s0,a8⟩:∃s0:Sight,s0=⟨ByteArray.empty,ByteArray.empty,0⟩:=⟨_,J⟩;rw[<-ab]at c1;rw[<-a8]at c2;refine zA J<|Qs J<|zA J<|Ra J<|QT [1] J<|QS<|zT 0 J J (FN 17) (λt E d o=>w6 _)<|Qo 2<|gA 2 (uf View.cells 6 [L] 0) J J J (FN 7) J J (λt E d o=>c1 W0 lr _ o.leV) ?_;rintro x W1 p B;obtain⟨va,vn,vc,rfl,hv⟩:=B J;clear B;refine Qx [3] J<|g5 4 J kr J J J J (yV J) J<|g5 5 J kr J J J J (yV J) J<|Qx [6,7] J<|zH J<|Ra J<|QT [1] J<|QS<|zT 0 J J (FN 17) (λt E d o=>w6 _)<|Qo 2<|gA 2 (uf Sight.cells 3 [s0,s0] 0) J J J (FN 8) J J (λt E d o=>c2 W1 p _ o.leV) ?_;rintro x W2 m B;obtain⟨sa,sn,sc,rfl,hs⟩:=B J;clear B;have u:=hv.mono m;have a7:([L]:Z8 View)[0]? =some L:=rfl;have ac:([s0,s0]:Z8 Sight)[0]? =some s0:=rfl;refine Qx [3] J<|g5 4 J kr J J J J (yV J) J<|g5 5 J kr J J J J (yV J) J<|Qx [6,7] J<|zH J<|ez mixed kr<|Dm 7 J<|Qd J (yN J u)<|Dm 4 J ?_;have ag:=cC a7;refine Qd J (gZ aJ J (λt=>u.sl) (λt=>⟨om,sm⟩))<|Qd J (yL 0 0 J u a7 J)<|Dm 1 J<|Qd J (hU (.bool (L.eqB ⟨0,0,0,0,0,0⟩)) J (λE w=>XV L ⟨0,0,0,0,0,0⟩ w (.inl J)))<|Dm 7 J<|Qd J (yN J hs)<|Dm 4 J ?_;have af:=cC ac;refine Qd J (gZ aJ J (λt=>hs.sl) (λt=>⟨om,sm⟩))<|Qd J (yL 0 0 J hs ac J)<|Dm 1 J<|Qd J (hU (.bool (s0.eqB ⟨ByteArray.empty,ByteArray.empty,0⟩)) J (λE w=>Jw s0 ⟨ByteArray.empty,ByteArray.empty,0⟩ w (.inl J)))<|Dm 3 J<|lR J (λt E d o=>Gn W2 _ [L] _ o.leV u sm)<|Dm 2 J<|zQ J w6<|Dm 1 J<|lR J (λt E d o=>c3 W2 (p.trans m) _ o.leV)<|Dm 3 J<|zD J<|Qb J λE w' o=>⟨?_,o.below ((a9.trans (p.trans m)))⟩;rw[ab,a8,View.eqB_refl,Sight.eqB_refl];rfl
theorem Bc{l:Z8 Hold}{k:Nat}{x:Hold}(d:Hold->Bool)(h:l[k]? =some x):(l.take (k+1)).filter d=(l.take k).filter d++(if d x=true then [x]else []):=by
 rw[kM h,Yw]
 grind
theorem J4(l:Z8 Hold)(k:Nat)(d:Hold->Bool):((l.take k).filter d).length<=k:=by grind
def zZ(gs:Z8 Span)(lo hi:Int):Bool:=gs.any λs=>lo==s.lo&&hi==s.hi
def Hold.eqB(a b:Hold):Bool:=a.key==b.key&&((a.lo==b.lo&&a.hi==b.hi)&&a.mode==b.mode)
theorem Hold.eqB_iff(a b:Hold):a.eqB b=true↔a=b:=by have ⟨a1,a2,a3,a4⟩:=a;have ⟨b1,b2,b3,b4⟩:=b;simp[Hold.eqB,and_assoc]
theorem J8{m:BinOp}{ox oy:Operand}(a b:Hold)(w:Z6)(o:m=.eql\/m=.neq): (do eqGuard m 189 ox oy a.val b.val;binOp m 189 a.val b.val:Sem Z7).run bJ w=.ok (.bool (if m=.eql then a.eqB b else !(a.eqB b))) w:=by
 have O:bJ.underlying 189=some (.struct (bJ.fieldsOf 189)):=kr;have M:bJ.stoodInHeld 189=false:=kr;have E:bJ.eqGuardType bJ.depth 189=false:=kr;have u:bJ.underlying 101=some (.struct (bJ.fieldsOf 101)):=kr;have p:bJ.stoodInHeld 101=false:=kr
 have l:∀a b c d:Int,(Op.equalIn 9999 101 (.agg #[I a,I b]) (.agg #[I c,I d])).run bJ w=.ok (a==c&&b==d) w:=by
  intro a b c d;have z:=Tryz.underlying3;have a3:=Tryz.isAgg3;have N:=Tryz.sizeOf3;rw[show(9999:Nat)=9998+1 from J,run_equalIn_agg w 9998 101 _ _ u p];simp only[Program.fieldsOf,Tryz.underlying101]
  go_simp
  by_cases L:a=c<;>by_cases B:b=d<;>simp[L,B]
 have key:(Op.equalIn 10000 189 a.val b.val).run bJ w=.ok (a.eqB b) w:=by
  have z:=Tryz.underlying3;have a3:=Tryz.isAgg3;have N:=Tryz.sizeOf3;have R:=Tryz.underlying99;rw[show(10000:Nat)=9999+1 from J,run_equalIn_agg w 9999 189 _ _ O M];simp only[Program.fieldsOf,Tryz.underlying189];have e:=λ(k:IntKind) (x y:Int) (t:Nat) (hu:bJ.underlying t=some (.int k))=>run_equalIn_int (P:=bJ) w 9998 t k k x y hu
  refine(nI sm (by go_simp;rfl) (by go_simp;rfl) (e .i64 _ _ _ z)<|nI (a:=.agg #[I a.lo,I a.hi]) (b:=.agg #[I b.lo,I b.hi]) sm (by go_simp) (by go_simp) (l _ _ _ _)<|
   nI sm (by go_simp;rfl) (by go_simp;rfl) (e .i8 _ _ _ R) J7).trans ?_
  rw[YE];rfl
 rw[ZR,run_eqGuard_agg w _ _ _ _ _ _ E];(rcases o with rfl|rfl);{simp only[ZU,run_eql_struct,key];rfl};simp only[ZU,run_neq_struct,key];rfl
def yZ(h:Hold)(l:Z8 Hold):Bool:=l.any λx=>h.eqB x
def mD(key:Int)(all:Bool)(gs:Z8 Span)(h:Hold):Bool:=((h.key==key)&& !all)&& !zZ gs h.lo h.hi
def nk(key:Int)(all:Bool)(gs:Z8 Span)(H:Z8 Hold):Z8 Hold:=H.filter (mD key all gs)
def sE(key:Int)(Q:Z8 Hold):Z8 Hold:=Q.filter λh=>h.key==key
end Go.Proofs.YtlkkohkilelamaaGreat
set_option linter.unusedVariables false
set_option linter.unusedSimpArgs false
set_option maxRecDepth 100000
set_option maxHeartbeats 4000000
namespace Go.Proofs.YtlkkohkilelamaaGreat
open Go Go.Eng Go.RowKit
theorem sb(l:Z8 Span):∀u∈l.flatMap Span.cells,u.oneCell'=true:=by intro u d;have ⟨x,_,hx⟩:=YW.1 d;simp at hx;rcases hx with rfl|rfl<;>rfl
theorem JJ(L:Z8 Span)(x:Span):L.length+1=(L++[x]).length/\L.flatMap Span.cells++x.cells=(L++[x]).flatMap Span.cells:=sm
theorem PG(gs:Z8 Span)(lo hi:Int):(gs.any λs=>s.lo==lo&&s.hi==hi)=zZ gs lo hi:=by (have h:(λs:Span=>s.lo==lo&&s.hi==hi)=λs=>lo==s.lo&&hi==s.hi:=by funext s;rw[show(s.lo==lo)=(lo==s.lo) by rw[Ze];simp;exact eq_comm,show(s.hi==hi)=(hi==s.hi) by rw[Ze];simp;exact eq_comm]);rw[zZ,h]
theorem AK{α:Type}{l:Z8 α}{k:Nat}{x:α}(d:α->Bool)(h:l[k]? =some x):(l.take (k+1)).any d=((l.take k).any d||d x):=by rw[kM h,List.any_append];simp
theorem G7(key:Int)(gs:Z8 Span)(l:Z8 Hold):l.filter (mD key true gs)=[]:=by rw[List.filter_eq_nil_iff];intro x _;simp[mD]
theorem A7(V:Vw)(T R:Z7)(t:Tb)(key:Int)(all:Bool)(gs:Z8 Span)(w:Z6)(X:t.Fit)(hV:V.le (vw w))(h:dK V T t)(p:SlOf V Span.cells 2 R gs)(Z:gs.length<=eg): Cl 233 #[T,I key,.bool all,R] w (yQ (nk key all gs t.H) w):=by obtain⟨a,n,c,a2,n2,c2,a3,n3,c3,rfl,h1,W,h3⟩:=h;obtain⟨a4,n4,c4,rfl⟩:=cD p.sl;have hh:=X.h;unfold eg at Z;have u:=W.mono hV;have y:=p.mono hV;refine dC [.a (.v (.agg #[.slice a n c,.slice a2 n2 c2,.slice a3 n3 c3])),.a (.v (I key)),.a (.v (.bool all)),.a (.v (.slice a4 n4 c4))] J<|iD 9 189 4 J J<|zL [1,2,3,4] [1] J J (σ:=Nat) (λi=>[(9,.a (.row 1)),(10,.a (.v (I i)))]) (λi=>[(1,.row 189 4 ((t.H.take i).filter (mD key all gs)).length (((t.H.take i).filter (mD key all gs)).flatMap Hold.cells))]) (λi=>i<=t.H.length) (λi=>t.H.length - i) (0) om ?_;rintro i hi;refine zB J<|QY J (yN J u)<|cJ J ?_ ?_<;>intro h;{have ⟨hlt,hall⟩:=h;have m:IntKind.i64.wrap ((i:Int)+1)=((i+1:Nat):Int):=cx om om;have Y:=J4 t.H i (mD key all gs);have ⟨x,h_x⟩:=u.at (k:=i) om;have N:=cC h_x;refine QY J (yI J u)<|QY J (yL i 0 J u h_x J)<|zA J<|Qs J<|zA J ?_;have d:=Bc (mD key all gs) h_x;refine zL [1,2,3,4,9,10,11] [] J J (σ:=Nat) (λk=>[(12,.a (.v (.bool ((gs.take k).any λs=>s.lo==x.lo&&s.hi==x.hi)))),(13,.a (.v (I k)))]) (λk=>[]) (λk=>k<=gs.length) (λk=>gs.length - k) (0) om ?_;rintro k hk;refine zB J<|QY J (yN J y)<|cJ J ?_ ?_<;>intro h;{refine ez mixed kr<|Dm 4 J ?_;have M:IntKind.i64.wrap ((k:Int)+1)=((k+1:Nat):Int):=cx om om;have ⟨s,h_s⟩:=y.at (k:=k) om;have O:=cC h_s;refine Qd J (yI J y)<|Qd J (yL k 0 J y h_s J)<|Dm 2 J ?_;have L:=AK (λs:Span=>s.lo==x.lo&&s.hi==x.hi) h_s;refine Qd J (hU (.bool (s.lo==x.lo&&s.hi==x.hi)) J (λE w=>s9 s.lo s.hi x.lo x.hi w (.inl J)))<|Dm 2 J<|zD J ?_;rw[<-L,M];refine Qr (k+1) om};have B:k=gs.length:=om;subst B;rw[Zx,PG];clear h;refine dv J ?_ ?_<;>intro h;{rw[ZW (by rw[mD,hall,Bool.not_false,YE];exact h)]at d;refine QZ J (cX aJ 4 J J J) λ_ _=>QZ J (cQ aJ x.cells J (λE w z=>dZ (z.row _ _ _ _ _ J)) (λ_ _ _=>by simpa using em [x]) od) λ_ _=>zA J ?_;rw[(kf _ x).1,(kf _ x).2,<-d,m];refine dx 1 4 J<|Qr (i+1) om};rw[ZX (by rw[mD,hall,Bool.not_false,YE,h];simp),Zb]at d;rw[<-d,m];refine Qr (i+1) om};refine cL aJ J ?_;(have o:nk key all gs t.H=(t.H.take i).filter (mD key all gs):=by (rcases h with h|h);{rw[nk,ZG om]};rw[nk,h,G7,G7]);rw[o];intro E' w' z _;exact⟨_,J,z.rowFresh lr (l:=1) J,z.below lr⟩
theorem Ls(V:Vw)(z:Z7)(t:Tb)(key:Int)(w:Z6)(B:t.Fit)(hV:V.le (vw w))(h:dK V z t): Cl 275 #[z,I key] w (yQ (sE key t.Q) w):=by obtain⟨a,n,c,a2,n2,c2,a3,n3,c3,rfl,W,O,M⟩:=h;have T:=B.q;have m:=M.mono hV;refine dC [.a (.v (.agg #[.slice a n c,.slice a2 n2 c2,.slice a3 n3 c3])),.a (.v (I key))] J<|iD 5 189 4 J J<|zL [1,2] [1] J J (σ:=Nat) (λi=>[(5,.a (.row 1)),(6,.a (.v (I i)))]) (λi=>[(1,.row 189 4 ((t.Q.take i).filter λh=>h.key==key).length (((t.Q.take i).filter λh=>h.key==key).flatMap Hold.cells))]) (λi=>i<=t.Q.length) (λi=>t.Q.length - i) (0) om ?_;rintro i hi;refine zB J<|QY J (yN J m)<|cJ J ?_ ?_<;>intro h;{have p:IntKind.i64.wrap ((i:Int)+1)=((i+1:Nat):Int):=cx om om;have L:=J4 t.Q i (λh=>h.key==key);have ⟨x,h_x⟩:=m.at (k:=i) om;have o:=cC h_x;refine QY J (yI J m)<|QY J (yF J m)<|QY J (yL i 0 J m h_x J)<|cS J ?_ ?_<;>intro h;{have d:=Bc (λh=>h.key==key) h_x;rw[ZW h]at d;have o:=cC h_x;refine QY J (yI J m)<|QY J (yL i 0 J m h_x J)<|QZ J (cX aJ 4 J J J) λ_ _=>QZ J (cQ aJ x.cells J (λE w u=>dZ (u.row _ _ _ _ _ J)) (λ_ _ _=>by simpa using em [x]) od) λ_ _=>zA J ?_;rw[(kf _ x).1,(kf _ x).2,<-d,p];refine dx 1 3 J<|Qr (i+1) om};have d:=Bc (λh=>h.key==key) h_x;rw[ZX (by rw[h];simp),Zb]at d;rw[<-d,p];refine Qr (i+1) om};refine cL aJ J ?_;have y:i=t.Q.length:=om;subst y;rw[Zx];intro R N u _;exact⟨_,J,u.rowFresh lr (l:=1) J,u.below lr⟩
theorem Hold.eqB_comm(a b:Hold):a.eqB b=b.eqB a:=by rw[Ze,Hold.eqB_iff,Hold.eqB_iff];exact eq_comm
theorem Iu(h:Hold)(l:Z8 Hold):(l.any λx=>x.eqB h)=yZ h l:=by rw[yZ];congr 1;funext x;exact Hold.eqB_comm x h
theorem OF(V:Vw)(B:Z7)(t:Tb)(key lo hi mode:Int)(w:Z6)(z:t.Fit)(hV:V.le (vw w))(h:dK V B t): Rt 226 #[B,I key,.agg #[I lo,I hi],I8 mode] w (.tuple #[.bool (yZ ⟨key,lo,hi,mode⟩ t.H),.bool (yZ ⟨key,lo,hi,mode⟩ t.Q)]):=by obtain⟨a,n,c,a2,n2,c2,a3,n3,c3,rfl,O,L,M⟩:=h;have R:=z.h;have N:=z.q;have u:=L.mono hV;have p:=M.mono hV;refine dC [.a (.v (.agg #[.slice a n c,.slice a2 n2 c2,.slice a3 n3 c3])),.a (.v (I key)),.a (.v (.agg #[I lo,I hi])),.a (.v (I8 mode))] J<|Qs J<|zA J<|zL [4,10,12] [] J J (σ:=Nat) (λi=>[(11,.a (.v (.bool ((t.H.take i).any λx=>x.eqB ⟨key,lo,hi,mode⟩)))),(13,.a (.v (I i)))]) (λi=>[]) (λi=>i<=t.H.length) (λi=>t.H.length - i) (0) om ?_;rintro i y;refine zB J<|QY J (yN J u)<|cJ J ?_ ?_<;>intro h;{refine ez mixed kr<|Dm 5 J ?_;have d:IntKind.i64.wrap ((i:Int)+1)=((i+1:Nat):Int):=cx om om;have ⟨x,h_x⟩:=u.at (k:=i) om;have o:=cC h_x;refine Qd J (yI J u)<|Qd J (yL i 0 J u h_x J)<|Dm 1 J ?_;have m:=AK (λx:Hold=>x.eqB ⟨key,lo,hi,mode⟩) h_x;refine Qd J (hU (.bool (x.eqB ⟨key,lo,hi,mode⟩)) J (λE w=>J8 x ⟨key,lo,hi,mode⟩ w (.inl J)))<|Dm 2 J<|zD J ?_;rw[<-m,d];refine Qr (i+1) om};have l:i=t.H.length:=om;subst l;rw[Zx,Iu];clear h;refine zL [4,10,11] [] J J (σ:=Nat) (λi=>[(12,.a (.v (.bool ((t.Q.take i).any λx=>x.eqB ⟨key,lo,hi,mode⟩)))),(14,.a (.v (I i)))]) (λi=>[]) (λi=>i<=t.Q.length) (λi=>t.Q.length - i) (0) om ?_;rintro i y;refine zB J<|QY J (yN J p)<|cJ J ?_ ?_<;>intro h;{refine ez mixed kr<|Dm 5 J ?_;have d:IntKind.i64.wrap ((i:Int)+1)=((i+1:Nat):Int):=cx om om;have ⟨x,h_x⟩:=p.at (k:=i) om;have o:=cC h_x;refine Qd J (yI J p)<|Qd J (yL i 0 J p h_x J)<|Dm 1 J ?_;have m:=AK (λx:Hold=>x.eqB ⟨key,lo,hi,mode⟩) h_x;refine Qd J (hU (.bool (x.eqB ⟨key,lo,hi,mode⟩)) J (λE w=>J8 x ⟨key,lo,hi,mode⟩ w (.inl J)))<|Dm 2 J<|zD J ?_;rw[<-m,d];refine Qr (i+1) om};have l:i=t.Q.length:=om;subst l;rw[Zx,Iu];clear h;refine Tz J λ_=>rfl
abbrev zr(key serial:Int)(c:Cmd):Cmd:=⟨c.kind,key,serial,c.dead,c.was,c.lo,c.hi,c.mode⟩
def iR(key serial:Int)(t:Tb)(c:Cmd):Z5×Int:=
 if(decide (0<=gr t.S key)&&(lz (zr key serial c)==0))=true then(l5 (zr key serial c),0)else(ByteArray.empty,2)
def nF(key:Int)(t:Tb):Z8 Hold:=(t.H++t.Q).filter λh=>h.key==key
def vu(g:Geo)(t:Tb)(key serial lo hi mode:Int):Z5×Int:=
 if(iR key serial t ⟨2,0,0,0,0,lo,hi,mode⟩).2≠0\/mL g.blocks ⟨key,lo,hi,mode⟩=false then(ByteArray.empty,2)
 else if kX (nF key t) key lo hi=true then(ByteArray.empty,251)else if 64<=(nF key t).length then(ByteArray.empty,252)else((iR key serial t ⟨2,0,0,0,0,lo,hi,mode⟩).1,0)
def wo(lo hi:Int)(h:Hold):Bool:=h.lo==lo&&h.hi==hi
def vR(g:Geo)(t:Tb)(key serial lo hi:Int):Z5×Int:=
 if(iR key serial t ⟨3,0,0,0,0,lo,hi,0⟩).2≠0\/kT g.blocks lo hi=false then(ByteArray.empty,2)
 else if(nF key t).any (wo lo hi)=false then(ByteArray.empty,250)else((iR key serial t ⟨3,0,0,0,0,lo,hi,0⟩).1,0)
theorem Kg(V:Vw)(m:Z7)(t:Tb)(c:Cmd)(w:Z6)(u:t.Fit)(hV:V.le (vw w))(h:dK V m t): Rt 274 #[m,c.val] w (.tuple #[S (iR c.by_ c.serial t c).1,I (iR c.by_ c.serial t c).2]):=by obtain⟨a,n,p,a2,n2,c2,a3,n3,c3,rfl,y,l,M⟩:=id h;have N:=u.s;have o:eg=4398046511104:=rfl;refine dC [.a (.v (.agg #[.slice a n p,.slice a2 n2 c2,.slice a3 n3 c3])),.a (.v c.val)] J<|dq J (λL E B z=>kb V a n p _ _ t.S c.by_ _ (hV.trans z.leV) y om)<|zA J<|zC J (mn c)<|cS J ?_ ?_<;>intro h;{refine Tz J λE=>?_;rw[iR,ZX];{rfl};intro d;rw[show zr c.by_ c.serial c=c from J]at d;simp only[Z1]at d;have l:lz c=0:=cU d.2;rw[d.1,l]at h;simp at h};refine Tz J λE=>?_;rw[iR,ZW];{rfl};rw[show zr c.by_ c.serial c=c from J];simp only[Zf,Z_,bne_eq_false_iff_eq]at h;simp[h.1,h.2]
theorem K9(key:Int)(t:Tb):nk key false [] t.H++sE key t.Q=nF key t:=by rw[nF,Yw,nk,sE];congr 2;funext h;simp[mD,zZ]
theorem NL(V:Vw)(g:Geo)(tv:Z7)(t:Tb)(key serial lo hi mode:Int)(w:Z6)(B:t.Fit)(hV:V.le (vw w))(h:dK V tv t): Rt 237 #[g.val,tv,I key,I serial,.agg #[I lo,I hi],I8 mode] w (.tuple #[S (vu g t key serial lo hi mode).1,I (vu g t key serial lo hi mode).2]):=by
 obtain⟨a,n,c0,a2,n2,c2,a3,n3,c3,rfl,h1,h2,h3⟩:=id h;have hh:=B.h;have hq:=B.q;have a5:eg=4398046511104:=rfl
 have N:vu g t key serial lo hi mode=if(iR key serial t ⟨2,0,0,0,0,lo,hi,mode⟩).2≠0\/mL g.blocks ⟨key,lo,hi,mode⟩=false then(ByteArray.empty,2)
  else if kX (nF key t) key lo hi=true then(ByteArray.empty,251)else if 64<=(nF key t).length then(ByteArray.empty,252)else((iR key serial t ⟨2,0,0,0,0,lo,hi,mode⟩).1,0):=rfl
 have p:=λm u=>Kg V _ t ⟨2,key,serial,0,0,lo,hi,mode⟩ m B u h;rw[show iR (Cmd.mk 2 key serial 0 0 lo hi mode).by_ (Cmd.mk 2 key serial 0 0 lo hi mode).serial t ⟨2,key,serial,0,0,lo,hi,mode⟩=iR key serial t ⟨2,0,0,0,0,lo,hi,mode⟩from J]at p;have z:=λm u=>A7 V _ cz t key false [] m B u h (jY V Span.cells 2 0 cw) sm;have y:=λm u=>Ls V _ t key m B u h;have d:=K9 key t;have T:(nk key false [] t.H).length<=t.H.length:=Zd _ _;have O:(sE key t.Q).length<=t.Q.length:=Zd _ _;generalize iR key serial t ⟨2,0,0,0,0,lo,hi,mode⟩=sv at N p;generalize nk key false [] t.H=X at z d T;generalize sE key t.Q=Y at y d O;generalize nF key t=L at N d;(have M:L.length=X.length+Y.length:=by rw[<-d,ZQ]);(have R:L.flatMap Hold.cells=X.flatMap Hold.cells++Y.flatMap Hold.cells:=by rw[<-d,ZF]);rw[N];refine dC [.a (.v g.val),.a (.v (.agg #[.slice a n c0,.slice a2 n2 c2,.slice a3 n3 c3])),.a (.v (I key)),.a (.v (I serial)),.a (.v (.agg #[I lo,I hi])),.a (.v (I8 mode))] J<|Qc (.tup [.v (S sv.1),.v (I sv.2)]) J (FN 274) (λZ E m l=>p _ (hV.trans l.leV))<|zA J<|zC J (GT g ⟨key,lo,hi,mode⟩)<|cS J ?_ ?_<;>intro h;{refine cL aJ J ?_;have o:sv.2≠0\/mL g.blocks ⟨key,lo,hi,mode⟩=false:=cU h;intro E W l _;refine⟨?_,l.below lr⟩;rw[ZW o];rfl};(have o: ¬(sv.2≠0\/mL g.blocks ⟨key,lo,hi,mode⟩=false):=by intro o;rcases o with o|o<;>simp[o]at h);rw[ZX o];clear h;refine Ra J<|QT [0,1,3,4] J<|QS<|zG 2 J (iP 189 4 X.length (X.flatMap Hold.cells) J (FN 233) (λE m l=>z m (hV.trans l.leV))) λ_ _=>zG 5 J (iP 189 4 Y.length (Y.flatMap Hold.cells) J (FN 275) (λE m l=>y m (hV.trans l.leV))) λ_ _=>zG 6 J (cQ aJ (Y.flatMap Hold.cells) J (λE w l=>dZ (l.row _ _ _ _ _ J)) (λ_ _ _=>em Y) od) λ_ _=>Qx [7] J<|zH J ?_;rw[<-M,<-R];refine dq J (λZ E m l=>Jm (vw m) (E.κ 5) L key lo hi _ lr (l.rowOf 5 J cw) om)<|du [14,16,48] J<|Qw<|Qn J ?_ ?_<;>intro h;{refine zB J<|Tz J λE=>?_;rw[ZW h];rfl};rw[ZX (by rw[h];simp)];clear h;refine Se<|QA<|Sa<|Yy 1 J<|QY J (cW (s:=.a (.v (I L.length))) 5 J J (λv V' hv=>ic aJ J (λZ=>hv)))<|Sn 1 [14,51] J J ?_ ?_<;>intro h;{refine zU J<|cL aJ J ?_;(have o:64<=L.length:=by simp at h;omega);intro E W l _;refine⟨?_,l.below lr⟩;rw[ZW o];rfl};refine Sf<|Sd 3 [12,13] J<|cL aJ J ?_;(have o: ¬64<=L.length:=by simp at h;omega);intro E W l _;refine⟨?_,l.below lr⟩;rw[ZX o];rfl
theorem Sj(V:Vw)(g:Geo)(tv:Z7)(t:Tb)(key serial lo hi:Int)(w:Z6)(R:t.Fit)(hV:V.le (vw w))(h:dK V tv t): Rt 238 #[g.val,tv,I key,I serial,.agg #[I lo,I hi]] w (.tuple #[S (vR g t key serial lo hi).1,I (vR g t key serial lo hi).2]):=by
 obtain⟨a,n,c0,a2,n2,c2,a3,n3,c3,rfl,h1,h2,h3⟩:=id h;have hh:=R.h;have hq:=R.q;have ad:eg=4398046511104:=rfl
 have hA:vR g t key serial lo hi=if(iR key serial t ⟨3,0,0,0,0,lo,hi,0⟩).2≠0\/kT g.blocks lo hi=false then(ByteArray.empty,2)
  else if(nF key t).any (wo lo hi)=false then(ByteArray.empty,250)else((iR key serial t ⟨3,0,0,0,0,lo,hi,0⟩).1,0):=rfl
 have o:=λu p=>Kg V _ t ⟨3,key,serial,0,0,lo,hi,0⟩ u R p h;rw[show iR (Cmd.mk 3 key serial 0 0 lo hi 0).by_ (Cmd.mk 3 key serial 0 0 lo hi 0).serial t ⟨3,key,serial,0,0,lo,hi,0⟩=iR key serial t ⟨3,0,0,0,0,lo,hi,0⟩from J]at o;have B:=λu p=>A7 V _ cz t key false [] u R p h (jY V Span.cells 2 0 cw) sm;have y:=λu p=>Ls V _ t key u R p h;have d:=K9 key t;have aa:(nk key false [] t.H).length<=t.H.length:=Zd _ _;have a6:(sE key t.Q).length<=t.Q.length:=Zd _ _;generalize iR key serial t ⟨3,0,0,0,0,lo,hi,0⟩=sv at hA o;generalize nk key false [] t.H=X at B d aa;generalize sE key t.Q=Y at y d a6;generalize nF key t=L at hA d;(have a0:L.length=X.length+Y.length:=by rw[<-d,ZQ]);(have a8:L.flatMap Hold.cells=X.flatMap Hold.cells++Y.flatMap Hold.cells:=by rw[<-d,ZF]);rw[hA];refine dC [.a (.v g.val),.a (.v (.agg #[.slice a n c0,.slice a2 n2 c2,.slice a3 n3 c3])),.a (.v (I key)),.a (.v (I serial)),.a (.v (.agg #[I lo,I hi]))] J<|Qc (.tup [.v (S sv.1),.v (I sv.2)]) J (FN 274) (λN E u m=>o _ (hV.trans m.leV))<|zA J<|zC J (D7 g lo hi)<|cS J ?_ ?_<;>intro h;{refine cL aJ J ?_;have M:sv.2≠0\/kT g.blocks lo hi=false:=cU h;intro E w' m _;refine⟨?_,m.below lr⟩;rw[ZW M];rfl};(have M: ¬(sv.2≠0\/kT g.blocks lo hi=false):=by intro M;rcases M with M|M<;>simp[M]at h);rw[ZX M];clear h;refine Ra J<|QT [0,1,3,4] J<|QS<|zG 2 J (iP 189 4 X.length (X.flatMap Hold.cells) J (FN 233) (λE u m=>B u (hV.trans m.leV))) λ_ _=>zG 5 J (iP 189 4 Y.length (Y.flatMap Hold.cells) J (FN 275) (λE u m=>y u (hV.trans m.leV))) λ_ _=>zG 6 J (cQ aJ (Y.flatMap Hold.cells) J (λE w m=>dZ (m.row _ _ _ _ _ J)) (λ_ _ _=>em Y) od) λ_ _=>Qx [7] J<|zH J ?_;rw[<-a0,<-a8];refine zL [9,12,14] [] J J (σ:=Nat) (λi=>[(15,.a (.v (I i)))]) (λi=>[]) (λi=>i<=L.length/\ ∀(j:Nat) (x:Hold),j<i->L[j]? =some x->wo lo hi x=false) (λi=>L.length - i) (0) (⟨om,sm⟩) ?_;rintro i ⟨ae,z⟩;refine QA<|Sa<|Yy 2 J<|QY J (cW (s:=.a (.v (I L.length))) 5 J J (λv V' O=>ic aJ J (λN=>O)))<|Sx 1 [9,12,14,15,43] J J ?_ ?_<;>intro h;{refine Se<|QA<|QJ<|QA<|ez mixed kr<|Dm 2 J ?_;have ⟨x,T⟩:=fk (L:=L) (k:=i) om;refine Qd J (cW (s:=.a (.rel 5 (i*4))) 5 J J (λv V' O=>dO aJ (i*4) J sm (λN=>O) (λN=>om)))<|Qd J (cW (s:=.a (.rel 5 (i*4+1))) 5 J J (λv V' O=>gS aJ J (λN=>O) (λN=>om)))<|Qd J (cW (s:=.agg [.v (I x.lo),.v (I x.hi)]) 5 J J (λv V' O=>dy (enc:=Hold.cells) (l:=L) aJ i 1 x J (λN=>⟨O,cw⟩) (λN=>T) J J))<|Dm 1 J<|Qd J (hU (.bool (x.lo==lo&&x.hi==hi)) J (λE w=>s9 x.lo x.hi lo hi w (.inl J)))<|uP [9,12,14,15,52] J<|Qw<|Qn J ?_ ?_<;>intro h;{refine Sa<|Sd 3 [10,11] J<|QP<|QL<|QL<|QP<|QL<|cL aJ J ?_;have W:L.any (wo lo hi)=true:=YJ.2 ⟨x,ZZ T,h⟩;intro E w' m _;refine⟨?_,m.below lr⟩;rw[ZX (by rw[W];simp)];rfl};refine QI<|QM<|Qw<|QC<|Sb 3 [9,12,14,15] J ?_;rw[cx om om];refine Qr (i+1)<|⟨om,nH T z h⟩};refine zU J<|cL aJ J ?_;have a9:i=L.length:=om;(have Z:L.any (wo lo hi)=false:=by rw[H_];intro x T;have ⟨j,hj⟩:=Zs.1 T;rw[z j x (by rw[a9];exact cC hj) hj];simp);intro E w' m _;refine⟨?_,m.below lr⟩;rw[ZW Z];rfl
theorem NC(f:Fetching)(g:Geo)(a:Z4 Addr)(n c:Nat)(d:f.parts.v=.slice a n c)(w:Z6):Rt 203 #[g.val,f.val] w (.bool (decide (g.per<=f.k))):=by have ⟨bk,k,⟨v,L⟩⟩:=f;simp only at d;subst d;refine dC [.a (.v g.val),.a (.v (⟨bk,k,⟨.slice a n c,L⟩⟩:Fetching).val)] J<|Tz J λ_=>rfl
theorem U3(V:Vw)(y:Z7)(l:Z8 Z5)(w:Z6)(hV:V.le (vw w))(m:SlOf V da 1 y l)(R:l.length<=140737488355328)(T:(iH l).length<=140737488355328): Rt 260 #[y] w (S (ku l)):=by have hs:=m.mono hV;refine dU J ?_;have t:ku (l.take 0)=⟨#[]⟩:=rfl;refine zL [0] [] J J (σ:=Nat) (λi=>[(3,.a (.v (S (ku (l.take i))))),(4,.a (.v (I i)))]) (λi=>[]) (λi=>i<=l.length) (λi=>l.length - i) (0) om ?_ (hs:=by repeat (first|exact dT.nil|refine dT.cons J ?_|refine dT.cons (by simp only[t];first|done|rfl) ?_)) (hO:=by repeat (first|exact dm.nil|refine dm.cons J ?_|refine dm.cons (by simp only[t];first|done|rfl) ?_));rintro i hi;refine zB J<|QY J (yN J hs)<|cJ J ?_ ?_<;>intro h;{have ⟨x,h_x⟩:=hs.at (k:=i) om;(have d:ku (l.take (i+1))=ku (l.take i)++x:=by rw[oX h_x,Ul]);have B:=Jd (l.take (i+1));have z:=Jd (l.take i);(have M:(iH (l.take (i+1))).length<=(iH l).length:=by (have:iH l=iH (l.take (i+1))++iH (l.drop (i+1)):=by simp only[iH];rw[<-ZF,YQ]);rw[this,ZQ];omega);(have u:(ku (l.take (i+1))).size=(ku (l.take i)).size+x.size:=by rw[d,YP]);have o:=cC h_x;refine QY J (yI J hs)<|QY J (yL i 0 J hs h_x J)<|QY J (vf J (λO=>om))<|zA J ?_;rw[<-d,cx (n:=(i:Int)+1) om om];refine Qr (i+1) om};refine cL aJ J ?_;have p:i=l.length:=om;subst p;rw[Zx];intro E N L _;refine⟨?_,L.below lr⟩;rfl
theorem SW(V:Vw)(f:Fetching)(g:Geo)(d:Z5)(w:Z6)(hV:V.le (vw w))(B:SlOf V da 1 f.parts.v f.parts.l)(hn:f.parts.l.length<=1048576): Cl 222 #[g.val,f.val,S d] w λe w'=>∃x V',e=.returned x/\cH w w'/\Vext w.heap.size V V' w'/\zO f g d V' x:=by
 obtain⟨W,k,⟨v,L⟩⟩:=f;simp only at B hn;obtain⟨a,n,c,rfl⟩:=cD B.sl;have T:=B.mono hV;refine dC [.a (.v g.val),.a (.v (⟨W,k,⟨.slice a n c,L⟩⟩:Fetching).val),.a (.v (S d))] J<|dD J ?_ ?_<;>intro h;{refine Qs J<|zA J<|Qb J λE w' o=>?_;have u:=o.below lr;exact⟨_,V,J,u,Vext.same hV u,.inl ⟨om,J⟩⟩};refine zC J (NC ⟨W,k,⟨.slice a n c,L⟩⟩ g _ _ _ J)<|cJ J ?_ ?_<;>intro h;{refine Qs J<|zA J<|Qb J λE w' o=>?_;have u:=o.below lr;exact⟨_,V,J,u,Vext.same hV u,.inr (.inl ⟨om,om,J⟩)⟩};refine wZ [13] (σ:=Vw) (λx=>[(6,.a (.ptr 2 0)),(7,.a (.v (I 0)))]) (λx=>[(2,.lit [.v (I W),.v (I (IntKind.i64.wrap (k+1))),.row 5] 129),(5,.row 9 1 (0+L.length+1) ([]++L.flatMap da++[d].flatMap da))]) (6) (λx=>x) (λx=>(vw w).le x) mixed J oo J ?_ ?_
 .refine QD [0,1,2,3,4,6,7,9] J<|QS<|Qz 5 10 ?_ ?_;{refine Qg 5 J J (cX aJ 1 J J J) λ_ _=>Qz 8 10 ?_ ?_;{refine Qg 8 J J (cQ (e:=9) (sz:=1) (by_:=16) (m:=0) (k:=L.length) (x:=.a (.v (.slice a n c))) (olds:=[]) aJ (L.flatMap da) J (λE N o=>(T.mono vl).sl.src o.get) (λ_ _ _=>pd L) om) λ_ _=>Qo 10<|j8 10 aJ J J J J J λO R t p=>zG 11 J (cQ (l:=4) (e:=9) (sz:=1) (by_:=16) (m:=0+L.length) (k:=1) (x:=.a (.v (.slice (some ⟨O,0,none⟩) 1 1))) (olds:=[]++L.flatMap da) aJ ([d].flatMap da) J (λE N o=>((SlOf.ofBlock (enc:=da) (sz:=1) (l:=[d]) (p J) J cw (ZS _)).mono vl).sl.src o.get) (λ_ _ _=>pd [d]) om) λ_ _=>Qx [12] J<|zJ 13 J<|Qx [14] J<|Qe [6,7] J ?_;exact Qm (R) vl};refine j8 10 aJ J J J J J λO R t p=>zG 8 J (cQ (e:=9) (sz:=1) (by_:=16) (m:=0) (k:=L.length) (x:=.a (.v (.slice a n c))) (olds:=[]) aJ (L.flatMap da) J (λE N o=>(T.mono vl).sl.src o.get) (λ_ _ _=>pd L) om) λ_ _=>zG 11 J (cQ (l:=4) (e:=9) (sz:=1) (by_:=16) (m:=0+L.length) (k:=1) (x:=.a (.v (.slice (some ⟨O,0,none⟩) 1 1))) (olds:=[]++L.flatMap da) aJ ([d].flatMap da) J (λE N o=>((SlOf.ofBlock (enc:=da) (sz:=1) (l:=[d]) (p J) J cw (ZS _)).mono vl).sl.src o.get) (λ_ _ _=>pd [d]) om) λ_ _=>Qx [12] J<|zJ 13 J<|Qx [14] J<|Qe [6,7] J ?_;exact Qm (R) vl};refine j8 10 aJ J J J J J λO R t p=>zG 5 J (cX aJ 1 J J J) λ_ _=>zG 8 J (cQ (e:=9) (sz:=1) (by_:=16) (m:=0) (k:=L.length) (x:=.a (.v (.slice a n c))) (olds:=[]) aJ (L.flatMap da) J (λE N o=>(T.mono vl).sl.src o.get) (λ_ _ _=>pd L) om) λ_ _=>zG 11 J (cQ (l:=4) (e:=9) (sz:=1) (by_:=16) (m:=0+L.length) (k:=1) (x:=.a (.v (.slice (some ⟨O,0,none⟩) 1 1))) (olds:=[]++L.flatMap da) aJ ([d].flatMap da) J (λE N o=>((SlOf.ofBlock (enc:=da) (sz:=1) (l:=[d]) (p J) J cw (ZS _)).mono vl).sl.src o.get) (λ_ _ _=>pd [d]) om) λ_ _=>Qx [12] J<|zJ 13 J<|Qx [14] J<|Qe [6,7] J ?_;exact Qm (R) vl
 rintro V6 y
 try dsimp only
 refine zE J<|Qb J λE w' o=>?_;have u:=o.below y;have z:=o.rowFresh y (l:=5) J;rw[show 0+L.length+1=(L++[d]).length by simp,ZB,<-ZF]at z;obtain⟨V',hx,M⟩:=jS hV u z;obtain⟨a',Y,Z,X⟩:=cD M;rw[X]at M;refine⟨_,V',J,u,hx,.inr (.inr ⟨om,om,a',Y,Z,?_,M,cw⟩)⟩;rw[<-X];rfl
def ws(f:Fetching)(g:Geo)(got:Z5):Int:=if 256<got.size\/g.per<=f.k then f.k else IntKind.i64.wrap (f.k+1)
def vV(got:Z5):Int:=if 256<got.size then 50 else 0
def kC(f:Fetching)(g:Geo)(got:Z5):Z8 Z5:=if 256<got.size\/g.per<=f.k then f.parts.l else f.parts.l++[got]
theorem zO.out{f:Fetching}{g:Geo}{d:Z5}{o:Vw}{x:Z7}(h:zO f g d o x)(hs:SlOf o da 1 f.parts.v f.parts.l):∃a n c,x=.tuple #[.agg #[I f.block,I (ws f g d),.slice a n c],I (vV d)]/\SlOf o da 1 (.slice a n c) (kC f g d):=by (rcases h with⟨m,rfl⟩|⟨m,p,rfl⟩|⟨m,p,a,n,c,rfl,u⟩);{have ⟨a,n,c,hv⟩:=cD hs.sl;rw[hv]at hs;refine⟨a,n,c,?_,by rw[kC,ZW (.inl m)];exact hs⟩;rw[ws,ZW (.inl m),vV,ZW m,<-hv]};{have ⟨a,n,c,hv⟩:=cD hs.sl;rw[hv]at hs;refine⟨a,n,c,?_,by rw[kC,ZW (.inr p)];exact hs⟩;rw[ws,ZW (.inr p),vV,ZX om,<-hv]};have t: ¬(256<d.size\/g.per<=f.k):=om;exact⟨a,n,c,by rw[ws,ZX t,vV,ZX om],by rw[kC,ZX t];exact u⟩
theorem N5(t:Z5)(k:Nat):jZ (k+1) t=jZ k t++[l4 t k]:=by simp[jZ,Y0]
theorem Xq(g:Geo)(ok:g.Ok)(text:Z5)(w:Z6)(M:text.size<=maxLen):Cl 270 #[g.val,S text] w (Mm g text w):=by have y:=M;simp only[maxLen]at M;refine dN J<|zC J (jc g ok)<|cJ J ?_ ?_<;>intro h;{refine Qb J λE L d=>?_;exact⟨.inr (.inl ⟨h,J⟩),d.below lr⟩};have m:=h;have R:=dE m;obtain⟨per,N⟩:∃per:Nat,g.per=per:=⟨g.per.toNat,om⟩;have p:g.per.toNat=per:=om;have o:IntKind.i64.wrap (g.per*256)=g.per*256:=cx om om;clear h;refine dD J ?_ ?_<;>intro h;{refine cL aJ J ?_;rw[o]at h;intro E L d _;exact⟨.inr (.inr ⟨m,h,J⟩),d.below lr⟩};rw[o]at h;have u:=h;clear h;refine iD 6 9 1 J J ?_;have B:jZ 0 text=[]:=rfl;refine zL [1,2] [1,0] J J (σ:=Nat) (λk=>[(6,.a (.row 1)),(7,.a (.v (I k)))]) (λk=>[(1,.row 9 1 (jZ k text).length ((jZ k text).flatMap da)),(0,.lit (g.cells.map .v) 23)]) (λk=>k<=per) (λk=>per - k) (0) om ?_ (hs:=by repeat (first|exact dT.nil|refine dT.cons J ?_|refine dT.cons (by simp only[B];first|done|rfl) ?_)) (hO:=by repeat (first|exact dm.nil|refine dm.cons J ?_|refine dm.cons (by simp only[B];first|done|rfl) ?_));rintro k O;refine dD J ?_ ?_<;>intro h;{(have t:(jZ k text).length+1=(jZ (k+1) text).length:=by rw[yb,yb]);refine zC J (Ep text k om y)<|QZ J (cX aJ 1 J J J) λ_ _=>QZ J (cQ aJ ([l4 text k].flatMap da) J (λE w d=>dZ (d.row _ _ _ _ _ J)) (λ_ _ _=>pd _) (by dsimp only;rw[yb];omega)) λ_ _=>zA J ?_;rw[t,<-ZF,<-N5,cx (n:=(k:Int)+1) om om];refine dx 1 3 J<|Qr (k+1) om};refine cL aJ J ?_;have z:k=per:=om;subst z;intro E L d _;refine⟨.inl ⟨m,u,E.κ 1,J,?_⟩,d.below lr⟩;rw[p];exact d.rowFresh lr (l:=1) J
theorem Q6(V:Vw)(g:Geo)(ok:g.Ok)(text:Z5)(w:Z6)(hV:V.le (vw w))(o:text.size<=maxLen)(p:cY g=true)(m:(text.size:Int)<=g.per*256): Cl 270 #[g.val,S text] w λe w'=>∃x V',e=.returned x/\cH w w'/\Vext w.heap.size V V' w'/\ ∃a n c,x=.tuple #[.slice a n c,I 0]/\SlOf V' da 1 (.slice a n c) (jZ g.per.toNat text):=by refine(Xq g ok text w o).mono ?_;rintro e w' ⟨h|h|h,l⟩;{obtain⟨_,_,v,rfl,d⟩:=h;have ⟨V',hx,hsl⟩:=jS hV l d;obtain⟨a,n,c,rfl⟩:=cD hsl;exact⟨_,V',J,l,hx,a,n,c,J,hsl,cw⟩};{rw[p]at h;cases h.1};omega
set_option maxHeartbeats 2000000 in
theorem M8(V:Vw)(g:Geo)(ok:g.Ok)(sa:Z4 Addr)(sm sc:Nat)(l:Z8 Block)(w:Z6)(hV:V.le (vw w))(W:SlOf V Block.cells 2 (.slice sa sm sc) l)(hn:l.length<=maxLen)(B:fO g l=true): Cl 228 #[g.val,.slice sa sm sc] w λe w'=>(∃v,e=.returned (.tuple #[v,I 0])/\w'.ownsRow w.heap.size 243 2 v (rO g l).length ((rO g l).flatMap Cell.cells))/\cH w w':=by have hs:=W.mono hV;have Z:=hn;simp only[maxLen]at hn;have a6:=If B;have m:=B;rw[fO,Z1]at m;have hf:=dE m.1;have T:=CQ m.2;obtain⟨per,a8⟩:∃per:Nat,g.per=per:=⟨g.per.toNat,om⟩;have M:g.per.toNat=per:=om;refine dN J<|dq J (λN E O o=>Js (vw w) g ok _ l _ o.leV hs Z)<|cJ J ?_ ?_<;>intro h;{refine cL aJ J ?_;rw[B]at h;cases h};refine iD 6 243 2 J J ?_;(have e0:lh g per l (0*per)=[]:=by simp[lh]);refine zL [1,2] [1,0] J J (σ:=Nat) (λi=>[(6,.a (.row 1)),(7,.a (.v (I i)))]) (λi=>[(1,.row 243 2 (lh g per l (i*per)).length ((lh g per l (i*per)).flatMap Cell.cells)),(0,.lit (g.cells.map .v) 23)]) (λi=>i<=l.length) (λi=>l.length - i) (0) om ?_ (hs:=by repeat (first|exact dT.nil|refine dT.cons J ?_|refine dT.cons (by simp only[e0];first|done|rfl) ?_)) (hO:=by repeat (first|exact dm.nil|refine dm.cons J ?_|refine dm.cons (by simp only[e0];first|done|rfl) ?_));rintro i hi;(have ad:i*per<=512:=by have:i*per<=64*per:=Zn _ om;omega);refine zB J<|QY J (yN J hs)<|cJ J ?_ ?_<;>intro h;{refine Ra J<|QT [0,1,2] J ?_;have ⟨x,h_x⟩:=hs.at (k:=i) om;have z:=cC h_x;refine zt 3 J (yI J hs)<|zt 4 J (yF J hs)<|zt 5 J (yL i 1 J hs h_x J)<|QS<|Qo 6 ?_;have ⟨_,_,hx3,_,_⟩:=T i x h_x;have ae:x.text.size<=2048:=om;have ac:(jZ per x.text).length=per:=yb _ _;refine gA 6 (λy V'=>∃a n c,y=.tuple #[.slice a n c,I 0]/\SlOf V' da 1 (.slice a n c) (jZ per x.text)) J J J (FN 270) J J (λN E O o=>by have:=Q6 (vw w) g ok x.text O o.leV (by simp only[maxLen];omega) m.1 hx3;rw[M]at this;exact this) ?_;rintro y V1 t hy;obtain⟨a1,n1,c1,rfl,u⟩:=hy J;refine Qx [7] J<|g5 8 J kr J J J J (yV J) J<|g5 9 J kr J J J J (yV J) J<|Qx [10,11] J<|zH J<|zL [1,2,7,8] [1,0] J J (σ:=Nat) (λk=>[(6,.a (.row 1)),(10,.a (.v (I k)))]) (λk=>[(1,.row 243 2 (lh g per l (i*per+k)).length ((lh g per l (i*per+k)).flatMap Cell.cells)),(0,.lit (g.cells.map .v) 23)]) (λk=>k<=per) (λk=>per - k) (0) om ?_;rintro k hk;refine zB J<|QY J (yN J u)<|cJ J ?_ ?_<;>intro h;{refine gE [] ([(0,.lit (g.cells.map .v) 23)]) mixed oo kc<|QT [0,1,2,3] J ?_;have p:k<per:=om;(have hp:(jZ per x.text)[k]? =some (l4 x.text k):=by simp[jZ,List.getElem?_range p]);have R:=U8 g h_x p;(have Y:(lh g per l (i*per+k)).length+1=(lh g per l (i*per+(k+1))).length:=by rw[Ab,Ab];omega);have L:=hs.mono t;have z:=cC h_x;refine zt 4 J (yI J L)<|zt 5 J (yF J L)<|zt 6 J (yL i 0 J L h_x J)<|QT [7,9,10] J ?_;have d:=cC hp;refine zt 11 J (yI J u)<|zt 12 J (dy aJ (k) 0 (l4 x.text k) J (λN=>u) (λN=>hp) J J)<|QS<|zT 8 J J (FN 70) (λN E O o=>B3 g ok x.n k _)<|Qx [13] J<|zG 14 J (cX aJ 2 J J J) λ_ _=>zG 15 J (cQ aJ ([tr g per l (i*per+k)].flatMap Cell.cells) J (λE w o=>by rw[R];exact dZ (o.row _ _ _ _ _ J)) (λ_ _ _=>u3 _) (by dsimp only;rw[Ab];omega)) λ_ _=>Qx [16] J<|zH J ?_;rw[Y,<-ZF,<-Vm,cx (n:=(k:Int)+1) om om];refine dx 1 3 J<|Qr (k+1) om};have a0:k=per:=om;subst a0;rw[cx (n:=(i:Int)+1) om om,show i*k+k=(i+1)*k by rw[Y4,Yk]];refine Qr (i+1) om (hV:=t)};refine cL aJ J ?_;have X:i=l.length:=om;subst X;intro E w' o _;refine⟨⟨E.κ 1,J,?_⟩,o.below lr⟩;rw[rO,M];exact o.rowFresh lr (l:=1) J
def LS{α:Type}(enc:α->Z8 Z7)(sz B:Nat)(G:Vw->α->Prop)(V:Vw)(v:Z7):Prop:= ∃l:Z8 α,SlOf V enc sz v l/\l.length<=B/\ ∀x∈l,G V x
structure NF where
 P:Vw->Value->Prop
 kd:NK
 con:Value->Bool
 nil:Bool
 mono:∀{V V' v},V.le V'->P V v->P V' v
 kdOk:∀{V v},P V v->kd.den V v
 conOk:∀{v} V,con v=true->P V v
 nilOk:∀V,nil=true->P V (.slice none 0 0)
 inh:∀V,∃v,P V v
def gT{α:Type}(enc:α->Z8 Z7)(sz B:Nat)(G:Vw->α->Prop)(hB:B<=1000000)(hl:∀x,(enc x).length=sz)(hG:∀{V V' x},V.le V'->G V x->G V' x):NF where
 P:=LS enc sz B G
 kd:=.sl
 con:=λ_=>false
 nil:=true
 mono:=λhle ⟨l,h1,h2,h3⟩=>⟨l,h1.mono hle,h2,λx hx=>hG hle (h3 x hx)⟩
 kdOk:=λ⟨l,h1,h2,_⟩=>⟨sz,l.length,_,om,h1.sl⟩
 conOk:=λ_ h=>by cases h
 nilOk:=λV _=>⟨[],jY _ _ _ _ hl,Zz _,λx hx=>by cases hx⟩
 inh:=λV=>⟨_,[],jY _ _ _ 0 hl,Zz _,λx hx=>by cases hx⟩
theorem kK{n:Int}:IntKind.i64.has n↔cK n:=by unfold IntKind.has cK;simp[IntKind.min,IntKind.max,IntKind.bits,IntKind.signed]
theorem zP{n:Int}:IntKind.i8.has n↔R8 n:=by unfold IntKind.has R8;simp[IntKind.min,IntKind.max,IntKind.bits,IntKind.signed]
def y6(p:Int->Prop)(hp:∀n,p n->cK n)(h1:p (-1)):NF where
 P:=λ_ v=>∃n,v=I n/\p n
 kd:=.int .i64
 con:=λ_=>false
 nil:=false
 mono:=λ_ h=>h
 kdOk:=λ⟨n,h,h2⟩=>⟨n,h,kK.2 (hp n h2)⟩
 conOk:=λ_ h=>by cases h
 nilOk:=λV h=>by cases h
 inh:=λV=>⟨_,_,J,h1⟩
def Jz(m:Nat)(p:Z5->Prop)(h0:p ByteArray.empty):NF where
 P:=λ_ v=>∃s:Z5,v=.string s/\s.size<=m/\p s
 kd:=.str m
 con:=λv=>match v with
  |.string s=>Nat.beq s.size 0
  |_=>false
 nil:=false
 mono:=λ_ h=>h
 kdOk:=λ⟨s,h,h2,_⟩=>⟨s,h,h2⟩
 conOk:=λ{v} V h=>by
  split at h
  ·
   rename_i s
   have h1:=ZM h
   have:s=ByteArray.empty:=by
    obtain⟨⟨l⟩⟩:=s
    have:l=[]:=Zu (by simpa[ByteArray.size]using h1)
    subst this;rfl
   subst this
   exact⟨_,J,Zz _,h0⟩
  . cases h
 nilOk:=λV h=>by cases h
 inh:=λV=>⟨_,_,J,Zz _,h0⟩
def WY:NF where
 P:=λV v=>NK.den V .sl v
 kd:=.sl
 con:=λ_=>false
 nil:=true
 mono:=λhle ⟨sz,n,xs,h,hs⟩=>⟨sz,n,xs,h,hs.mono hle⟩
 kdOk:=λh=>h
 conOk:=λ_ h=>by cases h
 nilOk:=λV _=>⟨0,0,[],dc,J,.inl ⟨none,0,J,J⟩⟩
 inh:=λV=>⟨cz,0,0,[],dc,J,.inl ⟨none,0,J,J⟩⟩
def sA(g:Geo)(b:Z5):Prop:=jf b=true->(iy b).block<g.blocks/\(iy b).k<g.per
structure SecOk(g:Geo)(i:Int)(b:ByteArray):Prop where
 size:b.size<=512
 top:i=0->j6 b=0/\(i7 b).eqB g=true
 log:1+2*g.nodes<=i->i<1+2*g.nodes+g.log->fB b=0
 head:∀s:Nat,(s:Int)<g.slots->i=dt g s->iw b=0
 jour:∀(s:Nat) j,(s:Int)<g.slots->0<=j->i=fK g s j->sA g b
 data:eO g<=i->b.size<=256
structure DevG(g:Geo)(k:Nat)(d:Device):Prop where
 chk:gD d=true
 len:(d.s.l.length:Int)=dw g
 sec:∀(i:Nat) b,d.s.l[i]? =some b->SecOk g i b
 cache:∀c∈d.cache.l,c.l.length<=k/\ ∀x∈c.l,SecOk g x.sector x.b
 fen:d.fenced.l.length<=k
theorem DevG.up{g:Geo}{k k':Nat}{d:Device}(h:DevG g k d)(l:k<=k'):DevG g k' d:=
 ⟨h.chk,h.len,h.sec,λc m=>⟨ZC (h.cache c m).1 l,(h.cache c m).2⟩,ZC h.fen l⟩
def sj(g:Geo)(k:Nat)(V:Vw)(xs:Z8 Z7):Prop:= ∃d:Device,xs=d.cells/\DevIn V d/\DevG g k d
def BL(g:Geo)(xs:Z8 Z7):Prop:= ∃kd sec b key,xs=[I8 kd,I sec,.string b,I key]/\(kd=2\/kd=3->0<=sec->sec<dw g->b.size<=512->SecOk g sec b)
abbrev nz(_:Vw)(_:Hold):Prop:=True
abbrev nO(_:Vw)(b:Block):Prop:=b.text.size<=5000
abbrev yW(g:Geo)(_:Vw)(r:Record):Prop:=r.Ok/\r.text.size<=256/\sA g (pV r)
abbrev DV(_:Vw)(r:Record):Prop:=r.Ok/\r.text.size<=256
abbrev sN(g:Geo)(_:Vw)(c:Cell):Prop:=cK c.sector/\SecOk g c.sector c.b
abbrev xE(n:Int):Z8 Z7:=[I8 n]
structure RecA where
 inst:Int
 mbal:Int
 bal:Int
 val_:ByteArray
abbrev RecA.cells(a:RecA):Z8 Z7:=[I a.inst,I a.mbal,I a.bal,.string a.val_]
abbrev RecA.Ok(a:RecA):Prop:=cK a.inst/\cK a.mbal/\cK a.bal/\a.val_.size<=600
theorem pU{k:Nat}(d:k<250):k*k<=62500/\(k+1)*(k+1)<=62500:=
 ⟨E_ (Nat.le_of_lt d) (Nat.le_of_lt d),E_ (show k+1<=250 from d) (show k+1<=250 from d)⟩
theorem vi{k:Nat}(d:k<250):k*k<=1000000/\(k+1)*(k+1)<=1000000:=by have:=pU d;omega
section
variable(g:Geo)(k:Nat)(hk:k<250)
def TW:Z8 (Nat×NF):=[
 (0,gT Slot.cells 2 16 (λ_ s=>s.Ok) dc cw (λ_ h=>h)),
 (1,gT Hold.cells 4 (k*k) nz (vi hk).1 cw (λ_ h=>h)),
 (2,gT Hold.cells 4 k nz om cw (λ_ h=>h)),
 (3,gT Hold.cells 4 ((k+1)*(k+1)) nz (vi hk).2 cw (λ_ h=>h)),
 (4,gT Hold.cells 4 (k+1) nz om cw (λ_ h=>h)),
 (5,gT Span.cells 2 k (λ_ s=>s.Ok) om cw (λ_ h=>h)),
 (6,gT Span.cells 2 (k+1) (λ_ s=>s.Ok) om cw (λ_ h=>h)),
 (7,gT Block.cells 2 k nO om cw (λ_ h=>h)),
 (8,gT Block.cells 2 (k+1) nO om cw (λ_ h=>h)),
 (9,gT Block.cells 2 (k*k) nO (vi hk).1 cw (λ_ h=>h)),
 (10,gT Block.cells 2 ((k+1)*(k+1)) nO (vi hk).2 cw (λ_ h=>h)),
 (11,gT Watch.cells 4 16 (λ_ s=>s.Ok) dc cw (λ_ h=>h)),
 (12,gT Record.cells 6 600 (yW g) dc cw (λ_ h=>h)),
 (13,gT Cell.cells 2 600 (sN g) dc cw (λ_ h=>h)),
 (14,gT Record.cells 6 k DV om cw (λ_ h=>h)),
 (15,gT Record.cells 6 (k+1) DV om cw (λ_ h=>h)),
 (16,gT da 1 k (λ_ s=>s.size<=256) om cw (λ_ h=>h)),
 (17,gT da 1 (k+1) (λ_ s=>s.size<=256) om cw (λ_ h=>h)),
 (18,gT xE 1 4 (λ_ n=>R8 n) dc cw (λ_ h=>h)),
 (19,gT cB 1 16 (λ_ n=>cK n) dc cw (λ_ h=>h)),
 (20,gT Hold.cells 4 1000000 nz dc cw (λ_ h=>h)),
 (21,gT Sl.enc 1 4 (λV s=>SlOf V Block.cells 2 s.v s.l/\s.l.length<=1000000/\ ∀x∈s.l,x.text.size<=5000) dc cw (λhle ⟨h4,h5⟩=>⟨h4.mono hle,h5⟩)),
 (22,gT RecA.cells 4 4 (λ_ r=>r.Ok) dc cw (λ_ h=>h)),
 (23,gT Block.cells 2 1 nO dc cw (λ_ h=>h)),
 (24,gT Block.cells 2 64 (λ_ _=>True) dc cw (λ_ h=>h)),
 (30,y6 (λn=>n= -1\/ ∃i:Nat,(i:Int)<g.nodes/\cY g=true/\n=1+i) (λn h=>by rcases h with rfl|⟨i,h,h2,rfl⟩;exact⟨dc,dc⟩;have:=dE h2;unfold cK;omega) (.inl J)),
 (31,y6 (λn=>n= -1\/ ∃i:Nat,(i:Int)<g.nodes/\cY g=true/\n=1+g.nodes+i) (λn h=>by rcases h with rfl|⟨i,h,h2,rfl⟩;exact⟨dc,dc⟩;have:=dE h2;unfold cK;omega) (.inl J)),
 (32,y6 (λn=>n= -1\/ ∃i:Nat,(i:Int)<g.log/\cY g=true/\n=1+2*g.nodes+i) (λn h=>by rcases h with rfl|⟨i,h,h2,rfl⟩;exact⟨dc,dc⟩;have:=dE h2;unfold cK;omega) (.inl J)),
 (34,y6 (λn=>cK n/\(n= -1\/ ∃(s:Nat) (j:Int),(s:Int)<g.slots/\cY g=true/\0<=j/\n=fK g s j)) (λn h=>h.1) ⟨⟨dc,dc⟩,.inl J⟩),
 (40,Jz 512 (λs=>fB s=0) (by decide+kernel)),
 (41,Jz 512 (sA g) (by intro h;exact absurd h (by decide+kernel))),
 (50,WY)]
end
def lC(T:Z8 (Nat×NF))(i:Nat)(V:Vw)(v:Z7):Prop:=match lk T i with
 |some f=>f.P V v
 |none=>False
def J3(T:Z8 (Nat×NF))(i:Nat):NK:=match lk T i with
 |some f=>f.kd
 |none=>.sl
def H4(T:Z8 (Nat×NF))(i:Nat):Bool:=match lk T i with
 |some f=>f.nil
 |none=>false
def La(T:Z8 (Nat×NF))(i:Nat)(v:Z7):Bool:=match lk T i with
 |some f=>f.con v
 |none=>false
def EQ(T:Z8 (Nat×NF))(i:Nat):Bool:=match lk T i with
 |some f=>true
 |none=>false
structure LeF(T:List (Nat×NF)) where
 i:Nat
 j:Nat
 ok:∀{V v},lC T i V v->lC T j V v
def Ah{T:Z8 (Nat×NF)}:Z8 (LeF T)->Nat->Nat->Bool
 |[],_,_=>false
 |f::r,i,j=>(Nat.beq f.i i&&Nat.beq f.j j)||Ah r i j
theorem HB{T:Z8 (Nat×NF)}{i j:Nat}{V:Vw}{v:Z7}:∀{l:Z8 (LeF T)},Ah l i j=true->lC T i V v->lC T j V v
 |[],h,_=>by cases h
 |f::r,h,hv=>by
  simp only[Ah,Zv,Z1]at h
  rcases h with⟨h1,h2⟩|h
  ·
   have e1:=ZM h1
   have d:=ZM h2
   subst e1 d
   exact f.ok hv
  . exact HB h hv
theorem LS.up{α:Type}{enc:α->Z8 Z7}{sz B B':Nat}{G:Vw->α->Prop}{V:Vw}{v:Z7}(d:B<=B')(h:LS enc sz B G V v):LS enc sz B' G V v:=by have ⟨l,h1,h2,h3⟩:=h;exact⟨l,h1,ZC h2 d,h3⟩
section
variable(g:Geo)(k:Nat)(hk:k<250)
theorem Jj:k*k<=(k+1)*(k+1):=by grind
def NT:Z8 (LeF (TW g k hk)):=[⟨1,3,LS.up (Jj k)⟩,⟨2,4,LS.up om⟩,⟨5,6,λh=>LS.up (enc:=Span.cells) (sz:=2) (G:=λ_ s=>s.Ok) (B:=k) (B':=k+1) om h⟩,⟨7,8,LS.up om⟩,⟨9,10,LS.up (Jj k)⟩,⟨14,15,LS.up om⟩,⟨16,17,λh=>LS.up (enc:=da) (sz:=1) (G:=λ_ s=>s.size<=256) (B:=k) (B':=k+1) om h⟩]
def oc(k:IntKind):CP->Bool
 |.int k'=>j9 k' k
 |.con k' _=>j9 k' k
 |_=>false
def rS(k:IntKind):Z8 CP->Bool
 |[]=>true
 |c::r=>oc k c&&rS k r
def wm(m:Nat):CP->Bool
 |.str n=>Nat.ble n m
 |_=>false
def uj:CP->Bool
 |.nm i=>Nat.beq i 7||(Nat.beq i 8||(Nat.beq i 9||Nat.beq i 10))
 |_=>false
def AY(e len:Nat)(l:Z8 CP):Z4 Nat:=
 bif Nat.beq e 99&&(rS .i8 l&&(Nat.beq l.length len&&Nat.ble len 4))then some 18
 else bif Nat.beq e 3&&(rS .i64 l&&(Nat.beq l.length len&&Nat.ble len 16))then some 19
 else match l with
  |[a,b,c,d]=>bif Nat.beq e 116&&(Nat.beq len 1&&(oc .i64 a&&(oc .i64 b&&(oc .i64 c&&wm 600 d))))then some 22 else none
  |[a,b]=>bif Nat.beq e 93&&(Nat.beq len 1&&(oc .i64 a&&wm 5000 b))then some 23
   else bif Nat.beq e 89&&(Nat.beq len 2&&(uj a&&uj b))then some 21 else none
  |_=>none
theorem C3{α:Type}(f:α->Z7)(enc:α->Z8 Z7)(h:∀x,enc x=[f x]):∀l:Z8 α,l.map f=l.flatMap enc
 |[]=>rfl
 |x::r=>by rw[Zq,Zy,h,C3 f enc h r];rfl
theorem u5{P:Nat->Vw->Z7->Prop}{V:Vw}{k:IntKind}{c:CP}{v:Z7}(h:oc k c=true)(d:c.denP P V v):∃n,v=.int k n/\k.has n:=by
 cases c with
 |int k'=>have:=mZ.1 h;subst this;exact d
 |con k' n=>have:=mZ.1 h;subst this;exact⟨n,d.1,d.2⟩
 |_=>cases h
theorem FX{P:Nat->Vw->Z7->Prop}{V:Vw}{m:Nat}{c:CP}{v:Z7}(h:wm m c=true)(l:c.denP P V v):∃s:Z5,v=.string s/\s.size<=m:=by
 cases c with
 |str n=>obtain⟨s,rfl,d⟩:=l;exact⟨s,J,ZC d (Yz h)⟩
 |_=>cases h
theorem AW{P:Nat->Vw->Z7->Prop}{V:Vw}{k:IntKind}:∀{l:Z8 CP} {vs:Z8 Z7},rS k l=true->cT (CP.denP P V) l vs-> ∃ns:Z8 Int,vs=ns.map (.int k)/\ns.length=l.length/\ ∀n∈ns,k.has n
 |[],[],_,_=>⟨[],J,J,λ_ h=>by cases h⟩
 |c::r,v::vs,h,ha=>by
  simp only[rS,Z1]at h
  obtain⟨n,rfl,hn⟩:=u5 h.1 ha.1
  obtain⟨ns,rfl,o,p⟩:=AW h.2 ha.2
  exact⟨n::ns,J,by simp[o],λm d=>by rcases Zg.1 d with rfl|d;exact hn;exact p m d⟩
 |[],_::_,_,h=>h.elim
 |_::_,[],_,h=>h.elim
theorem H2{V:Vw}{c:CP}{v:Z7}(h:uj c=true)(d:c.denP (lC (TW g k hk)) V v):∃s:Sl Block,s.v=v/\SlOf V Block.cells 2 s.v s.l/\s.l.length<=1000000/\ ∀x∈s.l,x.text.size<=5000:=by
 cases c with
 |nm i=>have m:=vi hk;(have:LS Block.cells 2 1000000 nO V v:=by simp only[uj,Zv]at h;(rcases h with h|h|h|h<;>(have e:=ZM h;subst e));{exact LS.up (show k<=1000000 by omega) d};{exact LS.up (show k+1<=1000000 by omega) d};{exact LS.up m.1 d};exact LS.up m.2 d);have ⟨l,h1,h2,h3⟩:=this;exact⟨⟨v,l⟩,J,h1,h2,h3⟩
 |_=>cases h
theorem Pg{e len:Nat}{l:Z8 CP}{i:Nat}{V:Vw}{b:Nat}{L:Z8 Z7}(h:AY e len l=some i)(E:V.get b=some (.cells L.toArray e (0,0)))(O:cT (CP.denP (lC (TW g k hk)) V) l L):lC (TW g k hk) i V (.slice (some ⟨b,0,none⟩) len len):=by
 unfold AY at h;cases o:(Nat.beq e 99&&(rS .i8 l&&(Nat.beq l.length len&&Nat.ble len 4)))with
 |true=>rw[o]at h;cases h;simp only[Z1]at o;obtain⟨ns,rfl,t,p⟩:=AW o.2.1 O;have M:=ZM o.2.2.1;have N:=Yz o.2.2.2;have w:len=ns.length:=om;subst w;exact⟨ns,SlOf.ofBlock (enc:=xE) (sz:=1) E (C3 _ _ cw ns) cw (ZS _),N,λn X=>zP.1 (p n X)⟩
 |false=>
  rw[o]at h;cases o:(Nat.beq e 3&&(rS .i64 l&&(Nat.beq l.length len&&Nat.ble len 16)))with
  |true=>rw[o]at h;cases h;simp only[Z1]at o;obtain⟨ns,rfl,t,p⟩:=AW o.2.1 O;have M:=ZM o.2.2.1;have N:=Yz o.2.2.2;have w:len=ns.length:=om;subst w;exact⟨ns,SlOf.ofBlock (enc:=cB) (sz:=1) E (C3 _ _ cw ns) cw (ZS _),N,λn X=>kK.1 (p n X)⟩
  |false=>
   rw[o]at h;split at h
   .rename_i a T c d _;cases o:(Nat.beq e 116&&(Nat.beq len 1&&(oc .i64 a&&(oc .i64 T&&(oc .i64 c&&wm 600 d)))))with
    |false=>rw[o]at h;cases h
    |true=>
     rw[o]at h;cases h;simp only[Z1]at o;have ⟨_,t,p,M,N,w⟩:=o;have:=ZM t;subst this
     match L,O with
     |[x,y,z,u],⟨q1,q2,q3,q4,_⟩=>obtain⟨n1,rfl,R⟩:=u5 p q1;obtain⟨n2,rfl,Y⟩:=u5 M q2;obtain⟨n3,rfl,r3⟩:=u5 N q3;obtain⟨s,rfl,W⟩:=FX w q4;exact⟨[⟨n1,n2,n3,s⟩],SlOf.ofBlock (enc:=RecA.cells) (sz:=4) (l:=[(⟨n1,n2,n3,s⟩:RecA)]) E J cw (ZS _),sm,λm B=>by rw[ZE.1 B];exact⟨kK.1 R,kK.1 Y,kK.1 r3,W⟩⟩
   .rename_i a T _;cases o:(Nat.beq e 93&&(Nat.beq len 1&&(oc .i64 a&&wm 5000 T)))with
    |true=>
     rw[o]at h;cases h;simp only[Z1]at o;have ⟨_,t,p,w⟩:=o;have:=ZM t;subst this
     match L,O with
     |[x,u],⟨q1,q4,_⟩=>obtain⟨n1,rfl,R⟩:=u5 p q1;obtain⟨s,rfl,W⟩:=FX w q4;exact⟨[⟨n1,s⟩],SlOf.ofBlock (enc:=Block.cells) (sz:=2) (l:=[(⟨n1,s⟩:Block)]) E J cw (ZS _),sm,λm B=>by rw[ZE.1 B];exact W⟩
    |false=>
     rw[o]at h;simp only[cond_false]at h;cases o:(Nat.beq e 89&&(Nat.beq len 2&&(uj a&&uj T)))with
     |false=>rw[o]at h;cases h
     |true=>
      rw[o]at h;cases h;simp only[Z1]at o;have ⟨_,t,p,M⟩:=o;have:=ZM t;subst this
      match L,O with
      |[x,y],⟨q1,q2,_⟩=>
       obtain⟨s1,rfl,R⟩:=H2 g k hk p q1;obtain⟨Z,rfl,Y⟩:=H2 g k hk M q2
       exact⟨[s1,Z],SlOf.ofBlock (enc:=Sl.enc) (sz:=1) (l:=[s1,Z]) E J cw (ZS _),sm,λm B=>by
        simp only[Zg,YH,w_]at B
        rcases B with rfl|rfl
        . exact R
        . exact Y⟩
   cases h
def JW:Nat->Vw->Z8 Z7->Prop
 |0,_,xs=>xs=g.cells
 |1,_,xs=>BL g xs
 |2,V,xs=>sj g k V xs
 |3,V,xs=>sj g (k+1) V xs
 |_,_,_=>False
theorem sj.mono{g:Geo}{k:Nat}{V m:Vw}{xs:Z8 Z7}(l:V.le m)(h:sj g k V xs):sj g k m xs:=by obtain⟨d,rfl,p,o⟩:=h;exact⟨d,J,p.mono l,o⟩
def yB:Z8 CP->Bool
 |[.con .i8 n,.int .i64,.str _,.int .i64]=>decide (n≠2/\n≠3)
 |[.con .i8 n,.con .i64 _,.str _,.con .i64 _]=>decide (n≠2/\n≠3)
 |[.con .i8 n,.con .i64 _,.str _,.int .i64]=>decide (n≠2/\n≠3)
 |[.con .i8 n,.int .i64,.str _,.con .i64 _]=>decide (n≠2/\n≠3)
 |[.con .i8 n,.nm i,.str m,.con .i64 _]=>(decide (n≠2/\n≠3)&&(Nat.beq i 30||(Nat.beq i 31||(Nat.beq i 32||Nat.beq i 34))))||(Nat.ble m 512&&(Nat.beq i 30||Nat.beq i 31))
 |[.con .i8 n,.nm i,.nm j,.con .i64 _]=>(Nat.beq i 32&&Nat.beq j 40)||(Nat.beq i 34&&Nat.beq j 41)
 |_=>false
