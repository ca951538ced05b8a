import Derived.Test.YtkoiogkdiifgfaaGreatMSc4
import Derived.Test.YtkoiogkdiifgfaaGreatEng45
/- Going over a device's slots and their rows. -/
set_option linter.unusedVariables false
set_option linter.unusedSimpArgs false
set_option maxRecDepth 100000
namespace Go.Proofs.YtkoiogkdiifgfaaGreat
open Go Go.Eng Go.RowKit
theorem z9e{g:Geo}(hG:z2y g=true)(d:Device):(tbS g d).S.length=g.slots.toNat:=by
 have h1:=(j4k g d).n
 have hf:=z0b hG
 rw[zad]at h1
 omega
theorem zte(V:Vw)(b:Nat)(w:World)(hV:V.le (vw w)):Cl 27 #[Ptr b] w fun e w'=> ∃v V',e= .returned v∧Below w.heap.size w w'∧Vext w.heap.size V V' w'∧
  ∃bw,v= .func (.func 58) #[] #[Ptr bw]∧V'.get bw=some (.cells [Ptr b].toArray 57 (0,0)):=by
 refine Qf [.a (.v (Ptr b))] Tryz.func27 rfl<|QA<|QC<|QE 2 [1] rfl<|Qw<|QA<|QC<|QE 2 [2] rfl<|Qw<|QO<|Qb rfl fun E w' hm=> ?_
 have hb:=hm.below lr
 have h0:=hm.lit 0 _ _ rfl
 have z0:=zfc hm lr (l:=0) rfl
 refine⟨_,V.grown w w',rfl,hb,Vext.grown hV hb,E.ρ 0,rfl, ?_⟩
 simp only[Vw.grown]
 rw[if_neg (by omega)]
 exact h0
def j83(A:Nat→List Record)(n:Nat)(x:Nat×Value)(V':Vw):Prop:=x.1<n∧ ∃a k c,x.2= .slice a k c∧SlOf V' Record.cells 6 (.slice a k c) (A x.1)
theorem zkd(V:Vw)(bw b:Nat)(g:Geo)(ok:g.Ok)(hG:z2y g=true)(d:Device)(hdi:DevIn V d)(A:Nat→List Record)(hA:RowsAll g d A)(hL:zab V b g d)(hbw:V.get bw=some (.cells [Ptr b].toArray 57 (0,0)))(n:Nat)(hn:g.slots.toNat=n)(m:Nat)(w0:World)(hV:V.le (vw w0)):
  jbs m Tryz.prog 58 #[Ptr bw] (fun x:Nat×Value=> #[I (x.1:Int),x.2]) (j83 A n) V (fun xs=>xs.map (·.1)=List.range n) (fun _=>True) n w0:=by
 have hf:=z0b hG
 have hlen:=z9e hG d
 rw[hn]at hlen
 obtain⟨ta,tn,tc,t2,tn2,tc2,t3,tn3,tc3,la,ln,lc,hb,hT,htl⟩:=hL
 obtain⟨_,_,_,_,_,_,_,_,_,he,hTS,_,_⟩:=hT
 simp only[Value.agg.injEq,Array.mk.injEq,List.cons.injEq,and_true]at he
 obtain⟨h1,h2,h3⟩:=he
 rw[←h1]at hTS
 clear h1 h2 h3
 have hat:=hA.at_
 have hno:=hA.no
 rw[hn]at htl
 generalize (tbS g d).S=TS at*
 obtain⟨⟨sv,sl⟩,⟨cv,cl⟩,⟨kv,kl⟩,nx,⟨fv,fl⟩⟩:=d
 obtain⟨a1,n1,c1,rfl⟩:=z04 hdi.s.sl
 obtain⟨a2,n2,c2,rfl⟩:=z04 hdi.cache.sl
 obtain⟨a3,n3,c3,rfl⟩:=z04 hdi.keys.sl
 obtain⟨a4,n4,c4,rfl⟩:=z04 hdi.fenced.sl
 have hS:=hdi.s
 dsimp only at hS hat htl
 simp only[zu3,Geo.cells,List.cons_append,List.nil_append]at hb
 intro l J Jx W hW hab hsub hJx hY h0
 have hVW:V.le (vw W):=hV.trans ⟨fun k o hk=>by
  have:=hW.block k (Array.getElem?_eq_some_iff.1 hk).1
  show W.heap[k]? =some o
  rw[this];exact hk,hW.os,hW.tape,hW.output⟩
 have hJle: ∀{R p A B},J R p A→(vw A).le (vw B)→J (fun k=>R k∨(A.heap.size≤k∧k<B.heap.size)) p B:=fun{R p A B} h hle=>hab _ _ _ _ none h (z6v hle) (fun r e=>by cases e)
 show CallsIn _ _ _ _ #[.func (.yield l) #[] #[],Ptr bw] _ _
 refine zkc _ [.a (.v (.func (.yield l) #[] #[])), .a (.v (Ptr bw))] Tryz.func58 rfl rfl (zhn E0 0 W) rfl rfl<|z1j<|Rr<|QY rfl (z2p tok rfl (fun hg=>hVW.get _ _ hbw) rfl)<|Yy 3 rfl<|QY rfl (z2p tok rfl (fun hg=>hVW.get _ _ hb) rfl)<|QY rfl (z0l tok rfl (fun hg=>(hTS.mono hVW).sl))<|QE 1 [0,1,10,11,12] rfl<|rq<|Qw<|z3c ?_
 rw[hlen]
 refine ze8 [0,1,10,11] [] rfl rfl (σ:=Nat×World) (fun y=>[(12, .a (.v (I y.1)))]) (fun y=>[]) (fun y=>vw y.2) (fun y=>(y.1≤n∧(∃R xs,xs.map (·.1)=List.range y.1∧J R xs y.2)∧V.le (vw y.2))) (fun y=>n - y.1) ((0,W)) (⟨by omega,⟨_,[],rfl,h0⟩,hVW⟩) (by repeat (first|exact fN|refine fC rfl ?_)) (by repeat (first|exact oN|refine oC rfl ?_)) rfl lr ?_
 rintro⟨i,W1⟩ ⟨hi,⟨R,xs,hxs,hJ1⟩,hVi⟩
 dsimp only at hi hxs hJ1 hVi⊢
 have hxl:xs.length=i:=by rw[←List.length_map (f:=fun x:Nat×Value=>x.1),hxs,List.length_range]
 have hnext: ∀v:Value,(xs++[(i,v)]).map (·.1)=List.range (i+1):=fun v=>by rw[List.map_append,hxs,List.range_succ];rfl
 have hround: ∀(v:Value) (Z:Vw),V.le Z→j83 A n (i,v) Z→(∀k o,Z.get k=some o→V.get k=some o∨W1.heap.size≤k)→ ∀w,Z.le (vw w)→(vw W1).le (vw w)→YieldAt (Rd none) (m - 1) Tryz.prog l #[I (i:Int),v] w fun e w'=> ∃b V',e= .returned (.bool b)∧V'.le (vw w')∧ ∃W',V'=vw W'∧(b=true→(∃R xs,xs.map (·.1)=List.range (i+1)∧J R xs W')∧V.le (vw W'))∧(b=false→ ∃xs,Jx xs W'):=by
  intro v Z hVZ hP hZ w hZw hle
  refine zfl (hY _ xs (i,v) w Z (hJle hJ1 hle) (by have:=hP.1;dsimp only at this;omega) hVZ hP (fun k o hk=>⟨hZw.get k o hk, ?_⟩)) ?_
  ·
   rcases hZ k o hk with h|h
   · exact .inr h
   · exact .inl (.inr ⟨h,(Array.getElem?_eq_some_iff.1 (hZw.get k o hk)).1⟩)
  ·
   intro e w' hq
   rcases hq with⟨rfl,hj,hkv,hkr⟩|⟨rfl,hj⟩
   · exact⟨true,vw w',rfl,Vw.le.refl _,w',rfl,fun _=>⟨⟨_,_,hnext v,hj⟩,hkv (hVi.trans hle)⟩,fun hf=>(by cases hf)⟩
   · exact⟨false,vw w',rfl,Vw.le.refl _,w',rfl,fun hf=>(by cases hf),fun _=>⟨_,hj⟩⟩
 refine z1j<|Rr<|QE 1 [0,1,10,11,12,13] rfl<|rq<|Qw<|z1j<|z50 rfl (fun h=> ?_) fun h=> ?_
 ·
  simp only[Xa,Xb,Xc,Xd,Xe,Xf,Xg,Xh,Xi,Xj,Xk,Xl,Xm,Xn,Xo,Xp]at h
  refine z5i<|Qw<|z1j<|z3c<|z1j<|Rr<|Yy 1 rfl ?_
  have hiL:i<TS.length:=by omega
  obtain⟨s,h_s⟩: ∃s,TS[i]? =some s:=⟨_,List.getElem?_eq_getElem hiL⟩
  have hTS1:=hTS.mono hVi
  have hwi:IntKind.i64.wrap ((i:Int)+1)=((i+1:Nat):Int):=z06 (by omega) (by omega)
  have hlt_s:=z01 h_s
  refine QY rfl (z0c tok rfl (fun hg=>hTS1.sl) (fun hg=>⟨by omega,by omega⟩))<|QY rfl (z08 tok (i) 0 (s) rfl (fun hg=>hTS1) (fun hg=>h_s) rfl rfl)<|Yy 2 rfl<|Qs rfl<|z07 [0,1,3,4,10,11,12] rfl<|rq<|Qw<|z1j<|Rr<|QE 1 [0,1,3,4,5,10,11,12] rfl<|rq<|Qw ?_
  iterate 2 refine z1j ?_
  refine Rr<|QE 3 [0,1,3,4,5,10,11,12,19] rfl<|rq<|Qw<|z50 rfl (fun h=> ?_) fun h=> ?_
  ·
   simp only[Xa,Xb,Xc,Xd,Xe,Xf,Xg,Xh,Xi,Xj,Xk,Xl,Xm,Xn,Xo,Xp]at h
   refine zkx (by intro _ _ w1 h1;first|exact h1|(obtain⟨h2,_⟩:=h1;cases h2;done)|(obtain⟨⟨_,h2⟩,_⟩:=h1;cases h2;done)|(obtain⟨⟨_,h2,_⟩,_⟩:=h1;cases h2;done)|(obtain⟨_,h2,_⟩:=h1;cases h2;done)|(obtain⟨_,_,h2,_⟩:=h1;cases h2;done)|(obtain⟨_,_,_,h2,_⟩:=h1;cases h2;done)|(rcases h1 with⟨⟨_,_,h2,_⟩|⟨_,h2⟩,_⟩<;>cases h2;done)|(exact nor _ h1)) rfl [] mixed rfl (by repeat (first|exact oN|refine oC rfl ?_)) (by first|rfl|simp[z0u,z26]) ?_
   have hrow:=hat i s h_s h
   have hti:=zjc (g:=g) (D:=sl) (k:=i) (n:=n) (by omega)
   generalize z3l (sl.getD (z1o g (i:Int)).toNat ByteArray.empty)=tl at*
   have htl1:=htl.mono hVi
   refine Qt 0 rfl rfl (z2p tok rfl (fun hg=>hVi.get _ _ hbw) rfl)<|QT [1,2] rfl<|Qt 3 rfl rfl (z2p tok rfl (fun hg=>hVi.get _ _ hb) rfl)<|Qt 4 rfl rfl (z2p tok rfl (fun hg=>hVi.get _ _ hbw) rfl)<|QT [5,6] rfl<|Qt 7 rfl rfl (z2p tok rfl (fun hg=>hVi.get _ _ hb) rfl)<|QT [8,9,10] rfl<|Qt 11 rfl rfl (z2p tok rfl (fun hg=>hVi.get _ _ hbw) rfl)<|QT [12,13] rfl<|Qt 14 rfl rfl (z2p tok rfl (fun hg=>hVi.get _ _ hb) rfl) ?_
   refine QT [15] rfl ?_
   have hlt_tl:=z01 hti
   refine Qt 16 rfl rfl (z0c tok rfl (fun hg=>htl1.sl) (fun hg=>⟨by omega,by simp[zai];omega⟩)) ?_
   refine Qt 17 rfl rfl (z08 tok (i) 0 (tl) rfl (fun hg=>htl1) (fun hg=>hti) rfl rfl)<|QS<|Qo 18<|z4e 18 (fun v V'=> ∃V2:Vw,V2.le V'∧V.le V2∧(∀k o,V2.get k=some o→V.get k=some o∨W1.heap.size≤k)∧ ∃a k c,v= .slice a k c∧SlOf V2 Record.cells 6 (.slice a k c) (A i)) rfl rfl rfl j54 rfl rfl (fun hg E w1 hm=>by exact(zxr V g ok (i:Int) s.key tl sl (A i) hrow a1 a2 a3 a4 n1 c1 n2 c2 n3 c3 n4 c4 nx _ (hVi.trans hm.leV) hS).mono fun e w' h=>z1w (z6v hm.leV).size hVi hm.leV h) ?_
   rintro v V2 hle2 hx
   obtain⟨Z,hZ2,hVZ,hZg,ra,rk,rc,rfl,hr⟩:=hx rfl
   clear hx
   refine Qx [19] rfl<|Qe [0,1,3,5,10,11,12] rfl<|rq<|Qw<|z1j<|zeb 3 (by intro _ _ w1 h1;first|exact h1|(obtain⟨h2,_⟩:=h1;cases h2;done)|(obtain⟨⟨_,h2⟩,_⟩:=h1;cases h2;done)|(obtain⟨⟨_,h2,_⟩,_⟩:=h1;cases h2;done)|(obtain⟨_,h2,_⟩:=h1;cases h2;done)|(obtain⟨_,_,h2,_⟩:=h1;cases h2;done)|(obtain⟨_,_,_,h2,_⟩:=h1;cases h2;done)|(rcases h1 with⟨⟨_,_,h2,_⟩|⟨_,h2⟩,_⟩<;>cases h2;done)|(exact nor _ h1)) rfl rfl ?_
   refine QE 3 [0,1,3,5,10,11,12,39,40,41] rfl<|ry _<|zdg (l:=[(0, .a (.v (.func (.yield l) #[] #[]))),(1, .a (.v (Ptr bw))),(10, .a (.v (.slice ta tn tc))),(11, .a (.v (I n))),(12, .a (.v (I i))),(39, .a (.v (.func (.yield l) #[] #[]))),(40, .a (.v (I i))),(41, .a (.v (.slice ra rk rc)))]) (O':=[]) (nl':=1) ?_ (by repeat (first|exact fN|refine fC rfl ?_)) (by repeat (first|exact oN|refine oC rfl ?_)) rfl<|Vw.le.refl _
   refine zu8 (fun b V'=> ∃W',V'=vw W'∧(b=true→(∃R xs,xs.map (·.1)=List.range (i+1)∧J R xs W')∧V.le (vw W'))∧(b=false→ ∃xs,Jx xs W')) rfl rfl rfl rfl (fun E w hle=>by exact hround _ Z hVZ ⟨by dsimp only;omega,ra,rk,rc,rfl,hr⟩ hZg w (hZ2.trans hle) (hle2.trans hle)) ?_
   rintro q V' ⟨W',rfl,hq1,hq2⟩
   refine zsc (by intro _ _ w1 h1;first|exact h1|(obtain⟨h2,_⟩:=h1;cases h2;done)|(obtain⟨⟨_,h2⟩,_⟩:=h1;cases h2;done)|(obtain⟨⟨_,h2,_⟩,_⟩:=h1;cases h2;done)|(obtain⟨_,h2,_⟩:=h1;cases h2;done)|(obtain⟨_,_,h2,_⟩:=h1;cases h2;done)|(obtain⟨_,_,_,h2,_⟩:=h1;cases h2;done)|(rcases h1 with⟨⟨_,_,h2,_⟩|⟨_,h2⟩,_⟩<;>cases h2;done)|(exact nor _ h1)) rfl ?_
   refine QE 1 [0,1,10,11,12,43] rfl<|rq<|Qw<|z50 rfl (fun h=> ?_) fun h=> ?_
   ·
    refine zbx<|QP<|QL<|QL<|QP<|zei tok rfl ?_
    cases q with
    |true=>exact absurd h (by simp)
    |false=>
     obtain⟨xs2,hj⟩:=hq2 rfl
     intro E w' hm _
     exact⟨⟨_,rfl⟩, .inr ⟨_,trivial,zcw hJx hj hm.leV⟩⟩
   ·
    refine z5i<|QM<|Qw<|Rr<|QE 2 [0,1,10,11,12] rfl<|rq<|Qw ?_
    cases q with
    |false=>exact absurd h (by simp)
    |true=>
     obtain⟨hj,hv⟩:=hq1 rfl
     rw[hwi]
     refine z6y ((i+1,W')) (⟨by dsimp only;omega,hj,hv⟩) (by first|omega|(dsimp only;omega)) (by repeat (first|exact fN|refine fC rfl ?_)) (by repeat (first|exact oN|refine oC rfl ?_)) rfl<|Vw.le.refl _
  ·
   simp only[Xa,Xb,Xc,Xd,Xe,Xf,Xg,Xh,Xi,Xj,Xk,Xl,Xm,Xn,Xo,Xp]at h
   refine z5i<|Qw<|z1j<|zeb 3 (by intro _ _ w1 h1;first|exact h1|(obtain⟨h2,_⟩:=h1;cases h2;done)|(obtain⟨⟨_,h2⟩,_⟩:=h1;cases h2;done)|(obtain⟨⟨_,h2,_⟩,_⟩:=h1;cases h2;done)|(obtain⟨_,h2,_⟩:=h1;cases h2;done)|(obtain⟨_,_,h2,_⟩:=h1;cases h2;done)|(obtain⟨_,_,_,h2,_⟩:=h1;cases h2;done)|(rcases h1 with⟨⟨_,_,h2,_⟩|⟨_,h2⟩,_⟩<;>cases h2;done)|(exact nor _ h1)) rfl rfl ?_
   refine QE 3 [0,1,3,4,5,10,11,12,19,39,40,41] rfl<|ry _ ?_
   have hAi:=hno i s h_s (by omega)
   refine zdg (l:=[(0, .a (.v (.func (.yield l) #[] #[]))),(1, .a (.v (Ptr bw))),(10, .a (.v (.slice ta tn tc))),(11, .a (.v (I n))),(12, .a (.v (I i))),(39, .a (.v (.func (.yield l) #[] #[]))),(40, .a (.v (I i))),(41, .a (.v (.slice none 0 0)))]) (O':=[]) (nl':=1) ?_ (by repeat (first|exact fN|refine fC rfl ?_)) (by repeat (first|exact oN|refine oC rfl ?_)) rfl<|Vw.le.refl _
   refine zu8 (fun b V'=> ∃W',V'=vw W'∧(b=true→(∃R xs,xs.map (·.1)=List.range (i+1)∧J R xs W')∧V.le (vw W'))∧(b=false→ ∃xs,Jx xs W')) rfl rfl rfl rfl (fun E w hle=>by exact hround _ V lr ⟨by dsimp only;omega,none,0,0,rfl,by dsimp only;rw[hAi];exact zij _ _ _ _ (fun _=>rfl)⟩ (fun k o hk=> .inl hk) w (hVi.trans hle) hle) ?_
   rintro q V' ⟨W',rfl,hq1,hq2⟩
   refine zsc (by intro _ _ w1 h1;first|exact h1|(obtain⟨h2,_⟩:=h1;cases h2;done)|(obtain⟨⟨_,h2⟩,_⟩:=h1;cases h2;done)|(obtain⟨⟨_,h2,_⟩,_⟩:=h1;cases h2;done)|(obtain⟨_,h2,_⟩:=h1;cases h2;done)|(obtain⟨_,_,h2,_⟩:=h1;cases h2;done)|(obtain⟨_,_,_,h2,_⟩:=h1;cases h2;done)|(rcases h1 with⟨⟨_,_,h2,_⟩|⟨_,h2⟩,_⟩<;>cases h2;done)|(exact nor _ h1)) rfl ?_
   refine QE 1 [0,1,10,11,12,43] rfl<|rq<|Qw<|z50 rfl (fun h=> ?_) fun h=> ?_
   ·
    refine zbx<|QP<|QL<|QL<|QP<|zei tok rfl ?_
    cases q with
    |true=>exact absurd h (by simp)
    |false=>
     obtain⟨xs2,hj⟩:=hq2 rfl
     intro E w' hm _
     exact⟨⟨_,rfl⟩, .inr ⟨_,trivial,zcw hJx hj hm.leV⟩⟩
   ·
    refine z5i<|QM<|Qw<|Rr<|QE 2 [0,1,10,11,12] rfl<|rq<|Qw ?_
    cases q with
    |false=>exact absurd h (by simp)
    |true=>
     obtain⟨hj,hv⟩:=hq1 rfl
     rw[hwi]
     refine z6y ((i+1,W')) (⟨by dsimp only;omega,hj,hv⟩) (by first|omega|(dsimp only;omega)) (by repeat (first|exact fN|refine fC rfl ?_)) (by repeat (first|exact oN|refine oC rfl ?_)) rfl<|Vw.le.refl _
 ·
  simp only[Xa,Xb,Xc,Xd,Xe,Xf,Xg,Xh,Xi,Xj,Xk,Xl,Xm,Xn,Xo,Xp]at h
  refine zin<|QK<|QK<|QQ<|zzk tok rfl ?_
  have hin:i=n:=by omega
  subst hin
  intro E w' hm _
  exact⟨⟨_,rfl⟩, .inl ⟨xs,hxs,_,hJle hJ1 hm.leV⟩⟩
def zvp{α:Type}(enc:α→List Value)(ty sz:Nat)(L:List α)(er:Int)(w:World)(e:Ending)(w':World):Prop:=
 (∃v,e= .returned (.tuple #[v,I er])∧w'.ownsRow w.heap.size ty sz v L.length (L.flatMap enc))∧Below w.heap.size w w'
def zah{α:Type}(enc:α→List Value)(sz:Nat)(L:List α)(er:Int)(x:Value)(V':Vw):Prop:= ∃a n c,x= .tuple #[.slice a n c,I er]∧SlOf V' enc sz (.slice a n c) L
theorem z79{α:Type}{enc:α→List Value}{ty sz:Nat}{L:List α}{er:Int}(he: ∀x,(enc x).length=sz){V:Vw}{f:Nat}{args:Array Value}{w:World}(hV:V.le (vw w))(h:Cl f args w (zvp enc ty sz L er w)):
  Cl f args w fun e w'=> ∃x V',e= .returned x∧Below w.heap.size w w'∧Vext w.heap.size V V' w'∧zah enc sz L er x V':=by
 refine h.mono ?_
 rintro e w' ⟨⟨v,rfl,hown⟩,hb⟩
 obtain⟨V',hx,hsl⟩:=z1i hV hb hown
 obtain⟨a,n,c,rfl⟩:=z04 hsl
 exact⟨_,V',rfl,hb,hx,a,n,c,rfl,hsl,he⟩
theorem z4y{g:Geo}{d:Device}(h:svE g d=0):zaa g d=true∧z3o g d=true:=by
 rw[svE]at h
 split at h
 ·
  rename_i h1
  split at h
  ·
   rename_i h2
   exact⟨h1,h2⟩
  · cases h
 · cases h
theorem z62{g:Geo}{d:Device}(h:zaa g d=true):z2y g=true∧(d.s.l.length:Int)=z5j g:=by
 simp only[zaa,Bool.and_eq_true,decide_eq_true_eq]at h
 exact⟨h.1,h.2.2⟩
theorem jbg(V:Vw)(b:Nat)(g:Geo)(d:Device)(hL:zab V b g d)(hdi:DevIn V d)(q:Nat)(x:ByteArray)(hx:d.s.l[q]? =some x)(w:World)(hV:V.le (vw w)):
  Rt 45 #[Ptr b,I q] w (S x):=by
 obtain⟨ta,tn,tc,t2,tn2,tc2,t3,tn3,tc3,la,ln,lc,hb0,_,_⟩:=hL
 obtain⟨⟨sv,sl⟩,⟨cv,cl⟩,⟨kv,kl⟩,nx,⟨fv,fl⟩⟩:=d
 obtain⟨a1,n1,c1,rfl⟩:=z04 hdi.s.sl
 have hS:=hdi.s.mono hV
 have hb:=hV.get _ _ hb0
 dsimp only at hS hx
 simp only[zu3,Geo.cells,List.cons_append,List.nil_append]at hb
 refine Qf [.a (.v (Ptr b)), .a (.v (I q))] Tryz.func45 rfl<|QA<|QC<|QE 1 [0,1] rfl<|Qw<|QA<|QC<|Yy 4 rfl<|QY rfl (z2p tok rfl (fun hg=>hb) rfl)<|Yy 1 rfl ?_
 have hlt_x:=z01 hx
 refine QY rfl (z0c tok rfl (fun hg=>hS.sl) (fun hg=>⟨by omega,by omega⟩))<|QY rfl (z08 tok (q) 0 (x) rfl (fun hg=>hS) (fun hg=>hx) rfl rfl)<|QE 1 [4] rfl<|Qw<|QO<|Qb rfl fun E w' hm=>⟨?_,hm.below lr⟩
 rfl
theorem zfh(V:Vw)(g:Geo)(ok:g.Ok)(d:Device)(w:World)(hV:V.le (vw w))(hd0:DevIn V d)(hsz: ∀s∈d.s.l,s.size≤maxLen):
  Rt 9 #[g.val,d.val] w (I (svE g d)):=by
 obtain⟨⟨sv,sl⟩,⟨cv,cl⟩,⟨kv,kl⟩,nx,⟨fv,fl⟩⟩:=d
 obtain⟨a1,n1,c1,rfl⟩:=z04 hd0.s.sl
 obtain⟨a2,n2,c2,rfl⟩:=z04 hd0.cache.sl
 obtain⟨a3,n3,c3,rfl⟩:=z04 hd0.keys.sl
 obtain⟨a4,n4,c4,rfl⟩:=z04 hd0.fenced.sl
 generalize hD:(⟨⟨.slice a1 n1 c1,sl⟩,⟨.slice a2 n2 c2,cl⟩,⟨.slice a3 n3 c3,kl⟩,nx,⟨.slice a4 n4 c4,fl⟩⟩:Device)=D at*
 have hval:D.val= .agg #[.slice a1 n1 c1, .slice a2 n2 c2, .slice a3 n3 c3,I nx, .slice a4 n4 c4]:=by rw[←hD]
 have hbeg:=fun(w1:World) (hle:(vw w).le (vw w1))=>zc8 (vw w) g ok D w1 hle (hd0.mono hV) hsz
 rw[hval]at hbeg⊢
 clear hD hd0
 refine Qf [.a (.v g.val), .a (.v (.agg #[.slice a1 n1 c1, .slice a2 n2 c2, .slice a3 n3 c3,I nx, .slice a4 n4 c4]))] Tryz.func9 rfl<|QA<|QC<|QE 3 [2,3] rfl<|Qw<|QA<|QC<|Yy 2 rfl<|Qv (j4i g D) rfl zn4 (fun hg E w1 hm=>by exact hbeg _ hm.leV) ?_
 rintro x W0 hle0 hx
 obtain⟨p,rfl,_⟩:=hx rfl
 clear hx
 refine QE 5 [6] rfl<|Qw<|QA<|QC<|QE 2 [4] rfl<|Qw<|QO<|Qb rfl fun E w' hm=>⟨?_,hm.below (hle0)⟩
 rfl
theorem z8f(V:Vw)(g:Geo)(ok:g.Ok)(d:Device)(w:World)(hV:V.le (vw w))(hd0:DevIn V d)(hsz: ∀s∈d.s.l,s.size≤maxLen):
  Rt 10 #[g.val,d.val] w (I (svE g d)):=by
 obtain⟨⟨sv,sl⟩,⟨cv,cl⟩,⟨kv,kl⟩,nx,⟨fv,fl⟩⟩:=d
 obtain⟨a1,n1,c1,rfl⟩:=z04 hd0.s.sl
 obtain⟨a2,n2,c2,rfl⟩:=z04 hd0.cache.sl
 obtain⟨a3,n3,c3,rfl⟩:=z04 hd0.keys.sl
 obtain⟨a4,n4,c4,rfl⟩:=z04 hd0.fenced.sl
 have hS:=hd0.s.mono hV
 generalize hD:(⟨⟨.slice a1 n1 c1,sl⟩,⟨.slice a2 n2 c2,cl⟩,⟨.slice a3 n3 c3,kl⟩,nx,⟨.slice a4 n4 c4,fl⟩⟩:Device)=D at*
 have hval:D.val= .agg #[.slice a1 n1 c1, .slice a2 n2 c2, .slice a3 n3 c3,I nx, .slice a4 n4 c4]:=by rw[←hD]
 have hDl:D.s.l=sl:=by rw[←hD]
 have hDv:D.s.v= .slice a1 n1 c1:=by rw[←hD]
 have hchk:=fun(w1:World) (hle:V.le (vw w1))=>z8b V D w1 hle hd0
 have hall:=fun(w1:World) (hle:(vw w).le (vw w1))=>zhd (vw w) g ok D w1 hle (hd0.mono hV) hsz
 rw[hDv,hDl]at hS
 rw[hDl]at hsz
 have hlb:zaa g D=(z2y g&&(z2a D&&decide ((sl.length:Int)=z5j g))):=by rw[zaa,hDl]
 have hlk:z3o g D=(decide (srE (sl.getD 0 ByteArray.empty)=0)&&((srV (sl.getD 0 ByteArray.empty)).eqB g&&(z5y g sl g.slots.toNat&&decide ((zc0 g D).2=0)))):=by rw[z3o,hDl]
 rw[hval]at hchk hall⊢
 clear hD hd0
 refine Qf [.a (.v g.val), .a (.v (.agg #[.slice a1 n1 c1, .slice a2 n2 c2, .slice a3 n3 c3,I nx, .slice a4 n4 c4]))] Tryz.func10 rfl<|QA<|QC<|QE 3 [2,3] rfl<|Qw<|QA<|QA<|z11 mixed (by kernel_rfl)<|Dm 1 rfl<|Qq (.a (.v _)) rfl z78 (fun hg E w1 hm=>by exact z3k g ok _) ?_
 refine Dm 3 rfl<|Qq (.a (.v _)) rfl zoh (fun hg E w1 hm=>by exact hchk _ (hV.trans hm.leV)) ?_
 refine Dm 5 rfl<|Qd rfl (z0l tok rfl (fun hg=>hS.sl))<|Dm 1 rfl<|Qq (.a (.v _)) rfl zk0 (fun hg E w1 hm=>by exact z6k g ok _) ?_
 refine Dm 2 rfl<|z1z [2,3,23] rfl<|Qw<|Qn rfl (fun h=> ?_) fun h=> ?_
 ·
  refine QA<|QC<|QE 1 [4] rfl<|Qw<|QO<|QL<|z0h tok rfl ?_
  have hlo:zaa g D=false:=by
   rw[hlb,Bool.eq_false_iff]
   intro hc
   simp only[Bool.and_eq_true,decide_eq_true_eq]at hc
   obtain⟨h1,h2,h3⟩:=hc
   simp[h1,h2,h3]at h
  intro E w' hm _
  refine⟨?_,hm.below lr⟩
  rw[zl8 hlo]
  rfl
 ·
  have hlo:zaa g D=true:=by
   rw[hlb]
   simp only[Bool.or_eq_false_iff,Bool.not_eq_false',bne_eq_false_iff_eq]at h
   obtain⟨⟨h1,h2⟩,h3⟩:=h
   have h4:z2a D=true:=by
    cases hq:z2a D with
    |true=>rfl
    |false=>rw[hq]at h2;simp at h2
   simp[h1,h4,h3]
  clear h
  have hlo2:=hlo
  rw[hlb]at hlo2
  simp only[Bool.and_eq_true,decide_eq_true_eq]at hlo2
  obtain⟨hG,_,hln⟩:=hlo2
  obtain⟨hi1,hi2,hi3⟩:=zbb hG hln
  have hf:=z0b hG
  obtain⟨s0,hs0⟩:=atx (L:=sl) (k:=0) (by omega)
  have hg0:sl.getD 0 ByteArray.empty=s0:=by simp[List.getD,hs0]
  rw[hg0]at hlk
  refine QI<|Qw<|QA<|QC<|Yy 2 rfl ?_
  have hlt_s0:=z01 hs0
  refine QY rfl (z0c tok rfl (fun hg=>hS.sl) (fun hg=>⟨by omega,by omega⟩))<|QY rfl (z08 tok (0) 0 (s0) rfl (fun hg=>hS) (fun hg=>hs0) rfl rfl)<|Qc (.a (.v _)) rfl j71 (fun hg E w1 hm=>by exact zxa s0 (hsz s0 (List.mem_of_getElem? hs0)) _) ?_
  refine Yy 4 rfl<|Qs rfl<|QE 1 [2,3,5,6] rfl<|Qw<|QA<|QA<|QC<|Yy 5 rfl<|QY rfl (z60 (.bool (!((srV s0).eqB g))) rfl (fun E w=>j4p _ _ w (.inr rfl)))<|QE 1 [2,3,38] rfl<|Qw<|Qn rfl (fun h=> ?_) fun h=> ?_
  ·
   refine QA<|QC<|QE 1 [4] rfl<|Qw<|QO<|QL<|z0h tok rfl ?_
   have hno:z3o g D=false:=by
    rw[hlk]
    cases hq:(srV s0).eqB g with
    |false=>simp
    |true=>
     rw[hq]at h
     simp at h
     simp[h]
   intro E w' hm _
   refine⟨?_,hm.below lr⟩
   rw[zdj hlo hno]
   rfl
  ·
   have hyes:srE s0=0∧(srV s0).eqB g=true:=by simpa using h
   clear h
   rw[decide_eq_true hyes.1,hyes.2,Bool.true_and,Bool.true_and]at hlk
   refine QI<|Qw<|QA<|QA<|QC<|QE 1 [2,3,7] rfl<|Qw<|QJ<|Ql [2,3] [] rfl rfl (σ:=Nat) (fun i=>[(7, .a (.v (I i)))]) (fun i=>[]) (fun i=>(i:Int)≤g.slots∧z5y g sl i=true) (fun i=>g.slots.toNat - i) (0) (⟨by omega,rfl⟩) ?_
   rintro i ⟨hi,htl⟩
   refine QA<|QA<|QC<|QE 4 [2,3,7,42] rfl<|Qw<|QX rfl (fun h=> ?_) fun h=> ?_
   ·
    refine QI<|Qw<|QA<|QJ<|QA<|z11 mixed (by kernel_rfl)<|Dm 4 rfl ?_
    obtain⟨q,hq,hqt⟩:=zaw hG (i:=i) (by omega)
    have hql:q<sl.length:=by omega
    obtain⟨x,hx⟩: ∃x,sl[q]? =some x:=⟨_,List.getElem?_eq_getElem hql⟩
    have hgd:sl.getD (z1o g (i:Int)).toNat ByteArray.empty=x:=by rw[hq];simp[List.getD,hx]
    have hwi:IntKind.i64.wrap ((i:Int)+1)=((i+1:Nat):Int):=z06 (by omega) (by omega)
    refine Qq (.a (.v _)) rfl zch (fun hg E w1 hm=>by exact z5k g ok i _) ?_
    rw[hq]
    have hlt_x:=z01 hx
    refine Qd rfl (z0c tok rfl (fun hg=>hS.sl) (fun hg=>⟨by omega,by omega⟩))<|Qd rfl (z08 tok (q) 0 (x) rfl (fun hg=>hS) (fun hg=>hx) rfl rfl)<|Qq (.a (.v _)) rfl zuj (fun hg E w1 hm=>by exact zgu x (hsz x (List.mem_of_getElem? hx)) _) ?_
    refine Dm 4 rfl<|z1z [2,3,6,7] rfl<|Qw<|QA<|QC<|QE 2 [2,3,7,57] rfl<|Qw<|Qn rfl (fun h=> ?_) fun h=> ?_
    ·
     refine QA<|QC<|QE 1 [4] rfl<|Qw<|QO<|QP<|QL<|QL<|QP<|QL<|z0h tok rfl ?_
     have hno:z3o g D=false:=by
      rw[hlk,zju (k:=i) (by omega) (by rw[hgd];simpa using h)];rfl
     intro E w' hm _
     refine⟨?_,hm.below lr⟩
     rw[zdj hlo hno]
     rfl
    ·
     refine QI<|QM<|Qw<|QC<|QE 3 [2,3,7] rfl<|Qw ?_
     have ht0:z94 x=0:=by simpa using h
     have htl2:z5y g sl (i+1)=true:=by rw[z8z,htl,hgd,ht0];rfl
     rw[hwi]
     refine Qr (i+1)<|⟨by omega,htl2⟩
   ·
    refine QN<|QK<|QK<|QQ<|Qw<|QA<|QC<|Yy 2 rfl ?_
    have hin:i=g.slots.toNat:=by omega
    subst hin
    rw[htl,Bool.true_and]at hlk
    refine Qv (zzn g D) rfl zt4 (fun hg E w1 hm=>by exact hall _ hm.leV) ?_
    rintro x W0 hle0 hx
    obtain⟨b1,m1,e1,b2,m2,e2,b3,m3,e3,n,rfl,hT⟩:=hx rfl
    clear hx
    refine QE 5 [6] rfl<|Qw<|QA<|QA<|QC<|QE 2 [66] rfl<|Qw<|Qn rfl (fun h=> ?_) fun h=> ?_
    ·
     refine QA<|QC<|QE 1 [4] rfl<|Qw<|QO<|QL<|z0h tok rfl ?_
     have hno:z3o g D=false:=by
      rw[hlk];simpa using h
     intro E w' hm _
     refine⟨?_,hm.below (hle0)⟩
     rw[zdj hlo hno]
     rfl
    ·
     refine QI<|Qw<|QA<|QC<|QE 1 [4] rfl<|Qw<|QO<|z0h tok rfl ?_
     have hl0:(zc0 g D).2=0:=by simpa using h
     have hyok:z3o g D=true:=by rw[hlk,hl0];rfl
     intro E w' hm _
     refine⟨?_,hm.below (hle0)⟩
     rw[zrw hlo hyok]
     rfl
def z43(D:List ByteArray)(k:Nat):List Int:=(List.range k).map fun i:Nat=>(z7b (D.getD (1+i) ByteArray.empty)).1
theorem zbq(D:List ByteArray)(k:Nat):z43 D (k+1)=z43 D k++[(z7b (D.getD (1+k) ByteArray.empty)).1]:=by simp[z43,List.range_succ]
theorem z8q(D:List ByteArray)(k:Nat):(z43 D k).length=k:=by simp[z43]
def z6s(g:Geo)(d:Device):List Int:=if svE g d=0 then z43 d.s.l g.nodes.toNat else []
theorem zqc(V:Vw)(g:Geo)(ok:g.Ok)(d:Device)(w:World)(hV:V.le (vw w))(hd0:DevIn V d)(hsz: ∀s∈d.s.l,s.size≤maxLen):
  Cl 17 #[g.val,d.val] w (zvp z0a 3 1 (z6s g d) (svE g d) w):=by
 have hgeo:=fun h=>z62 (z4y (g:=g) (d:=d) h).1
 obtain⟨⟨sv,sl⟩,⟨cv,cl⟩,⟨kv,kl⟩,nx,⟨fv,fl⟩⟩:=d
 obtain⟨a1,n1,c1,rfl⟩:=z04 hd0.s.sl
 obtain⟨a2,n2,c2,rfl⟩:=z04 hd0.cache.sl
 obtain⟨a3,n3,c3,rfl⟩:=z04 hd0.keys.sl
 obtain⟨a4,n4,c4,rfl⟩:=z04 hd0.fenced.sl
 generalize hD:(⟨⟨.slice a1 n1 c1,sl⟩,⟨.slice a2 n2 c2,cl⟩,⟨.slice a3 n3 c3,kl⟩,nx,⟨.slice a4 n4 c4,fl⟩⟩:Device)=D at*
 have hval:D.val= .agg #[.slice a1 n1 c1, .slice a2 n2 c2, .slice a3 n3 c3,I nx, .slice a4 n4 c4]:=by rw[←hD]
 have hDl:D.s.l=sl:=by rw[←hD]
 have hbeg:=fun(w1:World) (hle:(vw w).le (vw w1))=>zc8 (vw w) g ok D w1 hle (hd0.mono hV) hsz
 rw[hDl]at hsz hgeo
 have hle32:z6s g D=if svE g D=0 then z43 sl g.nodes.toNat else []:=by rw[z6s,hDl]
 rw[hval]at hbeg⊢
 clear hD
 refine Qf [.a (.v g.val), .a (.v (.agg #[.slice a1 n1 c1, .slice a2 n2 c2, .slice a3 n3 c3,I nx, .slice a4 n4 c4]))] Tryz.func17 rfl<|QA<|QC<|QE 4 [2,3,4] rfl<|Qw<|QA<|QC<|Yy 2 rfl<|Qv (j4i g D) rfl zn4 (fun hg E w1 hm=>by exact hbeg _ hm.leV) ?_
 rintro x W0 hle0 hx
 obtain⟨p,rfl,hlook⟩:=hx rfl
 clear hx
 refine QE 5 [2,4,5,6] rfl<|Qw<|QA<|QA<|QC<|QE 2 [2,4,5,6,17] rfl<|Qw<|Qn rfl (fun h=> ?_) fun h=> ?_
 ·
  refine QA<|QC<|QE 3 [4,5] rfl<|Qw<|QO<|QL<|z0h tok rfl ?_
  have hne: ¬svE g D=0:=by simpa using h
  intro E w' hm _
  refine⟨⟨.slice none 0 0,rfl, ?_⟩,hm.below hle0⟩
  rw[hle32,if_neg hne]
  exact⟨rfl, .inl ⟨rfl,rfl⟩⟩
 ·
  have hz:svE g D=0:=by simpa using h
  clear h
  rw[if_pos hz]at hle32
  obtain⟨hG,hln⟩:=hgeo hz
  obtain⟨b,rfl,hL⟩:=hlook hz
  have hf:=z0b hG
  obtain⟨hi1,hi2,hi3⟩:=zbb hG hln
  have hdW:=(hd0.mono hV).mono hle0
  obtain⟨nd,hnd⟩: ∃nd:Nat,g.nodes=nd:=⟨g.nodes.toNat,by omega⟩
  rw[hnd,Int.toNat_natCast]at hle32
  refine QI<|Qw<|QA<|QA<|QC<|QE 3 [2,4,6,20,21] rfl<|Qw<|QJ<|z6l 4 3 1 rfl rfl<|Ql [2,6,20] [2] rfl rfl (σ:=Nat) (fun i=>[(4, .a (.row 2)),(21, .a (.v (I i)))]) (fun i=>[(2, .row 3 1 i ((z43 sl i).flatMap z0a))]) (fun i=>i≤nd) (fun i=>nd - i) (0) (by omega) ?_
  rintro i hi
  refine QA<|QC<|QE 1 [2,4,6,20,21,22] rfl<|Qw<|QA<|QX rfl (fun h=> ?_) fun h=> ?_
  ·
   refine QI<|Qw<|QA<|QJ<|QA<|QC<|QE 2 [2,4,6,7,20,21] rfl<|Qw<|QA<|QC<|Yy 3 rfl ?_
   obtain⟨x,hx⟩:=atx (L:=sl) (k:=1+i) (by omega)
   have hgd:sl.getD (1+i) ByteArray.empty=x:=by simp[List.getD,hx]
   have hwi:IntKind.i64.wrap ((i:Int)+1)=((i+1:Nat):Int):=z06 (by omega) (by omega)
   have hx2:(z43 sl i).flatMap z0a++[I (z7b x).1]=(z43 sl (i+1)).flatMap z0a:=by rw[zbq,hgd];simp
   refine Qc (.a (.v _)) rfl j7e (fun hg E w1 hm=>by exact zwq g ok hG i (by omega) _) ?_
   rw[show 1+(i:Int)=((1+i:Nat):Int) by omega]
   refine Qc (.a (.v _)) rfl zth (fun hg E w1 hm=>by exact jbg W0 b g D hL hdW (1+i) x (by rw[hDl];exact hx) _ hm.leV) ?_
   refine Qc (.a (.v _)) rfl j5c (fun hg E w1 hm=>by exact j0n x (hsz x (List.mem_of_getElem? hx)) _) ?_
   refine QE 5 [2,4,6,8,20,21] rfl<|Qw<|QC<|Yy 2 rfl<|QZ rfl (z1q tok 1 rfl rfl rfl) fun _ _=>QZ rfl (z0g tok [I (z7b x).1] rfl (fun E w hm=>z09 (hm.row _ _ _ _ _ rfl)) (fun _ _ _=>by intro u hu;simp only[List.mem_singleton]at hu;subst hu;rfl) (by dsimp only;omega)) fun _ _=> ?_
   refine QE 1 [2,4,6,20,21] rfl<|QM<|Qw<|QC<|QE 2 [2,4,6,20,21] rfl<|Qw ?_
   rw[hx2,hwi]
   refine z00 2 4 rfl<|Qr (i+1) (by omega)
  ·
   refine QN<|QK<|QK<|QQ<|Qw<|QA<|QC<|QE 3 [4,5] rfl<|Qw<|QO<|z0h tok rfl ?_
   have hin:i=nd:=by omega
   subst hin
   intro E w' hm _
   refine⟨⟨_,by rw[hz];rfl, ?_⟩,hm.below hle0⟩
   rw[hle32,z8q]
   exact hm.rowFresh hle0 (l:=2) rfl
theorem zqq(V:Vw)(g:Geo)(ok:g.Ok)(d:Device)(w:World)(hV:V.le (vw w))(hd0:DevIn V d)(hsz: ∀s∈d.s.l,s.size≤maxLen):
  Cl 18 #[g.val,d.val] w (zvp z0a 3 1 (z6s g d) (svE g d) w):=by
 have hgeo:=fun h=>z62 (z4y (g:=g) (d:=d) h).1
 obtain⟨⟨sv,sl⟩,⟨cv,cl⟩,⟨kv,kl⟩,nx,⟨fv,fl⟩⟩:=d
 obtain⟨a1,n1,c1,rfl⟩:=z04 hd0.s.sl
 obtain⟨a2,n2,c2,rfl⟩:=z04 hd0.cache.sl
 obtain⟨a3,n3,c3,rfl⟩:=z04 hd0.keys.sl
 obtain⟨a4,n4,c4,rfl⟩:=z04 hd0.fenced.sl
 have hS:=hd0.s.mono hV
 generalize hD:(⟨⟨.slice a1 n1 c1,sl⟩,⟨.slice a2 n2 c2,cl⟩,⟨.slice a3 n3 c3,kl⟩,nx,⟨.slice a4 n4 c4,fl⟩⟩:Device)=D at*
 have hval:D.val= .agg #[.slice a1 n1 c1, .slice a2 n2 c2, .slice a3 n3 c3,I nx, .slice a4 n4 c4]:=by rw[←hD]
 have hDl:D.s.l=sl:=by rw[←hD]
 have hDv:D.s.v= .slice a1 n1 c1:=by rw[←hD]
 have hck:=fun(w1:World) (hle:(vw w).le (vw w1))=>z8f (vw w) g ok D w1 hle (hd0.mono hV) hsz
 rw[hDv,hDl]at hS
 rw[hDl]at hsz hgeo
 have hle32:z6s g D=if svE g D=0 then z43 sl g.nodes.toNat else []:=by rw[z6s,hDl]
 rw[hval]at hck⊢
 clear hD
 refine Qf [.a (.v g.val), .a (.v (.agg #[.slice a1 n1 c1, .slice a2 n2 c2, .slice a3 n3 c3,I nx, .slice a4 n4 c4]))] Tryz.func18 rfl<|QA<|QC<|QE 4 [2,3] rfl<|Qw<|QA<|QC<|Yy 2 rfl<|Qc (.a (.v _)) rfl znw (fun hg E w1 hm=>by exact hck _ hm.leV) ?_
 refine QE 1 [2,3,6] rfl<|Qw<|QA<|QA<|QC<|QE 2 [2,3,6,15] rfl<|Qw<|Qn rfl (fun h=> ?_) fun h=> ?_
 ·
  refine QA<|QC<|QE 3 [4,5] rfl<|Qw<|QO<|QL<|z0h tok rfl ?_
  have hne: ¬svE g D=0:=by simpa using h
  intro E w' hm _
  refine⟨⟨.slice none 0 0,rfl, ?_⟩,hm.below lr⟩
  rw[hle32,if_neg hne]
  exact⟨rfl, .inl ⟨rfl,rfl⟩⟩
 ·
  have hz:svE g D=0:=by simpa using h
  clear h
  rw[if_pos hz]at hle32
  obtain⟨hG,hln⟩:=hgeo hz
  have hf:=z0b hG
  obtain⟨hi1,hi2,hi3⟩:=zbb hG hln
  refine QI<|Qw<|QA<|QC<|QE 1 [2,3,7] rfl<|Qw<|QA<|QA<|QC<|QE 1 [2,3,7,8] rfl<|Qw<|QJ<|z6l 7 3 1 rfl rfl<|Ql [2,3] [2] rfl rfl (σ:=Nat) (fun i=>[(7, .a (.row 2)),(8, .a (.v (I i)))]) (fun i=>[(2, .row 3 1 i ((z43 sl i).flatMap z0a))]) (fun i=>(i:Int)≤g.nodes) (fun i=>g.nodes.toNat - i) (0) (by omega) ?_
  rintro i hi
  refine QA<|QA<|QC<|QE 4 [2,3,7,8,20] rfl<|Qw<|QX rfl (fun h=> ?_) fun h=> ?_
  ·
   refine QI<|Qw<|QA<|QJ<|QA<|z11 mixed (by kernel_rfl)<|Dm 4 rfl ?_
   obtain⟨x,hx⟩:=atx (L:=sl) (k:=1+i) (by omega)
   have hgd:sl.getD (1+i) ByteArray.empty=x:=by simp[List.getD,hx]
   have hwi:IntKind.i64.wrap ((i:Int)+1)=((i+1:Nat):Int):=z06 (by omega) (by omega)
   have hx2:(z43 sl i).flatMap z0a++[I (z7b x).1]=(z43 sl (i+1)).flatMap z0a:=by rw[zbq,hgd];simp
   refine Qq (.a (.v _)) rfl j6q (fun hg E w1 hm=>by exact zvm g ok hG i (by omega) _) ?_
   rw[show 1+(i:Int)=((1+i:Nat):Int) by omega]
   have hlt_x:=z01 hx
   refine Qd rfl (z0c tok rfl (fun hg=>hS.sl) (fun hg=>⟨by omega,by omega⟩))<|Qd rfl (z08 tok (1+i) 0 (x) rfl (fun hg=>hS) (fun hg=>hx) rfl rfl)<|Qq (.a (.v _)) rfl j5s (fun hg E w1 hm=>by exact j27 x (hsz x (List.mem_of_getElem? hx)) _) ?_
   refine Dm 5 rfl<|z1z [2,3,7,8,9] rfl<|Qw<|QC<|Yy 2 rfl<|QZ rfl (z1q tok 1 rfl rfl rfl) fun _ _=>QZ rfl (z0g tok [I (z7b x).1] rfl (fun E w hm=>z09 (hm.row _ _ _ _ _ rfl)) (fun _ _ _=>by intro u hu;simp only[List.mem_singleton]at hu;subst hu;rfl) (by dsimp only;omega)) fun _ _=> ?_
   refine QE 1 [2,3,7,8] rfl<|QM<|Qw<|QC<|QE 3 [2,3,7,8] rfl<|Qw ?_
   rw[hx2,hwi]
   refine z00 2 4 rfl<|Qr (i+1) (by omega)
  ·
   refine QN<|QK<|QK<|QQ<|Qw<|QA<|QC<|QE 3 [4,5] rfl<|Qw<|QO<|z0h tok rfl ?_
   have hin:i=g.nodes.toNat:=by omega
   subst hin
   intro E w' hm _
   refine⟨⟨_,by rw[hz];rfl, ?_⟩,hm.below lr⟩
   rw[hle32,z8q]
   exact hm.rowFresh lr (l:=2) rfl
theorem z6x{g:Geo}{d:Device}{A:Nat→List Record}(hG:z2y g=true)(hA:RowsAll g d A){i:Nat}(hi:i<(tbS g d).S.length):(A i).length≤64:=by
 have hf:=z0b hG
 obtain⟨s,hs⟩: ∃s,(tbS g d).S[i]? =some s:=⟨_,List.getElem?_eq_getElem hi⟩
 by_cases hk:s.key=0
 · rw[hA.no i s hs hk];simp
 ·
  have:=(hA.at_ i s hs hk).few
  omega
theorem zmq{g:Geo}{d:Device}(h:z3o g d=true):(zc0 g d).2=0:=by
 simp only[z3o,Bool.and_eq_true,decide_eq_true_eq]at h
 exact h.2.2.2
theorem zn0(V:Vw)(g:Geo)(ok:g.Ok)(hG:z2y g=true)(d:Device)(hdi:DevIn V d)(hln:(d.s.l.length:Int)=z5j g)(hsz: ∀s∈d.s.l,s.size≤maxLen)(A:Nat→List Record)(hA:RowsAll g d A)(b1:Option Addr)(m1 e1:Nat)(b2:Option Addr)(m2 e2:Nat)(b3:Option Addr)(m3 e3:Nat)(hT:z3j V (.agg #[.slice b1 m1 e1, .slice b2 m2 e2, .slice b3 m3 e3]) (tbS g d))(i:Nat)(hi:(i:Int)<g.slots)(w:World)(hV:V.le (vw w)):
  Cl 30 #[g.val,d.val, .agg #[.slice b1 m1 e1, .slice b2 m2 e2, .slice b3 m3 e3],I i] w fun e w'=> ∃v V',e= .returned v∧Below w.heap.size w w'∧Vext w.heap.size V V' w'∧zpl (A i) v V':=by
 have hf:=z0b hG
 have hlen:=z9e hG d
 obtain⟨_,_,_,_,_,_,_,_,_,he,hTS0,_,_⟩:=hT
 simp only[Value.agg.injEq,Array.mk.injEq,List.cons.injEq,and_true]at he
 obtain⟨h1,h2,h3⟩:=he
 rw[←h1]at hTS0
 clear h1 h2 h3
 have hat:=hA.at_ i
 have hno:=hA.no i
 generalize (tbS g d).S=TS at*
 obtain⟨⟨sv,sl⟩,⟨cv,cl⟩,⟨kv,kl⟩,nx,⟨fv,fl⟩⟩:=d
 obtain⟨a1,n1,c1,rfl⟩:=z04 hdi.s.sl
 obtain⟨a2,n2,c2,rfl⟩:=z04 hdi.cache.sl
 obtain⟨a3,n3,c3,rfl⟩:=z04 hdi.keys.sl
 obtain⟨a4,n4,c4,rfl⟩:=z04 hdi.fenced.sl
 have hS0:=hdi.s
 dsimp only at hS0 hat hln hsz
 have hS:=hS0.mono hV
 have hTS:=hTS0.mono hV
 obtain⟨s,h_s⟩:=atx (L:=TS) (k:=i) (by omega)
 obtain⟨q,hq,hqt⟩:=zaw hG (i:=i) (by omega)
 have hql:q<sl.length:=by omega
 obtain⟨x,hx⟩: ∃x,sl[q]? =some x:=⟨_,List.getElem?_eq_getElem hql⟩
 have hgd:sl.getD (z1o g (i:Int)).toNat ByteArray.empty=x:=by rw[hq];simp[List.getD,hx]
 rw[hgd]at hat
 refine Qf [.a (.v g.val), .a (.v (.agg #[.slice a1 n1 c1, .slice a2 n2 c2, .slice a3 n3 c3,I nx, .slice a4 n4 c4])), .a (.v (.agg #[.slice b1 m1 e1, .slice b2 m2 e2, .slice b3 m3 e3])), .a (.v (I i))] Tryz.func30 rfl<|QA<|QC<|QE 4 [3,4,5,6] rfl<|Qw<|QA<|QC<|Yy 3 rfl ?_
 have hlt_s:=z01 h_s
 refine QY rfl (z0c tok rfl (fun hg=>hTS.sl) (fun hg=>⟨by omega,by omega⟩))<|QY rfl (z1f tok rfl (fun hg=>hTS.sl) (fun hg=>by omega))<|QY rfl (z08 tok (i) 0 (s) rfl (fun hg=>hTS) (fun hg=>h_s) rfl rfl)<|QE 1 [3,4,5,9] rfl<|Qw<|QA<|z11 mixed (by kernel_rfl)<|Dm 4 rfl<|Qq (.a (.v _)) rfl zch (fun hg E w1 hm=>by exact z5k g ok i _) ?_
 rw[hq]
 have hlt_x:=z01 hx
 refine Qd rfl (z0c tok rfl (fun hg=>hS.sl) (fun hg=>⟨by omega,by omega⟩))<|Qd rfl (z08 tok (q) 0 (x) rfl (fun hg=>hS) (fun hg=>hx) rfl rfl)<|Qq (.a (.v _)) rfl zuj (fun hg E w1 hm=>by exact zgu x (hsz x (List.mem_of_getElem? hx)) _) ?_
 refine Dm 5 rfl<|z1z [3,4,5,9,10] rfl<|Qw<|QA<|QA<|QC<|QE 2 [3,4,5,9,10,30] rfl<|Qw<|QX rfl (fun h=> ?_) fun h=> ?_
 ·
  refine QA<|QC<|QE 1 [8] rfl<|Qw<|QO<|QL<|Qb rfl fun E w' hm=> ?_
  exact⟨_,V,rfl,hm.below lr,⟨Vw.le.refl _,fun k o hk=>⟨(hV.trans hm.leV).get k o hk, .inl hk⟩⟩,none,0,0,rfl,by rw[hno s h_s (by omega)];exact zij _ _ _ _ (fun _=>rfl)⟩
 ·
  refine QI<|Qw<|QA<|QC<|Yy 5 rfl ?_
  have hrow:=hat s h_s (by omega)
  refine Qv (fun v V'=> ∃V2:Vw,V2.le V'∧V.le V2∧(∀k o,V2.get k=some o→V.get k=some o∨w.heap.size≤k)∧zpl (A i) v V2) rfl j63 (fun hg E w1 hm=>by exact(zz1 (hV.trans hm.leV) (j2p V g ok (i:Int) s.key (z3l x) sl (A i) hrow a1 a2 a3 a4 n1 c1 n2 c2 n3 c3 n4 c4 nx _ (hV.trans hm.leV) hS0)).mono fun e w' h=>z1w (hm.below lr).size hV hm.leV h) ?_
  rintro v W0 hle0 hv
  obtain⟨Z,hZ0,hVZ,hgt,ra,rk,rc,rfl,hr⟩:=hv rfl
  clear hv
  refine QE 1 [8] rfl<|Qw<|QO<|Qb rfl fun E w' hm=> ?_
  exact⟨_,Z,rfl,hm.below hle0,⟨hVZ,fun k o hk=>⟨(hZ0.trans hm.leV).get k o hk,hgt k o hk⟩⟩,ra,rk,rc,rfl,hr⟩
def z7q(g:Geo)(d:Device)(A:Nat→List Record):List View:=if svE g d=0 then z6e g d A g.slots.toNat else []
theorem znj{l:List Record}{k:Nat}{r:Record}(h:l[k]? =some r):z5l (l.take (k+1))=z5l (l.take k)+if 0<r.count then 1 else 0:=by
 rw[z0y h,zp1]
theorem zn9(x:View): ∀u∈x.cells,u.oneCell'=true:=by
 intro u hu
 simp only[View.cells,List.mem_cons,List.not_mem_nil,or_false]at hu
 rcases hu with rfl|rfl|rfl|rfl|rfl|rfl<;>rfl
theorem zow(V:Vw)(g:Geo)(ok:g.Ok)(d:Device)(w:World)(hV:V.le (vw w))(hd0:DevIn V d)(hsz: ∀s∈d.s.l,s.size≤maxLen)(A:Nat→List Record)(hA:svE g d=0→RowsAll g d A):
  Cl 7 #[g.val,d.val] w (zvp View.cells 54 6 (z7q g d A) (svE g d) w):=by
 have hgeo:=fun h=>z62 (z4y (g:=g) (d:=d) h).1
 have hlg:=fun h=>zmq (z4y (g:=g) (d:=d) h).2
 obtain⟨⟨sv,sl⟩,⟨cv,cl⟩,⟨kv,kl⟩,nx,⟨fv,fl⟩⟩:=d
 obtain⟨a1,n1,c1,rfl⟩:=z04 hd0.s.sl
 obtain⟨a2,n2,c2,rfl⟩:=z04 hd0.cache.sl
 obtain⟨a3,n3,c3,rfl⟩:=z04 hd0.keys.sl
 obtain⟨a4,n4,c4,rfl⟩:=z04 hd0.fenced.sl
 have hS:=hd0.s.mono hV
 generalize hD:(⟨⟨.slice a1 n1 c1,sl⟩,⟨.slice a2 n2 c2,cl⟩,⟨.slice a3 n3 c3,kl⟩,nx,⟨.slice a4 n4 c4,fl⟩⟩:Device)=D at*
 have hval:D.val= .agg #[.slice a1 n1 c1, .slice a2 n2 c2, .slice a3 n3 c3,I nx, .slice a4 n4 c4]:=by rw[←hD]
 have hDl:D.s.l=sl:=by rw[←hD]
 have hDv:D.s.v= .slice a1 n1 c1:=by rw[←hD]
 have hck:=fun(w1:World) (hle:(vw w).le (vw w1))=>z8f (vw w) g ok D w1 hle (hd0.mono hV) hsz
 have hall:=fun(w1:World) (hle:(vw w).le (vw w1))=>zhd (vw w) g ok D w1 hle (hd0.mono hV) hsz
 have hrw:=fun(hG:z2y g=true) hln hA b1 m1 e1 b2 m2 e2 b3 m3 e3 (W:Vw) (h0:(vw w).le W) hT i hi (w1:World) (hle:W.le (vw w1))=>zn0 W g ok hG D ((hd0.mono hV).mono h0) hln hsz A hA b1 m1 e1 b2 m2 e2 b3 m3 e3 hT i hi w1 hle
 rw[hDv,hDl]at hS
 have hszl: ∀s∈sl,s.size≤maxLen:=by rw[←hDl];exact hsz
 rw[hval]at hck hall hrw⊢
 clear hD
 refine Qf [.a (.v g.val), .a (.v (.agg #[.slice a1 n1 c1, .slice a2 n2 c2, .slice a3 n3 c3,I nx, .slice a4 n4 c4]))] Tryz.func7 rfl<|QA<|QC<|QE 4 [2,3] rfl<|Qw<|QA<|QC<|Yy 2 rfl<|Qc (.a (.v _)) rfl znw (fun hg E w1 hm=>by exact hck _ hm.leV) ?_
 refine QE 1 [2,3,6] rfl<|Qw<|QA<|QA<|QC<|QE 2 [2,3,6,19] rfl<|Qw<|Qn rfl (fun h=> ?_) fun h=> ?_
 ·
  refine QA<|QC<|QE 3 [4,5] rfl<|Qw<|QO<|QL<|z0h tok rfl ?_
  have hne: ¬svE g D=0:=by simpa using h
  intro E w' hm _
  refine⟨⟨.slice none 0 0,rfl, ?_⟩,hm.below lr⟩
  rw[z7q,if_neg hne]
  exact⟨rfl, .inl ⟨rfl,rfl⟩⟩
 ·
  have hz:svE g D=0:=by simpa using h
  clear h
  obtain⟨hG,hln⟩:=hgeo hz
  have hA:=hA hz
  have hf:=z0b hG
  have hlns:(sl.length:Int)=z5j g:=by rw[←hDl];exact hln
  obtain⟨hi1,hi2,hi3⟩:=zbb hG hlns
  have hlen:=z9e hG D
  refine QI<|Qw<|QA<|QC<|Yy 2 rfl<|Qv (zzn g D) rfl zt4 (fun hg E w1 hm=>by exact hall _ hm.leV) ?_
  rintro y W0 hle0 hy
  obtain⟨b1,m1,e1,b2,m2,e2,b3,m3,e3,n,rfl,hT0⟩:=hy rfl
  clear hy
  have hT:=hT0 (hlg hz)
  clear hT0
  obtain⟨_,_,_,_,_,_,_,_,_,he,hTS,_,_⟩:=id hT
  simp only[Value.agg.injEq,Array.mk.injEq,List.cons.injEq,and_true]at he
  obtain⟨h1,h2,h3⟩:=he
  rw[←h1]at hTS
  clear h1 h2 h3
  refine Yy 5 rfl<|Qs rfl<|QE 2 [2,3,7] rfl<|Qw<|QA<|QC<|QE 1 [2,3,7,10] rfl<|Qw<|QA<|QA<|QC<|QE 1 [2,3,7,10,11] rfl<|Qw<|QJ<|z6l 10 54 6 rfl rfl<|Lv [2,3,7] [3] rfl rfl (σ:=Nat×Vw) (fun(i,W)=>[(10, .a (.row 3)),(11, .a (.v (I i)))]) (fun(i,W)=>[(3, .row 54 6 i ((z6e g D A i).flatMap View.cells))]) (fun(i,W)=>W) (fun(i,W)=>(i:Int)≤g.slots∧W0.le W) (fun(i,W)=>g.slots.toNat - i) ((0,W0)) (⟨by omega,Vw.le.refl _⟩) ?_
  rintro⟨i,W⟩ ⟨hi,hW⟩
  dsimp only at hi hW⊢
  refine QA<|QA<|QC<|QE 4 [2,3,7,10,11,31] rfl<|Qw<|QX rfl (fun h=> ?_) fun h=> ?_
  ·
   refine QI<|Qw<|QA<|QJ<|QA<|QC<|Yy 4 rfl ?_
   have hi':i<(tbS g D).S.length:=by omega
   have hfew:=z6x hG hA hi'
   obtain⟨s,h_s⟩: ∃s,(tbS g D).S[i]? =some s:=⟨_,List.getElem?_eq_getElem hi'⟩
   have hsd:(tbS g D).S.getD i ⟨0,0⟩=s:=by simp[List.getD,h_s]
   obtain⟨q,hq,hqt⟩:=zaw hG (i:=i) (by omega)
   have hql:q<sl.length:=by omega
   obtain⟨x,hx⟩: ∃x,sl[q]? =some x:=⟨_,List.getElem?_eq_getElem hql⟩
   have hgd:D.s.l.getD (z1o g (i:Int)).toNat ByteArray.empty=x:=by rw[hDl,hq];simp[List.getD,hx]
   have hwi:IntKind.i64.wrap ((i:Int)+1)=((i+1:Nat):Int):=z06 (by omega) (by omega)
   have hsucc:=zek g D A i
   rw[hsd,hgd]at hsucc
   have hr1:=fun(w1:World) (hle:W.le (vw w1))=>hrw hG hln hA b1 m1 e1 b2 m2 e2 b3 m3 e3 W (hle0.trans hW) (hT.mono hW) i (by omega) w1 hle
   generalize A i=L at hsucc hfew hr1
   refine Qv (zpl L) rfl zza (fun hg E w1 hm=>by exact hr1 _ hm.leV) ?_
   rintro v W2 hle2 hv
   obtain⟨ra,rk,rc,rfl,hr⟩:=hv rfl
   clear hv
   obtain⟨ra',rc',he,_⟩:=zim hr.sl
   cases he
   have hTS2:=(hTS.mono hW).mono hle2
   have hS2:=((hS.mono hle0).mono hW).mono hle2
   refine QE 1 [2,3,7,10,11,12] rfl<|Qw<|QA<|zi0 (σ:=Unit) (fun _=>[(2, .a (.ptr 0 0)),(3, .a (.ptr 1 0)),(7, .a (.ptr 2 0)),(10, .a (.row 3)),(11, .a (.v (I i))),(12, .a (.v (.slice ra L.length rc))),(13, .a (.ptr 4 0))]) (fun _=>[(0, .lit (g.cells.map .v) 23),(1, .lit [.v (.slice a1 n1 c1), .v (.slice a2 n2 c2), .v (.slice a3 n3 c3), .v (I nx), .v (.slice a4 n4 c4)] 28),(2, .lit [.v (.slice b1 m1 e1), .v (.slice b2 m2 e2), .v (.slice b3 m3 e3)] 70),(3, .row 54 6 i ((z6e g D A i).flatMap View.cells)),(4, .lit [.v (I s.key), .v (I s.claim), .v (I 0), .v (I L.length), .v (I (whole L)), .v (I 0)] 54)]) (5) (fun _=>W2) (fun _=>True) mixed ?_ ?_
   ·
    refine QT [0,1,2] rfl<|Qt 3 rfl rfl (z0c tok rfl (fun hg=>hTS2.sl) (fun hg=>⟨by omega,by omega⟩))<|Qt 4 rfl rfl (z1f tok rfl (fun hg=>hTS2.sl) (fun hg=>by omega))<|Qt 5 rfl rfl (z08 tok (i) 0 (s) rfl (fun hg=>hTS2) (fun hg=>h_s) rfl rfl)<|QT [6,7,8] rfl<|Qt 9 rfl rfl (z0c tok rfl (fun hg=>hTS2.sl) (fun hg=>⟨by omega,by omega⟩))<|Qt 10 rfl rfl (z1f tok rfl (fun hg=>hTS2.sl) (fun hg=>by omega)) ?_
    refine Qt 11 rfl rfl (z08 tok (i) 1 (s) rfl (fun hg=>hTS2) (fun hg=>h_s) rfl rfl)<|QT [12] rfl<|Qt 13 rfl rfl (z8n tok rfl)<|QT [14] rfl<|QS<|Qz 15 17 ?_ ?_
    ·
     refine Qh 15 (.a (.v (I (whole L)))) rfl rfl ztc (fun hg E w1 hm=>by exact zh2 W2 _ L _ hm.leV hr (by omega)) ?_
     refine Qz 16 17 ?_ ?_
     ·
      refine yH 16 rfl rfl rfl rfl rfl<|Qo 17<|Qk 17 rfl rfl rfl rfl<|Qo 18<|Qi 18 rfl<|Qe [2,3,7,10,11,12,13] rfl ?_
      exact Qm () trivial
     ·
      refine Qk 17 rfl rfl rfl rfl<|Qx [16] rfl<|Qo 18<|Qi 18 rfl<|Qe [2,3,7,10,11,12,13] rfl ?_
      exact Qm () trivial
    ·
     refine Qk 17 rfl rfl rfl rfl<|Qo 15<|Qh 15 (.a (.v (I (whole L)))) rfl rfl ztc (fun hg E w1 hm=>by exact zh2 W2 _ L _ hm.leV hr (by omega)) ?_
     refine Qx [16] rfl<|Qo 18<|Qi 18 rfl<|Qe [2,3,7,10,11,12,13] rfl ?_
     exact Qm () trivial
   rintro⟨⟩ -
   refine Qw<|QA<|Rb [12] rfl<|QD [0,1,2,3] rfl<|QS<|Qo 4<|Qh 4 (.a (.v _)) rfl rfl zch (fun hg E w1 hm=>by exact z5k g ok i _) ?_
   refine Qo 5 ?_
   rw[hq]
   have hlt_x:=z01 hx
   refine Qy 5 rfl rfl (z0c tok rfl (fun hg=>hS2.sl) (fun hg=>⟨by omega,by omega⟩))<|Qo 6<|Qy 6 rfl rfl (z08 tok (q) 0 (x) rfl (fun hg=>hS2) (fun hg=>hx) rfl rfl)<|Qo 7<|Qh 7 (.a (.v _)) rfl rfl zuj (fun hg E w1 hm=>by exact zgu x (hszl x (List.mem_of_getElem? hx)) _) ?_
   refine Qx [8] rfl<|z92 9 rfl (by kernel_rfl) rfl rfl rfl rfl (yV rfl) rfl<|zee 10 rfl (by kernel_rfl) rfl rfl rfl (fun _=>z72 tok rfl) rfl<|Qx [11] rfl<|Qo 12<|Qj 12 rfl<|Qe [2,3,7,10,11,12,13] rfl<|Qw<|QA<|QA<|QC<|QE 1 [2,3,7,10,11,12,13,14] rfl<|Qw<|QJ ?_
   have hwl:=za6 L
   refine Ql [2,3,7,10,11,12,13] [4] rfl rfl (σ:=Nat) (fun k=>[(14, .a (.v (I k)))]) (fun k=>[(4, .lit [.v (I s.key), .v (I s.claim), .v (I (z3l x)), .v (I L.length), .v (I (whole L)), .v (I (z5l (L.take k)))] 54)]) (fun k=>k≤whole L) (fun k=>whole L - k) (0) (by omega) ?_
   rintro k hk
   have htx:=zol (L.take k)
   have htl:(L.take k).length≤k:=by rw[List.length_take];omega
   have hwk:IntKind.i64.wrap ((k:Int)+1)=((k+1:Nat):Int):=z06 (by omega) (by omega)
   refine QA<|QA<|QC<|QE 4 [2,3,7,10,11,12,13,14,71] rfl<|Qw<|QX rfl (fun h=> ?_) fun h=> ?_
   ·
    refine QI<|Qw<|QA<|QJ<|QA<|QC<|Yy 2 rfl ?_
    obtain⟨r,h_r⟩:=atx (L:=L) (k:=k) (by omega)
    have hst:=znj h_r
    have hlt_r:=z01 h_r
    refine QY rfl (z0c tok rfl (fun hg=>hr.sl) (fun hg=>⟨by omega,by omega⟩))<|QY rfl (z1f tok rfl (fun hg=>hr.sl) (fun hg=>by omega))<|QY rfl (z08 tok (k) 5 (r) rfl (fun hg=>hr) (fun hg=>h_r) rfl rfl)<|QE 1 [2,3,7,10,11,12,13,14,79] rfl<|Qw<|QX rfl (fun h=> ?_) fun h=> ?_
    ·
     refine QC<|Yy 4 rfl<|Qs rfl<|z07 [2,3,7,10,11,12,13,14] rfl<|QM<|Qw<|QC<|QE 3 [2,3,7,10,11,12,13,14] rfl<|Qw ?_
     rw[if_pos h]at hst
     rw[z06 (n:=(z5l (L.take k):Int)+1) (by omega) (by omega),show(z5l (L.take k):Int)+1=(z5l (L.take (k+1)):Int) by omega,hwk]
     refine Qr (k+1) (by omega)
    ·
     refine QI<|QM<|Qw<|QC<|QE 3 [2,3,7,10,11,12,13,14] rfl<|Qw ?_
     have hst2:z5l (L.take (k+1))=z5l (L.take k):=by rw[hst,if_neg (by omega)];rfl
     rw[←hst2,hwk]
     refine Qr (k+1) (by omega)
   ·
    refine QN<|QK<|QK<|QQ<|Qw<|QC<|Yy 2 rfl ?_
    have hkw:k=whole L:=by omega
    subst hkw
    refine QZ rfl (z1q tok 6 rfl rfl rfl) fun _ _=>QZ rfl (z0g tok ((zg4 s (z3l x) L).cells) rfl (fun E w hm=>z09 (hm.row _ _ _ _ _ rfl)) (fun _ _ _=>zn9 _) (by dsimp only;omega)) fun _ _=>QE 1 [2,3,7,10,11] rfl<|QM<|Qw<|QC<|QE 3 [2,3,7,10,11] rfl<|Qw ?_
    have hx2:(z6e g D A i).flatMap View.cells++(zg4 s (z3l x) L).cells=(z6e g D A (i+1)).flatMap View.cells:=by rw[hsucc];simp
    rw[hx2,hwi]
    refine z00 3 6 rfl<|Qr ((i+1,W2))<|⟨by dsimp only;omega,hW.trans hle2⟩
  ·
   refine QN<|QK<|QK<|QQ<|Qw<|QA<|QC<|QE 3 [4,5] rfl<|Qw<|QO<|z0h tok rfl ?_
   have hin:i=g.slots.toNat:=by omega
   subst hin
   intro E w' hm _
   refine⟨⟨_,by rw[hz];rfl, ?_⟩,hm.below (hle0.trans hW)⟩
   rw[z7q,if_pos hz,zgf]
   exact hm.rowFresh (hle0.trans hW) (l:=3) rfl
def zf1(g:Geo)(d:Device)(A:Nat→List Record)(i:Nat):View:=zg4 ((tbS g d).S.getD i ⟨0,0⟩) (z3l (d.s.l.getD (z1o g (i:Int)).toNat ByteArray.empty)) (A i)
theorem ztm(g:Geo)(d:Device)(A:Nat→List Record)(k:Nat){xs:List (Nat×Value)}(h:xs.map (·.1)=List.range k):xs.map (fun x=>zf1 g d A x.1)=z6e g d A k:=by
 have:xs.map (fun x=>zf1 g d A x.1)=(xs.map (·.1)).map (zf1 g d A):=by rw[List.map_map];rfl
 rw[this,h]
 rfl
theorem zfz(V:Vw)(g:Geo)(ok:g.Ok)(d:Device)(w:World)(hV:V.le (vw w))(hd0:DevIn V d)(hsz: ∀s∈d.s.l,s.size≤maxLen)(A:Nat→List Record)(hA:svE g d=0→RowsAll g d A):
  Cl 6 #[g.val,d.val] w (zvp View.cells 54 6 (z7q g d A) (svE g d) w):=by
 have hgeo:=fun h=>z62 (z4y (g:=g) (d:=d) h).1
 have hdw:=hd0.mono hV
 have hbeg0:=fun(w1:World) (hle:(vw w).le (vw w1))=>zc8 (vw w) g ok d w1 hle hdw hsz
 obtain⟨a1,a2,a3,a4,n1,c1,n2,c2,n3,c3,n4,c4,nx,hval⟩: ∃a1 a2 a3 a4 n1 c1 n2 c2 n3 c3 n4 c4 nx,d.val=zev a1 a2 a3 a4 n1 c1 n2 c2 n3 c3 n4 c4 nx:=by
  obtain⟨⟨sv,sl⟩,⟨cv,cl⟩,⟨kv,kl⟩,nx,⟨fv,fl⟩⟩:=d
  obtain⟨a1,n1,c1,rfl⟩:=z04 hd0.s.sl
  obtain⟨a2,n2,c2,rfl⟩:=z04 hd0.cache.sl
  obtain⟨a3,n3,c3,rfl⟩:=z04 hd0.keys.sl
  obtain⟨a4,n4,c4,rfl⟩:=z04 hd0.fenced.sl
  exact⟨a1,a2,a3,a4,n1,c1,n2,c2,n3,c3,n4,c4,nx,rfl⟩
 have hbeg:=hbeg0
 rw[hval]at hbeg⊢
 clear hbeg0
 refine zrh<|zkc 9 (E:=E0) (O:=[]) (nl:=0) (V:=vw w) [.a (.v g.val), .a (.v (zev a1 a2 a3 a4 n1 c1 n2 c2 n3 c3 n4 c4 nx))] Tryz.func6 rfl rfl (zhn E0 0 w) rfl rfl<|z1j<|Rr<|QE 4 [2,3,4] rfl<|rq<|Qw<|z1j<|Rr<|Yy 2 rfl<|Qv (j4i g d) rfl zn4 (fun hg E w1 hm=>by exact hbeg _ hm.leV) ?_
 rintro x W0 hle0 hx
 obtain⟨p,rfl,hlook⟩:=hx rfl
 clear hx
 refine Yy 4 rfl<|Qs rfl<|QE 1 [4,5,6] rfl<|rq<|Qw ?_
 iterate 2 refine z1j ?_
 refine Rr<|QE 2 [4,5,6,20] rfl<|rq<|Qw<|z50 rfl (fun h=> ?_) fun h=> ?_
 ·
  refine z1j<|Rr<|Yy 1 rfl<|Qs rfl<|QE 1 [4,5] rfl<|rq<|Qw<|zbx<|QL<|zei tok rfl ?_
  have hne: ¬svE g d=0:=by simpa using h
  intro E w' hm _
  refine⟨⟨.slice none 0 0,rfl, ?_⟩,hm.below hle0⟩
  rw[z7q,if_neg hne]
  exact⟨rfl, .inl ⟨rfl,rfl⟩⟩
 ·
  have hz:svE g d=0:=by simpa using h
  clear h
  obtain⟨hG,hln⟩:=hgeo hz
  obtain⟨b,rfl,hL⟩:=hlook hz
  have hA:=hA hz
  have hf:=z0b hG
  have hlen:=z9e hG d
  obtain⟨n,hn⟩: ∃n,g.slots.toNat=n:=⟨_,rfl⟩
  rw[hn]at hlen
  refine z5i<|Qw ?_
  iterate 2 refine z1j ?_
  refine Rr<|Yy 1 rfl<|z9r 2 0 54 6 rfl rfl<|zi1 [4,6,22] [2,4] rfl (by repeat (first|exact fN|refine fC rfl ?_)) rfl rfl fun Ea V1 hle1 hlit _=> ?_
  have hb6:=hlit 3 _ _ rfl rfl
  refine Qv (fun v V2=> ∃bw,v= .func (.func 58) #[] #[Ptr bw]∧V2.get bw=some (.cells [Ptr b].toArray 57 (0,0))) rfl zyz (fun hg E w1 hm=>by exact zte V1 b _ hm.leV) ?_
  rintro v V2 hle2 hv
  obtain⟨bw,rfl,hbw⟩:=hv rfl
  clear hv
  have hle12:=hle1.trans hle2
  have hdi:=(hdw.mono hle0).mono hle12
  refine z07 [4,6,23] rfl<|rq<|Qw<|z3c<|zmy (α:=Nat×Value) (σ:=List View) (τ:=Unit) (by omega) rfl zzh (fun x=>I (x.1:Int)) (fun x=>x.2) (j83 A n) (fun xs=>xs.map (·.1)=List.range n) (fun _=>True) n [(4, .a (.v (Ptr (Ea.ρ 2)))),(6, .a (.v (Ptr (Ea.ρ 3))))] (fun s=>[(2, .lit [.row 4] 30),(4, .row 54 6 s.length (s.flatMap View.cells)),(6, .keep 2 (Ea.ρ 2) (Ea.κ 2))]) (fun xs s=>s=xs.map fun x=>zf1 g d A x.1) (fun _=>[]) (fun _ _=>False) .ret [] (by repeat (first|exact fN|refine fC rfl ?_)) rfl rfl (by repeat (first|exact oN|refine oC rfl ?_)) (fun _=>rfl) (fun _=>rfl) rfl rfl (fun w0 hw=>zkd V2 bw b g ok hG d hdi A hA (zab.mono hL hle12) hbw n hn _ w0 hw) ?_ ?_ ?_
  ·
   intro l pre x s1 Vx Vf sz hI hlen1 hVx hxf hPE
   obtain⟨i,xv⟩:=x
   obtain⟨hin,ra,rk,rc,hxe,hr0⟩:=hPE
   dsimp only at hin hxe hr0⊢
   subst hxe
   refine z1j<|Rr<|QE 1 [4,6,7,25] rfl<|rq<|Qw<|Rr<|QE 1 [4,6,7,8] rfl<|rq<|zux rfl (by repeat (first|exact lr|assumption|(refine Vw.le.trans ?_ (by assumption)))) fun Vg kz hVg=> ?_
   refine z3c<|z1j ?_
   have hpl:s1.length<n:=by rw[hI,List.length_map];exact hlen1
   have hi':i<(tbS g d).S.length:=by omega
   have hfew:=z6x hG hA hi'
   obtain⟨s,h_s⟩: ∃s,(tbS g d).S[i]? =some s:=⟨_,List.getElem?_eq_getElem hi'⟩
   have hsd:(tbS g d).S.getD i ⟨0,0⟩=s:=by simp[List.getD,h_s]
   have hvn:zf1 g d A i=zg4 s (z3l (d.s.l.getD (z1o g (i:Int)).toNat ByteArray.empty)) (A i):=by rw[zf1,hsd]
   have hleg:=(hle12.trans hVx).trans hVg
   obtain⟨ta,tn,tc,t2,tn2,tc2,t3,tn3,tc3,la,ln,lc,hb,hT,htl⟩:=zab.mono hL hleg
   have hb6g:=((hle2.trans hVx).trans hVg).get _ _ hb6
   obtain⟨_,_,_,_,_,_,_,_,_,he,hTS,_,_⟩:=hT
   simp only[Value.agg.injEq,Array.mk.injEq,List.cons.injEq,and_true]at he
   obtain⟨h1,h2,h3⟩:=he
   rw[←h1]at hTS
   clear h1 h2 h3
   have hti:=zjc (g:=g) (D:=d.s.l) (k:=i) (n:=g.slots.toNat) (by omega)
   generalize z3l (d.s.l.getD (z1o g (i:Int)).toNat ByteArray.empty)=tl at hvn hti
   simp only[zu3,Geo.cells,List.cons_append,List.nil_append]at hb
   have hr:=hr0.mono hVg
   have hwl:=za6 (A i)
   have hwc:=fun w1 hV1=>zo0 Vg ra rk rc (A i) w1 hV1 hr (by omega)
   have hrL0:=zts hr hwl
   have hvo:zf1 g d A i=⟨s.key,s.claim,tl,(A i).length,whole (A i),z5l ((A i).take (whole (A i)))⟩:=hvn
   obtain⟨ra',rc',he,_⟩:=zim hr.sl
   cases he
   generalize hLm:(A i).length=al at*
   obtain⟨L,hLe⟩: ∃L,(A i).take (whole (A i))=L:=⟨_,rfl⟩
   have hLw:L.length=whole (A i):=by rw[←hLe,List.length_take];omega
   rw[hLe]at hrL0 hvo
   generalize whole (A i)=wn at*
   subst hLw
   refine z4k 4 6 2 (Ea.ρ 2) 0 rfl rfl rfl<|Rr<|Yy 1 rfl<|Qc (.a (.v _)) rfl zyr (fun hg E w1 hm=>by exact hwc _ hm.leV) ?_
   refine QE 1 [4,6,7,8,9] rfl<|rq<|Qw<|z1j<|zkx (by intro _ _ w1 h1;first|exact h1|(obtain⟨h2,_⟩:=h1;cases h2;done)|(obtain⟨⟨_,h2⟩,_⟩:=h1;cases h2;done)|(obtain⟨⟨_,h2,_⟩,_⟩:=h1;cases h2;done)|(obtain⟨_,h2,_⟩:=h1;cases h2;done)|(obtain⟨_,_,h2,_⟩:=h1;cases h2;done)|(obtain⟨_,_,_,h2,_⟩:=h1;cases h2;done)|(rcases h1 with⟨⟨_,_,h2,_⟩|⟨_,h2⟩,_⟩<;>cases h2;done)|(exact nor _ h1)) rfl [] mixed rfl (by repeat (first|exact oN|refine oC rfl ?_)) (by first|rfl|simp[z0u,z26]) ?_
   refine Qt 0 rfl rfl (z2p tok rfl (fun hg=>hb6g) rfl)<|QT [1,2,3] rfl<|Qt 4 rfl rfl (z2p tok rfl (fun hg=>hb) rfl)<|QT [5] rfl ?_
   have hlt_s:=z01 h_s
   refine Qt 6 rfl rfl (z0c tok rfl (fun hg=>hTS.sl) (fun hg=>⟨by omega,by omega⟩))<|Qt 7 rfl rfl (z1f tok rfl (fun hg=>hTS.sl) (fun hg=>by omega))<|Qt 8 rfl rfl (z08 tok (i) 0 (s) rfl (fun hg=>hTS) (fun hg=>h_s) rfl rfl)<|Qt 9 rfl rfl (z2p tok rfl (fun hg=>hb6g) rfl)<|QT [10,11,12] rfl<|Qt 13 rfl rfl (z2p tok rfl (fun hg=>hb) rfl)<|QT [14] rfl ?_
   have hlt_s:=z01 h_s
   refine Qt 15 rfl rfl (z0c tok rfl (fun hg=>hTS.sl) (fun hg=>⟨by omega,by omega⟩))<|Qt 16 rfl rfl (z1f tok rfl (fun hg=>hTS.sl) (fun hg=>by omega))<|Qt 17 rfl rfl (z08 tok (i) 1 (s) rfl (fun hg=>hTS) (fun hg=>h_s) rfl rfl)<|Qt 18 rfl rfl (z2p tok rfl (fun hg=>hb6g) rfl)<|QT [19,20] rfl<|Qt 21 rfl rfl (z2p tok rfl (fun hg=>hb) rfl)<|QT [22] rfl ?_
   have hlt_tl:=z01 hti
   refine Qt 23 rfl rfl (z0c tok rfl (fun hg=>htl.sl) (fun hg=>⟨by omega,by simp[zai];omega⟩)) ?_
   refine Qt 24 rfl rfl (z08 tok (i) 0 (tl) rfl (fun hg=>htl) (fun hg=>hti) rfl rfl)<|QT [25] rfl<|Qt 26 rfl rfl (z8n tok rfl)<|QT [27] rfl<|Qt 28 rfl rfl (z8n tok rfl)<|QT [29] rfl<|QS<|Qo 30<|Qk 30 rfl rfl rfl rfl<|Qo 31<|Qi 31 rfl<|Qe [4,9,10] rfl<|rq<|Qw ?_
   iterate 2 refine z1j ?_
   refine Rr<|Yy 1 rfl<|QY rfl (z8n tok rfl)<|QE 1 [4,10,58,59,60] rfl<|rq<|Qw<|z3c<|ze8 [4,10,58,59] [8] rfl rfl (σ:=Nat) (fun k=>[(60, .a (.v (I k)))]) (fun k=>[(8, .lit [.v (I s.key), .v (I s.claim), .v (I tl), .v (I al), .v (I L.length), .v (I (z5l (L.take k)))] 54)]) (fun k=>Vg) (fun k=>k≤L.length) (fun k=>L.length - k) (0) (by omega) (by repeat (first|exact fN|refine fC rfl ?_)) (by repeat (first|exact oN|refine oC rfl ?_)) rfl lr ?_
   rintro k hk
   have htx:=zol (L.take k)
   have htk:(L.take k).length≤k:=by rw[List.length_take];omega
   have hwk:IntKind.i64.wrap ((k:Int)+1)=((k+1:Nat):Int):=z06 (by omega) (by omega)
   refine z1j<|Rr<|QE 1 [4,10,58,59,60,61] rfl<|rq<|Qw<|z1j<|z50 rfl (fun h=> ?_) fun h=> ?_
   ·
    simp only[Xa,Xb,Xc,Xd,Xe,Xf,Xg,Xh,Xi,Xj,Xk,Xl,Xm,Xn,Xo,Xp]at h
    refine z5i<|Qw<|z1j<|z3c<|z1j<|Rr ?_
    obtain⟨r,h_r⟩:=atx (L:=L) (k:=k) (by omega)
    have hst:=znj h_r
    have hlt_r:=z01 h_r
    refine QY rfl (z0c tok rfl (fun hg=>hrL0.sl) (fun hg=>⟨by omega,by omega⟩))<|QY rfl (z08 tok (k) 0 (r) rfl (fun hg=>hrL0) (fun hg=>h_r) rfl rfl)<|Yy 1 rfl<|Qs rfl<|z07 [4,10,12,58,59,60] rfl<|rq<|Qw<|z1j<|Rr<|QE 3 [4,10,58,59,60,66] rfl<|rq<|Qw<|z50 rfl (fun h=> ?_) fun h=> ?_
    ·
     simp only[Xa,Xb,Xc,Xd,Xe,Xf,Xg,Xh,Xi,Xj,Xk,Xl,Xm,Xn,Xo,Xp]at h
     refine Rr<|Yy 4 rfl<|Qs rfl<|z07 [4,10,58,59,60] rfl<|rq<|QM<|Qw<|Rr<|QE 2 [4,10,58,59,60] rfl<|rq<|Qw ?_
     rw[if_pos h]at hst
     rw[z06 (n:=(z5l (L.take k):Int)+1) (by omega) (by omega),show(z5l (L.take k):Int)+1=(z5l (L.take (k+1)):Int) by omega,hwk]
     refine z6y (k+1) (by omega) (by first|omega|(dsimp only;omega)) (by repeat (first|exact fN|refine fC rfl ?_)) (by repeat (first|exact oN|refine oC rfl ?_)) rfl<|Vw.le.refl _
    ·
     simp only[Xa,Xb,Xc,Xd,Xe,Xf,Xg,Xh,Xi,Xj,Xk,Xl,Xm,Xn,Xo,Xp]at h
     refine z5i<|QM<|Qw<|Rr<|QE 2 [4,10,58,59,60] rfl<|rq<|Qw ?_
     have hst2:z5l (L.take (k+1))=z5l (L.take k):=by rw[hst,if_neg (by omega)];rfl
     rw[←hst2,hwk]
     refine z6y (k+1) (by omega) (by first|omega|(dsimp only;omega)) (by repeat (first|exact fN|refine fC rfl ?_)) (by repeat (first|exact oN|refine oC rfl ?_)) rfl<|Vw.le.refl _
   ·
    simp only[Xa,Xb,Xc,Xd,Xe,Xf,Xg,Xh,Xi,Xj,Xk,Xl,Xm,Xn,Xo,Xp]at h
    refine zin<|QK<|QK<|QQ<|Qw<|Rr<|Yy 2 rfl ?_
    have hkl:k=L.length:=by omega
    subst hkl
    rw[List.take_length]
    refine QZ rfl (z1q tok 6 rfl rfl rfl) fun _ _=>QZ rfl (z0g tok ((⟨s.key,s.claim,tl,(al:Int),(L.length:Int),(z5l L:Int)⟩:View).cells) rfl (fun E w hm=>z09 (hm.row _ _ _ _ _ rfl)) (fun _ _ _=>zn9 _) (by dsimp only;omega)) fun _ _=>Qs rfl<|z07 [4] rfl<|rq<|QM ?_
    have hx2:s1.length+1=(s1++[zf1 g d A i]).length∧s1.flatMap View.cells++(⟨s.key,s.claim,tl,(al:Int),(L.length:Int),(z5l L:Int)⟩:View).cells=(s1++[zf1 g d A i]).flatMap View.cells:=by rw[hvo];simp
    rw[hx2.1,hx2.2]
    refine z00 4 10 rfl<|zlv (s1++[zf1 g d A i]) (by rw[hI,List.map_append];rfl) (by repeat (first|exact oN|refine oC rfl ?_)) rfl (by repeat (first|exact lr|assumption|(refine Vw.le.trans ?_ (by assumption))))
  ·
   intro D3 V3 s1 xs hS hI hle3 hD hle4
   have hsL:s1=z6e g d A n:=hI.trans (ztm g d A n hS)
   subst hsL
   refine QM<|Qw<|z1j<|z4k 4 6 2 (Ea.ρ 2) 0 rfl rfl rfl<|Rr<|Yy 1 rfl<|Qs rfl<|QE 1 [4,5] rfl<|rq<|Qw<|zbx<|zgt tok rfl hD ?_
   intro E w' hm _
   have hvle:(vw w).le (V3.del D3):=(hle0.trans hle12).trans hle4
   refine⟨⟨_,by rw[hz];rfl, ?_⟩,hm.below hvle⟩
   rw[z7q,if_pos hz,hn]
   exact hm.rowFresh hvle (l:=4) rfl
  ·
   intro D3 V3 y pre _ hf
   exact hf.elim
theorem zqx{s:ByteArray}(h:za3 s=true):zki (z8t s)=true:=by
 rw[z8t,if_pos h]
 rw[za3]at h
 cases hq:z17 6 s z45 with
 |none=>rw[hq]at h;cases h
 |some x=>
  rw[hq]at h
  exact h
theorem zxv{g:Geo}{slot key tail:Int}{D:List ByteArray}{A:List Record}(hJ:RowsOf g slot key tail D A): ∀r∈A,r.text.size≤256:=by
 intro r hr
 obtain⟨j,hj⟩:=List.mem_iff_getElem?.1 hr
 obtain⟨s,_,h1,h2⟩:=hJ.at_ j r hj
 rw[isV,if_pos h1]at h2
 rw[isB,Bool.and_eq_true,Bool.and_eq_true]at h1
 have:=(j8i (zqx h1.1.1)).text
 rw[h2]at this
 exact this
theorem zem{g:Geo}{d:Device}{A:Nat→List Record}(hA:RowsAll g d A){i:Nat}(hi:i<(tbS g d).S.length): ∀r∈A i,r.text.size≤256:=by
 obtain⟨s,hs⟩: ∃s,(tbS g d).S[i]? =some s:=⟨_,List.getElem?_eq_getElem hi⟩
 by_cases hk:s.key=0
 · rw[hA.no i s hs hk];intro r hr;cases hr
 · exact zxv (hA.at_ i s hs hk)
theorem zzg{g:Geo}: ∀(l:List Block) (last:Int),zeq g last l=true→ ∀x∈l,last<x.n∧x.n<g.blocks
 |[],_,_,x,hx=>by cases hx
 |y::r,last,h,x,hx=>by
  obtain⟨⟨h1,h2,_⟩,h3⟩:=zcq.1 h
  rcases List.mem_cons.1 hx with rfl|hx
  · exact⟨h1,h2⟩
  ·
   obtain⟨h4,h5⟩:=zzg r y.n h3 x hx
   exact⟨by omega,h5⟩
theorem zz2{g:Geo}{l:List Block}(h:zcl g l=true){x:Block}(hx:x∈l):0≤x.n∧x.n<g.blocks:=by
 rw[zcl,Bool.and_eq_true]at h
 obtain⟨h1,h2⟩:=zzg l (-1) h.2 x hx
 exact⟨by omega,h2⟩
theorem zix: ∀(X:List Sight) (q:Nat) (x:Sight) (t:ByteArray),X[q]? =some x→z25 (q*3+1) [Value.string t] (X.flatMap Sight.cells)=(X.set q ⟨x.now,t,x.by_⟩).flatMap Sight.cells
 |[],q,x,t,h=>by simp at h
 |y::r,0,x,t,h=>by
  simp at h
  subst h
  simp[z25]
 |y::r,q+1,x,t,h=>by
  have ih:=zix r q x t (by simpa using h)
  rw[show(q+1)*3+1=(q*3+1)+1+1+1 by omega,List.set_cons_succ,List.flatMap_cons,List.flatMap_cons,←ih]
  simp only[z25,List.length_singleton,List.cons_append,List.nil_append,List.take_succ_cons]
  rw[show q*3+1+1+1+1+1=(q*3+1+1)+1+1+1 by omega]
  simp only[List.drop_succ_cons]
theorem zrz: ∀(X:List Sight) (q:Nat) (x:Sight) (t:Int),X[q]? =some x→z25 (q*3+2) [I t] (X.flatMap Sight.cells)=(X.set q ⟨x.now,x.then_,t⟩).flatMap Sight.cells
 |[],q,x,t,h=>by simp at h
 |y::r,0,x,t,h=>by
  simp at h
  subst h
  simp[z25]
 |y::r,q+1,x,t,h=>by
  have ih:=zrz r q x t (by simpa using h)
  rw[show(q+1)*3+2=(q*3+2)+1+1+1 by omega,List.set_cons_succ,List.flatMap_cons,List.flatMap_cons,←ih]
  simp only[z25,List.length_singleton,List.cons_append,List.nil_append,List.take_succ_cons]
  rw[show q*3+2+1+1+1+1=(q*3+2+1)+1+1+1 by omega]
  simp only[List.drop_succ_cons]
theorem zoi(X:List Sight)(b:Block)(i:Int)(hq:b.n.toNat<X.length):z25 (b.n.toNat*3+2) [I i] (z25 (b.n.toNat*3+1) [Value.string b.text] (X.flatMap Sight.cells))=(zyo i X b).flatMap Sight.cells:=by
 obtain⟨x,hx⟩: ∃x,X[b.n.toNat]? =some x:=⟨_,List.getElem?_eq_getElem hq⟩
 rw[zix X _ x _ hx,zrz _ _ ⟨x.now,b.text,x.by_⟩ i (by simp[hq]),zyo,List.set_set]
 simp[List.getD,hx]
theorem zjf(i:Int)(X:List Sight){l:List Block}{k:Nat}{b:Block}(h:l[k]? =some b):z7c i X (l.take (k+1))=zyo i (z7c i X (l.take k)) b:=by
 rw[z0y h,zpt]
theorem zjp(x:Sight): ∀u∈x.cells,u.oneCell'=true:=by
 intro u hu
 simp only[Sight.cells,List.mem_cons,List.not_mem_nil,or_false]at hu
 rcases hu with rfl|rfl|rfl<;>rfl
theorem zwp{g:Geo}{d:Device}{A:Nat→List Record}(h: ¬svE g d=0):z3e g d A=[]∧z42 g d A=svE g d:=⟨by rw[z3e,if_neg (fun hc=>h hc.1)],by rw[z42,if_neg h]⟩
theorem zbi{g:Geo}{d:Device}{A:Nat→List Record}(h:svE g d=0)(h2:z2c g d A=false):z3e g d A=[]∧z42 g d A=50:=⟨by rw[z3e,if_neg (fun hc=>by rw[h2]at hc;cases hc.2)],by rw[z42,if_pos h,if_neg (by simp[h2])]⟩
theorem zsa{g:Geo}{d:Device}{A:Nat→List Record}(h:svE g d=0)(h2:z2c g d A=true):z3e g d A=z2u g A (z6j g d g.blocks.toNat) g.slots.toNat∧z42 g d A=0:=⟨by rw[z3e,if_pos ⟨h,h2⟩],by rw[z42,if_pos h,if_pos h2]⟩
theorem zda(V:Vw)(g:Geo)(ok:g.Ok)(d:Device)(w:World)(hV:V.le (vw w))(hd0:DevIn V d)(hsz: ∀s∈d.s.l,s.size≤maxLen)(A:Nat→List Record)(hA:svE g d=0→RowsAll g d A):
  Cl 12 #[g.val,d.val] w (zvp Sight.cells 56 3 (z3e g d A) (z42 g d A) w):=by
 have hgeo:=fun h=>z62 (z4y (g:=g) (d:=d) h).1
 have hlg:=fun h=>zmq (z4y (g:=g) (d:=d) h).2
 obtain⟨a1,a2,a3,a4,n1,c1,n2,c2,n3,c3,n4,c4,nx,hval⟩: ∃a1 a2 a3 a4 n1 c1 n2 c2 n3 c3 n4 c4 nx,d.val=zev a1 a2 a3 a4 n1 c1 n2 c2 n3 c3 n4 c4 nx:=by
  obtain⟨⟨sv,sl⟩,⟨cv,cl⟩,⟨kv,kl⟩,nx,⟨fv,fl⟩⟩:=d
  obtain⟨a1,n1,c1,rfl⟩:=z04 hd0.s.sl
  obtain⟨a2,n2,c2,rfl⟩:=z04 hd0.cache.sl
  obtain⟨a3,n3,c3,rfl⟩:=z04 hd0.keys.sl
  obtain⟨a4,n4,c4,rfl⟩:=z04 hd0.fenced.sl
  exact⟨a1,a2,a3,a4,n1,c1,n2,c2,n3,c3,n4,c4,nx,rfl⟩
 have hdw:=hd0.mono hV
 have hck:=fun(w1:World) (hle:(vw w).le (vw w1))=>z8f (vw w) g ok d w1 hle hdw hsz
 have hall:=fun(w1:World) (hle:(vw w).le (vw w1))=>zhd (vw w) g ok d w1 hle hdw hsz
 have hrw:=fun(hG:z2y g=true) hln hA b1 m1 e1 b2 m2 e2 b3 m3 e3 (W:Vw) (h0:(vw w).le W) hT i hi (w1:World) (hle:W.le (vw w1))=>zn0 W g ok hG d (hdw.mono h0) hln hsz A hA b1 m1 e1 b2 m2 e2 b3 m3 e3 hT i hi w1 hle
 have hnow:=fun(i:Nat) (w1:World) (hle:(vw w).le (vw w1))=>zxu (vw w) g ok d (i:Int) w1 hle hdw
 rw[hval]at hck hall hrw hnow⊢
 refine Qf [.a (.v g.val), .a (.v (zev a1 a2 a3 a4 n1 c1 n2 c2 n3 c3 n4 c4 nx))] Tryz.func12 rfl<|QA<|QC<|QE 4 [2,3] rfl<|Qw<|QA<|QC<|Yy 2 rfl<|Qc (.a (.v _)) rfl znw (fun hg E w1 hm=>by exact hck _ hm.leV) ?_
 refine QE 1 [2,3,6] rfl<|Qw<|QA<|QA<|QC<|QE 2 [2,3,6,21] rfl<|Qw<|Qn rfl (fun h=> ?_) fun h=> ?_
 ·
  refine QA<|QC<|QE 3 [4,5] rfl<|Qw<|QO<|QL<|z0h tok rfl ?_
  have hne: ¬svE g d=0:=by simpa using h
  intro E w' hm _
  refine⟨⟨.slice none 0 0,by rw[(zwp hne).2];rfl, ?_⟩,hm.below lr⟩
  rw[(zwp hne).1]
  exact⟨rfl, .inl ⟨rfl,rfl⟩⟩
 ·
  have hz:svE g d=0:=by simpa using h
  clear h
  obtain⟨hG,hln⟩:=hgeo hz
  have hA:=hA hz
  have hf:=z0b hG
  have hlen:=z9e hG d
  refine QI<|Qw<|QA<|QC<|Yy 2 rfl<|Qv (zzn g d) rfl zt4 (fun hg E w1 hm=>by exact hall _ hm.leV) ?_
  rintro y W0 hle0 hy
  obtain⟨b1,m1,e1,b2,m2,e2,b3,m3,e3,n,rfl,hT0⟩:=hy rfl
  clear hy
  have hT:=hT0 (hlg hz)
  clear hT0
  obtain⟨nb,hnb⟩: ∃nb,g.blocks.toNat=nb:=⟨_,rfl⟩
  obtain⟨ns,hns⟩: ∃ns,g.slots.toNat=ns:=⟨_,rfl⟩
  have hso:z2c g d A=(zc5 g d nb&&zcs g A ns):=by rw[z2c,hnb,hns]
  refine Yy 5 rfl<|Qs rfl<|QE 2 [2,3,7] rfl<|Qw<|QA<|QC<|QE 1 [2,3,7,10] rfl<|Qw<|QA<|QA<|QC<|QE 1 [2,3,7,10,11] rfl<|Qw<|QJ<|z6l 10 56 3 rfl rfl<|Ql [2,3,7] [3] rfl rfl (σ:=Nat) (fun i=>[(10, .a (.row 3)),(11, .a (.v (I i)))]) (fun i=>[(3, .row 56 3 i ((z6j g d i).flatMap Sight.cells))]) (fun i=>i≤nb∧zc5 g d i=true) (fun i=>nb - i) (0) (⟨by omega,rfl⟩) ?_
  rintro i ⟨hi,hnw⟩
  refine QA<|QA<|QC<|QE 4 [2,3,7,10,11,33] rfl<|Qw<|QX rfl (fun h=> ?_) fun h=> ?_
  ·
   refine QI<|Qw<|QA<|QJ<|QA<|QC<|Yy 3 rfl ?_
   have hwi:IntKind.i64.wrap ((i:Int)+1)=((i+1:Nat):Int):=z06 (by omega) (by omega)
   have hn1:=hnow i
   have hsc:=z86 g d i
   have hsb:=z8h g d i
   have hno:=zmk (g:=g) (d:=d) (k:=i) (n:=nb) (by omega)
   generalize zeu g d (i:Int)=r at hn1 hsc hsb hno
   refine Qc (.a (.v _)) rfl j6u (fun hg E w1 hm=>by exact hn1 _ (hle0.trans hm.leV)) ?_
   refine QE 5 [2,3,7,10,11,12,13] rfl<|Qw<|QA<|QA<|QC<|QE 2 [2,3,7,10,11,12,44] rfl<|Qw<|Qn rfl (fun h=> ?_) fun h=> ?_
   ·
    refine QA<|QC<|QE 2 [4,5] rfl<|Qw<|QO<|QL<|QP<|QL<|QL<|QP<|QL<|z0h tok rfl ?_
    have hbd:z2c g d A=false:=by rw[hso,hno (by simpa using h)];rfl
    intro E w' hm _
    refine⟨⟨.slice none 0 0,by rw[(zbi hz hbd).2];rfl, ?_⟩,hm.below hle0⟩
    rw[(zbi hz hbd).1]
    exact⟨rfl, .inl ⟨rfl,rfl⟩⟩
   ·
    refine QI<|Qw<|QC<|Yy 4 rfl ?_
    have hr0:r.2=0:=by simpa using h
    refine QZ rfl (z1q tok 3 rfl rfl rfl) fun _ _=>QZ rfl (z0g tok ((⟨r.1,r.1,0⟩:Sight).cells) rfl (fun E w hm=>z09 (hm.row _ _ _ _ _ rfl)) (fun _ _ _=>zjp _) (by dsimp only;omega)) fun _ _=>QE 1 [2,3,7,10,11] rfl<|QM<|Qw<|QC<|QE 3 [2,3,7,10,11] rfl<|Qw ?_
    have hx2:(z6j g d i).flatMap Sight.cells++(⟨r.1,r.1,0⟩:Sight).cells=(z6j g d (i+1)).flatMap Sight.cells:=by rw[hsc];simp
    rw[hx2,hwi]
    refine z00 3 5 rfl<|Qr (i+1)<|⟨by omega,by rw[hsb,hnw,hr0];rfl⟩
  ·
   refine QN<|QK<|QK<|QQ<|Qw<|QA<|QA<|QC<|QE 1 [2,3,7,10,14] rfl<|Qw<|QJ ?_
   have hin:i=nb:=by omega
   subst hin
   refine Lv [2,3,7] [3] rfl rfl (σ:=Nat×Vw) (fun(j,W)=>[(10, .a (.row 3)),(14, .a (.v (I j)))]) (fun(j,W)=>[(3, .row 56 3 i ((z2u g A (z6j g d i) j).flatMap Sight.cells))]) (fun(j,W)=>W) (fun(j,W)=>j≤ns∧W0.le W∧zcs g A j=true) (fun(j,W)=>ns - j) ((0,W0)) (⟨by omega,Vw.le.refl _,rfl⟩) ?_
   rintro⟨j,W⟩ ⟨hj,hW,hmj⟩
   dsimp only at hj hW hmj⊢
   refine QA<|QA<|QC<|QE 4 [2,3,7,10,14,54] rfl<|Qw<|QX rfl (fun h=> ?_) fun h=> ?_
   ·
    refine QI<|Qw<|QA<|QJ<|QA<|QC<|Yy 4 rfl ?_
    have hj':j<(tbS g d).S.length:=by omega
    have hfew:=z6x hG hA hj'
    have htxt:=zem hA hj'
    have hwj:IntKind.i64.wrap ((j:Int)+1)=((j+1:Nat):Int):=z06 (by omega) (by omega)
    have hwj2:IntKind.i64.wrap ((j:Int)+1)=(j:Int)+1:=z06 (by omega) (by omega)
    have hr1:=fun(w1:World) (hle:W.le (vw w1))=>hrw hG hln hA b1 m1 e1 b2 m2 e2 b3 m3 e3 W (hle0.trans hW) (hT.mono hW) j (by omega) w1 hle
    refine Qv (zpl (A j)) rfl zza (fun hg E w1 hm=>by exact hr1 _ hm.leV) ?_
    rintro v W2 hle2 hv
    obtain⟨ra,rk,rc,rfl,hr⟩:=hv rfl
    clear hv
    refine Qv (j33 (zer A j)) rfl j6v (fun hg E w1 hm=>by exact zya hm.leV (zus W2 _ (A j) _ hm.leV hr (by omega) htxt)) ?_
    rintro v W3 hle3 hv
    obtain⟨sa,sk,sc,rfl,hb⟩:=hv rfl
    clear hv
    have hbl:(zer A j).length≤64:=by rw[zer,zht];exact zcg _ 64 0
    have hno:=zmn (g:=g) (A:=A) (k:=j) (n:=ns) (by omega)
    have hsm:=zpi g A j
    have hst:z2u g A (z6j g d i) (j+1)=z7c ((j:Int)+1) (z2u g A (z6j g d i) j) (zer A j):=rfl
    have hXl:(z2u g A (z6j g d i) j).length=i:=by rw[z5s,z9n]
    generalize zer A j=B at*
    generalize z2u g A (z6j g d i) j=X at*
    refine QE 1 [2,3,7,10,14,15] rfl<|Qw<|QA<|QA<|QC<|Yy 2 rfl<|Qc (.a (.v _)) rfl j5g (fun hg E w1 hm=>by exact zto W3 g ok _ B _ hm.leV hb (by simp only[maxLen];omega)) ?_
    refine QE 1 [2,3,7,10,14,15,66] rfl<|Qw<|Qn rfl (fun h=> ?_) fun h=> ?_
    ·
     refine QA<|QC<|QE 2 [4,5] rfl<|Qw<|QO<|QL<|QP<|QL<|QL<|QP<|QL<|z0h tok rfl ?_
     have hbd:z2c g d A=false:=by rw[hso,hno (by simpa using h),Bool.and_false]
     intro E w' hm _
     refine⟨⟨.slice none 0 0,by rw[(zbi hz hbd).2];rfl, ?_⟩,hm.below (((hle0.trans hW).trans hle2).trans hle3)⟩
     rw[(zbi hz hbd).1]
     exact⟨rfl, .inl ⟨rfl,rfl⟩⟩
    ·
     refine QI<|Qw<|QA<|QC<|QE 1 [2,3,7,10,14,15,16] rfl<|Qw<|QJ ?_
     have hmay:zcl g B=true:=by simpa using h
     refine Ql [2,3,7,14,15] [3] rfl rfl (σ:=Nat) (fun k=>[(10, .a (.row 3)),(16, .a (.v (I k)))]) (fun k=>[(3, .row 56 3 i ((z7c ((j:Int)+1) X (B.take k)).flatMap Sight.cells))]) (fun k=>k≤B.length) (fun k=>B.length - k) (0) (by omega) ?_
     rintro k hk
     have hPl:(z7c ((j:Int)+1) X (B.take k)).length=i:=by rw[z7j,hXl]
     refine QA<|QA<|QC<|Yy 2 rfl<|QY rfl (z0l tok rfl (fun hg=>hb.sl))<|QE 1 [2,3,7,10,14,15,16,70] rfl<|Qw<|QX rfl (fun h=> ?_) fun h=> ?_
     ·
      obtain⟨b,h_b⟩:=atx (L:=B) (k:=k) (by omega)
      have hbn:=zz2 hmay (List.mem_of_getElem? h_b)
      have hpt:=zjf ((j:Int)+1) X h_b
      have hov:=zoi (z7c ((j:Int)+1) X (B.take k)) b ((j:Int)+1) (by omega)
      have hwk:IntKind.i64.wrap ((k:Int)+1)=((k+1:Nat):Int):=z06 (by omega) (by omega)
      clear h
      refine QI<|Qw<|QA<|QJ<|QA<|Rb [13] rfl<|QD [0,1,2] rfl ?_
      have hlt_b:=z01 h_b
      refine Qu 3 rfl rfl (z0c tok rfl (fun hg=>hb.sl) (fun hg=>⟨by omega,by omega⟩))<|Qu 4 rfl rfl (z1f tok rfl (fun hg=>hb.sl) (fun hg=>by omega))<|Qu 5 rfl rfl (z08 tok (k) 0 (b) rfl (fun hg=>hb) (fun hg=>h_b) rfl rfl)<|QD [6,7] rfl ?_
      have hlt_b:=z01 h_b
      refine Qu 8 rfl rfl (z0c tok rfl (fun hg=>hb.sl) (fun hg=>⟨by omega,by omega⟩))<|Qu 9 rfl rfl (z1f tok rfl (fun hg=>hb.sl) (fun hg=>by omega))<|Qu 10 rfl rfl (z08 tok (k) 1 (b) rfl (fun hg=>hb) (fun hg=>h_b) rfl rfl)<|Qu 11 rfl rfl (z0p (s:= .a (.rel 3 (b.n.toNat*3))) 3 rfl rfl (fun v V' hv=>z14 tok (b.n.toNat*3) rfl (by simp) (fun hg=>hv) (fun hg=>by omega)))<|Qu 12 rfl rfl (z0p (s:= .a (.rel 3 (b.n.toNat*3+1))) 3 rfl rfl (fun v V' hv=>z1f tok rfl (fun hg=>hv) (fun hg=>by omega))) ?_
      refine QS<|Qo 13<|zac 13 rfl rfl rfl rfl rfl (z5m tok rfl rfl (by intro u hu;simp only[List.mem_singleton]at hu;subst hu;rfl) (by simp only[List.length_singleton];omega) (by omega)) (.inl rfl) fun _ _=> ?_
      refine Qe [2,3,7,10,14,15,16] rfl<|Qw<|QC<|Yy 3 rfl ?_
      have hlt_b:=z01 h_b
      refine QY rfl (z0c tok rfl (fun hg=>hb.sl) (fun hg=>⟨by omega,by omega⟩))<|QY rfl (z1f tok rfl (fun hg=>hb.sl) (fun hg=>by omega))<|QY rfl (z08 tok (k) 0 (b) rfl (fun hg=>hb) (fun hg=>h_b) rfl rfl)<|Yy 2 rfl<|QY rfl (z0p (s:= .a (.rel 3 (b.n.toNat*3))) 3 rfl rfl (fun v V' hv=>z14 tok (b.n.toNat*3) rfl (by simp) (fun hg=>hv) (fun hg=>by omega)))<|QY rfl (z0p (s:= .a (.rel 3 (b.n.toNat*3+2))) 3 rfl rfl (fun v V' hv=>z1f tok rfl (fun hg=>hv) (fun hg=>by omega))) ?_
      rw[hwj2]
      refine z2q rfl rfl rfl rfl (z5m tok rfl rfl (by intro u hu;simp only[List.mem_singleton]at hu;subst hu;rfl) (by simp only[List.length_singleton];omega) (by omega)) fun _ _=> ?_
      refine z07 [2,3,7,10,14,15,16] rfl<|QM<|Qw<|QC<|QE 3 [2,3,7,10,14,15,16] rfl<|Qw ?_
      rw[hov,←hpt,hwk]
      refine Qr (k+1) (by omega)
     ·
      refine QN<|QK<|QK<|QQ<|QM<|Qw<|QC<|QE 3 [2,3,7,10,14] rfl<|Qw ?_
      have hkb:k=B.length:=by omega
      subst hkb
      rw[List.take_length,←hst,hwj]
      refine Qr ((j+1,W3))<|⟨by dsimp only;omega,(hW.trans hle2).trans hle3,by dsimp only;rw[hsm,hmj,hmay];rfl⟩
   ·
    refine QN<|QK<|QK<|QQ<|Qw<|QA<|QC<|QE 3 [4,5] rfl<|Qw<|QO<|z0h tok rfl ?_
    have hjn:j=ns:=by omega
    subst hjn
    have hyes:z2c g d A=true:=by rw[hso,hnw,hmj];rfl
    have hX:=(zsa hz hyes).1
    rw[hnb,hns]at hX
    intro E w' hm _
    refine⟨⟨_,by rw[(zsa hz hyes).2];rfl, ?_⟩,hm.below (hle0.trans hW)⟩
    rw[hX,z5s,z9n]
    exact hm.rowFresh (hle0.trans hW) (l:=3) rfl
def j2i(A:Nat→List Record)(X:List Sight)(i:Nat):List Sight:=z7c ((i:Int)+1) X (zer A i)
theorem zbm(g:Geo)(A:Nat→List Record)(X:List Sight): ∀n,(List.range n).foldl (j2i A) X=z2u g A X n
 |0=>rfl
 |n+1=>by rw[List.range_succ,List.foldl_append,zbm g A X n];rfl
theorem zlh(g:Geo)(A:Nat→List Record)(X:List Sight){xs:List (Nat×Value)}{n:Nat}(h:xs.map (·.1)=List.range n):xs.foldl (fun X x=>j2i A X x.1) X=z2u g A X n:=by
 rw[←zbm g A X n,←h,List.foldl_map]
theorem zs6(g:Geo)(A:Nat→List Record){xs:List (Nat×Value)}{n:Nat}(h:xs.map (·.1)=List.range n)(hm: ∀x∈xs,zcl g (zer A x.1)=true):zcs g A n=true:=by
 rw[zcs,List.all_eq_true]
 intro i hi
 rw[←h,List.mem_map]at hi
 obtain⟨x,hx,rfl⟩:=hi
 exact hm x hx
theorem z99(V:Vw)(g:Geo)(ok:g.Ok)(d:Device)(w:World)(hV:V.le (vw w))(hd0:DevIn V d)(hsz: ∀s∈d.s.l,s.size≤maxLen)(A:Nat→List Record)(hA:svE g d=0→RowsAll g d A):
  Cl 11 #[g.val,d.val] w (zvp Sight.cells 56 3 (z3e g d A) (z42 g d A) w):=by
 have hgeo:=fun h=>z62 (z4y (g:=g) (d:=d) h).1
 have hdw:=hd0.mono hV
 obtain⟨a1,a2,a3,a4,n1,c1,n2,c2,n3,c3,n4,c4,nx,hval⟩: ∃a1 a2 a3 a4 n1 c1 n2 c2 n3 c3 n4 c4 nx,d.val=zev a1 a2 a3 a4 n1 c1 n2 c2 n3 c3 n4 c4 nx:=by
  obtain⟨⟨sv,sl⟩,⟨cv,cl⟩,⟨kv,kl⟩,nx,⟨fv,fl⟩⟩:=d
  obtain⟨a1,n1,c1,rfl⟩:=z04 hd0.s.sl
  obtain⟨a2,n2,c2,rfl⟩:=z04 hd0.cache.sl
  obtain⟨a3,n3,c3,rfl⟩:=z04 hd0.keys.sl
  obtain⟨a4,n4,c4,rfl⟩:=z04 hd0.fenced.sl
  exact⟨a1,a2,a3,a4,n1,c1,n2,c2,n3,c3,n4,c4,nx,rfl⟩
 have hbeg:=fun(w1:World) (hle:(vw w).le (vw w1))=>zc8 (vw w) g ok d w1 hle hdw hsz
 have hnow:=fun(W:Vw) (h0:(vw w).le W) (i:Nat) (w1:World) (hle:W.le (vw w1))=>j7o W g ok d (i:Int) w1 hle (hdw.mono h0)
 rw[hval]at hbeg hnow⊢
 refine zrh<|zkc 9 (E:=E0) (O:=[]) (nl:=0) (V:=vw w) [.a (.v g.val), .a (.v (zev a1 a2 a3 a4 n1 c1 n2 c2 n3 c3 n4 c4 nx))] Tryz.func11 rfl rfl (zhn E0 0 w) rfl rfl<|z1j<|Rr<|QE 4 [2,3,4,5] rfl<|rq<|Qw<|z1j<|Rr<|Yy 2 rfl<|Qv (j4i g d) rfl zn4 (fun hg E w1 hm=>by exact hbeg _ hm.leV) ?_
 rintro x W0 hle0 hx
 obtain⟨p,rfl,hlook⟩:=hx rfl
 clear hx
 refine Yy 4 rfl<|Qs rfl<|z07 [2,3,4,5,6] rfl<|rq<|Qw ?_
 iterate 2 refine z1j ?_
 refine Rr<|QE 2 [2,3,4,5,6,22] rfl<|rq<|Qw<|z50 rfl (fun h=> ?_) fun h=> ?_
 ·
  refine z1j<|zkx (by intro _ _ w1 h1;first|exact h1|(obtain⟨h2,_⟩:=h1;cases h2;done)|(obtain⟨⟨_,h2⟩,_⟩:=h1;cases h2;done)|(obtain⟨⟨_,h2,_⟩,_⟩:=h1;cases h2;done)|(obtain⟨_,h2,_⟩:=h1;cases h2;done)|(obtain⟨_,_,h2,_⟩:=h1;cases h2;done)|(obtain⟨_,_,_,h2,_⟩:=h1;cases h2;done)|(rcases h1 with⟨⟨_,_,h2,_⟩|⟨_,h2⟩,_⟩<;>cases h2;done)|(exact nor _ h1)) rfl [] mixed rfl (by repeat (first|exact oN|refine oC rfl ?_)) (by first|rfl|simp[z0u,z26]) ?_
  refine QT [0] rfl<|QS<|Qo 1<|Qi 1 rfl<|Qo 2<|Qi 2 rfl<|Qe [4,5] rfl<|rq<|Qw<|zbx<|QL<|zei tok rfl ?_
  have hne: ¬svE g d=0:=by simpa using h
  intro E w' hm _
  refine⟨⟨.slice none 0 0,by rw[(zwp hne).2];rfl, ?_⟩,hm.below hle0⟩
  rw[(zwp hne).1]
  exact⟨rfl, .inl ⟨rfl,rfl⟩⟩
 ·
  have hz:svE g d=0:=by simpa using h
  clear h
  obtain⟨hG,hln⟩:=hgeo hz
  obtain⟨b,rfl,hL⟩:=hlook hz
  have hA:=hA hz
  have hf:=z0b hG
  have hlen:=z9e hG d
  obtain⟨nb,hnb⟩: ∃nb,g.blocks.toNat=nb:=⟨_,rfl⟩
  obtain⟨n,hn⟩: ∃n,g.slots.toNat=n:=⟨_,rfl⟩
  rw[hn]at hlen
  have hso:z2c g d A=(zc5 g d nb&&zcs g A n):=by rw[z2c,hnb,hn]
  rw[hz]
  refine z5i<|Qw ?_
  iterate 2 refine z1j ?_
  refine Rr<|QE 3 [2,3,4,5,6,25,26] rfl<|rq<|Qw<|z3c<|z9r 2 0 56 3 rfl rfl<|ze8 [2,3,4,5,6,25] [2,4] rfl rfl (σ:=Nat) (fun i=>[(26, .a (.v (I i)))]) (fun i=>[(2, .lit [.row 4] 29),(4, .row 56 3 i ((z6j g d i).flatMap Sight.cells))]) (fun i=>W0) (fun i=>i≤nb∧zc5 g d i=true) (fun i=>nb - i) (0) (⟨by omega,rfl⟩) (by repeat (first|exact fN|refine fC rfl ?_)) (by repeat (first|exact oN|refine oC rfl ?_)) rfl lr ?_
  rintro i ⟨hi,hnw⟩
  refine z1j<|Rr<|QE 1 [2,3,4,5,6,25,26,27] rfl<|rq<|Qw<|z1j<|z50 rfl (fun h=> ?_) fun h=> ?_
  ·
   simp only[Xa,Xb,Xc,Xd,Xe,Xf,Xg,Xh,Xi,Xj,Xk,Xl,Xm,Xn,Xo,Xp]at h
   refine z5i<|Qw<|z1j<|z3c<|z1j<|Rr<|QE 2 [2,3,4,5,6,7,25,26] rfl<|rq<|Qw<|z1j<|Rr<|Yy 3 rfl ?_
   have hwi:IntKind.i64.wrap ((i:Int)+1)=((i+1:Nat):Int):=z06 (by omega) (by omega)
   have hn1:=hnow W0 hle0 i
   have hsc:=z86 g d i
   have hsb:=z8h g d i
   have hno:=zmk (g:=g) (d:=d) (k:=i) (n:=nb) (by omega)
   generalize zeu g d (i:Int)=r at hn1 hsc hsb hno
   refine Qc (.a (.v _)) rfl j6m (fun hg E w1 hm=>by exact hn1 _ hm.leV) ?_
   refine QE 5 [2,3,4,5,6,8,9,25,26] rfl<|rq<|Qw ?_
   iterate 2 refine z1j ?_
   refine Rr<|QE 2 [2,3,4,5,6,8,25,26,37] rfl<|rq<|Qw<|z50 rfl (fun h=> ?_) fun h=> ?_
   ·
    refine z1j<|Rr ?_
    iterate 2 refine zgn tok rfl rfl rfl (by first|(repeat' first|exact trivial|exact rfl|apply And.intro);done|simp[zc2,j3j,lk,Value.oneCell']) ?_
    refine z07 [4,5] rfl<|rq<|Qw<|zbx<|QL<|QP<|QL<|QL<|QP<|QL<|zei tok rfl ?_
    have hbd:z2c g d A=false:=by rw[hso,hno (by simpa using h)];rfl
    intro E w' hm _
    refine⟨⟨.slice none 0 0,by rw[(zbi hz hbd).2];rfl, ?_⟩,hm.below hle0⟩
    rw[(zbi hz hbd).1]
    exact⟨rfl, .inl ⟨rfl,rfl⟩⟩
   ·
    refine z5i<|Qw<|Rr<|Yy 4 rfl ?_
    have hr0:r.2=0:=by simpa using h
    refine QZ rfl (z1q tok 3 rfl rfl rfl) fun _ _=>QZ rfl (z0g tok ((⟨r.1,r.1,0⟩:Sight).cells) rfl (fun E w hm=>z09 (hm.row _ _ _ _ _ rfl)) (fun _ _ _=>zjp _) (by dsimp only;omega)) fun _ _=>Qs rfl<|z07 [2,3,4,5,6,25,26] rfl<|rq<|QM<|Qw<|Rr<|QE 2 [2,3,4,5,6,25,26] rfl<|rq<|Qw ?_
    have hx2:(z6j g d i).flatMap Sight.cells++(⟨r.1,r.1,0⟩:Sight).cells=(z6j g d (i+1)).flatMap Sight.cells:=by rw[hsc];simp
    rw[hx2,hwi]
    refine z00 4 6 rfl<|z6y (i+1) (⟨by omega,by rw[hsb,hnw,hr0];rfl⟩) (by first|omega|(dsimp only;omega)) (by repeat (first|exact fN|refine fC rfl ?_)) (by repeat (first|exact oN|refine oC rfl ?_)) rfl<|Vw.le.refl _
  ·
   simp only[Xa,Xb,Xc,Xd,Xe,Xf,Xg,Xh,Xi,Xj,Xk,Xl,Xm,Xn,Xo,Xp]at h
   have hin:i=nb:=by omega
   subst hin
   clear h
   refine zin<|QK<|QK<|QQ<|Qw ?_
   iterate 2 refine z1j ?_
   refine Rr<|Yy 1 rfl<|zi1 [2,4,5,45] [2,3,4] rfl (by repeat (first|exact fN|refine fC rfl ?_)) rfl rfl fun Ea V1 hle1 hlit _=> ?_
   have hb0:=hlit 0 _ _ rfl rfl
   refine Qv (fun v V2=> ∃bw,v= .func (.func 58) #[] #[Ptr bw]∧V2.get bw=some (.cells [Ptr b].toArray 57 (0,0))) rfl zyz (fun hg E w1 hm=>by exact zte V1 b _ hm.leV) ?_
   rintro v V2 hle2 hv
   obtain⟨bw,rfl,hbw⟩:=hv rfl
   clear hv
   have hle12:=hle1.trans hle2
   have hdi:=(hdw.mono hle0).mono hle12
   obtain⟨X0,hX0⟩: ∃X0,z6j g d i=X0:=⟨_,rfl⟩
   have hX0l:X0.length=i:=by rw[←hX0,z9n]
   rw[hX0]
   refine z07 [2,4,5,46] rfl<|rq<|Qw<|z3c<|zmy (α:=Nat×Value) (σ:=List Sight) (τ:=Unit) (by omega) rfl zzh (fun x=>I (x.1:Int)) (fun x=>x.2) (j83 A n) (fun xs=>xs.map (·.1)=List.range n) (fun _=>True) n [(2, .a (.v (Ptr (Ea.ρ 0)))),(4, .a (.v (Ptr (Ea.ρ 2)))),(5, .a (.v (Ptr (Ea.ρ 3))))] (fun s=>[(2, .lit [.row 4] 29),(3, .lit [.v (I 0)] 33),(4, .row 56 3 i (s.flatMap Sight.cells)),(7, .keep 2 (Ea.ρ 2) (Ea.κ 2)),(6, .keep 3 (Ea.ρ 3) (Ea.κ 3))]) (fun xs s=>s=xs.foldl (fun X x=>j2i A X x.1) X0∧s.length=i∧ ∀x∈xs,zcl g (zer A x.1)=true) (fun _=>[(2, .lit [.v (.slice none 0 0)] 29),(3, .lit [.v (I 50)] 33),(7, .keep 2 (Ea.ρ 2) (Ea.κ 2)),(6, .keep 3 (Ea.ρ 3) (Ea.κ 3))]) (fun xs _=> ∃x∈xs,x.1<n∧ ¬zcl g (zer A x.1)=true) .ret X0 (by repeat (first|exact fN|refine fC rfl ?_)) rfl ⟨rfl,hX0l,fun x hx=>(by cases hx)⟩ (by repeat (first|exact oN|refine oC rfl ?_)) (fun _=>rfl) (fun _=>rfl) rfl rfl (fun w0 hw=>zkd V2 bw b g ok hG d hdi A hA (zab.mono hL hle12) hbw n hn _ w0 hw) ?_ ?_ ?_
   ·
    intro l pre x s1 Vx Vf sz ⟨hI,hIl,hIm⟩ hlen1 hVx hxf hPE
    obtain⟨j,xv⟩:=x
    obtain⟨hjn,ra,rk,rc,hxe,hr0⟩:=hPE
    dsimp only at hjn hxe hr0⊢
    subst hxe
    refine z1j<|Rr<|QE 1 [2,4,5,10,48] rfl<|rq<|Qw<|Rr<|QE 1 [2,4,5,10,11] rfl<|rq<|zux rfl (by repeat (first|exact lr|assumption|(refine Vw.le.trans ?_ (by assumption)))) fun Vg kz hVg=> ?_
    refine z3c<|z1j ?_
    have hj':j<(tbS g d).S.length:=by omega
    have hfew:=z6x hG hA hj'
    have htxt:=zem hA hj'
    have hr:=hr0.mono hVg
    have hwj2:IntKind.i64.wrap ((j:Int)+1)=(j:Int)+1:=z06 (by omega) (by omega)
    refine z4k 4 7 2 (Ea.ρ 2) 0 rfl rfl rfl<|z4k 5 6 3 (Ea.ρ 3) 0 rfl rfl rfl<|Rr<|Yy 1 rfl<|Qv (j33 (zer A j)) rfl j4s (fun hg E w1 hm=>by exact zya hm.leV (zsu Vg ra rk rc (A j) _ hm.leV hr (by omega) htxt)) ?_
    rintro v W3 hle3 hv
    obtain⟨sa,sk,sc,rfl,hb⟩:=hv rfl
    clear hv
    have hbl:(zer A j).length≤64:=by rw[zer,zht];exact zcg _ 64 0
    have hb0g:=((((hle2.trans hVx).trans hVg).trans hle3)).get _ _ hb0
    have hpa:j2i A s1 j=z7c ((j:Int)+1) s1 (zer A j):=rfl
    have hnx:(pre++[(j,Value.slice ra rk rc)]).foldl (fun X x=>j2i A X x.1) X0=j2i A s1 j:=by rw[List.foldl_append,←hI];rfl
    have hmx:zcl g (zer A j)=true→ ∀x∈pre++[(j,Value.slice ra rk rc)],zcl g (zer A x.1)=true:=fun hm x hx=>by
     rcases List.mem_append.1 hx with h1|h1
     · exact hIm x h1
     · rw[List.mem_singleton.1 h1];exact hm
    have hbx: ¬zcl g (zer A j)=true→ ∃x∈pre++[(j,Value.slice ra rk rc)],x.1<n∧ ¬zcl g (zer A x.1)=true:=fun hm=>⟨(j,Value.slice ra rk rc),by simp,hjn,hm⟩
    generalize zer A j=B at*
    refine QE 1 [2,4,5,10,12] rfl<|rq<|Qw ?_
    iterate 2 refine z1j ?_
    refine Rr<|QY rfl (z2p tok rfl (fun hg=>hb0g) rfl)<|Yy 1 rfl<|Qc (.a (.v _)) rfl j68 (fun hg E w1 hm=>by exact j6y W3 g ok _ B _ hm.leV hb (by simp only[maxLen];omega)) ?_
    refine QE 1 [4,5,10,12,54] rfl<|rq<|Qw<|z50 rfl (fun h=> ?_) fun h=> ?_
    ·
     refine z1j<|Rr ?_
     iterate 2 refine zgn tok rfl rfl rfl (by first|(repeat' first|exact trivial|exact rfl|apply And.intro);done|simp[zc2,j3j,lk,Value.oneCell']) ?_
     refine z07 [4,5] rfl<|rq<|Qw<|zbx<|QL<|QP<|j17 (()) (hbx (by simpa using h)) (by repeat (first|exact oN|refine oC rfl ?_)) rfl (by repeat (first|exact lr|assumption|(refine Vw.le.trans ?_ (by assumption))))
    ·
     refine z5i<|Qw<|z1j<|Rr<|Yy 1 rfl ?_
     have hmay:zcl g B=true:=by simpa using h
     refine QY rfl (z0l tok rfl (fun hg=>hb.sl))<|QE 1 [4,5,10,55,56,57] rfl<|rq<|Qw<|z3c<|ze8 [4,5,10,55,56] [4] rfl rfl (σ:=Nat) (fun k=>[(57, .a (.v (I k)))]) (fun k=>[(4, .row 56 3 i ((z7c ((j:Int)+1) s1 (B.take k)).flatMap Sight.cells))]) (fun k=>W3) (fun k=>k≤B.length) (fun k=>B.length - k) (0) (by omega) (by repeat (first|exact fN|refine fC rfl ?_)) (by repeat (first|exact oN|refine oC rfl ?_)) rfl lr ?_
     rintro k hk
     have hPl:(z7c ((j:Int)+1) s1 (B.take k)).length=i:=by rw[z7j,hIl]
     have hwk:IntKind.i64.wrap ((k:Int)+1)=((k+1:Nat):Int):=z06 (by omega) (by omega)
     refine z1j<|Rr<|QE 1 [4,5,10,55,56,57,58] rfl<|rq<|Qw<|z1j<|z50 rfl (fun h=> ?_) fun h=> ?_
     ·
      simp only[Xa,Xb,Xc,Xd,Xe,Xf,Xg,Xh,Xi,Xj,Xk,Xl,Xm,Xn,Xo,Xp]at h
      obtain⟨b2,h_b⟩:=atx (L:=B) (k:=k) (by omega)
      have hbn:=zz2 hmay (List.mem_of_getElem? h_b)
      have hpt:=zjf ((j:Int)+1) s1 h_b
      have hov:=zoi (z7c ((j:Int)+1) s1 (B.take k)) b2 ((j:Int)+1) (by omega)
      clear h
      refine z5i<|Qw<|z1j<|z3c<|z1j<|Rr ?_
      have hlt_b2:=z01 h_b
      refine QY rfl (z0c tok rfl (fun hg=>hb.sl) (fun hg=>⟨by omega,by omega⟩))<|QY rfl (z08 tok (k) 0 (b2) rfl (fun hg=>hb) (fun hg=>h_b) rfl rfl)<|Yy 1 rfl<|Qs rfl<|z07 [4,5,10,14,55,56,57] rfl<|rq<|Qw<|zvu rfl [12,15] (σ:=Unit) (fun _=>[(4, .a (.ptr 2 0)),(5, .a (.ptr 3 0)),(10, .a (.v (I j))),(55, .a (.v (.slice sa sk sc))),(56, .a (.v (I B.length))),(57, .a (.v (I k)))]) (fun _=>[(2, .lit [.row 4] 29),(3, .lit [.v (I 0)] 33),(4, .row 56 3 i (z25 (b2.n.toNat*3+2) [I (IntKind.i64.wrap ((j:Int)+1))] (z25 (b2.n.toNat*3+1) [Value.string b2.text] ((z7c ((j:Int)+1) s1 (B.take k)).flatMap Sight.cells)))),(7, .keep 2 (Ea.ρ 2) (Ea.κ 2)),(6, .keep 3 (Ea.ρ 3) (Ea.κ 3)),(8, .size kz)]) (10) (fun _=>W3) (fun _=>True) mixed rfl (by repeat (first|exact oN|refine oC rfl ?_)) rfl ?_ ?_
      ·
       refine QD [0,1,2] rfl<|zaq 4 rfl (by kernel_rfl) rfl rfl rfl (fun _=>z72 tok rfl) rfl<|QD [6,7] rfl<|zaq 8 rfl (by kernel_rfl) rfl rfl rfl (fun _=>z72 tok rfl) rfl<|zaq 9 rfl (by kernel_rfl) rfl rfl rfl (fun _=>z72 tok rfl) rfl<|Qu 10 rfl rfl (z0p (s:= .a (.rel 4 (b2.n.toNat*3))) 4 rfl rfl (fun v V' hv=>z14 tok (b2.n.toNat*3) rfl (by simp) (fun hg=>hv) (fun hg=>by omega))) ?_
       refine Qu 11 rfl rfl (z0p (s:= .a (.rel 4 (b2.n.toNat*3+1))) 4 rfl rfl (fun v V' hv=>z1f tok rfl (fun hg=>hv) (fun hg=>by omega)))<|QS<|z3m 3 5 12 (by kernel_rfl) ?_ ?_ ?_
       ·
        refine yH 3 rfl rfl rfl rfl rfl<|Qz 5 12 ?_ ?_
        ·
         refine yH 5 rfl rfl rfl rfl rfl<|Qo 12<|zac 12 rfl rfl rfl rfl rfl (z5m tok rfl rfl (by intro u hu;simp only[List.mem_singleton]at hu;subst hu;rfl) (by simp only[List.length_singleton];omega) (by omega)) (.inl rfl) fun _ _=> ?_
         refine Qo 13<|Qy 13 rfl rfl (z0p (s:= .a (.rel 4 (b2.n.toNat*3))) 4 rfl rfl (fun v V' hv=>z14 tok (b2.n.toNat*3) rfl (by simp) (fun hg=>hv) (fun hg=>by omega)))<|Qo 14<|Qy 14 rfl rfl (z0p (s:= .a (.rel 4 (b2.n.toNat*3+2))) 4 rfl rfl (fun v V' hv=>z1f tok rfl (fun hg=>hv) (fun hg=>by omega)))<|Qo 15<|zac 15 rfl rfl rfl rfl rfl (z5m tok rfl rfl (by intro u hu;simp only[List.mem_singleton]at hu;subst hu;rfl) (by simp only[List.length_singleton];omega) (by omega)) (.inl rfl) fun _ _=> ?_
         refine Qe [4,5,10,55,56,57] rfl ?_
         exact Qm () trivial
        ·
         refine zac 12 rfl rfl rfl rfl rfl (z5m tok rfl rfl (by intro u hu;simp only[List.mem_singleton]at hu;subst hu;rfl) (by simp only[List.length_singleton];omega) (by omega)) (.inl rfl) fun _ _=> ?_
         refine Qx [5] rfl<|Qo 13<|Qy 13 rfl rfl (z0p (s:= .a (.rel 4 (b2.n.toNat*3))) 4 rfl rfl (fun v V' hv=>z14 tok (b2.n.toNat*3) rfl (by simp) (fun hg=>hv) (fun hg=>by omega)))<|Qo 14<|Qy 14 rfl rfl (z0p (s:= .a (.rel 4 (b2.n.toNat*3+2))) 4 rfl rfl (fun v V' hv=>z1f tok rfl (fun hg=>hv) (fun hg=>by omega)))<|Qo 15<|zac 15 rfl rfl rfl rfl rfl (z5m tok rfl rfl (by intro u hu;simp only[List.mem_singleton]at hu;subst hu;rfl) (by simp only[List.length_singleton];omega) (by omega)) (.inl rfl) fun _ _=> ?_
         refine Qe [4,5,10,55,56,57] rfl ?_
         exact Qm () trivial
       ·
        refine yH 5 rfl rfl rfl rfl rfl<|Qz 3 12 ?_ ?_
        ·
         refine yH 3 rfl rfl rfl rfl rfl<|Qo 12<|zac 12 rfl rfl rfl rfl rfl (z5m tok rfl rfl (by intro u hu;simp only[List.mem_singleton]at hu;subst hu;rfl) (by simp only[List.length_singleton];omega) (by omega)) (.inl rfl) fun _ _=> ?_
         refine Qo 13<|Qy 13 rfl rfl (z0p (s:= .a (.rel 4 (b2.n.toNat*3))) 4 rfl rfl (fun v V' hv=>z14 tok (b2.n.toNat*3) rfl (by simp) (fun hg=>hv) (fun hg=>by omega)))<|Qo 14<|Qy 14 rfl rfl (z0p (s:= .a (.rel 4 (b2.n.toNat*3+2))) 4 rfl rfl (fun v V' hv=>z1f tok rfl (fun hg=>hv) (fun hg=>by omega)))<|Qo 15<|zac 15 rfl rfl rfl rfl rfl (z5m tok rfl rfl (by intro u hu;simp only[List.mem_singleton]at hu;subst hu;rfl) (by simp only[List.length_singleton];omega) (by omega)) (.inl rfl) fun _ _=> ?_
         refine Qe [4,5,10,55,56,57] rfl ?_
         exact Qm () trivial
        ·
         refine zac 12 rfl rfl rfl rfl rfl (z5m tok rfl rfl (by intro u hu;simp only[List.mem_singleton]at hu;subst hu;rfl) (by simp only[List.length_singleton];omega) (by omega)) (.inl rfl) fun _ _=> ?_
         refine Qx [3] rfl<|Qo 13<|Qy 13 rfl rfl (z0p (s:= .a (.rel 4 (b2.n.toNat*3))) 4 rfl rfl (fun v V' hv=>z14 tok (b2.n.toNat*3) rfl (by simp) (fun hg=>hv) (fun hg=>by omega)))<|Qo 14<|Qy 14 rfl rfl (z0p (s:= .a (.rel 4 (b2.n.toNat*3+2))) 4 rfl rfl (fun v V' hv=>z1f tok rfl (fun hg=>hv) (fun hg=>by omega)))<|Qo 15<|zac 15 rfl rfl rfl rfl rfl (z5m tok rfl rfl (by intro u hu;simp only[List.mem_singleton]at hu;subst hu;rfl) (by simp only[List.length_singleton];omega) (by omega)) (.inl rfl) fun _ _=> ?_
         refine Qe [4,5,10,55,56,57] rfl ?_
         exact Qm () trivial
       ·
        refine zac 12 rfl rfl rfl rfl rfl (z5m tok rfl rfl (by intro u hu;simp only[List.mem_singleton]at hu;subst hu;rfl) (by simp only[List.length_singleton];omega) (by omega)) (.inl rfl) fun _ _=> ?_
        refine Qz 3 5 ?_ ?_
        ·
         refine yH 3 rfl rfl rfl rfl rfl<|Qx [5] rfl<|Qo 13<|Qy 13 rfl rfl (z0p (s:= .a (.rel 4 (b2.n.toNat*3))) 4 rfl rfl (fun v V' hv=>z14 tok (b2.n.toNat*3) rfl (by simp) (fun hg=>hv) (fun hg=>by omega)))<|Qo 14<|Qy 14 rfl rfl (z0p (s:= .a (.rel 4 (b2.n.toNat*3+2))) 4 rfl rfl (fun v V' hv=>z1f tok rfl (fun hg=>hv) (fun hg=>by omega)))<|Qo 15<|zac 15 rfl rfl rfl rfl rfl (z5m tok rfl rfl (by intro u hu;simp only[List.mem_singleton]at hu;subst hu;rfl) (by simp only[List.length_singleton];omega) (by omega)) (.inl rfl) fun _ _=> ?_
         refine Qe [4,5,10,55,56,57] rfl ?_
         exact Qm () trivial
        ·
         refine yH 5 rfl rfl rfl rfl rfl<|Qx [3] rfl<|Qo 13<|Qy 13 rfl rfl (z0p (s:= .a (.rel 4 (b2.n.toNat*3))) 4 rfl rfl (fun v V' hv=>z14 tok (b2.n.toNat*3) rfl (by simp) (fun hg=>hv) (fun hg=>by omega)))<|Qo 14<|Qy 14 rfl rfl (z0p (s:= .a (.rel 4 (b2.n.toNat*3+2))) 4 rfl rfl (fun v V' hv=>z1f tok rfl (fun hg=>hv) (fun hg=>by omega)))<|Qo 15<|zac 15 rfl rfl rfl rfl rfl (z5m tok rfl rfl (by intro u hu;simp only[List.mem_singleton]at hu;subst hu;rfl) (by simp only[List.length_singleton];omega) (by omega)) (.inl rfl) fun _ _=> ?_
         refine Qe [4,5,10,55,56,57] rfl ?_
         exact Qm () trivial
      rintro⟨⟩ -
      refine QM<|Qw<|Rr<|QE 2 [4,5,10,55,56,57] rfl<|rq<|Qw ?_
      rw[hwj2,hov,←hpt]
      rw[hwk]
      refine z6y (k+1) (by omega) (by first|omega|(dsimp only;omega)) (by repeat (first|exact fN|refine fC rfl ?_)) (by repeat (first|exact oN|refine oC rfl ?_)) rfl<|Vw.le.refl _
     ·
      simp only[Xa,Xb,Xc,Xd,Xe,Xf,Xg,Xh,Xi,Xj,Xk,Xl,Xm,Xn,Xo,Xp]at h
      refine zin<|QK<|QK<|QQ<|QM ?_
      have hkb:k=B.length:=by omega
      subst hkb
      rw[List.take_length,←hpa]
      refine zlv (j2i A s1 j) (⟨hnx.symm,by rw[hpa,z7j,hIl],hmx hmay⟩) (by repeat (first|exact oN|refine oC rfl ?_)) rfl (by repeat (first|exact lr|assumption|(refine Vw.le.trans ?_ (by assumption))))
   ·
    intro D3 V3 s1 xs hS ⟨hI,hIl,hIm⟩ hle3 hD hle4
    have hsL:s1=z2u g A X0 n:=hI.trans (zlh g A X0 hS)
    have hyes:z2c g d A=true:=by rw[hso,hnw,zs6 g A hS hIm];rfl
    have hX:=(zsa hz hyes).1
    rw[hnb,hn,hX0]at hX
    subst hsL
    refine QM<|Qw<|z1j<|z4k 4 7 2 (Ea.ρ 2) 0 rfl rfl rfl<|z4k 5 6 3 (Ea.ρ 3) 0 rfl rfl rfl<|Rr<|Yy 1 rfl ?_
    iterate 2 refine zgn tok rfl rfl rfl (by first|(repeat' first|exact trivial|exact rfl|apply And.intro);done|simp[zc2,j3j,lk,Value.oneCell']) ?_
    refine z07 [4,5] rfl<|rq<|Qw<|zbx<|zgt tok rfl hD ?_
    intro E w' hm _
    have hvle:(vw w).le (V3.del D3):=(hle0.trans hle12).trans hle4
    refine⟨⟨_,by rw[(zsa hz hyes).2];rfl, ?_⟩,hm.below hvle⟩
    rw[hX,hIl]
    exact hm.rowFresh hvle (l:=4) rfl
   ·
    intro D3 V3 y pre _ ⟨x,hx,hxn,hxm⟩ hle3 hD hle4
    have hbd:z2c g d A=false:=by rw[hso,zmn hxn hxm,Bool.and_false]
    refine z4k 4 7 2 (Ea.ρ 2) 0 rfl rfl rfl<|z4k 5 6 3 (Ea.ρ 3) 0 rfl rfl rfl<|zbx<|QP<|QL<|zgt tok rfl hD ?_
    intro E w' hm _
    have hvle:(vw w).le (V3.del D3):=(hle0.trans hle12).trans hle4
    refine⟨⟨.slice none 0 0,by rw[(zbi hz hbd).2];rfl, ?_⟩,hm.below hvle⟩
    rw[(zbi hz hbd).1]
    exact⟨rfl, .inl ⟨rfl,rfl⟩⟩
theorem zap{g:Geo}{d:Device}{A:Nat→List Record}:(z3e g d A).length≤64:=by
 rw[z3e]
 split
 ·
  rename_i h
  have hf:=z0b (z62 (z4y h.1).1).1
  rw[z5s,z9n]
  omega
 · simp
theorem zqy{g:Geo}{d:Device}{A:Nat→List Record}:(z7q g d A).length≤64:=by
 rw[z7q]
 split
 ·
  rename_i h
  have hf:=z0b (z62 (z4y h).1).1
  rw[zgf]
  omega
 · simp
theorem zpa{g:Geo}{d:Device}:(z6s g d).length≤64:=by
 rw[z6s]
 split
 ·
  rename_i h
  have hf:=z0b (z62 (z4y h).1).1
  rw[z8q]
  omega
 · simp
theorem zk6{L:List Sight}{k:Nat}{s:Sight}(h:L[k]? =some s):((L.take k).map Sight.then_).flatMap z1a++[.string s.then_]=((L.take (k+1)).map Sight.then_).flatMap z1a:=by
 rw[z0y h]
 simp
theorem zrb(V:Vw)(g:Geo)(ok:g.Ok)(d:Device)(w:World)(hV:V.le (vw w))(hd0:DevIn V d)(hsz: ∀s∈d.s.l,s.size≤maxLen)(A:Nat→List Record)(hA:svE g d=0→RowsAll g d A):
  Cl 14 #[g.val,d.val] w (zvp z1a 9 1 ((z3e g d A).map Sight.then_) (z42 g d A) w):=by
 have hdw:=hd0.mono hV
 obtain⟨a1,a2,a3,a4,n1,c1,n2,c2,n3,c3,n4,c4,nx,hval⟩: ∃a1 a2 a3 a4 n1 c1 n2 c2 n3 c3 n4 c4 nx,d.val=zev a1 a2 a3 a4 n1 c1 n2 c2 n3 c3 n4 c4 nx:=by
  obtain⟨⟨sv,sl⟩,⟨cv,cl⟩,⟨kv,kl⟩,nx,⟨fv,fl⟩⟩:=d
  obtain⟨a1,n1,c1,rfl⟩:=z04 hd0.s.sl
  obtain⟨a2,n2,c2,rfl⟩:=z04 hd0.cache.sl
  obtain⟨a3,n3,c3,rfl⟩:=z04 hd0.keys.sl
  obtain⟨a4,n4,c4,rfl⟩:=z04 hd0.fenced.sl
  exact⟨a1,a2,a3,a4,n1,c1,n2,c2,n3,c3,n4,c4,nx,rfl⟩
 have hb:=fun(w1:World) (hle:(vw w).le (vw w1))=>z79 (enc:=Sight.cells) (sz:=3) (fun _=>rfl) hle (z99 (vw w) g ok d w1 hle hdw hsz A hA)
 have hfew:=zap (g:=g) (d:=d) (A:=A)
 rw[hval]at hb⊢
 generalize z3e g d A=L at*
 generalize z42 g d A=er at*
 refine Qf [.a (.v g.val), .a (.v (zev a1 a2 a3 a4 n1 c1 n2 c2 n3 c3 n4 c4 nx))] Tryz.func14 rfl<|QA<|QC<|QE 4 [2,3,4] rfl<|Qw<|QA<|QC<|Yy 2 rfl<|Qv (zah Sight.cells 3 L er) rfl zsl (fun hg E w1 hm=>by exact hb _ hm.leV) ?_
 rintro x W0 hle0 hx
 obtain⟨ra,rk,rc,rfl,hr⟩:=hx rfl
 clear hx
 refine QE 5 [4,5,6] rfl<|Qw<|QA<|QA<|QC<|Yy 1 rfl<|QY rfl (z0l tok rfl (fun hg=>hr.sl))<|QE 1 [4,5,15,16,17] rfl<|Qw<|QJ<|z6l 4 9 1 rfl rfl<|Ql [5,15,16] [2] rfl rfl (σ:=Nat) (fun i=>[(4, .a (.row 2)),(17, .a (.v (I i)))]) (fun i=>[(2, .row 9 1 i (((L.take i).map Sight.then_).flatMap z1a))]) (fun i=>i≤L.length) (fun i=>L.length - i) (0) (by omega) ?_
 rintro i hi
 refine QA<|QC<|QE 1 [4,5,15,16,17,18] rfl<|Qw<|QA<|QX rfl (fun h=> ?_) fun h=> ?_
 ·
  refine QI<|Qw<|QA<|QJ<|QA<|QC ?_
  obtain⟨s,h_s⟩:=atx (L:=L) (k:=i) (by omega)
  have hwi:IntKind.i64.wrap ((i:Int)+1)=((i+1:Nat):Int):=z06 (by omega) (by omega)
  have ht:=zk6 h_s
  have hlt_s:=z01 h_s
  refine QY rfl (z0c tok rfl (fun hg=>hr.sl) (fun hg=>⟨by omega,by omega⟩))<|QY rfl (z08 tok (i) 0 (s) rfl (fun hg=>hr) (fun hg=>h_s) rfl rfl)<|Yy 1 rfl<|Qs rfl<|z07 [4,5,8,15,16,17] rfl<|Qw<|QC<|Yy 3 rfl<|QZ rfl (z1q tok 1 rfl rfl rfl) fun _ _=>QZ rfl (z0g tok [.string s.then_] rfl (fun E w hm=>z09 (hm.row _ _ _ _ _ rfl)) (fun _ _ _=>by intro u hu;simp only[List.mem_singleton]at hu;subst hu;rfl) (by dsimp only;omega)) fun _ _=> ?_
  refine QE 1 [4,5,15,16,17] rfl<|QM<|Qw<|QC<|QE 2 [4,5,15,16,17] rfl<|Qw ?_
  rw[ht,hwi]
  refine z00 2 5 rfl<|Qr (i+1) (by omega)
 ·
  refine QN<|QK<|QK<|QQ<|Qw<|QA<|QC<|QE 4 [4,5] rfl<|Qw<|QO<|z0h tok rfl ?_
  have hin:i=L.length:=by omega
  subst hin
  rw[List.take_length]
  intro E w' hm _
  refine⟨⟨_,rfl, ?_⟩,hm.below hle0⟩
  rw[List.length_map]
  exact hm.rowFresh hle0 (l:=2) rfl
theorem zqs(V:Vw)(g:Geo)(ok:g.Ok)(d:Device)(w:World)(hV:V.le (vw w))(hd0:DevIn V d)(hsz: ∀s∈d.s.l,s.size≤maxLen)(A:Nat→List Record)(hA:svE g d=0→RowsAll g d A):
  Cl 15 #[g.val,d.val] w (zvp z1a 9 1 ((z3e g d A).map Sight.then_) (z42 g d A) w):=by
 have hdw:=hd0.mono hV
 obtain⟨a1,a2,a3,a4,n1,c1,n2,c2,n3,c3,n4,c4,nx,hval⟩: ∃a1 a2 a3 a4 n1 c1 n2 c2 n3 c3 n4 c4 nx,d.val=zev a1 a2 a3 a4 n1 c1 n2 c2 n3 c3 n4 c4 nx:=by
  obtain⟨⟨sv,sl⟩,⟨cv,cl⟩,⟨kv,kl⟩,nx,⟨fv,fl⟩⟩:=d
  obtain⟨a1,n1,c1,rfl⟩:=z04 hd0.s.sl
  obtain⟨a2,n2,c2,rfl⟩:=z04 hd0.cache.sl
  obtain⟨a3,n3,c3,rfl⟩:=z04 hd0.keys.sl
  obtain⟨a4,n4,c4,rfl⟩:=z04 hd0.fenced.sl
  exact⟨a1,a2,a3,a4,n1,c1,n2,c2,n3,c3,n4,c4,nx,rfl⟩
 have hb:=fun(w1:World) (hle:(vw w).le (vw w1))=>z79 (enc:=Sight.cells) (sz:=3) (fun _=>rfl) hle (zda (vw w) g ok d w1 hle hdw hsz A hA)
 have hfew:=zap (g:=g) (d:=d) (A:=A)
 rw[hval]at hb⊢
 generalize z3e g d A=L at*
 generalize z42 g d A=er at*
 refine Qf [.a (.v g.val), .a (.v (zev a1 a2 a3 a4 n1 c1 n2 c2 n3 c3 n4 c4 nx))] Tryz.func15 rfl<|QA<|QC<|QE 4 [2,3] rfl<|Qw<|QA<|QC<|Yy 2 rfl<|Qv (zah Sight.cells 3 L er) rfl zzi (fun hg E w1 hm=>by exact hb _ hm.leV) ?_
 rintro x W0 hle0 hx
 obtain⟨ra,rk,rc,rfl,hr⟩:=hx rfl
 clear hx
 refine QE 5 [6,7] rfl<|Qw<|QA<|QC<|QE 1 [6,7,8] rfl<|Qw<|QA<|QA<|QC<|QE 1 [6,7,8,9] rfl<|Qw<|QJ<|z6l 8 9 1 rfl rfl<|Ql [6,7] [2] rfl rfl (σ:=Nat) (fun i=>[(8, .a (.row 2)),(9, .a (.v (I i)))]) (fun i=>[(2, .row 9 1 i (((L.take i).map Sight.then_).flatMap z1a))]) (fun i=>i≤L.length) (fun i=>L.length - i) (0) (by omega) ?_
 rintro i hi
 refine QA<|QA<|QC<|Yy 2 rfl<|QY rfl (z0l tok rfl (fun hg=>hr.sl))<|QE 1 [6,7,8,9,19] rfl<|Qw<|QX rfl (fun h=> ?_) fun h=> ?_
 ·
  obtain⟨s,h_s⟩:=atx (L:=L) (k:=i) (by omega)
  have hwi:IntKind.i64.wrap ((i:Int)+1)=((i+1:Nat):Int):=z06 (by omega) (by omega)
  have ht:=zk6 h_s
  clear h
  refine QI<|Qw<|QA<|QJ<|QC<|Yy 3 rfl ?_
  have hlt_s:=z01 h_s
  refine QY rfl (z0c tok rfl (fun hg=>hr.sl) (fun hg=>⟨by omega,by omega⟩))<|QY rfl (z1f tok rfl (fun hg=>hr.sl) (fun hg=>by omega))<|QY rfl (z08 tok (i) 1 (s) rfl (fun hg=>hr) (fun hg=>h_s) rfl rfl)<|QZ rfl (z1q tok 1 rfl rfl rfl) fun _ _=>QZ rfl (z0g tok [.string s.then_] rfl (fun E w hm=>z09 (hm.row _ _ _ _ _ rfl)) (fun _ _ _=>by intro u hu;simp only[List.mem_singleton]at hu;subst hu;rfl) (by dsimp only;omega)) fun _ _=> ?_
  refine QE 1 [6,7,8,9] rfl<|QM<|Qw<|QC<|QE 3 [6,7,8,9] rfl<|Qw ?_
  rw[ht,hwi]
  refine z00 2 4 rfl<|Qr (i+1) (by omega)
 ·
  refine QN<|QK<|QK<|QQ<|Qw<|QA<|QC<|QE 4 [4,5] rfl<|Qw<|QO<|z0h tok rfl ?_
  have hin:i=L.length:=by omega
  subst hin
  rw[List.take_length]
  intro E w' hm _
  refine⟨⟨_,rfl, ?_⟩,hm.below hle0⟩
  rw[List.length_map]
  exact hm.rowFresh hle0 (l:=2) rfl
def z1h:Geo:=⟨2,1,2,1,4,8,1,2⟩
theorem zcb:z2y z1h=true:=by decide
theorem zfg(n:Int):(z3n n).1.size≤256:=by
 unfold z3n
 split
 · simp only[z16,z9s,leB,z0q];decide
 · simp
theorem zfb(g:Geo):(gbV g).size≤256:=by
 unfold gbV
 split
 ·
  have h20:(z24 gW (z56 g)).length=20:=by simp[z24,gW,z56,leB,z0q]
  rw[z16,z9s,h20];omega
 · simp
theorem zz7:(z3n 0).2=0:=(zgb 0).1.2 ⟨by omega,by omega⟩
def T32(top hd:ByteArray):List ByteArray:=[top,ByteArray.empty,ByteArray.empty,ByteArray.empty,ByteArray.empty,ByteArray.empty,ByteArray.empty,ByteArray.empty,ByteArray.empty,ByteArray.empty,ByteArray.empty,ByteArray.empty,ByteArray.empty,hd,ByteArray.empty,ByteArray.empty,ByteArray.empty,ByteArray.empty,ByteArray.empty,ByteArray.empty]
theorem j95(top hd:ByteArray):z7x z1h top hd 1=T32 top hd:=by
 rw[z7x,z7x,show z5j z1h=20 by decide,show z1o z1h ((0:Nat):Int)=13 by decide]
 rfl
theorem zdb(l:List ByteArray):z48 l=true↔ ∀x∈l,x.size≤512:=by
 rw[z48,Bool.not_eq_true',List.any_eq_false]
 constructor
 ·
  intro h x hx
  have:=h x hx
  simp at this
  omega
 ·
  intro h x hx
  have:=h x hx
  simp
  omega
theorem zh4{top hd:ByteArray}(h1:top.size≤256)(h2:hd.size≤256):z48 (T32 top hd)=true:=by
 rw[zdb]
 intro x hx
 simp only[T32,List.mem_cons,List.not_mem_nil,or_false]at hx
 have he:ByteArray.empty.size=0:=rfl
 rcases hx with rfl|rfl|rfl|rfl|rfl|rfl|rfl|rfl|rfl|rfl|rfl|rfl|rfl|rfl|rfl|rfl|rfl|rfl|rfl|rfl<;>omega
theorem zwd(n:Nat):ze9 (List.replicate n ByteArray.empty) []=([],0):=by
 cases n with
 |zero=>rfl
 |succ n=>
  rw[List.replicate_succ,ze9]
  have h1:drE ByteArray.empty=0:=by simp[drE]
  have h2:drB ByteArray.empty=false:=by simp[drB]
  rw[h1,h2]
  simp
section
variable{top hd:ByteArray}(h1:top.size≤256)(h2:hd.size≤256)(sv cv kv:Value)
include h1 h2
theorem j6i:zaa z1h (z10 (T32 top hd) 2 sv cv kv)=true:=by
 rw[zaa,zcb,zdk _ _ _ _ _ (by omega) (by omega),zh4 h1 h2]
 rfl
theorem zzd:zc0 z1h (z10 (T32 top hd) 2 sv cv kv)=([],0):=by
 rw[zc0,if_pos (j6i h1 h2 sv cv kv)]
 exact zwd 8
theorem jbr:tbS z1h (z10 (T32 top hd) 2 sv cv kv)=zi4 1:=by
 rw[tbS,zzd h1 h2]
 rfl
theorem j5o:RowsAll z1h (z10 (T32 top hd) 2 sv cv kv) (fun _=>[]):=by
 refine⟨fun _ _ _ _=>rfl,fun i s hs hk=> ?_⟩
 rw[jbr h1 h2]at hs
 have hm:=List.mem_of_getElem? hs
 have:s=⟨0,0⟩:=by
  have h3:(zi4 1).S=[⟨0,0⟩]:=rfl
  rw[h3]at hm
  exact List.mem_singleton.1 hm
 subst this
 exact absurd rfl hk
theorem ja9(ht:zf6 top=some z1h)(hh:z2s hd=some 0):svE z1h (z10 (T32 top hd) 2 sv cv kv)=0:=by
 refine zrw (j6i h1 h2 sv cv kv) ?_
 rw[z3o,zzd h1 h2]
 have e1:srE ((z10 (T32 top hd) 2 sv cv kv).s.l.getD 0 ByteArray.empty)=0:=by
  show srE top=0
  rw[srE,ht];rfl
 have e2:srV ((z10 (T32 top hd) 2 sv cv kv).s.l.getD 0 ByteArray.empty)=z1h:=by
  show srV top=z1h
  rw[srV,ht];rfl
 have e3:z5y z1h (z10 (T32 top hd) 2 sv cv kv).s.l z1h.slots.toNat=true:=by
  show z5y z1h (T32 top hd) 1=true
  rw[z8z,show z1o z1h ((0:Nat):Int)=13 by decide]
  show(true&&decide (z94 hd=0))=true
  rw[z94,hh];rfl
 rw[e1,e2,e3,Geo.eqB_refl]
 rfl
theorem j0w(ht:zf6 top=some z1h)(hh:z2s hd=some 0):z7q z1h (z10 (T32 top hd) 2 sv cv kv) (fun _=>[])=[⟨0,0,0,0,0,0⟩]:=by
 rw[z7q,if_pos (ja9 h1 h2 sv cv kv ht hh)]
 show z6e z1h (z10 (T32 top hd) 2 sv cv kv) (fun _=>[]) 1=_
 rw[zek,jbr h1 h2,show z1o z1h ((0:Nat):Int)=13 by decide]
 have e1:z3l ((z10 (T32 top hd) 2 sv cv kv).s.l.getD (13:Int).toNat ByteArray.empty)=0:=by
  show z3l hd=0
  rw[z3l,hh];rfl
 rw[e1]
 rfl
theorem zwj(n:Nat)(hn:n<2):zeu z1h (z10 (T32 top hd) 2 sv cv kv) (n:Int)=(ByteArray.empty,0):=by
 have hd0:(n:Int)=0∨(n:Int)=1:=by omega
 have hb:zr0 z1h (z10 (T32 top hd) 2 sv cv kv) (n:Int)=true:=by
  rw[zr0,zcb,zdk _ _ _ _ _ (by omega) (by omega),zh4 h1 h2]
  rcases hd0 with h|h<;>rw[h]<;>rfl
 have hl:zae (z10 (T32 top hd) 2 sv cv kv).s.l z1h (n:Int) z1h.per.toNat=[ByteArray.empty]:=by
  rcases hd0 with h|h
  ·
   rw[h]
   show [(T32 top hd).getD (z3w z1h 0 ((0:Nat):Int)).toNat ByteArray.empty]=_
   rw[show z3w z1h 0 ((0:Nat):Int)=18 by decide];rfl
  ·
   rw[h]
   show [(T32 top hd).getD (z3w z1h 1 ((0:Nat):Int)).toNat ByteArray.empty]=_
   rw[show z3w z1h 1 ((0:Nat):Int)=19 by decide];rfl
 rw[zeu,if_pos hb,hl,if_pos (by simp)]
 rfl
theorem jah:z2c z1h (z10 (T32 top hd) 2 sv cv kv) (fun _=>[])=true:=by
 rw[z2c]
 have e1:zc5 z1h (z10 (T32 top hd) 2 sv cv kv) z1h.blocks.toNat=true:=by
  show zc5 z1h (z10 (T32 top hd) 2 sv cv kv) 2=true
  rw[z8h,z8h,zwj h1 h2 sv cv kv 0 (by omega),zwj h1 h2 sv cv kv 1 (by omega)]
  rfl
 rw[e1]
 rfl
theorem zwf(ht:zf6 top=some z1h)(hh:z2s hd=some 0):z3e z1h (z10 (T32 top hd) 2 sv cv kv) (fun _=>[])=[⟨ByteArray.empty,ByteArray.empty,0⟩,⟨ByteArray.empty,ByteArray.empty,0⟩]∧z42 z1h (z10 (T32 top hd) 2 sv cv kv) (fun _=>[])=0:=by
 obtain⟨e1,e2⟩:=zsa (ja9 h1 h2 sv cv kv ht hh) (jah h1 h2 sv cv kv)
 refine⟨?_,e2⟩
 rw[e1]
 show z2u z1h (fun _=>[]) (z6j z1h (z10 (T32 top hd) 2 sv cv kv) 2) 1=_
 rw[z86,z86,zwj h1 h2 sv cv kv 0 (by omega),zwj h1 h2 sv cv kv 1 (by omega)]
 rfl
end
theorem zj8(V:Vw)(g:Geo)(ok:g.Ok)(hg:z2y g=true)(h0:(z3n 0).2=0)(w:World)(hV:V.le (vw w)):
  Cl 49 #[g.val] w fun e w'=> ∃x V',e= .returned x∧Below w.heap.size w w'∧Vext w.heap.size V V' w'∧ ∃a n c,x= .tuple #[.slice a n c,I 0]∧SlOf V' z1a 1 (.slice a n c) (z7x g (gbV g) (z3n 0).1 g.slots.toNat):=by
 refine(zsf g ok (z3n 0).1 (fun w=>by have:=zp6 0 w;rw[h0]at this;exact this) w).mono ?_
 rintro e w' ⟨⟨_,v,rfl,hrow⟩|⟨h1,_⟩,hb⟩
 ·
  rw[←zen g (gbV g) (z3n 0).1 g.slots.toNat]at hrow
  obtain⟨V',hx,hsl⟩:=z1i hV hb hrow
  obtain⟨a,n,c,rfl⟩:=z04 hsl
  exact⟨_,V',rfl,hb,hx,a,n,c,rfl,hsl,fun _=>rfl⟩
 · rw[hg]at h1;cases h1
theorem zl5{α:Type}{enc:α→List Value}{E:Env}{O:Go.Eng.Own}{nl:Nat}{V:Vw}{w:World}(hm:Mem E O nl V w)(l:Nat){e sz m:Nat}{xs:List Value}{L:List α}(hl:lk O l=some (.row e sz m xs))(h1:m=L.length)(h2:xs=L.flatMap enc)
  (he: ∀x,(enc x).length=sz):SlOf (vw w) enc sz (E.κ l) L:=by
 subst h1 h2
 exact hm.rowOf l hl he
def j84(T:List ByteArray)(n:Nat)(v:Value)(V':Vw):Prop:= ∃a1 m1 e1 a2 m2 e2 a3 m3 e3,v= .agg #[.slice a1 m1 e1, .slice a2 m2 e2, .slice a3 m3 e3,I 1, .slice none 0 0]∧DevIn V' (z10 T n (.slice a1 m1 e1) (.slice a2 m2 e2) (.slice a3 m3 e3))
set_option maxHeartbeats 8000000 in
theorem j1e(V:Vw)(n:Nat)(ta:Option Addr)(tn tc:Nat)(T:List ByteArray)(w:World)(hV:V.le (vw w))(hT0:SlOf V z1a 1 (.slice ta tn tc) T)(h0:0<n)(h1:n≤16)(hTl:0<T.length)(hT2:T.length≤100000)(hs:z48 T=true):
  Cl 50 #[I n, .slice ta tn tc] w fun e w'=> ∃x V',e= .returned x∧Below w.heap.size w w'∧Vext w.heap.size V V' w'∧ ∃v,x= .tuple #[v,I 0]∧j84 T n v V':=by
 have hT:=hT0.mono hV
 have hrc:z6z n [(.slice none 0 0:Value)]=(List.replicate n (⟨.slice none 0 0,[]⟩:Sl Cell)).flatMap Sl.enc:=za9 (enc:=Sl.enc) (⟨.slice none 0 0,[]⟩:Sl Cell) n
 have hrk:z6z n [I 0]=(List.replicate n (0:Int)).flatMap z0a:=za9 (enc:=z0a) (0:Int) n
 refine Qf [.a (.v (I n)), .a (.v (.slice ta tn tc))] Tryz.func50 rfl<|QA<|QC<|QE 2 [0,1,4] rfl<|Qw<|QA<|QA<|QC<|QE 6 [0,1,4,12] rfl<|Qw<|Qn rfl (fun h=> ?_) fun h=> ?_
 ·
  exfalso
  simp at h
  omega
 ·
  refine QI<|Qw<|QA<|zi0 (σ:=Unit) (fun _=>[(4, .a (.ptr 0 0)),(6, .a (.ptr 5 0))]) (fun _=>[(0, .lit [.v (.slice none 0 0), .v (.slice none 0 0), .v (.slice none 0 0), .v (I 0), .v (.slice none 0 0)] 28),(2, .row 9 1 (0+T.length) ([]++T.flatMap z1a)),(3, .row 111 1 n (z6z n [.slice none 0 0])),(4, .row 3 1 n (z6z n [I 0])),(5, .lit [.row 2, .row 3, .row 4, .v (I 1), .v (.slice none 0 0)] 28)]) (6) (fun _=>vw w) (fun _=>True) mixed ?_ ?_
  ·
   refine QT [1,3,5] rfl<|QS<|zzm 0 4 6 8 (by kernel_rfl) ?_ ?_ ?_ ?_
   ·
    refine Qg 0 rfl rfl (z1q tok 1 rfl rfl rfl) fun _ _=>zzm 2 4 6 8 (by kernel_rfl) ?_ ?_ ?_ ?_
    ·
     refine Qg 2 rfl rfl (z0g (e:=9) (sz:=1) (by_:=16) (m:=0) (k:=T.length) (olds:=[]) tok (T.flatMap z1a) rfl (fun E w1 hm=>hT.sl.src hm.get) (fun _ _ _=>z0k T) (by omega)) fun _ _=>z3m 4 6 8 (by kernel_rfl) ?_ ?_ ?_
     ·
      refine Qg 4 rfl rfl (z2z (e:=111) (sz:=1) (by_:=24) (z:=[.slice none 0 0]) tok n n rfl rfl rfl (Nat.le_refl _) (by omega) (by simp only[maxLen];omega)) fun _ _=>Qz 6 8 ?_ ?_
      ·
       refine Qg 6 rfl rfl (z2z (e:=3) (sz:=1) (by_:=8) (z:=[I 0]) tok n n rfl rfl rfl (Nat.le_refl _) (by omega) (by simp only[maxLen];omega)) fun _ _=>Qz 7 8 ?_ ?_
       ·
        refine yH 7 rfl rfl rfl rfl rfl<|Qo 8<|Qk 8 rfl rfl rfl rfl<|Qo 9<|Qi 9 rfl<|Qe [4,6] rfl ?_
        exact Qm () trivial
       ·
        refine Qk 8 rfl rfl rfl rfl<|Qx [7] rfl<|Qo 9<|Qi 9 rfl<|Qe [4,6] rfl ?_
        exact Qm () trivial
      ·
       refine Qk 8 rfl rfl rfl rfl<|Qo 6<|Qg 6 rfl rfl (z2z (e:=3) (sz:=1) (by_:=8) (z:=[I 0]) tok n n rfl rfl rfl (Nat.le_refl _) (by omega) (by simp only[maxLen];omega)) fun _ _=>Qx [7] rfl<|Qo 9<|Qi 9 rfl<|Qe [4,6] rfl<|z00 4 5 rfl ?_
       exact Qm () trivial
     ·
      refine Qg 6 rfl rfl (z2z (e:=3) (sz:=1) (by_:=8) (z:=[I 0]) tok n n rfl rfl rfl (Nat.le_refl _) (by omega) (by simp only[maxLen];omega)) fun _ _=>Qz 4 8 ?_ ?_
      ·
       refine Qg 4 rfl rfl (z2z (e:=111) (sz:=1) (by_:=24) (z:=[.slice none 0 0]) tok n n rfl rfl rfl (Nat.le_refl _) (by omega) (by simp only[maxLen];omega)) fun _ _=>Qz 7 8 ?_ ?_
       ·
        refine yH 7 rfl rfl rfl rfl rfl<|Qo 8<|Qk 8 rfl rfl rfl rfl<|Qo 9<|Qi 9 rfl<|Qe [4,6] rfl<|z00 3 4 rfl ?_
        exact Qm () trivial
       ·
        refine Qk 8 rfl rfl rfl rfl<|Qx [7] rfl<|Qo 9<|Qi 9 rfl<|Qe [4,6] rfl<|z00 3 4 rfl ?_
        exact Qm () trivial
      ·
       refine Qk 8 rfl rfl rfl rfl<|Qo 4<|Qg 4 rfl rfl (z2z (e:=111) (sz:=1) (by_:=24) (z:=[.slice none 0 0]) tok n n rfl rfl rfl (Nat.le_refl _) (by omega) (by simp only[maxLen];omega)) fun _ _=>Qx [7] rfl<|Qo 9<|Qi 9 rfl<|Qe [4,6] rfl<|z00 3 5 rfl<|z00 4 5 rfl ?_
       exact Qm () trivial
     ·
      refine Qk 8 rfl rfl rfl rfl<|Qz 4 6 ?_ ?_
      ·
       refine Qg 4 rfl rfl (z2z (e:=111) (sz:=1) (by_:=24) (z:=[.slice none 0 0]) tok n n rfl rfl rfl (Nat.le_refl _) (by omega) (by simp only[maxLen];omega)) fun _ _=>Qo 6<|Qg 6 rfl rfl (z2z (e:=3) (sz:=1) (by_:=8) (z:=[I 0]) tok n n rfl rfl rfl (Nat.le_refl _) (by omega) (by simp only[maxLen];omega)) fun _ _=>Qx [7] rfl<|Qo 9<|Qi 9 rfl<|Qe [4,6] rfl<|z00 3 4 rfl<|z00 4 5 rfl ?_
       exact Qm () trivial
      ·
       refine Qg 6 rfl rfl (z2z (e:=3) (sz:=1) (by_:=8) (z:=[I 0]) tok n n rfl rfl rfl (Nat.le_refl _) (by omega) (by simp only[maxLen];omega)) fun _ _=>Qo 4<|Qg 4 rfl rfl (z2z (e:=111) (sz:=1) (by_:=24) (z:=[.slice none 0 0]) tok n n rfl rfl rfl (Nat.le_refl _) (by omega) (by simp only[maxLen];omega)) fun _ _=>Qx [7] rfl<|Qo 9<|Qi 9 rfl<|Qe [4,6] rfl<|z00 3 5 rfl ?_
       exact Qm () trivial
    ·
     refine Qg 4 rfl rfl (z2z (e:=111) (sz:=1) (by_:=24) (z:=[.slice none 0 0]) tok n n rfl rfl rfl (Nat.le_refl _) (by omega) (by simp only[maxLen];omega)) fun _ _=>z3m 2 6 8 (by kernel_rfl) ?_ ?_ ?_
     ·
      refine Qg 2 rfl rfl (z0g (e:=9) (sz:=1) (by_:=16) (m:=0) (k:=T.length) (olds:=[]) tok (T.flatMap z1a) rfl (fun E w1 hm=>hT.sl.src hm.get) (fun _ _ _=>z0k T) (by omega)) fun _ _=>Qz 6 8 ?_ ?_
      ·
       refine Qg 6 rfl rfl (z2z (e:=3) (sz:=1) (by_:=8) (z:=[I 0]) tok n n rfl rfl rfl (Nat.le_refl _) (by omega) (by simp only[maxLen];omega)) fun _ _=>Qz 7 8 ?_ ?_
       ·
        refine yH 7 rfl rfl rfl rfl rfl<|Qo 8<|Qk 8 rfl rfl rfl rfl<|Qo 9<|Qi 9 rfl<|Qe [4,6] rfl<|z00 2 3 rfl ?_
        exact Qm () trivial
       ·
        refine Qk 8 rfl rfl rfl rfl<|Qx [7] rfl<|Qo 9<|Qi 9 rfl<|Qe [4,6] rfl<|z00 2 3 rfl ?_
        exact Qm () trivial
      ·
       refine Qk 8 rfl rfl rfl rfl<|Qo 6<|Qg 6 rfl rfl (z2z (e:=3) (sz:=1) (by_:=8) (z:=[I 0]) tok n n rfl rfl rfl (Nat.le_refl _) (by omega) (by simp only[maxLen];omega)) fun _ _=>Qx [7] rfl<|Qo 9<|Qi 9 rfl<|Qe [4,6] rfl<|z00 2 3 rfl<|z00 4 5 rfl ?_
       exact Qm () trivial
     ·
      refine Qg 6 rfl rfl (z2z (e:=3) (sz:=1) (by_:=8) (z:=[I 0]) tok n n rfl rfl rfl (Nat.le_refl _) (by omega) (by simp only[maxLen];omega)) fun _ _=>Qz 2 8 ?_ ?_
      ·
       refine Qg 2 rfl rfl (z0g (e:=9) (sz:=1) (by_:=16) (m:=0) (k:=T.length) (olds:=[]) tok (T.flatMap z1a) rfl (fun E w1 hm=>hT.sl.src hm.get) (fun _ _ _=>z0k T) (by omega)) fun _ _=>Qz 7 8 ?_ ?_
       ·
        refine yH 7 rfl rfl rfl rfl rfl<|Qo 8<|Qk 8 rfl rfl rfl rfl<|Qo 9<|Qi 9 rfl<|Qe [4,6] rfl<|z00 2 4 rfl<|z00 3 4 rfl ?_
        exact Qm () trivial
       ·
        refine Qk 8 rfl rfl rfl rfl<|Qx [7] rfl<|Qo 9<|Qi 9 rfl<|Qe [4,6] rfl<|z00 2 4 rfl<|z00 3 4 rfl ?_
        exact Qm () trivial
      ·
       refine Qk 8 rfl rfl rfl rfl<|Qo 2<|Qg 2 rfl rfl (z0g (e:=9) (sz:=1) (by_:=16) (m:=0) (k:=T.length) (olds:=[]) tok (T.flatMap z1a) rfl (fun E w1 hm=>hT.sl.src hm.get) (fun _ _ _=>z0k T) (by omega)) fun _ _=>Qx [7] rfl<|Qo 9<|Qi 9 rfl<|Qe [4,6] rfl<|z00 2 5 rfl<|z00 3 5 rfl<|z00 4 5 rfl ?_
       exact Qm () trivial
     ·
      refine Qk 8 rfl rfl rfl rfl<|Qz 2 6 ?_ ?_
      ·
       refine Qg 2 rfl rfl (z0g (e:=9) (sz:=1) (by_:=16) (m:=0) (k:=T.length) (olds:=[]) tok (T.flatMap z1a) rfl (fun E w1 hm=>hT.sl.src hm.get) (fun _ _ _=>z0k T) (by omega)) fun _ _=>Qo 6<|Qg 6 rfl rfl (z2z (e:=3) (sz:=1) (by_:=8) (z:=[I 0]) tok n n rfl rfl rfl (Nat.le_refl _) (by omega) (by simp only[maxLen];omega)) fun _ _=>Qx [7] rfl<|Qo 9<|Qi 9 rfl<|Qe [4,6] rfl<|z00 2 4 rfl ?_
       refine z00 3 4 rfl<|z00 4 5 rfl ?_
       exact Qm () trivial
      ·
       refine Qg 6 rfl rfl (z2z (e:=3) (sz:=1) (by_:=8) (z:=[I 0]) tok n n rfl rfl rfl (Nat.le_refl _) (by omega) (by simp only[maxLen];omega)) fun _ _=>Qo 2<|Qg 2 rfl rfl (z0g (e:=9) (sz:=1) (by_:=16) (m:=0) (k:=T.length) (olds:=[]) tok (T.flatMap z1a) rfl (fun E w1 hm=>hT.sl.src hm.get) (fun _ _ _=>z0k T) (by omega)) fun _ _=>Qx [7] rfl<|Qo 9<|Qi 9 rfl<|Qe [4,6] rfl<|z00 2 5 rfl ?_
       refine z00 3 5 rfl ?_
       exact Qm () trivial
    ·
     refine Qg 6 rfl rfl (z2z (e:=3) (sz:=1) (by_:=8) (z:=[I 0]) tok n n rfl rfl rfl (Nat.le_refl _) (by omega) (by simp only[maxLen];omega)) fun _ _=>z3m 2 4 8 (by kernel_rfl) ?_ ?_ ?_
     ·
      refine Qg 2 rfl rfl (z0g (e:=9) (sz:=1) (by_:=16) (m:=0) (k:=T.length) (olds:=[]) tok (T.flatMap z1a) rfl (fun E w1 hm=>hT.sl.src hm.get) (fun _ _ _=>z0k T) (by omega)) fun _ _=>Qz 4 8 ?_ ?_
      ·
       refine Qg 4 rfl rfl (z2z (e:=111) (sz:=1) (by_:=24) (z:=[.slice none 0 0]) tok n n rfl rfl rfl (Nat.le_refl _) (by omega) (by simp only[maxLen];omega)) fun _ _=>Qz 7 8 ?_ ?_
       ·
        refine yH 7 rfl rfl rfl rfl rfl<|Qo 8<|Qk 8 rfl rfl rfl rfl<|Qo 9<|Qi 9 rfl<|Qe [4,6] rfl<|z00 2 3 rfl<|z00 3 4 rfl ?_
        exact Qm () trivial
       ·
        refine Qk 8 rfl rfl rfl rfl<|Qx [7] rfl<|Qo 9<|Qi 9 rfl<|Qe [4,6] rfl<|z00 2 3 rfl<|z00 3 4 rfl ?_
        exact Qm () trivial
      ·
       refine Qk 8 rfl rfl rfl rfl<|Qo 4<|Qg 4 rfl rfl (z2z (e:=111) (sz:=1) (by_:=24) (z:=[.slice none 0 0]) tok n n rfl rfl rfl (Nat.le_refl _) (by omega) (by simp only[maxLen];omega)) fun _ _=>Qx [7] rfl<|Qo 9<|Qi 9 rfl<|Qe [4,6] rfl<|z00 2 3 rfl<|z00 3 5 rfl<|z00 4 5 rfl ?_
       exact Qm () trivial
     ·
      refine Qg 4 rfl rfl (z2z (e:=111) (sz:=1) (by_:=24) (z:=[.slice none 0 0]) tok n n rfl rfl rfl (Nat.le_refl _) (by omega) (by simp only[maxLen];omega)) fun _ _=>Qz 2 8 ?_ ?_
      ·
       refine Qg 2 rfl rfl (z0g (e:=9) (sz:=1) (by_:=16) (m:=0) (k:=T.length) (olds:=[]) tok (T.flatMap z1a) rfl (fun E w1 hm=>hT.sl.src hm.get) (fun _ _ _=>z0k T) (by omega)) fun _ _=>Qz 7 8 ?_ ?_
       ·
        refine yH 7 rfl rfl rfl rfl rfl<|Qo 8<|Qk 8 rfl rfl rfl rfl<|Qo 9<|Qi 9 rfl<|Qe [4,6] rfl<|z00 2 4 rfl ?_
        exact Qm () trivial
       ·
        refine Qk 8 rfl rfl rfl rfl<|Qx [7] rfl<|Qo 9<|Qi 9 rfl<|Qe [4,6] rfl<|z00 2 4 rfl ?_
        exact Qm () trivial
      ·
       refine Qk 8 rfl rfl rfl rfl<|Qo 2<|Qg 2 rfl rfl (z0g (e:=9) (sz:=1) (by_:=16) (m:=0) (k:=T.length) (olds:=[]) tok (T.flatMap z1a) rfl (fun E w1 hm=>hT.sl.src hm.get) (fun _ _ _=>z0k T) (by omega)) fun _ _=>Qx [7] rfl<|Qo 9<|Qi 9 rfl<|Qe [4,6] rfl<|z00 2 5 rfl<|z00 4 5 rfl ?_
       exact Qm () trivial
     ·
      refine Qk 8 rfl rfl rfl rfl<|Qz 2 4 ?_ ?_
      ·
       refine Qg 2 rfl rfl (z0g (e:=9) (sz:=1) (by_:=16) (m:=0) (k:=T.length) (olds:=[]) tok (T.flatMap z1a) rfl (fun E w1 hm=>hT.sl.src hm.get) (fun _ _ _=>z0k T) (by omega)) fun _ _=>Qo 4<|Qg 4 rfl rfl (z2z (e:=111) (sz:=1) (by_:=24) (z:=[.slice none 0 0]) tok n n rfl rfl rfl (Nat.le_refl _) (by omega) (by simp only[maxLen];omega)) fun _ _=>Qx [7] rfl<|Qo 9<|Qi 9 rfl<|Qe [4,6] rfl ?_
       refine z00 2 4 rfl<|z00 3 5 rfl ?_
       exact Qm () trivial
      ·
       refine Qg 4 rfl rfl (z2z (e:=111) (sz:=1) (by_:=24) (z:=[.slice none 0 0]) tok n n rfl rfl rfl (Nat.le_refl _) (by omega) (by simp only[maxLen];omega)) fun _ _=>Qo 2<|Qg 2 rfl rfl (z0g (e:=9) (sz:=1) (by_:=16) (m:=0) (k:=T.length) (olds:=[]) tok (T.flatMap z1a) rfl (fun E w1 hm=>hT.sl.src hm.get) (fun _ _ _=>z0k T) (by omega)) fun _ _=>Qx [7] rfl<|Qo 9<|Qi 9 rfl<|Qe [4,6] rfl ?_
       refine z00 2 5 rfl<|z00 3 4 rfl<|z00 4 5 rfl ?_
       exact Qm () trivial
    ·
     refine Qk 8 rfl rfl rfl rfl<|z3m 2 4 6 (by kernel_rfl) ?_ ?_ ?_
     ·
      refine Qg 2 rfl rfl (z0g (e:=9) (sz:=1) (by_:=16) (m:=0) (k:=T.length) (olds:=[]) tok (T.flatMap z1a) rfl (fun E w1 hm=>hT.sl.src hm.get) (fun _ _ _=>z0k T) (by omega)) fun _ _=>Qz 4 6 ?_ ?_
      ·
       refine Qg 4 rfl rfl (z2z (e:=111) (sz:=1) (by_:=24) (z:=[.slice none 0 0]) tok n n rfl rfl rfl (Nat.le_refl _) (by omega) (by simp only[maxLen];omega)) fun _ _=>Qo 6<|Qg 6 rfl rfl (z2z (e:=3) (sz:=1) (by_:=8) (z:=[I 0]) tok n n rfl rfl rfl (Nat.le_refl _) (by omega) (by simp only[maxLen];omega)) fun _ _=>Qx [7] rfl<|Qo 9<|Qi 9 rfl<|Qe [4,6] rfl<|z00 2 3 rfl<|z00 3 4 rfl<|z00 4 5 rfl ?_
       exact Qm () trivial
      ·
       refine Qg 6 rfl rfl (z2z (e:=3) (sz:=1) (by_:=8) (z:=[I 0]) tok n n rfl rfl rfl (Nat.le_refl _) (by omega) (by simp only[maxLen];omega)) fun _ _=>Qo 4<|Qg 4 rfl rfl (z2z (e:=111) (sz:=1) (by_:=24) (z:=[.slice none 0 0]) tok n n rfl rfl rfl (Nat.le_refl _) (by omega) (by simp only[maxLen];omega)) fun _ _=>Qx [7] rfl<|Qo 9<|Qi 9 rfl<|Qe [4,6] rfl<|z00 2 3 rfl<|z00 3 5 rfl ?_
       exact Qm () trivial
     ·
      refine Qg 4 rfl rfl (z2z (e:=111) (sz:=1) (by_:=24) (z:=[.slice none 0 0]) tok n n rfl rfl rfl (Nat.le_refl _) (by omega) (by simp only[maxLen];omega)) fun _ _=>Qz 2 6 ?_ ?_
      ·
       refine Qg 2 rfl rfl (z0g (e:=9) (sz:=1) (by_:=16) (m:=0) (k:=T.length) (olds:=[]) tok (T.flatMap z1a) rfl (fun E w1 hm=>hT.sl.src hm.get) (fun _ _ _=>z0k T) (by omega)) fun _ _=>Qo 6<|Qg 6 rfl rfl (z2z (e:=3) (sz:=1) (by_:=8) (z:=[I 0]) tok n n rfl rfl rfl (Nat.le_refl _) (by omega) (by simp only[maxLen];omega)) fun _ _=>Qx [7] rfl<|Qo 9<|Qi 9 rfl<|Qe [4,6] rfl<|z00 2 4 rfl ?_
       refine z00 4 5 rfl ?_
       exact Qm () trivial
      ·
       refine Qg 6 rfl rfl (z2z (e:=3) (sz:=1) (by_:=8) (z:=[I 0]) tok n n rfl rfl rfl (Nat.le_refl _) (by omega) (by simp only[maxLen];omega)) fun _ _=>Qo 2<|Qg 2 rfl rfl (z0g (e:=9) (sz:=1) (by_:=16) (m:=0) (k:=T.length) (olds:=[]) tok (T.flatMap z1a) rfl (fun E w1 hm=>hT.sl.src hm.get) (fun _ _ _=>z0k T) (by omega)) fun _ _=>Qx [7] rfl<|Qo 9<|Qi 9 rfl<|Qe [4,6] rfl<|z00 2 5 rfl ?_
       exact Qm () trivial
     ·
      refine Qg 6 rfl rfl (z2z (e:=3) (sz:=1) (by_:=8) (z:=[I 0]) tok n n rfl rfl rfl (Nat.le_refl _) (by omega) (by simp only[maxLen];omega)) fun _ _=>Qz 2 4 ?_ ?_
      ·
       refine Qg 2 rfl rfl (z0g (e:=9) (sz:=1) (by_:=16) (m:=0) (k:=T.length) (olds:=[]) tok (T.flatMap z1a) rfl (fun E w1 hm=>hT.sl.src hm.get) (fun _ _ _=>z0k T) (by omega)) fun _ _=>Qo 4<|Qg 4 rfl rfl (z2z (e:=111) (sz:=1) (by_:=24) (z:=[.slice none 0 0]) tok n n rfl rfl rfl (Nat.le_refl _) (by omega) (by simp only[maxLen];omega)) fun _ _=>Qx [7] rfl<|Qo 9<|Qi 9 rfl<|Qe [4,6] rfl ?_
       refine z00 2 4 rfl<|z00 3 5 rfl<|z00 4 5 rfl ?_
       exact Qm () trivial
      ·
       refine Qg 4 rfl rfl (z2z (e:=111) (sz:=1) (by_:=24) (z:=[.slice none 0 0]) tok n n rfl rfl rfl (Nat.le_refl _) (by omega) (by simp only[maxLen];omega)) fun _ _=>Qo 2<|Qg 2 rfl rfl (z0g (e:=9) (sz:=1) (by_:=16) (m:=0) (k:=T.length) (olds:=[]) tok (T.flatMap z1a) rfl (fun E w1 hm=>hT.sl.src hm.get) (fun _ _ _=>z0k T) (by omega)) fun _ _=>Qx [7] rfl<|Qo 9<|Qi 9 rfl<|Qe [4,6] rfl ?_
       refine z00 2 5 rfl<|z00 3 4 rfl ?_
       exact Qm () trivial
   ·
    refine Qg 4 rfl rfl (z2z (e:=111) (sz:=1) (by_:=24) (z:=[.slice none 0 0]) tok n n rfl rfl rfl (Nat.le_refl _) (by omega) (by simp only[maxLen];omega)) fun _ _=>z3m 0 6 8 (by kernel_rfl) ?_ ?_ ?_
    ·
     refine Qg 0 rfl rfl (z1q tok 1 rfl rfl rfl) fun _ _=>z3m 2 6 8 (by kernel_rfl) ?_ ?_ ?_
     ·
      refine Qg 2 rfl rfl (z0g (e:=9) (sz:=1) (by_:=16) (m:=0) (k:=T.length) (olds:=[]) tok (T.flatMap z1a) rfl (fun E w1 hm=>hT.sl.src hm.get) (fun _ _ _=>z0k T) (by omega)) fun _ _=>Qz 6 8 ?_ ?_
      ·
       refine Qg 6 rfl rfl (z2z (e:=3) (sz:=1) (by_:=8) (z:=[I 0]) tok n n rfl rfl rfl (Nat.le_refl _) (by omega) (by simp only[maxLen];omega)) fun _ _=>Qz 7 8 ?_ ?_
       ·
        refine yH 7 rfl rfl rfl rfl rfl<|Qo 8<|Qk 8 rfl rfl rfl rfl<|Qo 9<|Qi 9 rfl<|Qe [4,6] rfl<|z00 1 2 rfl<|z00 2 3 rfl ?_
        exact Qm () trivial
       ·
        refine Qk 8 rfl rfl rfl rfl<|Qx [7] rfl<|Qo 9<|Qi 9 rfl<|Qe [4,6] rfl<|z00 1 2 rfl<|z00 2 3 rfl ?_
        exact Qm () trivial
      ·
       refine Qk 8 rfl rfl rfl rfl<|Qo 6<|Qg 6 rfl rfl (z2z (e:=3) (sz:=1) (by_:=8) (z:=[I 0]) tok n n rfl rfl rfl (Nat.le_refl _) (by omega) (by simp only[maxLen];omega)) fun _ _=>Qx [7] rfl<|Qo 9<|Qi 9 rfl<|Qe [4,6] rfl<|z00 1 2 rfl<|z00 2 3 rfl<|z00 4 5 rfl ?_
       exact Qm () trivial
     ·
      refine Qg 6 rfl rfl (z2z (e:=3) (sz:=1) (by_:=8) (z:=[I 0]) tok n n rfl rfl rfl (Nat.le_refl _) (by omega) (by simp only[maxLen];omega)) fun _ _=>Qz 2 8 ?_ ?_
      ·
       refine Qg 2 rfl rfl (z0g (e:=9) (sz:=1) (by_:=16) (m:=0) (k:=T.length) (olds:=[]) tok (T.flatMap z1a) rfl (fun E w1 hm=>hT.sl.src hm.get) (fun _ _ _=>z0k T) (by omega)) fun _ _=>Qz 7 8 ?_ ?_
       ·
        refine yH 7 rfl rfl rfl rfl rfl<|Qo 8<|Qk 8 rfl rfl rfl rfl<|Qo 9<|Qi 9 rfl<|Qe [4,6] rfl<|z00 1 2 rfl<|z00 2 4 rfl<|z00 3 4 rfl ?_
        exact Qm () trivial
       ·
        refine Qk 8 rfl rfl rfl rfl<|Qx [7] rfl<|Qo 9<|Qi 9 rfl<|Qe [4,6] rfl<|z00 1 2 rfl<|z00 2 4 rfl<|z00 3 4 rfl ?_
        exact Qm () trivial
      ·
       refine Qk 8 rfl rfl rfl rfl<|Qo 2<|Qg 2 rfl rfl (z0g (e:=9) (sz:=1) (by_:=16) (m:=0) (k:=T.length) (olds:=[]) tok (T.flatMap z1a) rfl (fun E w1 hm=>hT.sl.src hm.get) (fun _ _ _=>z0k T) (by omega)) fun _ _=>Qx [7] rfl<|Qo 9<|Qi 9 rfl<|Qe [4,6] rfl<|z00 1 2 rfl<|z00 2 5 rfl<|z00 3 5 rfl<|z00 4 5 rfl ?_
       exact Qm () trivial
     ·
      refine Qk 8 rfl rfl rfl rfl<|Qz 2 6 ?_ ?_
      ·
       refine Qg 2 rfl rfl (z0g (e:=9) (sz:=1) (by_:=16) (m:=0) (k:=T.length) (olds:=[]) tok (T.flatMap z1a) rfl (fun E w1 hm=>hT.sl.src hm.get) (fun _ _ _=>z0k T) (by omega)) fun _ _=>Qo 6<|Qg 6 rfl rfl (z2z (e:=3) (sz:=1) (by_:=8) (z:=[I 0]) tok n n rfl rfl rfl (Nat.le_refl _) (by omega) (by simp only[maxLen];omega)) fun _ _=>Qx [7] rfl<|Qo 9<|Qi 9 rfl<|Qe [4,6] rfl<|z00 1 2 rfl ?_
       refine z00 2 4 rfl<|z00 3 4 rfl<|z00 4 5 rfl ?_
       exact Qm () trivial
      ·
       refine Qg 6 rfl rfl (z2z (e:=3) (sz:=1) (by_:=8) (z:=[I 0]) tok n n rfl rfl rfl (Nat.le_refl _) (by omega) (by simp only[maxLen];omega)) fun _ _=>Qo 2<|Qg 2 rfl rfl (z0g (e:=9) (sz:=1) (by_:=16) (m:=0) (k:=T.length) (olds:=[]) tok (T.flatMap z1a) rfl (fun E w1 hm=>hT.sl.src hm.get) (fun _ _ _=>z0k T) (by omega)) fun _ _=>Qx [7] rfl<|Qo 9<|Qi 9 rfl<|Qe [4,6] rfl<|z00 1 2 rfl ?_
       refine z00 2 5 rfl<|z00 3 5 rfl ?_
       exact Qm () trivial
    ·
     refine Qg 6 rfl rfl (z2z (e:=3) (sz:=1) (by_:=8) (z:=[I 0]) tok n n rfl rfl rfl (Nat.le_refl _) (by omega) (by simp only[maxLen];omega)) fun _ _=>Qz 0 8 ?_ ?_
     ·
      refine Qg 0 rfl rfl (z1q tok 1 rfl rfl rfl) fun _ _=>Qz 2 8 ?_ ?_
      ·
       refine Qg 2 rfl rfl (z0g (e:=9) (sz:=1) (by_:=16) (m:=0) (k:=T.length) (olds:=[]) tok (T.flatMap z1a) rfl (fun E w1 hm=>hT.sl.src hm.get) (fun _ _ _=>z0k T) (by omega)) fun _ _=>Qz 7 8 ?_ ?_
       ·
        refine yH 7 rfl rfl rfl rfl rfl<|Qo 8<|Qk 8 rfl rfl rfl rfl<|Qo 9<|Qi 9 rfl<|Qe [4,6] rfl<|z00 1 3 rfl<|z00 2 4 rfl ?_
        exact Qm () trivial
       ·
        refine Qk 8 rfl rfl rfl rfl<|Qx [7] rfl<|Qo 9<|Qi 9 rfl<|Qe [4,6] rfl<|z00 1 3 rfl<|z00 2 4 rfl ?_
        exact Qm () trivial
      ·
       refine Qk 8 rfl rfl rfl rfl<|Qo 2<|Qg 2 rfl rfl (z0g (e:=9) (sz:=1) (by_:=16) (m:=0) (k:=T.length) (olds:=[]) tok (T.flatMap z1a) rfl (fun E w1 hm=>hT.sl.src hm.get) (fun _ _ _=>z0k T) (by omega)) fun _ _=>Qx [7] rfl<|Qo 9<|Qi 9 rfl<|Qe [4,6] rfl<|z00 1 3 rfl<|z00 2 5 rfl<|z00 4 5 rfl ?_
       exact Qm () trivial
     ·
      refine Qk 8 rfl rfl rfl rfl<|Qo 0<|Qg 0 rfl rfl (z1q tok 1 rfl rfl rfl) fun _ _=>Qo 2<|Qg 2 rfl rfl (z0g (e:=9) (sz:=1) (by_:=16) (m:=0) (k:=T.length) (olds:=[]) tok (T.flatMap z1a) rfl (fun E w1 hm=>hT.sl.src hm.get) (fun _ _ _=>z0k T) (by omega)) fun _ _=>Qx [7] rfl<|Qo 9<|Qi 9 rfl<|Qe [4,6] rfl<|z00 1 4 rfl<|z00 2 5 rfl<|z00 3 4 rfl<|z00 4 5 rfl ?_
      exact Qm () trivial
    ·
     refine Qk 8 rfl rfl rfl rfl<|Qz 0 6 ?_ ?_
     ·
      refine Qg 0 rfl rfl (z1q tok 1 rfl rfl rfl) fun _ _=>Qz 2 6 ?_ ?_
      ·
       refine Qg 2 rfl rfl (z0g (e:=9) (sz:=1) (by_:=16) (m:=0) (k:=T.length) (olds:=[]) tok (T.flatMap z1a) rfl (fun E w1 hm=>hT.sl.src hm.get) (fun _ _ _=>z0k T) (by omega)) fun _ _=>Qo 6<|Qg 6 rfl rfl (z2z (e:=3) (sz:=1) (by_:=8) (z:=[I 0]) tok n n rfl rfl rfl (Nat.le_refl _) (by omega) (by simp only[maxLen];omega)) fun _ _=>Qx [7] rfl<|Qo 9<|Qi 9 rfl<|Qe [4,6] rfl<|z00 1 3 rfl ?_
       refine z00 2 4 rfl<|z00 4 5 rfl ?_
       exact Qm () trivial
      ·
       refine Qg 6 rfl rfl (z2z (e:=3) (sz:=1) (by_:=8) (z:=[I 0]) tok n n rfl rfl rfl (Nat.le_refl _) (by omega) (by simp only[maxLen];omega)) fun _ _=>Qo 2<|Qg 2 rfl rfl (z0g (e:=9) (sz:=1) (by_:=16) (m:=0) (k:=T.length) (olds:=[]) tok (T.flatMap z1a) rfl (fun E w1 hm=>hT.sl.src hm.get) (fun _ _ _=>z0k T) (by omega)) fun _ _=>Qx [7] rfl<|Qo 9<|Qi 9 rfl<|Qe [4,6] rfl<|z00 1 3 rfl ?_
       refine z00 2 5 rfl ?_
       exact Qm () trivial
     ·
      refine Qg 6 rfl rfl (z2z (e:=3) (sz:=1) (by_:=8) (z:=[I 0]) tok n n rfl rfl rfl (Nat.le_refl _) (by omega) (by simp only[maxLen];omega)) fun _ _=>Qo 0<|Qg 0 rfl rfl (z1q tok 1 rfl rfl rfl) fun _ _=>Qo 2<|Qg 2 rfl rfl (z0g (e:=9) (sz:=1) (by_:=16) (m:=0) (k:=T.length) (olds:=[]) tok (T.flatMap z1a) rfl (fun E w1 hm=>hT.sl.src hm.get) (fun _ _ _=>z0k T) (by omega)) fun _ _=> ?_
      refine Qx [7] rfl<|Qo 9<|Qi 9 rfl<|Qe [4,6] rfl<|z00 1 4 rfl<|z00 2 5 rfl<|z00 3 4 rfl ?_
      exact Qm () trivial
   ·
    refine Qg 6 rfl rfl (z2z (e:=3) (sz:=1) (by_:=8) (z:=[I 0]) tok n n rfl rfl rfl (Nat.le_refl _) (by omega) (by simp only[maxLen];omega)) fun _ _=>z3m 0 4 8 (by kernel_rfl) ?_ ?_ ?_
    ·
     refine Qg 0 rfl rfl (z1q tok 1 rfl rfl rfl) fun _ _=>z3m 2 4 8 (by kernel_rfl) ?_ ?_ ?_
     ·
      refine Qg 2 rfl rfl (z0g (e:=9) (sz:=1) (by_:=16) (m:=0) (k:=T.length) (olds:=[]) tok (T.flatMap z1a) rfl (fun E w1 hm=>hT.sl.src hm.get) (fun _ _ _=>z0k T) (by omega)) fun _ _=>Qz 4 8 ?_ ?_
      ·
       refine Qg 4 rfl rfl (z2z (e:=111) (sz:=1) (by_:=24) (z:=[.slice none 0 0]) tok n n rfl rfl rfl (Nat.le_refl _) (by omega) (by simp only[maxLen];omega)) fun _ _=>Qz 7 8 ?_ ?_
       ·
        refine yH 7 rfl rfl rfl rfl rfl<|Qo 8<|Qk 8 rfl rfl rfl rfl<|Qo 9<|Qi 9 rfl<|Qe [4,6] rfl<|z00 1 2 rfl<|z00 2 3 rfl<|z00 3 4 rfl ?_
        exact Qm () trivial
       ·
        refine Qk 8 rfl rfl rfl rfl<|Qx [7] rfl<|Qo 9<|Qi 9 rfl<|Qe [4,6] rfl<|z00 1 2 rfl<|z00 2 3 rfl<|z00 3 4 rfl ?_
        exact Qm () trivial
      ·
       refine Qk 8 rfl rfl rfl rfl<|Qo 4<|Qg 4 rfl rfl (z2z (e:=111) (sz:=1) (by_:=24) (z:=[.slice none 0 0]) tok n n rfl rfl rfl (Nat.le_refl _) (by omega) (by simp only[maxLen];omega)) fun _ _=>Qx [7] rfl<|Qo 9<|Qi 9 rfl<|Qe [4,6] rfl<|z00 1 2 rfl<|z00 2 3 rfl<|z00 3 5 rfl<|z00 4 5 rfl ?_
       exact Qm () trivial
     ·
      refine Qg 4 rfl rfl (z2z (e:=111) (sz:=1) (by_:=24) (z:=[.slice none 0 0]) tok n n rfl rfl rfl (Nat.le_refl _) (by omega) (by simp only[maxLen];omega)) fun _ _=>Qz 2 8 ?_ ?_
      ·
       refine Qg 2 rfl rfl (z0g (e:=9) (sz:=1) (by_:=16) (m:=0) (k:=T.length) (olds:=[]) tok (T.flatMap z1a) rfl (fun E w1 hm=>hT.sl.src hm.get) (fun _ _ _=>z0k T) (by omega)) fun _ _=>Qz 7 8 ?_ ?_
       ·
        refine yH 7 rfl rfl rfl rfl rfl<|Qo 8<|Qk 8 rfl rfl rfl rfl<|Qo 9<|Qi 9 rfl<|Qe [4,6] rfl<|z00 1 2 rfl<|z00 2 4 rfl ?_
        exact Qm () trivial
       ·
        refine Qk 8 rfl rfl rfl rfl<|Qx [7] rfl<|Qo 9<|Qi 9 rfl<|Qe [4,6] rfl<|z00 1 2 rfl<|z00 2 4 rfl ?_
        exact Qm () trivial
      ·
       refine Qk 8 rfl rfl rfl rfl<|Qo 2<|Qg 2 rfl rfl (z0g (e:=9) (sz:=1) (by_:=16) (m:=0) (k:=T.length) (olds:=[]) tok (T.flatMap z1a) rfl (fun E w1 hm=>hT.sl.src hm.get) (fun _ _ _=>z0k T) (by omega)) fun _ _=>Qx [7] rfl<|Qo 9<|Qi 9 rfl<|Qe [4,6] rfl<|z00 1 2 rfl<|z00 2 5 rfl<|z00 4 5 rfl ?_
       exact Qm () trivial
     ·
      refine Qk 8 rfl rfl rfl rfl<|Qz 2 4 ?_ ?_
      ·
       refine Qg 2 rfl rfl (z0g (e:=9) (sz:=1) (by_:=16) (m:=0) (k:=T.length) (olds:=[]) tok (T.flatMap z1a) rfl (fun E w1 hm=>hT.sl.src hm.get) (fun _ _ _=>z0k T) (by omega)) fun _ _=>Qo 4<|Qg 4 rfl rfl (z2z (e:=111) (sz:=1) (by_:=24) (z:=[.slice none 0 0]) tok n n rfl rfl rfl (Nat.le_refl _) (by omega) (by simp only[maxLen];omega)) fun _ _=>Qx [7] rfl<|Qo 9<|Qi 9 rfl<|Qe [4,6] rfl ?_
       refine z00 1 2 rfl<|z00 2 4 rfl<|z00 3 5 rfl ?_
       exact Qm () trivial
      ·
       refine Qg 4 rfl rfl (z2z (e:=111) (sz:=1) (by_:=24) (z:=[.slice none 0 0]) tok n n rfl rfl rfl (Nat.le_refl _) (by omega) (by simp only[maxLen];omega)) fun _ _=>Qo 2<|Qg 2 rfl rfl (z0g (e:=9) (sz:=1) (by_:=16) (m:=0) (k:=T.length) (olds:=[]) tok (T.flatMap z1a) rfl (fun E w1 hm=>hT.sl.src hm.get) (fun _ _ _=>z0k T) (by omega)) fun _ _=>Qx [7] rfl<|Qo 9<|Qi 9 rfl<|Qe [4,6] rfl ?_
       refine z00 1 2 rfl<|z00 2 5 rfl<|z00 3 4 rfl<|z00 4 5 rfl ?_
       exact Qm () trivial
    ·
     refine Qg 4 rfl rfl (z2z (e:=111) (sz:=1) (by_:=24) (z:=[.slice none 0 0]) tok n n rfl rfl rfl (Nat.le_refl _) (by omega) (by simp only[maxLen];omega)) fun _ _=>Qz 0 8 ?_ ?_
     ·
      refine Qg 0 rfl rfl (z1q tok 1 rfl rfl rfl) fun _ _=>Qz 2 8 ?_ ?_
      ·
       refine Qg 2 rfl rfl (z0g (e:=9) (sz:=1) (by_:=16) (m:=0) (k:=T.length) (olds:=[]) tok (T.flatMap z1a) rfl (fun E w1 hm=>hT.sl.src hm.get) (fun _ _ _=>z0k T) (by omega)) fun _ _=>Qz 7 8 ?_ ?_
       ·
        refine yH 7 rfl rfl rfl rfl rfl<|Qo 8<|Qk 8 rfl rfl rfl rfl<|Qo 9<|Qi 9 rfl<|Qe [4,6] rfl<|z00 1 3 rfl<|z00 2 4 rfl<|z00 3 4 rfl ?_
        exact Qm () trivial
       ·
        refine Qk 8 rfl rfl rfl rfl<|Qx [7] rfl<|Qo 9<|Qi 9 rfl<|Qe [4,6] rfl<|z00 1 3 rfl<|z00 2 4 rfl<|z00 3 4 rfl ?_
        exact Qm () trivial
      ·
       refine Qk 8 rfl rfl rfl rfl<|Qo 2<|Qg 2 rfl rfl (z0g (e:=9) (sz:=1) (by_:=16) (m:=0) (k:=T.length) (olds:=[]) tok (T.flatMap z1a) rfl (fun E w1 hm=>hT.sl.src hm.get) (fun _ _ _=>z0k T) (by omega)) fun _ _=>Qx [7] rfl<|Qo 9<|Qi 9 rfl<|Qe [4,6] rfl<|z00 1 3 rfl<|z00 2 5 rfl<|z00 3 5 rfl<|z00 4 5 rfl ?_
       exact Qm () trivial
     ·
      refine Qk 8 rfl rfl rfl rfl<|Qo 0<|Qg 0 rfl rfl (z1q tok 1 rfl rfl rfl) fun _ _=>Qo 2<|Qg 2 rfl rfl (z0g (e:=9) (sz:=1) (by_:=16) (m:=0) (k:=T.length) (olds:=[]) tok (T.flatMap z1a) rfl (fun E w1 hm=>hT.sl.src hm.get) (fun _ _ _=>z0k T) (by omega)) fun _ _=>Qx [7] rfl<|Qo 9<|Qi 9 rfl<|Qe [4,6] rfl<|z00 1 4 rfl<|z00 2 5 rfl<|z00 3 5 rfl ?_
      exact Qm () trivial
    ·
     refine Qk 8 rfl rfl rfl rfl<|Qz 0 4 ?_ ?_
     ·
      refine Qg 0 rfl rfl (z1q tok 1 rfl rfl rfl) fun _ _=>Qz 2 4 ?_ ?_
      ·
       refine Qg 2 rfl rfl (z0g (e:=9) (sz:=1) (by_:=16) (m:=0) (k:=T.length) (olds:=[]) tok (T.flatMap z1a) rfl (fun E w1 hm=>hT.sl.src hm.get) (fun _ _ _=>z0k T) (by omega)) fun _ _=>Qo 4<|Qg 4 rfl rfl (z2z (e:=111) (sz:=1) (by_:=24) (z:=[.slice none 0 0]) tok n n rfl rfl rfl (Nat.le_refl _) (by omega) (by simp only[maxLen];omega)) fun _ _=>Qx [7] rfl<|Qo 9<|Qi 9 rfl<|Qe [4,6] rfl ?_
       refine z00 1 3 rfl<|z00 2 4 rfl<|z00 3 5 rfl<|z00 4 5 rfl ?_
       exact Qm () trivial
      ·
       refine Qg 4 rfl rfl (z2z (e:=111) (sz:=1) (by_:=24) (z:=[.slice none 0 0]) tok n n rfl rfl rfl (Nat.le_refl _) (by omega) (by simp only[maxLen];omega)) fun _ _=>Qo 2<|Qg 2 rfl rfl (z0g (e:=9) (sz:=1) (by_:=16) (m:=0) (k:=T.length) (olds:=[]) tok (T.flatMap z1a) rfl (fun E w1 hm=>hT.sl.src hm.get) (fun _ _ _=>z0k T) (by omega)) fun _ _=>Qx [7] rfl<|Qo 9<|Qi 9 rfl<|Qe [4,6] rfl ?_
       refine z00 1 3 rfl<|z00 2 5 rfl<|z00 3 4 rfl ?_
       exact Qm () trivial
     ·
      refine Qg 4 rfl rfl (z2z (e:=111) (sz:=1) (by_:=24) (z:=[.slice none 0 0]) tok n n rfl rfl rfl (Nat.le_refl _) (by omega) (by simp only[maxLen];omega)) fun _ _=>Qo 0<|Qg 0 rfl rfl (z1q tok 1 rfl rfl rfl) fun _ _=>Qo 2<|Qg 2 rfl rfl (z0g (e:=9) (sz:=1) (by_:=16) (m:=0) (k:=T.length) (olds:=[]) tok (T.flatMap z1a) rfl (fun E w1 hm=>hT.sl.src hm.get) (fun _ _ _=>z0k T) (by omega)) fun _ _=> ?_
      refine Qx [7] rfl<|Qo 9<|Qi 9 rfl<|Qe [4,6] rfl<|z00 1 4 rfl<|z00 2 5 rfl ?_
      exact Qm () trivial
   ·
    refine Qk 8 rfl rfl rfl rfl<|z3m 0 4 6 (by kernel_rfl) ?_ ?_ ?_
    ·
     refine Qg 0 rfl rfl (z1q tok 1 rfl rfl rfl) fun _ _=>z3m 2 4 6 (by kernel_rfl) ?_ ?_ ?_
     ·
      refine Qg 2 rfl rfl (z0g (e:=9) (sz:=1) (by_:=16) (m:=0) (k:=T.length) (olds:=[]) tok (T.flatMap z1a) rfl (fun E w1 hm=>hT.sl.src hm.get) (fun _ _ _=>z0k T) (by omega)) fun _ _=>Qz 4 6 ?_ ?_
      ·
       refine Qg 4 rfl rfl (z2z (e:=111) (sz:=1) (by_:=24) (z:=[.slice none 0 0]) tok n n rfl rfl rfl (Nat.le_refl _) (by omega) (by simp only[maxLen];omega)) fun _ _=>Qo 6<|Qg 6 rfl rfl (z2z (e:=3) (sz:=1) (by_:=8) (z:=[I 0]) tok n n rfl rfl rfl (Nat.le_refl _) (by omega) (by simp only[maxLen];omega)) fun _ _=>Qx [7] rfl<|Qo 9<|Qi 9 rfl<|Qe [4,6] rfl<|z00 1 2 rfl<|z00 2 3 rfl<|z00 3 4 rfl ?_
       refine z00 4 5 rfl ?_
       exact Qm () trivial
      ·
       refine Qg 6 rfl rfl (z2z (e:=3) (sz:=1) (by_:=8) (z:=[I 0]) tok n n rfl rfl rfl (Nat.le_refl _) (by omega) (by simp only[maxLen];omega)) fun _ _=>Qo 4<|Qg 4 rfl rfl (z2z (e:=111) (sz:=1) (by_:=24) (z:=[.slice none 0 0]) tok n n rfl rfl rfl (Nat.le_refl _) (by omega) (by simp only[maxLen];omega)) fun _ _=>Qx [7] rfl<|Qo 9<|Qi 9 rfl<|Qe [4,6] rfl<|z00 1 2 rfl<|z00 2 3 rfl<|z00 3 5 rfl ?_
       exact Qm () trivial
     ·
      refine Qg 4 rfl rfl (z2z (e:=111) (sz:=1) (by_:=24) (z:=[.slice none 0 0]) tok n n rfl rfl rfl (Nat.le_refl _) (by omega) (by simp only[maxLen];omega)) fun _ _=>Qz 2 6 ?_ ?_
      ·
       refine Qg 2 rfl rfl (z0g (e:=9) (sz:=1) (by_:=16) (m:=0) (k:=T.length) (olds:=[]) tok (T.flatMap z1a) rfl (fun E w1 hm=>hT.sl.src hm.get) (fun _ _ _=>z0k T) (by omega)) fun _ _=>Qo 6<|Qg 6 rfl rfl (z2z (e:=3) (sz:=1) (by_:=8) (z:=[I 0]) tok n n rfl rfl rfl (Nat.le_refl _) (by omega) (by simp only[maxLen];omega)) fun _ _=>Qx [7] rfl<|Qo 9<|Qi 9 rfl<|Qe [4,6] rfl<|z00 1 2 rfl ?_
       refine z00 2 4 rfl<|z00 4 5 rfl ?_
       exact Qm () trivial
      ·
       refine Qg 6 rfl rfl (z2z (e:=3) (sz:=1) (by_:=8) (z:=[I 0]) tok n n rfl rfl rfl (Nat.le_refl _) (by omega) (by simp only[maxLen];omega)) fun _ _=>Qo 2<|Qg 2 rfl rfl (z0g (e:=9) (sz:=1) (by_:=16) (m:=0) (k:=T.length) (olds:=[]) tok (T.flatMap z1a) rfl (fun E w1 hm=>hT.sl.src hm.get) (fun _ _ _=>z0k T) (by omega)) fun _ _=>Qx [7] rfl<|Qo 9<|Qi 9 rfl<|Qe [4,6] rfl<|z00 1 2 rfl ?_
       refine z00 2 5 rfl ?_
       exact Qm () trivial
     ·
      refine Qg 6 rfl rfl (z2z (e:=3) (sz:=1) (by_:=8) (z:=[I 0]) tok n n rfl rfl rfl (Nat.le_refl _) (by omega) (by simp only[maxLen];omega)) fun _ _=>Qz 2 4 ?_ ?_
      ·
       refine Qg 2 rfl rfl (z0g (e:=9) (sz:=1) (by_:=16) (m:=0) (k:=T.length) (olds:=[]) tok (T.flatMap z1a) rfl (fun E w1 hm=>hT.sl.src hm.get) (fun _ _ _=>z0k T) (by omega)) fun _ _=>Qo 4<|Qg 4 rfl rfl (z2z (e:=111) (sz:=1) (by_:=24) (z:=[.slice none 0 0]) tok n n rfl rfl rfl (Nat.le_refl _) (by omega) (by simp only[maxLen];omega)) fun _ _=>Qx [7] rfl<|Qo 9<|Qi 9 rfl<|Qe [4,6] rfl ?_
       refine z00 1 2 rfl<|z00 2 4 rfl<|z00 3 5 rfl<|z00 4 5 rfl ?_
       exact Qm () trivial
      ·
       refine Qg 4 rfl rfl (z2z (e:=111) (sz:=1) (by_:=24) (z:=[.slice none 0 0]) tok n n rfl rfl rfl (Nat.le_refl _) (by omega) (by simp only[maxLen];omega)) fun _ _=>Qo 2<|Qg 2 rfl rfl (z0g (e:=9) (sz:=1) (by_:=16) (m:=0) (k:=T.length) (olds:=[]) tok (T.flatMap z1a) rfl (fun E w1 hm=>hT.sl.src hm.get) (fun _ _ _=>z0k T) (by omega)) fun _ _=>Qx [7] rfl<|Qo 9<|Qi 9 rfl<|Qe [4,6] rfl ?_
       refine z00 1 2 rfl<|z00 2 5 rfl<|z00 3 4 rfl ?_
       exact Qm () trivial
    ·
     refine Qg 4 rfl rfl (z2z (e:=111) (sz:=1) (by_:=24) (z:=[.slice none 0 0]) tok n n rfl rfl rfl (Nat.le_refl _) (by omega) (by simp only[maxLen];omega)) fun _ _=>Qz 0 6 ?_ ?_
     ·
      refine Qg 0 rfl rfl (z1q tok 1 rfl rfl rfl) fun _ _=>Qz 2 6 ?_ ?_
      ·
       refine Qg 2 rfl rfl (z0g (e:=9) (sz:=1) (by_:=16) (m:=0) (k:=T.length) (olds:=[]) tok (T.flatMap z1a) rfl (fun E w1 hm=>hT.sl.src hm.get) (fun _ _ _=>z0k T) (by omega)) fun _ _=>Qo 6<|Qg 6 rfl rfl (z2z (e:=3) (sz:=1) (by_:=8) (z:=[I 0]) tok n n rfl rfl rfl (Nat.le_refl _) (by omega) (by simp only[maxLen];omega)) fun _ _=>Qx [7] rfl<|Qo 9<|Qi 9 rfl<|Qe [4,6] rfl<|z00 1 3 rfl ?_
       refine z00 2 4 rfl<|z00 3 4 rfl<|z00 4 5 rfl ?_
       exact Qm () trivial
      ·
       refine Qg 6 rfl rfl (z2z (e:=3) (sz:=1) (by_:=8) (z:=[I 0]) tok n n rfl rfl rfl (Nat.le_refl _) (by omega) (by simp only[maxLen];omega)) fun _ _=>Qo 2<|Qg 2 rfl rfl (z0g (e:=9) (sz:=1) (by_:=16) (m:=0) (k:=T.length) (olds:=[]) tok (T.flatMap z1a) rfl (fun E w1 hm=>hT.sl.src hm.get) (fun _ _ _=>z0k T) (by omega)) fun _ _=>Qx [7] rfl<|Qo 9<|Qi 9 rfl<|Qe [4,6] rfl<|z00 1 3 rfl ?_
       refine z00 2 5 rfl<|z00 3 5 rfl ?_
       exact Qm () trivial
     ·
      refine Qg 6 rfl rfl (z2z (e:=3) (sz:=1) (by_:=8) (z:=[I 0]) tok n n rfl rfl rfl (Nat.le_refl _) (by omega) (by simp only[maxLen];omega)) fun _ _=>Qo 0<|Qg 0 rfl rfl (z1q tok 1 rfl rfl rfl) fun _ _=>Qo 2<|Qg 2 rfl rfl (z0g (e:=9) (sz:=1) (by_:=16) (m:=0) (k:=T.length) (olds:=[]) tok (T.flatMap z1a) rfl (fun E w1 hm=>hT.sl.src hm.get) (fun _ _ _=>z0k T) (by omega)) fun _ _=> ?_
      refine Qx [7] rfl<|Qo 9<|Qi 9 rfl<|Qe [4,6] rfl<|z00 1 4 rfl<|z00 2 5 rfl<|z00 3 5 rfl<|z00 4 5 rfl ?_
      exact Qm () trivial
    ·
     refine Qg 6 rfl rfl (z2z (e:=3) (sz:=1) (by_:=8) (z:=[I 0]) tok n n rfl rfl rfl (Nat.le_refl _) (by omega) (by simp only[maxLen];omega)) fun _ _=>Qz 0 4 ?_ ?_
     ·
      refine Qg 0 rfl rfl (z1q tok 1 rfl rfl rfl) fun _ _=>Qz 2 4 ?_ ?_
      ·
       refine Qg 2 rfl rfl (z0g (e:=9) (sz:=1) (by_:=16) (m:=0) (k:=T.length) (olds:=[]) tok (T.flatMap z1a) rfl (fun E w1 hm=>hT.sl.src hm.get) (fun _ _ _=>z0k T) (by omega)) fun _ _=>Qo 4<|Qg 4 rfl rfl (z2z (e:=111) (sz:=1) (by_:=24) (z:=[.slice none 0 0]) tok n n rfl rfl rfl (Nat.le_refl _) (by omega) (by simp only[maxLen];omega)) fun _ _=>Qx [7] rfl<|Qo 9<|Qi 9 rfl<|Qe [4,6] rfl ?_
       refine z00 1 3 rfl<|z00 2 4 rfl<|z00 3 5 rfl ?_
       exact Qm () trivial
      ·
       refine Qg 4 rfl rfl (z2z (e:=111) (sz:=1) (by_:=24) (z:=[.slice none 0 0]) tok n n rfl rfl rfl (Nat.le_refl _) (by omega) (by simp only[maxLen];omega)) fun _ _=>Qo 2<|Qg 2 rfl rfl (z0g (e:=9) (sz:=1) (by_:=16) (m:=0) (k:=T.length) (olds:=[]) tok (T.flatMap z1a) rfl (fun E w1 hm=>hT.sl.src hm.get) (fun _ _ _=>z0k T) (by omega)) fun _ _=>Qx [7] rfl<|Qo 9<|Qi 9 rfl<|Qe [4,6] rfl ?_
       refine z00 1 3 rfl<|z00 2 5 rfl<|z00 3 4 rfl<|z00 4 5 rfl ?_
       exact Qm () trivial
     ·
      refine Qg 4 rfl rfl (z2z (e:=111) (sz:=1) (by_:=24) (z:=[.slice none 0 0]) tok n n rfl rfl rfl (Nat.le_refl _) (by omega) (by simp only[maxLen];omega)) fun _ _=>Qo 0<|Qg 0 rfl rfl (z1q tok 1 rfl rfl rfl) fun _ _=>Qo 2<|Qg 2 rfl rfl (z0g (e:=9) (sz:=1) (by_:=16) (m:=0) (k:=T.length) (olds:=[]) tok (T.flatMap z1a) rfl (fun E w1 hm=>hT.sl.src hm.get) (fun _ _ _=>z0k T) (by omega)) fun _ _=> ?_
      refine Qx [7] rfl<|Qo 9<|Qi 9 rfl<|Qe [4,6] rfl<|z00 1 4 rfl<|z00 2 5 rfl<|z00 4 5 rfl ?_
      exact Qm () trivial
  rintro⟨⟩ -
  refine Qw<|QA<|QA<|QC<|Yy 1 rfl ?_
  rw[Nat.zero_add T.length,List.nil_append]
  have newChk: ∀(w1:World) (v1 v2 v3:Value),SlOf (vw w1) z1a 1 v1 T→SlOf (vw w1) Sl.enc 1 v2 (List.replicate n (⟨.slice none 0 0,[]⟩:Sl Cell))→SlOf (vw w1) z0a 1 v3 (List.replicate n (0:Int))→
    Cl 35 #[.agg #[v1,v2,v3,I 1, .slice none 0 0]] w1 fun e w'=>e= .returned (I 0)∧Below w1.heap.size w1 w':=by
   intro w1 v1 v2 v3 h1' h2' h3'
   have hh:=z8b (vw w1) (z10 T n v1 v2 v3) w1 lr ⟨h1',by simp only[maxLen,z10];omega,h2',by simp[maxLen,z10];omega,fun c hc=>by rw[z10,List.mem_replicate]at hc;rw[hc.2];exact⟨zij _ _ _ _ (fun _=>rfl),by simp⟩,h3',by simp[maxLen,z10];omega,zij _ _ _ _ (fun _=>rfl),by simp[z10]⟩
   rw[zdk _ _ _ _ _ h0 h1,hs,decide_eq_true hTl]at hh
   exact hh
  refine Qc (.a (.v _)) rfl zoh (fun hg E w1 hm=>by exact newChk w1 _ _ _ (zl5 hm 2 rfl rfl rfl (fun _=>rfl)) (zl5 hm 3 rfl (by simp) hrc (fun _=>rfl)) (zl5 hm 4 rfl (by simp) hrk (fun _=>rfl))) ?_
  refine QE 1 [4,6,24] rfl<|Qw<|Qn rfl (fun h=> ?_) fun h=> ?_
  ·
   exact absurd h (by decide)
  ·
   refine QI<|Qw<|QA<|QC<|Yy 1 rfl<|Qs rfl<|QE 1 [4,5] rfl<|Qw<|QO<|Qb rfl fun E w' hm=> ?_
   have hbw:=hm.below lr
   have r2:=hm.rowFresh lr (l:=2) rfl
   have r3:=hm.rowFresh lr (l:=3) rfl
   have r4:=hm.rowFresh lr (l:=4) rfl
   have s2:SlOf (V.grown w w') z1a 1 (E.κ 2) T:=SlOf.grown V r2 (fun _=>rfl)
   have s3:SlOf (V.grown w w') Sl.enc 1 (E.κ 3) (List.replicate n (⟨.slice none 0 0,[]⟩:Sl Cell)):=SlOf.grown V (by rw[hrc]at r3;simpa using r3) (fun _=>rfl)
   have s4:SlOf (V.grown w w') z0a 1 (E.κ 4) (List.replicate n (0:Int)):=SlOf.grown V (by rw[hrk]at r4;simpa using r4) (fun _=>rfl)
   obtain⟨b2,m2,e2,hk2⟩:=z04 s2.sl
   obtain⟨b3,m3,e3,hk3⟩:=z04 s3.sl
   obtain⟨b4,m4,e4,hk4⟩:=z04 s4.sl
   rw[hk2]at s2
   rw[hk3]at s3
   rw[hk4]at s4
   refine⟨_,V.grown w w',rfl,hbw,Vext.grown hV hbw, .agg #[.slice b2 m2 e2, .slice b3 m3 e3, .slice b4 m4 e4,I 1, .slice none 0 0],by rw[←hk2,←hk3,←hk4];rfl,b2,m2,e2,b3,m3,e3,b4,m4,e4,rfl, ?_⟩
   exact⟨s2,by simp only[maxLen,z10];omega,s3,by simp[maxLen,z10];omega,fun c hc=>by rw[z10,List.mem_replicate]at hc;rw[hc.2];exact⟨zij _ _ _ _ (fun _=>rfl),by simp⟩,s4,by simp[maxLen,z10];omega,zij _ _ _ _ (fun _=>rfl),by simp[z10]⟩
theorem zce:z1h.Ok:=by
 refine⟨?_, ?_, ?_, ?_, ?_, ?_, ?_, ?_⟩<;>simp[z1h,R64]
theorem zwa(w:World):Rt 25 #[] w z1h.val:=by
 refine Qf [] Tryz.func25 rfl<|QA<|QC<|QE 1 [0] rfl<|Qw<|QA<|QC<|Yy 1 rfl<|Qs rfl<|z07 [0] rfl<|Qw<|QO<|Qb rfl fun E w' hm=>⟨?_,hm.below lr⟩
 rfl
theorem j51(V:Vw)(w:World)(hV:V.le (vw w)):Cl 24 #[z1h.val] w fun e w'=> ∃x V',e= .returned x∧Below w.heap.size w w'∧Vext w.heap.size V V' w'∧ ∃v,x= .tuple #[v, .bool true]∧j84 (T32 (gbV z1h) (z3n 0).1) 2 v V':=by
 have hT:z7x z1h (gbV z1h) (z3n 0).1 z1h.slots.toNat=T32 (gbV z1h) (z3n 0).1:=j95 _ _
 have hfm:=fun(w1:World) (hle:V.le (vw w1))=>zj8 V z1h zce zcb zz7 w1 hle
 rw[hT]at hfm
 have hs:=zh4 (zfb z1h) (zfg 0)
 have hTl:(T32 (gbV z1h) (z3n 0).1).length=20:=rfl
 generalize T32 (gbV z1h) (z3n 0).1=T at*
 refine Qf [.a (.v z1h.val)] Tryz.func24 rfl<|QA<|QC<|QE 3 [1,2] rfl<|Qw<|QA<|QC<|Yy 1 rfl<|Qv (fun x V'=> ∃V2:Vw,V2.le V'∧V.le V2∧(∀k o,V2.get k=some o→V.get k=some o∨w.heap.size≤k)∧ ∃a n c,x= .tuple #[.slice a n c,I 0]∧SlOf V2 z1a 1 (.slice a n c) T) rfl j7m (fun hg E w1 hm=>by exact(hfm _ (hV.trans hm.leV)).mono fun e w' h=>z1w (hm.below lr).size hV hm.leV h) ?_
 rintro x W0 hle0 hx
 obtain⟨Z,hZ0,hVZ,hgt,a,n,c,rfl,hsl⟩:=hx rfl
 clear hx
 refine QE 5 [1,2,4,5] rfl<|Qw<|QA<|QA<|QC<|QE 2 [1,2,4,14] rfl<|Qw<|Qn rfl (fun h=> ?_) fun h=> ?_
 ·
  exact absurd h (by decide)
 ·
  refine QI<|Qw<|QA<|QC<|Yy 3 rfl<|Qv (fun x V'=> ∃V2:Vw,V2.le V'∧Z.le V2∧(∀k o,V2.get k=some o→Z.get k=some o∨w.heap.size≤k)∧ ∃v,x= .tuple #[v,I 0]∧j84 T 2 v V2) rfl j6c (fun hg E w1 hm=>by exact(j1e Z 2 a n c T _ (hZ0.trans hm.leV) hsl (by omega) (by omega) (by omega) (by omega) hs).mono fun e w' h=>z1w (hm.below hle0).size hZ0 hm.leV h) ?_
  rintro x2 W2 hle2 hx2
  obtain⟨Z2,hZ2,hZZ,hgt2,v,rfl,b2,m2,e2,b3,m3,e3,b4,m4,e4,rfl,hdi⟩:=hx2 rfl
  clear hx2
  refine Yy 4 rfl<|Qs rfl<|QE 1 [2,6,7] rfl<|Qw<|QA<|QC<|Yy 3 rfl<|Qs rfl<|QE 1 [2,3] rfl<|Qw<|QO<|Qb rfl fun E' w' hm=> ?_
  exact⟨_,Z2,rfl,hm.below (hle0.trans hle2),⟨hVZ.trans hZZ,fun k o hk=>⟨(hZ2.trans hm.leV).get k o hk,(hgt2 k o hk).elim (hgt k o) .inr⟩⟩,_,rfl,b2,m2,e2,b3,m3,e3,b4,m4,e4,rfl,hdi⟩
theorem zik(w:World):Rt 5 #[] w (.bool true):=by
 have hts:=zxp zcb
 have hth:=(zgb 0).2 zz7
 have h1:=zfb z1h
 have h2:=zfg 0
 refine Qf [] Tryz.func5 rfl<|QA<|QC<|QE 1 [] rfl<|Qw<|QA<|QC<|Qc (.a (.v _)) rfl zoa (fun hg E w1 hm=>by exact zwa _) ?_
 refine Qv (fun x V'=> ∃v,x= .tuple #[v, .bool true]∧j84 (T32 (gbV z1h) (z3n 0).1) 2 v V') rfl j7k (fun hg E w1 hm=>by exact j51 (vw w) _ hm.leV) ?_
 rintro x W0 hle0 hx
 obtain⟨_,rfl,b2,m2,e2,b3,m3,e3,b4,m4,e4,rfl,hdi⟩:=hx rfl
 clear hx
 have hsz: ∀s∈(z10 (T32 (gbV z1h) (z3n 0).1) 2 (.slice b2 m2 e2) (.slice b3 m3 e3) (.slice b4 m4 e4)).s.l,s.size≤maxLen:=by
  intro s hs
  have:=(zdb _).1 (zh4 h1 h2) s hs
  simp only[maxLen]
  omega
 have hA:=fun(_:svE z1h (z10 (T32 (gbV z1h) (z3n 0).1) 2 (.slice b2 m2 e2) (.slice b3 m3 e3) (.slice b4 m4 e4))=0)=>j5o h1 h2 (.slice b2 m2 e2) (.slice b3 m3 e3) (.slice b4 m4 e4)
 have ev:=j0w h1 h2 (.slice b2 m2 e2) (.slice b3 m3 e3) (.slice b4 m4 e4) hts hth
 have es:=zwf h1 h2 (.slice b2 m2 e2) (.slice b3 m3 e3) (.slice b4 m4 e4) hts hth
 have e0:=ja9 h1 h2 (.slice b2 m2 e2) (.slice b3 m3 e3) (.slice b4 m4 e4) hts hth
 have c1:=fun(W:Vw) (h0:W0.le W) (w1:World) (hle:W.le (vw w1))=>z79 (enc:=View.cells) (sz:=6) (fun _=>rfl) hle (zfz W z1h zce _ w1 hle (hdi.mono h0) hsz _ hA)
 have c2:=fun(W:Vw) (h0:W0.le W) (w1:World) (hle:W.le (vw w1))=>z79 (enc:=Sight.cells) (sz:=3) (fun _=>rfl) hle (z99 W z1h zce _ w1 hle (hdi.mono h0) hsz _ hA)
 have c3:=fun(W:Vw) (h0:W0.le W) (w1:World) (hle:W.le (vw w1))=>zfh W z1h zce _ w1 hle (hdi.mono h0) hsz
 rw[ev,e0]at c1
 rw[es.1,es.2]at c2
 rw[e0]at c3
 clear hA ev es e0 hsz hdi
 simp only[z10]at c1 c2 c3
 obtain⟨v0,hv0⟩: ∃v0:View,v0=⟨0,0,0,0,0,0⟩:=⟨_,rfl⟩
 obtain⟨s0,hs0⟩: ∃s0:Sight,s0=⟨ByteArray.empty,ByteArray.empty,0⟩:=⟨_,rfl⟩
 rw[←hv0]at c1
 rw[←hs0]at c2
 refine Yy 4 rfl<|Qs rfl<|QE 1 [1,2] rfl<|Qw<|QA<|Ra rfl<|QT [1] rfl<|QS<|Qo 0<|Qh 0 (.a (.v _)) rfl rfl zoa (fun hg E w1 hm=>by exact zwa _) ?_
 refine Qo 2<|z4e 2 (zah View.cells 6 [v0] 0) rfl rfl rfl j6r rfl rfl (fun hg E w1 hm=>by exact c1 W0 lr _ hm.leV) ?_
 rintro x W1 hle1 hx
 obtain⟨va,vn,vc,rfl,hv⟩:=hx rfl
 clear hx
 refine Qx [3] rfl<|z36 4 rfl (by kernel_rfl) rfl rfl rfl rfl (yV rfl) rfl<|z36 5 rfl (by kernel_rfl) rfl rfl rfl rfl (yV rfl) rfl<|Qx [6,7] rfl<|Qe [1,2,3,4] rfl<|Qw<|QA<|Ra rfl<|QT [1] rfl<|QS<|Qo 0<|Qh 0 (.a (.v _)) rfl rfl zoa (fun hg E w1 hm=>by exact zwa _) ?_
 refine Qo 2<|z4e 2 (zah Sight.cells 3 [s0,s0] 0) rfl rfl rfl zsl rfl rfl (fun hg E w1 hm=>by exact c2 W1 hle1 _ hm.leV) ?_
 rintro x W2 hle2 hx
 obtain⟨sa,sn,sc,rfl,hs⟩:=hx rfl
 clear hx
 have hv2:=hv.mono hle2
 have ev0:([v0]:List View)[0]? =some v0:=rfl
 have es0:([s0,s0]:List Sight)[0]? =some s0:=rfl
 refine Qx [3] rfl<|z36 4 rfl (by kernel_rfl) rfl rfl rfl rfl (yV rfl) rfl<|z36 5 rfl (by kernel_rfl) rfl rfl rfl rfl (yV rfl) rfl<|Qx [6,7] rfl<|Qe [1,2,3,4,5,6] rfl<|Qw<|QA<|z11 mixed (by kernel_rfl)<|Dm 7 rfl<|Qd rfl (z0l tok rfl (fun hg=>hv2.sl))<|Dm 4 rfl ?_
 have hlt_v0:=z01 ev0
 refine Qd rfl (z0c tok rfl (fun hg=>hv2.sl) (fun hg=>⟨by omega,by simp⟩))<|Qd rfl (z08 tok (0) 0 (v0) rfl (fun hg=>hv2) (fun hg=>ev0) rfl rfl)<|Dm 1 rfl<|Qd rfl (z60 (.bool (v0.eqB ⟨0,0,0,0,0,0⟩)) rfl (fun E w=>zyb v0 ⟨0,0,0,0,0,0⟩ w (.inl rfl)))<|Dm 7 rfl<|Qd rfl (z0l tok rfl (fun hg=>hs.sl))<|Dm 4 rfl ?_
 have hlt_s0:=z01 es0
 refine Qd rfl (z0c tok rfl (fun hg=>hs.sl) (fun hg=>⟨by omega,by simp⟩))<|Qd rfl (z08 tok (0) 0 (s0) rfl (fun hg=>hs) (fun hg=>es0) rfl rfl)<|Dm 1 rfl<|Qd rfl (z60 (.bool (s0.eqB ⟨ByteArray.empty,ByteArray.empty,0⟩)) rfl (fun E w=>zln s0 ⟨ByteArray.empty,ByteArray.empty,0⟩ w (.inl rfl)))<|Dm 3 rfl<|Qq (.a (.v _)) rfl zyd (fun hg E w1 hm=>by exact ztw W2 _ [v0] _ hm.leV hv2 (by simp)) ?_
 refine Dm 2 rfl<|Qq (.a (.v _)) rfl zoa (fun hg E w1 hm=>by exact zwa _) ?_
 refine Dm 1 rfl<|Qq (.a (.v _)) rfl j5l (fun hg E w1 hm=>by exact c3 W2 (hle1.trans hle2) _ hm.leV) ?_
 refine Dm 3 rfl<|z1z [0] rfl<|Qw<|QO<|Qb rfl fun E w' hm=>⟨?_,hm.below ((hle0.trans (hle1.trans hle2)))⟩
 rw[hv0,hs0,View.eqB_refl,Sight.eqB_refl]
 rfl
end Go.Proofs.YtkoiogkdiifgfaaGreat
