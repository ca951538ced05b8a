import Derived.Test.YtkoiogkdiifgfaaGreatMSv5
/- The law SurveyTells. -/
set_option linter.unusedVariables false
set_option linter.unusedSimpArgs false
set_option maxRecDepth 100000
namespace Go.Proofs.YtkoiogkdiifgfaaGreat
open Go Go.Eng Go.RowKit
theorem zof(s:ByteArray):0≤z3l s∧z3l s≤1099511627776:=by
 rw[z3l]
 cases hq:z2s s with
 |none=>exact⟨Int.le_refl _,by decide⟩
 |some n=>exact(zx3 hq).2
theorem zxt{g:Geo}{d:Device}(hz:svE g d=0)(hsz: ∀s∈d.s.l,s.size≤maxLen): ∃A,RowsAll g d A:=by
 obtain⟨hG,hln⟩:=z62 (z4y hz).1
 have hf:=z0b hG
 have hlen:=z9e hG d
 have key: ∀i:Nat,∃L:List Record,(∀s,(tbS g d).S[i]? =some s→s.key=0→L=[])∧(∀s,(tbS g d).S[i]? =some s→s.key≠0→RowsOf g (i:Int) s.key (z3l (d.s.l.getD (z1o g (i:Int)).toNat ByteArray.empty)) d.s.l L):=by
  intro i
  cases hs:(tbS g d).S[i]? with
  |none=>exact⟨[],fun s h=>(by cases h),fun s h=>(by cases h)⟩
  |some s=>
   have hi:=(List.getElem?_eq_some_iff.1 hs).1
   obtain⟨q,hq,_⟩:=zaw hG (i:=i) (by omega)
   by_cases hk:s.key=0
   · exact⟨[],fun _ _ _=>rfl,fun s2 h h2=>by cases h;exact absurd hk h2⟩
   ·
    obtain⟨L,hL⟩:=j2c (slot:=(i:Int)) (key:=s.key) hG hln (by omega) (zof (d.s.l.getD (z1o g (i:Int)).toNat ByteArray.empty)).1 (zof _).2 hsz
    exact⟨L,fun s2 h h2=>by cases h;exact absurd h2 hk,fun s2 h _=>by cases h;exact hL⟩
 exact⟨fun i=>Classical.choose (key i),fun i s h1 h2=>(Classical.choose_spec (key i)).1 s h1 h2,fun i s h1 h2=>(Classical.choose_spec (key i)).2 s h1 h2⟩
def zlx(d:Device):Bool:=decide ((d.s.l.length:Int)>3000)||(decide ((d.cache.l.length:Int)>20)||(decide ((d.keys.l.length:Int)>20)||decide ((d.fenced.l.length:Int)>100)))
theorem zs3(V:Vw)(d:Device)(w:World)(hV:V.le (vw w))(hd0:DevIn V d):Rt 4 #[d.val] w (.bool (zlx d)):=by
 obtain⟨⟨sv,sl⟩,⟨cv,cl⟩,⟨kv,kl⟩,nx,⟨fv,fl⟩⟩:=d
 have e1:=hd0.s.mono hV
 have e2:=hd0.cache.mono hV
 have e3:=hd0.keys.mono hV
 have e4:=hd0.fenced.mono hV
 obtain⟨a1,n1,c1,rfl⟩:=z04 hd0.s.sl
 obtain⟨a2,n2,c2,rfl⟩:=z04 hd0.cache.sl
 obtain⟨a3,n3,c3,rfl⟩:=z04 hd0.keys.sl
 obtain⟨a4,n4,c4,rfl⟩:=z04 hd0.fenced.sl
 dsimp only at e1 e2 e3 e4
 refine Qf [.a (.v (.agg #[.slice a1 n1 c1, .slice a2 n2 c2, .slice a3 n3 c3,I nx, .slice a4 n4 c4]))] Tryz.func4 rfl<|QA<|QC<|QE 2 [1] rfl<|Qw<|QA<|QC<|Yy 2 rfl<|QY rfl (z0l tok rfl (fun hg=>e1.sl))<|Yy 4 rfl<|QY rfl (z0l tok rfl (fun hg=>e2.sl))<|Yy 5 rfl<|QY rfl (z0l tok rfl (fun hg=>e3.sl))<|Yy 5 rfl<|QY rfl (z0l tok rfl (fun hg=>e4.sl))<|QE 3 [2] rfl<|Qw<|QO ?_
 refine Qb rfl fun E w' hm=>⟨?_,hm.below lr⟩
 show Ending.returned (.bool _)=Ending.returned (.bool _)
 congr 2
 simp[zlx,Bool.or_assoc]
def zzy(L:List Int)(x:Value)(V':Vw):Prop:= ∃a n c,x= .slice a n c∧SlOf V' z0a 1 (.slice a n c) L
theorem zz4{V:Vw}{f:Nat}{L:List Int}{args:Array Value}{w:World}(hV:V.le (vw w))(h:Cl f args w (j9u L w)):
  Cl f args w fun e w'=> ∃x V',e= .returned x∧Below w.heap.size w w'∧Vext w.heap.size V V' w'∧zzy L x V':=by
 refine h.mono ?_
 rintro e w' ⟨⟨v,rfl,hown⟩,hb⟩
 obtain⟨V',hx,hsl⟩:=z1i hV hb hown
 obtain⟨a,n,c,rfl⟩:=z04 hsl
 exact⟨_,V',rfl,hb,hx,a,n,c,rfl,hsl,fun _=>rfl⟩
set_option maxHeartbeats 4000000 in
theorem surveyTells_law(w:World){v0 v1 v2 v3:Value}(R0: ∃g:Geo,v0=g.val∧g.Ok)(R1: ∃d:Device,v1=d.val∧Device.Ok (vw w) d)(R2: ∃l:List Sight,SlOf (vw w) Sight.cells 3 v2 l∧l.length≤maxLen∧ ∀a∈l,Sight.Ok a)(R3: ∃l:List View,SlOf (vw w) View.cells 6 v3 l∧l.length≤maxLen∧ ∀a∈l,View.Ok a):
  Rt 3 #[v0,v1,v2,v3] w (.bool true):=by
 obtain⟨g,rfl,ok⟩:=R0
 obtain⟨d,rfl,okd⟩:=R1
 obtain⟨L,hL,hLm,_⟩:=R2
 obtain⟨M,hM,hMm,_⟩:=R3
 have hd0:=DevIn.of okd
 have hsz: ∀s∈d.s.l,s.size≤maxLen:=okd.s.all
 obtain⟨la,ln,lc,rfl⟩:=z04 hL.sl
 obtain⟨ma,mn,mc,rfl⟩:=z04 hM.sl
 obtain⟨a1,a2,a3,a4,n1,d1,n2,d2,n3,d3,n4,d4,nx,hval⟩: ∃a1 a2 a3 a4 n1 c1 n2 c2 n3 c3 n4 c4 nx,d.val=zev a1 a2 a3 a4 n1 c1 n2 c2 n3 c3 n4 c4 nx:=by
  obtain⟨⟨sv,sl⟩,⟨cv,cl⟩,⟨kv,kl⟩,nx,⟨fv,fl⟩⟩:=d
  obtain⟨a1,n1,c1,rfl⟩:=z04 hd0.s.sl
  obtain⟨a2,n2,c2,rfl⟩:=z04 hd0.cache.sl
  obtain⟨a3,n3,c3,rfl⟩:=z04 hd0.keys.sl
  obtain⟨a4,n4,c4,rfl⟩:=z04 hd0.fenced.sl
  exact⟨a1,a2,a3,a4,n1,c1,n2,c2,n3,c3,n4,c4,nx,rfl⟩
 obtain⟨A,hA⟩: ∃A,svE g d=0→RowsAll g d A:=by
  by_cases hz:svE g d=0
  ·
   obtain⟨A,hA⟩:=zxt hz hsz
   exact⟨A,fun _=>hA⟩
  · exact⟨fun _=>[],fun h=>absurd h hz⟩
 have cg:=fun(w1:World) (hle:(vw w).le (vw w1))=>zs3 (vw w) d w1 hle hd0
 have c1:=fun(W:Vw) (h0:(vw w).le W) (w1:World) (hle:W.le (vw w1))=>z79 (enc:=View.cells) (sz:=6) (fun _=>rfl) hle (zfz W g ok d w1 hle (hd0.mono h0) hsz A hA)
 have c2:=fun(W:Vw) (h0:(vw w).le W) (w1:World) (hle:W.le (vw w1))=>z79 (enc:=View.cells) (sz:=6) (fun _=>rfl) hle (zow W g ok d w1 hle (hd0.mono h0) hsz A hA)
 have c3:=fun(W:Vw) (h0:(vw w).le W) (w1:World) (hle:W.le (vw w1))=>zfh W g ok d w1 hle (hd0.mono h0) hsz
 have c4:=fun(W:Vw) (h0:(vw w).le W) (w1:World) (hle:W.le (vw w1))=>z8f W g ok d w1 hle (hd0.mono h0) hsz
 have c5:=fun(W:Vw) (h0:(vw w).le W) (w1:World) (hle:W.le (vw w1))=>z79 (enc:=Sight.cells) (sz:=3) (fun _=>rfl) hle (z99 W g ok d w1 hle (hd0.mono h0) hsz A hA)
 have c6:=fun(W:Vw) (h0:(vw w).le W) (w1:World) (hle:W.le (vw w1))=>z79 (enc:=Sight.cells) (sz:=3) (fun _=>rfl) hle (zda W g ok d w1 hle (hd0.mono h0) hsz A hA)
 have c7:=fun(W:Vw) (h0:(vw w).le W) (w1:World) (hle:W.le (vw w1))=>z79 (enc:=z1a) (sz:=1) (fun _=>rfl) hle (zrb W g ok d w1 hle (hd0.mono h0) hsz A hA)
 have c8:=fun(W:Vw) (h0:(vw w).le W) (w1:World) (hle:W.le (vw w1))=>z79 (enc:=z1a) (sz:=1) (fun _=>rfl) hle (zqs W g ok d w1 hle (hd0.mono h0) hsz A hA)
 have c9:=fun(W:Vw) (h0:(vw w).le W) (w1:World) (hle:W.le (vw w1))=>z79 (enc:=z0a) (sz:=1) (fun _=>rfl) hle (zqc W g ok d w1 hle (hd0.mono h0) hsz)
 have c10:=fun(W:Vw) (h0:(vw w).le W) (w1:World) (hle:W.le (vw w1))=>z79 (enc:=z0a) (sz:=1) (fun _=>rfl) hle (zqq W g ok d w1 hle (hd0.mono h0) hsz)
 have f1:=zqy (g:=g) (d:=d) (A:=A)
 have f2:=zap (g:=g) (d:=d) (A:=A)
 have f3:=zpa (g:=g) (d:=d)
 rw[hval]at cg c1 c2 c3 c4 c5 c6 c7 c8 c9 c10⊢
 clear okd hd0 hsz hA hval
 generalize zlx d=gb at*
 generalize z7q g d A=L1 at*
 generalize z42 g d A=er2 at*
 generalize z3e g d A=L2 at*
 generalize z6s g d=L3 at*
 generalize svE g d=er at*
 refine Qf [.a (.v g.val), .a (.v (zev a1 a2 a3 a4 n1 d1 n2 d2 n3 d3 n4 d4 nx)), .a (.v (.slice la ln lc)), .a (.v (.slice ma mn mc))] Tryz.func3 rfl<|QA<|QC<|QE 3 [2,3,4,5] rfl<|Qw<|QA<|QA<|QC<|Yy 1 rfl<|Qc (.a (.v _)) rfl j93 (fun hg E w1 hm=>by exact cg _ hm.leV) ?_
 refine Yy 2 rfl<|QY rfl (z0l tok rfl (fun hg=>hL.sl))<|Yy 4 rfl<|QY rfl (z0l tok rfl (fun hg=>hM.sl))<|QE 2 [2,3,4,5,30] rfl<|Qw<|Qn rfl (fun h=> ?_) fun h=> ?_
 ·
  refine QA<|QC<|Qc (.a (.v _)) rfl j5p (fun hg E w1 hm=>by exact zik _) ?_
  refine QE 1 [8] rfl<|Qw<|QO<|QL<|Qb rfl fun E w' hm=>⟨?_,hm.below lr⟩
  rfl
 ·
  have hLM:L.length≤100∧M.length≤100:=by
   simp only[Bool.or_eq_false_iff,decide_eq_false_iff_not]at h
   omega
  clear h
  refine QI<|Qw<|QA<|QC<|Yy 2 rfl<|Qv (zah View.cells 6 L1 er) rfl j6r (fun hg E w1 hm=>by exact c1 _ lr _ hm.leV) ?_
  rintro x W1 hle1 hx
  obtain⟨p1,q1,r1,rfl,h1⟩:=hx rfl
  clear hx
  refine QE 5 [2,3,4,5,9,10] rfl<|Qw<|QA<|QC<|Yy 2 rfl<|Qv (zah View.cells 6 L1 er) rfl jaj (fun hg E w1 hm=>by exact c2 _ hle1 _ hm.leV) ?_
  rintro x W2 hle2 hx
  obtain⟨p2,q2,r2,rfl,h2⟩:=hx rfl
  clear hx
  have l2:=hle1.trans hle2
  refine QE 5 [2,3,4,5,9,10,11,12] rfl<|Qw<|QA<|QA<|Ra rfl<|QT [0,1] rfl<|QS<|Qo 2<|Qh 2 (.a (.v _)) rfl rfl j9v (fun hg E w1 hm=>by exact j1p W2 _ _ L1 _ hm.leV (h1.mono hle2) h2 (by omega)) ?_
  refine Qx [3,4] rfl<|z36 5 rfl (by kernel_rfl) rfl rfl rfl rfl (yV rfl) rfl<|Qx [6,7,8,9] rfl<|z36 10 rfl (by kernel_rfl) rfl rfl rfl rfl (yV rfl) rfl<|z36 11 rfl (by kernel_rfl) rfl rfl rfl rfl (yV rfl) rfl<|z36 13 rfl (by kernel_rfl) rfl rfl rfl rfl (yV rfl) rfl<|z36 14 rfl (by kernel_rfl) rfl rfl rfl rfl (yV rfl) rfl<|Qo 12<|Qh 12 (.a (.v _)) rfl rfl j5l (fun hg E w1 hm=>by exact c3 W2 l2 _ hm.leV) ?_
  refine Qo 15<|Qh 15 (.a (.v _)) rfl rfl znw (fun hg E w1 hm=>by exact c4 W2 l2 _ hm.leV) ?_
  refine Qx [16,17] rfl<|Qe [2,3,4,5,61] rfl<|Qw<|Qn rfl (fun h=> ?_) fun h=> ?_
  ·
   exfalso
   simp at h
  ·
   clear h
   refine QI<|Qw<|QA<|QC<|Yy 2 rfl<|Qv (zah Sight.cells 3 L2 er2) rfl zsl (fun hg E w1 hm=>by exact c5 _ l2 _ hm.leV) ?_
   rintro x W3 hle3 hx
   obtain⟨p3,q3,r3,rfl,h3⟩:=hx rfl
   clear hx
   have l3:=l2.trans hle3
   refine QE 5 [2,3,4,5,10,13] rfl<|Qw<|QA<|QC<|Yy 2 rfl<|Qv (zah Sight.cells 3 L2 er2) rfl zzi (fun hg E w1 hm=>by exact c6 _ l3 _ hm.leV) ?_
   rintro x W4 hle4 hx
   obtain⟨p4,q4,r4,rfl,h4⟩:=hx rfl
   clear hx
   have l4:=l3.trans hle4
   refine QE 5 [2,3,4,5,10,12,13,14] rfl<|Qw<|QA<|QA<|QC<|Yy 2 rfl<|Qc (.a (.v _)) rfl j6t (fun hg E w1 hm=>by exact zww W4 _ _ L2 _ hm.leV (h3.mono hle4) h4 (by omega)) ?_
   refine QE 6 [2,3,4,5,82] rfl<|Qw<|Qn rfl (fun h=> ?_) fun h=> ?_
   ·
    exfalso
    simp at h
   ·
    clear h
    refine QI<|Qw<|QA<|QC<|Yy 2 rfl<|Qv (zah z1a 1 (L2.map Sight.then_) er2) rfl j78 (fun hg E w1 hm=>by exact c7 _ l4 _ hm.leV) ?_
    rintro x W5 hle5 hx
    obtain⟨p5,q5,r5,rfl,h5⟩:=hx rfl
    clear hx
    have l5:=l4.trans hle5
    refine QE 5 [2,3,4,5,10,15] rfl<|Qw<|QA<|QC<|Yy 2 rfl<|Qv (zah z1a 1 (L2.map Sight.then_) er2) rfl j72 (fun hg E w1 hm=>by exact c8 _ l5 _ hm.leV) ?_
    rintro x W6 hle6 hx
    obtain⟨p6,q6,r6,rfl,h6⟩:=hx rfl
    clear hx
    have l6:=l5.trans hle6
    refine QE 5 [2,3,4,5,10,12,15,16] rfl<|Qw<|QA<|QA<|QC<|Yy 2 rfl<|Qc (.a (.v _)) rfl j6s (fun hg E w1 hm=>by exact j0e W6 _ _ (L2.map Sight.then_) _ hm.leV (h5.mono hle6) h6 (by rw[List.length_map];omega)) ?_
    refine QE 6 [2,3,4,5,103] rfl<|Qw<|Qn rfl (fun h=> ?_) fun h=> ?_
    ·
     exfalso
     simp at h
    ·
     clear h
     refine QI<|Qw<|QA<|QC<|Yy 2 rfl<|Qv (zah z0a 1 L3 er) rfl j6k (fun hg E w1 hm=>by exact c9 _ l6 _ hm.leV) ?_
     rintro x W7 hle7 hx
     obtain⟨p7,q7,r7,rfl,h7⟩:=hx rfl
     clear hx
     have l7:=l6.trans hle7
     refine QE 5 [2,3,4,5,10,17] rfl<|Qw<|QA<|QC<|Yy 2 rfl<|Qv (zah z0a 1 L3 er) rfl j7p (fun hg E w1 hm=>by exact c10 _ l7 _ hm.leV) ?_
     rintro x W8 hle8 hx
     obtain⟨p8,q8,r8,rfl,h8⟩:=hx rfl
     clear hx
     have l8:=l7.trans hle8
     have hP:=za7 L 0
     refine QE 5 [2,3,10,12,17,18] rfl<|Qw<|QA<|QC<|Yy 2 rfl<|Qc (.a (.v _)) rfl zzc (fun hg E w1 hm=>by exact zrt W8 _ _ L3 _ hm.leV (h7.mono hle8) h8 (by omega)) ?_
     refine Yy 7 rfl<|Qv (zzy (z4j 0 L)) rfl j59 (fun hg E w1 hm=>by exact zz4 hm.leV (j1t W8 _ L _ hm.leV (hL.mono l8) (by omega))) ?_
     rintro x W9 hle9 hx
     obtain⟨p9,q9,r9,rfl,h9⟩:=hx (by simp)
     clear hx
     refine Yy 1 rfl<|Qv (zzy (z4j 0 L)) rfl j74 (fun hg E w1 hm=>by exact zz4 hm.leV (j0m W9 _ L _ hm.leV (hL.mono (l8.trans hle9)) (by omega))) ?_
     rintro x W10 hle10 hx
     obtain⟨p10,q10,r10,rfl,h10⟩:=hx (by simp)
     clear hx
     have l10:=(l8.trans hle9).trans hle10
     refine Qc (.a (.v _)) rfl zzc (fun hg E w1 hm=>by exact zrt W10 _ _ (z4j 0 L) _ hm.leV (h9.mono hle10) h10 (by omega)) ?_
     refine Yy 3 rfl<|Qc (.a (.v _)) rfl zyd (fun hg E w1 hm=>by exact ztw W10 _ M _ hm.leV (hM.mono l10) (by omega)) ?_
     refine Yy 1 rfl<|Qc (.a (.v _)) rfl j6d (fun hg E w1 hm=>by exact j1k W10 _ M _ hm.leV (hM.mono l10) (by omega)) ?_
     refine Yy 3 rfl<|Qc (.a (.v _)) rfl j5p (fun hg E w1 hm=>by exact zik _) ?_
     refine QE 2 [8] rfl<|Qw<|QO<|Qb rfl fun E w' hm=>⟨?_,hm.below (l10)⟩
     simp
     rfl
end Go.Proofs.YtkoiogkdiifgfaaGreat
