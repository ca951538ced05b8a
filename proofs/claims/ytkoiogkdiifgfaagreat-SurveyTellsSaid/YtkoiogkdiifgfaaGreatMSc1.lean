import Derived.Test.YtkoiogkdiifgfaaGreatRn1
import Derived.Test.YtkoiogkdiifgfaaGreatEng40
/- Going over a journal's rows: the program's. -/
set_option linter.unusedVariables false
set_option linter.unusedSimpArgs false
set_option maxRecDepth 100000
namespace Go.Proofs.YtkoiogkdiifgfaaGreat
open Go Go.Eng Go.RowKit
abbrev jnC(g:Geo)(sa:Option Addr)(sn sc:Nat)(slot:Int):List Value:=[I g.nodes,I g.slots,I g.blocks,I g.per,I g.journal,I g.log,I g.lease,I g.wait, .slice sa sn sc,I slot]
def zw5(tail:Int):Nat→Int
 |0=>tail
 |n+1=>tail+((n+1:Nat):Int)
theorem znp(tail:Int): ∀n:Nat,zw5 tail n=tail+(n:Int)
 |0=>by simp[zw5]
 |n+1=>rfl
theorem zv7(V:Vw)(bt bj bk:Nat)(g:Geo)(ok:g.Ok)(slot key tail:Int)(D:List ByteArray)(A:List Record)(hJ:RowsOf g slot key tail D A)(sa:Option Addr)(sn sc:Nat)
  (hbt:V.get bt=some (.cells [I tail].toArray 3 (0,0))) (hbj:V.get bj=some (.cells (jnC g sa sn sc slot).toArray 152 (0,0))) (hbk:V.get bk=some (.cells [I key].toArray 3 (0,0))) (hs:SlOf V z1a 1 (.slice sa sn sc) D) (m:Nat) (w0:World) (hV:V.le (vw w0)):
  jbt m Tryz.prog 117 #[Ptr bt,Ptr bj,Ptr bk] (fun r:Record=> #[r.val]) V (fun xs=>xs=A) (fun _=>True) A.length w0:=by
 intro l J Jx W hW hab hsub hJx hY h0
 have hVW:V.le (vw W):=hV.trans ⟨fun k o hk=>by
  have:=hW.block k (Array.getElem?_eq_some_iff.1 hk).1
  show W.heap[k]? =some o
  rw[this];exact hk,hW.os,hW.tape,hW.output⟩
 have hJle: ∀{R p A B},J R p A→(vw A).le (vw B)→J R p B:=fun{R p A B} h hle=>hsub _ _ _ _ (hab _ _ _ _ none h (z6v hle) (fun r e=>by cases e)) (fun k hk=> .inl hk)
 have hf:=z0b hJ.geo
 have hfew:=hJ.few
 have ht0:=hJ.tl0
 have ht1:=hJ.tl1
 have hhd:=hJ.hd
 have hln:=hJ.len
 have hwj:IntKind.i64.wrap (tail+g.journal)=tail+g.journal:=z06 (by omega) (by omega)
 show CallsIn _ _ _ _ #[.func (.yield l) #[] #[],Ptr bt,Ptr bj,Ptr bk] _ _
 refine zkc _ [.a (.v (.func (.yield l) #[] #[])), .a (.v (Ptr bt)), .a (.v (Ptr bj)), .a (.v (Ptr bk))] Tryz.func117 rfl rfl (zhn E0 0 W) rfl rfl<|z1j<|Rr<|QY rfl (z2p tok rfl (fun hg=>hVW.get _ _ hbt) rfl)<|QE 1 [0,1,2,3,5] rfl<|rq<|Qw<|z3c<|ze8 [0,1,2,3] [] rfl rfl (σ:=Nat×World) (fun y=>[(5, .a (.v (I (zw5 tail y.1))))]) (fun y=>[]) (fun y=>vw y.2) (fun y=>(y.1≤A.length∧J (fun _=>False) (A.take y.1) y.2∧V.le (vw y.2))) (fun y=>A.length+1 - y.1) ((0,W)) (⟨by omega,h0,hVW⟩) (by repeat (first|exact fN|refine fC rfl ?_)) (by repeat (first|exact oN|refine oC rfl ?_)) rfl lr ?_
 rintro⟨i,W1⟩ ⟨hi,hJ1,hVi⟩
 dsimp only at hi hJ1 hVi⊢
 rw[znp]
 iterate 2 refine z1j ?_
 refine Rr<|Yy 1 rfl<|QY rfl (z2p tok rfl (fun hg=>hVi.get _ _ hbt) rfl)<|Yy 2 rfl<|QY rfl (z2p tok rfl (fun hg=>hVi.get _ _ hbj) rfl)<|QE 2 [0,1,2,3,5,15] rfl<|rq<|Qw<|z50 rfl (fun h=> ?_) fun h=> ?_
 ·
  simp only[Xa,Xb,Xc,Xd,Xe,Xf,Xg,Xh,Xi,Xj,Xk,Xl,Xm,Xn,Xo,Xp]at h
  rw[hwj]at h
  have hij:(i:Int)<g.journal:=by omega
  clear h
  obtain⟨b,R,s,h_s,hsz,hb,hR,hcase⟩: ∃(b:Bool) (R:Record) (s:ByteArray),D[(z65 g slot (tail+i)).toNat]? =some s∧s.size≤maxLen∧isB s key (tail+i)=b∧isV s key (tail+i)=R∧((i<A.length∧b=true∧A[i]? =some R)∨(i=A.length∧b=false)):=by
   by_cases hlt:i<A.length
   ·
    obtain⟨r,hr⟩: ∃r,A[i]? =some r:=⟨_,List.getElem?_eq_getElem hlt⟩
    obtain⟨s,hs1,hs2,hs3⟩:=hJ.at_ i r hr
    exact⟨true,r,s,hs1,hJ.sz s (List.mem_of_getElem? hs1),hs2,hs3, .inl ⟨hlt,rfl,hr⟩⟩
   ·
    have hiA:i=A.length:=by omega
    obtain⟨s,hs1,hs2⟩:=hJ.rest (by omega)
    rw[←hiA]at hs1 hs2
    exact⟨false,_,s,hs1,hJ.sz s (List.mem_of_getElem? hs1),hs2,rfl, .inr ⟨hiA,rfl⟩⟩
  have hj0:=(j37 hJ.geo hJ.hd (lsn:=tail+i) (by omega)).1
  obtain⟨q,hq⟩: ∃q:Nat,z65 g slot (tail+i)=q:=⟨(z65 g slot (tail+i)).toNat,by omega⟩
  rw[hq,Int.toNat_natCast]at h_s
  have hqlt:=z01 h_s
  have hjc:=fun w=>j7l g ok slot (tail+i) w
  rw[hq]at hjc
  have hisc:=fun w=>j00 s key (tail+i) hsz w
  rw[hb,hR]at hisc
  have hs1:=hs.mono hVi
  refine z5i<|Qw<|z1j<|z3c<|z1j<|j19 rfl (σ:=Unit) (fun _=>[(0, .a (.v (.func (.yield l) #[] #[]))),(1, .a (.v (Ptr bt))),(2, .a (.v (Ptr bj))),(3, .a (.v (Ptr bk))),(5, .a (.v (I (tail+(i:Int))))),(6, .a (.ptr 0 0)),(7, .a (.v (.bool b)))]) (fun _=>[(0, .lit (R.cells.map .v) 74)]) (1) (fun _=>vw W1) (fun _=>True) mixed ?_ ?_
  ·
   refine QT [0] rfl<|Qt 1 rfl rfl (z2p tok rfl (fun hg=>hVi.get _ _ hbj) rfl)<|QT [2] rfl<|Qt 3 rfl rfl (z2p tok rfl (fun hg=>hVi.get _ _ hbj) rfl)<|QT [4] rfl<|Qt 5 rfl rfl (z2p tok rfl (fun hg=>hVi.get _ _ hbj) rfl)<|QT [6] rfl<|Qt 10 rfl rfl (z2p tok rfl (fun hg=>hVi.get _ _ hbk) rfl)<|QT [11] rfl<|QS<|Qz 7 16 ?_ ?_
   ·
    refine Qh 7 (.a (.v (I (q:Int)))) rfl rfl zrm (fun hg E w1 hm=>by exact hjc _) ?_
    refine Qz 8 16 ?_ ?_
    ·
     refine Qy 8 rfl rfl (z14 tok q rfl (by simp) (fun hg=>hs1.sl) (fun hg=>by omega))<|Qz 9 16 ?_ ?_
     ·
      refine Qy 9 rfl rfl (z08 (enc:=z1a) (l:=D) tok q 0 s rfl (fun hg=>hs1) (fun hg=>h_s) (by simp) rfl)<|Qz 12 16 ?_ ?_
      ·
       refine Qh 12 (.a (.v (.tuple #[R.val, .bool b]))) rfl rfl ze0 (fun hg E w1 hm=>by exact hisc _) ?_
       refine Qz 13 16 ?_ ?_
       ·
        refine yH 13 rfl rfl rfl rfl rfl<|z3m 14 15 16 (by kernel_rfl) ?_ ?_ ?_
        ·
         refine yH 14 rfl rfl rfl rfl rfl<|Qz 15 16 ?_ ?_
         ·
          refine yH 15 rfl rfl rfl rfl rfl<|Qo 16<|Qk 16 rfl rfl rfl rfl<|Qo 17<|Qi 17 rfl<|Qx [18] rfl<|Qe [0,1,2,3,5,6,7] rfl ?_
          exact Qm () trivial
         ·
          refine Qk 16 rfl rfl rfl rfl<|Qz 15 17 ?_ ?_
          ·
           refine yH 15 rfl rfl rfl rfl rfl<|Qo 17<|Qi 17 rfl<|Qx [18] rfl<|Qe [0,1,2,3,5,6,7] rfl ?_
           exact Qm () trivial
          ·
           refine Qi 17 rfl<|Qx [15,18] rfl<|Qe [0,1,2,3,5,6,7] rfl ?_
           exact Qm () trivial
        ·
         refine yH 15 rfl rfl rfl rfl rfl<|Qz 14 16 ?_ ?_
         ·
          refine yH 14 rfl rfl rfl rfl rfl<|Qo 16<|Qk 16 rfl rfl rfl rfl<|Qo 17<|Qi 17 rfl<|Qx [18] rfl<|Qe [0,1,2,3,5,6,7] rfl ?_
          exact Qm () trivial
         ·
          refine Qk 16 rfl rfl rfl rfl<|Qx [14] rfl<|Qo 17<|Qi 17 rfl<|Qx [18] rfl<|Qe [0,1,2,3,5,6,7] rfl ?_
          exact Qm () trivial
        ·
         refine Qk 16 rfl rfl rfl rfl<|Qz 14 15 ?_ ?_
         ·
          refine yH 14 rfl rfl rfl rfl rfl<|Qz 15 17 ?_ ?_
          ·
           refine yH 15 rfl rfl rfl rfl rfl<|Qo 17<|Qi 17 rfl<|Qx [18] rfl<|Qe [0,1,2,3,5,6,7] rfl ?_
           exact Qm () trivial
          ·
           refine Qi 17 rfl<|Qx [15,18] rfl<|Qe [0,1,2,3,5,6,7] rfl ?_
           exact Qm () trivial
         ·
          refine yH 15 rfl rfl rfl rfl rfl<|Qx [14] rfl<|Qo 17<|Qi 17 rfl<|Qx [18] rfl<|Qe [0,1,2,3,5,6,7] rfl ?_
          exact Qm () trivial
       ·
        refine Qk 16 rfl rfl rfl rfl<|Qx [13] rfl<|Qz 14 15 ?_ ?_
        ·
         refine yH 14 rfl rfl rfl rfl rfl<|Qz 15 17 ?_ ?_
         ·
          refine yH 15 rfl rfl rfl rfl rfl<|Qo 17<|Qi 17 rfl<|Qx [18] rfl<|Qe [0,1,2,3,5,6,7] rfl ?_
          exact Qm () trivial
         ·
          refine Qi 17 rfl<|Qx [15,18] rfl<|Qe [0,1,2,3,5,6,7] rfl ?_
          exact Qm () trivial
        ·
         refine yH 15 rfl rfl rfl rfl rfl<|Qx [14] rfl<|Qo 17<|Qi 17 rfl<|Qx [18] rfl<|Qe [0,1,2,3,5,6,7] rfl ?_
         exact Qm () trivial
      ·
       refine Qk 16 rfl rfl rfl rfl<|Qo 12<|Qh 12 (.a (.v (.tuple #[R.val, .bool b]))) rfl rfl ze0 (fun hg E w1 hm=>by exact hisc _) ?_
       refine Qx [13] rfl<|Qz 14 15 ?_ ?_
       ·
        refine yH 14 rfl rfl rfl rfl rfl<|Qz 15 17 ?_ ?_
        ·
         refine yH 15 rfl rfl rfl rfl rfl<|Qo 17<|Qi 17 rfl<|Qx [18] rfl<|Qe [0,1,2,3,5,6,7] rfl ?_
         exact Qm () trivial
        ·
         refine Qi 17 rfl<|Qx [15,18] rfl<|Qe [0,1,2,3,5,6,7] rfl ?_
         exact Qm () trivial
       ·
        refine yH 15 rfl rfl rfl rfl rfl<|Qx [14] rfl<|Qo 17<|Qi 17 rfl<|Qx [18] rfl<|Qe [0,1,2,3,5,6,7] rfl ?_
        exact Qm () trivial
     ·
      refine Qk 16 rfl rfl rfl rfl<|Qo 9<|Qy 9 rfl rfl (z08 (enc:=z1a) (l:=D) tok q 0 s rfl (fun hg=>hs1) (fun hg=>h_s) (by simp) rfl)<|Qo 12<|Qh 12 (.a (.v (.tuple #[R.val, .bool b]))) rfl rfl ze0 (fun hg E w1 hm=>by exact hisc _) ?_
      refine Qx [13] rfl<|Qz 14 15 ?_ ?_
      ·
       refine yH 14 rfl rfl rfl rfl rfl<|Qz 15 17 ?_ ?_
       ·
        refine yH 15 rfl rfl rfl rfl rfl<|Qo 17<|Qi 17 rfl<|Qx [18] rfl<|Qe [0,1,2,3,5,6,7] rfl ?_
        exact Qm () trivial
       ·
        refine Qi 17 rfl<|Qx [15,18] rfl<|Qe [0,1,2,3,5,6,7] rfl ?_
        exact Qm () trivial
      ·
       refine yH 15 rfl rfl rfl rfl rfl<|Qx [14] rfl<|Qo 17<|Qi 17 rfl<|Qx [18] rfl<|Qe [0,1,2,3,5,6,7] rfl ?_
       exact Qm () trivial
    ·
     refine Qk 16 rfl rfl rfl rfl<|Qo 8<|Qy 8 rfl rfl (z14 tok q rfl (by simp) (fun hg=>hs1.sl) (fun hg=>by omega))<|Qo 9<|Qy 9 rfl rfl (z08 (enc:=z1a) (l:=D) tok q 0 s rfl (fun hg=>hs1) (fun hg=>h_s) (by simp) rfl)<|Qo 12<|Qh 12 (.a (.v (.tuple #[R.val, .bool b]))) rfl rfl ze0 (fun hg E w1 hm=>by exact hisc _) ?_
     refine Qx [13] rfl<|Qz 14 15 ?_ ?_
     ·
      refine yH 14 rfl rfl rfl rfl rfl<|Qz 15 17 ?_ ?_
      ·
       refine yH 15 rfl rfl rfl rfl rfl<|Qo 17<|Qi 17 rfl<|Qx [18] rfl<|Qe [0,1,2,3,5,6,7] rfl ?_
       exact Qm () trivial
      ·
       refine Qi 17 rfl<|Qx [15,18] rfl<|Qe [0,1,2,3,5,6,7] rfl ?_
       exact Qm () trivial
     ·
      refine yH 15 rfl rfl rfl rfl rfl<|Qx [14] rfl<|Qo 17<|Qi 17 rfl<|Qx [18] rfl<|Qe [0,1,2,3,5,6,7] rfl ?_
      exact Qm () trivial
   ·
    refine Qk 16 rfl rfl rfl rfl<|Qo 7<|Qh 7 (.a (.v (I (q:Int)))) rfl rfl zrm (fun hg E w1 hm=>by exact hjc _) ?_
    refine Qo 8<|Qy 8 rfl rfl (z14 tok q rfl (by simp) (fun hg=>hs1.sl) (fun hg=>by omega))<|Qo 9<|Qy 9 rfl rfl (z08 (enc:=z1a) (l:=D) tok q 0 s rfl (fun hg=>hs1) (fun hg=>h_s) (by simp) rfl)<|Qo 12<|Qh 12 (.a (.v (.tuple #[R.val, .bool b]))) rfl rfl ze0 (fun hg E w1 hm=>by exact hisc _) ?_
    refine Qx [13] rfl<|Qz 14 15 ?_ ?_
    ·
     refine yH 14 rfl rfl rfl rfl rfl<|Qz 15 17 ?_ ?_
     ·
      refine yH 15 rfl rfl rfl rfl rfl<|Qo 17<|Qi 17 rfl<|Qx [18] rfl<|Qe [0,1,2,3,5,6,7] rfl ?_
      exact Qm () trivial
     ·
      refine Qi 17 rfl<|Qx [15,18] rfl<|Qe [0,1,2,3,5,6,7] rfl ?_
      exact Qm () trivial
    ·
     refine yH 15 rfl rfl rfl rfl rfl<|Qx [14] rfl<|Qo 17<|Qi 17 rfl<|Qx [18] rfl<|Qe [0,1,2,3,5,6,7] rfl ?_
     exact Qm () trivial
  rintro⟨⟩ -
  refine Qw<|z1j ?_
  rcases hcase with⟨hlt,hbt2,hRA⟩|⟨hiA,hbf⟩
  ·
   subst hbt2
   have htk:A.take (i+1)=A.take i++[R]:=z7v hRA
   have hround: ∀w,(vw W1).le (vw w)→YieldAt (Rd none) (m - 1) Tryz.prog l #[R.val] w fun e w'=> ∃b V',e= .returned (.bool b)∧V'.le (vw w')∧ ∃W',V'=vw W'∧(b=true→J (fun _=>False) (A.take (i+1)) W'∧V.le (vw W'))∧(b=false→Jx (A.take (i+1)) W'):=by
    intro w hle
    refine zfl (hY _ _ R w (hJle hJ1 hle) (by rw[List.length_take];omega)) ?_
    intro e w' hq2
    rw[htk]
    rcases hq2 with⟨rfl,hj,hkv,_⟩|⟨rfl,hj⟩
    · exact⟨true,vw w',rfl,Vw.le.refl _,w',rfl,fun _=>⟨hj,hkv (hVi.trans hle)⟩,fun hf=>(by cases hf)⟩
    · exact⟨false,vw w',rfl,Vw.le.refl _,w',rfl,fun hf=>(by cases hf),fun _=>hj⟩
   refine zeb 5 (by intro _ _ w1 h1;first|exact h1|(obtain⟨h2,_⟩:=h1;cases h2;done)|(obtain⟨⟨_,h2⟩,_⟩:=h1;cases h2;done)|(obtain⟨⟨_,h2,_⟩,_⟩:=h1;cases h2;done)|(obtain⟨_,h2,_⟩:=h1;cases h2;done)|(obtain⟨_,_,h2,_⟩:=h1;cases h2;done)|(obtain⟨_,_,_,h2,_⟩:=h1;cases h2;done)|(rcases h1 with⟨⟨_,_,h2,_⟩|⟨_,h2⟩,_⟩<;>cases h2;done)|(exact nor _ h1)) rfl rfl ?_
   refine Yy 5 rfl<|j57<|ry _<|j9g<|zwm (fun b V'=> ∃W',V'=vw W'∧(b=true→J (fun _=>False) (A.take (i+1)) W'∧V.le (vw W'))∧(b=false→Jx (A.take (i+1)) W')) rfl (rfl) rfl rfl rfl (fun E w hle=>by exact hround w hle) ?_
   rintro q2 V' ⟨W',rfl,hq1,hq2⟩
   refine zsc (by intro _ _ w1 h1;first|exact h1|(obtain⟨h2,_⟩:=h1;cases h2;done)|(obtain⟨⟨_,h2⟩,_⟩:=h1;cases h2;done)|(obtain⟨⟨_,h2,_⟩,_⟩:=h1;cases h2;done)|(obtain⟨_,h2,_⟩:=h1;cases h2;done)|(obtain⟨_,_,h2,_⟩:=h1;cases h2;done)|(obtain⟨_,_,_,h2,_⟩:=h1;cases h2;done)|(rcases h1 with⟨⟨_,_,h2,_⟩|⟨_,h2⟩,_⟩<;>cases h2;done)|(exact nor _ h1)) rfl ?_
   refine QE 2 [0,1,2,3,5,41] rfl<|rq<|Qw<|z50 rfl (fun h=> ?_) fun h=> ?_
   ·
    refine zbx<|QP<|QL<|QL<|QP<|zei tok rfl ?_
    cases q2 with
    |true=>exact absurd h (by simp)
    |false=>
     intro E w' hm _
     exact⟨⟨_,rfl⟩, .inr ⟨_,trivial,zcw hJx (hq2 rfl) hm.leV⟩⟩
   ·
    refine z5i<|QM<|Qw<|Rr<|QE 3 [0,1,2,3,5] rfl<|rq<|Qw ?_
    cases q2 with
    |false=>exact absurd h (by simp)
    |true=>
     obtain⟨hj,hv⟩:=hq1 rfl
     rw[show IntKind.i64.wrap (tail+(i:Int)+1)=zw5 tail (i+1)from by rw[znp];exact(z06 (by omega) (by omega)).trans (by omega)]
     refine z6y ((i+1,W')) (⟨by dsimp only;omega,hj,hv⟩) (by first|omega|(dsimp only;omega)) (by repeat (first|exact fN|refine fC rfl ?_)) (by repeat (first|exact oN|refine oC rfl ?_)) rfl<|Vw.le.refl _
  ·
   subst hbf
   refine Rr<|Yy 5 rfl<|z7w (.a (.v (.bool true))) rfl rfl rfl rfl rfl (fun hg E w1 hm=>absurd hg (by simp))<|QE 2 [0,1,2,3,5,41] rfl<|rq<|Qw<|z50 rfl (fun h=> ?_) fun h=> ?_
   ·
    refine zbx<|QP<|QL<|QL<|QP<|zei tok rfl ?_
    intro E w' hm _
    refine⟨⟨_,rfl⟩, .inl ⟨A,rfl,fun _=>False,hJle (R:=fun _=>False) (p:=A) (A:=W1) ?_ hm.leV⟩⟩
    rw[hiA,List.take_of_length_le (Nat.le_refl _)]at hJ1
    exact hJ1
   ·
    exact absurd h (by simp)
 ·
  simp only[Xa,Xb,Xc,Xd,Xe,Xf,Xg,Xh,Xi,Xj,Xk,Xl,Xm,Xn,Xo,Xp]at h
  refine zin<|QK<|QK<|QQ<|zzk tok rfl ?_
  rw[hwj]at h
  have his:i=A.length:=by omega
  intro E w' hm _
  refine⟨⟨_,rfl⟩, .inl ⟨A,rfl,fun _=>False,hJle (R:=fun _=>False) (p:=A) (A:=W1) ?_ hm.leV⟩⟩
  rw[his,List.take_of_length_le (Nat.le_refl _)]at hJ1
  exact hJ1
theorem zcj{E:Env}{O:Go.Eng.Own}{nl:Nat}{w w':World}(hm:Mem E O nl (vw w) w'){l e:Nat}{cs:List Go.Eng.A}(hl:lk O l=some (.lit cs e)):w.heap.size≤E.ρ l:=by
 rcases Nat.lt_or_ge (E.ρ l) w.heap.size with h|h
 ·
  have:=hm.off l _ (E.ρ l) hl rfl
  rw[show(vw w).get (E.ρ l)=w.heap[E.ρ l]? from rfl,Array.getElem?_eq_getElem h]at this
  cases this
 · exact h
abbrev jnV(g:Geo)(sa:Option Addr)(sn sc:Nat)(slot:Int):Value:= .agg #[I g.nodes,I g.slots,I g.blocks,I g.per,I g.journal,I g.log,I g.lease,I g.wait, .slice sa sn sc,I slot]
theorem zvq(V:Vw)(g:Geo)(sa:Option Addr)(sn sc:Nat)(slot key tail:Int)(w:World)(hV:V.le (vw w)):Cl 92 #[jnV g sa sn sc slot,I key,I tail] w fun e w'=> ∃v V',e= .returned v∧Below w.heap.size w w'∧Vext w.heap.size V V' w'∧
  ∃bt bj bk,v= .func (.func 117) #[] #[Ptr bt,Ptr bj,Ptr bk]∧V'.get bt=some (.cells [I tail].toArray 3 (0,0))∧V'.get bj=some (.cells (jnC g sa sn sc slot).toArray 152 (0,0))∧V'.get bk=some (.cells [I key].toArray 3 (0,0)):=by
 refine Qf [.a (.v (jnV g sa sn sc slot)), .a (.v (I key)), .a (.v (I tail))] Tryz.func92 rfl<|QA<|QC<|QE 4 [3,4,5] rfl<|Qw<|QA<|QC<|QE 2 [6] rfl<|Qw<|QO<|Qb rfl fun E w' hm=> ?_
 have hb:=hm.below lr
 have h0:=hm.lit 0 _ _ rfl
 have h1:=hm.lit 1 _ _ rfl
 have h2:=hm.lit 2 _ _ rfl
 have z0:=zcj hm (l:=0) rfl
 have z1:=zcj hm (l:=1) rfl
 have z2:=zcj hm (l:=2) rfl
 refine⟨_,⟨fun k=>if w.heap.size≤k then w'.heap[k]? else V.get k,V.os,V.tape,V.output⟩,rfl,hb,⟨⟨fun k o hk=> ?_,rfl,rfl,rfl⟩,fun k o hk=> ?_⟩,E.ρ 2,E.ρ 0,E.ρ 1,rfl, ?_, ?_, ?_⟩
 ·
  have hlt:k<w.heap.size:=(Array.getElem?_eq_some_iff.1 (hV.get k o hk)).1
  show(if _ then _ else _)=_
  rw[if_neg (by omega)]
  exact hk
 ·
  change (if _ then _ else _)=_ at hk
  split at hk
  · exact⟨hk, .inr (by assumption)⟩
  ·
   have hlt:k<w.heap.size:=(Array.getElem?_eq_some_iff.1 (hV.get k o hk)).1
   exact⟨(hb.block k hlt).trans (hV.get k o hk), .inl hk⟩
 ·
  show(if _ then _ else _)=_
  rw[if_pos z2]
  exact h2
 ·
  show(if _ then _ else _)=_
  rw[if_pos z0]
  exact h0
 ·
  show(if _ then _ else _)=_
  rw[if_pos z1]
  exact h1
def zy2(g:Geo)(D:List ByteArray)(slot:Int):Bool:=z2y g&&decide ((D.length:Int)=z5j g)&&decide (0≤z1o g slot)
theorem j45(V:Vw)(g:Geo)(ok:g.Ok)(slot:Int)(a ca ka fa:Option Addr)(n c cn cc kn kc fn fc:Nat)(nx:Int)(D:List ByteArray)(w:World)(hV:V.le (vw w))(hs0:SlOf V z1a 1 (.slice a n c) D):
  Rt 91 #[g.val,zev a ca ka fa n c cn cc kn kc fn fc nx,I slot] w (.tuple #[jnV g a n c slot, .bool (zy2 g D slot)]):=by
 obtain⟨a',c',he,_⟩:=zim hs0.sl
 cases he
 refine Qf [.a (.v g.val), .a (.v (zev a ca ka fa D.length c cn cc kn kc fn fc nx)), .a (.v (I slot))] Tryz.func91 rfl<|QA<|QC<|QE 4 [2,3,4,6] rfl<|Qw<|QA<|Rb [21] rfl<|QD [0,1,2,3,4,5] rfl<|QS<|Qo 6<|Qh 6 (.a (.v _)) rfl rfl zcr (fun hg E w1 hm=>by exact z73 g ok _) ?_
 refine Qx [7] rfl<|z92 8 rfl (by kernel_rfl) rfl rfl rfl rfl (yV rfl) rfl<|z92 9 rfl (by kernel_rfl) rfl rfl rfl rfl (yV rfl) rfl<|z92 10 rfl (by kernel_rfl) rfl rfl rfl rfl (z8n tok rfl) rfl<|Qx [11] rfl<|Qo 12<|Qh 12 (.a (.v _)) rfl rfl zni (fun hg E w1 hm=>by exact zi3 g ok _) ?_
 refine Qx [13,14,15] rfl<|z92 16 rfl (by kernel_rfl) rfl rfl rfl rfl (yV rfl) rfl<|Qx [17] rfl<|Qo 18<|Qh 18 (.a (.v _)) rfl rfl zr2 (fun hg E w1 hm=>by exact zuw g ok slot _) ?_
 refine zee 19 rfl (by kernel_rfl) rfl rfl rfl (fun _=>z72 tok rfl) rfl<|zee 20 rfl (by kernel_rfl) rfl rfl rfl (fun _=>z72 tok rfl) rfl<|Qo 21<|Qj 21 rfl<|Qx [22] rfl<|Qe [6,7] rfl<|Qw<|QO<|Qb rfl fun E w' hm=>⟨?_,hm.below lr⟩
 show Ending.returned (.tuple #[_, .bool ((z2y g&&((D.length:Int)==z5j g))&&decide (z1o g slot≥0))])=_
 rw[zy2]
 congr 5
theorem j0k(V:Vw)(g:Geo)(ok:g.Ok)(slot key tail:Int)(D:List ByteArray)(A:List Record)(hJ:RowsOf g slot key tail D A)(a ca ka fa:Option Addr)(n c cn cc kn kc fn fc:Nat)(nx:Int)(w:World)(hV:V.le (vw w))(hs0:SlOf V z1a 1 (.slice a n c) D):
  Cl 59 #[g.val,zev a ca ka fa n c cn cc kn kc fn fc nx,I slot,I key,I tail] w fun e w'=>(∃v,e= .returned v∧w'.ownsRow w.heap.size 74 6 v A.length (A.flatMap Record.cells))∧Below w.heap.size w w':=by
 have hs:=hs0.mono hV
 have hf:=z0b hJ.geo
 have hfew:=hJ.few
 have ht0:=hJ.tl0
 have ht1:=hJ.tl1
 have hop:zy2 g D slot=true:=by rw[zy2,hJ.geo,decide_eq_true hJ.len,decide_eq_true hJ.hd];rfl
 have hoc:=fun w1 hV1=>j45 (vw w) g ok slot a ca ka fa n c cn cc kn kc fn fc nx D w1 hV1 hs
 rw[hop]at hoc
 refine zrh<|zkc 9 (E:=E0) (O:=[]) (nl:=0) (V:=vw w) [.a (.v g.val), .a (.v (zev a ca ka fa n c cn cc kn kc fn fc nx)), .a (.v (I slot)), .a (.v (I key)), .a (.v (I tail))] Tryz.func59 rfl rfl (zhn E0 0 w) rfl rfl<|z1j<|Rr<|QE 3 [2,3,4,5,6,10] rfl<|rq<|Qw<|z1j<|Rr<|Yy 3 rfl<|Qc (.a (.v _)) rfl j7q (fun hg E w1 hm=>by exact hoc _ hm.leV) ?_
 refine Yy 4 rfl<|Qs rfl<|QE 1 [3,4,10,11,12] rfl<|rq<|Qw ?_
 iterate 2 refine z1j ?_
 refine Rr<|QE 10 [3,4,10,11,30] rfl<|rq<|Qw<|z50 rfl (fun h=> ?_) fun h=> ?_
 ·
  simp only[Xa,Xb,Xc,Xd,Xe,Xf,Xg,Xh,Xi,Xj,Xk,Xl,Xm,Xn,Xo,Xp]at h
  exfalso
  simp at h
  omega
 ·
  simp only[Xa,Xb,Xc,Xd,Xe,Xf,Xg,Xh,Xi,Xj,Xk,Xl,Xm,Xn,Xo,Xp]at h
  clear h
  refine z5i<|Qw ?_
  iterate 2 refine z1j ?_
  refine Rr<|Yy 3 rfl<|z9r 2 0 74 6 rfl rfl<|zi1 [10,31,32,33] [2,4] rfl (by repeat (first|exact fN|refine fC rfl ?_)) rfl rfl fun Ea V1 hle1 _ _=> ?_
  refine Qv (fun v V2=> ∃bt bj bk,v= .func (.func 117) #[] #[Ptr bt,Ptr bj,Ptr bk]∧V2.get bt=some (.cells [I tail].toArray 3 (0,0))∧V2.get bj=some (.cells (jnC g a n c slot).toArray 152 (0,0))∧V2.get bk=some (.cells [I key].toArray 3 (0,0))) rfl j7a (fun hg E w1 hm=>by exact zvq V1 g a n c slot key tail _ hm.leV) ?_
  rintro v V2 hle2 hx
  obtain⟨bt,bj,bk,rfl,hbt,hbj,hbk⟩:=hx rfl
  clear hx
  have hle12:=hle1.trans hle2
  have hs2:=hs.mono hle12
  refine z07 [10,34] rfl<|rq<|Qw<|z3c<|zwh (α:=Record) (σ:=List Record) (τ:=Unit) (by omega) rfl j1u (fun r=>r.val) (fun xs=>xs=A) (fun _=>True) A.length [(10, .a (.v (Ptr (Ea.ρ 2))))] (fun s=>[(2, .lit [.row 4] 63),(4, .row 74 6 s.length (s.flatMap Record.cells)),(6, .keep 2 (Ea.ρ 2) (Ea.κ 2))]) (fun xs s=>s=xs) (fun _=>[]) (fun _ _=>False) .ret [] (by repeat (first|exact fN|refine fC rfl ?_)) rfl rfl (by repeat (first|exact oN|refine oC rfl ?_)) (fun _=>rfl) (fun _=>rfl) rfl (fun w0 hw=>zv7 V2 bt bj bk g ok slot key tail D A hJ a n c hbt hbj hbk hs2 _ w0 hw) ?_ ?_ ?_
  ·
   intro l pre x s1 Vf sz hI hlen hVf
   have hpl:s1.length≤1001:=by rw[hI];omega
   refine Rr<|Yy 1 rfl<|Qs rfl<|z07 [10,13] rfl<|rq<|zux rfl (by repeat (first|exact lr|assumption|(refine Vw.le.trans ?_ (by assumption)))) fun Vg kz hVg=> ?_
   refine z3c<|z4k 10 6 2 (Ea.ρ 2) 0 rfl rfl rfl<|Rr<|Yy 2 rfl<|QZ rfl (z1q tok 6 rfl rfl rfl) fun _ _=>QZ rfl (z0g tok x.cells rfl (fun E w hm=>z09 (hm.row _ _ _ _ _ rfl)) (fun _ _ _=>by simpa using zhb [x]) (by dsimp only;omega)) fun _ _=> ?_
   refine Qs rfl<|z07 [10] rfl<|rq<|QM ?_
   have hx:s1.length+1=(s1++[x]).length∧s1.flatMap Record.cells++x.cells=(s1++[x]).flatMap Record.cells:=by simp
   rw[hx.1,hx.2]
   refine z00 4 10 rfl<|zlv (s1++[x]) (by rw[hI]) (by repeat (first|exact oN|refine oC rfl ?_)) rfl (by repeat (first|exact lr|assumption|(refine Vw.le.trans ?_ (by assumption))))
  ·
   intro D3 V3 s1 xs hS hI hle3 hD hle4
   have hsL:s1=A:=hI.trans hS
   subst hsL
   refine QM<|Qw<|z1j<|z4k 10 6 2 (Ea.ρ 2) 0 rfl rfl rfl<|Rr<|Yy 1 rfl<|Qs rfl<|z07 [10] rfl<|rq<|Qw<|zbx<|zgt tok rfl hD ?_
   intro E w' hm _
   have hvle:(vw w).le (V3.del D3):=hle12.trans hle4
   exact⟨⟨_,rfl,hm.rowFresh hvle (l:=4) rfl⟩,hm.below hvle⟩
  ·
   intro D3 V3 y pre _ hf
   exact hf.elim
theorem zxr(V:Vw)(g:Geo)(ok:g.Ok)(slot key tail:Int)(D:List ByteArray)(A:List Record)(hJ:RowsOf g slot key tail D A)(a ca ka fa:Option Addr)(n c cn cc kn kc fn fc:Nat)(nx:Int)(w:World)(hV:V.le (vw w))(hs0:SlOf V z1a 1 (.slice a n c) D):
  Cl 59 #[g.val,zev a ca ka fa n c cn cc kn kc fn fc nx,I slot,I key,I tail] w fun e w'=> ∃v V',e= .returned v∧Below w.heap.size w w'∧Vext w.heap.size V V' w'∧ ∃a n c,v= .slice a n c∧SlOf V' Record.cells 6 (.slice a n c) A:=by
 refine(j0k V g ok slot key tail D A hJ a ca ka fa n c cn cc kn kc fn fc nx w hV hs0).mono ?_
 rintro e w' ⟨⟨v,rfl,hrow⟩,hb⟩
 obtain⟨V',hx,hsl⟩:=z1i hV hb hrow
 obtain⟨a,n,c,rfl⟩:=z04 hsl
 exact⟨_,V',rfl,hb,hx,a,n,c,rfl,hsl,fun _=>rfl⟩
theorem zmx(l:List Block): ∀u∈l.flatMap Block.cells,u.oneCell'=true:=by
 intro u hu
 obtain⟨x,_,hx⟩:=List.mem_flatMap.1 hu
 simp only[Block.cells,List.mem_cons,List.not_mem_nil,or_false]at hx
 rcases hx with rfl|rfl<;>rfl
def j96(L:List Block)(w:World)(e:Ending)(w':World):Prop:=
 (∃v,e= .returned v∧w'.ownsRow w.heap.size 93 2 v L.length (L.flatMap Block.cells))∧Below w.heap.size w w'
theorem zsr(O:List Block)(x:Block):O.length+1=(O++[x]).length∧O.flatMap Block.cells++x.cells=(O++[x]).flatMap Block.cells:=by simp
def j33(L:List Block)(x:Value)(V':Vw):Prop:= ∃a n c,x= .slice a n c∧SlOf V' Block.cells 2 (.slice a n c) L
theorem zya{V:Vw}{f:Nat}{L:List Block}{args:Array Value}{w:World}(hV:V.le (vw w))(h:Cl f args w (j96 L w)):
  Cl f args w fun e w'=> ∃x V',e= .returned x∧Below w.heap.size w w'∧Vext w.heap.size V V' w'∧j33 L x V':=by
 refine h.mono ?_
 rintro e w' ⟨⟨v,rfl,hown⟩,hb⟩
 obtain⟨V',hx,hsl⟩:=z1i hV hb hown
 obtain⟨a,n,c,rfl⟩:=z04 hsl
 exact⟨_,V',rfl,hb,hx,a,n,c,rfl,hsl,fun _=>rfl⟩
/-! Rows that rise, written as what stands at each number. -/
def mkF(f:Int→Option ByteArray)(a:Int):Nat→List Block
 |0=>[]
 |k+1=>(match f a with|some t=>[⟨a,t⟩]|none=>[])++mkF f (a+1) k
theorem zcg(f:Int→Option ByteArray): ∀(k:Nat) (a:Int),(mkF f a k).length≤k
 |0,_=>by simp[mkF]
 |k+1,a=>by
  have:=zcg f k (a+1)
  rw[mkF]
  cases f a<;>simp<;>omega
theorem zha(f:Int→Option ByteArray): ∀(k:Nat) (a:Int),mkF f a (k+1)=mkF f a k++(match f (a+k)with|some t=>[⟨a+k,t⟩]|none=>[])
 |0,a=>by simp[mkF]
 |k+1,a=>by
  rw[mkF,zha f k (a+1),mkF,List.append_assoc]
  rw[show a+1+(k:Int)=a+((k+1:Nat):Int) by omega]
/-! A block's text out of a transaction's data. -/
def zm4(n k:Int)(r:Record):Bool:=r.count==0&&(r.block==n&&r.k==k)
def z5q(l:List Record)(n k:Int):ByteArray:=l.foldl (fun p r=>if zm4 n k r=true then r.text else p) ByteArray.empty
def z98(l:List Record)(n k:Int):Bool:=l.any (zm4 n k)
def z4a(l:List Record)(n:Int):Nat→ByteArray×Bool
 |0=>(ByteArray.empty,false)
 |k+1=>((z4a l n k).1++z5q l n k,(z4a l n k).2||z98 l n k)
theorem z6q(l:List Record)(r:Record)(n k:Int):z5q (l++[r]) n k=if zm4 n k r=true then r.text else z5q l n k:=by simp[z5q]
theorem z8e(l:List Record)(r:Record)(n k:Int):z98 (l++[r]) n k=(z98 l n k||zm4 n k r):=by simp[z98]
theorem zd3{l:List Record}(h: ∀r∈l,r.text.size≤256)(n k:Int):(z5q l n k).size≤256:=by
 have key: ∀(l:List Record) (p:ByteArray),(∀r∈l,r.text.size≤256)→p.size≤256→(l.foldl (fun p r=>if zm4 n k r=true then r.text else p) p).size≤256:=by
  intro l
  induction l with
  |nil=>intro p _ hp;exact hp
  |cons r t ih=>
   intro p h hp
   rw[List.foldl_cons]
   refine ih _ (fun x hx=>h x (by simp[hx])) ?_
   split
   · exact h r (by simp)
   · exact hp
 exact key l _ h (by simp)
theorem zef{l:List Record}(h: ∀r∈l,r.text.size≤256)(n:Int): ∀k,(z4a l n k).1.size≤256*k
 |0=>by simp[z4a]
 |k+1=>by
  have h1:=zef h n k
  have h2:=zd3 h n k
  rw[z4a,ByteArray.size_append];omega
theorem j3v(V:Vw)(sv:Value)(l:List Record)(n:Int)(w:World)(hV:V.le (vw w))(hs0:SlOf V Record.cells 6 sv l)(hn:l.length≤1000000)(hz: ∀r∈l,r.text.size≤256):
  Rt 77 #[sv,I n] w (.tuple #[S (z4a l n 8).1, .bool (z4a l n 8).2]):=by
 have hs:=hs0.mono hV
 refine Qf [.a (.v sv), .a (.v (I n))] Tryz.func77 rfl<|QA<|QC<|QE 2 [0,1] rfl<|Qw<|QA<|QC<|QE 2 [0,1,6,7] rfl<|Qw<|QA<|QA<|QC<|QE 1 [0,1,6,7,8] rfl<|Qw<|QJ<|Ql [0,1] [] rfl rfl (σ:=Nat) (fun k=>[(6, .a (.v (S (z4a l n k).1))),(7, .a (.v (.bool (z4a l n k).2))),(8, .a (.v (I k)))]) (fun k=>[]) (fun k=>k≤8) (fun k=>8 - k) (0) (by omega) ?_
 rintro k hk
 refine QA<|QA<|QC<|QE 2 [0,1,6,7,8,12] rfl<|Qw<|QX rfl (fun h=> ?_) fun h=> ?_
 ·
  refine QI<|Qw<|QA<|QJ<|QA<|QC<|QE 1 [0,1,6,7,8,9] rfl<|Qw<|QA<|QA<|QC<|QE 1 [0,1,6,7,8,9,10] rfl<|Qw<|QJ ?_
  have hts:=zef hz n k
  have hwk:IntKind.i64.wrap ((k:Int)+1)=((k+1:Nat):Int):=z06 (by omega) (by omega)
  have es:((z4a l n k).2||z98 (l.take 0) n k)=(z4a l n k).2:=by simp[z98]
  refine Ql [0,1,6,8] [] rfl rfl (σ:=Nat×ByteArray×Bool) (fun(i,p,s)=>[(7, .a (.v (.bool s))),(9, .a (.v (S p))),(10, .a (.v (I i)))]) (fun(i,p,s)=>[]) (fun(i,p,s)=>i≤l.length∧p=z5q (l.take i) n k∧s=((z4a l n k).2||z98 (l.take i) n k)) (fun(i,p,s)=>l.length - i) ((0,ByteArray.empty,(z4a l n k).2)) (⟨by omega,rfl,es.symm⟩) ?_ (hs:=by repeat (first|exact z52.nil|refine z52.cons rfl ?_|refine z52.cons (by simp only[es];first|done|rfl) ?_)) (hO:=by repeat (first|exact z3b.nil|refine z3b.cons rfl ?_|refine z3b.cons (by simp only[es];first|done|rfl) ?_))
  rintro⟨i,p,s⟩ ⟨hi,hp,hsm⟩
  dsimp only at hi hp hsm⊢
  refine QA<|QA<|QC<|Yy 2 rfl<|QY rfl (z0l tok rfl (fun hg=>hs.sl))<|QE 1 [0,1,6,7,8,9,10,18] rfl<|Qw<|QX rfl (fun h=> ?_) fun h=> ?_
  ·
   refine QI<|Qw<|QA<|QJ<|QA<|QC<|Yy 2 rfl ?_
   obtain⟨r,h_r⟩:=hs.at (k:=i) (by omega)
   have hwi:IntKind.i64.wrap ((i:Int)+1)=((i+1:Nat):Int):=z06 (by omega) (by omega)
   have e1:=z6q (l.take i) r n k
   have e2:=z8e (l.take i) r n k
   rw[←z0y h_r]at e1 e2
   have hlt_r:=z01 h_r
   refine QY rfl (z0c tok rfl (fun hg=>hs.sl) (fun hg=>⟨by omega,by omega⟩))<|QY rfl (z1f tok rfl (fun hg=>hs.sl) (fun hg=>by omega))<|QY rfl (z08 tok (i) 5 (r) rfl (fun hg=>hs) (fun hg=>h_r) rfl rfl)<|Yy 4 rfl ?_
   have hlt_r:=z01 h_r
   refine QY rfl (z0c tok rfl (fun hg=>hs.sl) (fun hg=>⟨by omega,by omega⟩))<|QY rfl (z1f tok rfl (fun hg=>hs.sl) (fun hg=>by omega))<|QY rfl (z08 tok (i) 2 (r) rfl (fun hg=>hs) (fun hg=>h_r) rfl rfl)<|Yy 6 rfl ?_
   have hlt_r:=z01 h_r
   refine QY rfl (z0c tok rfl (fun hg=>hs.sl) (fun hg=>⟨by omega,by omega⟩))<|QY rfl (z1f tok rfl (fun hg=>hs.sl) (fun hg=>by omega))<|QY rfl (z08 tok (i) 3 (r) rfl (fun hg=>hs) (fun hg=>h_r) rfl rfl)<|QE 3 [0,1,6,7,8,9,10,44] rfl<|Qw<|QX rfl (fun h=> ?_) fun h=> ?_
   ·
    refine QA<|QC<|Yy 2 rfl ?_
    have hpc:zm4 n k r=true:=by simp only[zm4,Bool.and_eq_true,beq_iff_eq];exact⟨h.1.1,h.1.2,h.2⟩
    have hlt_r:=z01 h_r
    refine QY rfl (z0c tok rfl (fun hg=>hs.sl) (fun hg=>⟨by omega,by omega⟩))<|QY rfl (z1f tok rfl (fun hg=>hs.sl) (fun hg=>by omega))<|QY rfl (z08 tok (i) 4 (r) rfl (fun hg=>hs) (fun hg=>h_r) rfl rfl)<|QE 1 [0,1,6,8,9,10] rfl<|Qw<|QC<|QE 1 [0,1,6,7,8,9,10] rfl<|QM<|Qw<|QC<|QE 3 [0,1,6,7,8,9,10] rfl<|Qw ?_
    rw[hwi]
    refine Qr ((i+1,r.text,true))<|⟨by dsimp only;omega,by dsimp only;rw[e1,if_pos hpc],by dsimp only;rw[e2,hpc];simp⟩
   ·
    refine QI<|QM<|Qw<|QC<|QE 3 [0,1,6,7,8,9,10] rfl<|Qw ?_
    have hpc:zm4 n k r=false:=by
     rw[Bool.eq_false_iff]
     intro hc
     simp only[zm4,Bool.and_eq_true,beq_iff_eq]at hc
     simp[hc.1,hc.2.1,hc.2.2]at h
    rw[hwi]
    refine Qr ((i+1,p,s))<|⟨by dsimp only;omega,by dsimp only;rw[e1,hpc,hp];simp,by dsimp only;rw[e2,hpc,hsm];simp⟩
  ·
   have hil:i=l.length:=by omega
   subst hil
   rw[List.take_length]at hp hsm
   subst hp hsm
   have hps:=zd3 hz n k
   clear h
   refine QN<|QK<|QK<|QQ<|Qw<|QC<|Yy 2 rfl<|QY rfl (zwi rfl (fun hg=>by omega))<|QE 1 [0,1,6,7,8] rfl<|QM<|Qw<|QC<|QE 3 [0,1,6,7,8] rfl<|Qw ?_
   rw[hwk]
   refine Qr (k+1) (by omega)
 ·
  refine QN<|QK<|QK<|QQ<|Qw<|QA<|QC<|QE 4 [4,5] rfl<|Qw<|QO<|z0h tok rfl ?_
  have hk8:k=8:=by omega
  subst hk8
  intro E w' hm _
  refine⟨?_,hm.below lr⟩
  rfl
/-! The last transaction's text of a block. -/
def zex(n:Int):List Record→List Record→Option ByteArray→Option ByteArray
 |[],_,acc=>acc
 |r::t,cur,acc=>if r.count=0 then zex n t (cur++[r]) acc else zex n t [] (if(z4a cur n 8).2=true then some (z4a cur n 8).1 else acc)
def zht(L:List Record):List Block:=mkF (fun n=>zex n L [] none) 0 64
theorem zne{l:List Record}{f i:Nat}{r:Record}(hf:f≤i)(h:l[i]? =some r):(l.drop f).take (i+1 - f)=(l.drop f).take (i - f)++[r]:=by
 rw[show i+1 - f=i - f+1 by omega]
 refine z0y ?_
 rw[List.getElem?_drop,show f+(i - f)=i by omega,h]
theorem zus(V:Vw)(sv:Value)(l0:List Record)(w:World)(hV:V.le (vw w))(hs0:SlOf V Record.cells 6 sv l0)(hn0:l0.length≤1000000)(hz0: ∀r∈l0,r.text.size≤256):
  Cl 42 #[sv] w (j96 (zht (l0.take (whole l0))) w):=by
 have hs00:=hs0.mono hV
 refine Qf [.a (.v sv)] Tryz.func42 rfl<|QA<|QC<|QE 1 [0] rfl<|Qw<|QA<|QC<|Yy 1 rfl<|Qv (zpl (l0.take (whole l0))) rfl j6z (fun hg E w1 hm=>by exact zz1 hm.leV (zp9 (vw w) _ l0 _ hm.leV hs00 hn0)) ?_
 rintro x V1 hle1 hx
 obtain⟨a,m,c,rfl,hs⟩:=hx rfl
 clear hx
 have hz: ∀r∈l0.take (whole l0),r.text.size≤256:=fun r hr=>hz0 r (List.mem_of_mem_take hr)
 have hn:(l0.take (whole l0)).length≤1000000:=by rw[List.length_take];omega
 generalize l0.take (whole l0)=l at*
 refine QE 1 [0] rfl<|Qw<|QA<|QC<|QE 1 [0,3] rfl<|Qw<|QA<|QA<|QC<|QE 1 [0,3,4] rfl<|Qw<|QJ<|z6l 3 93 2 rfl rfl ?_
 generalize hF:(fun n=>zex n l [] none)=f
 have e0:mkF f 0 0=[]:=rfl
 refine Ql [0] [0] rfl rfl (σ:=Nat) (fun n=>[(3, .a (.row 0)),(4, .a (.v (I n)))]) (fun n=>[(0, .row 93 2 (mkF f 0 n).length ((mkF f 0 n).flatMap Block.cells))]) (fun n=>n≤64) (fun n=>64 - n) (0) (by omega) ?_ (hs:=by repeat (first|exact z52.nil|refine z52.cons rfl ?_|refine z52.cons (by simp only[e0];first|done|rfl) ?_)) (hO:=by repeat (first|exact z3b.nil|refine z3b.cons rfl ?_|refine z3b.cons (by simp only[e0];first|done|rfl) ?_))
 rintro n hn64
 have hml:=zcg f n 0
 refine QA<|QA<|QC<|QE 2 [0,3,4,14] rfl<|Qw<|QX rfl (fun h=> ?_) fun h=> ?_
 ·
  refine QI<|Qw<|QA<|QJ<|QA<|QC<|Yy 3 rfl<|Qs rfl<|z07 [0,3,4,5] rfl<|Qw<|QA<|QC<|QE 1 [0,3,4,5,6] rfl<|Qw<|QA<|QC<|QE 1 [0,3,4,5,6,7] rfl<|Qw<|QA<|QA<|QC<|QE 1 [0,3,4,5,6,7,8] rfl<|Qw<|QJ ?_
  have hwn:IntKind.i64.wrap ((n:Int)+1)=((n+1:Nat):Int):=z06 (by omega) (by omega)
  have hfn:f n=zex n l [] none:=by rw[←hF]
  have hsn:=zha f n 0
  rw[Int.zero_add]at hsn
  refine Ql [0,3,4,5] [1] rfl rfl (σ:=Nat×Nat×Option ByteArray) (fun(i,q,acc)=>[(6, .a (.v (.bool acc.isSome))),(7, .a (.v (I q))),(8, .a (.v (I i)))]) (fun(i,q,acc)=>[(1, .lit [.v (I n), .v (S (acc.getD ByteArray.empty))] 93)]) (fun(i,q,acc)=>i≤l.length∧q≤i∧zex n (l.drop i) ((l.drop q).take (i - q)) acc=f n) (fun(i,q,acc)=>l.length - i) ((0,0,none)) (⟨by omega,by omega,by rw[hfn];rfl⟩) ?_
  rintro⟨i,q,acc⟩ ⟨hi,hq,hinv⟩
  dsimp only at hi hq hinv⊢
  refine QA<|QA<|QC<|Yy 2 rfl<|QY rfl (z0l tok rfl (fun hg=>hs.sl))<|QE 1 [0,3,4,5,6,7,8,22] rfl<|Qw<|QX rfl (fun h=> ?_) fun h=> ?_
  ·
   refine QI<|Qw<|QA<|QJ<|QA<|QA<|QC<|Yy 2 rfl ?_
   obtain⟨r,h_r⟩:=hs.at (k:=i) (by omega)
   have hwi:IntKind.i64.wrap ((i:Int)+1)=((i+1:Nat):Int):=z06 (by omega) (by omega)
   rw[z27 h_r,zex]at hinv
   have hlt_r:=z01 h_r
   refine QY rfl (z0c tok rfl (fun hg=>hs.sl) (fun hg=>⟨by omega,by omega⟩))<|QY rfl (z1f tok rfl (fun hg=>hs.sl) (fun hg=>by omega))<|QY rfl (z08 tok (i) 5 (r) rfl (fun hg=>hs) (fun hg=>h_r) rfl rfl)<|QE 1 [0,3,4,5,6,7,8,30] rfl<|Qw<|QX rfl (fun h=> ?_) fun h=> ?_
   ·
    refine QN<|QK<|QQ<|Qw<|QC<|QE 3 [0,3,4,5,6,7,8] rfl<|Qw ?_
    rw[if_pos h,←zne hq h_r]at hinv
    rw[hwi]
    refine Qr ((i+1,q,acc))<|⟨by dsimp only;omega,by dsimp only;omega,hinv⟩
   ·
    rw[if_neg h]at hinv
    clear h
    have hcut:=hs.cut (lo:=q) (hi:=i) hq (by omega)
    refine QI<|Qw<|QA<|QC<|Yy 3 rfl<|QY rfl (zo7 tok rfl (fun hg=>hs.sl) (fun hg=>by dsimp only[Option.getD];omega))<|Yy 1 rfl ?_
    rw[show((some (q:Int)).getD 0).toNat=q from rfl,show((some (i:Int)).getD (l.length:Int)).toNat=i from rfl]
    refine Qc (.a (.v _)) rfl j7x (fun hg E w1 hm=>by exact j3v V1 _ ((l.drop q).take (i - q)) n _ hm.leV hcut (by rw[List.length_take,List.length_drop];omega) (fun r hr=>hz r (List.mem_of_mem_drop (List.mem_of_mem_take hr)))) ?_
    refine QE 5 [0,3,4,5,6,8,9,10] rfl<|Qw<|QA<|QA<|QC<|QE 1 [0,3,4,5,6,8,9,40] rfl<|Qw<|Qn rfl (fun h=> ?_) fun h=> ?_
    generalize z4a ((l.drop q).take (i - q)) n 8=tx at*
    ·
     refine QA<|QC<|Yy 2 rfl<|Qs rfl<|z07 [0,3,4,5,8] rfl<|Qw<|QC<|QE 1 [0,3,4,5,6,8] rfl<|Qw<|QC<|QE 3 [0,3,4,5,6,7,8] rfl<|QM<|Qw<|QC<|QE 3 [0,3,4,5,6,7,8] rfl<|Qw ?_
     rw[if_pos h]at hinv
     rw[hwi]
     refine Qr ((i+1,i+1,some tx.1))<|⟨by dsimp only;omega,by dsimp only;omega,by dsimp only;rw[Nat.sub_self,List.take_zero];exact hinv⟩
    ·
     refine QI<|Qw<|QC<|QE 3 [0,3,4,5,6,7,8] rfl<|QM<|Qw<|QC<|QE 3 [0,3,4,5,6,7,8] rfl<|Qw ?_
     rw[if_neg (by simp[h])]at hinv
     rw[hwi]
     refine Qr ((i+1,i+1,acc))<|⟨by dsimp only;omega,by dsimp only;omega,by dsimp only;rw[Nat.sub_self,List.take_zero];exact hinv⟩
  ·
   have hil:i=l.length:=by omega
   subst hil
   rw[List.drop_length,zex]at hinv
   clear h
   rw[←hinv]at hsn
   refine QN<|QK<|QK<|QQ<|Qw<|QA<|QC<|QE 1 [0,3,4,5,45] rfl<|Qw<|Qn rfl (fun h=> ?_) fun h=> ?_
   ·
    refine QC<|Yy 2 rfl ?_
    obtain⟨t,rfl⟩:=Option.isSome_iff_exists.1 h
    clear h
    dsimp only[Option.getD]at hsn⊢
    have hx:=zsr (mkF f 0 n) ⟨n,t⟩
    rw[←hsn]at hx
    refine QZ rfl (z1q tok 2 rfl rfl rfl) fun _ _=>QZ rfl (z0g tok (Block.cells ⟨n,t⟩) rfl (fun E w hm=>z09 (hm.row _ _ _ _ _ rfl)) (fun _ _ _=>by simpa using zmx [⟨n,t⟩]) (by dsimp only;omega)) fun _ _=> ?_
    refine QE 1 [0,3,4] rfl<|QM<|Qw<|QC<|QE 3 [0,3,4] rfl<|Qw ?_
    rw[hx.1,hx.2,hwn]
    refine z00 0 3 rfl<|Qr (n+1) (by omega)
   ·
    refine QI<|QM<|Qw<|QC<|QE 3 [0,3,4] rfl<|Qw ?_
    have hnone:acc=none:=by simpa using h
    subst hnone
    rw[List.append_nil]at hsn
    rw[hwn,←hsn]
    refine Qr (n+1) (by omega)
 ·
  refine QN<|QK<|QK<|QQ<|Qw<|QA<|QC<|QE 2 [2] rfl<|Qw<|QO<|z0h tok rfl ?_
  have h64:n=64:=by omega
  subst h64
  have hsc:mkF f 0 64=zht l:=by rw[←hF];rfl
  rw[hsc]
  intro E w' hm _
  exact⟨⟨E.κ 0,rfl,hm.rowFresh hle1 (l:=0) rfl⟩,hm.below hle1⟩
end Go.Proofs.YtkoiogkdiifgfaaGreat
