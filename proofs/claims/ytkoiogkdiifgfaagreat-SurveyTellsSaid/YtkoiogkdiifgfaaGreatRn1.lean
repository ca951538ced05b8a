import Derived.Test.YtkoiogkdiifgfaaGreatMRp1
import Derived.Test.YtkoiogkdiifgfaaGreatEng39
/- A slot's journal of any device: the document's. -/
set_option linter.unusedVariables false
set_option linter.unusedSimpArgs false
set_option maxRecDepth 100000
namespace Go.Proofs.YtkoiogkdiifgfaaGreat
open Go Go.Eng Go.RowKit
theorem j37{g:Geo}(hG:z2y g=true){slot lsn:Int}(hh:0≤z1o g slot)(hl:0≤lsn):0≤z65 g slot lsn∧z65 g slot lsn<z5j g:=by
 have hf:=z0b hG
 have hz:=z2d hG
 have hs:0≤slot∧slot<g.slots:=by
  unfold z1o at hh
  split at hh
  · rename_i h;exact h.2
  · omega
 have hv:z1o g slot=1+2*g.nodes+g.log+slot*(1+g.journal):=by rw[z1o,if_pos ⟨hG,hs⟩]
 have hd:z2b g=1+2*g.nodes+g.log+g.slots*(1+g.journal):=rfl
 have h2:(slot+1)*(1+g.journal)≤g.slots*(1+g.journal):=Int.mul_le_mul_of_nonneg_right (by omega) (by omega)
 rw[Int.add_mul]at h2
 have he:=Int.emod_nonneg lsn (show g.journal≠0 by omega)
 have he2:=Int.emod_lt_of_pos lsn (show 0<g.journal by omega)
 have ht:z5j g=z2b g+g.blocks*g.per:=by rw[z5j,if_pos hG]
 rw[z65,if_neg (by omega)]
 omega
structure RowsOf(g:Geo)(slot key tail:Int)(D:List ByteArray)(A:List Record):Prop where
 geo:z2y g=true
 len:(D.length:Int)=z5j g
 hd:0≤z1o g slot
 tl0:0≤tail
 tl1:tail≤1099511627776
 few:(A.length:Int)≤g.journal
 sz: ∀s∈D,s.size≤maxLen
 at_: ∀(j:Nat) r,A[j]? =some r→ ∃s,D[(z65 g slot (tail+j)).toNat]? =some s∧isB s key (tail+j)=true∧isV s key (tail+j)=r
 rest:(A.length:Int)<g.journal→ ∃s,D[(z65 g slot (tail+A.length)).toNat]? =some s∧isB s key (tail+A.length)=false
theorem j2c{g:Geo}{slot key tail:Int}{D:List ByteArray}(hG:z2y g=true)(hlen:(D.length:Int)=z5j g)(hh:0≤z1o g slot)(h0:0≤tail)(h1:tail≤1099511627776)(hz: ∀s∈D,s.size≤maxLen):
  ∃A,RowsOf g slot key tail D A:=by
 have hf:=z0b hG
 have key1: ∀m:Nat,(m:Int)≤g.journal→ ∃A:List Record,A.length≤m∧(∀(j:Nat) r,A[j]? =some r→ ∃s,D[(z65 g slot (tail+j)).toNat]? =some s∧isB s key (tail+j)=true∧isV s key (tail+j)=r)∧
   (A.length<m→ ∃s,D[(z65 g slot (tail+A.length)).toNat]? =some s∧isB s key (tail+A.length)=false):=by
  intro m
  induction m with
  |zero=>intro _;exact⟨[],Nat.le_refl _,fun j r h=>by simp at h,fun h=>by simp at h⟩
  |succ m ih=>
   intro hm
   obtain⟨A,hA1,hA2,hA3⟩:=ih (by omega)
   by_cases hlt:A.length<m
   · exact⟨A,by omega,hA2,fun _=>hA3 hlt⟩
   ·
    have he:A.length=m:=by omega
    have hj:=j37 hG hh (lsn:=tail+A.length) (by omega)
    obtain⟨s,hs⟩:=atx (L:=D) (k:=(z65 g slot (tail+A.length)).toNat) (by omega)
    cases hb:isB s key (tail+A.length)with
    |false=>exact⟨A,by omega,hA2,fun _=>⟨s,hs,hb⟩⟩
    |true=>
     refine⟨A++[isV s key (tail+A.length)],by simp;omega,fun j r hr=> ?_,fun h=>by simp at h;omega⟩
     rw[List.getElem?_append]at hr
     split at hr
     · exact hA2 j r hr
     ·
      rename_i hge
      have hjA:j=A.length:=by
       have:=(List.getElem?_eq_some_iff.1 hr).1
       simp at this
       omega
      subst hjA
      simp at hr
      exact⟨s,hs,hb,hr⟩
 obtain⟨A,hA1,hA2,hA3⟩:=key1 g.journal.toNat (by omega)
 exact⟨A,hG,hlen,hh,h0,h1,by omega,hz,hA2,fun h=>hA3 (by omega)⟩
abbrev zev(a ca ka fa:Option Addr)(n c cn cc kn kc fn fc:Nat)(nx:Int):Value:= .agg #[.slice a n c, .slice ca cn cc, .slice ka kn kc,I nx, .slice fa fn fc]
theorem zvk(V:Vw)(g:Geo)(ok:g.Ok)(hG:z2y g=true)(slot:Int)(a ca ka fa:Option Addr)(n c cn cc kn kc fn fc:Nat)(nx:Int)(D:List ByteArray)(w:World)(hV:V.le (vw w))(hs0:SlOf V z1a 1 (.slice a n c) D)(hl:(D.length:Int)=z5j g):
  Rt 97 #[g.val,zev a ca ka fa n c cn cc kn kc fn fc nx,I slot] w (.bool (decide (0≤z1o g slot))):=by
 have hs:=hs0.mono hV
 refine Qf [.a (.v g.val), .a (.v (zev a ca ka fa n c cn cc kn kc fn fc nx)), .a (.v (I slot))] Tryz.func97 rfl<|QA<|QC<|QE 3 [2,3,4] rfl<|Qw<|QA<|z11 mixed (by kernel_rfl)<|Dm 1 rfl<|Qq (.a (.v _)) rfl z78 (fun hg E w1 hm=>by exact z3k g ok _) ?_
 refine Dm 3 rfl<|Qd rfl (z0l tok rfl (fun hg=>hs.sl))<|Dm 1 rfl<|Qq (.a (.v _)) rfl zk0 (fun hg E w1 hm=>by exact z6k g ok _) ?_
 refine Dm 5 rfl<|Qq (.a (.v _)) rfl zch (fun hg E w1 hm=>by exact z5k g ok slot _) ?_
 refine Dm 3 rfl<|z1z [6] rfl<|Qw<|QO<|Qb rfl fun E w' hm=>⟨?_,hm.below lr⟩
 rw[hG,hl]
 simp
 rfl
theorem j2p(V:Vw)(g:Geo)(ok:g.Ok)(slot key tail:Int)(D:List ByteArray)(A:List Record)(hJ:RowsOf g slot key tail D A)(a ca ka fa:Option Addr)(n c cn cc kn kc fn fc:Nat)(nx:Int)(w:World)(hV:V.le (vw w))(hs0:SlOf V z1a 1 (.slice a n c) D):
  Cl 63 #[g.val,zev a ca ka fa n c cn cc kn kc fn fc nx,I slot,I key,I tail] w (jar A w):=by
 have hs:=hs0.mono hV
 have hf:=z0b hJ.geo
 have hz:=z2d hJ.geo
 have h0:=hJ.tl0
 have h1:=hJ.tl1
 have hfew:=hJ.few
 have hln:=hJ.len
 have hhd:=hJ.hd
 refine Qf [.a (.v g.val), .a (.v (zev a ca ka fa n c cn cc kn kc fn fc nx)), .a (.v (I slot)), .a (.v (I key)), .a (.v (I tail))] Tryz.func63 rfl<|QA<|QC<|QE 3 [2,3,4,5,6] rfl<|Qw<|QA<|QC<|QE 1 [2,3,4,5,6,11] rfl<|Qw<|QA<|QA<|QC<|Yy 3 rfl<|Qc (.a (.v _)) rfl j7c (fun hg E w1 hm=>by exact zvk (vw w) g ok hJ.geo slot _ _ _ _ _ _ _ _ _ _ _ _ _ D _ hm.leV hs hJ.len) ?_
 refine QE 9 [2,3,4,5,6,11,27] rfl<|Qw<|QX rfl (fun h=> ?_) fun h=> ?_
 ·
  refine QA<|QC<|QE 1 [10] rfl<|Qw<|QO<|QL<|z0h tok rfl ?_
  exfalso
  omega
 ·
  clear h
  refine QI<|Qw<|QA<|QA<|QC<|QE 1 [2,3,4,5,6,11,12] rfl<|Qw<|QJ<|z6l 11 74 6 rfl rfl<|Ql [2,3,4,5,6] [2] rfl rfl (σ:=Nat) (fun i=>[(11, .a (.row 2)),(12, .a (.v (I i)))]) (fun i=>[(2, .row 74 6 (A.take i).length ((A.take i).flatMap Record.cells))]) (fun i=>i≤A.length) (fun i=>g.journal.toNat - i) (0) (by omega) ?_
  rintro i hi
  refine QA<|QA<|QC<|QE 4 [2,3,4,5,6,11,12,31] rfl<|Qw<|QX rfl (fun h=> ?_) fun h=> ?_
  ·
   have hwi:IntKind.i64.wrap ((i:Int)+1)=((i+1:Nat):Int):=z06 (by omega) (by omega)
   have hwt:IntKind.i64.wrap (tail+(i:Int))=tail+i:=z06 (by omega) (by omega)
   obtain⟨b,R,s,h_s,hsz,hb,hR,hcase⟩: ∃(b:Bool) (R:Record) (s:ByteArray),D[(z65 g slot (tail+i)).toNat]? =some s∧s.size≤maxLen∧isB s key (tail+i)=b∧isV s key (tail+i)=R∧((i<A.length∧b=true∧A[i]? =some R)∨(i=A.length∧b=false)):=by
    by_cases hlt:i<A.length
    ·
     obtain⟨r,hr⟩: ∃r,A[i]? =some r:=⟨_,List.getElem?_eq_getElem hlt⟩
     obtain⟨s,hs1,hs2,hs3⟩:=hJ.at_ i r hr
     exact⟨true,r,s,hs1,hJ.sz s (List.mem_of_getElem? hs1),hs2,hs3, .inl ⟨hlt,rfl,hr⟩⟩
    ·
     have hiA:i=A.length:=by omega
     obtain⟨s,hs1,hs2⟩:=hJ.rest (by omega)
     rw[←hiA]at hs1 hs2
     exact⟨false,_,s,hs1,hJ.sz s (List.mem_of_getElem? hs1),hs2,rfl, .inr ⟨hiA,rfl⟩⟩
   have hj0:=(j37 hJ.geo hJ.hd (lsn:=tail+i) (by omega)).1
   obtain⟨q,hq⟩: ∃q:Nat,z65 g slot (tail+i)=q:=⟨(z65 g slot (tail+i)).toNat,by omega⟩
   rw[hq,Int.toNat_natCast]at h_s
   have hqlt:=z01 h_s
   have hjc:=fun w=>zuo g ok slot (tail+i) w
   rw[hq,←hwt]at hjc
   have hisc:=fun w=>j3e s key (tail+i) hsz w
   rw[hb,hR,←hwt]at hisc
   refine QI<|Qw<|QA<|QJ<|QA<|zi0 (σ:=Unit) (fun _=>[(2, .a (.v (I slot))),(3, .a (.v (I key))),(4, .a (.v (I tail))),(5, .a (.ptr 0 0)),(6, .a (.ptr 1 0)),(11, .a (.row 2)),(12, .a (.v (I i))),(13, .a (.ptr 3 0)),(14, .a (.v (.bool b)))]) (fun _=>[(0, .lit (g.cells.map .v) 23),(1, .lit [.v (.slice a n c), .v (.slice ca cn cc), .v (.slice ka kn kc), .v (I nx), .v (.slice fa fn fc)] 28),(2, .row 74 6 (A.take i).length ((A.take i).flatMap Record.cells)),(3, .lit (R.cells.map .v) 74)]) (4) (fun _=>(vw w)) (fun _=>True) mixed ?_ ?_
   ·
    refine QT [0,1,2,3,4,5,6,10,11,12,13] rfl<|QS<|Qz 7 18 ?_ ?_
    ·
     refine Qh 7 (.a (.v (I (q:Int)))) rfl rfl zyc (fun hg E w1 hm=>by exact hjc _) ?_
     refine Qz 8 18 ?_ ?_
     ·
      refine Qy 8 rfl rfl (z14 tok q rfl (by simp) (fun hg=>hs.sl) (fun hg=>by omega))<|Qz 9 18 ?_ ?_
      ·
       refine Qy 9 rfl rfl (z08 (enc:=z1a) (l:=D) tok q 0 s rfl (fun hg=>hs) (fun hg=>h_s) (by simp) rfl)<|Qz 14 18 ?_ ?_
       ·
        refine Qh 14 (.a (.v (.tuple #[R.val, .bool b]))) rfl rfl zis (fun hg E w1 hm=>by exact hisc _) ?_
        refine Qz 15 18 ?_ ?_
        ·
         refine yH 15 rfl rfl rfl rfl rfl<|z3m 16 17 18 (by kernel_rfl) ?_ ?_ ?_
         ·
          refine yH 16 rfl rfl rfl rfl rfl<|Qz 17 18 ?_ ?_
          ·
           refine yH 17 rfl rfl rfl rfl rfl<|Qo 18<|Qk 18 rfl rfl rfl rfl<|Qo 19<|Qi 19 rfl<|Qx [20] rfl<|Qe [2,3,4,5,6,11,12,13,14] rfl ?_
           exact Qm () trivial
          ·
           refine Qk 18 rfl rfl rfl rfl<|Qz 17 19 ?_ ?_
           ·
            refine yH 17 rfl rfl rfl rfl rfl<|Qo 19<|Qi 19 rfl<|Qx [20] rfl<|Qe [2,3,4,5,6,11,12,13,14] rfl ?_
            exact Qm () trivial
           ·
            refine Qi 19 rfl<|Qx [17,20] rfl<|Qe [2,3,4,5,6,11,12,13,14] rfl ?_
            exact Qm () trivial
         ·
          refine yH 17 rfl rfl rfl rfl rfl<|Qz 16 18 ?_ ?_
          ·
           refine yH 16 rfl rfl rfl rfl rfl<|Qo 18<|Qk 18 rfl rfl rfl rfl<|Qo 19<|Qi 19 rfl<|Qx [20] rfl<|Qe [2,3,4,5,6,11,12,13,14] rfl ?_
           exact Qm () trivial
          ·
           refine Qk 18 rfl rfl rfl rfl<|Qx [16] rfl<|Qo 19<|Qi 19 rfl<|Qx [20] rfl<|Qe [2,3,4,5,6,11,12,13,14] rfl ?_
           exact Qm () trivial
         ·
          refine Qk 18 rfl rfl rfl rfl<|Qz 16 17 ?_ ?_
          ·
           refine yH 16 rfl rfl rfl rfl rfl<|Qz 17 19 ?_ ?_
           ·
            refine yH 17 rfl rfl rfl rfl rfl<|Qo 19<|Qi 19 rfl<|Qx [20] rfl<|Qe [2,3,4,5,6,11,12,13,14] rfl ?_
            exact Qm () trivial
           ·
            refine Qi 19 rfl<|Qx [17,20] rfl<|Qe [2,3,4,5,6,11,12,13,14] rfl ?_
            exact Qm () trivial
          ·
           refine yH 17 rfl rfl rfl rfl rfl<|Qx [16] rfl<|Qo 19<|Qi 19 rfl<|Qx [20] rfl<|Qe [2,3,4,5,6,11,12,13,14] rfl ?_
           exact Qm () trivial
        ·
         refine Qk 18 rfl rfl rfl rfl<|Qx [15] rfl<|Qz 16 17 ?_ ?_
         ·
          refine yH 16 rfl rfl rfl rfl rfl<|Qz 17 19 ?_ ?_
          ·
           refine yH 17 rfl rfl rfl rfl rfl<|Qo 19<|Qi 19 rfl<|Qx [20] rfl<|Qe [2,3,4,5,6,11,12,13,14] rfl ?_
           exact Qm () trivial
          ·
           refine Qi 19 rfl<|Qx [17,20] rfl<|Qe [2,3,4,5,6,11,12,13,14] rfl ?_
           exact Qm () trivial
         ·
          refine yH 17 rfl rfl rfl rfl rfl<|Qx [16] rfl<|Qo 19<|Qi 19 rfl<|Qx [20] rfl<|Qe [2,3,4,5,6,11,12,13,14] rfl ?_
          exact Qm () trivial
       ·
        refine Qk 18 rfl rfl rfl rfl<|Qo 14<|Qh 14 (.a (.v (.tuple #[R.val, .bool b]))) rfl rfl zis (fun hg E w1 hm=>by exact hisc _) ?_
        refine Qx [15] rfl<|Qz 16 17 ?_ ?_
        ·
         refine yH 16 rfl rfl rfl rfl rfl<|Qz 17 19 ?_ ?_
         ·
          refine yH 17 rfl rfl rfl rfl rfl<|Qo 19<|Qi 19 rfl<|Qx [20] rfl<|Qe [2,3,4,5,6,11,12,13,14] rfl ?_
          exact Qm () trivial
         ·
          refine Qi 19 rfl<|Qx [17,20] rfl<|Qe [2,3,4,5,6,11,12,13,14] rfl ?_
          exact Qm () trivial
        ·
         refine yH 17 rfl rfl rfl rfl rfl<|Qx [16] rfl<|Qo 19<|Qi 19 rfl<|Qx [20] rfl<|Qe [2,3,4,5,6,11,12,13,14] rfl ?_
         exact Qm () trivial
      ·
       refine Qk 18 rfl rfl rfl rfl<|Qo 9<|Qy 9 rfl rfl (z08 (enc:=z1a) (l:=D) tok q 0 s rfl (fun hg=>hs) (fun hg=>h_s) (by simp) rfl)<|Qo 14<|Qh 14 (.a (.v (.tuple #[R.val, .bool b]))) rfl rfl zis (fun hg E w1 hm=>by exact hisc _) ?_
       refine Qx [15] rfl<|Qz 16 17 ?_ ?_
       ·
        refine yH 16 rfl rfl rfl rfl rfl<|Qz 17 19 ?_ ?_
        ·
         refine yH 17 rfl rfl rfl rfl rfl<|Qo 19<|Qi 19 rfl<|Qx [20] rfl<|Qe [2,3,4,5,6,11,12,13,14] rfl ?_
         exact Qm () trivial
        ·
         refine Qi 19 rfl<|Qx [17,20] rfl<|Qe [2,3,4,5,6,11,12,13,14] rfl ?_
         exact Qm () trivial
       ·
        refine yH 17 rfl rfl rfl rfl rfl<|Qx [16] rfl<|Qo 19<|Qi 19 rfl<|Qx [20] rfl<|Qe [2,3,4,5,6,11,12,13,14] rfl ?_
        exact Qm () trivial
     ·
      refine Qk 18 rfl rfl rfl rfl<|Qo 8<|Qy 8 rfl rfl (z14 tok q rfl (by simp) (fun hg=>hs.sl) (fun hg=>by omega))<|Qo 9<|Qy 9 rfl rfl (z08 (enc:=z1a) (l:=D) tok q 0 s rfl (fun hg=>hs) (fun hg=>h_s) (by simp) rfl)<|Qo 14<|Qh 14 (.a (.v (.tuple #[R.val, .bool b]))) rfl rfl zis (fun hg E w1 hm=>by exact hisc _) ?_
      refine Qx [15] rfl<|Qz 16 17 ?_ ?_
      ·
       refine yH 16 rfl rfl rfl rfl rfl<|Qz 17 19 ?_ ?_
       ·
        refine yH 17 rfl rfl rfl rfl rfl<|Qo 19<|Qi 19 rfl<|Qx [20] rfl<|Qe [2,3,4,5,6,11,12,13,14] rfl ?_
        exact Qm () trivial
       ·
        refine Qi 19 rfl<|Qx [17,20] rfl<|Qe [2,3,4,5,6,11,12,13,14] rfl ?_
        exact Qm () trivial
      ·
       refine yH 17 rfl rfl rfl rfl rfl<|Qx [16] rfl<|Qo 19<|Qi 19 rfl<|Qx [20] rfl<|Qe [2,3,4,5,6,11,12,13,14] rfl ?_
       exact Qm () trivial
    ·
     refine Qk 18 rfl rfl rfl rfl<|Qo 7<|Qh 7 (.a (.v (I (q:Int)))) rfl rfl zyc (fun hg E w1 hm=>by exact hjc _) ?_
     refine Qo 8<|Qy 8 rfl rfl (z14 tok q rfl (by simp) (fun hg=>hs.sl) (fun hg=>by omega))<|Qo 9<|Qy 9 rfl rfl (z08 (enc:=z1a) (l:=D) tok q 0 s rfl (fun hg=>hs) (fun hg=>h_s) (by simp) rfl)<|Qo 14<|Qh 14 (.a (.v (.tuple #[R.val, .bool b]))) rfl rfl zis (fun hg E w1 hm=>by exact hisc _) ?_
     refine Qx [15] rfl<|Qz 16 17 ?_ ?_
     ·
      refine yH 16 rfl rfl rfl rfl rfl<|Qz 17 19 ?_ ?_
      ·
       refine yH 17 rfl rfl rfl rfl rfl<|Qo 19<|Qi 19 rfl<|Qx [20] rfl<|Qe [2,3,4,5,6,11,12,13,14] rfl ?_
       exact Qm () trivial
      ·
       refine Qi 19 rfl<|Qx [17,20] rfl<|Qe [2,3,4,5,6,11,12,13,14] rfl ?_
       exact Qm () trivial
     ·
      refine yH 17 rfl rfl rfl rfl rfl<|Qx [16] rfl<|Qo 19<|Qi 19 rfl<|Qx [20] rfl<|Qe [2,3,4,5,6,11,12,13,14] rfl ?_
      exact Qm () trivial
   rintro⟨⟩ -
   refine Qw<|QA<|QA<|QC<|QE 2 [2,3,4,5,6,11,12,13,53] rfl<|Qw<|Qn rfl (fun h=> ?_) fun h=> ?_
   ·
    refine QN<|QK<|z4p rfl<|QK<|QK<|QQ<|Qw<|QA<|QC<|QE 2 [10] rfl<|Qw<|QO<|z0h tok rfl ?_
    rcases hcase with⟨_,hb2,_⟩|⟨hiA,_⟩
    · rw[hb2]at h;simp at h
    ·
     have hA:A.take i=A:=List.take_of_length_le (by omega)
     rw[hA]
     intro E w' hm _
     exact⟨⟨E.κ 2,rfl,hm.rowFresh lr (l:=2) rfl⟩,hm.below lr⟩
   ·
    rcases hcase with⟨hlt,hb2,hRA⟩|⟨_,hb2⟩
    ·
     have htk:=z7v hRA
     have hx:(A.take i).length+1=(A.take (i+1)).length∧(A.take i).flatMap Record.cells++R.cells=(A.take (i+1)).flatMap Record.cells:=by rw[htk];simp
     have hti:(A.take i).length=i:=by rw[List.length_take];omega
     refine QI<|Qw<|QC<|Yy 2 rfl<|QZ rfl (z1q tok 6 rfl rfl rfl) fun _ _=>QZ rfl (z0g tok R.cells rfl (fun E w hm=>z09 (hm.row _ _ _ _ _ rfl)) (fun _ _ _=>by simpa using zhb [R]) (by dsimp only;omega)) fun _ _=> ?_
     refine QE 1 [2,3,4,5,6,11,12] rfl<|QM<|Qw<|QC<|QE 3 [2,3,4,5,6,11,12] rfl<|Qw ?_
     rw[hx.1,hx.2,hwi]
     refine z00 2 5 rfl<|Qr (i+1) (by omega)
    · rw[hb2]at h;simp at h
  ·
   refine QN<|QK<|QK<|QQ<|Qw<|QA<|QC<|QE 2 [10] rfl<|Qw<|QO<|z0h tok rfl ?_
   have hA:A.take i=A:=List.take_of_length_le (by omega)
   rw[hA]
   intro E w' hm _
   exact⟨⟨E.κ 2,rfl,hm.rowFresh lr (l:=2) rfl⟩,hm.below lr⟩
end Go.Proofs.YtkoiogkdiifgfaaGreat
