import Derived.Test.YtkoiogkdiifgfaaGreatMSc1
import Derived.Test.YtkoiogkdiifgfaaGreatEng40
import Derived.Test.YtkoiogkdiifgfaaGreatEng31
/- A transaction's pieces, by block: what the program keeps and what the document tells. -/
set_option linter.unusedVariables false
set_option linter.unusedSimpArgs false
set_option maxRecDepth 100000
namespace Go.Proofs.YtkoiogkdiifgfaaGreat
open Go Go.Eng Go.RowKit
def frS(f:Int→Option (List ByteArray))(r:Record):Int→Option (List ByteArray):=if 0≤r.k∧r.k<8 then pcS f r.block r.k r.text else f
def frT(l:List Record):Int→Option (List ByteArray):=l.foldl frS (fun _=>none)
theorem z8i(l:List Record)(r:Record):frT (l++[r])=frS (frT l) r:=by simp[frT]
def zk9(T F:Int→Option (List ByteArray)):Int→Option (List ByteArray):=fun n=>match F n with
 |some p=>some p
 |none=>T n
def zxo:List Record→List Record→(Int→Option (List ByteArray))→(Int→Option (List ByteArray))
 |[],_,T=>T
 |r::t,cur,T=>if r.count=0 then zxo t (cur++[r]) T else zxo t [] (zk9 T (frT cur))
def zf0(p:List ByteArray):ByteArray:=p.foldl (· ++ ·) ByteArray.empty
abbrev pcL(l:List Record)(n:Int):List ByteArray:=[z5q l n 0,z5q l n 1,z5q l n 2,z5q l n 3,z5q l n 4,z5q l n 5,z5q l n 6,z5q l n 7]
abbrev pcA(l:List Record)(n:Int):Bool:=z98 l n 0||z98 l n 1||z98 l n 2||z98 l n 3||z98 l n 4||z98 l n 5||z98 l n 6||z98 l n 7
theorem j8c(l:List Record)(n:Int):z4a l n 8=(zf0 (pcL l n),pcA l n):=by
 simp[z4a,zf0,pcL,pcA]
theorem zt2: ∀(m:Nat) (l:List Record),l.length=m→(∀r∈l,r.count=0)→ ∀n,frT l n=(if pcA l n=true then some (pcL l n)else none)∧(pcA l n=false→pcL l n=no8)
 |0,l,hm,_,n=>by
  have:l=[]:=List.length_eq_zero_iff.1 hm
  subst this
  exact⟨rfl,fun _=>rfl⟩
 |m+1,l,hm,hz,n=>by
  obtain⟨l0,r,rfl⟩: ∃l0 r,l=l0++[r]:=⟨l.dropLast,l.getLast (by intro h;rw[h]at hm;simp at hm),(List.dropLast_concat_getLast _).symm⟩
  have hm0:l0.length=m:=by simpa using hm
  obtain⟨h1,h2⟩:=zt2 m l0 hm0 (fun x hx=>hz x (by simp[hx])) n
  have hr0:r.count=0:=hz r (by simp)
  rw[z8i,frS]
  by_cases hk:0≤r.k∧r.k<8
  ·
   rw[if_pos hk,pcS]
   by_cases hn:n=r.block
   ·
    subst hn
    rw[if_pos rfl]
    have hgd:(frT l0 r.block).getD no8=pcL l0 r.block:=by
     rw[h1]
     cases hq:pcA l0 r.block with
     |true=>rfl
     |false=>rw[if_neg (by simp)];exact(h2 hq).symm
    rw[hgd]
    have hk8:r.k=0∨r.k=1∨r.k=2∨r.k=3∨r.k=4∨r.k=5∨r.k=6∨r.k=7:=by omega
    have ha:pcA (l0++[r]) r.block=true:=by
     rcases hk8 with h|h|h|h|h|h|h|h<;>simp[pcA,z8e,zm4,h,hr0]
    refine⟨?_,fun h=>by rw[ha]at h;cases h⟩
    rw[if_pos ha]
    congr 1
    rcases hk8 with h|h|h|h|h|h|h|h<;>simp[pcL,z6q,zm4,h,hr0]
   ·
    rw[if_neg hn]
    have hbn:(r.block==n)=false:=beq_eq_false_iff_ne.2 (fun e=>hn e.symm)
    have e1:pcL (l0++[r]) n=pcL l0 n:=by simp only[pcL,z6q,zm4,hbn,Bool.false_and,Bool.and_false,Bool.false_eq_true,if_false]
    have e2:pcA (l0++[r]) n=pcA l0 n:=by simp only[pcA,z8e,zm4,hbn,Bool.false_and,Bool.and_false,Bool.or_false]
    rw[e1,e2]
    exact⟨h1,h2⟩
  ·
   rw[if_neg hk]
   have n0:(r.k==0)=false:=beq_eq_false_iff_ne.2 (by omega)
   have n1:(r.k==1)=false:=beq_eq_false_iff_ne.2 (by omega)
   have n2:(r.k==2)=false:=beq_eq_false_iff_ne.2 (by omega)
   have n3:(r.k==3)=false:=beq_eq_false_iff_ne.2 (by omega)
   have n4:(r.k==4)=false:=beq_eq_false_iff_ne.2 (by omega)
   have n5:(r.k==5)=false:=beq_eq_false_iff_ne.2 (by omega)
   have n6:(r.k==6)=false:=beq_eq_false_iff_ne.2 (by omega)
   have n7:(r.k==7)=false:=beq_eq_false_iff_ne.2 (by omega)
   have e1:pcL (l0++[r]) n=pcL l0 n:=by simp only[pcL,z6q,zm4,n0,n1,n2,n3,n4,n5,n6,n7,Bool.and_false,Bool.false_eq_true,if_false]
   have e2:pcA (l0++[r]) n=pcA l0 n:=by simp only[pcA,z8e,zm4,n0,n1,n2,n3,n4,n5,n6,n7,Bool.and_false,Bool.or_false]
   rw[e1,e2]
   exact⟨h1,h2⟩
theorem zh1(n:Int): ∀(l cur:List Record) (T:Int→Option (List ByteArray)),(∀r∈cur,r.count=0)→(zxo l cur T n).map zf0=zex n l cur ((T n).map zf0)
 |[],_,_,_=>rfl
 |r::t,cur,T,hz=>by
  rw[zxo,zex]
  by_cases hc:r.count=0
  ·
   rw[if_pos hc,if_pos hc]
   exact zh1 n t _ T (fun x hx=>by
    rcases List.mem_append.1 hx with h|h
    · exact hz x h
    · simp only[List.mem_singleton]at h;rw[h];exact hc)
  ·
   rw[if_neg hc,if_neg hc,zh1 n t [] _ (fun x hx=>by simp at hx)]
   congr 1
   obtain⟨h1,_⟩:=zt2 _ cur rfl hz n
   rw[j8c,zk9,h1]
   cases hq:pcA cur n with
   |true=>simp
   |false=>simp
theorem zw8(L:List Record):zht L=mkF (fun n=>(zxo L [] (fun _=>none) n).map zf0) 0 64:=by
 rw[zht]
 congr 1
 funext n
 exact(zh1 n L [] (fun _=>none) (fun x hx=>absurd hx List.not_mem_nil)).symm
theorem znd{ty:Nat}{V0 V V':Vw}{es:List (Int×Value)}{T:Int→Option (List ByteArray)}(h:MpF ty V0 V es T)(hle:V.le V'):MpF ty V0 V' es T:=⟨h.r.mono hle,h.fresh,h.inj,h.nodup⟩
theorem zun(q:List ByteArray)(k:Nat)(t:ByteArray):(q.map Value.string).toArray.setIfInBounds (0+k) (.string t)=((q.set k t).map Value.string).toArray:=by
 rw[Nat.zero_add]
 apply Array.ext'
 simp
theorem zyh: ∀D:List ByteArray,D.flatMap z1a=D.map Value.string
 |[]=>rfl
 |x::r=>by rw[List.flatMap_cons,zyh r];rfl
theorem slP{V:Vw}{b ty:Nat}{p:List ByteArray}(hb:V.get b=some (zl9 ty p))(hp:p.length=8):SlOf V z1a 1 (slV b) p:=by
 have:=SlOf.ofBlock (enc:=z1a) (sz:=1) (l:=p) (c:=8) hb (zyh p).symm (fun _=>rfl) (by omega)
 rw[hp]at this
 exact this
theorem zsj{f:Int→Option (List ByteArray)}{r:Record}(hf: ∀n p,f n=some p→ ∀s∈p,s.size≤256)(hr:r.text.size≤256): ∀n p,frS f r n=some p→ ∀s∈p,s.size≤256:=by
 intro n p hp s hs
 rw[frS]at hp
 split at hp
 ·
  rw[pcS]at hp
  split at hp
  ·
   cases hp
   rcases List.mem_or_eq_of_mem_set hs with h|h
   ·
    cases hq:f n with
    |none=>
     rw[hq]at h
     have:=List.eq_of_mem_replicate h
     subst this
     decide
    |some p0=>rw[hq]at h;exact hf n p0 hq s h
   · rw[h];exact hr
  · exact hf n p hp s hs
 · exact hf n p hp s hs
theorem zih: ∀(m:Nat) (l:List Record),l.length=m→(∀r∈l,r.text.size≤256)→ ∀n p,frT l n=some p→ ∀s∈p,s.size≤256
 |0,l,hm,_,n,p,hp=>by
  have:l=[]:=List.length_eq_zero_iff.1 hm
  subst this
  cases hp
 |m+1,l,hm,hz,n,p,hp=>by
  obtain⟨l0,r,rfl⟩: ∃l0 r,l=l0++[r]:=⟨l.dropLast,l.getLast (by intro h;rw[h]at hm;simp at hm),(List.dropLast_concat_getLast _).symm⟩
  rw[z8i]at hp
  exact zsj (zih m l0 (by simpa using hm) (fun x hx=>hz x (by simp[hx]))) (hz r (by simp)) n p hp
theorem zsh{m j:Nat}{seen:Array Nat}(hj:j<m)(hn: ¬j∈seen):((List.range m).countP fun i=> !(seen.push j).contains i)<(List.range m).countP fun i=> !seen.contains i:=by
 have h1: ∀i,(!(seen.push j).contains i)=true→(!seen.contains i)=true:=fun i h=>by
  simp at h⊢
  exact fun h2=>h.1 h2
 obtain⟨A,B,hAB⟩:=List.append_of_mem (List.mem_range.2 hj)
 rw[hAB,List.countP_append,List.countP_append,List.countP_cons,List.countP_cons]
 have e1:=List.countP_mono_left (l:=A) (p:=fun i=> !(seen.push j).contains i) (q:=fun i=> !seen.contains i) (fun i _=>h1 i)
 have e2:=List.countP_mono_left (l:=B) (p:=fun i=> !(seen.push j).contains i) (q:=fun i=> !seen.contains i) (fun i _=>h1 i)
 have e3:(!(seen.push j).contains j)=false:=by simp
 have e4:(!seen.contains j)=true:=by simpa using hn
 rw[e3,e4]
 simp only[Bool.false_eq_true,if_false,if_true]
 omega
theorem zsu(V:Vw)(a:Option Addr)(n c:Nat)(l:List Record)(w:World)(hV:V.le (vw w))(hs0:SlOf V Record.cells 6 (.slice a n c) l)(hn:l.length≤1000000)(hz: ∀r∈l,r.text.size≤256):
  Cl 39 #[.slice a n c] w (j96 (zht (l.take (whole l))) w):=by
 have hs:=hs0.mono hV
 have hwle:=za6 l
 have hwc:=fun w1 hV1=>zo0 (vw w) a n c l w1 hV1 hs hn
 have hsL0:=zts hs hwle
 obtain⟨L,hL⟩: ∃L,l.take (whole l)=L:=⟨_,rfl⟩
 have hzL: ∀r∈L,r.text.size≤256:=fun r hr=>hz r (List.mem_of_mem_take (hL▸hr))
 have hmL:L.length=whole l:=by rw[←hL,List.length_take];omega
 rw[hL]at hsL0⊢
 generalize whole l=m at hwc hsL0 hmL hwle hL
 subst hmL
 refine Qf [.a (.v (.slice a n c))] Tryz.func39 rfl<|QA<|QC<|QE 1 [0,2] rfl<|Qw<|zs9<|QA<|QC<|QZ rfl (zn6 rfl) fun mt hmt=> ?_
 have hle0: ∀es,(vw w).le ((vw w).put mt (z4z es)):=fun es=>Vw.put_le lr hmt
 refine QE 2 [0,2,3,4] rfl<|Qw<|QA<|QC<|Yy 1 rfl<|Qc (.a (.v _)) rfl zyr (fun hg E w1 hm=>by exact hwc _ ((hle0 _).trans hm.leV)) ?_
 refine QE 1 [2,3,4,5] rfl<|Qw<|QA<|zu6<|Qw<|QA<|QA<|QC<|Yy 1 rfl<|QY rfl (z0l tok rfl (fun hg=>(hsL0.mono (hle0 _)).sl))<|QE 1 [2,3,4,5,17,18,19] rfl<|Qw<|QJ<|Lv [2,3,5,17,18] [] rfl rfl (σ:=Nat×Nat×List (Int×Value)×(Int→Option (List ByteArray))×Vw) (fun(i,f,es,T,Z)=>[(4, .a (.v (I f))),(19, .a (.v (I i)))]) (fun(i,f,es,T,Z)=>[]) (fun(i,f,es,T,Z)=>Z) (fun(i,f,es,T,Z)=>(i≤L.length∧f≤i∧(vw w).le Z∧Z.get mt=some (z4z es)∧MpR 9 Z es T∧zxo L [] (fun _=>none)=zxo (L.drop i) ((L.drop f).take (i - f)) T∧(∀n p,T n=some p→ ∀s∈p,s.size≤256))) (fun(i,f,es,T,Z)=>L.length - i) ((0,0,[],fun _=>none,(vw w).put mt (z4z []))) (⟨by omega,by omega,hle0 _,Vw.put_get _ _ _,⟨fun _ _=>rfl,fun _ _ h=>(by cases h)⟩,rfl,fun _ _ h=>(by cases h)⟩) ?_
 rintro⟨i,f,es,T,Z⟩ ⟨hi,hfi,hZ,hmtZ,hT,hblk,hTz⟩
 dsimp only at hi hfi hZ hmtZ hT hblk hTz⊢
 refine QA<|QC<|QE 1 [2,3,4,5,17,18,19,20] rfl<|Qw<|QA<|QX rfl (fun h=> ?_) fun h=> ?_
 ·
  obtain⟨r,h_r⟩:=atx (L:=L) (k:=i) (by omega)
  have hlti:=z01 h_r
  clear h
  have hsLZ:=hsL0.mono hZ
  have hdrop:L.drop i=r::L.drop (i+1):=z27 h_r
  have hwi:IntKind.i64.wrap ((i:Int)+1)=((i+1:Nat):Int):=z06 (by omega) (by omega)
  rw[hdrop,zxo]at hblk
  refine QI<|Qw<|QA<|QJ<|QA<|QC<|Yy 1 rfl ?_
  have hlt_r:=z01 h_r
  refine QY rfl (z0c tok rfl (fun hg=>hsLZ.sl) (fun hg=>⟨by omega,by omega⟩))<|QY rfl (z08 tok (i) 0 (r) rfl (fun hg=>hsLZ) (fun hg=>h_r) rfl rfl)<|Yy 2 rfl<|Qs rfl<|z07 [2,3,4,5,6,7,17,18,19] rfl<|Qw<|QA<|QA<|QC<|QE 3 [2,3,4,5,6,17,18,19,26] rfl<|Qw<|QX rfl (fun h=> ?_) fun h=> ?_
  ·
   refine QN<|QK<|QQ<|Qw<|QC<|QE 2 [2,3,4,5,17,18,19] rfl<|Qw ?_
   rw[if_pos h,←zne hfi h_r]at hblk
   rw[hwi]
   refine Qr ((i+1,f,es,T,Z))<|⟨by dsimp only;omega,by dsimp only;omega,hZ,hmtZ,hT,hblk,hTz⟩
  ·
   rw[if_neg h]at hblk
   clear h
   have hcut0:=hsLZ.cut (lo:=f) (hi:=i) hfi (by omega)
   obtain⟨cur,hcur⟩: ∃cur,(L.drop f).take (i - f)=cur:=⟨_,rfl⟩
   have hcn:cur.length≤1000000:=by rw[←hcur,List.length_take,List.length_drop];omega
   have hcz: ∀r∈cur,r.text.size≤256:=fun r hr=>hzL r (List.mem_of_mem_drop (List.mem_of_mem_take (hcur▸hr)))
   rw[hcur]at hcut0 hblk
   refine QI<|Qw<|QA<|QC<|Yy 4 rfl<|QY rfl (zo7 tok rfl (fun hg=>hsLZ.sl) (fun hg=>by dsimp only[Option.getD];omega)) ?_
   rw[show((some (f:Int)).getD 0).toNat=f from rfl,show((some (i:Int)).getD (L.length:Int)).toNat=i from rfl]
   obtain⟨xa,xn,xc,hX⟩: ∃xa xn xc,z0n (.slice a L.length L.length) f i 6= .slice xa xn xc:=⟨_,_,_,rfl⟩
   rw[hX]at hcut0⊢
   refine zh8 rfl rfl rfl rfl rfl j6p Tryz.func74 rfl rfl rfl fun E=>QA<|QC<|QZ rfl (zn6 rfl) fun mf hmf=> ?_
   have hlef: ∀es,Z.le (Z.put mf (z4z es)):=fun es=>Vw.put_le lr hmf
   refine QE 1 [0,1,4] rfl<|Qw<|QA<|QA<|QC<|Yy 1 rfl<|QY rfl (z0l tok rfl (fun hg=>(hcut0.mono (hlef _)).sl))<|QE 1 [0,4,11,12,13] rfl<|Qw<|QJ<|Lv [0,4,11,12] [] rfl rfl (σ:=Nat×List (Int×Value)×Vw) (fun(k,ef,Y)=>[(13, .a (.v (I k)))]) (fun(k,ef,Y)=>[]) (fun(k,ef,Y)=>Y) (fun(k,ef,Y)=>(k≤cur.length∧Z.le Y∧Y.get mf=some (z4z ef)∧MpF 9 Z Y ef (frT (cur.take k)))) (fun(k,ef,Y)=>cur.length - k) ((0,[],Z.put mf (z4z []))) (⟨by omega,hlef _,Vw.put_get _ _ _,⟨⟨fun _ _=>rfl,fun _ _ h=>(by cases h)⟩,fun _ _ h=>(by cases h),fun _ _ _ h=>(by cases h),List.nodup_nil⟩⟩) ?_
   rintro⟨k,ef,Y⟩ ⟨hk,hZY,hYmf,hF⟩
   dsimp only at hk hZY hYmf hF⊢
   refine QA<|QC<|QE 1 [0,4,11,12,13,14] rfl<|Qw<|QA<|QX rfl (fun h=> ?_) fun h=> ?_
   ·
    obtain⟨x,h_x⟩:=atx (L:=cur) (k:=k) (by omega)
    have hltk:=z01 h_x
    clear h
    have hcutY:=hcut0.mono hZY
    have hwk:IntKind.i64.wrap ((k:Int)+1)=((k+1:Nat):Int):=z06 (by omega) (by omega)
    cases hTx:frT (cur.take k) x.block with
    |none=>
     refine QI<|Qw<|QA<|QJ<|QA<|QC ?_
     have hlt_x:=z01 h_x
     refine QY rfl (z0c tok rfl (fun hg=>hcutY.sl) (fun hg=>⟨by omega,by omega⟩))<|QY rfl (z08 tok (k) 0 (x) rfl (fun hg=>hcutY) (fun hg=>h_x) rfl rfl)<|Yy 1 rfl<|Qs rfl<|z07 [0,4,6,11,12,13] rfl<|Qw<|QA<|QC<|Yy 3 rfl<|QY rfl (zyt ef (.slice none 0 0) rfl Tryz.underlying122 Tryz.underlying3 (fun w=>Tryz.zeroValue24 w) (fun hg=>hYmf) (fun hg=>by rw[hF.r.none_ _ hTx];rfl)) ?_
     refine QE 1 [0,4,6,7,11,12,13] rfl<|Qw<|QA<|QA<|QC<|Yy 1 rfl<|QY rfl (z60 (.bool true) rfl (fun E w=>zqf 0 0 Tryz.underlying24 w))<|z07 [0,4,6,7,11,12,13,22] rfl<|Qw<|Qn rfl (fun h=> ?_) fun h=> ?_
     ·
      refine QC<|QZ rfl (ja1 tok 8 8 rfl rfl rfl (by decide) (by decide) (by decide)) fun b hbY=> ?_
      obtain⟨Vp,hVpe⟩: ∃Vp,Vp=Y.put b (zl9 9 no8):=⟨_,rfl⟩
      have hVpe2:Y.put b (.cells (z6z 8 [.string ByteArray.empty]).toArray 9 (0,0))=Vp:=hVpe.symm
      have hVp:Y.le Vp:=by rw[hVpe];exact Vw.put_le lr hbY
      have hbq:Vp.get b=some (zl9 9 no8):=by rw[hVpe];exact Vw.put_get _ _ _
      have hb0:Z.get b=none:=by
       cases hq:Z.get b with
       |none=>rfl
       |some o=>have:=hZY.get _ _ hq;rw[hbY]at this;cases this
      have hmfb:mf≠b:=fun e=>by rw[←e,hYmf]at hbY;cases hbY
      have hq8:no8.length=8:=rfl
      have hcase:(frT (cur.take k) x.block=some no8∧z1u ef x.block=some (slV b))∨(frT (cur.take k) x.block=none∧no8=no8∧Y.get b=none):= .inr ⟨hTx,rfl,hbY⟩
      have hpnil:True:=trivial
      rw[hVpe2]
      refine QE 1 [0,4,6,7,11,12,13] rfl<|Qw<|QA<|QC<|Yy 7 rfl ?_
      clear hpnil
      have hspV:z7i Vp (slV b) 1 8 (no8.flatMap z1a):=by
       have:=(slP hbq hq8).sl
       rwa [hq8]at this
      refine QY rfl (z8n tok rfl)<|QE 2 [0,4,6,7,11,12,13,33] rfl<|Qw<|QX rfl (fun h=> ?_) fun h=> ?_
      ·
       refine QA<|QC<|Yy 5 rfl ?_
       have hk8:x.k.toNat<8:=by omega
       refine QY rfl (z14 tok x.k.toNat rfl (by simp) (fun hg=>hspV) (fun hg=>by omega))<|z2q rfl rfl rfl rfl (j6f tok (b:=b) (off:=0) rfl hbq (by simp;omega) (.inl (Nat.zero_le _)) rfl) fun _ _=> ?_
       refine z07 [0,4,6,7,11,12,13] rfl<|Qw<|QC<|Yy 4 rfl ?_
       rw[zun]
       refine z2q rfl rfl rfl rfl (zgy ef rfl rfl Tryz.underlying122 Tryz.underlying3 ((Vw.put_other _ _ hmfb).trans (hVp.get _ _ hYmf))) fun _ _=>z07 [0,4,11,12,13] rfl<|QM<|Qw<|QC<|QE 2 [0,4,11,12,13] rfl<|Qw ?_
       obtain⟨hs1,hs2⟩:=zqa (blk:=x.block) (k:=x.k) (t:=x.text) hF hZY hVp hYmf hmf hbq hq8 hb0 hcase
       have hfr:frT (cur.take (k+1))=pcS (frT (cur.take k)) x.block x.k x.text:=by rw[z7v h_x,z8i,frS,if_pos (by omega)]
       rw[←hfr]at hs1
       rw[hwk]
       refine Qr ((k+1,z2x ef x.block (slV b),(Vp.put b (zl9 9 (no8.set x.k.toNat x.text))).put mf (z4z (z2x ef x.block (slV b)))))<|⟨by dsimp only;omega,hs2,Vw.put_get _ _ _,hs1⟩
      ·
       refine QI<|QM<|Qw<|QC<|QE 2 [0,4,11,12,13] rfl<|Qw ?_
       have hfr:frT (cur.take (k+1))=frT (cur.take k):=by rw[z7v h_x,z8i,frS,if_neg (by omega)]
       rw[hwk]
       refine Qr ((k+1,ef,Vp))<|⟨by dsimp only;omega,hZY.trans hVp,hVp.get _ _ hYmf,by dsimp only;rw[hfr];exact znd hF hVp⟩
     ·
      exact absurd h (by decide)
    |some q=>
     obtain⟨b,hgb,hbY,hq8⟩:=hF.r.some_ _ _ hTx
     refine QI<|Qw<|QA<|QJ<|QA<|QC ?_
     have hlt_x:=z01 h_x
     refine QY rfl (z0c tok rfl (fun hg=>hcutY.sl) (fun hg=>⟨by omega,by omega⟩))<|QY rfl (z08 tok (k) 0 (x) rfl (fun hg=>hcutY) (fun hg=>h_x) rfl rfl)<|Yy 1 rfl<|Qs rfl<|z07 [0,4,6,11,12,13] rfl<|Qw<|QA<|QC<|Yy 3 rfl<|QY rfl (zyt ef (slV b) rfl Tryz.underlying122 Tryz.underlying3 (fun w=>Tryz.zeroValue24 w) (fun hg=>hYmf) (fun hg=>by rw[hgb];rfl)) ?_
     refine QE 1 [0,4,6,7,11,12,13] rfl<|Qw<|QA<|QA<|QC<|Yy 1 rfl<|QY rfl (z60 (.bool false) rfl (fun E w=>zuk ⟨b,0,none⟩ 8 8 Tryz.underlying24 w))<|z07 [0,4,6,7,11,12,13,22] rfl<|Qw<|Qn rfl (fun h=> ?_) fun h=> ?_
     ·
      exact absurd h (by decide)
     ·
      refine QI<|Qw<|QA<|QC<|Yy 7 rfl ?_
      have hpnil:True:=trivial
      have hVp:Y.le Y:=Vw.le.refl _
      obtain⟨Vp,hVpe⟩: ∃Vp,Vp=Y:=⟨_,rfl⟩
      have hbq:Y.get b=some (zl9 9 q):=hbY
      have hb0:Z.get b=none:=hF.fresh _ _ hgb
      have hmfb:mf≠b:=fun e=>by rw[←e,hYmf]at hbY;cases hbY
      have hcase:(frT (cur.take k) x.block=some q∧z1u ef x.block=some (slV b))∨(frT (cur.take k) x.block=none∧q=no8∧Y.get b=none):= .inl ⟨hTx,hgb⟩
      clear hpnil
      have hspV:z7i Y (slV b) 1 8 (q.flatMap z1a):=by
       have:=(slP hbq hq8).sl
       rwa [hq8]at this
      refine QY rfl (z8n tok rfl)<|QE 2 [0,4,6,7,11,12,13,33] rfl<|Qw<|QX rfl (fun h=> ?_) fun h=> ?_
      ·
       refine QA<|QC<|Yy 5 rfl ?_
       have hk8:x.k.toNat<8:=by omega
       refine QY rfl (z14 tok x.k.toNat rfl (by simp) (fun hg=>hspV) (fun hg=>by omega))<|z2q rfl rfl rfl rfl (j6f tok (b:=b) (off:=0) rfl hbq (by simp;omega) (.inl (Nat.zero_le _)) rfl) fun _ _=> ?_
       refine z07 [0,4,6,7,11,12,13] rfl<|Qw<|QC<|Yy 4 rfl ?_
       rw[zun]
       refine z2q rfl rfl rfl rfl (zgy ef rfl rfl Tryz.underlying122 Tryz.underlying3 ((Vw.put_other _ _ hmfb).trans (hVp.get _ _ hYmf))) fun _ _=>z07 [0,4,11,12,13] rfl<|QM<|Qw<|QC<|QE 2 [0,4,11,12,13] rfl<|Qw ?_
       obtain⟨hs1,hs2⟩:=zqa (blk:=x.block) (k:=x.k) (t:=x.text) hF hZY hVp hYmf hmf hbq hq8 hb0 hcase
       have hfr:frT (cur.take (k+1))=pcS (frT (cur.take k)) x.block x.k x.text:=by rw[z7v h_x,z8i,frS,if_pos (by omega)]
       rw[←hfr]at hs1
       rw[hwk]
       refine Qr ((k+1,z2x ef x.block (slV b),(Y.put b (zl9 9 (q.set x.k.toNat x.text))).put mf (z4z (z2x ef x.block (slV b)))))<|⟨by dsimp only;omega,hs2,Vw.put_get _ _ _,hs1⟩
      ·
       refine QI<|QM<|Qw<|QC<|QE 2 [0,4,11,12,13] rfl<|Qw ?_
       have hfr:frT (cur.take (k+1))=frT (cur.take k):=by rw[z7v h_x,z8i,frS,if_neg (by omega)]
       rw[hwk]
       refine Qr ((k+1,ef,Y))<|⟨by dsimp only;omega,hZY.trans hVp,hVp.get _ _ hYmf,by dsimp only;rw[hfr];exact znd hF hVp⟩
   ·
    have hkc:k=cur.length:=by omega
    subst hkc
    clear h
    rw[List.take_of_length_le (Nat.le_refl _)]at hF
    have hFz:=zih _ cur rfl hcz
    obtain⟨F,hFe⟩: ∃F,frT cur=F:=⟨_,rfl⟩
    rw[hFe]at hF hblk hFz
    have hmtY:Y.get mt=some (z4z es):=hZY.get _ _ hmtZ
    have hmtf:mt≠mf:=fun e=>by rw[e,hmf]at hmtZ;cases hmtZ
    have hTY:=hT.mono hZY
    refine QN<|QK<|QK<|QQ<|Qw<|QA<|QC<|Yy 1 rfl<|QZ rfl (ja6 ef rfl Tryz.underlying122 hYmf) fun rr hrr=> ?_
    have hrt:rr≠mt:=fun e=>by rw[e,hmtY]at hrr;cases hrr
    have hrf:rr≠mf:=fun e=>by rw[e,hYmf]at hrr;cases hrr
    have hinit:((Y.put rr (zlr mf ef.length #[] ef.length)).put mt (z4z es)).le (Y.put rr (zlr mf ef.length #[] ef.length)):=by
     rw[Vw.put_self ((Vw.put_other _ _ hrt.symm).trans hmtY)]
     exact lr
    refine z07 [0,46] rfl<|Qw<|QJ<|Lv [0,46] [] rfl rfl (σ:=Array Nat×List (Int×Value)×Nat) (fun(seen,et,cl)=>[]) (fun(seen,et,cl)=>[]) (fun(seen,et,cl)=>(Y.put rr (zlr mf ef.length seen cl)).put mt (z4z et)) (fun(seen,et,cl)=>(ef.length≤cl∧(∀n,(∃(i:Nat) (v:Value),i∈seen∧ef[i]? =some (n,v))→z1u et n=z1u ef n)∧(∀n,¬(∃(i:Nat) (v:Value),i∈seen∧ef[i]? =some (n,v))→z1u et n=z1u es n))) (fun(seen,et,cl)=>(List.range ef.length).countP (fun i=> !seen.contains i)) ((#[],es,ef.length)) (⟨Nat.le_refl _,fun n ⟨i,v,hi,_⟩=>(by simp at hi),fun n _=>rfl⟩) ?_ (hV:=hinit)
    rintro⟨seen,et,cl⟩ ⟨hcl,hA,hB⟩
    dsimp only at hcl hA hB⊢
    have hgr:((Y.put rr (zlr mf ef.length seen cl)).put mt (z4z et)).get rr=some (zlr mf ef.length seen cl):=by rw[Vw.put_other _ _ hrt,Vw.put_get]
    have hgf:((Y.put rr (zlr mf ef.length seen cl)).put mt (z4z et)).get mf=some (z4z ef):=by rw[Vw.put_other _ _ hmtf.symm,Vw.put_other _ _ hrf.symm];exact hYmf
    refine QA<|QC<|QZ rfl (j98 ef rfl hgr hcl hgf) fun q hq=> ?_
    rcases q with _|⟨j,kk,vv⟩
    rotate_left
    ·
     obtain⟨hj,hjs⟩:=hq
     have hjl:=z01 hj
     dsimp only
     refine QE 1 [0,46,48] rfl<|Qw<|QA<|Qn rfl (fun h=> ?_) fun h=> ?_
     ·
      refine QI<|Qw<|QJ<|QA<|QC<|QY rfl (j87 ef rfl (fun hg=>Vw.put_get _ _ _) (fun hg=>(Vw.put_other _ _ hrf.symm).trans hgf) (fun hg=>hj))<|QE 4 [0,8,9,46] rfl<|Qw<|QC<|Yy 3 rfl<|z2q rfl rfl rfl rfl (zgy et rfl rfl Tryz.underlying122 Tryz.underlying3 ((Vw.put_other _ _ hrt.symm).trans (Vw.put_get _ _ _))) fun _ _=>z07 [0,46] rfl<|QM<|Qw ?_
      rw[Vw.put4 _ _ _ _ _ hrt]
      have hA2: ∀n,(∃(i:Nat) (v:Value),i∈seen.push j∧ef[i]? =some (n,v))→z1u (z2x et kk vv) n=z1u ef n:=by
       rintro n ⟨i2,v2,hi2,he2⟩
       rw[z4q]
       split
       · rename_i e;subst e;exact(zgs hF.nodup hj).symm
       ·
        rename_i hne
        rw[Array.mem_push]at hi2
        rcases hi2 with hi2|rfl
        · exact hA n ⟨i2,v2,hi2,he2⟩
        · rw[hj]at he2;cases he2;exact absurd rfl hne
      have hB2: ∀n,¬(∃(i:Nat) (v:Value),i∈seen.push j∧ef[i]? =some (n,v))→z1u (z2x et kk vv) n=z1u es n:=by
       intro n hno
       rw[z4q,if_neg (fun e=>hno ⟨j,vv,by simp,by rw[hj,e]⟩)]
       exact hB n fun⟨i2,v2,hi2,he2⟩=>hno ⟨i2,v2,by rw[Array.mem_push];exact .inl hi2,he2⟩
      have hms:=zsh hjl hjs
      refine Qr ((seen.push j,z2x et kk vv,ef.length))<|⟨Nat.le_refl _,hA2,hB2⟩
     ·
      exact absurd h (by decide)
    ·
     dsimp only at hq⊢
     refine QE 1 [0,46,48] rfl<|Qw<|QA<|Qn rfl (fun h=> ?_) fun h=> ?_
     ·
      exact absurd h (by decide)
     ·
      refine QN<|QK<|QK<|QQ<|z55 tok rfl ?_
      intro E1 w1 hm1 hok1
      refine z67 (E:=E) hm1 hok1 rfl rfl (by repeat (first|exact z1c.zero|refine z1c.succ rfl ?_)) rfl (by repeat (first|exact oN|refine oC rfl ?_)) rfl ?_
      clear hm1 hok1 w1 E1 E
      refine z07 [2,3,5,6,17,18,19] rfl<|Qw<|QC<|QE 3 [2,3,4,5,17,18,19] rfl<|QM<|Qw<|QC<|QE 2 [2,3,4,5,17,18,19] rfl<|Qw ?_
      have hfin: ∀n,z1u et n=match z1u ef n with|some v=>some v|none=>z1u es n:=by
       intro n
       cases hq2:z1u ef n with
       |some v=>
        obtain⟨i2,hi2⟩:=zmr hq2
        exact(hA n ⟨i2,v,hq i2 (z01 hi2),hi2⟩).trans hq2
       |none=>
        refine hB n ?_
        rintro⟨i2,v2,_,he2⟩
        rw[zgs hF.nodup he2]at hq2
        cases hq2
      have hkeep: ∀b p,Y.get b=some (zl9 9 p)→((Y.put rr (zlr mf ef.length seen cl)).put mt (z4z et)).get b=some (zl9 9 p):=by
       intro b p hb
       have h1:b≠mt:=fun e=>by rw[e,hmtY]at hb;cases hb
       have h2:b≠rr:=fun e=>by rw[e,hrr]at hb;cases hb
       rw[Vw.put_other _ _ h1,Vw.put_other _ _ h2]
       exact hb
      have hR:MpR 9 ((Y.put rr (zlr mf ef.length seen cl)).put mt (z4z et)) et (zk9 T F):=by
       refine⟨fun n hn=> ?_,fun n p hp=> ?_⟩
       ·
        rw[zk9]at hn
        rw[hfin]
        cases hq2:F n with
        |some p=>rw[hq2]at hn;cases hn
        |none=>
         rw[hq2]at hn
         rw[hF.r.none_ n hq2]
         exact hTY.none_ n hn
       ·
        rw[zk9]at hp
        rw[hfin]
        cases hq2:F n with
        |some p2=>
         rw[hq2]at hp
         cases hp
         obtain⟨b,h1,h2,h3⟩:=hF.r.some_ n p hq2
         exact⟨b,by rw[h1],hkeep b p h2,h3⟩
        |none=>
         rw[hq2]at hp
         obtain⟨b,h1,h2,h3⟩:=hTY.some_ n p hp
         exact⟨b,by rw[hF.r.none_ n hq2];exact h1,hkeep b p h2,h3⟩
      have hsz: ∀n p,zk9 T F n=some p→ ∀s∈p,s.size≤256:=by
       intro n p hp
       rw[zk9]at hp
       cases hq2:F n with
       |some p2=>rw[hq2]at hp;cases hp;exact hFz n p hq2
       |none=>rw[hq2]at hp;exact hTz n p hp
      have hwZ:(vw w).le ((Y.put rr (zlr mf ef.length seen cl)).put mt (z4z et)):=by
       have h0:=hZ.trans hZY
       refine⟨fun k o hk=> ?_,h0.os,h0.tape,h0.output⟩
       have h1:k≠mt:=fun e=>by rw[e,hmt]at hk;cases hk
       have h2:k≠rr:=fun e=>by have:=h0.get _ _ hk;rw[e,hrr]at this;cases this
       rw[Vw.put_other _ _ h1,Vw.put_other _ _ h2]
       exact h0.get _ _ hk
      rw[hwi]
      refine Qr ((i+1,i+1,et,zk9 T F,(Y.put rr (zlr mf ef.length seen cl)).put mt (z4z et)))<|⟨by dsimp only;omega,Nat.le_refl _,hwZ,Vw.put_get _ _ _,hR,by dsimp only;rw[Nat.sub_self,List.take_zero];exact hblk,hsz⟩
 ·
  have hiL:i=L.length:=by omega
  subst hiL
  clear h
  rw[List.drop_length,zxo]at hblk
  have hsc:zht L=mkF (fun n=>(T n).map zf0) 0 64:=by rw[zw8,hblk]
  generalize hF:(fun n=>(T n).map zf0)=f8 at hsc
  refine QN<|QK<|QK<|QQ<|Qw<|QA<|QA<|QC<|QE 1 [2,3,36] rfl<|Qw<|QJ<|z6l 2 93 2 rfl rfl ?_
  have e0:mkF f8 0 0=[]:=rfl
  refine Ql [3] [0] rfl rfl (σ:=Nat) (fun j=>[(2, .a (.row 0)),(36, .a (.v (I j)))]) (fun j=>[(0, .row 93 2 (mkF f8 0 j).length ((mkF f8 0 j).flatMap Block.cells))]) (fun j=>j≤64) (fun j=>64 - j) (0) (by omega) ?_ (hs:=by repeat (first|exact z52.nil|refine z52.cons rfl ?_|refine z52.cons (by simp only[e0];first|done|rfl) ?_)) (hO:=by repeat (first|exact z3b.nil|refine z3b.cons rfl ?_|refine z3b.cons (by simp only[e0];first|done|rfl) ?_))
  rintro j hj
  have hml:=zcg f8 j 0
  refine QA<|QC<|QE 1 [2,3,36,37] rfl<|Qw<|QA<|QX rfl (fun h=> ?_) fun h=> ?_
  ·
   have hjlt:j<64:=by omega
   clear h
   have hwj:IntKind.i64.wrap ((j:Int)+1)=((j+1:Nat):Int):=z06 (by omega) (by omega)
   have hfj:f8 (j:Int)=(T (j:Int)).map zf0:=by rw[←hF]
   have hsn:=zha f8 j 0
   rw[Int.zero_add,hfj]at hsn
   cases hTj:T (j:Int)with
   |none=>
    rw[hTj]at hsn
    have hsn2:mkF f8 0 (j+1)=mkF f8 0 j:=by rw[hsn];exact List.append_nil _
    refine QI<|Qw<|QA<|QJ<|QA<|QC<|QE 2 [2,3,8,36] rfl<|Qw<|QA<|QC<|Yy 2 rfl<|QY rfl (zu9 es (.slice none 0 0) false rfl Tryz.underlying122 Tryz.underlying3 (fun w=>Tryz.zeroValue24 w) (fun hg=>hmtZ) (fun hg=>by rw[hT.none_ _ hTj];exact⟨rfl,rfl⟩)) ?_
    refine QE 5 [2,3,8,9,10,36] rfl<|Qw<|QA<|QA<|QC<|QE 2 [2,3,8,9,36,46] rfl<|Qw<|Qn rfl (fun h=> ?_) fun h=> ?_
    ·
     refine QN<|QK<|QQ<|Qw<|QC<|QE 2 [2,3,36] rfl<|Qw ?_
     rw[hwj,←hsn2]
     refine Qr (j+1) (by omega)
    ·
     exact absurd h (by decide)
   |some p=>
    obtain⟨b,hgb,hbZ,hp8⟩:=hT.some_ _ _ hTj
    have hpz:=hTz _ _ hTj
    have hsp:=slP hbZ hp8
    rw[hTj]at hsn
    have hsn2:mkF f8 0 (j+1)=mkF f8 0 j++[⟨(j:Int),zf0 p⟩]:=hsn
    have hcsz: ∀m:Nat,(zf0 (p.take m)).size≤256*m:=by
     intro m
     induction m with
     |zero=>simp[zf0]
     |succ m ih=>
      by_cases hm:m<p.length
      ·
       obtain⟨s,hs⟩: ∃s,p[m]? =some s:=⟨_,List.getElem?_eq_getElem hm⟩
       rw[z7v hs,zf0,List.foldl_append]
       have h1:=hpz s (List.mem_of_getElem? hs)
       have h2:(List.foldl (· ++ ·) (List.foldl (· ++ ·) ByteArray.empty (p.take m)) [s]).size=(zf0 (p.take m)).size+s.size:=by
        simp[zf0,ByteArray.size_append]
       omega
      ·
       rw[List.take_of_length_le (by omega)]
       rw[List.take_of_length_le (by omega)]at ih
       omega
    refine QI<|Qw<|QA<|QJ<|QA<|QC<|QE 2 [2,3,8,36] rfl<|Qw<|QA<|QC<|Yy 2 rfl<|QY rfl (zu9 es (slV b) true rfl Tryz.underlying122 Tryz.underlying3 (fun w=>Tryz.zeroValue24 w) (fun hg=>hmtZ) (fun hg=>by rw[hgb];exact⟨rfl,rfl⟩)) ?_
    refine QE 5 [2,3,8,9,10,36] rfl<|Qw<|QA<|QA<|QC<|QE 2 [2,3,8,9,36,46] rfl<|Qw<|Qn rfl (fun h=> ?_) fun h=> ?_
    ·
     exact absurd h (by decide)
    ·
     refine QI<|Qw<|QA<|QC<|Yy 3 rfl<|Qs rfl<|z07 [2,3,9,11,36] rfl<|Qw<|QA<|QA<|QC<|Yy 1 rfl<|QY rfl (z8n tok rfl)<|QE 1 [2,3,11,36,49,50,51] rfl<|Qw<|QJ<|Ql [2,3,11,36,49,50] [1] rfl rfl (σ:=Nat) (fun k=>[(51, .a (.v (I k)))]) (fun k=>[(1, .lit [.v (I j), .v (S (zf0 (p.take k)))] 93)]) (fun k=>k≤8) (fun k=>8 - k) (0) (by omega) ?_
     rintro k hk
     refine QA<|QC<|QE 1 [2,3,11,36,49,50,51,52] rfl<|Qw<|QA<|QX rfl (fun h=> ?_) fun h=> ?_
     ·
      refine QI<|Qw<|QA<|QJ<|QA<|QC ?_
      obtain⟨s,h_s⟩:=hsp.at (k:=k) (by omega)
      have hlt_s:=z01 h_s
      refine QY rfl (z0c tok rfl (fun hg=>hsp.sl) (fun hg=>⟨by omega,by omega⟩))<|QY rfl (z08 tok (k) 0 (s) rfl (fun hg=>hsp) (fun hg=>h_s) rfl rfl)<|QE 1 [2,3,11,13,36,49,50,51] rfl<|Qw<|QC<|Yy 3 rfl ?_
      have hzs:=hpz s (List.mem_of_getElem? h_s)
      have hzc:=hcsz k
      refine QY rfl (zwi rfl (fun hg=>by omega))<|Yy 1 rfl<|Qs rfl<|z07 [2,3,11,36,49,50,51] rfl<|QM<|Qw<|QC<|QE 2 [2,3,11,36,49,50,51] rfl<|Qw ?_
      rw[show zf0 (p.take k)++s=zf0 (p.take (k+1))from by rw[z7v h_s];simp[zf0],z06 (n:=(k:Int)+1) (by omega) (by omega)]
      refine Qr (k+1) (by omega)
     ·
      refine QN<|QK<|QK<|QQ<|Qw<|QC<|Yy 2 rfl ?_
      have hk8:k=8:=by omega
      subst hk8
      rw[List.take_of_length_le (by omega)]
      refine QZ rfl (z1q tok 2 rfl rfl rfl) fun _ _=>QZ rfl (z0g tok (Block.cells ⟨(j:Int),zf0 p⟩) rfl (fun E w hm=>z09 (hm.row _ _ _ _ _ rfl)) (fun _ _ _=>by simpa using zmx [⟨(j:Int),zf0 p⟩]) (by dsimp only;omega)) fun _ _=> ?_
      refine QE 1 [2,3,36] rfl<|QM<|Qw<|QC<|QE 2 [2,3,36] rfl<|Qw ?_
      have hx:=zsr (mkF f8 0 j) ⟨(j:Int),zf0 p⟩
      rw[←hsn2]at hx
      rw[hx.1,hx.2,hwj]
      refine z00 0 3 rfl<|Qr (j+1) (by omega)
  ·
   refine QN<|QK<|QK<|QQ<|Qw<|QA<|QC<|QE 2 [2] rfl<|Qw<|QO<|z4b<|z0h tok rfl ?_
   have h64:j=64:=by omega
   subst h64
   rw[←hsc]
   intro E w' hm _
   exact⟨⟨E.κ 0,rfl,hm.rowFresh hZ (l:=0) rfl⟩,hm.below hZ⟩
end Go.Proofs.YtkoiogkdiifgfaaGreat

/- A transaction's records: the document's. -/
set_option linter.unusedVariables false
set_option linter.unusedSimpArgs false
set_option maxRecDepth 100000
namespace Go.Proofs.YtkoiogkdiifgfaaGreat
open Go Go.Eng Go.RowKit
theorem zvm(g:Geo)(ok:g.Ok)(hg:z2y g=true)(i:Nat)(hi:(i:Int)<g.nodes)(w:World):Rt 48 #[g.val,I i] w (I (1+i)):=by
 have hf:=z0b hg
 refine Qf [.a (.v g.val), .a (.v (I i))] Tryz.func48 rfl<|QA<|QC<|QE 2 [1,2] rfl<|Qw<|QA<|QA<|QC<|Yy 1 rfl<|Qc (.a (.v _)) rfl z78 (fun hg E w1 hm=>by exact z3k g ok _) ?_
 refine Yy 6 rfl<|Qc (.a (.v _)) rfl z7k (fun hg E w1 hm=>by exact zt5 _ _ _ _) ?_
 refine QE 2 [1,15] rfl<|Qw<|Qn rfl (fun h=> ?_) fun h=> ?_
 ·
  refine QA<|QC<|QE 1 [4] rfl<|Qw<|QO<|QL<|z0h tok rfl ?_
  rw[z7e]at h
  simp only[Bool.or_eq_true,Bool.not_eq_true',decide_eq_false_iff_not]at h
  rw[z06 (by omega) (by omega),hg]at h
  rcases h with h|h
  · cases h
  · omega
 ·
  refine QI<|Qw<|QA<|QC<|QE 3 [4] rfl<|Qw<|QO<|Qb rfl fun E w' hm=>⟨?_,hm.below lr⟩
  rw[z06 (by omega) (by omega)];rfl
theorem j0e(V:Vw)(sv tv:Value)(D:List ByteArray)(w:World)(hV:V.le (vw w))(hs0:SlOf V z1a 1 sv D)(ht0:SlOf V z1a 1 tv D)(hn:D.length≤100000):
  Rt 16 #[sv,tv] w (.bool true):=by
 have hs:=hs0.mono hV
 have ht:=ht0.mono hV
 refine Qf [.a (.v sv), .a (.v tv)] Tryz.func16 rfl<|QA<|QC<|QE 1 [0,1] rfl<|Qw<|QA<|QA<|QC<|Yy 1 rfl<|QY rfl (z0l tok rfl (fun hg=>hs.sl))<|Yy 1 rfl<|QY rfl (z0l tok rfl (fun hg=>ht.sl))<|QE 1 [0,1,10] rfl<|Qw<|Qn rfl (fun h=> ?_) fun h=> ?_
 ·
  simp at h
 ·
  refine QI<|Qw<|QA<|QA<|QC<|QE 1 [0,1,5] rfl<|Qw<|QJ<|Ql [0,1] [] rfl rfl (σ:=Nat) (fun k=>[(5, .a (.v (I k)))]) (fun k=>[]) (fun k=>k≤D.length) (fun k=>D.length - k) (0) (by omega) ?_
  rintro k hk
  refine QA<|QA<|QC<|Yy 2 rfl<|QY rfl (z0l tok rfl (fun hg=>hs.sl))<|QE 1 [0,1,5,14] rfl<|Qw<|QX rfl (fun h=> ?_) fun h=> ?_
  ·
   refine QI<|Qw<|QA<|QJ<|QA<|z11 mixed (by kernel_rfl)<|Dm 2 rfl ?_
   obtain⟨x,h_x⟩:=atx (L:=D) (k:=k) (by omega)
   have hlt_x:=z01 h_x
   refine Qd rfl (z0c tok rfl (fun hg=>hs.sl) (fun hg=>⟨by omega,by omega⟩))<|Qd rfl (z08 tok (k) 0 (x) rfl (fun hg=>hs) (fun hg=>h_x) rfl rfl)<|Dm 2 rfl ?_
   have hlt_x:=z01 h_x
   refine Qd rfl (z0c tok rfl (fun hg=>ht.sl) (fun hg=>⟨by omega,by omega⟩))<|Qd rfl (z08 tok (k) 0 (x) rfl (fun hg=>ht) (fun hg=>h_x) rfl rfl)<|Dm 1 rfl<|z1z [0,1,5,25] rfl<|Qw<|Qn rfl (fun h=> ?_) fun h=> ?_
   ·
    simp at h
   ·
    refine QI<|QM<|Qw<|QC<|QE 3 [0,1,5] rfl<|Qw ?_
    rw[z06 (n:=(k:Int)+1) (by omega) (by omega)]
    refine Qr (k+1) (by omega)
  ·
   refine QN<|QK<|QK<|QQ<|Qw<|QA<|QC<|QE 1 [4] rfl<|Qw<|QO<|Qb rfl fun E w' hm=>⟨?_,hm.below lr⟩
   rfl
def zon(l:List ByteArray):List UInt8:=l.flatMap fun s=>s.data.toList
def zq4(l:List ByteArray):ByteArray:=z0i (zon l)
theorem zqb(l:List ByteArray):(zq4 l).size=(zon l).length:=z16 _
theorem zga(l:List ByteArray):Lib.join (l.map (·.data.toList)) (ByteArray.empty).data.toList=zon l:=by
 cases l with
 |nil=>rfl
 |cons x r=>
  rw[List.map_cons,Lib.join_cons]
  simp only[Lib.joinTail,zon,List.flatMap_cons]
  congr 1
  induction r with
  |nil=>rfl
  |cons y r ih=>simp at ih⊢;rw[←ih]
theorem zj3: ∀l:List ByteArray,l.flatMap z1a=l.map Value.string
 |[]=>rfl
 |x::r=>by rw[List.flatMap_cons,zj3 r];rfl
theorem j65(V:Vw)(sv:Value)(l:List ByteArray)(w:World)(hV:V.le (vw w))(hs:SlOf V z1a 1 sv l)(hn:l.length≤140737488355328)(hc:(zon l).length≤140737488355328):
  Rt 104 #[sv,S ByteArray.empty] w (S (zq4 l)):=by
 rcases hs.sl.2 with⟨a,c,rfl,h0⟩|⟨b,off,cap,cs,e,fz,rfl,hb,hle,hx,hcap⟩
 ·
  have:l=[]:=List.eq_nil_of_length_eq_zero h0
  subst this
  exact(Tryz.strings_Join_none a c ByteArray.empty w).mono fun e w' ⟨he,hw⟩=>⟨he,hw▸Below.refl _ _⟩
 ·
  have hbw:=hV.get _ _ hb
  have hlt:b<w.heap.size:=(Array.getElem?_eq_some_iff.1 hbw).1
  have key:=Tryz.strings_Join b off cap l ByteArray.empty w (fun j x hj=>by
   have h1:=zb5 (w:=w) (b:=b) (off:=off) (e:=e) (fz:=fz) (cs:=cs) (k:=l.length*1) (xs:=l.flatMap z1a) hbw hx j (.string x) (by
    rw[zj3,List.getElem?_map,hj];rfl)
   rwa [Addr.add_lit]at h1) hlt hn hcap (by rw[zga];exact hc)
  rw[zga]at key
  exact key
abbrev j56(f:Fetching)(g:Geo):List Value:=f.cells++g.cells
theorem zyn(f:Fetching)(g:Geo)(b:Nat)(w:World)(hb:w.heap[b]? =some (.cells (j56 f g).toArray 174 (0,0))):
  Rt 102 #[.pointer (some ⟨b,0,none⟩)] w (.bool (decide (g.per≤f.k))):=by
 refine z4n [.a (.ptr 0 0)] hb Tryz.func102 rfl rfl rfl rfl<|QA<|QC<|QE 1 [0] rfl<|Qw<|QA<|z11 mixed (by kernel_rfl)<|Dm 12 rfl<|z1z [2] rfl<|Qw<|QO<|Qb rfl fun E w' hm=> ?_
 exact⟨rfl,z3g hb hm lr rfl rfl rfl⟩
theorem zue{V:Vw}{v:Value}{sz m:Nat}{xs:List Value}(h:z7i V v sz m xs): ∃a c,v= .slice a m c∧m≤c∧z7i V (.slice a m m) sz m xs:=by
 rcases h with⟨h0,⟨a,c,rfl,rfl⟩|⟨b,off,cap,cs,e,f,rfl,hg,hle,hx,hc⟩⟩
 · exact⟨a,c,rfl,Nat.zero_le _,h0, .inl ⟨a,0,rfl,rfl⟩⟩
 · exact⟨_,cap,rfl,hc,h0, .inr ⟨b,off,m,cs,e,f,rfl,hg,hle,hx,Nat.le_refl _⟩⟩
theorem j70(bk k:Int)(g:Geo)(v lv:Value)(L:List ByteArray)(got:ByteArray)(b:Nat)(w:World)(hb:w.heap[b]? =some (.cells (j56 ⟨bk,k,⟨v,L⟩⟩ g).toArray 174 (0,0)))
  (hs0:SlOf ((vw w).del b) z1a 1 v L) (hl0:SlOf ((vw w).del b) z1a 1 lv [got]) (hn:L.length≤1099511627776):
  Cl 103 #[.pointer (some ⟨b,0,none⟩),lv] w fun e w'=>e= .returned (.tuple #[])∧ ∃v',Go.Eng.Touch (· =b) w w'∧w'.ownsRow w.heap.size 9 1 v' (L++[got]).length ((L++[got]).flatMap z1a)∧
   w'.heap[b]? =some (.cells (j56 ⟨bk,IntKind.i64.wrap (k+1),⟨v',[]⟩⟩ g).toArray 174 (0,0)):=by
 obtain⟨a,c,rfl,hlc,hcut⟩:=zue hs0.sl
 have hw:IntKind.i64.wrap (((L.length:Nat):Int))=(L.length:Int):=z06 (by omega) (by omega)
 refine z4n [.a (.ptr 0 0), .a (.v lv)] hb Tryz.func103 rfl rfl rfl rfl<|QA<|Rb [24] rfl<|QD [0,1,2,3,4,5,6,7,8,9,10] rfl ?_
 have hs:=hs0
 have hl:=hl0
 refine Qu 11 rfl rfl (z0l tok rfl (fun hg=>hs.sl))<|QD [12,13,14,15,16] rfl<|Qu 17 rfl rfl (z0l tok rfl (fun hg=>hs.sl))<|Qu 18 rfl rfl (j5x tok rfl (fun hg=>⟨by omega,by omega,by omega⟩))<|QD [19] rfl<|QS<|Qo 20 ?_
 rw[Int.toNat_natCast]
 refine Qg 20 rfl rfl (j6a tok ([got].flatMap z1a) rfl hcut (fun E w1 hm=>hl.sl.src hm.get) (by simp) (by dsimp only;simp only[List.length_singleton];omega)) fun _ _=> ?_
 refine Qx [21,22,23] rfl<|Qo 24<|Qj 24 rfl<|Qe [0,1] rfl<|Qw<|QC<|Yy 6 rfl<|QY rfl (z0l tok rfl (fun hg=>hl.sl))<|Yy 4 rfl<|Qs rfl<|z07 [] rfl<|z55 tok rfl ?_
 intro E w' hm _
 obtain⟨h1,h2⟩:=zid hm lr rfl rfl rfl
 refine⟨rfl,E.κ 3,h1, ?_, ?_⟩
 ·
  have hrow:=hm.rowFreshD lr (l0:=0) rfl (hm.pin 1 0 _ rfl).1 (l:=3) rfl
  rw[List.length_append,List.flatMap_append]
  exact hrow
 ·
  rw[h2]
  rfl
section
open Go.Eng
variable{o:Oper}{n:Nat}{F:z05}{C:List Nat}{O:Go.Eng.Own}{nl:Nat}{V:Vw}
theorem j7w{p:List (Nat×Bool)}(l r:Nat)(bk k:Int)(g:Geo)(v:Value)(L:List ByteArray)(got:ByteArray)(hv:z4i F p o.op=some (103,[.a (.ptr l 0), .a (.row r)]))
  (hl:lk O l=some (.lit ((j56 ⟨bk,k,⟨v,L⟩⟩ g).map .v) 174)) (hr:lk O r=some (.row 9 1 [got].length ([got].flatMap z1a))) (hs0:SlOf V z1a 1 v L) (hn:L.length≤1099511627776)
  (hx: ∀E w,Mem E O nl V w→SlOf ((vw w).del (E.ρ l)) z1a 1 v L):
  StepTo Tryz.prog o p n F C O nl V (σ:=Unit) (fun _=>True) (fun _=> .tup []) (fun _=>(l, .lit (.v (I bk):: .v (I (IntKind.i64.wrap (k+1))):: .row nl::g.cells.map .v) 174)::(nl, .row 9 1 (L++[got]).length ((L++[got]).flatMap z1a))::O) (nl+1) (fun _=>V):=by
 refine zw9 (fun _=>True) (fun _=> .tup []) l 174 9 1 (fun _=>(L++[got]).length) (fun _=>(L++[got]).flatMap z1a) (fun _=> .v (I bk):: .v (I (IntKind.i64.wrap (k+1))):: .row nl::g.cells.map .v) hv j3i hl
  (fun _=>by simp only[z0z,A.ok,z0e,Bool.and_eq_true,Bool.true_and];exact⟨by omega,(z13 E0 _).2 _⟩) (fun _=>rfl) ?_
 intro E w hm hb
 refine(j70 bk k g v (E.κ r) L got (E.ρ l) w (by rw[hb,(z13 E _).1]) (hx E w hm) (hm.rowOfDel (enc:=z1a) (L:=[got]) r hl hr (fun _=>rfl)) hn).mono ?_
 rintro e w' ⟨rfl,v',ht,hown,hv'⟩
 refine⟨(),v',rfl,ht,hown, ?_,trivial⟩
 rw[hv']
 simp only[List.map_cons,(z13 _ g.cells).1]
 simp[A.den,Env.setκ,j56,Fetching.cells]
end
def FRes(f:Fetching)(g:Geo)(got:ByteArray)(V':Vw)(x:Value):Prop:=
 (256<got.size∧x= .tuple #[f.val,I 50])∨(got.size≤256∧g.per≤f.k∧x= .tuple #[f.val,I 0])∨
 (got.size≤256∧f.k<g.per∧ ∃a n c,x= .tuple #[.agg #[I f.block,I (IntKind.i64.wrap (f.k+1)), .slice a n c],I 0]∧SlOf V' z1a 1 (.slice a n c) (f.parts.l++[got]))
theorem zt8(V:Vw)(f:Fetching)(g:Geo)(got:ByteArray)(w:World)(hV:V.le (vw w))(hs0:SlOf V z1a 1 f.parts.v f.parts.l)(hn:f.parts.l.length≤1099511627776):
  Cl 72 #[g.val,f.val,S got] w fun e w'=> ∃x V',e= .returned x∧Below w.heap.size w w'∧Vext w.heap.size V V' w'∧FRes f g got V' x:=by
 obtain⟨bk,k,⟨v,L⟩⟩:=f
 simp only at hs0 hn
 obtain⟨a,n,c,rfl⟩:=z04 hs0.sl
 have hs:=hs0.mono hV
 refine Qf [.a (.v g.val), .a (.v (⟨bk,k,⟨.slice a n c,L⟩⟩:Fetching).val), .a (.v (S got))] Tryz.func72 rfl<|QA<|QC<|QE 4 [2,3,4,6] rfl<|Qw<|QA<|QC<|QE 5 [2,4,6,8] rfl<|Qw<|QA<|QJ<|QA<|QC<|QE 4 [2,4,6,8,13] rfl<|Qw<|QX rfl (fun h=> ?_) fun h=> ?_
 ·
  refine QA<|QC<|Yy 1 rfl<|Qs rfl<|QE 1 [6,7] rfl<|Qw<|QO<|QP<|QL<|Qb rfl fun E w' hm=> ?_
  have hb:=hm.below lr
  exact⟨_,V,rfl,hb,Vext.same hV hb, .inl ⟨by omega,rfl⟩⟩
 ·
  have hgt:=h
  clear h
  refine QA<|QC<|Yy 1 rfl<|Qc (.a (.v _)) rfl zst (fun hg E w1 hm=>by exact zyn ⟨bk,k,⟨.slice a n c,L⟩⟩ g _ _ (hm.lit 3 _ _ rfl)) ?_
  refine QE 2 [2,6,8,18] rfl<|Qw<|QX rfl (fun h=> ?_) fun h=> ?_
  ·
   refine QC<|Yy 2 rfl<|QZ rfl (z1q tok 1 rfl rfl rfl) fun _ _=>QZ rfl (j7w 3 4 bk k g (.slice a n c) L got rfl rfl rfl hs hn (fun E w1 hm=>hs.mono (hm.leDel (l:=3) rfl))) fun _ _=>z07 [6,8] rfl<|QM<|Qw<|QA<|QC<|Yy 4 rfl<|Qs rfl<|QE 1 [6,7] rfl<|Qw<|QO<|Qb rfl fun E w' hm=> ?_
   have hb:=hm.below lr
   have hrow:=hm.rowFresh lr (l:=5) rfl
   obtain⟨V',hx,hsl⟩:=z1i hV hb hrow
   obtain⟨a',n',c',hv⟩:=z04 hsl
   rw[hv]at hsl
   refine⟨_,V',rfl,hb,hx, .inr (.inr ⟨by omega,by omega,a',n',c', ?_,hsl,fun _=>rfl⟩)⟩
   rw[←hv]
   rfl
  ·
   refine QI<|QM<|Qw<|QA<|QC<|Yy 4 rfl<|Qs rfl<|QE 1 [6,7] rfl<|Qw<|QO<|Qb rfl fun E w' hm=> ?_
   have hb:=hm.below lr
   exact⟨_,V,rfl,hb,Vext.same hV hb, .inr (.inl ⟨by omega,by omega,rfl⟩)⟩
theorem j2y(f:Fetching)(g:Geo)(a:Option Addr)(n c:Nat)(hv:f.parts.v= .slice a n c)(w:World):Rt 71 #[g.val,f.val] w (.bool (decide (g.per≤f.k))):=by
 obtain⟨bk,k,⟨v,L⟩⟩:=f
 simp only at hv
 subst hv
 refine Qf [.a (.v g.val), .a (.v (⟨bk,k,⟨.slice a n c,L⟩⟩:Fetching).val)] Tryz.func71 rfl<|QA<|QC<|QE 3 [2,3] rfl<|Qw<|QA<|QC<|Yy 4 rfl<|Qc (.a (.v _)) rfl zst (fun hg E w1 hm=>by exact zyn ⟨bk,k,⟨.slice a n c,L⟩⟩ g _ _ (hm.lit 2 _ _ rfl)) ?_
 refine QE 1 [4] rfl<|Qw<|QO<|Qb rfl fun E w' hm=>⟨?_,hm.below lr⟩
 rfl
theorem j1x(V:Vw)(f:Fetching)(w:World)(hV:V.le (vw w))(hs0:SlOf V z1a 1 f.parts.v f.parts.l)(hn:f.parts.l.length≤140737488355328)(hc:(zon f.parts.l).length≤140737488355328):
  Rt 73 #[f.val] w (S (zq4 f.parts.l)):=by
 obtain⟨bk,k,⟨v,L⟩⟩:=f
 simp only at hs0 hn hc
 obtain⟨a,n,c,rfl⟩:=z04 hs0.sl
 have hs:=hs0.mono hV
 refine Qf [.a (.v (⟨bk,k,⟨.slice a n c,L⟩⟩:Fetching).val)] Tryz.func73 rfl<|QA<|QC<|QE 2 [1] rfl<|Qw<|QA<|QC<|Yy 2 rfl<|Qc (.a (.v _)) rfl j38 (fun hg E w1 hm=>by exact j65 (vw w) _ L _ hm.leV hs hn hc) ?_
 refine QE 1 [2] rfl<|Qw<|QO<|Qb rfl fun E w' hm=>⟨?_,hm.below lr⟩
 rfl
def zae(T:List ByteArray)(g:Geo)(b:Int)(k:Nat):List ByteArray:=(List.range k).map fun(j:Nat)=>T.getD (z3w g b (j:Int)).toNat ByteArray.empty
theorem zii(T:List ByteArray)(g:Geo)(b:Int)(k:Nat):zae T g b (k+1)=zae T g b k++[T.getD (z3w g b (k:Int)).toNat ByteArray.empty]:=by simp[zae,List.range_succ]
theorem zn7(T:List ByteArray)(g:Geo)(b:Int)(k:Nat):(zae T g b k).length=k:=by simp[zae]
def zr0(g:Geo)(d:Device)(b:Int):Bool:=z2a d&&(z2y g&&decide ((d.s.l.length:Int)=z5j g∧0≤z3w g b 0))
def zeu(g:Geo)(d:Device)(b:Int):ByteArray×Int:=
 if zr0 g d b=true then(if(zae d.s.l g b g.per.toNat).all (fun x=>decide (x.size≤256))=true then(zq4 (zae d.s.l g b g.per.toNat),0)else(ByteArray.empty,50))else(ByteArray.empty,2)
theorem zru{g:Geo}{b:Int}(hg:z2y g=true)(h0:0≤z3w g b 0){k:Nat}(hk:(k:Int)<g.per): ∃q:Nat,z3w g b (k:Int)=(q:Int)∧(q:Int)<z5j g:=by
 have hf:=z0b hg
 have hb:0≤b∧b<g.blocks:=by
  unfold z3w at h0
  split at h0
  · rename_i h;exact⟨h.2.1,h.2.2.1⟩
  · omega
 have hd:z3w g b (k:Int)=z2b g+b*g.per+k:=by rw[z3w,if_pos ⟨hg,hb.1,hb.2,by omega,hk⟩]
 have hd0:z3w g b 0=z2b g+b*g.per+0:=by rw[z3w,if_pos ⟨hg,hb.1,hb.2,by omega,by omega⟩]
 have ht:z5j g=z2b g+g.blocks*g.per:=by rw[z5j,if_pos hg]
 have hm:(b+1)*g.per≤g.blocks*g.per:=Int.mul_le_mul_of_nonneg_right (by omega) (by omega)
 rw[Int.add_mul]at hm
 exact⟨(z3w g b (k:Int)).toNat,by omega,by omega⟩
theorem zw7(V:Vw)(g:Geo)(bk:Int)(k:Nat)(v:Value)(L:List ByteArray)(got:ByteArray)(hk:(k:Int)<g.per)(hk2:k≤1000)(hg:got.size≤256)(hn:L.length≤1099511627776)(w:World)(hV:V.le (vw w))(hs:SlOf V z1a 1 v L):
  Cl 72 #[g.val,(⟨bk,k,⟨v,L⟩⟩:Fetching).val,S got] w fun e w'=> ∃x V',e= .returned x∧Below w.heap.size w w'∧Vext w.heap.size V V' w'∧ ∃a n c,x= .tuple #[.agg #[I bk,I ((k+1:Nat):Int), .slice a n c],I 0]∧SlOf V' z1a 1 (.slice a n c) (L++[got]):=by
 refine(zt8 V ⟨bk,k,⟨v,L⟩⟩ g got w hV hs hn).mono ?_
 rintro e w' ⟨x,V',he,hb,hx,h|h|h⟩
 · omega
 · simp only at h;omega
 ·
  simp only at h
  rw[z06 (n:=(k:Int)+1) (by omega) (by omega)]at h
  exact⟨x,V',he,hb,hx,h.2.2⟩
theorem zs1(V:Vw)(g:Geo)(f:Fetching)(got:ByteArray)(hg:256<got.size)(hn:f.parts.l.length≤1099511627776)(w:World)(hV:V.le (vw w))(hs:SlOf V z1a 1 f.parts.v f.parts.l):
  Rt 72 #[g.val,f.val,S got] w (.tuple #[f.val,I 50]):=by
 refine(zt8 V f g got w hV hs hn).mono ?_
 rintro e w' ⟨x,V',he,hb,hx,h|h|h⟩
 · exact⟨by rw[he,h.2],hb⟩
 · omega
 · omega
theorem j7o(V:Vw)(g:Geo)(ok:g.Ok)(d:Device)(blk:Int)(w:World)(hV:V.le (vw w))(hd0:DevIn V d):Rt 38 #[g.val,d.val,I blk] w (.tuple #[S (zeu g d blk).1,I (zeu g d blk).2]):=by
 obtain⟨⟨sv,sl⟩,⟨cv,cl⟩,⟨kv,kl⟩,nx,⟨fv,fl⟩⟩:=d
 obtain⟨a1,n1,c1,rfl⟩:=z04 hd0.s.sl
 obtain⟨a2,n2,c2,rfl⟩:=z04 hd0.cache.sl
 obtain⟨a3,n3,c3,rfl⟩:=z04 hd0.keys.sl
 obtain⟨a4,n4,c4,rfl⟩:=z04 hd0.fenced.sl
 have hd:=hd0.mono hV
 have hS:=hd.s
 have hsn:=hd.sn
 simp only[maxLen]at hS hsn
 generalize hD:(⟨⟨.slice a1 n1 c1,sl⟩,⟨.slice a2 n2 c2,cl⟩,⟨.slice a3 n3 c3,kl⟩,nx,⟨.slice a4 n4 c4,fl⟩⟩:Device)=D at*
 have hval:D.val= .agg #[.slice a1 n1 c1, .slice a2 n2 c2, .slice a3 n3 c3,I nx, .slice a4 n4 c4]:=by rw[←hD]
 have hDl:D.s.l=sl:=by rw[←hD]
 have hchk:=fun(w1:World) (hle:(vw w).le (vw w1))=>zhv (vw w) D w1 hle hd
 have hnb:zr0 g D blk=(z2a D&&(z2y g&&decide ((sl.length:Int)=z5j g∧0≤z3w g blk 0))):=by rw[zr0,hDl]
 rw[hval]at hchk⊢
 clear hD hd hd0 hval
 refine Qf [.a (.v g.val), .a (.v (.agg #[.slice a1 n1 c1, .slice a2 n2 c2, .slice a3 n3 c3,I nx, .slice a4 n4 c4])), .a (.v (I blk))] Tryz.func38 rfl<|QA<|QC<|QE 4 [2,3,4] rfl<|Qw<|QA<|QA<|z11 mixed (by kernel_rfl)<|Dm 1 rfl<|Qq (.a (.v _)) rfl zr4 (fun hg E w1 hm=>by exact hchk _ hm.leV) ?_
 refine Dm 3 rfl<|Qq (.a (.v _)) rfl zcr (fun hg E w1 hm=>by exact z73 g ok _) ?_
 refine Dm 5 rfl<|Qd rfl (z0l tok rfl (fun hg=>hS.sl))<|Dm 1 rfl<|Qq (.a (.v _)) rfl zni (fun hg E w1 hm=>by exact zi3 g ok _) ?_
 refine Dm 5 rfl<|Qq (.a (.v _)) rfl zsm (fun hg E w1 hm=>by exact zyu g ok blk 0 _) ?_
 refine Dm 2 rfl<|z1z [2,3,4,31] rfl<|Qw<|QX rfl (fun h=> ?_) fun h=> ?_
 ·
  refine QA<|QC<|QE 2 [6,7] rfl<|Qw<|QO<|QL<|Qb rfl fun E w' hm=>⟨?_,hm.below lr⟩
  have hno:zr0 g D blk=false:=by
   rw[Bool.eq_false_iff]
   intro hc
   simp only[hnb,Bool.and_eq_true,decide_eq_true_eq]at hc
   rw[if_pos hc.1,hc.2.1]at h
   simp at h
   omega
  rw[zeu,hno]
  rfl
 ·
  have hyes:zr0 g D blk=true:=by
   rw[hnb]
   simp only[Bool.and_eq_true,decide_eq_true_eq]
   obtain⟨⟨⟨h1,h2⟩,h3⟩,h4⟩:=h
   refine⟨?_,h2,by omega,by omega⟩
   by_cases hc:z2a D=true
   · exact hc
   · rw[if_neg hc]at h1;omega
  simp only[hnb,Bool.and_eq_true,decide_eq_true_eq]at hyes
  obtain⟨hck,hgg,htot,hd0⟩:=hyes
  clear h
  have hf:=z0b hgg
  obtain⟨per,hper⟩: ∃per:Nat,g.per=per:=⟨g.per.toNat,by omega⟩
  have hpn:g.per.toNat=per:=by omega
  refine QI<|Qw<|QA<|QC<|Yy 3 rfl<|Qs rfl<|z07 [2,3,4,8] rfl<|Qw<|QA<|QA<|QC<|QE 1 [2,3,4,8] rfl<|Qw<|QJ ?_
  have hnv:zeu g D blk=if(zae sl g blk per).all (fun x=>decide (x.size≤256))=true then(zq4 (zae sl g blk per),0)else(ByteArray.empty,50):=by
   rw[zeu,if_pos (by rw[hnb,hck,hgg,decide_eq_true ⟨htot,hd0⟩];rfl),hDl,hpn]
  refine Lv [2,3,4,8] [0,1,2] rfl rfl (σ:=Nat×Value×Vw) (fun y=>[]) (fun y=>[(0, .lit (g.cells.map .v) 23),(1, .lit [.v (.slice a1 n1 c1), .v (.slice a2 n2 c2), .v (.slice a3 n3 c3), .v (I nx), .v (.slice a4 n4 c4)] 28),(2, .lit [.v (I blk), .v (I y.1), .v y.2.1] 116)]) (fun y=>y.2.2) (fun y=>y.1≤per∧(vw w).le y.2.2∧SlOf y.2.2 z1a 1 y.2.1 (zae sl g blk y.1)∧(zae sl g blk y.1).all (fun x=>decide (x.size≤256))=true) (fun y=>per - y.1) ((0, .slice none 0 0,vw w)) (⟨by omega,Vw.le.refl _,zij _ _ _ _ (fun _=>rfl),rfl⟩) ?_
  rintro⟨i,v,W⟩ ⟨hi,hW,hsv,hall⟩
  try dsimp only
  simp only at hi hW hsv hall
  obtain⟨a5,n5,c5,rfl⟩:=z04 hsv.sl
  have hnl:=zn7 sl g blk i
  refine QA<|QA<|QC<|Yy 2 rfl<|Qc (.a (.v _)) rfl j4t (fun hg E w1 hm=>by exact j2y ⟨blk,i,⟨.slice a5 n5 c5,zae sl g blk i⟩⟩ g _ _ _ rfl _) ?_
  refine QE 1 [2,3,4,8,37] rfl<|Qw<|QX rfl (fun h=> ?_) fun h=> ?_
  ·
   obtain⟨q,hq,hqt⟩:=zru hgg hd0 (k:=i) (by omega)
   obtain⟨x,h_x⟩:=hS.at (k:=q) (by omega)
   have hgd:sl.getD (z3w g blk (i:Int)).toNat ByteArray.empty=x:=by rw[hq];simp[List.getD,h_x]
   have hsucc:=zii sl g blk i
   rw[hgd]at hsucc
   have hSW:=hS.mono hW
   have hilt:i<per:=by omega
   have hmem:x∈zae sl g blk per:=by
    rw[zae,List.mem_map]
    exact⟨i,by simp[hilt],hgd⟩
   have hql:q<sl.length:=by omega
   clear h
   have hdq: ∀w1,Cl 70 #[g.val,I blk,I (i:Int)] w1 fun e w'=>e= .returned (I q)∧Below w1.heap.size w1 w':=fun w1=>by have:=zyu g ok blk i w1;rw[hq]at this;exact this
   by_cases hbig:256<x.size
   ·
    skip
    refine QI<|Qw<|QJ<|QA<|Rb [15] rfl<|QD [0,1,2,3,4,5,6,7] rfl<|QS<|Qo 8<|Qh 8 (.a (.v _)) rfl rfl zsm (fun hg E w1 hm=>by exact hdq _) ?_
    refine Qo 9<|Qy 9 rfl rfl (z0c tok rfl (fun hg=>hSW.sl) (fun hg=>⟨by omega,by omega⟩))<|Qo 10<|Qy 10 rfl rfl (z08 tok q 0 x rfl (fun hg=>hSW) (fun hg=>h_x) rfl rfl)<|Qo 11<|Qh 11 (.a (.v _)) rfl rfl zys (fun hg E w1 hm=>by exact zs1 W g ⟨blk,i,⟨.slice a5 n5 c5,zae sl g blk i⟩⟩ x hbig (by simp only;omega) _ hm.leV hsv) ?_
    refine Qx [12] rfl<|z92 13 rfl (by kernel_rfl) rfl rfl rfl rfl (yV rfl) rfl<|zee 14 rfl (by kernel_rfl) rfl rfl rfl (fun _=>z72 tok rfl) rfl<|Qo 15<|Qj 15 rfl<|Qx [16] rfl<|Qe [2,3,4,8,9] rfl<|Qw<|QA<|QC<|QE 2 [2,3,4,8,9,54] rfl<|Qw<|QX rfl (fun h=> ?_) fun h=> ?_
    ·
     refine QA<|QC<|QE 3 [6,7] rfl<|Qw<|QO<|QP<|QL<|QP<|QL<|Qb rfl fun E w' hm=>⟨?_,hm.below (hW)⟩
     rw[hnv,if_neg (fun hc=>by have:=List.all_eq_true.1 hc x hmem;simp at this;omega)]
     rfl
    ·
     exfalso
     simp at h
   ·
    skip
    refine QI<|Qw<|QJ<|QA<|Rb [15] rfl<|QD [0,1,2,3,4,5,6,7] rfl<|QS<|Qo 8<|Qh 8 (.a (.v _)) rfl rfl zsm (fun hg E w1 hm=>by exact hdq _) ?_
    refine Qo 9<|Qy 9 rfl rfl (z0c tok rfl (fun hg=>hSW.sl) (fun hg=>⟨by omega,by omega⟩))<|Qo 10<|Qy 10 rfl rfl (z08 tok q 0 x rfl (fun hg=>hSW) (fun hg=>h_x) rfl rfl)<|Qo 11<|z4e 11 (fun z V'=> ∃a n c,z= .tuple #[.agg #[I blk,I ((i+1:Nat):Int), .slice a n c],I 0]∧SlOf V' z1a 1 (.slice a n c) (zae sl g blk i++[x])) rfl rfl rfl zys rfl rfl (fun hg E w1 hm=>by exact zw7 W g blk i _ (zae sl g blk i) x (by omega) (by omega) (by omega) (by omega) _ hm.leV hsv) ?_
    rintro z W6 hle6 hz
    obtain⟨a6,n6,c6,rfl,hs6⟩:=hz rfl
    rw[←hsucc]at hs6
    refine Qx [12] rfl<|z92 13 rfl (by kernel_rfl) rfl rfl rfl rfl (yV rfl) rfl<|zee 14 rfl (by kernel_rfl) rfl rfl rfl (fun _=>z72 tok rfl) rfl<|Qo 15<|Qj 15 rfl<|Qx [16] rfl<|Qe [2,3,4,8,9] rfl<|Qw<|QA<|QC<|QE 2 [2,3,4,8,9,54] rfl<|Qw<|QX rfl (fun h=> ?_) fun h=> ?_
    ·
     exfalso
     simp at h
    ·
     refine QI<|QM<|Qw<|Qr ((i+1, .slice a6 n6 c6,W6))<|⟨by omega,hW.trans hle6,hs6,by rw[hsucc,List.all_append,hall];simp;omega⟩
  ·
   refine QN<|QK<|QK<|QQ<|Qw<|QA<|QC<|Yy 1 rfl ?_
   have hip:i=per:=by omega
   subst hip
   have hcl:(zon (zae sl g blk i)).length≤256*8:=by
    have: ∀(l:List ByteArray),l.all (fun x=>decide (x.size≤256))=true→(zon l).length≤256*l.length:=by
     intro l
     induction l with
     |nil=>intro _;simp[zon]
     |cons a r ih=>
      intro h
      rw[List.all_cons,Bool.and_eq_true,decide_eq_true_eq]at h
      have:=ih h.2
      have hz:=z33 a
      simp only[zon,List.flatMap_cons,List.length_append,List.length_cons]at this⊢
      omega
    have:=this _ hall
    omega
   refine Qc (.a (.v _)) rfl j7s (fun hg E w1 hm=>by exact j1x W ⟨blk,i,⟨.slice a5 n5 c5,zae sl g blk i⟩⟩ _ hm.leV hsv (by simp only;omega) (by simp only;omega)) ?_
   refine QE 2 [6,7] rfl<|Qw<|QO<|Qb rfl fun E w' hm=>⟨?_,hm.below (hW)⟩
   rw[hnv,if_pos hall]
   rfl
theorem zut(L:List ByteArray)(x:ByteArray):zq4 (L++[x])=zq4 L++x:=by
 apply ByteArray.ext
 rw[ByteArray.data_append]
 simp[zq4,z0i,zon]
theorem zq0: ∀(l:List ByteArray),l.all (fun x=>decide (x.size≤256))=true→(zon l).length≤256*l.length
 |[],_=>by simp[zon]
 |a::r,h=>by
  rw[List.all_cons,Bool.and_eq_true,decide_eq_true_eq]at h
  have:=zq0 r h.2
  have hz:=z33 a
  simp only[zon,List.flatMap_cons,List.length_append,List.length_cons]at this⊢
  omega
theorem zxu(V:Vw)(g:Geo)(ok:g.Ok)(d:Device)(blk:Int)(w:World)(hV:V.le (vw w))(hd0:DevIn V d):Rt 41 #[g.val,d.val,I blk] w (.tuple #[S (zeu g d blk).1,I (zeu g d blk).2]):=by
 obtain⟨⟨sv,sl⟩,⟨cv,cl⟩,⟨kv,kl⟩,nx,⟨fv,fl⟩⟩:=d
 obtain⟨a1,n1,c1,rfl⟩:=z04 hd0.s.sl
 obtain⟨a2,n2,c2,rfl⟩:=z04 hd0.cache.sl
 obtain⟨a3,n3,c3,rfl⟩:=z04 hd0.keys.sl
 obtain⟨a4,n4,c4,rfl⟩:=z04 hd0.fenced.sl
 have hd:=hd0.mono hV
 have hS:=hd.s
 have hsn:=hd.sn
 simp only[maxLen]at hS hsn
 generalize hD:(⟨⟨.slice a1 n1 c1,sl⟩,⟨.slice a2 n2 c2,cl⟩,⟨.slice a3 n3 c3,kl⟩,nx,⟨.slice a4 n4 c4,fl⟩⟩:Device)=D at*
 have hval:D.val= .agg #[.slice a1 n1 c1, .slice a2 n2 c2, .slice a3 n3 c3,I nx, .slice a4 n4 c4]:=by rw[←hD]
 have hDl:D.s.l=sl:=by rw[←hD]
 have hchk:=fun(w1:World) (hle:(vw w).le (vw w1))=>z8b (vw w) D w1 hle hd
 have hnb:zr0 g D blk=(z2a D&&(z2y g&&decide ((sl.length:Int)=z5j g∧0≤z3w g blk 0))):=by rw[zr0,hDl]
 rw[hval]at hchk⊢
 clear hD hd hd0 hval
 refine Qf [.a (.v g.val), .a (.v (.agg #[.slice a1 n1 c1, .slice a2 n2 c2, .slice a3 n3 c3,I nx, .slice a4 n4 c4])), .a (.v (I blk))] Tryz.func41 rfl<|QA<|QC<|QE 4 [2,3,4] rfl<|Qw<|QA<|QA<|z11 mixed (by kernel_rfl)<|Dm 1 rfl<|Qq (.a (.v _)) rfl z78 (fun hg E w1 hm=>by exact z3k g ok _) ?_
 refine Dm 3 rfl<|Qq (.a (.v _)) rfl zoh (fun hg E w1 hm=>by exact hchk _ hm.leV) ?_
 refine Dm 5 rfl<|Qd rfl (z0l tok rfl (fun hg=>hS.sl))<|Dm 1 rfl<|Qq (.a (.v _)) rfl zk0 (fun hg E w1 hm=>by exact z6k g ok _) ?_
 refine Dm 5 rfl<|Qq (.a (.v _)) rfl zqo (fun hg E w1 hm=>by exact zdt g ok blk 0 _) ?_
 refine Dm 2 rfl<|z1z [2,3,4,32] rfl<|Qw<|QX rfl (fun h=> ?_) fun h=> ?_
 ·
  refine QA<|QC<|QE 2 [6,7] rfl<|Qw<|QO<|QL<|Qb rfl fun E w' hm=>⟨?_,hm.below lr⟩
  have hno:zr0 g D blk=false:=by
   rw[Bool.eq_false_iff]
   intro hc
   simp only[hnb,Bool.and_eq_true,decide_eq_true_eq]at hc
   rw[if_pos hc.1,hc.2.1]at h
   simp at h
   omega
  rw[zeu,hno]
  rfl
 ·
  have hyes:zr0 g D blk=true:=by
   rw[hnb]
   simp only[Bool.and_eq_true,decide_eq_true_eq]
   obtain⟨⟨⟨h1,h2⟩,h3⟩,h4⟩:=h
   refine⟨?_,h1,by omega,by omega⟩
   by_cases hc:z2a D=true
   · exact hc
   · rw[if_neg hc]at h2;omega
  simp only[hnb,Bool.and_eq_true,decide_eq_true_eq]at hyes
  obtain⟨hck,hgg,htot,hd0⟩:=hyes
  clear h
  have hf:=z0b hgg
  obtain⟨per,hper⟩: ∃per:Nat,g.per=per:=⟨g.per.toNat,by omega⟩
  have hpn:g.per.toNat=per:=by omega
  have hnv:zeu g D blk=if(zae sl g blk per).all (fun x=>decide (x.size≤256))=true then(zq4 (zae sl g blk per),0)else(ByteArray.empty,50):=by
   rw[zeu,if_pos (by rw[hnb,hck,hgg,decide_eq_true ⟨htot,hd0⟩];rfl),hDl,hpn]
  have e0:zq4 (zae sl g blk 0)=⟨#[]⟩:=rfl
  refine QI<|Qw<|QA<|QC<|QE 1 [2,3,4,8] rfl<|Qw<|QA<|QA<|QC<|QE 1 [2,3,4,8,9] rfl<|Qw<|QJ<|Ql [2,3,4] [0,1] rfl rfl (σ:=Nat) (fun i=>[(8, .a (.v (S (zq4 (zae sl g blk i))))),(9, .a (.v (I i)))]) (fun i=>[(0, .lit (g.cells.map .v) 23),(1, .lit [.v (.slice a1 n1 c1), .v (.slice a2 n2 c2), .v (.slice a3 n3 c3), .v (I nx), .v (.slice a4 n4 c4)] 28)]) (fun i=>i≤per∧(zae sl g blk i).all (fun x=>decide (x.size≤256))=true) (fun i=>per - i) (0) (⟨by omega,rfl⟩) ?_ (hs:=by repeat (first|exact z52.nil|refine z52.cons rfl ?_|refine z52.cons (by simp only[e0];first|done|rfl) ?_)) (hO:=by repeat (first|exact z3b.nil|refine z3b.cons rfl ?_|refine z3b.cons (by simp only[e0];first|done|rfl) ?_))
  rintro i ⟨hi,hall⟩
  refine QA<|QA<|QC<|QE 4 [2,3,4,8,9,36] rfl<|Qw<|QX rfl (fun h=> ?_) fun h=> ?_
  ·
   refine QI<|Qw<|QA<|QJ<|QA<|z11 mixed (by kernel_rfl)<|Dm 5 rfl ?_
   obtain⟨q,hq,hqt⟩:=zru hgg hd0 (k:=i) (by omega)
   obtain⟨x,h_x⟩:=hS.at (k:=q) (by omega)
   have hgd:sl.getD (z3w g blk (i:Int)).toNat ByteArray.empty=x:=by rw[hq];simp[List.getD,h_x]
   have hsucc:=zii sl g blk i
   rw[hgd]at hsucc
   have hilt:i<per:=by omega
   have hmem:x∈zae sl g blk per:=by
    rw[zae,List.mem_map]
    exact⟨i,by simp[hilt],hgd⟩
   have hql:q<sl.length:=by omega
   have hcl:=zq0 _ hall
   have hcs:=zqb (zae sl g blk i)
   have hnl:=zn7 sl g blk i
   refine Qq (.a (.v _)) rfl zqo (fun hg E w1 hm=>by exact zdt g ok blk i _) ?_
   rw[hq]
   have hlt_x:=z01 h_x
   refine Qd rfl (z0c tok rfl (fun hg=>hS.sl) (fun hg=>⟨by omega,by omega⟩))<|Qd rfl (z08 tok (q) 0 (x) rfl (fun hg=>hS) (fun hg=>h_x) rfl rfl)<|Dm 1 rfl<|z1z [2,3,4,8,9,10] rfl<|Qw<|QA<|QA<|QC<|QE 3 [2,3,4,8,9,10,49] rfl<|Qw<|QX rfl (fun h=> ?_) fun h=> ?_
   ·
    refine QA<|QC<|QE 2 [6,7] rfl<|Qw<|QO<|QL<|QP<|QL<|QL<|QP<|QL<|Qb rfl fun E w' hm=>⟨?_,hm.below lr⟩
    rw[hnv,if_neg (fun hc=>by have:=List.all_eq_true.1 hc x hmem;simp at this;omega)]
    rfl
   ·
    refine QI<|Qw<|QC<|Yy 2 rfl<|QY rfl (zwi rfl (fun hg=>by omega))<|QE 1 [2,3,4,8,9] rfl<|QM<|Qw<|QC<|QE 3 [2,3,4,8,9] rfl<|Qw ?_
    rw[←zut,←hsucc,z06 (n:=(i:Int)+1) (by omega) (by omega)]
    refine Qr (i+1)<|⟨by omega,by rw[hsucc,List.all_append,hall];simp;omega⟩
  ·
   refine QN<|QK<|QK<|QQ<|Qw<|QA<|QC<|QE 3 [6,7] rfl<|Qw<|QO<|z0h tok rfl ?_
   have hip:i=per:=by omega
   subst hip
   intro E w' hm _
   refine⟨?_,hm.below lr⟩
   rw[hnv,if_pos hall]
   rfl
def z5y(g:Geo)(D:List ByteArray)(k:Nat):Bool:=(List.range k).all fun i:Nat=>decide (z94 (D.getD (z1o g (i:Int)).toNat ByteArray.empty)=0)
theorem z8z(g:Geo)(D:List ByteArray)(k:Nat):z5y g D (k+1)=(z5y g D k&&decide (z94 (D.getD (z1o g (k:Int)).toNat ByteArray.empty)=0)):=by
 simp[z5y,List.range_succ]
theorem zju{g:Geo}{D:List ByteArray}{k n:Nat}(hk:k<n)(h: ¬z94 (D.getD (z1o g (k:Int)).toNat ByteArray.empty)=0):z5y g D n=false:=by
 rw[z5y,List.all_eq_false]
 exact⟨k,List.mem_range.2 hk,by simpa using h⟩
def z3o(g:Geo)(d:Device):Bool:=decide (srE (d.s.l.getD 0 ByteArray.empty)=0)&&((srV (d.s.l.getD 0 ByteArray.empty)).eqB g&&(z5y g d.s.l g.slots.toNat&&decide ((zc0 g d).2=0)))
def svE(g:Geo)(d:Device):Int:=if zaa g d=true then(if z3o g d=true then 0 else 50)else 2
def tbS(g:Geo)(d:Device):Tb:=z5r g.blocks (zi4 g.slots) (zc0 g d).1
def z76(g:Geo)(D:List ByteArray)(k:Nat):List Int:=(List.range k).map fun i:Nat=>z3l (D.getD (z1o g (i:Int)).toNat ByteArray.empty)
theorem zlf(g:Geo)(D:List ByteArray)(k:Nat):z76 g D (k+1)=z76 g D k++[z3l (D.getD (z1o g (k:Int)).toNat ByteArray.empty)]:=by simp[z76,List.range_succ]
theorem zai(g:Geo)(D:List ByteArray)(k:Nat):(z76 g D k).length=k:=by simp[z76]
theorem zjc{g:Geo}{D:List ByteArray}{k n:Nat}(h:k<n):(z76 g D n)[k]? =some (z3l (D.getD (z1o g (k:Int)).toNat ByteArray.empty)):=by simp[z76,h]
structure RowsAll(g:Geo)(d:Device)(A:Nat→List Record):Prop where
 no: ∀(i:Nat) s,(tbS g d).S[i]? =some s→s.key=0→A i=[]
 at_: ∀(i:Nat) s,(tbS g d).S[i]? =some s→s.key≠0→RowsOf g (i:Int) s.key (z3l (d.s.l.getD (z1o g (i:Int)).toNat ByteArray.empty)) d.s.l (A i)
def z5l(l:List Record):Nat:=l.countP fun r=>decide (0<r.count)
theorem zp1(l:List Record)(r:Record):z5l (l++[r])=z5l l+if 0<r.count then 1 else 0:=by simp[z5l,List.countP_append,List.countP_cons]
theorem zol(l:List Record):z5l l≤l.length:=List.countP_le_length
def zg4(s:Slot)(tail:Int)(A:List Record):View:=⟨s.key,s.claim,tail,(A.length:Int),(whole A:Int),(z5l (A.take (whole A)):Int)⟩
def z6e(g:Geo)(d:Device)(A:Nat→List Record)(k:Nat):List View:=(List.range k).map fun i:Nat=>zg4 ((tbS g d).S.getD i ⟨0,0⟩) (z3l (d.s.l.getD (z1o g (i:Int)).toNat ByteArray.empty)) (A i)
theorem zek(g:Geo)(d:Device)(A:Nat→List Record)(k:Nat):z6e g d A (k+1)=z6e g d A k++[zg4 ((tbS g d).S.getD k ⟨0,0⟩) (z3l (d.s.l.getD (z1o g (k:Int)).toNat ByteArray.empty)) (A k)]:=by simp[z6e,List.range_succ]
theorem zgf(g:Geo)(d:Device)(A:Nat→List Record)(k:Nat):(z6e g d A k).length=k:=by simp[z6e]
def z6j(g:Geo)(d:Device)(k:Nat):List Sight:=(List.range k).map fun n:Nat=>⟨(zeu g d (n:Int)).1,(zeu g d (n:Int)).1,0⟩
def zc5(g:Geo)(d:Device)(k:Nat):Bool:=(List.range k).all fun n:Nat=>decide ((zeu g d (n:Int)).2=0)
def zyo(i:Int)(X:List Sight)(b:Block):List Sight:=X.set b.n.toNat ⟨(X.getD b.n.toNat ⟨ByteArray.empty,ByteArray.empty,0⟩).now,b.text,i⟩
def z7c(i:Int)(X:List Sight)(l:List Block):List Sight:=l.foldl (zyo i) X
def zer(A:Nat→List Record)(i:Nat):List Block:=zht ((A i).take (whole (A i)))
def z2u(g:Geo)(A:Nat→List Record)(X:List Sight):Nat→List Sight
 |0=>X
 |i+1=>z7c ((i:Int)+1) (z2u g A X i) (zer A i)
def zcs(g:Geo)(A:Nat→List Record)(k:Nat):Bool:=(List.range k).all fun i:Nat=>zcl g (zer A i)
theorem z86(g:Geo)(d:Device)(k:Nat):z6j g d (k+1)=z6j g d k++[⟨(zeu g d (k:Int)).1,(zeu g d (k:Int)).1,0⟩]:=by simp[z6j,List.range_succ]
theorem z9n(g:Geo)(d:Device)(k:Nat):(z6j g d k).length=k:=by simp[z6j]
theorem z8h(g:Geo)(d:Device)(k:Nat):zc5 g d (k+1)=(zc5 g d k&&decide ((zeu g d (k:Int)).2=0)):=by simp[zc5,List.range_succ]
theorem zmk{g:Geo}{d:Device}{k n:Nat}(hk:k<n)(h: ¬(zeu g d (k:Int)).2=0):zc5 g d n=false:=by
 rw[zc5,List.all_eq_false]
 exact⟨k,List.mem_range.2 hk,by simpa using h⟩
theorem zpi(g:Geo)(A:Nat→List Record)(k:Nat):zcs g A (k+1)=(zcs g A k&&zcl g (zer A k)):=by simp[zcs,List.range_succ]
theorem zmn{g:Geo}{A:Nat→List Record}{k n:Nat}(hk:k<n)(h: ¬zcl g (zer A k)=true):zcs g A n=false:=by
 rw[zcs,List.all_eq_false]
 exact⟨k,List.mem_range.2 hk,by simpa using h⟩
theorem zxi(i:Int)(X:List Sight)(b:Block):(zyo i X b).length=X.length:=by rw[zyo,List.length_set]
theorem z7j(i:Int): ∀(l:List Block) (X:List Sight),(z7c i X l).length=X.length
 |[],_=>rfl
 |b::t,X=>by
  rw[z7c,List.foldl_cons]
  exact(z7j i t (zyo i X b)).trans<|zxi i X b
theorem zpt(i:Int)(X:List Sight)(l:List Block)(b:Block):z7c i X (l++[b])=zyo i (z7c i X l) b:=by simp[z7c]
theorem z5s(g:Geo)(A:Nat→List Record)(X:List Sight): ∀k,(z2u g A X k).length=X.length
 |0=>rfl
 |k+1=>by rw[z2u,z7j,z5s g A X k]
def z2c(g:Geo)(d:Device)(A:Nat→List Record):Bool:=zc5 g d g.blocks.toNat&&zcs g A g.slots.toNat
def z3e(g:Geo)(d:Device)(A:Nat→List Record):List Sight:=if svE g d=0∧z2c g d A=true then z2u g A (z6j g d g.blocks.toNat) g.slots.toNat else []
def z42(g:Geo)(d:Device)(A:Nat→List Record):Int:=if svE g d=0 then(if z2c g d A=true then 0 else 50)else svE g d
def View.eqB(a b:View):Bool:=a.key==b.key&&(a.claim==b.claim&&(a.tail==b.tail&&(a.records==b.records&&(a.whole==b.whole&&a.txns==b.txns))))
def Sight.eqB(a b:Sight):Bool:=a.now.toList==b.now.toList&&(a.then_.toList==b.then_.toList&&a.by_==b.by_)
theorem View.eqB_refl(a:View):a.eqB a=true:=by simp[View.eqB]
theorem Sight.eqB_refl(a:Sight):a.eqB a=true:=by simp[Sight.eqB]
theorem zyb{op:BinOp}{ox oy:Operand}(a b:View)(w:World)(hop:op= .eql∨op= .neq):
  (do eqGuard op 54 ox oy a.val b.val;binOp op 54 a.val b.val:Sem Value).run Tryz.prog w= .ok (.bool (if op= .eql then a.eqB b else !(a.eqB b))) w:=by
 have hS:Tryz.prog.underlying 54=some (.struct (Tryz.prog.fieldsOf 54)):=by kernel_rfl
 have hp:Tryz.prog.stoodInHeld 54=false:=by kernel_rfl
 have hg:Tryz.prog.eqGuardType Tryz.prog.depth 54=false:=by kernel_rfl
 have key:(Op.equalIn 10000 54 a.val b.val).run Tryz.prog w= .ok (a.eqB b) w:=by
  have u3:=Tryz.underlying3
  have a3:=Tryz.isAgg3
  have z3:=Tryz.sizeOf3
  rw[show(10000:Nat)=9999+1 from rfl,run_equalIn_agg w 9999 54 _ _ hS hp]
  simp only[Program.fieldsOf,Tryz.underlying54]
  go_simp
  unfold View.eqB
  by_cases h1:a.key=b.key<;>simp[h1]
  by_cases h2:a.claim=b.claim<;>simp[h2]
  by_cases h3:a.tail=b.tail<;>simp[h3]
  by_cases h4:a.records=b.records<;>simp[h4]
  by_cases h5:a.whole=b.whole<;>simp[h5]
  by_cases h6:a.txns=b.txns<;>simp[h6]
 rw[Sem.run_bind,run_eqGuard_agg w _ _ _ _ _ _ hg]
 rcases hop with rfl|rfl
 · simp only[Result.andThen_ok,run_eql_struct,key];rfl
 · simp only[Result.andThen_ok,run_neq_struct,key];rfl
theorem zln{op:BinOp}{ox oy:Operand}(a b:Sight)(w:World)(hop:op= .eql∨op= .neq):
  (do eqGuard op 56 ox oy a.val b.val;binOp op 56 a.val b.val:Sem Value).run Tryz.prog w= .ok (.bool (if op= .eql then a.eqB b else !(a.eqB b))) w:=by
 have hS:Tryz.prog.underlying 56=some (.struct (Tryz.prog.fieldsOf 56)):=by kernel_rfl
 have hp:Tryz.prog.stoodInHeld 56=false:=by kernel_rfl
 have hg:Tryz.prog.eqGuardType Tryz.prog.depth 56=false:=by kernel_rfl
 have key:(Op.equalIn 10000 56 a.val b.val).run Tryz.prog w= .ok (a.eqB b) w:=by
  have u3:=Tryz.underlying3
  have a3:=Tryz.isAgg3
  have z3:=Tryz.sizeOf3
  have u9:=Tryz.underlying9
  have a9:=Tryz.isAgg9
  have z9:=Tryz.sizeOf9
  rw[show(10000:Nat)=9999+1 from rfl,run_equalIn_agg w 9999 56 _ _ hS hp]
  simp only[Program.fieldsOf,Tryz.underlying56]
  go_simp
  unfold Sight.eqB
  by_cases h1:a.now.toList=b.now.toList<;>by_cases h2:a.then_.toList=b.then_.toList<;>by_cases h3:a.by_=b.by_<;>simp[h1,h2,h3]
 rw[Sem.run_bind,run_eqGuard_agg w _ _ _ _ _ _ hg]
 rcases hop with rfl|rfl
 · simp only[Result.andThen_ok,run_eql_struct,key];rfl
 · simp only[Result.andThen_ok,run_neq_struct,key];rfl
def z4j:Nat→List Sight→List Int
 |_,[]=>[]
 |n,s::r=>(if s.by_=0 then []else [(n:Int)])++z4j (n+1) r
theorem zg3: ∀(l:List Sight) (n:Nat) (s:Sight),z4j n (l++[s])=z4j n l++(if s.by_=0 then []else [((n+l.length:Nat):Int)])
 |[],n,s=>by simp[z4j]
 |x::r,n,s=>by
  rw[List.cons_append,z4j,z4j,zg3 r,List.append_assoc,List.length_cons,show n+1+r.length=n+(r.length+1) by omega]
theorem zas{l:List Sight}{i:Nat}{s:Sight}(h:l[i]? =some s):z4j 0 (l.take (i+1))=z4j 0 (l.take i)++(if s.by_=0 then []else [(i:Int)]):=by
 have hi:=(List.getElem?_eq_some_iff.1 h).1
 rw[z0y h,zg3,List.length_take,Nat.zero_add,Nat.min_eq_left (by omega)]
theorem za7: ∀(l:List Sight) (n:Nat),(z4j n l).length≤l.length
 |[],_=>Nat.le_refl _
 |x::r,n=>by
  have:=za7 r (n+1)
  rw[z4j,List.length_append,List.length_cons]
  split<;>simp<;>omega
def z4l(l:List View):Bool:=l.all fun v=>decide (¬0<v.whole)
def z7b(s:ByteArray):Int×Int:=match z17 3 s [6,6]with
 |some (l,r)=>if r.size=0∧1≤l.getD 0 0∧1≤l.getD 1 0 then(l.getD 0 0,l.getD 1 0)else(0,0)
 |none=>(0,0)
theorem zop{l:List Int}(h:l.length=2): ∃a b,l=[a,b]:=by
 match l,h with
 |[a,b],_=>exact⟨a,b,rfl⟩
theorem j0n(s:ByteArray)(hs:s.size≤maxLen)(w:World):Rt 44 #[S s] w (.tuple #[I (z7b s).1,I (z7b s).2]):=by
 refine Qf [.a (.v (S s))] Tryz.func44 rfl<|QA<|QC<|QE 2 [0] rfl<|Qw<|QA<|QC<|Yy 1 rfl<|zp7 tok rfl rfl rfl rfl fun b1 V1 hle1 hb1=>Qv (zxe 3 s [6,6]) rfl znq (fun hg E w1 hm=>by exact z7m hm.leV (zcd 3 s V1 _ [6,6] w1 hs hm.leV (SlOf.ofBlock (enc:=z0a) (sz:=1) (l:=[6,6]) (hb1 rfl) rfl (fun _=>rfl) (Nat.le_refl _)) (by simp))) ?_
 rintro x V2 hle2 hx
 have hx':=hx rfl
 clear hx
 rcases hx' with⟨l,r,v,hfr,rfl,hsl⟩|⟨hfr,rfl⟩
 ·
  obtain⟨a,b,rfl⟩:=zop (by rw[z39 hfr];rfl)
  have e0:([a,b]:List Int)[0]? =some a:=rfl
  have e1:([a,b]:List Int)[1]? =some b:=rfl
  have hsv:z7b s=if r.size=0∧1≤a∧1≤b then(a,b)else(0,0):=by rw[z7b,hfr];rfl
  refine QE 7 [4,5,6] rfl<|Qw<|QA<|QA<|z11 mixed (by kernel_rfl)<|Dm 8 rfl ?_
  have hlt_a:=z01 e0
  refine Qd rfl (z0c tok rfl (fun hg=>hsl.sl) (fun hg=>⟨by omega,by simp⟩))<|Qd rfl (z08 tok (0) 0 (a) rfl (fun hg=>hsl) (fun hg=>e0) rfl rfl)<|Dm 1 rfl ?_
  have hlt_b:=z01 e1
  refine Qd rfl (z0c tok rfl (fun hg=>hsl.sl) (fun hg=>⟨by omega,by simp⟩))<|Qd rfl (z08 tok (1) 0 (b) rfl (fun hg=>hsl) (fun hg=>e1) rfl rfl)<|Qd rfl (j2f rfl)<|Dm 2 rfl<|z1z [4,29] rfl<|Qw<|Qn rfl (fun h=> ?_) fun h=> ?_
  ·
   refine QA<|QC<|QE 2 [2,3] rfl<|Qw<|QO<|QL<|Qb rfl fun E w' hm=>⟨?_,hm.below ((hle1.trans hle2))⟩
   rw[hsv,if_neg]
   · rfl
   ·
    rintro⟨h1,h2,h3⟩
    rw[z1t,h1]at h
    simp at h
    omega
  ·
   refine QI<|Qw<|QA<|z11 mixed (by kernel_rfl)<|Dm 1 rfl ?_
   have hlt_a:=z01 e0
   refine Qd rfl (z0c tok rfl (fun hg=>hsl.sl) (fun hg=>⟨by omega,by simp⟩))<|Qd rfl (z08 tok (0) 0 (a) rfl (fun hg=>hsl) (fun hg=>e0) rfl rfl)<|Dm 1 rfl ?_
   have hlt_b:=z01 e1
   refine Qd rfl (z0c tok rfl (fun hg=>hsl.sl) (fun hg=>⟨by omega,by simp⟩))<|Qd rfl (z08 tok (1) 0 (b) rfl (fun hg=>hsl) (fun hg=>e1) rfl rfl)<|Dm 2 rfl<|z1z [2,3] rfl<|Qw<|QO<|Qb rfl fun E w' hm=>⟨?_,hm.below ((hle1.trans hle2))⟩
   rw[hsv,if_pos]
   · rfl
   ·
    rw[z1t]at h
    generalize r.size=k at h⊢
    simp at h
    omega
 ·
  have e0:([0,0]:List Int)[0]? =some 0:=rfl
  have e1:([0,0]:List Int)[1]? =some 0:=rfl
  have hsv:z7b s=(0,0):=by rw[z7b,hfr]
  refine QE 7 [4,5,6] rfl<|Qw<|QA<|QA<|z11 mixed (by kernel_rfl)<|Dm 8 rfl ?_
  have hlt__0___Int_:=z01 e0
  refine Qd rfl (z0c tok rfl (fun hg=>(absurd hg (by decide):SlOf V2 z0a 1 (.slice none 0 0) [0,0]).sl) (fun hg=>absurd hg (by decide)))<|Qd rfl (z08 tok (0) 0 ((0:Int)) rfl (fun hg=>(absurd hg (by decide):SlOf V2 z0a 1 (.slice none 0 0) [0,0])) (fun hg=>e0) rfl rfl)<|Dm 1 rfl ?_
  have hlt__0___Int_:=z01 e1
  refine Qd rfl (z0c tok rfl (fun hg=>(absurd hg (by decide):SlOf V2 z0a 1 (.slice none 0 0) [0,0]).sl) (fun hg=>absurd hg (by decide)))<|Qd rfl (z08 tok (1) 0 ((0:Int)) rfl (fun hg=>(absurd hg (by decide):SlOf V2 z0a 1 (.slice none 0 0) [0,0])) (fun hg=>e1) rfl rfl)<|Qd rfl (j2f rfl)<|Dm 2 rfl<|z1z [4,29] rfl<|Qw<|Qn rfl (fun h=> ?_) fun h=> ?_
  ·
   refine QA<|QC<|QE 2 [2,3] rfl<|Qw<|QO<|QL<|Qb rfl fun E w' hm=>⟨?_,hm.below ((hle1.trans hle2))⟩
   rw[hsv]
   rfl
  ·
   exact absurd h (by decide)
theorem j27(s:ByteArray)(hs:s.size≤maxLen)(w:World):Rt 47 #[S s] w (.tuple #[I (z7b s).1,I (z7b s).2]):=by
 refine Qf [.a (.v (S s))] Tryz.func47 rfl<|QA<|QC<|QE 2 [0] rfl<|Qw<|QA<|QC<|Yy 1 rfl<|zp7 tok rfl rfl rfl rfl fun b1 V1 hle1 hb1=>Qv (zxe 3 s [6,6]) rfl zn1 (fun hg E w1 hm=>by exact z7m hm.leV (z6r 3 s V1 _ [6,6] w1 hs hm.leV (SlOf.ofBlock (enc:=z0a) (sz:=1) (l:=[6,6]) (hb1 rfl) rfl (fun _=>rfl) (Nat.le_refl _)) (by simp))) ?_
 rintro x V2 hle2 hx
 have hx':=hx rfl
 clear hx
 rcases hx' with⟨l,r,v,hfr,rfl,hsl⟩|⟨hfr,rfl⟩
 ·
  obtain⟨a,b,rfl⟩:=zop (by rw[z39 hfr];rfl)
  have e0:([a,b]:List Int)[0]? =some a:=rfl
  have e1:([a,b]:List Int)[1]? =some b:=rfl
  have hsv:z7b s=if r.size=0∧1≤a∧1≤b then(a,b)else(0,0):=by rw[z7b,hfr];rfl
  refine QE 7 [4,5,6] rfl<|Qw<|QA<|QA<|QC<|Yy 8 rfl ?_
  have hlt_a:=z01 e0
  refine QY rfl (z0c tok rfl (fun hg=>hsl.sl) (fun hg=>⟨by omega,by simp⟩))<|QY rfl (z08 tok (0) 0 (a) rfl (fun hg=>hsl) (fun hg=>e0) rfl rfl)<|Yy 4 rfl ?_
  have hlt_b:=z01 e1
  refine QY rfl (z0c tok rfl (fun hg=>hsl.sl) (fun hg=>⟨by omega,by simp⟩))<|QY rfl (z08 tok (1) 0 (b) rfl (fun hg=>hsl) (fun hg=>e1) rfl rfl)<|QE 2 [4,31] rfl<|Qw<|Qn rfl (fun h=> ?_) fun h=> ?_
  ·
   refine QA<|QC<|QE 2 [2,3] rfl<|Qw<|QO<|QL<|Qb rfl fun E w' hm=>⟨?_,hm.below ((hle1.trans hle2))⟩
   rw[hsv,if_neg]
   · rfl
   ·
    rintro⟨h1,h2,h3⟩
    rw[z1t,h1]at h
    simp at h
    omega
  ·
   refine QI<|Qw<|QA<|z11 mixed (by kernel_rfl)<|Dm 1 rfl ?_
   have hlt_a:=z01 e0
   refine Qd rfl (z0c tok rfl (fun hg=>hsl.sl) (fun hg=>⟨by omega,by simp⟩))<|Qd rfl (z08 tok (0) 0 (a) rfl (fun hg=>hsl) (fun hg=>e0) rfl rfl)<|Dm 1 rfl ?_
   have hlt_b:=z01 e1
   refine Qd rfl (z0c tok rfl (fun hg=>hsl.sl) (fun hg=>⟨by omega,by simp⟩))<|Qd rfl (z08 tok (1) 0 (b) rfl (fun hg=>hsl) (fun hg=>e1) rfl rfl)<|Dm 2 rfl<|z1z [2,3] rfl<|Qw<|QO<|Qb rfl fun E w' hm=>⟨?_,hm.below ((hle1.trans hle2))⟩
   rw[hsv,if_pos]
   · rfl
   ·
    rw[z1t]at h
    generalize r.size=k at h⊢
    simp at h
    omega
 ·
  have e0:([0,0]:List Int)[0]? =some 0:=rfl
  have e1:([0,0]:List Int)[1]? =some 0:=rfl
  have hsv:z7b s=(0,0):=by rw[z7b,hfr]
  refine QE 7 [4,5,6] rfl<|Qw<|QA<|QA<|QC<|Yy 8 rfl ?_
  have hlt__0___Int_:=z01 e0
  refine QY rfl (z0c tok rfl (fun hg=>(absurd hg (by decide):SlOf V2 z0a 1 (.slice none 0 0) [0,0]).sl) (fun hg=>absurd hg (by decide)))<|QY rfl (z08 tok (0) 0 ((0:Int)) rfl (fun hg=>(absurd hg (by decide):SlOf V2 z0a 1 (.slice none 0 0) [0,0])) (fun hg=>e0) rfl rfl)<|Yy 4 rfl ?_
  have hlt__0___Int_:=z01 e1
  refine QY rfl (z0c tok rfl (fun hg=>(absurd hg (by decide):SlOf V2 z0a 1 (.slice none 0 0) [0,0]).sl) (fun hg=>absurd hg (by decide)))<|QY rfl (z08 tok (1) 0 ((0:Int)) rfl (fun hg=>(absurd hg (by decide):SlOf V2 z0a 1 (.slice none 0 0) [0,0])) (fun hg=>e1) rfl rfl)<|QE 2 [4,31] rfl<|Qw<|Qn rfl (fun h=> ?_) fun h=> ?_
  ·
   refine QA<|QC<|QE 2 [2,3] rfl<|Qw<|QO<|QL<|Qb rfl fun E w' hm=>⟨?_,hm.below ((hle1.trans hle2))⟩
   rw[hsv]
   rfl
  ·
   exact absurd h (by decide)
theorem zp2(g:Geo):z8s 2 (zf4 g)=if z2y g=true then⟨1,g.nodes,2,1⟩else⟨0,0,0,1⟩:=by
 unfold zf4
 split<;>simp[zpm,z8s]
theorem zwq(g:Geo)(ok:g.Ok)(hG:z2y g=true)(i:Nat)(hi:(i:Int)<g.nodes)(w:World):Rt 46 #[g.val,I i] w (I (1+i)):=by
 have hr:=zp2 g
 rw[if_pos hG]at hr
 have hf:=z0b hG
 refine Qf [.a (.v g.val), .a (.v (I i))] Tryz.func46 rfl<|QA<|QC<|QE 2 [1,2] rfl<|Qw<|QA<|QC<|Yy 2 rfl<|Qc (.a (.v _)) rfl zd1 (fun hg E w1 hm=>by exact zlj g ok 2 i 0 _ hr g.nodes (by omega) (by dsimp only;omega) (by dsimp only;omega) (by dsimp only;omega) (by dsimp only;omega) (by dsimp only;omega) (1+i) (by rw[if_neg (by dsimp only;omega)];dsimp only;omega) _) ?_
 refine QE 1 [4] rfl<|Qw<|QO<|Qb rfl fun E w' hm=>⟨?_,hm.below lr⟩
 rfl
theorem j1p(V:Vw)(v v':Value)(L:List View)(w:World)(hV:V.le (vw w))(hs0:SlOf V View.cells 6 v L)(hs1:SlOf V View.cells 6 v' L)(hn:L.length≤100000):
  Rt 8 #[v,v'] w (.bool true):=by
 have hs:=hs0.mono hV
 have hs':=hs1.mono hV
 refine Qf [.a (.v v), .a (.v v')] Tryz.func8 rfl<|QA<|QC<|QE 1 [0,1] rfl<|Qw<|QA<|QA<|QC<|Yy 1 rfl<|QY rfl (z0l tok rfl (fun hg=>hs.sl))<|Yy 1 rfl<|QY rfl (z0l tok rfl (fun hg=>hs'.sl))<|QE 1 [0,1,10] rfl<|Qw<|QX rfl (fun h=> ?_) fun h=> ?_
 ·
  refine QA<|QC<|QE 1 [4] rfl<|Qw<|QO<|QL<|z0h tok rfl ?_
  contradiction
 ·
  clear h
  refine QI<|Qw<|QA<|QA<|QC<|QE 1 [0,1,5] rfl<|Qw<|QJ<|Ql [0,1] [] rfl rfl (σ:=Nat) (fun i=>[(5, .a (.v (I i)))]) (fun i=>[]) (fun i=>i≤L.length) (fun i=>L.length - i) (0) (by omega) ?_
  rintro i hi
  refine QA<|QA<|QC<|Yy 2 rfl<|QY rfl (z0l tok rfl (fun hg=>hs.sl))<|QE 1 [0,1,5,14] rfl<|Qw<|QX rfl (fun h=> ?_) fun h=> ?_
  ·
   refine QI<|Qw<|QA<|QJ<|QA<|z11 mixed (by kernel_rfl)<|Dm 2 rfl ?_
   obtain⟨r,h_r⟩:=hs.at (k:=i) (by omega)
   have hlt_r:=z01 h_r
   refine Qd rfl (z0c tok rfl (fun hg=>hs.sl) (fun hg=>⟨by omega,by omega⟩))<|Qd rfl (z08 tok (i) 0 (r) rfl (fun hg=>hs) (fun hg=>h_r) rfl rfl)<|Dm 2 rfl ?_
   have hlt_r:=z01 h_r
   refine Qd rfl (z0c tok rfl (fun hg=>hs'.sl) (fun hg=>⟨by omega,by omega⟩))<|Qd rfl (z08 tok (i) 0 (r) rfl (fun hg=>hs') (fun hg=>h_r) rfl rfl)<|Qd rfl (z60 (.bool (!(r.eqB r))) rfl (fun E w=>zyb r r w (.inr rfl)))<|z1z [0,1,5,25] rfl<|Qw<|Qn rfl (fun h=> ?_) fun h=> ?_
   ·
    refine QA<|QC<|QE 1 [4] rfl<|Qw<|QO<|QP<|QL<|QL<|QP<|QL<|z0h tok rfl ?_
    simp[View.eqB]at h
   ·
    refine QI<|QM<|Qw<|QC<|QE 3 [0,1,5] rfl<|Qw ?_
    rw[z06 (n:=(i:Int)+1) (by omega) (by omega)]
    refine Qr (i+1) (by omega)
  ·
   refine QN<|QK<|QK<|QQ<|Qw<|QA<|QC<|QE 1 [4] rfl<|Qw<|QO<|Qb rfl fun E w' hm=>⟨?_,hm.below lr⟩
   rfl
theorem zww(V:Vw)(v v':Value)(L:List Sight)(w:World)(hV:V.le (vw w))(hs0:SlOf V Sight.cells 3 v L)(hs1:SlOf V Sight.cells 3 v' L)(hn:L.length≤100000):
  Rt 13 #[v,v'] w (.bool true):=by
 have hs:=hs0.mono hV
 have hs':=hs1.mono hV
 refine Qf [.a (.v v), .a (.v v')] Tryz.func13 rfl<|QA<|QC<|QE 1 [0,1] rfl<|Qw<|QA<|QA<|QC<|Yy 1 rfl<|QY rfl (z0l tok rfl (fun hg=>hs.sl))<|Yy 1 rfl<|QY rfl (z0l tok rfl (fun hg=>hs'.sl))<|QE 1 [0,1,10] rfl<|Qw<|QX rfl (fun h=> ?_) fun h=> ?_
 ·
  refine QA<|QC<|QE 1 [4] rfl<|Qw<|QO<|QL<|z0h tok rfl ?_
  contradiction
 ·
  clear h
  refine QI<|Qw<|QA<|QA<|QC<|QE 1 [0,1,5] rfl<|Qw<|QJ<|Ql [0,1] [] rfl rfl (σ:=Nat) (fun i=>[(5, .a (.v (I i)))]) (fun i=>[]) (fun i=>i≤L.length) (fun i=>L.length - i) (0) (by omega) ?_
  rintro i hi
  refine QA<|QA<|QC<|Yy 2 rfl<|QY rfl (z0l tok rfl (fun hg=>hs.sl))<|QE 1 [0,1,5,14] rfl<|Qw<|QX rfl (fun h=> ?_) fun h=> ?_
  ·
   refine QI<|Qw<|QA<|QJ<|QA<|z11 mixed (by kernel_rfl)<|Dm 2 rfl ?_
   obtain⟨r,h_r⟩:=hs.at (k:=i) (by omega)
   have hlt_r:=z01 h_r
   refine Qd rfl (z0c tok rfl (fun hg=>hs.sl) (fun hg=>⟨by omega,by omega⟩))<|Qd rfl (z08 tok (i) 0 (r) rfl (fun hg=>hs) (fun hg=>h_r) rfl rfl)<|Dm 2 rfl ?_
   have hlt_r:=z01 h_r
   refine Qd rfl (z0c tok rfl (fun hg=>hs'.sl) (fun hg=>⟨by omega,by omega⟩))<|Qd rfl (z08 tok (i) 0 (r) rfl (fun hg=>hs') (fun hg=>h_r) rfl rfl)<|Qd rfl (z60 (.bool (!(r.eqB r))) rfl (fun E w=>zln r r w (.inr rfl)))<|z1z [0,1,5,25] rfl<|Qw<|Qn rfl (fun h=> ?_) fun h=> ?_
   ·
    refine QA<|QC<|QE 1 [4] rfl<|Qw<|QO<|QP<|QL<|QL<|QP<|QL<|z0h tok rfl ?_
    simp[Sight.eqB]at h
   ·
    refine QI<|QM<|Qw<|QC<|QE 3 [0,1,5] rfl<|Qw ?_
    rw[z06 (n:=(i:Int)+1) (by omega) (by omega)]
    refine Qr (i+1) (by omega)
  ·
   refine QN<|QK<|QK<|QQ<|Qw<|QA<|QC<|QE 1 [4] rfl<|Qw<|QO<|Qb rfl fun E w' hm=>⟨?_,hm.below lr⟩
   rfl
theorem ztw(V:Vw)(v:Value)(L:List View)(w:World)(hV:V.le (vw w))(hs0:SlOf V View.cells 6 v L)(hn:L.length≤100000):
  Rt 22 #[v] w (.bool (z4l L)):=by
 have hs:=hs0.mono hV
 refine Qf [.a (.v v)] Tryz.func22 rfl<|QA<|QC<|QE 1 [0] rfl<|Qw<|QA<|QA<|QC<|Yy 1 rfl<|QY rfl (z0l tok rfl (fun hg=>hs.sl))<|QE 1 [5,6,7] rfl<|Qw<|QJ<|Ql [5,6] [] rfl rfl (σ:=Nat) (fun i=>[(7, .a (.v (I i)))]) (fun i=>[]) (fun i=>i≤L.length∧ ∀(k:Nat) x,k<i→L[k]? =some x→ ¬0<x.whole) (fun i=>L.length - i) (0) (⟨by omega,fun k x hk=>absurd hk (by omega)⟩) ?_
 rintro i ⟨hi,hno⟩
 refine QA<|QC<|QE 1 [5,6,7,8] rfl<|Qw<|QA<|QX rfl (fun h=> ?_) fun h=> ?_
 ·
  refine QI<|Qw<|QA<|QJ<|QA<|QC ?_
  obtain⟨r,h_r⟩:=hs.at (k:=i) (by omega)
  have hlt_r:=z01 h_r
  refine QY rfl (z0c tok rfl (fun hg=>hs.sl) (fun hg=>⟨by omega,by omega⟩))<|QY rfl (z08 tok (i) 0 (r) rfl (fun hg=>hs) (fun hg=>h_r) rfl rfl)<|Yy 1 rfl<|Qs rfl<|z07 [4,5,6,7] rfl<|Qw<|QA<|QC<|QE 3 [5,6,7,13] rfl<|Qw<|QX rfl (fun h=> ?_) fun h=> ?_
  ·
   refine QA<|QC<|QE 1 [2] rfl<|Qw<|QO<|QP<|QL<|QL<|QP<|QL<|Qb rfl fun E w' hm=>⟨?_,hm.below lr⟩
   rw[show z4l L=false from by rw[z4l,List.all_eq_false];exact⟨r,List.mem_of_getElem? h_r,by simpa using h⟩]
   rfl
  ·
   refine QI<|QM<|Qw<|QC<|QE 2 [5,6,7] rfl<|Qw ?_
   rw[z06 (n:=(i:Int)+1) (by omega) (by omega)]
   refine Qr (i+1)<|⟨by omega,fun k x hk hx=>if hki:k=i then(by subst hki;rw[h_r]at hx;cases hx;omega)else hno k x (by omega) hx⟩
 ·
  refine QN<|QK<|QK<|QQ<|Qw<|QA<|QC<|QE 1 [2] rfl<|Qw<|QO<|Qb rfl fun E w' hm=>⟨?_,hm.below lr⟩
  rw[show z4l L=true from by rw[z4l,List.all_eq_true];intro x hx;obtain⟨k,hk⟩:=List.getElem?_of_mem hx;have hkl:=(List.getElem?_eq_some_iff.1 hk).1;simpa using hno k x (by omega) hk]
  rfl
theorem j1k(V:Vw)(v:Value)(L:List View)(w:World)(hV:V.le (vw w))(hs0:SlOf V View.cells 6 v L)(hn:L.length≤100000):
  Rt 23 #[v] w (.bool (z4l L)):=by
 have hs:=hs0.mono hV
 refine Qf [.a (.v v)] Tryz.func23 rfl<|QA<|QC<|QE 1 [0] rfl<|Qw<|QA<|QA<|QC<|QE 1 [0,3] rfl<|Qw<|QJ<|Ql [0] [] rfl rfl (σ:=Nat) (fun i=>[(3, .a (.v (I i)))]) (fun i=>[]) (fun i=>i≤L.length∧ ∀(k:Nat) x,k<i→L[k]? =some x→ ¬0<x.whole) (fun i=>L.length - i) (0) (⟨by omega,fun k x hk=>absurd hk (by omega)⟩) ?_
 rintro i ⟨hi,hno⟩
 refine QA<|QA<|QC<|Yy 2 rfl<|QY rfl (z0l tok rfl (fun hg=>hs.sl))<|QE 1 [0,3,7] rfl<|Qw<|QX rfl (fun h=> ?_) fun h=> ?_
 ·
  obtain⟨r,h_r⟩:=atx (L:=L) (k:=i) (by omega)
  clear h
  refine QI<|Qw<|QA<|QJ<|QA<|QC<|Yy 2 rfl ?_
  have hlt_r:=z01 h_r
  refine QY rfl (z0c tok rfl (fun hg=>hs.sl) (fun hg=>⟨by omega,by omega⟩))<|QY rfl (z1f tok rfl (fun hg=>hs.sl) (fun hg=>by omega))<|QY rfl (z08 tok (i) 4 (r) rfl (fun hg=>hs) (fun hg=>h_r) rfl rfl)<|QE 1 [0,3,15] rfl<|Qw<|QX rfl (fun h=> ?_) fun h=> ?_
  ·
   refine QA<|QC<|QE 1 [2] rfl<|Qw<|QO<|QP<|QL<|QL<|QP<|QL<|Qb rfl fun E w' hm=>⟨?_,hm.below lr⟩
   rw[show z4l L=false from by rw[z4l,List.all_eq_false];exact⟨r,List.mem_of_getElem? h_r,by simpa using h⟩]
   rfl
  ·
   refine QI<|QM<|Qw<|QC<|QE 3 [0,3] rfl<|Qw ?_
   rw[z06 (n:=(i:Int)+1) (by omega) (by omega)]
   refine Qr (i+1)<|⟨by omega,fun k x hk hx=>if hki:k=i then(by subst hki;rw[h_r]at hx;cases hx;omega)else hno k x (by omega) hx⟩
 ·
  refine QN<|QK<|QK<|QQ<|Qw<|QA<|QC<|QE 1 [2] rfl<|Qw<|QO<|Qb rfl fun E w' hm=>⟨?_,hm.below lr⟩
  rw[show z4l L=true from by rw[z4l,List.all_eq_true];intro x hx;obtain⟨k,hk⟩:=List.getElem?_of_mem hx;have hkl:=(List.getElem?_eq_some_iff.1 hk).1;simpa using hno k x (by omega) hk]
  rfl
def j9u(L:List Int)(w:World)(e:Ending)(w':World):Prop:=
 (∃v,e= .returned v∧w'.ownsRow w.heap.size 3 1 v L.length (L.flatMap z0a))∧Below w.heap.size w w'
theorem znu{L:List Sight}{i:Nat}{s:Sight}(h:L[i]? =some s)(hb: ¬s.by_=0):(z4j 0 (L.take i)).length+1=(z4j 0 (L.take (i+1))).length∧(z4j 0 (L.take i)).flatMap z0a++[I (i:Int)]=(z4j 0 (L.take (i+1))).flatMap z0a:=by
 rw[zas h,if_neg hb]
 simp
theorem j0m(V:Vw)(v:Value)(L:List Sight)(w:World)(hV:V.le (vw w))(hs0:SlOf V Sight.cells 3 v L)(hn:L.length≤100000):
  Cl 21 #[v] w (j9u (z4j 0 L) w):=by
 have hs:=hs0.mono hV
 refine Qf [.a (.v v)] Tryz.func21 rfl<|QA<|QC<|QE 1 [0] rfl<|Qw<|QA<|QC<|QE 1 [0,3] rfl<|Qw<|QA<|QA<|QC<|QE 1 [0,3,4] rfl<|Qw<|QJ<|z6l 3 3 1 rfl rfl<|Ql [0] [0] rfl rfl (σ:=Nat) (fun i=>[(3, .a (.row 0)),(4, .a (.v (I i)))]) (fun i=>[(0, .row 3 1 (z4j 0 (L.take i)).length ((z4j 0 (L.take i)).flatMap z0a))]) (fun i=>i≤L.length) (fun i=>L.length - i) (0) (by omega) ?_
 rintro i hi
 have hfew:=za7 (L.take i) 0
 have htl:(L.take i).length≤i:=by rw[List.length_take];omega
 refine QA<|QA<|QC<|Yy 2 rfl<|QY rfl (z0l tok rfl (fun hg=>hs.sl))<|QE 1 [0,3,4,8] rfl<|Qw<|QX rfl (fun h=> ?_) fun h=> ?_
 ·
  obtain⟨r,h_r⟩:=atx (L:=L) (k:=i) (by omega)
  clear h
  refine QI<|Qw<|QA<|QJ<|QA<|QC<|Yy 2 rfl ?_
  have hlt_r:=z01 h_r
  refine QY rfl (z0c tok rfl (fun hg=>hs.sl) (fun hg=>⟨by omega,by omega⟩))<|QY rfl (z1f tok rfl (fun hg=>hs.sl) (fun hg=>by omega))<|QY rfl (z08 tok (i) 2 (r) rfl (fun hg=>hs) (fun hg=>h_r) rfl rfl)<|QE 1 [0,3,4,16] rfl<|Qw<|QX rfl (fun h=> ?_) fun h=> ?_
  ·
   refine QC<|Yy 2 rfl ?_
   obtain⟨hp1,hp2⟩:=znu h_r h
   refine QZ rfl (z1q tok 1 rfl rfl rfl) fun _ _=>QZ rfl (z0g tok [I (i:Int)] rfl (fun E w hm=>z09 (hm.row _ _ _ _ _ rfl)) (fun _ _ _=>by intro u hu;simp only[List.mem_singleton]at hu;subst hu;rfl) (by dsimp only;omega)) fun _ _=> ?_
   refine QE 1 [0,3,4] rfl<|QM<|Qw<|QC<|QE 3 [0,3,4] rfl<|Qw ?_
   rw[hp1,hp2,z06 (n:=(i:Int)+1) (by omega) (by omega)]
   refine z00 0 2 rfl<|Qr (i+1) (by omega)
  ·
   refine QI<|QM<|Qw<|QC<|QE 3 [0,3,4] rfl<|Qw ?_
   have hp:z4j 0 (L.take i)=z4j 0 (L.take (i+1)):=by rw[zas h_r,if_pos (by omega),List.append_nil]
   rw[hp,z06 (n:=(i:Int)+1) (by omega) (by omega)]
   refine Qr (i+1) (by omega)
 ·
  refine QN<|QK<|QK<|QQ<|Qw<|QA<|QC<|QE 2 [2] rfl<|Qw<|QO<|z0h tok rfl ?_
  have hin:i=L.length:=by omega
  subst hin
  rw[List.take_length]
  intro E w' hm _
  exact⟨⟨_,rfl,hm.rowFresh lr (l:=0) rfl⟩,hm.below lr⟩
theorem j1t(V:Vw)(v:Value)(L:List Sight)(w:World)(hV:V.le (vw w))(hs0:SlOf V Sight.cells 3 v L)(hn:L.length≤100000):
  Cl 20 #[v] w (j9u (z4j 0 L) w):=by
 have hs:=hs0.mono hV
 refine Qf [.a (.v v)] Tryz.func20 rfl<|QA<|QC<|QE 1 [0,2] rfl<|Qw<|QA<|QA<|QC<|Yy 1 rfl<|QY rfl (z0l tok rfl (fun hg=>hs.sl))<|QE 1 [2,5,6,7] rfl<|Qw<|QJ<|z6l 2 3 1 rfl rfl<|Ql [5,6] [0] rfl rfl (σ:=Nat) (fun i=>[(2, .a (.row 0)),(7, .a (.v (I i)))]) (fun i=>[(0, .row 3 1 (z4j 0 (L.take i)).length ((z4j 0 (L.take i)).flatMap z0a))]) (fun i=>i≤L.length) (fun i=>L.length - i) (0) (by omega) ?_
 rintro i hi
 have hfew:=za7 (L.take i) 0
 have htl:(L.take i).length≤i:=by rw[List.length_take];omega
 refine QA<|QC<|QE 1 [2,5,6,7,8] rfl<|Qw<|QA<|QX rfl (fun h=> ?_) fun h=> ?_
 ·
  refine QI<|Qw<|QA<|QJ<|QA<|QC<|Yy 1 rfl ?_
  obtain⟨r,h_r⟩:=hs.at (k:=i) (by omega)
  have hlt_r:=z01 h_r
  refine QY rfl (z0c tok rfl (fun hg=>hs.sl) (fun hg=>⟨by omega,by omega⟩))<|QY rfl (z08 tok (i) 0 (r) rfl (fun hg=>hs) (fun hg=>h_r) rfl rfl)<|Yy 2 rfl<|Qs rfl<|z07 [2,3,4,5,6,7] rfl<|Qw<|QA<|QC<|Yy 1 rfl<|Qs rfl<|Yy 1 rfl<|Qs rfl<|z07 [2,3,4,5,6,7] rfl<|Qw<|QA<|QC<|Yy 2 rfl ?_
  have heq:(Sight.mk ByteArray.empty ByteArray.empty r.by_).eqB ⟨ByteArray.empty,ByteArray.empty,0⟩=(r.by_==0):=by simp[Sight.eqB]
  refine QY rfl (z60 (.bool (!(r.by_==0))) rfl (fun E w=>heq▸zln ⟨ByteArray.empty,ByteArray.empty,r.by_⟩ ⟨ByteArray.empty,ByteArray.empty,0⟩ w (.inr rfl)))<|z07 [2,3,5,6,7,16] rfl<|Qw<|Qn rfl (fun h=> ?_) fun h=> ?_
  ·
   refine QC<|Yy 2 rfl ?_
   have hb: ¬r.by_=0:=by simpa using h
   obtain⟨hp1,hp2⟩:=znu h_r hb
   refine QZ rfl (z1q tok 1 rfl rfl rfl) fun _ _=>QZ rfl (z0g tok [I (i:Int)] rfl (fun E w hm=>z09 (hm.row _ _ _ _ _ rfl)) (fun _ _ _=>by intro u hu;simp only[List.mem_singleton]at hu;subst hu;rfl) (by dsimp only;omega)) fun _ _=> ?_
   refine QE 1 [2,5,6,7] rfl<|QM<|Qw<|QC<|QE 2 [2,5,6,7] rfl<|Qw ?_
   rw[hp1,hp2,z06 (n:=(i:Int)+1) (by omega) (by omega)]
   refine z00 0 3 rfl<|Qr (i+1) (by omega)
  ·
   refine QI<|QM<|Qw<|QC<|QE 2 [2,5,6,7] rfl<|Qw ?_
   have hb:r.by_=0:=by simpa using h
   have hp:z4j 0 (L.take i)=z4j 0 (L.take (i+1)):=by rw[zas h_r,if_pos hb,List.append_nil]
   rw[hp,z06 (n:=(i:Int)+1) (by omega) (by omega)]
   refine Qr (i+1) (by omega)
 ·
  refine QN<|QK<|QK<|QQ<|Qw<|QA<|QC<|QE 2 [2] rfl<|Qw<|QO<|z0h tok rfl ?_
  have hin:i=L.length:=by omega
  subst hin
  rw[List.take_length]
  intro E w' hm _
  exact⟨⟨_,rfl,hm.rowFresh lr (l:=0) rfl⟩,hm.below lr⟩
theorem j0f{s:ByteArray}(h:drB s=true):z57 (drC s)=true:=by
 rw[drC,if_pos h]
 rw[drB,Bool.and_eq_true,Bool.and_eq_true,beq_iff_eq,beq_iff_eq]at h
 have h2:=h.2.2
 rw[zkj]at h2
 split at h2
 ·
  rename_i h3
  rw[zot,if_pos h3]
  simp only[rdB]at h3
  simp at h3
  exact h3.2
 · cases h2
theorem zmt: ∀(L:List ByteArray) (acc:List Cmd),(∀c∈acc,z57 c=true)→ ∀c∈(ze9 L acc).1,z57 c=true
 |[],acc,h=>h
 |s::r,acc,h=>by
  rw[ze9]
  split
  · intro c hc;cases hc
  ·
   split
   · exact h
   ·
    rename_i hb
    refine zmt r _ fun c hc=> ?_
    rcases List.mem_append.1 hc with h1|h1
    · exact h c h1
    ·
     rw[List.mem_singleton.1 h1]
     exact j0f (by simpa using hb)
theorem zgl(g:Geo)(d:Device): ∀c∈(zc0 g d).1,z57 c=true:=by
 rw[zc0]
 split
 · exact zmt _ _ (fun c hc=>by cases hc)
 · intro c hc;cases hc
theorem zio{n:Nat}{blocks:Int}: ∀(l:List Cmd) (t:Tb),TbOk n blocks t→(∀c∈l,z57 c=true)→TbOk n blocks (z5r blocks t l)
 |[],t,h,_=>h
 |c::r,t,h,hc=>zio r _ (h.apply (c:=c) (zif (hc c List.mem_cons_self))) (fun x hx=>hc x (List.mem_cons_of_mem _ hx))
theorem j4k(g:Geo)(d:Device):TbOk (zad g.slots) g.blocks (tbS g d):=zio _ _ (TbOk.new _ _) (zgl g d)
theorem ztp(V:Vw)(g:Geo)(lv:Value)(l:List Cmd)(w:World)(hV:V.le (vw w))(hs0:SlOf V Cmd.cells 8 lv l)(hl:l.length≤5000)(hcm: ∀c∈l,z57 c=true):
  Cl 62 #[g.val,lv] w (z59 V (z5r g.blocks (zi4 g.slots) l) w):=by
 obtain⟨a0,n0,c0,rfl⟩:=z04 hs0.sl
 have hs:=hs0.mono hV
 refine Qf [.a (.v g.val), .a (.v (.slice a0 n0 c0))] Tryz.func62 rfl<|QA<|QC<|QE 2 [1,2,4] rfl<|Qw<|QA<|QC<|Yy 1 rfl<|Qv (fun v V'=> ∃V2:Vw,V2.le V'∧V.le V2∧(∀k o,V2.get k=some o→V.get k=some o∨w.heap.size≤k)∧z3j V2 v (zi4 g.slots)) rfl j5a (fun hg E w1 hm=>by exact(j6j V g _ (hV.trans hm.leV)).mono fun e w' h=>z1w (hm.below lr).size hV hm.leV h) ?_
 rintro v1 W0 hle0 hv0
 obtain⟨W1,hW10,hle1,hget1,hT1⟩:=hv0 rfl
 obtain⟨d1,m1,e1,d2,m2,e2,d3,m3,e3,rfl,_⟩:=id hT1
 refine Yy 1 rfl<|Qs rfl<|z07 [1,2,4,5] rfl<|Qw<|QA<|QA<|QC<|QE 1 [1,2,4,5,6] rfl<|Qw<|QJ<|Lv [1,2,4,5] [2] rfl rfl (σ:=Nat×Value×Value×Value×Tb×Vw×Vw) (fun(i,s,u,q,t,W,Z)=>[(6, .a (.v (I i)))]) (fun(i,s,u,q,t,W,Z)=>[(2, .lit [.v s, .v u, .v q] 70)]) (fun(i,s,u,q,t,W,Z)=>W) (fun(i,s,u,q,t,W,Z)=>(i≤l.length∧t.H.length+t.Q.length≤i∧t=z5r g.blocks (zi4 g.slots) (l.take i))∧((vw w).le W∧Z.le W)∧V.le Z∧z3j Z (.agg #[s,u,q]) t∧TbOk (zad g.slots) g.blocks t∧ ∀k o,Z.get k=some o→V.get k=some o∨w.heap.size≤k) (fun(i,s,u,q,t,W,Z)=>l.length - i) ((0,_,_,_,zi4 g.slots,W0,W1)) (⟨⟨by omega,Nat.le_refl _,rfl⟩,⟨hle0,hW10⟩,hle1,hT1,TbOk.new _ _,hget1⟩) ?_
 rintro⟨i,s,u,q,t,W,Z⟩ ⟨⟨hi,hsum,hbe⟩,⟨hwW,hZW⟩,hle,hT,hok,hgt⟩
 dsimp only at hi hsum hbe hwW hZW hle hT hok hgt⊢
 have hn16:((zad g.slots:Nat):Int)≤16:=by rw[zad];omega
 have hs':=(hs0.mono hle).mono hZW
 have hfit:=hok.fitS hn16 (by omega)
 refine QA<|QA<|QC<|Yy 2 rfl<|QY rfl (z0l tok rfl (fun hg=>hs'.sl))<|QE 1 [1,2,4,5,6,12] rfl<|Qw<|QX rfl (fun h=> ?_) fun h=> ?_
 ·
  refine QI<|Qw<|QA<|QJ<|Rb [7] rfl<|QD [0,1,2,3] rfl ?_
  obtain⟨c,h_c⟩:=hs'.at (k:=i) (by omega)
  have hlt_c:=z01 h_c
  refine Qu 4 rfl rfl (z0c tok rfl (fun hg=>hs'.sl) (fun hg=>⟨by omega,by omega⟩))<|Qu 5 rfl rfl (z08 tok (i) 0 (c) rfl (fun hg=>hs') (fun hg=>h_c) rfl rfl)<|QS<|Qo 6 ?_
  have hcB:=hcm c (List.mem_of_getElem? h_c)
  have hck: -128≤c.kind∧c.kind≤127:=by have:=(zkz hcB).kind;omega
  have hok2:=hok.apply (c:=c) (zif hcB)
  have hsum2:=zjr g.blocks t c
  have hwi:IntKind.i64.wrap ((i:Int)+1)=((i+1:Nat):Int):=z06 (by omega) (by omega)
  have hbe2:t.apply g.blocks c=z5r g.blocks (zi4 g.slots) (l.take (i+1)):=by
   rw[z0y h_c,z5r,List.foldl_append,hbe];rfl
  refine z4e 6 (fun v V'=> ∃V2:Vw,V2.le V'∧Z.le V2∧(∀k o,V2.get k=some o→Z.get k=some o∨w.heap.size≤k)∧z3j V2 v (t.apply g.blocks c)) rfl rfl rfl j79 rfl rfl (fun hg E w1 hm=>by exact(zxm Z g _ t c _ hfit.1 hfit.2 (hZW.trans hm.leV) hT).mono fun e w' h=>z1w (hm.below hwW).size hZW hm.leV h) ?_
  rintro v2 W2 hle2 hv2
  obtain⟨Z2,hZ2,hZZ,hgt2,hT2⟩:=hv2 rfl
  obtain⟨x1,y1,z1,x2,y2,z2,x3,y3,z3,rfl,_⟩:=id hT2
  refine Qo 7<|Qj 7 rfl<|Qe [1,2,4,5,6] rfl<|QM<|Qw<|QC<|QE 3 [1,2,4,5,6] rfl<|Qw ?_
  rw[hwi]
  refine Qr ((i+1,_,_,_,t.apply g.blocks c,W2,Z2))<|⟨⟨by dsimp only;omega,by dsimp only;omega,hbe2⟩,⟨hwW.trans hle2,hZ2⟩,hle.trans hZZ,hT2,hok2,fun k o hk=>(hgt2 k o hk).elim (hgt k o) .inr⟩
 ·
  have hil:i=l.length:=by omega
  clear h
  subst hil
  rw[List.take_length]at hbe
  obtain⟨x1,y1,z1,x2,y2,z2,x3,y3,z3,hv,_⟩:=id hT
  simp only[Value.agg.injEq,Array.mk.injEq,List.cons.injEq,and_true]at hv
  obtain⟨rfl,rfl,rfl⟩:=hv
  refine QN<|QK<|QK<|QQ<|Qw<|QA<|QC<|Yy 1 rfl<|Qs rfl<|z07 [4] rfl<|Qw<|QO<|Qb rfl fun E' w' hm=> ?_
  exact⟨_,Z,rfl,hm.below hwW,⟨hle,fun k o hk=>⟨(hZW.trans hm.leV).get k o hk,hgt k o hk⟩⟩,hbe▸hT⟩
def zzn(g:Geo)(d:Device)(x:Value)(V':Vw):Prop:= ∃a n c a2 n2 c2 a3 n3 c3 m,x= .tuple #[.agg #[.slice a n c, .slice a2 n2 c2, .slice a3 n3 c3],I m,I (zc0 g d).2]∧((zc0 g d).2=0→z3j V' (.agg #[.slice a n c, .slice a2 n2 c2, .slice a3 n3 c3]) (tbS g d))
theorem zj6(g:Geo)(d:Device):(zc0 g d).1.length≤5000:=by
 unfold zc0
 split
 ·
  rename_i hl
  simp only[zaa,Bool.and_eq_true,decide_eq_true_eq]at hl
  have h1:=zo6 (zjb g d.s.l) []
  have hz:=z2d hl.1
  have hf:=z0b hl.1
  have h4:(zjb g d.s.l).length≤g.log.toNat:=by rw[zjb,List.length_take];omega
  simp only[List.length_nil]at h1
  omega
 · simp
theorem j4w(V:Vw)(g:Geo)(ok:g.Ok)(d:Device)(w:World)(hV:V.le (vw w))(hd0:DevIn V d)(hsz: ∀s∈d.s.l,s.size≤maxLen):
  Cl 57 #[g.val,d.val] w fun e w'=> ∃x V',e= .returned x∧Below w.heap.size w w'∧Vext w.heap.size V V' w'∧zzn g d x V':=by
 have hlg:=fun(V1:Vw) (w1:World) (h0:V.le V1) (hV:V1.le (vw w1))=>zjm hV (j5u V1 g ok d w1 hV (hd0.mono h0) hsz)
 have hcm:=zgl g d
 have hsh:=zj6 g d
 have htb:z5r g.blocks (zi4 g.slots) (zc0 g d).1=tbS g d:=rfl
 simp only[zzn]
 generalize tbS g d=T at*
 generalize zc0 g d=R at*
 obtain⟨⟨sv,sl⟩,⟨cv,cl⟩,⟨kv,kl⟩,nx,⟨fv,fl⟩⟩:=d
 obtain⟨a1,n1,c1,rfl⟩:=z04 hd0.s.sl
 obtain⟨a2,n2,c2,rfl⟩:=z04 hd0.cache.sl
 obtain⟨a3,n3,c3,rfl⟩:=z04 hd0.keys.sl
 obtain⟨a4,n4,c4,rfl⟩:=z04 hd0.fenced.sl
 refine Qf [.a (.v g.val), .a (.v (.agg #[.slice a1 n1 c1, .slice a2 n2 c2, .slice a3 n3 c3,I nx, .slice a4 n4 c4]))] Tryz.func57 rfl<|QA<|QC<|QE 5 [2,3,4] rfl<|Qw<|QA<|QC<|Yy 2 rfl<|Qv (fun x V'=> ∃V2:Vw,V2.le V'∧V.le V2∧(∀k o,V2.get k=some o→V.get k=some o∨w.heap.size≤k)∧zv8 R x V2) rfl j60 (fun hg E w1 hm=>by exact(hlg V _ lr (hV.trans hm.leV)).mono fun e w' h=>z1w (hm.below lr).size hV hm.leV h) ?_
 rintro x W0 hle0 hx
 obtain⟨Z,hZ0,hVZ,hgt,v,rfl,hsl⟩:=hx rfl
 clear hx
 obtain⟨ra,rn,rc,rfl⟩:=z04 hsl.sl
 refine QE 5 [2,4,6,7] rfl<|Qw<|QA<|QA<|QC<|QE 2 [2,4,6,7,15] rfl<|Qw<|QX rfl (fun h=> ?_) fun h=> ?_
 ·
  refine QA<|QC<|Yy 2 rfl<|Qs rfl<|QE 2 [4,5,6] rfl<|Qw<|QO<|QL<|Qb rfl fun E' w' hm=> ?_
  exact⟨_,Z,rfl,hm.below hle0,⟨hVZ,fun k o hk=>⟨(hZ0.trans hm.leV).get k o hk,hgt k o hk⟩⟩,_,_,_,_,_,_,_,_,_,0,rfl,fun h0=>absurd h0 h⟩
 ·
  have hr0:R.2=0:=by simpa using h
  clear h
  refine QI<|Qw<|QA<|QC<|Yy 2 rfl<|Qv (fun v V'=> ∃V2:Vw,V2.le V'∧Z.le V2∧(∀k o,V2.get k=some o→Z.get k=some o∨w.heap.size≤k)∧z3j V2 v T) rfl j7n (fun hg E w1 hm=>by exact(htb▸zxb Z g _ _ _ (hZ0.trans hm.leV) hsl hsh hcm:Calls _ _ _ _ (z59 Z T _)).mono fun e w' h=>z1w (hm.below hle0).size hZ0 hm.leV h) ?_
  rintro v2 W2 hle2 hv2
  obtain⟨Z2,hZ2,hZZ,hgt2,hT2⟩:=hv2 rfl
  obtain⟨x1,y1,z1,x2,y2,z2,x3,y3,z3,rfl,_⟩:=id hT2
  refine Yy 1 rfl<|QY rfl (z0l tok rfl (fun hg=>((hsl.mono hZ0).mono hle2).sl))<|Qs rfl<|QE 2 [4,5,6] rfl<|Qw<|QO<|Qb rfl fun E' w' hm=> ?_
  exact⟨_,Z2,rfl,hm.below (hle0.trans hle2),⟨hVZ.trans hZZ,fun k o hk=>⟨(hZ2.trans hm.leV).get k o hk,(hgt2 k o hk).elim (hgt k o) .inr⟩⟩,_,_,_,_,_,_,_,_,_,(R.1.length:Int),by rw[hr0];rfl,fun _=>hT2⟩
theorem zhd(V:Vw)(g:Geo)(ok:g.Ok)(d:Device)(w:World)(hV:V.le (vw w))(hd0:DevIn V d)(hsz: ∀s∈d.s.l,s.size≤maxLen):
  Cl 29 #[g.val,d.val] w fun e w'=> ∃x V',e= .returned x∧Below w.heap.size w w'∧Vext w.heap.size V V' w'∧zzn g d x V':=by
 have hlg:=fun(V1:Vw) (w1:World) (h0:V.le V1) (hV:V1.le (vw w1))=>zjm hV (j39 V1 g ok d w1 hV (hd0.mono h0) hsz)
 have hcm:=zgl g d
 have hsh:=zj6 g d
 have htb:z5r g.blocks (zi4 g.slots) (zc0 g d).1=tbS g d:=rfl
 simp only[zzn]
 generalize tbS g d=T at*
 generalize zc0 g d=R at*
 obtain⟨⟨sv,sl⟩,⟨cv,cl⟩,⟨kv,kl⟩,nx,⟨fv,fl⟩⟩:=d
 obtain⟨a1,n1,c1,rfl⟩:=z04 hd0.s.sl
 obtain⟨a2,n2,c2,rfl⟩:=z04 hd0.cache.sl
 obtain⟨a3,n3,c3,rfl⟩:=z04 hd0.keys.sl
 obtain⟨a4,n4,c4,rfl⟩:=z04 hd0.fenced.sl
 refine Qf [.a (.v g.val), .a (.v (.agg #[.slice a1 n1 c1, .slice a2 n2 c2, .slice a3 n3 c3,I nx, .slice a4 n4 c4]))] Tryz.func29 rfl<|QA<|QC<|QE 5 [2,3,4] rfl<|Qw<|QA<|QC<|Yy 2 rfl<|Qv (fun x V'=> ∃V2:Vw,V2.le V'∧V.le V2∧(∀k o,V2.get k=some o→V.get k=some o∨w.heap.size≤k)∧zv8 R x V2) rfl j5h (fun hg E w1 hm=>by exact(hlg V _ lr (hV.trans hm.leV)).mono fun e w' h=>z1w (hm.below lr).size hV hm.leV h) ?_
 rintro x W0 hle0 hx
 obtain⟨Z,hZ0,hVZ,hgt,v,rfl,hsl⟩:=hx rfl
 clear hx
 obtain⟨ra,rn,rc,rfl⟩:=z04 hsl.sl
 refine QE 5 [2,4,7,8] rfl<|Qw<|QA<|QA<|QC<|QE 2 [2,4,7,8,16] rfl<|Qw<|QX rfl (fun h=> ?_) fun h=> ?_
 ·
  refine QA<|QC<|Yy 2 rfl<|Qs rfl<|QE 2 [4,5,6] rfl<|Qw<|QO<|QL<|Qb rfl fun E' w' hm=> ?_
  exact⟨_,Z,rfl,hm.below hle0,⟨hVZ,fun k o hk=>⟨(hZ0.trans hm.leV).get k o hk,hgt k o hk⟩⟩,_,_,_,_,_,_,_,_,_,0,rfl,fun h0=>absurd h0 h⟩
 ·
  have hr0:R.2=0:=by simpa using h
  clear h
  refine QI<|Qw<|QA<|QC<|Yy 2 rfl<|Qv (fun v V'=> ∃V2:Vw,V2.le V'∧Z.le V2∧(∀k o,V2.get k=some o→Z.get k=some o∨w.heap.size≤k)∧z3j V2 v T) rfl j6w (fun hg E w1 hm=>by exact(htb▸ztp Z g _ _ _ (hZ0.trans hm.leV) hsl hsh hcm:Calls _ _ _ _ (z59 Z T _)).mono fun e w' h=>z1w (hm.below hle0).size hZ0 hm.leV h) ?_
  rintro v2 W2 hle2 hv2
  obtain⟨Z2,hZ2,hZZ,hgt2,hT2⟩:=hv2 rfl
  obtain⟨x1,y1,z1,x2,y2,z2,x3,y3,z3,rfl,_⟩:=id hT2
  refine Yy 1 rfl<|QY rfl (z0l tok rfl (fun hg=>((hsl.mono hZ0).mono hle2).sl))<|Qs rfl<|QE 2 [4,5,6] rfl<|Qw<|QO<|Qb rfl fun E' w' hm=> ?_
  exact⟨_,Z2,rfl,hm.below (hle0.trans hle2),⟨hVZ.trans hZZ,fun k o hk=>⟨(hZ2.trans hm.leV).get k o hk,(hgt2 k o hk).elim (hgt k o) .inr⟩⟩,_,_,_,_,_,_,_,_,_,(R.1.length:Int),by rw[hr0];rfl,fun _=>hT2⟩
theorem zy6{V Z:Vw}{w w':World}(hV:V.le (vw w))(hVZ:V.le Z)(hZ:Z.le (vw w'))(hgt: ∀k o,Z.get k=some o→V.get k=some o∨w.heap.size≤k):Z.le (V.grown w w'):=by
 refine⟨fun k o hk=> ?_,hVZ.os.symm,hVZ.tape.symm,hVZ.output.symm⟩
 simp only[Vw.grown]
 rcases hgt k o hk with h|h
 ·
  rw[if_pos (hV.lt h)]
  exact h
 ·
  rw[if_neg (by omega)]
  exact hZ.get k o hk
theorem zfc{E:Env}{O:Go.Eng.Own}{nl:Nat}{w w':World}{W:Vw}(hm:Mem E O nl W w')(hW:(vw w).le W){l e:Nat}{cs:List Go.Eng.A}(hl:lk O l=some (.lit cs e)):w.heap.size≤E.ρ l:=by
 rcases Nat.lt_or_ge (E.ρ l) w.heap.size with h|h
 ·
  have h1:=hm.off l _ (E.ρ l) hl rfl
  have h2:=hW.get (E.ρ l) (w.heap[E.ρ l]) (by show w.heap[E.ρ l]? =_;simp[h])
  rw[h1]at h2
  cases h2
 · exact h
def zu3(x1 x2 x3:Value)(g:Geo)(d:Device)(tv:Value):List Value:=[x1,x2,x3]++g.cells++[d.s.v,d.cache.v,d.keys.v,I d.next_,d.fenced.v,tv]
def zab(V:Vw)(b:Nat)(g:Geo)(d:Device):Prop:= ∃a n c a2 n2 c2 a3 n3 c3 ta tn tc,V.get b=some (.cells (zu3 (.slice a n c) (.slice a2 n2 c2) (.slice a3 n3 c3) g d (.slice ta tn tc)).toArray 72 (0,0))∧z3j V (.agg #[.slice a n c, .slice a2 n2 c2, .slice a3 n3 c3]) (tbS g d)∧SlOf V z0a 1 (.slice ta tn tc) (z76 g d.s.l g.slots.toNat)
theorem zab.mono{V V':Vw}{b:Nat}{g:Geo}{d:Device}(h:zab V b g d)(hle:V.le V'):zab V' b g d:=by
 obtain⟨a,n,c,a2,n2,c2,a3,n3,c3,ta,tn,tc,h1,h2,h3⟩:=h
 exact⟨a,n,c,a2,n2,c2,a3,n3,c3,ta,tn,tc,hle.get _ _ h1,h2.mono hle,h3.mono hle⟩
def j4i(g:Geo)(d:Device)(x:Value)(V':Vw):Prop:= ∃p,x= .tuple #[.pointer p,I (svE g d)]∧(svE g d=0→ ∃b,p=some ⟨b,0,none⟩∧zab V' b g d)
theorem zl8{g:Geo}{d:Device}(h:zaa g d=false):svE g d=2:=by rw[svE,if_neg (by simp[h])]
theorem zdj{g:Geo}{d:Device}(h:zaa g d=true)(h2:z3o g d=false):svE g d=50:=by rw[svE,if_pos h,if_neg (by simp[h2])]
theorem zrw{g:Geo}{d:Device}(h:zaa g d=true)(h2:z3o g d=true):svE g d=0:=by rw[svE,if_pos h,if_pos h2]
theorem zc8(V:Vw)(g:Geo)(ok:g.Ok)(d:Device)(w:World)(hV:V.le (vw w))(hd0:DevIn V d)(hsz: ∀s∈d.s.l,s.size≤maxLen):
  Cl 26 #[g.val,d.val] w fun e w'=> ∃x V',e= .returned x∧Below w.heap.size w w'∧Vext w.heap.size V V' w'∧j4i g d x V':=by
 obtain⟨⟨sv,sl⟩,⟨cv,cl⟩,⟨kv,kl⟩,nx,⟨fv,fl⟩⟩:=d
 obtain⟨a1,n1,c1,rfl⟩:=z04 hd0.s.sl
 obtain⟨a2,n2,c2,rfl⟩:=z04 hd0.cache.sl
 obtain⟨a3,n3,c3,rfl⟩:=z04 hd0.keys.sl
 obtain⟨a4,n4,c4,rfl⟩:=z04 hd0.fenced.sl
 have hS:=hd0.s.mono hV
 generalize hD:(⟨⟨.slice a1 n1 c1,sl⟩,⟨.slice a2 n2 c2,cl⟩,⟨.slice a3 n3 c3,kl⟩,nx,⟨.slice a4 n4 c4,fl⟩⟩:Device)=D at*
 have hval:D.val= .agg #[.slice a1 n1 c1, .slice a2 n2 c2, .slice a3 n3 c3,I nx, .slice a4 n4 c4]:=by rw[←hD]
 have hlc: ∀x1 x2 x3 tv,zu3 x1 x2 x3 g D tv=[x1,x2,x3]++g.cells++[.slice a1 n1 c1, .slice a2 n2 c2, .slice a3 n3 c3,I nx, .slice a4 n4 c4,tv]:=fun _ _ _ _=>by rw[←hD];rfl
 have hDl:D.s.l=sl:=by rw[←hD]
 have hDv:D.s.v= .slice a1 n1 c1:=by rw[←hD]
 have hchk:=fun(w1:World) (hle:V.le (vw w1))=>zhv V D w1 hle hd0
 have hall:=fun(w1:World) (hle:V.le (vw w1))=>j4w V g ok D w1 hle hd0 hsz
 rw[hDv,hDl]at hS
 rw[hDl]at hsz
 have hlb:zaa g D=(z2y g&&(z2a D&&decide ((sl.length:Int)=z5j g))):=by rw[zaa,hDl]
 have hlk:z3o g D=(decide (srE (sl.getD 0 ByteArray.empty)=0)&&((srV (sl.getD 0 ByteArray.empty)).eqB g&&(z5y g sl g.slots.toNat&&decide ((zc0 g D).2=0)))):=by rw[z3o,hDl]
 rw[hval]at hchk hall⊢
 clear hD hd0
 refine Qf [.a (.v g.val), .a (.v (.agg #[.slice a1 n1 c1, .slice a2 n2 c2, .slice a3 n3 c3,I nx, .slice a4 n4 c4]))] Tryz.func26 rfl<|QA<|QC<|QE 4 [2,3] rfl<|Qw<|zs9<|QA<|QA<|Ra rfl<|QT [0] rfl<|QS<|Qo 1<|Qh 1 (.a (.v _)) rfl rfl zcr (fun hg E w1 hm=>by exact z73 g ok _) ?_
 refine Qx [2,3,4] rfl<|Qo 5<|Qh 5 (.a (.v _)) rfl rfl zr4 (fun hg E w1 hm=>by exact hchk _ (hV.trans hm.leV)) ?_
 refine Qx [6,7,8] rfl<|z36 9 rfl (by kernel_rfl) rfl rfl rfl rfl (yV rfl) rfl<|z36 10 rfl (by kernel_rfl) rfl rfl rfl rfl (yV rfl) rfl<|z36 11 rfl (by kernel_rfl) rfl rfl rfl rfl (z0l tok rfl (fun hg=>hS.sl)) rfl<|Qx [12] rfl<|Qo 13<|Qh 13 (.a (.v _)) rfl rfl zni (fun hg E w1 hm=>by exact zi3 g ok _) ?_
 refine Qx [14,15] rfl<|Qe [2,3,29] rfl<|Qw<|Qn rfl (fun h=> ?_) fun h=> ?_
 ·
  refine QA<|QC<|QE 2 [4,5] rfl<|Qw<|QO<|QL<|z4b<|z0h tok rfl ?_
  have hlo:zaa g D=false:=by
   rw[hlb,Bool.eq_false_iff]
   intro hc
   simp only[Bool.and_eq_true,decide_eq_true_eq]at hc
   obtain⟨h1,h2,h3⟩:=hc
   simp[h1,h2,h3]at h
  intro E w' hm _
  refine⟨_,V,rfl,hm.below lr,⟨Vw.le.refl _,fun k o hk=>⟨(hV.trans hm.leV).get k o hk, .inl hk⟩⟩,_,by rw[zl8 hlo];rfl,fun h0=>absurd h0 (by rw[zl8 hlo];decide)⟩
 ·
  have hlo:zaa g D=true:=by
   rw[hlb]
   simp only[Bool.or_eq_false_iff,Bool.not_eq_false',bne_eq_false_iff_eq]at h
   obtain⟨⟨h1,h2⟩,h3⟩:=h
   have h4:z2a D=true:=by
    cases hq:z2a D with
    |true=>rfl
    |false=>rw[hq]at h2;simp at h2
   simp[h1,h4,h3]
  clear h
  have hlo2:=hlo
  rw[hlb]at hlo2
  simp only[Bool.and_eq_true,decide_eq_true_eq]at hlo2
  obtain⟨hG,_,hln⟩:=hlo2
  obtain⟨hi1,hi2,hi3⟩:=zbb hG hln
  have hf:=z0b hG
  obtain⟨s0,hs0⟩:=atx (L:=sl) (k:=0) (by omega)
  have hg0:sl.getD 0 ByteArray.empty=s0:=by simp[List.getD,hs0]
  rw[hg0]at hlk
  have hbad: ∀(W:Vw) (w':World),z3o g D=false→W=W→V.le (vw w')→Below w.heap.size w w'→ ∀p,∃x V',Ending.returned (.tuple #[.pointer p,I 50])= .returned x∧Below w.heap.size w w'∧Vext w.heap.size V V' w'∧j4i g D x V':=fun W w' h1 _ h2 h3 p=>⟨_,V,rfl,h3,⟨Vw.le.refl _,fun k o hk=>⟨h2.get k o hk, .inl hk⟩⟩,p,by rw[zdj hlo h1],fun h0=>absurd h0 (by rw[zdj hlo h1];decide)⟩
  refine QI<|Qw<|QA<|QC<|QE 5 [2,3,4] rfl<|Qw<|QA<|QC<|QE 1 [2,3,4,5] rfl<|Qw<|QA<|zu6<|Qw<|QA<|QA<|QC<|Yy 1 rfl<|zh8 rfl rfl rfl rfl rfl zth Tryz.func45 rfl rfl rfl fun E=>QA<|QC<|QE 1 [0,1] rfl<|Qw<|QA<|QC<|Yy 6 rfl ?_
  have hlt_s0:=z01 hs0
  refine QY rfl (z0c tok rfl (fun hg=>hS.sl) (fun hg=>⟨by omega,by omega⟩))<|QY rfl (z08 tok (0) 0 (s0) rfl (fun hg=>hS) (fun hg=>hs0) rfl rfl)<|QE 1 [4] rfl<|Qw<|QO<|z0h tok rfl ?_
  intro E1 w1 hm1 hok1
  refine z67 (E:=E) hm1 hok1 rfl rfl (by repeat (first|exact z1c.zero|refine z1c.succ rfl ?_)) rfl (by repeat (first|exact oN|refine oC rfl ?_)) rfl ?_
  clear hm1 hok1 w1 E1 E
  refine Qc (.a (.v _)) rfl j4m (fun hg E w1 hm=>by exact j0b s0 (hsz s0 (List.mem_of_getElem? hs0)) _) ?_
  refine Yy 4 rfl<|Qs rfl<|QE 1 [2,3,4,5,6,7] rfl<|Qw<|QJ<|QA<|QC<|Yy 5 rfl<|QY rfl (z60 (.bool (!((srV s0).eqB g))) rfl (fun E w=>j4p _ _ w (.inr rfl)))<|QE 2 [2,3,4,5,80] rfl<|Qw<|Qn rfl (fun h=> ?_) fun h=> ?_
  ·
   refine QI<|QM<|Qw<|QA<|QC<|QE 4 [4,5] rfl<|Qw<|QO<|z4b<|z0h tok rfl ?_
   have hno:z3o g D=false:=by
    rw[hlk]
    cases hq:(srV s0).eqB g with
    |false=>simp
    |true=>
     rw[hq]at h
     simp at h
     simp[h]
   intro E w' hm _
   exact hbad V w' hno rfl (hV.trans hm.leV) (hm.below lr) _
  ·
   have hyes:srE s0=0∧(srV s0).eqB g=true:=by simpa using h
   clear h
   rw[decide_eq_true hyes.1,hyes.2,Bool.true_and,Bool.true_and]at hlk
   refine QA<|QA<|QC<|QE 3 [2,3,4,5,41,42] rfl<|Qw<|QJ<|z9r 2 16 3 1 rfl rfl<|Ql [2,3,4,5,41] [2,7] rfl rfl (σ:=Nat) (fun i=>[(42, .a (.v (I i)))]) (fun i=>[(2, .lit ([.v (.slice none 0 0), .v (.slice none 0 0), .v (.slice none 0 0)]++g.cells.map .v++[.v (.slice a1 n1 c1), .v (.slice a2 n2 c2), .v (.slice a3 n3 c3), .v (I nx), .v (.slice a4 n4 c4), .row 7]) 72),(7, .row 3 1 i ((z76 g sl i).flatMap z0a))]) (fun i=>(i:Int)≤g.slots∧z5y g sl i=true) (fun i=>g.slots.toNat - i) (0) (⟨by omega,rfl⟩) ?_
   rintro i ⟨hi,htl⟩
   refine QA<|QC<|QE 1 [2,3,4,5,41,42,43] rfl<|Qw<|QA<|QX rfl (fun h=> ?_) fun h=> ?_
   ·
    refine QI<|Qw<|QA<|QJ<|QA<|QC<|QE 2 [2,3,4,5,8,41,42] rfl<|Qw<|QA<|QC<|Yy 3 rfl ?_
    obtain⟨q,hq,hqt⟩:=zaw hG (i:=i) (by omega)
    have hql:q<sl.length:=by omega
    obtain⟨x,hx⟩: ∃x,sl[q]? =some x:=⟨_,List.getElem?_eq_getElem hql⟩
    have hgd:sl.getD (z1o g (i:Int)).toNat ByteArray.empty=x:=by rw[hq];simp[List.getD,hx]
    have hwi:IntKind.i64.wrap ((i:Int)+1)=((i+1:Nat):Int):=z06 (by omega) (by omega)
    refine Qc (.a (.v _)) rfl zr2 (fun hg E w1 hm=>by exact zuw g ok i _) ?_
    rw[hq]
    refine zh8 rfl rfl rfl rfl rfl zth Tryz.func45 rfl rfl rfl fun E=>QA<|QC<|QE 1 [0,1] rfl<|Qw<|QA<|QC<|Yy 6 rfl ?_
    have hlt_x:=z01 hx
    refine QY rfl (z0c tok rfl (fun hg=>hS.sl) (fun hg=>⟨by omega,by omega⟩))<|QY rfl (z08 tok (q) 0 (x) rfl (fun hg=>hS) (fun hg=>hx) rfl rfl)<|QE 1 [4] rfl<|Qw<|QO<|z0h tok rfl ?_
    intro E1 w1 hm1 hok1
    refine z67 (E:=E) hm1 hok1 rfl rfl (by repeat (first|exact z1c.zero|refine z1c.succ rfl ?_)) rfl (by repeat (first|exact oN|refine oC rfl ?_)) rfl ?_
    clear hm1 hok1 w1 E1 E
    refine Qc (.a (.v _)) rfl j7y (fun hg E w1 hm=>by exact j0l x (hsz x (List.mem_of_getElem? hx)) _) ?_
    refine QE 5 [2,3,4,5,9,10,41,42] rfl<|Qw<|QA<|QA<|QC<|QE 2 [2,3,4,5,9,41,42,55] rfl<|Qw<|Qn rfl (fun h=> ?_) fun h=> ?_
    ·
     refine QN<|QK<|z4p rfl<|QK<|QK<|z4p rfl<|QK<|QQ<|Qw<|QA<|QC<|QE 4 [4,5] rfl<|Qw<|QO<|z4b<|z0h tok rfl ?_
     have hno:z3o g D=false:=by
      rw[hlk,zju (k:=i) (by omega) (by rw[hgd];simpa using h)];rfl
     intro E w' hm _
     exact hbad V w' hno rfl (hV.trans hm.leV) (hm.below lr) _
    ·
     refine QI<|Qw<|QC<|Yy 6 rfl ?_
     have ht0:z94 x=0:=by simpa using h
     have htl2:z5y g sl (i+1)=true:=by rw[z8z,htl,hgd,ht0];rfl
     refine QZ rfl (z1q tok 1 rfl rfl rfl) fun _ _=>QZ rfl (z0g tok [I (z3l x)] rfl (fun E w hm=>z09 (hm.row _ _ _ _ _ rfl)) (fun _ _ _=>by intro u hu;simp only[List.mem_singleton]at hu;subst hu;rfl) (by dsimp only;omega)) fun _ _=> ?_
     refine Yy 2 rfl<|Qs rfl<|z07 [2,3,4,5,41,42] rfl<|QM<|Qw<|QC<|QE 2 [2,3,4,5,41,42] rfl<|Qw ?_
     have hx2:(z76 g sl i).flatMap z0a++[I (z3l x)]=(z76 g sl (i+1)).flatMap z0a:=by rw[zlf,hgd];simp
     rw[hx2,hwi]
     refine z00 7 17 rfl<|Qr (i+1)<|⟨by omega,htl2⟩
   ·
    refine QN<|QK<|QK<|QQ<|Qw<|QA<|QC<|Yy 2 rfl ?_
    have hin:i=g.slots.toNat:=by omega
    subst hin
    rw[htl,Bool.true_and]at hlk
    refine Qv (fun x V'=> ∃V2:Vw,V2.le V'∧V.le V2∧(∀k o,V2.get k=some o→V.get k=some o∨w.heap.size≤k)∧zzn g D x V2) rfl j5b (fun hg E w1 hm=>by exact(hall _ (hV.trans hm.leV)).mono fun e w' h=>z1w (hm.below lr).size hV hm.leV h) ?_
    rintro x W0 hle0 hx
    obtain⟨Z,hZ0,hVZ,hgt,b1,m1,e1,b2,m2,e2,b3,m3,e3,n,rfl,hT⟩:=hx rfl
    clear hx
    refine Yy 5 rfl<|Qs rfl<|QE 2 [4,5,11,13] rfl<|Qw<|QA<|QA<|QC<|QE 2 [4,5,11,75] rfl<|Qw<|Qn rfl (fun h=> ?_) fun h=> ?_
    ·
     refine QN<|QK<|QQ<|Qw<|QA<|QC<|QE 4 [4,5] rfl<|Qw<|QO<|z4b<|z0h tok rfl ?_
     have hno:z3o g D=false:=by
      rw[hlk];simpa using h
     intro E w' hm _
     exact hbad V w' hno rfl (hV.trans (hle0.trans hm.leV)) (hm.below hle0) _
    ·
     have hl0:(zc0 g D).2=0:=by simpa using h
     have hyok:z3o g D=true:=by rw[hlk,hl0];rfl
     clear h
     refine QI<|Qw<|QC<|Yy 4 rfl<|Qs rfl<|QE 1 [4,5] rfl<|QM<|Qw<|QA<|QC<|QE 4 [4,5] rfl<|Qw<|QO<|z4b<|Qb rfl fun E w' hm=> ?_
     have hb:=hm.below hle0
     have hlit:=hm.lit 2 _ _ rfl
     have hfr:=zfc hm hle0 (l:=2) rfl
     have hrow:=hm.rowFresh hle0 (l:=7) rfl
     have hsl:=SlOf.grown (enc:=z0a) (L:=z76 g sl g.slots.toNat) V (by rw[zai];exact hrow) (fun _=>rfl)
     obtain⟨ta,tn,tc,htv⟩:=z04 hsl.sl
     have hZg:=zy6 hV hVZ (hZ0.trans hm.leV) hgt
     refine⟨_,V.grown w w',rfl,hb,Vext.grown hV hb,_,by rw[zrw hlo hyok];rfl,fun _=>⟨E.ρ 2,rfl,b1,m1,e1,b2,m2,e2,b3,m3,e3,ta,tn,tc, ?_,(hT hl0).mono hZg,by rw[hDl,←htv];exact hsl⟩⟩
     show(if _ then _ else _)=_
     rw[if_neg (by omega),hlit,hlc,←htv]
     rfl
end Go.Proofs.YtkoiogkdiifgfaaGreat
