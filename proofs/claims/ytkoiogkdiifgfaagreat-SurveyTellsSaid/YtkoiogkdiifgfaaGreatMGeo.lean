import Derived.Test.YtkoiogkdiifgfaaGreatData
/- Geometries that may be: the program and the document agree. -/
set_option linter.unusedVariables false
set_option linter.unusedSimpArgs false
set_option maxRecDepth 100000
namespace Go.Proofs.YtkoiogkdiifgfaaGreat
open Go Go.Eng Go.RowKit
def inB(n a b:Int):Bool:=decide (a≤n)&&decide (n≤b)
theorem zt5(n a b:Int)(w:World):Rt 65 #[I n,I a,I b] w (.bool (inB n a b)):=by
 refine Qf [.a (.v (I n)), .a (.v (I a)), .a (.v (I b))] Tryz.func65 rfl<|QA<|QC<|QE 1 [0,1,2] rfl<|Qw<|QA<|QC<|QE 9 [6] rfl<|Qw<|QO<|Qb rfl fun E w' hm=> ?_
 exact⟨rfl,hm.below lr⟩
def z2y(g:Geo):Bool:=decide ((1≤g.nodes∧g.nodes≤16)∧(1≤g.slots∧g.slots≤g.nodes)∧(1≤g.blocks∧g.blocks≤64)∧(1≤g.per∧g.per≤8)∧(g.per+2≤g.journal∧g.journal≤64)∧
 (8*g.slots≤g.log∧g.log≤512)∧(1≤g.lease∧g.lease<g.wait∧g.wait≤1048576))
theorem z3k(g:Geo)(ok:g.Ok)(w:World):Rt 34 #[g.val] w (.bool (z2y g)):=by
 refine Qf [.a (.v g.val)] Tryz.func34 rfl<|QA<|QC<|QE 2 [1] rfl<|Qw<|QA<|QC<|Yy 2 rfl<|Qc (.a (.v _)) rfl z7k (fun hg E w1 hm=>by exact zt5 _ _ _ _) ?_
 refine Yy 5 rfl<|Qc (.a (.v _)) rfl z7k (fun hg E w1 hm=>by exact zt5 _ _ _ _) ?_
 refine Yy 4 rfl<|Qc (.a (.v _)) rfl z7k (fun hg E w1 hm=>by exact zt5 _ _ _ _) ?_
 refine Yy 4 rfl<|Qc (.a (.v _)) rfl z7k (fun hg E w1 hm=>by exact zt5 _ _ _ _) ?_
 refine Yy 7 rfl<|Qc (.a (.v _)) rfl z7k (fun hg E w1 hm=>by exact zt5 _ _ _ _) ?_
 refine Yy 7 rfl<|Qc (.a (.v _)) rfl z7k (fun hg E w1 hm=>by exact zt5 _ _ _ _) ?_
 refine QE 19 [2] rfl<|Qw<|QO<|Qb rfl fun E w' hm=>⟨?_,hm.below lr⟩
 show Ending.returned (.bool ((((((((inB g.nodes 1 16&&inB g.slots 1 g.nodes)&&inB g.blocks 1 64)&&inB g.per 1 8)&&inB g.journal (IntKind.i64.wrap (g.per+2)) 64)&&inB g.log (IntKind.i64.wrap (8*g.slots)) 512)&&
  decide (1≤g.lease))&&decide (g.lease<g.wait))&&decide (g.wait≤1048576)))=_
 congr 2
 by_cases h:(1≤g.nodes∧g.nodes≤16)∧(1≤g.slots∧g.slots≤g.nodes)∧(1≤g.per∧g.per≤8)
 ·
  rw[z06 (by omega) (by omega),z06 (by omega) (by omega),Bool.eq_iff_iff]
  simp only[inB,z2y,Bool.and_eq_true,decide_eq_true_eq]
  omega
 ·
  have:z2y g=false:=by
   simp only[z2y,decide_eq_false_iff_not]
   omega
  rw[this,Bool.eq_false_iff]
  simp only[inB,ne_eq,Bool.and_eq_true,decide_eq_true_eq]
  omega
/-! The program's. -/
abbrev j2j(n:Int):List Value:=[I n]
def z34:List Int→Bool
 |a::b::r=>decide (a≤b)&&z34 (b::r)
 |_=>true
theorem zb4: ∀(l:List Int),z34 l=true↔ ∀j x y,l[j]? =some x→l[j+1]? =some y→x≤y
 |[]=>by simp[z34]
 |[a]=>by simp[z34]
 |a::b::r=>by
  simp only[z34,Bool.and_eq_true,decide_eq_true_eq,zb4 (b::r)]
  constructor
  ·
   rintro⟨h1,h2⟩ j x y hx hy
   cases j with
   |zero=>simp at hx hy;subst hx hy;exact h1
   |succ j=>exact h2 j x y (by simpa using hx) (by simpa using hy)
  ·
   intro h
   exact⟨h 0 a b rfl rfl,fun j x y hx hy=>h (j+1) x y (by simpa using hx) (by simpa using hy)⟩
theorem z8c(V:Vw)(sv:Value)(l:List Int)(w:World)(hV:V.le (vw w))(hs:SlOf V j2j 1 sv l)(hn:l.length≤lim):
  Rt 82 #[sv] w (.bool (z34 l)):=by
 simp only[lim]at hn
 have hs':=hs.mono hV
 refine Qf [.a (.v sv)] Tryz.func82 rfl<|QA<|QC<|QE 1 [0] rfl<|Qw<|QA<|QA<|QC<|QE 1 [0,3] rfl<|Qw<|QJ ?_
 refine zcp (σ:=Nat) (fun k=>[(0, .a (.v sv)),(3, .a (.v (I (k+1:Nat))))]) (fun _=>[]) 0 (fun _=>vw w)
  (fun k=>k+1≤l.length+1∧ ∀j x y,j<k→l[j]? =some x→l[j+1]? =some y→x≤y) (fun k=>l.length - k) 0 ⟨by omega,by omega⟩ ⟨rfl,rfl,trivial⟩ trivial rfl lr ?_
 rintro k ⟨hk,hall⟩
 refine QA<|QA<|QC<|Yy 2 rfl<|QY rfl (z0l tok rfl (fun hg=>hs'.sl))<|QE 1 [0,3,7] rfl<|Qw<|Qn rfl (fun h=> ?_) fun h=> ?_
 ·
  refine QI<|Qw<|QA<|QJ<|QA<|z11 mixed (by kernel_rfl)<|Dm 3 rfl ?_
  have hlt:k+1<l.length:=by simp at h;omega
  have hx:l[k]? =some (l[k]'(by omega)):=by simp
  have hy:l[k+1]? =some l[k+1]:=by simp[hlt]
  have hw:IntKind.i64.wrap (((k+1:Nat):Int) - 1)=(k:Int):=by rw[z06 (by omega) (by omega)];omega
  rw[hw]
  refine Qd rfl (z0c tok rfl (fun hg=>hs'.sl) (fun hg=>⟨by omega,by omega⟩))<|Qd rfl (z08 tok (k) 0 ((l[k]'(by omega))) rfl (fun hg=>hs') (fun hg=>hx) rfl rfl)<|Dm 2 rfl<|Qd rfl (z0c tok rfl (fun hg=>hs'.sl) (fun hg=>⟨by omega,by omega⟩))<|Qd rfl (z08 tok (k+1) 0 (l[k+1]) rfl (fun hg=>hs') (fun hg=>hy) rfl rfl)<|Dm 1 rfl<|z1z [0,3,19] rfl<|Qw<|Qn rfl (fun h=> ?_) fun h=> ?_
  ·
   refine QA<|QC<|QE 1 [2] rfl<|Qw<|QO<|QP<|QL<|QL<|QP<|QL<|Qb rfl fun E w' hm=>⟨?_,hm.below lr⟩
   have:z34 l=false:=by
    rw[Bool.eq_false_iff]
    intro hc
    have:=(zb4 l).1 hc k _ _ hx hy
    simp at h;omega
   rw[this];rfl
  ·
   refine QI<|QM<|Qw<|QC<|QE 3 [0,3] rfl<|Qw ?_
   have hwr:IntKind.i64.wrap (((k+1:Nat):Int)+1)=((k+1+1:Nat):Int):=by rw[z06 (by omega) (by omega)];omega
   rw[hwr]
   refine Qr (k+1) ⟨by omega,fun j x y hj hx' hy'=> ?_⟩ (hμ:=by omega) (hs:=⟨rfl,rfl,trivial⟩) (hO:=trivial)
   by_cases hjk:j=k
   ·
    subst hjk
    rw[hx]at hx';rw[hy]at hy'
    cases hx';cases hy'
    simp at h;omega
   · exact hall j x y (by omega) hx' hy'
 ·
  refine QN<|QK<|QK<|QQ<|Qw<|QA<|QC<|QE 1 [2] rfl<|Qw<|QO<|Qb rfl fun E w' hm=>⟨?_,hm.below lr⟩
  have:z34 l=true:=by
   rw[zb4]
   intro j x y hx hy
   have:=(List.getElem?_eq_some_iff.1 hy).1
   simp at h
   exact hall j x y (by omega) hx hy
  rw[this];rfl
theorem z73(g:Geo)(ok:g.Ok)(w:World):Rt 51 #[g.val] w (.bool (z2y g)):=by
 refine Qf [.a (.v g.val)] Tryz.func51 rfl<|QA<|QC<|QE 2 [1] rfl<|Qw<|QA<|QC<|Yy 4 rfl<|zp7 tok rfl rfl rfl rfl fun b1 V1 hle1 hb1=>Qc (.a (.v _)) rfl zfy (fun hg E w1 hm=>by exact z8c V1 _ [1,g.slots,g.nodes,16] _ hm.leV (SlOf.ofBlock (enc:=j2j) (sz:=1) (l:=[1,g.slots,g.nodes,16]) (hb1 hg) rfl (fun _=>rfl) (Nat.le_refl _)) (by simp[lim])) ?_
 refine Yy 3 rfl<|zp7 tok rfl rfl rfl rfl fun b2 V2 hle2 hb2=>Qc (.a (.v _)) rfl zfy (fun hg E w1 hm=>by exact z8c V2 _ [1,g.blocks,64] _ hm.leV (SlOf.ofBlock (enc:=j2j) (sz:=1) (l:=[1,g.blocks,64]) (hb2 hg) rfl (fun _=>rfl) (Nat.le_refl _)) (by simp[lim])) ?_
 refine Yy 4 rfl<|zp7 tok rfl rfl rfl rfl fun b3 V3 hle3 hb3=>Qc (.a (.v _)) rfl zfy (fun hg E w1 hm=>by exact z8c V3 _ [1,g.per,8] _ hm.leV (SlOf.ofBlock (enc:=j2j) (sz:=1) (l:=[1,g.per,8]) (hb3 hg) rfl (fun _=>rfl) (Nat.le_refl _)) (by simp[lim])) ?_
 refine Yy 7 rfl<|zp7 tok rfl rfl rfl rfl fun b4 V4 hle4 hb4=>Qc (.a (.v _)) rfl zfy (fun hg E w1 hm=>by exact z8c V4 _ [IntKind.i64.wrap (g.per+2),g.journal,64] _ hm.leV (SlOf.ofBlock (enc:=j2j) (sz:=1) (l:=[IntKind.i64.wrap (g.per+2),g.journal,64]) (hb4 hg) rfl (fun _=>rfl) (Nat.le_refl _)) (by simp[lim])) ?_
 refine Yy 7 rfl<|zp7 tok rfl rfl rfl rfl fun b5 V5 hle5 hb5=>Qc (.a (.v _)) rfl zfy (fun hg E w1 hm=>by exact z8c V5 _ [IntKind.i64.wrap (8*g.slots),g.log,512] _ hm.leV (SlOf.ofBlock (enc:=j2j) (sz:=1) (l:=[IntKind.i64.wrap (8*g.slots),g.log,512]) (hb5 hg) rfl (fun _=>rfl) (Nat.le_refl _)) (by simp[lim])) ?_
 refine Yy 7 rfl<|zp7 tok rfl rfl rfl rfl fun b6 V6 hle6 hb6=>Qc (.a (.v _)) rfl zfy (fun hg E w1 hm=>by exact z8c V6 _ [1,g.lease,IntKind.i64.wrap (g.wait - 1),1048575] _ hm.leV (SlOf.ofBlock (enc:=j2j) (sz:=1) (l:=[1,g.lease,IntKind.i64.wrap (g.wait - 1),1048575]) (hb6 hg) rfl (fun _=>rfl) (Nat.le_refl _)) (by simp[lim])) ?_
 refine QE 2 [2] rfl<|Qw<|QO<|Qb rfl fun E w' hm=>⟨?_,hm.below (((((hle1.trans hle2).trans hle3).trans hle4).trans hle5).trans hle6)⟩
 show Ending.returned (.bool (((((z34 [1,g.slots,g.nodes,16]&&z34 [1,g.blocks,64])&&z34 [1,g.per,8])&&z34 [IntKind.i64.wrap (g.per+2),g.journal,64])&&z34 [IntKind.i64.wrap (8*g.slots),g.log,512])&&
  z34 [1,g.lease,IntKind.i64.wrap (g.wait - 1),1048575]))=_
 congr 2
 have hw:=ok.wait
 simp only[R64]at hw
 by_cases h:(1≤g.nodes∧g.nodes≤16)∧(1≤g.slots∧g.slots≤g.nodes)∧(1≤g.per∧g.per≤8)
 ·
  rw[z06 (n:=g.per+2) (by omega) (by omega),z06 (n:=8*g.slots) (by omega) (by omega)]
  by_cases hwait:g.wait= -9223372036854775808
  ·
   have:z2y g=false:=by
    simp only[z2y,decide_eq_false_iff_not]
    omega
   rw[this,hwait]
   simp[z34]
   intros
   decide
  ·
   rw[z06 (n:=g.wait - 1) (by omega) (by omega),Bool.eq_iff_iff]
   simp only[z34,z2y,Bool.and_eq_true,decide_eq_true_eq,and_true]
   omega
 ·
  have:z2y g=false:=by
   simp only[z2y,decide_eq_false_iff_not]
   omega
  rw[this,Bool.eq_false_iff]
  simp only[z34,ne_eq,Bool.and_eq_true,decide_eq_true_eq]
  omega
def z49(n m:Int):Bool:=decide (0≤n)&&decide (n<m)
theorem zgz(n m:Int)(w:World):Rt 183 #[I n,I m] w (.bool (z49 n m)):=by
 refine Qf [.a (.v (I n)), .a (.v (I m))] Tryz.func183 rfl<|QA<|QC<|QE 1 [0,1] rfl<|Qw<|QA<|QC<|QE 8 [4] rfl<|Qw<|QO<|Qb rfl fun E w' hm=> ?_
 exact⟨rfl,hm.below lr⟩
def zbt(n:Int):Bool:=decide (16≤n)&&decide (n≤1099511627776)
theorem zw0(n:Int)(w:World):Rt 182 #[I n] w (.bool (zbt n)):=by
 refine Qf [.a (.v (I n))] Tryz.func182 rfl<|QA<|QC<|QE 1 [0] rfl<|Qw<|QA<|QC<|QE 7 [2] rfl<|Qw<|QO<|Qb rfl fun E w' hm=> ?_
 exact⟨rfl,hm.below lr⟩
theorem zvd(r:Record)(b:Nat)(w:World)(hb:w.heap[b]? =some (.cells r.cells.toArray 250 (0,0))):
  Rt 184 #[.pointer (some ⟨b,0,none⟩)] w (.bool (decide (0<r.count))):=by
 refine z4n [.a (.ptr 0 0)] hb Tryz.func184 rfl rfl rfl rfl<|QA<|QC<|QE 1 [0] rfl<|Qw<|QA<|QC<|QE 7 [2] rfl<|Qw<|QO<|Qb rfl fun E w' hm=> ?_
 exact⟨rfl,z3g hb hm lr rfl rfl rfl⟩
def Record.eqB(a b:Record):Bool:=a.key==b.key&&(a.lsn==b.lsn&&(a.block==b.block&&(a.k==b.k&&(a.text.toList==b.text.toList&&a.count==b.count))))
theorem zpj{a b:ByteArray}(h:a.toList=b.toList):a=b:=by
 rw[ByteArray.toList_eq,ByteArray.toList_eq]at h
 obtain⟨x⟩:=a
 obtain⟨y⟩:=b
 exact congrArg ByteArray.mk<|Array.ext' h
theorem ze7{a:ByteArray}(h:a.size=0):a=ByteArray.empty:=by
 obtain⟨⟨x⟩⟩:=a
 have:x=[]:=List.eq_nil_of_length_eq_zero h
 subst this
 rfl
theorem Record.eqB_iff(a b:Record):a.eqB b=true↔a=b:=by
 simp only[Record.eqB,Bool.and_eq_true,beq_iff_eq]
 constructor
 ·
  rintro⟨h1,h2,h3,h4,h5,h6⟩
  cases a;cases b
  have:=zpj h5
  simp_all
 ·
  rintro rfl
  simp
theorem jb1{op:BinOp}{ox oy:Operand}(a b:Record)(w:World)(hop:op= .eql∨op= .neq):
  (do eqGuard op 74 ox oy a.val b.val;binOp op 74 a.val b.val:Sem Value).run Tryz.prog w= .ok (.bool (if op= .eql then a.eqB b else !(a.eqB b))) w:=by
 have hS:Tryz.prog.underlying 74=some (.struct (Tryz.prog.fieldsOf 74)):=by kernel_rfl
 have hp:Tryz.prog.stoodInHeld 74=false:=by kernel_rfl
 have hg:Tryz.prog.eqGuardType Tryz.prog.depth 74=false:=by kernel_rfl
 have key:(Op.equalIn 10000 74 a.val b.val).run Tryz.prog w= .ok (a.eqB b) w:=by
  have u3:=Tryz.underlying3
  have a3:=Tryz.isAgg3
  have z3:=Tryz.sizeOf3
  have u9:=Tryz.underlying9
  have a9:=Tryz.isAgg9
  have z9:=Tryz.sizeOf9
  rw[show(10000:Nat)=9999+1 from rfl,run_equalIn_agg w 9999 74 _ _ hS hp]
  simp only[Program.fieldsOf,Tryz.underlying74]
  go_simp
  unfold Record.eqB
  by_cases h1:a.key=b.key<;>by_cases h2:a.lsn=b.lsn<;>by_cases h3:a.block=b.block<;>by_cases h4:a.k=b.k<;>by_cases h5:a.text.toList=b.text.toList<;>by_cases h6:a.count=b.count<;>simp[h1,h2,h3,h4,h5,h6]
 rw[Sem.run_bind,run_eqGuard_agg w _ _ _ _ _ _ hg]
 rcases hop with rfl|rfl
 · simp only[Result.andThen_ok,run_eql_struct,key];rfl
 · simp only[Result.andThen_ok,run_neq_struct,key];rfl
def zki(r:Record):Bool:=
 zbt r.key&&z49 r.lsn 1099511627777&&z49 r.count 64&&
  (if 0<r.count then decide (r.block=0)&&decide (r.k=0)&&(r.text.size==0)else z49 r.block 64&&z49 r.k 8&&decide ((r.text.size:Int)≤256))
theorem zp5(r:Record)(b:Nat)(w:World)(hb:w.heap[b]? =some (.cells r.cells.toArray 250 (0,0))):
  Rt 163 #[.pointer (some ⟨b,0,none⟩)] w (.bool (zki r)):=by
 refine z4n [.a (.ptr 0 0)] hb Tryz.func163 rfl rfl rfl rfl<|QA<|QC<|QE 1 [0] rfl<|Qw<|QA<|QA<|QC<|Yy 5 rfl<|Qc (.a (.v _)) rfl zh6 (fun hg E w1 hm=>by exact zw0 _ _) ?_
 refine Yy 7 rfl<|Qc (.a (.v _)) rfl zi8 (fun hg E w1 hm=>by exact zgz _ _ _) ?_
 refine Yy 8 rfl<|Qc (.a (.v _)) rfl zi8 (fun hg E w1 hm=>by exact zgz _ _ _) ?_
 refine QE 2 [0,27] rfl<|Qw<|Qn rfl (fun h=> ?_) fun h=> ?_
 ·
  refine QA<|QC<|QE 1 [2] rfl<|Qw<|QO<|QL<|Qb rfl fun E w' hm=>⟨?_,z3g hb hm lr rfl rfl rfl⟩
  have:zki r=false:=by
   simp only[zki]
   revert h
   cases zbt r.key<;>cases z49 r.lsn 1099511627777<;>cases z49 r.count 64<;>simp
  rw[this];rfl
 ·
  refine QI<|Qw<|QA<|QA<|QC<|Yy 1 rfl ?_
  have hpre:=h
  clear h
  refine Qc (.a (.v _)) rfl j2l (fun hg E w1 hm=>by exact zvd r _ _ (hm.lit 0 _ _ rfl)) ?_
  refine z07 [0,29] rfl<|Qw<|Qn rfl (fun h=> ?_) fun h=> ?_
  ·
   refine QA<|z11 mixed (by kernel_rfl)<|Dm 20 rfl<|Qd rfl (z60 (.bool (r.eqB ⟨r.key,r.lsn,0,0,ByteArray.empty,r.count⟩)) rfl (fun E w=>jb1 r ⟨r.key,r.lsn,0,0,ByteArray.empty,r.count⟩ w (.inl rfl)))<|Dm 1 rfl<|z1z [2] rfl<|Qw<|QO<|QL<|Qb rfl fun E w' hm=>⟨?_,z3g hb hm lr rfl rfl rfl⟩
   show Ending.returned (.bool _)=_
   congr 2
   have h0:0<r.count:=by simpa using h
   rw[Bool.eq_iff_iff,Record.eqB_iff]
   simp only[zki,if_pos h0]
   have hc:(zbt r.key&&z49 r.lsn 1099511627777&&z49 r.count 64)=true:=by
    simp only[Bool.or_eq_false_iff,Bool.not_eq_false']at hpre
    simp[hpre]
   rw[hc,Bool.true_and]
   simp only[Bool.and_eq_true,decide_eq_true_eq,beq_iff_eq]
   constructor
   ·
    intro he
    have h1:=congrArg Record.block he
    have h2:=congrArg Record.k he
    have h3:=congrArg Record.text he
    simp only at h1 h2 h3
    exact⟨⟨h1,h2⟩,by rw[h3];rfl⟩
   ·
    rintro⟨⟨h1,h2⟩,h3⟩
    have h4:r.text=ByteArray.empty:=ze7 h3
    cases r
    simp_all
  ·
   refine QI<|Qw<|QA<|QC<|Yy 5 rfl<|Qc (.a (.v _)) rfl zi8 (fun hg E w1 hm=>by exact zgz _ _ _) ?_
   refine Yy 6 rfl<|Qc (.a (.v _)) rfl zi8 (fun hg E w1 hm=>by exact zgz _ _ _) ?_
   refine QE 11 [2] rfl<|Qw<|QO<|Qb rfl fun E w' hm=>⟨?_,z3g hb hm lr rfl rfl rfl⟩
   show Ending.returned (.bool _)=_
   congr 2
   have h0: ¬0<r.count:=by simpa using h
   simp only[zki,if_neg h0]
   have hc:(zbt r.key&&z49 r.lsn 1099511627777&&z49 r.count 64)=true:=by
    simp only[Bool.or_eq_false_iff,Bool.not_eq_false']at hpre
    simp[hpre]
   rw[hc,Bool.true_and]
def j6o(s:ByteArray):ByteArray:=s.extract (min s.size 256) s.size
theorem zhb(l:List Record): ∀u∈l.flatMap Record.cells,u.oneCell'=true:=by
 intro u hu
 obtain⟨x,_,hx⟩:=List.mem_flatMap.1 hu
 simp only[Record.cells,List.mem_cons,List.not_mem_nil,or_false]at hx
 rcases hx with rfl|rfl|rfl|rfl|rfl|rfl<;>rfl
abbrev Ptr(b:Nat):Value:= .pointer (some ⟨b,0,none⟩)
section
variable{o:Oper}{n:Nat}{F:z05}{C:List Nat}{O:Go.Eng.Own}{nl:Nat}{V:Vw}
end
def j5n(t:ByteArray):Nat→ByteArray
 |0=>t
 |k+1=>j6o (j5n t k)
def zpr(l:List Block)(i:Nat):Block:=l.getD i ⟨0,ByteArray.empty⟩
theorem zxx{l:List Block}{i:Nat}{b:Block}(h:l[i]? =some b):zpr l i=b:=by simp[zpr,List.getD,h]
def z8r(l:List Block):Nat→Int
 |0=> -1
 |i+1=>(zpr l i).n
def z31:List Record→Nat→Nat→Nat→Nat
 |[],_,n,_=>n
 |r::t,i,n,d=>if r.count=0 then z31 t (i+1) n (d+1)else if r.count≠(d:Int)then n else z31 t (i+1) (i+1) 0
def whole(l:List Record):Nat:=z31 l 0 0 0
theorem z27{α:Type}{l:List α}{k:Nat}{x:α}(h:l[k]? =some x):l.drop k=x::l.drop (k+1):=by
 have hlt:=(List.getElem?_eq_some_iff.1 h).1
 rw[List.drop_eq_getElem_cons hlt,(List.getElem?_eq_some_iff.1 h).2]
theorem j1r(V:Vw)(sv:Value)(l:List Record)(w:World)(hV:V.le (vw w))(hs:SlOf V Record.cells 6 sv l)(hn:l.length≤lim):
  Rt 60 #[sv] w (I (whole l)):=by
 have hs':=hs.mono hV
 simp only[lim]at hn
 refine Qf [.a (.v sv)] Tryz.func60 rfl<|QA<|QC<|QE 1 [0,2] rfl<|Qw<|QA<|QC<|QE 1 [0,2,3] rfl<|Qw<|QA<|QA<|QC<|Yy 1 rfl<|QY rfl (z0l tok rfl (fun hg=>hs'.sl))<|QE 1 [2,3,6,7,8] rfl<|Qw<|QJ ?_
 refine zcp (σ:=Nat×Nat×Nat) (fun x=>[(2, .a (.v (I x.2.1))),(3, .a (.v (I x.2.2))),(6, .a (.v sv)),(7, .a (.v (I l.length))),(8, .a (.v (I x.1)))]) (fun _=>[]) 0 (fun _=>vw w)
  (fun x=>x.1≤l.length∧x.2.1≤x.1∧x.2.2≤x.1∧whole l=z31 (l.drop x.1) x.1 x.2.1 x.2.2) (fun x=>l.length - x.1) (0,0,0) ⟨Nat.zero_le _,Nat.le_refl _,Nat.le_refl _,rfl⟩ ⟨rfl,rfl,rfl,rfl,rfl,trivial⟩ trivial rfl lr ?_
 rintro⟨k,n,d⟩ ⟨hk,hn',hd,hw⟩
 simp only at hk hn' hd hw
 refine QA<|QC<|QE 1 [2,3,6,7,8,9] rfl<|Qw<|QA<|Qn rfl (fun h=> ?_) fun h=> ?_
 ·
  refine QI<|Qw<|QA<|QJ<|QA<|QC<|Yy 1 rfl ?_
  have hlt:k<l.length:=by simp at h;omega
  obtain⟨r,hr⟩: ∃r,l[k]? =some r:=⟨l[k],by simp[hlt]⟩
  rw[z27 hr]at hw
  simp only[z31]at hw
  refine QY rfl (z0c tok rfl (fun hg=>hs'.sl) (fun hg=>⟨by omega,by omega⟩))<|QY rfl (z08 tok (k) 0 (r) rfl (fun hg=>hs') (fun hg=>hr) rfl rfl)<|Yy 2 rfl<|Qs rfl<|z07 [2,3,4,5,6,7,8] rfl<|Qw<|QJ<|QA<|QC<|QE 4 [2,3,4,5,6,7,8,15] rfl<|Qw<|Qn rfl (fun h=> ?_) fun h=> ?_
  ·
   refine QC<|QE 3 [2,3,6,7,8] rfl<|QM<|QM<|Qw<|QC<|QE 2 [2,3,6,7,8] rfl<|Qw ?_
   have h0:r.count=0:=by simpa using h
   rw[if_pos h0]at hw
   rw[z06 (n:=(d:Int)+1) (by omega) (by omega),z06 (n:=(k:Int)+1) (by omega) (by omega)]
   exact Qr (k+1,n,d+1) ⟨by simp only;omega,by simp only;omega,by simp only;omega,hw⟩ (hμ:=by simp only;omega) (hs:=⟨rfl,rfl,rfl,rfl,rfl,trivial⟩) (hO:=trivial)
  ·
   refine QA<|QC<|QE 5 [2,4,6,7,8,21] rfl<|Qw<|Qn rfl (fun h2=> ?_) fun h2=> ?_
   ·
    refine QA<|QC<|QE 2 [2] rfl<|Qw<|QO<|QP<|QP<|QL<|QL<|QP<|QL<|z0h tok rfl ?_
    have h0: ¬r.count=0:=by simpa using h
    rw[if_neg h0]at hw
    have h1:r.count≠(d:Int):=by simpa using h2
    rw[if_pos h1]at hw
    intro E w' hm _
    exact⟨by rw[hw];rfl,hm.below lr⟩
   ·
    refine QC<|QE 4 [2,3,6,7,8] rfl<|QM<|QM<|Qw<|QC<|QE 2 [2,3,6,7,8] rfl<|Qw ?_
    have h0: ¬r.count=0:=by simpa using h
    rw[if_neg h0]at hw
    have h1: ¬r.count≠(d:Int):=by simpa using h2
    rw[if_neg h1]at hw
    rw[z06 (n:=(k:Int)+1) (by omega) (by omega)]
    exact Qr (k+1,k+1,0) ⟨by simp only;omega,by simp only;omega,by simp only;omega,hw⟩ (hμ:=by simp only;omega) (hs:=⟨rfl,rfl,rfl,rfl,rfl,trivial⟩) (hO:=trivial)
 ·
  refine QN<|QK<|QK<|QQ<|Qw<|QA<|QC<|QE 2 [2] rfl<|Qw<|QO<|z0h tok rfl ?_
  have hkl:k=l.length:=by simp at h;omega
  subst hkl
  intro E w' hm _
  refine⟨?_,hm.below lr⟩
  rw[List.drop_length]at hw
  rw[hw];rfl
end Go.Proofs.YtkoiogkdiifgfaaGreat

/- The law RecordTexts from what comes in. -/
set_option linter.unusedVariables false
set_option linter.unusedSimpArgs false
set_option maxRecDepth 100000
namespace Go.Proofs.YtkoiogkdiifgfaaGreat
open Go Go.Eng Go.RowKit
end Go.Proofs.YtkoiogkdiifgfaaGreat

/- Numbers as bytes: widths, what zbo, what stands somewhere. -/
set_option linter.unusedVariables false
set_option linter.unusedSimpArgs false
set_option maxRecDepth 100000
namespace Go.Proofs.YtkoiogkdiifgfaaGreat
open Go Go.Eng Go.RowKit
def z0w(w:Int):Bool:=decide (1≤w)&&decide (w≤6)
theorem zou(n:Int)(w:World):Rt 137 #[I n] w (.bool (z0w n)):=by
 refine Qf [.a (.v (I n))] Tryz.func137 rfl<|QA<|QC<|QE 1 [0] rfl<|Qw<|QA<|QC<|QE 7 [2] rfl<|Qw<|QO<|Qb rfl fun E w' hm=> ?_
 exact⟨rfl,hm.below lr⟩
def z6c(k:Nat):Nat:=min (256^k - 1) 1099511627776
theorem zkt{n:Int}(h:z0w n=true):n=1∨n=2∨n=3∨n=4∨n=5∨n=6:=by
 simp only[z0w,Bool.and_eq_true,decide_eq_true_eq]at h;omega
def z1k(n w:Int):Bool:=z0w w&&decide (0≤n)&&decide (n≤z6c w.toNat)
def zf3(k:Int):Int:=if z0w k=true then z6c k.toNat else -1
def pw(k:Nat):Nat:=256^k
theorem z8p(k:Nat):pw (k+1)=pw k*256:=by simp[pw,Nat.pow_succ]
theorem zfi(k:Nat):1≤pw k:=Nat.pow_pos (by omega)
theorem jak{k m:Nat}(h:k≤m):pw k≤pw m:=Nat.pow_le_pow_right (by omega) h
theorem pw6:pw 6=281474976710656:=by decide
theorem zog{k:Nat}(h:k≤6):pw k≤281474976710656:=pw6▸jak h
theorem z9w(k:Int)(w:World):Rt 132 #[I k] w (I (zf3 k)):=by
 refine Qf [.a (.v (I k))] Tryz.func132 rfl<|QA<|QC<|QE 1 [0] rfl<|Qw<|QA<|QA<|QC<|QE 6 [0,10] rfl<|Qw<|QX rfl (fun h=> ?_) fun h=> ?_
 ·
  refine QA<|QC<|QE 1 [2] rfl<|Qw<|QO<|QL<|Qb rfl fun E w' hm=>⟨?_,hm.below lr⟩
  rw[zf3,if_neg (by simp[z0w];omega)]
  rfl
 ·
  refine QI<|Qw<|QA<|QC<|QE 1 [0,3] rfl<|Qw<|QA<|QA<|QC<|QE 1 [0,3,4] rfl<|Qw<|QJ ?_
  obtain⟨m,hm⟩: ∃m:Nat,k=m:=⟨k.toNat,by omega⟩
  subst hm
  refine Ql [0] [] rfl rfl (σ:=Nat) (fun i=>[(3, .a (.v (I (pw i)))),(4, .a (.v (I i)))]) (fun i=>[]) (fun i=>i≤m) (fun i=>m - i) (0) (by omega) ?_
  rintro i hi
  refine QA<|QA<|QC<|QE 3 [0,3,4,13] rfl<|Qw<|QX rfl (fun h=> ?_) fun h=> ?_
  ·
   refine QI<|Qw<|QA<|QJ<|QC<|QE 3 [0,3,4] rfl<|QM<|Qw<|QC<|QE 3 [0,3,4] rfl<|Qw ?_
   have hp:=zog (k:=i) (by omega)
   rw[z06 (n:=(pw i:Int)*256) (by omega) (by omega),z06 (n:=(i:Int)+1) (by omega) (by omega),show(pw i:Int)*256=(pw (i+1):Int) by rw[z8p];omega]
   refine Qr (i+1) (by omega)
  ·
   refine QN<|QK<|QK<|QQ<|Qw<|QA<|QC<|Yy 2 rfl ?_
   have him:i=m:=by omega
   subst him
   have hp:=zog (k:=i) (by omega)
   have h1:=zfi i
   rw[z06 (n:=(pw i:Int) - 1) (by omega) (by omega)]
   refine QY rfl (j2f rfl)<|QE 1 [2] rfl<|Qw<|QO<|Qb rfl fun E w' hm=>⟨?_,hm.below lr⟩
   rw[zf3,if_pos (by simp[z0w];omega),Int.toNat_natCast,z6c]
   show Ending.returned (I (min ((pw i:Int) - 1) 1099511627776))=_
   rw[show min ((pw i:Int) - 1) 1099511627776=((min (pw i - 1) 1099511627776:Nat):Int) by omega]
   rfl
theorem zs5(n k:Int)(w:World):Rt 156 #[I n,I k] w (.bool (z1k n k)):=by
 refine Qf [.a (.v (I n)), .a (.v (I k))] Tryz.func156 rfl<|QA<|QC<|QE 1 [0,1] rfl<|Qw<|QA<|QC<|Yy 5 rfl<|Qc (.a (.v _)) rfl zhs (fun hg E w1 hm=>by exact z9w _ _) ?_
 refine QE 3 [4] rfl<|Qw<|QO<|Qb rfl fun E w' hm=>⟨?_,hm.below lr⟩
 show Ending.returned (.bool (decide (0≤n)&&decide (n≤zf3 k)))=_
 congr 2
 unfold zf3 z1k
 cases hw:z0w k with
 |true=>simp
 |false=>simp;omega
def z6p(f:Nat→Nat):Nat→Nat
 |0=>0
 |k+1=>z6p f k+f k*pw k
theorem zhk{f:Nat→Nat}(hf: ∀j,f j<256): ∀k,z6p f k<pw k
 |0=>by simp[z6p,pw]
 |k+1=>by
  have h1:=zhk hf k
  have h2:f k*pw k≤255*pw k:=Nat.mul_le_mul_right _ (by have:=hf k;omega)
  rw[z6p,z8p];omega
theorem zrd(k:Nat):pw k=2^(8*k):=by rw[pw,Nat.pow_mul]
theorem j4y{x y k:Nat}(hx:x<pw k):x|||y*pw k=x+y*pw k:=by
 rw[zrd]at hx⊢
 rw[Nat.or_comm,nat_join (8*k) (y*2^(8*k)) x (Nat.mul_mod_left _ _) hx,Nat.add_comm]
def z12(s:ByteArray)(at_ j:Nat):Nat:=(z0m s (at_+j)).toNat
theorem z3a(s:ByteArray)(at_ j:Nat):z12 s at_ j<256:=UInt8.toNat_lt _
def z02(s:ByteArray)(at_ k:Int):Int×Int:=
 if z0w k=false then(0,2)
 else if at_<0∨(s.size:Int)<at_∨(s.size:Int) - at_<k then(0,10)
 else if 1099511627776<z6p (z12 s at_.toNat) k.toNat then(0,10)
 else((z6p (z12 s at_.toNat) k.toNat:Nat),0)
theorem zc7(s:ByteArray)(at_ k:Int)(hs:s.size≤maxLen)(w:World):Rt 106 #[S s,I at_,I k] w (.tuple #[I (z02 s at_ k).1,I (z02 s at_ k).2]):=by
 simp only[maxLen]at hs
 refine Qf [.a (.v (S s)), .a (.v (I at_)), .a (.v (I k))] Tryz.func106 rfl<|QA<|QC<|QE 2 [0,1,2,6] rfl<|Qw<|QA<|QJ<|QA<|QC<|Yy 1 rfl<|Qc (.a (.v _)) rfl j1c (fun hg E w1 hm=>by exact zou _ _) ?_
 refine QE 2 [0,1,2,6,9] rfl<|Qw<|QX rfl (fun h=> ?_) fun h=> ?_
 ·
  refine QA<|QC<|QE 2 [6,7] rfl<|Qw<|QO<|QP<|QL<|Qb rfl fun E w' hm=>⟨?_,hm.below lr⟩
  rw[z02,if_pos h]
  rfl
 ·
  have hw:=h
  have hwr: ¬at_<0→ ¬(s.size:Int)<at_→IntKind.i64.wrap ((s.size:Int) - at_)=(s.size:Int) - at_:=fun h1 h2=>z06 (by omega) (by omega)
  refine QA<|QC<|QE 17 [0,1,2,6,13] rfl<|Qw<|QX rfl (fun h=> ?_) fun h=> ?_
  ·
   refine QA<|QC<|QE 2 [6,7] rfl<|Qw<|QO<|QP<|QL<|Qb rfl fun E w' hm=>⟨?_,hm.below lr⟩
   rw[z02,if_neg (by simp[hw]),if_pos (by
    by_cases h1:at_<0
    · exact .inl h1
    ·
     by_cases h2:(s.size:Int)<at_
     · exact .inr (.inl h2)
     · rw[hwr h1 h2]at h;omega)]
   rfl
  ·
   refine QI<|QM<|Qw<|QA<|QA<|QC<|QE 2 [0,1,6,30,31] rfl<|Qw<|QJ ?_
   rw[hwr (by omega) (by omega)]at h
   have hk:=hw
   simp only[z0w,Bool.and_eq_true,decide_eq_true_eq]at hk
   obtain⟨m,hm⟩: ∃m:Nat,k=m:=⟨k.toNat,by omega⟩
   obtain⟨b,hb⟩: ∃b:Nat,at_=b:=⟨at_.toNat,by omega⟩
   subst hm hb
   have hlt:=zhk (z3a s b)
   refine Ql [0,1,30] [] rfl rfl (σ:=Nat) (fun i=>[(6, .a (.v (I (z6p (z12 s b) i)))),(31, .a (.v (I i)))]) (fun i=>[]) (fun i=>i≤m) (fun i=>m - i) (0) (by omega) ?_
   rintro i hi
   refine QA<|QC<|QE 1 [0,1,6,30,31,32] rfl<|Qw<|QA<|QX rfl (fun h=> ?_) fun h=> ?_
   ·
    refine QI<|Qw<|QA<|QJ<|QA<|QC<|QE 2 [0,1,6,8,30,31] rfl<|Qw<|QC<|Yy 5 rfl ?_
    have h1:=hlt i
    have h2:=zog (k:=i+1) (by omega)
    rw[z8p]at h2
    have h3:=z3a s b i
    rw[z06 (n:=(b:Int)+i) (by omega) (by omega)]
    refine QY rfl (zct tok rfl (fun hg=>by omega))<|Yy 3 rfl ?_
    rw[z06 (n:=8*(i:Int)) (by omega) (by omega)]
    refine QY rfl (j99 rfl (fun hg=>⟨by omega,by show 8*(i:Int)≤64;omega⟩)) ?_
    refine QE 2 [0,1,6,30,31] rfl<|QM<|Qw<|QC<|QE 2 [0,1,6,30,31] rfl<|Qw ?_
    have e:bits .or .i64 (z6p (z12 s b) i:Nat) (IntKind.i64.wrap (IntKind.i64.wrap (((z0m s ((b:Int)+i).toNat).toNat:Nat):Int)*2^(8*(i:Int)).toNat))=((z6p (z12 s b) (i+1):Nat):Int):=by
     have h4:z12 s b i*pw i≤255*pw i:=Nat.mul_le_mul_right _ (by omega)
     have h5:((z0m s ((b:Int)+i).toNat).toNat:Nat)=z12 s b i:=by
      rw[show((b:Int)+i).toNat=b+i by omega];rfl
     rw[h5,show(8*(i:Int)).toNat=8*i by omega,z06 (n:=((z12 s b i:Nat):Int)) (by omega) (by omega),show(2:Int)^(8*i)=((pw i:Nat):Int) by rw[zrd];simp,←Int.natCast_mul,
      z06 (by omega) (by omega),j4l _ _ (by omega) (by omega),j4y h1,z6p]
    rw[e,z06 (n:=(i:Int)+1) (by omega) (by omega)]
    refine Qr (i+1) (by omega)
   ·
    have him:i=m:=by omega
    subst him
    refine QN<|QK<|QK<|QQ<|Qw<|QA<|QA<|QC<|QE 2 [6,47] rfl<|Qw<|QX rfl (fun h=> ?_) fun h=> ?_
    ·
     refine QA<|QC<|QE 2 [6,7] rfl<|Qw<|QO<|QL<|Qb rfl fun E w' hm=>⟨?_,hm.below lr⟩
     rw[z02,if_neg (by simp[hw]),if_neg (by omega),if_pos (by simp only[Int.toNat_natCast];omega)]
     rfl
    ·
     refine QI<|Qw<|QA<|QC<|QE 3 [6,7] rfl<|Qw<|QO<|Qb rfl fun E w' hm=>⟨?_,hm.below lr⟩
     rw[z02,if_neg (by simp[hw]),if_neg (by omega),if_neg (by simp only[Int.toNat_natCast];omega)]
     simp only[Int.toNat_natCast]
     rfl
theorem z83(s:ByteArray)(at_ k:Int)(hs:s.size≤maxLen)(w:World):Rt 101 #[S s,I at_,I k] w (.tuple #[I (z02 s at_ k).1,I (z02 s at_ k).2]):=by
 simp only[maxLen]at hs
 refine Qf [.a (.v (S s)), .a (.v (I at_)), .a (.v (I k))] Tryz.func101 rfl<|QA<|QC<|QE 2 [0,1,2] rfl<|Qw<|QA<|QA<|QC<|Yy 1 rfl<|Qc (.a (.v _)) rfl zhs (fun hg E w1 hm=>by exact z9w _ _) ?_
 refine QE 1 [0,1,2,12] rfl<|Qw<|QX rfl (fun h=> ?_) fun h=> ?_
 ·
  refine QA<|QC<|QE 2 [6,7] rfl<|Qw<|QO<|QL<|Qb rfl fun E w' hm=>⟨?_,hm.below lr⟩
  have hw:z0w k=false:=by
   cases hq:z0w k with
   |false=>rfl
   |true=>rw[zf3,if_pos hq]at h;omega
  rw[z02,if_pos hw]
  rfl
 ·
  have hw:z0w k=true:=by
   cases hq:z0w k with
   |true=>rfl
   |false=>rw[zf3,if_neg (by simp[hq])]at h;omega
  have hwr: ¬at_<0→ ¬(s.size:Int)<at_→IntKind.i64.wrap ((s.size:Int) - at_)=(s.size:Int) - at_:=fun h1 h2=>z06 (by omega) (by omega)
  refine QI<|Qw<|QA<|QA<|QC<|QE 16 [0,1,2,28] rfl<|Qw<|QX rfl (fun h=> ?_) fun h=> ?_
  ·
   refine QA<|QC<|QE 2 [6,7] rfl<|Qw<|QO<|QL<|Qb rfl fun E w' hm=>⟨?_,hm.below lr⟩
   rw[z02,if_neg (by simp[hw]),if_pos (by
    by_cases h1:at_<0
    · exact .inl h1
    ·
     by_cases h2:(s.size:Int)<at_
     · exact .inr (.inl h2)
     · rw[hwr h1 h2]at h;omega)]
   rfl
  ·
   refine QI<|Qw<|QA<|QC<|QE 1 [0,1,2,8] rfl<|Qw<|QA<|QA<|QC<|QE 3 [0,1,8,9] rfl<|Qw<|QJ ?_
   rw[hwr (by omega) (by omega)]at h
   have hk:=hw
   simp only[z0w,Bool.and_eq_true,decide_eq_true_eq]at hk
   obtain⟨m,hm⟩: ∃m:Nat,k=m:=⟨k.toNat,by omega⟩
   obtain⟨b,hb⟩: ∃b:Nat,at_=b:=⟨at_.toNat,by omega⟩
   subst hm hb
   have hlt:=zhk (z3a s b)
   rw[z06 (n:=(m:Int) - 1) (by omega) (by omega)]
   refine Ql [0,1] [] rfl rfl (σ:=Nat×Nat) (fun(i,q)=>[(8, .a (.v (I q))),(9, .a (.v (I ((i:Int) - 1))))]) (fun(i,q)=>[]) (fun(i,q)=>i≤m∧q*pw i+z6p (z12 s b) i=z6p (z12 s b) m∧q≤281474976710656) (fun(i,q)=>i) ((m,0)) (⟨by omega,by omega,by omega⟩) ?_
   rintro⟨i,q⟩ ⟨hi,hq,hq2⟩
   refine QA<|QA<|QC<|QE 2 [0,1,8,9,32] rfl<|Qw<|QX rfl (fun h=> ?_) fun h=> ?_
   ·
    refine QI<|Qw<|QA<|QJ<|QC<|Yy 6 rfl ?_
    obtain⟨j,rfl⟩: ∃j,i=j+1:=⟨i - 1,by omega⟩
    have h1:=hlt m
    have h2:=zog (k:=m) (by omega)
    have h3:=z3a s b j
    have h4:=zfi (j+1)
    rw[z06 (n:=(q:Int)*256) (by omega) (by omega),show((j+1:Nat):Int) - 1=j by omega,z06 (n:=(b:Int)+j) (by omega) (by omega)]
    refine QY rfl (zct tok rfl (fun hg=>by omega))<|QE 3 [0,1,8,9] rfl<|QM<|Qw<|QC<|QE 3 [0,1,8,9] rfl<|Qw ?_
    have hnew:(q*256+z12 s b j)*pw j+z6p (z12 s b) j=z6p (z12 s b) m:=by
     rw[←hq,z8p,z6p,Nat.add_mul,Nat.mul_assoc,Nat.mul_comm 256 (pw j)];omega
    have hle:q*256+z12 s b j≤(q*256+z12 s b j)*pw j:=Nat.le_mul_of_pos_right _ (zfi j)
    have e:IntKind.i64.wrap (((q:Int)*256)+IntKind.i64.wrap (((z0m s ((b:Int)+j).toNat).toNat:Nat):Int))=((q*256+z12 s b j:Nat):Int):=by
     rw[show((z0m s ((b:Int)+j).toNat).toNat:Nat)=z12 s b j by rw[show((b:Int)+j).toNat=b+j by omega];rfl,z06 (n:=((z12 s b j:Nat):Int)) (by omega) (by omega),z06 (by omega) (by omega)]
     omega
    rw[e,z06 (n:=(j:Int) - 1) (by omega) (by omega)]
    refine Qr ((j,q*256+z12 s b j))<|⟨by omega,hnew,by omega⟩
   ·
    have hi0:i=0:=by omega
    subst hi0
    have hqq:q=z6p (z12 s b) m:=by simpa[z6p,pw]using hq
    subst hqq
    refine QN<|QK<|QK<|QQ<|Qw<|QA<|QA<|QC<|QE 2 [8,45] rfl<|Qw<|QX rfl (fun h=> ?_) fun h=> ?_
    ·
     refine QA<|QC<|QE 2 [6,7] rfl<|Qw<|QO<|QL<|Qb rfl fun E w' hm=>⟨?_,hm.below lr⟩
     rw[z02,if_neg (by simp[hw]),if_neg (by omega),if_pos (by simp only[Int.toNat_natCast];omega)]
     rfl
    ·
     refine QI<|Qw<|QA<|QC<|QE 3 [6,7] rfl<|Qw<|QO<|Qb rfl fun E w' hm=>⟨?_,hm.below lr⟩
     rw[z02,if_neg (by simp[hw]),if_neg (by omega),if_neg (by simp only[Int.toNat_natCast];omega)]
     simp only[Int.toNat_natCast]
     rfl
def z2r(x:Nat):Nat:=if x%2=1 then x / 2^^^2197175160 else x / 2
theorem zpb{x:Nat}(h:x<4294967296):z2r x<4294967296:=by
 unfold z2r
 split
 · exact Nat.xor_lt_two_pow (n:=32) (by omega) (by omega)
 · omega
theorem zwx(a b:Nat):(a^^^b) / 2=a / 2^^^b / 2:=by
 have:=Nat.shiftRight_xor_distrib (a:=a) (b:=b) (i:=1)
 simpa[Nat.shiftRight_eq_div_pow]using this
theorem j0r(a b:Nat):(a^^^b)%2=(a%2+b%2)%2:=by
 have h1:=Nat.xor_mod_two_pow (a:=a) (b:=b) (n:=1)
 simp only[Nat.pow_one]at h1
 rw[h1]
 rcases Nat.mod_two_eq_zero_or_one a with h|h<;>rcases Nat.mod_two_eq_zero_or_one b with h'|h'<;>rw[h,h']<;>rfl
theorem zlq(a b:Nat):z2r (a^^^b)=z2r a^^^z2r b:=by
 have h0:=j0r a b
 unfold z2r
 rw[zwx]
 by_cases ha:a%2=1<;>by_cases hb:b%2=1
 · rw[if_neg (by omega),if_pos ha,if_pos hb,Nat.xor_assoc,Nat.xor_comm 2197175160 (b / 2^^^2197175160),Nat.xor_assoc (b / 2),Nat.xor_self,Nat.xor_zero]
 · rw[if_pos (by omega),if_pos ha,if_neg hb,Nat.xor_assoc,Nat.xor_assoc,Nat.xor_comm (b / 2)]
 · rw[if_pos (by omega),if_neg ha,if_pos hb,Nat.xor_assoc]
 · rw[if_neg (by omega),if_neg ha,if_neg hb]
def z3u:Nat→Nat→Nat
 |0,x=>x
 |k+1,x=>z2r (z3u k x)
theorem z80: ∀(k:Nat) {x:Nat},x<4294967296→z3u k x<4294967296
 |0,_,h=>h
 |k+1,_,h=>zpb (z80 k h)
theorem ziy: ∀(k a b:Nat),z3u k (a^^^b)=z3u k a^^^z3u k b
 |0,_,_=>rfl
 |k+1,a,b=>by rw[z3u,ziy k,zlq];rfl
theorem zjk: ∀(j k x:Nat),z3u (j+k) x=z3u j (z3u k x)
 |0,k,x=>by rw[Nat.zero_add];rfl
 |j+1,k,x=>by rw[Nat.add_right_comm,z3u,zjk j k x];rfl
theorem z5z(y:Nat):z2r (2*y)=y:=by unfold z2r;rw[if_neg (by omega)];omega
theorem zv6(y:Nat):z3u 4 (16*y)=y:=by
 show z2r (z2r (z2r (z2r (16*y))))=y
 rw[show 16*y=2*(2*(2*(2*y))) by omega,z5z,z5z,z5z,z5z]
theorem j0h(x:Nat):16*(x / 16)^^^x%16=x:=by
 have h:=nat_join 4 (16*(x / 16)) (x%16) (by omega) (by omega)
 have h2:16*(x / 16)^^^x%16=16*(x / 16)|||x%16:=by
  apply Nat.eq_of_testBit_eq
  intro i
  rw[Nat.testBit_xor,Nat.testBit_or]
  by_cases hi:i<4
  ·
   rw[show 16*(x / 16)=2^4*(x / 16) by omega,Nat.testBit_two_pow_mul,show decide (i≥4)=false by simp;omega]
   simp
  ·
   rw[Nat.testBit_lt_two_pow (x:=x%16) (i:=i) (Nat.lt_of_lt_of_le (by omega:x%16<2^4) (Nat.pow_le_pow_right (by omega) (by omega)))]
   simp
 rw[h2,h];omega
theorem zql(x:Nat):x / 16^^^z3u 4 (x%16)=z3u 4 x:=by
 have:=ziy 4 (16*(x / 16)) (x%16)
 rw[j0h,zv6]at this
 exact this.symm
abbrev U(n:Nat):Value:= .int .u32 (n:Int)
def z3d(x:Nat)(l:List UInt8):Nat:=l.foldl (fun x b=>z3u 8 (x^^^b.toNat)) x
theorem j3p(b:UInt8):b.toNat<4294967296:=by have:=UInt8.toNat_lt b;omega
theorem z5e: ∀(l:List UInt8) {x:Nat},x<4294967296→z3d x l<4294967296
 |[],_,h=>h
 |b::r,x,h=>z5e r (z80 8 (Nat.xor_lt_two_pow (n:=32) h (j3p b)))
theorem zbj(x:Nat)(l:List UInt8)(b:UInt8):z3d x (l++[b])=z3u 8 (z3d x l^^^b.toNat):=by simp[z3d]
def z66(l:List UInt8):Nat:=z3d 4294967295 l^^^4294967295
theorem zo1(l:List UInt8):z66 l<4294967296:=Nat.xor_lt_two_pow (n:=32) (z5e l (by omega)) (by omega)
def j1o(i:Nat):List Value:=(List.range 16).map fun j=>U (if j<i then z3u 4 j else 0)
def zke(x:Nat)(i:Nat):List Value:=U x::j1o i
theorem zvt(x i:Nat):(zke x i).length=17:=by simp[zke,j1o]
theorem zsg(x:Nat){j i:Nat}(h:j<16)(hi:j<i):((zke x i).map A.v)[1+j]? =some (.v (U (z3u 4 j))):=by
 rw[Nat.add_comm]
 simp[zke,j1o,h,hi]
theorem zy9(x:Nat){i:Nat}(h:i<16):((zke x i).map A.v).set (1+i) (.v (U (z3u 4 i)))=(zke x (i+1)).map A.v:=by
 apply List.ext_getElem?
 intro j
 rw[Nat.add_comm,List.getElem?_set]
 cases j with
 |zero=>simp[zke]
 |succ j=>
  by_cases hj:j<16
  ·
   by_cases hji:i=j
   ·
    subst hji
    simp[zke,j1o,hj]
   ·
    rw[if_neg (by omega)]
    have:(j<i)↔(j<i+1):=by omega
    simp[zke,j1o,hj,this]
  ·
   simp[zke,j1o,hj]
   omega
theorem j9r{x:Nat}(h:x<4294967296):
  bits .xor .u32 ((x:Int) / 2^(1:Int).toNat) (bits .and .u32 2197175160 (IntKind.u32.wrap (0 - bits .and .u32 (x:Int) 1)))=(z2r x:Int):=by
 have h1:bits .and .u32 (x:Int) 1=((x%2:Nat):Int):=by
  have:=u32_and_nat x 1 h (by omega)
  rw[nat_mask1]at this
  exact this
 have h2:(x:Int) / 2^(1:Int).toNat=((x / 2:Nat):Int):=by
  show(x:Int) / 2^1=_
  omega
 rw[h1,h2]
 unfold z2r
 by_cases ho:x%2=1
 · rw[ho,if_pos rfl,show IntKind.u32.wrap (0 - ((1:Nat):Int))=4294967295 by decide,show bits .and .u32 2197175160 4294967295=((2197175160:Nat):Int) by decide+kernel,u32_xor_nat _ _ (by omega) (by omega)]
 · rw[show x%2=0 by omega,if_neg (by omega),show IntKind.u32.wrap (0 - ((0:Nat):Int))=0 by decide,show bits .and .u32 2197175160 0=((0:Nat):Int) by decide+kernel,u32_xor_nat _ _ (by omega) (by omega),Nat.xor_zero]
theorem j1d(w:World):Cl 186 #[I 0] w fun e w'=> ∃(x:Unit) (b:Nat),e= .returned (.pointer (some ⟨b,0,none⟩))∧w.heap.size≤b∧w'.heap[b]? =some (.cells (zke 4294967295 16).toArray 273 (0,0))∧Below w.heap.size w w'∧True:=by
 refine Qf [.a (.v (I 0))] Tryz.func186 rfl<|QA<|QC<|QE 1 [0] rfl<|Qw<|QA<|QC<|QE 7 [3] rfl<|Qw<|QA<|QA<|QC<|QE 1 [3,12] rfl<|Qw<|QJ<|Ql [3] [0] rfl rfl (σ:=Nat) (fun i=>[(12, .a (.v (I i)))]) (fun i=>[(0, .lit ((zke 4294967295 i).map .v) 273)]) (fun i=>i≤16) (fun i=>16 - i) (0) (by omega) ?_
 rintro i hi
 refine QA<|QC<|QE 1 [3,12,13] rfl<|Qw<|QA<|QX rfl (fun h=> ?_) fun h=> ?_
 ·
  refine QI<|Qw<|QA<|QJ<|QA<|QC<|QE 2 [3,4,12] rfl<|Qw<|QA<|QC<|QE 3 [3,4,5,12] rfl<|Qw<|QA<|QA<|QC<|QE 1 [3,4,5,12,17] rfl<|Qw<|QJ ?_
  have hi16:i<16:=by omega
  rw[show IntKind.u32.wrap (i:Int)=(i:Int)from zv1 (by omega)]
  refine Ql [3,4,12] [] rfl rfl (σ:=Nat) (fun k=>[(5, .a (.v (U (z3u k i)))),(17, .a (.v (I k)))]) (fun k=>[]) (fun k=>k≤4) (fun k=>4 - k) (0) (by omega) ?_
  rintro k hk
  refine QA<|QC<|QE 1 [3,4,5,12,17,18] rfl<|Qw<|QA<|QX rfl (fun h=> ?_) fun h=> ?_
  ·
   refine QI<|Qw<|QA<|QJ<|QC<|Yy 1 rfl ?_
   have hlt:=z80 k (x:=i) (by omega)
   refine QY rfl (zk8 rfl (fun hg=>⟨by decide,by decide⟩))<|QE 6 [3,4,5,12,17] rfl<|QM<|Qw<|QC<|QE 2 [3,4,5,12,17] rfl<|Qw ?_
   rw[j9r hlt,z06 (n:=(k:Int)+1) (by omega) (by omega)]
   refine Qr (k+1) (by omega)
  ·
   refine QN<|QK<|QK<|QQ<|Qw<|QC<|Yy 5 rfl ?_
   have hk4:k=4:=by omega
   subst hk4
   refine QY rfl (z9l tok (1+i) rfl (by simp) (fun hg=>by omega))<|z2q rfl rfl rfl rfl (j6e tok rfl rfl rfl (by simp[zvt];omega)) fun _ _=> ?_
   refine z07 [3,12] rfl<|QM<|Qw<|QC<|QE 2 [3,12] rfl<|Qw ?_
   rw[z06 (n:=(i:Int)+1) (by omega) (by omega),zy9 _ hi16]
   refine Qr (i+1) (by omega)
 ·
  refine QN<|QK<|QK<|QQ<|Qw<|QA<|QC<|QE 2 [2] rfl<|Qw<|QO<|z0h tok rfl ?_
  have hi16:i=16:=by omega
  subst hi16
  intro E w' hm _
  have hb:=hm.lit 0 _ _ rfl
  rw[(z13 E _).1]at hb
  refine⟨(),E.ρ 0,rfl, ?_,hb,hm.below lr,trivial⟩
  rcases Nat.lt_or_ge (E.ρ 0) w.heap.size with hlt|hge
  ·
   have:=hm.off 0 _ (E.ρ 0) rfl rfl
   simp[vw,hlt]at this
  · exact hge
theorem j14(x:Nat)(hx:x<4294967296)(b:Nat)(lv:Value)(l:List UInt8)(w:World)(hb:w.heap[b]? =some (.cells (zke x 16).toArray 273 (0,0)))(hs:SlOf ((vw w).del b) z1e 1 lv l)(hn:l.length≤maxLen):
  Cl 187 #[.pointer (some ⟨b,0,none⟩),lv] w fun e w'=>e= .returned (.pointer (some ⟨b,0,none⟩))∧Go.Eng.Touch (· =b) w w'∧w'.heap[b]? =some (.cells (zke (z3d x l) 16).toArray 273 (0,0)):=by
 simp only[maxLen]at hn
 refine z4n [.a (.ptr 0 0), .a (.v lv)] hb Tryz.func187 rfl rfl rfl rfl<|QA<|QC<|QE 1 [0,1] rfl<|Qw<|QA<|QA<|QC<|Yy 1 rfl<|QY rfl (z0l tok rfl (fun hg=>hs.sl))<|QE 1 [0,7,8,9] rfl<|Qw<|QJ<|Ql [0,7,8] [0] rfl rfl (σ:=Nat) (fun k=>[(9, .a (.v (I k)))]) (fun k=>[(0, .lit ((zke (z3d x (l.take k)) 16).map .v) 273)]) (fun k=>k≤l.length) (fun k=>l.length - k) (0) (by omega) ?_
 rintro k hk
 refine QA<|QC<|QE 1 [0,7,8,9,10] rfl<|Qw<|QA<|QX rfl (fun h=> ?_) fun h=> ?_
 ·
  refine QI<|Qw<|QA<|QJ<|QA<|QC ?_
  obtain⟨c,h_c⟩:=hs.at (k:=k) (by omega)
  have hlt_c:=z01 h_c
  refine QY rfl (z0c tok rfl (fun hg=>hs.sl) (fun hg=>⟨by omega,by omega⟩))<|QY rfl (z08 tok (k) 0 (c) rfl (fun hg=>hs) (fun hg=>h_c) rfl rfl)<|QE 1 [0,6,7,8,9] rfl<|Qw<|QA<|QC<|Yy 11 rfl<|Qs rfl<|z07 [0,7,8,9] rfl<|Qw<|QA<|Rb [22] rfl<|QD [0,1,2,3,4,5] rfl ?_
  have hx1:=z5e (l.take k) hx
  have hc:=UInt8.toNat_lt c
  rw[zv1 (n:=c.toNat) (by omega),u32_xor_nat _ _ hx1 (by omega)]
  have hx2:z3d x (l.take k)^^^c.toNat<4294967296:=Nat.xor_lt_two_pow (n:=32) hx1 (by omega)
  obtain⟨z,hz⟩: ∃z,z3d x (l.take k)^^^c.toNat=z:=⟨_,rfl⟩
  rw[hz]at hx2⊢
  have hz8:z3u 8 z=z3d x (l.take (k+1)):=by rw[z5x h_c,zbj,hz]
  have hidx: ∀y:Nat,y<4294967296→bits .and .u32 (y:Int) 15=((y%16:Nat):Int):=fun y hy=>by
   have:=u32_and_nat y 15 hy (by omega)
   rw[nat_mask4]at this
   exact this
  have hdiv: ∀y:Nat,(y:Int) / 2^(4:Int).toNat=((y / 16:Nat):Int):=fun y=>by
   show(y:Int) / 2^4=_
   omega
  have hfour: ∀y:Nat,y<4294967296→bits .xor .u32 ((y / 16:Nat):Int) ((z3u 4 (y%16):Nat):Int)=((z3u 4 y:Nat):Int):=fun y hy=>by
   rw[u32_xor_nat _ _ (by omega) (z80 4 (by omega)),zql]
  refine Qu 6 rfl rfl (zk8 rfl (fun hg=>⟨by decide,by decide⟩))<|QD [7,8,9,10,11,12,13,14,15] rfl ?_
  rw[hdiv,hidx z hx2]
  refine Qu 16 rfl rfl (z9l tok (1+z%16) rfl (by simp;omega) (fun hg=>by omega)) ?_
  refine Qu 17 rfl rfl (zka tok rfl rfl (fun hg=>zsg z (by omega) (by omega)))<|QD [18,19,20,21] rfl<|QS<|Qo 22<|Qj 22 rfl<|Qe [0,7,8,9] rfl<|Qw<|Rb [22] rfl<|QD [0,1,2,3,4,5] rfl ?_
  rw[hfour z hx2]
  have hx3:=z80 4 hx2
  have h44:z3u 4 (z3u 4 z)=z3u 8 z:=(zjk 4 4 z).symm
  rw[h44.symm]at hz8
  obtain⟨y,hy⟩: ∃y,z3u 4 z=y:=⟨_,rfl⟩
  rw[hy]at hz8 hx3⊢
  refine Qu 6 rfl rfl (zk8 rfl (fun hg=>⟨by decide,by decide⟩))<|QD [7,8,9,10,11,12,13,14,15] rfl ?_
  rw[hdiv,hidx y hx3]
  refine Qu 16 rfl rfl (z9l tok (1+y%16) rfl (by simp;omega) (fun hg=>by omega)) ?_
  refine Qu 17 rfl rfl (zka tok rfl rfl (fun hg=>zsg y (by omega) (by omega)))<|QD [18,19,20,21] rfl<|QS<|Qo 22<|Qj 22 rfl<|Qe [0,7,8,9] rfl<|QM<|Qw<|QC<|QE 2 [0,7,8,9] rfl<|Qw ?_
  rw[hfour y hx3,hz8,z06 (n:=(k:Int)+1) (by omega) (by omega)]
  refine Qr (k+1) (by omega)
 ·
  refine QN<|QK<|QK<|QQ<|Qw<|QA<|QC<|QE 2 [4] rfl<|Qw<|QO<|z0h tok rfl ?_
  have hkl:k=l.length:=by omega
  subst hkl
  intro E w' hm _
  obtain⟨h1,h2⟩:=zid hm lr rfl rfl rfl
  rw[(z13 E _).1,List.take_length]at h2
  refine⟨?_,h1,h2⟩
  have hp:=(hm.pin 1 0 _ rfl).1
  show Ending.returned (.pointer (some ⟨E.ρ 0,0,none⟩))=_
  rw[hp]
theorem zy1(x:Nat)(hx:x<4294967296)(b:Nat)(w:World){cs:List Value}(hb:w.heap[b]? =some (.cells (U x::cs).toArray 273 (0,0))):
  Rt 188 #[.pointer (some ⟨b,0,none⟩)] w (I ((x^^^4294967295:Nat):Int)):=by
 refine z4n [.a (.ptr 0 0)] hb Tryz.func188 rfl rfl rfl rfl<|QA<|QC<|QE 1 [0] rfl<|Qw<|QA<|QC<|QE 7 [2] rfl<|Qw<|QO<|Qb rfl fun E w' hm=>⟨?_,z3g hb hm lr rfl rfl rfl⟩
 have h1:=u32_xor_nat 4294967295 x (by omega) hx
 show Ending.returned (I (IntKind.i64.wrap (bits .xor .u32 4294967295 (x:Int))))=_
 have hlt:x^^^4294967295<4294967296:=Nat.xor_lt_two_pow (n:=32) hx (by omega)
 rw[show bits .xor .u32 4294967295 (x:Int)=((4294967295^^^x:Nat):Int)from h1,Nat.xor_comm,z06 (by omega) (by omega)]
theorem zzw(V:Vw)(lv:Value)(l:List UInt8)(w:World)(hV:V.le (vw w))(hs:SlOf V z1e 1 lv l)(hn:l.length≤maxLen):
  Rt 170 #[I 0,lv] w (I (z66 l)):=by
 have hs':=hs.mono hV
 refine Qf [.a (.v (I 0)), .a (.v lv)] Tryz.func170 rfl<|QA<|QC<|QE 1 [0,1] rfl<|Qw<|QA<|QC<|Yy 1 rfl<|QZ rfl (j2g (fun _=>True) (fun _=>zke 4294967295 16) 273 rfl j1l (fun E w hm=>j1d w)) fun _ _=>Yy 1 rfl<|QZ rfl (zky (fun _=>True) (fun _:Unit=> .a (.ptr 0 0)) 0 273 (fun _=>(zke (z3d 4294967295 l) 16).map .v) rfl j0p rfl (fun _=>(z13 E0 _).2 _) (fun _=>rfl) (fun E w1 hm hb=>(j14 4294967295 (by omega) (E.ρ 0) lv l w1 (by rw[hb,(z13 E _).1]) (hs'.mono (hm.leDel rfl)) hn).mono fun e w' h=>⟨(),h.1,h.2.1,by rw[(z13 E _).1];exact h.2.2,trivial⟩)) fun _ _=> ?_
 refine Yy 2 rfl<|Qc (.a (.v _)) rfl j1h (fun hg E w1 hm=>by exact zy1 (z3d 4294967295 l) (z5e l (by omega)) _ _ (cs:=j1o 16) (by have h:=hm.lit 0 _ _ rfl;rw[(z13 _ _).1]at h;exact h)) ?_
 refine QE 1 [4] rfl<|Qw<|QO<|Qb rfl fun E w' hm=>⟨?_,hm.below lr⟩
 rfl
theorem j34(V:Vw)(lv:Value)(l:List UInt8)(w:World)(hV:V.le (vw w))(hs:SlOf V z1e 1 lv l)(hn:l.length≤maxLen):
  Rt 155 #[lv] w (I (z66 l)):=by
 refine Qf [.a (.v lv)] Tryz.func155 rfl<|QA<|QC<|QE 1 [0] rfl<|Qw<|QA<|QC<|Yy 1 rfl<|Qc (.a (.v _)) rfl j3r (fun hg E w1 hm=>by exact zzw V _ l _ (hV.trans hm.leV) hs hn) ?_
 refine QE 1 [2] rfl<|Qw<|QO<|Qb rfl fun E w' hm=>⟨?_,hm.below lr⟩
 rfl
/-! The document's steps. -/
theorem zrg(x:Nat)(hx:x<4294967296)(w:World):Rt 205 #[I x] w (I (z2r x)):=by
 have h1:bits .and .i64 (x:Int) 1=((x%2:Nat):Int):=by
  have:=zrc x 1 (by omega) (by omega)
  rw[nat_mask1]at this
  exact this
 have h2:(x:Int) / 2^(1:Int).toNat=((x / 2:Nat):Int):=by
  show(x:Int) / 2^1=_
  omega
 refine Qf [.a (.v (I x))] Tryz.func205 rfl<|QA<|QC<|QE 1 [0] rfl<|Qw<|QA<|QA<|QC<|QE 3 [0,5] rfl<|Qw<|QX rfl (fun h=> ?_) fun h=> ?_
 ·
  refine QA<|QC<|Yy 1 rfl ?_
  rw[h1]at h
  refine QY rfl (zk8 rfl (fun hg=>⟨by decide,by decide⟩))<|QE 2 [2] rfl<|Qw<|QO<|QL<|Qb rfl fun E w' hm=>⟨?_,hm.below lr⟩
  show Ending.returned (I (bits .xor .i64 ((x:Int) / 2^(1:Int).toNat) ((2197175160:Nat):Int)))=_
  rw[h2,zmj _ _ (by omega) (by omega),z2r,if_pos (by omega)]
 ·
  refine QI<|Qw<|QA<|QC<|Yy 1 rfl ?_
  rw[h1]at h
  refine QY rfl (zk8 rfl (fun hg=>⟨by decide,by decide⟩))<|QE 1 [2] rfl<|Qw<|QO<|Qb rfl fun E w' hm=>⟨?_,hm.below lr⟩
  show Ending.returned (I ((x:Int) / 2^(1:Int).toNat))=_
  rw[h2,z2r,if_neg (by omega)]
theorem zxg{x:Nat}(h:x<4294967296):x&&&4294967295=x:=by
 have:=Nat.and_two_pow_sub_one_eq_mod x 32
 rw[show(2:Nat)^32 - 1=4294967295 by decide]at this
 rw[this];omega
theorem zqu(x:Nat)(hx:x<4294967296)(w:World):Rt 189 #[I x,I 1] w (I (z3u 8 x)):=by
 have hmk:bits .and .i64 (x:Int) 4294967295=(x:Int):=by
  have:=zrc x 4294967295 (by omega) (by omega)
  rw[zxg hx]at this
  exact this
 refine Qf [.a (.v (I x)), .a (.v (I 1))] Tryz.func189 rfl<|QA<|QC<|QE 1 [0,1] rfl<|Qw<|QA<|QC<|QE 3 [0,1] rfl<|Qw<|QA<|QA<|QC<|QE 1 [0,1,5] rfl<|Qw<|QJ ?_
 rw[hmk]
 refine Ql [1] [] rfl rfl (σ:=Nat) (fun i=>[(0, .a (.v (I (z3u (8*i) x)))),(5, .a (.v (I i)))]) (fun i=>[]) (fun i=>i≤1) (fun i=>1 - i) (0) (by omega) ?_
 rintro i hi
 refine QA<|QA<|QC<|QE 3 [0,1,5,11] rfl<|Qw<|QX rfl (fun h=> ?_) fun h=> ?_
 ·
  refine QI<|Qw<|QA<|QJ<|QA<|QC<|QE 1 [0,1,5,6] rfl<|Qw<|QJ ?_
  have hi0:i=0:=by omega
  subst hi0
  refine Ql [1,5] [] rfl rfl (σ:=Nat) (fun k=>[(0, .a (.v (I (z3u k x)))),(6, .a (.v (I k)))]) (fun k=>[]) (fun k=>k≤8) (fun k=>8 - k) (0) (by omega) ?_
  rintro k hk
  refine QA<|QA<|QC<|QE 2 [0,1,5,6,15] rfl<|Qw<|QX rfl (fun h=> ?_) fun h=> ?_
  ·
   refine QI<|Qw<|QA<|QJ<|QC<|Yy 1 rfl<|Qc (.a (.v _)) rfl j1g (fun hg E w1 hm=>by exact zrg _ (z80 k hx) _) ?_
   refine QE 1 [0,1,5,6] rfl<|QM<|Qw<|QC<|QE 3 [0,1,5,6] rfl<|Qw ?_
   rw[z06 (n:=(k:Int)+1) (by omega) (by omega)]
   refine Qr (k+1) (by omega)
  ·
   refine QN<|QK<|QK<|QQ<|QM<|Qw<|QC<|QE 3 [0,1,5] rfl<|Qw ?_
   have hk8:k=8:=by omega
   subst hk8
   refine Qr (1) (by omega)
 ·
  refine QN<|QK<|QK<|QQ<|Qw<|QA<|QC<|QE 2 [4] rfl<|Qw<|QO<|z0h tok rfl ?_
  have hi1:i=1:=by omega
  subst hi1
  intro E w' hm _
  refine⟨?_,hm.below lr⟩
  rfl
theorem zy3(V:Vw)(lv:Value)(l:List UInt8)(w:World)(hV:V.le (vw w))(hs:SlOf V z1e 1 lv l)(hn:l.length≤maxLen):
  Rt 171 #[I 0,lv] w (I (z66 l)):=by
 have hs':=hs.mono hV
 simp only[maxLen]at hn
 refine Qf [.a (.v (I 0)), .a (.v lv)] Tryz.func171 rfl<|QA<|QC<|QE 1 [0,1] rfl<|Qw<|QA<|QC<|QE 4 [1,5] rfl<|Qw<|QA<|QA<|QC<|QE 1 [1,5,6] rfl<|Qw<|QJ ?_
 rw[show bits .xor .i64 (bits .and .i64 0 4294967295) 4294967295=((4294967295:Nat):Int) by decide+kernel]
 refine Ql [1] [] rfl rfl (σ:=Nat) (fun i=>[(5, .a (.v (I (z3d 4294967295 (l.take i))))),(6, .a (.v (I i)))]) (fun i=>[]) (fun i=>i≤l.length) (fun i=>l.length - i) (0) (by omega) ?_
 rintro i hi
 refine QA<|QA<|QC<|Yy 2 rfl<|QY rfl (z0l tok rfl (fun hg=>hs'.sl))<|QE 1 [1,5,6,13] rfl<|Qw<|QX rfl (fun h=> ?_) fun h=> ?_
 ·
  refine QI<|Qw<|QA<|QJ<|QC<|Yy 3 rfl ?_
  obtain⟨c,h_c⟩:=hs'.at (k:=i) (by omega)
  have hlt_c:=z01 h_c
  refine QY rfl (z0c tok rfl (fun hg=>hs'.sl) (fun hg=>⟨by omega,by omega⟩))<|QY rfl (z08 tok (i) 0 (c) rfl (fun hg=>hs') (fun hg=>h_c) rfl rfl)<|Yy 2 rfl ?_
  have hx1:=z5e (l.take i) (x:=4294967295) (by omega)
  have hc:=UInt8.toNat_lt c
  have hx2:z3d 4294967295 (l.take i)^^^c.toNat<4294967296:=Nat.xor_lt_two_pow (n:=32) hx1 (by omega)
  rw[z06 (n:=(c.toNat:Int)) (by omega) (by omega),zmj _ _ (by omega) (by omega)]
  refine Qc (.a (.v _)) rfl j0a (fun hg E w1 hm=>by exact zqu _ hx2 _) ?_
  refine QE 1 [1,5,6] rfl<|QM<|Qw<|QC<|QE 3 [1,5,6] rfl<|Qw ?_
  rw[z06 (n:=(i:Int)+1) (by omega) (by omega),←zbj,←z5x h_c]
  refine Qr (i+1) (by omega)
 ·
  refine QN<|QK<|QK<|QQ<|Qw<|QA<|QC<|QE 3 [4] rfl<|Qw<|QO<|z0h tok rfl ?_
  have hil:i=l.length:=by omega
  subst hil
  intro E w' hm _
  refine⟨?_,hm.below lr⟩
  rw[List.take_length]
  have hx1:=z5e l (x:=4294967295) (by omega)
  have:=zmj (z3d 4294967295 l) 4294967295 (by omega) (by omega)
  show Ending.returned (I (bits .xor .i64 (z3d 4294967295 l:Nat) ((4294967295:Nat):Int)))=_
  rw[this]
  rfl
theorem zwl(V:Vw)(lv:Value)(l:List UInt8)(w:World)(hV:V.le (vw w))(hs:SlOf V z1e 1 lv l)(hn:l.length≤maxLen):
  Rt 157 #[lv] w (I (z66 l)):=by
 refine Qf [.a (.v lv)] Tryz.func157 rfl<|QA<|QC<|QE 1 [0] rfl<|Qw<|QA<|QC<|Yy 1 rfl<|Qc (.a (.v _)) rfl j41 (fun hg E w1 hm=>by exact zy3 V _ l _ (hV.trans hm.leV) hs hn) ?_
 refine QE 1 [2] rfl<|Qw<|QO<|Qb rfl fun E w' hm=>⟨?_,hm.below lr⟩
 rfl
/-! A sum tells one byte that was turned. -/
def z2t(n j:Nat):List UInt8:=(List.range j).map fun i=>UInt8.ofNat (n / pw i%256)
def leB(k n:Int):List UInt8:=z2t n.toNat k.toNat
theorem zm6(n j:Nat):z2t n (j+1)=z2t n j++[UInt8.ofNat (n / pw j%256)]:=by simp[z2t,List.range_succ]
theorem z0q(n j:Nat):(z2t n j).length=j:=by simp[z2t]
theorem z41(n:Nat):(UInt8.ofNat (n%256)).toNat=n%256:=by
 rw[UInt8.toNat_ofNat']
 omega
def z5o(k:Int)(ls:List Int):Bool:=z0w k&&ls.all fun n=>z1k n k
def z3f(bl:List UInt8)(k:Int)(ls:List Int):List UInt8:=bl++ls.flatMap (leB k)
theorem zrn(L:List UInt8)(b:UInt8):L.flatMap z1e++[.int .u8 b.toNat]=(L++[b]).flatMap z1e:=by
 rw[List.flatMap_append];rfl
def j4c(bl:List UInt8)(k:Int)(ls:List Int)(w:World)(e:Ending)(w':World):Prop:=
 ((z5o k ls=true∧ ∃v,e= .returned (.tuple #[v,I 0])∧w'.ownsRow w.heap.size 5 1 v (z3f bl k ls).length ((z3f bl k ls).flatMap z1e))∨
  (z5o k ls=false∧e= .returned (.tuple #[.slice none 0 0,I 2])))∧Below w.heap.size w w'
theorem zxn{k:Int}{ls:List Int}{i:Nat}{n:Int}(hn:ls[i]? =some n)(h:z1k n k=false):z5o k ls=false:=by
 have:(ls.all fun n=>z1k n k)=false:=zyp hn h
 rw[z5o,this,Bool.and_false]
theorem znx(V:Vw)(bv:Value)(bl:List UInt8)(k:Int)(lv:Value)(ls:List Int)(w:World)(hV:V.le (vw w))(hb:SlOf V z1e 1 bv bl)(hl:SlOf V z0a 1 lv ls)
  (hbn:bl.length≤1099511627776) (hln:ls.length≤1099511627776):Cl 138 #[bv,I k,lv] w (j4c bl k ls w):=by
 have hb':=hb.mono hV
 have hl':=hl.mono hV
 refine Qf [.a (.v bv), .a (.v (I k)), .a (.v lv)] Tryz.func138 rfl<|QA<|QC<|QE 2 [0,1,2] rfl<|Qw<|QA<|QA<|QC<|Yy 1 rfl<|Qc (.a (.v _)) rfl zhs (fun hg E w1 hm=>by exact z9w _ _) ?_
 refine QE 1 [0,1,2,14] rfl<|Qw<|QX rfl (fun h=> ?_) fun h=> ?_
 ·
  refine QA<|QC<|QE 2 [6,7] rfl<|Qw<|QO<|QL<|z0h tok rfl ?_
  have hw:z0w k=false:=by
   cases hq:z0w k with
   |false=>rfl
   |true=>rw[zf3,if_pos hq]at h;omega
  intro E w' hm _
  exact⟨.inr ⟨by rw[z5o,hw];rfl,rfl⟩,hm.below lr⟩
 ·
  refine QI<|Qw<|QA<|QC<|QE 1 [0,1,2,8] rfl<|Qw<|QA<|QC<|Yy 2 rfl ?_
  have hw:z0w k=true:=by
   cases hq:z0w k with
   |true=>rfl
   |false=>rw[zf3,if_neg (by simp[hq])]at h;omega
  have hk:=hw
  simp only[z0w,Bool.and_eq_true,decide_eq_true_eq]at hk
  obtain⟨m,rfl⟩: ∃m:Nat,k=m:=⟨k.toNat,by omega⟩
  clear h
  refine z6l 15 5 1 rfl rfl<|QZ rfl (z0g tok (bl.flatMap z1e) rfl (fun E w hm=>hb'.sl.src hm.get) (fun _ _ _=>z5f _) (by dsimp only;omega)) fun _ _=>QE 1 [1,2,8] rfl<|Qw<|QA<|QA<|QC<|QE 1 [1,2,8,9] rfl<|Qw<|QJ ?_
  rw[Nat.zero_add bl.length,List.nil_append]
  have e0:z3f bl m (ls.take 0)=bl:=by simp[z3f]
  refine Ql [1,2] [1] rfl rfl (σ:=Nat) (fun i=>[(8, .a (.row 1)),(9, .a (.v (I i)))]) (fun i=>[(1, .row 5 1 (z3f bl m (ls.take i)).length ((z3f bl m (ls.take i)).flatMap z1e))]) (fun i=>i≤ls.length∧(∀j n,j<i→ls[j]? =some n→z1k n m=true)∧(z3f bl m (ls.take i)).length≤bl.length+6*i) (fun i=>ls.length - i) (0) (⟨by omega,by omega,by simp[z3f]⟩) ?_ (hs:=by repeat (first|exact z52.nil|refine z52.cons rfl ?_|refine z52.cons (by simp only[e0];first|done|rfl) ?_)) (hO:=by repeat (first|exact z3b.nil|refine z3b.cons rfl ?_|refine z3b.cons (by simp only[e0];first|done|rfl) ?_))
  rintro i ⟨hi,hall,hsz⟩
  refine QA<|QA<|QC<|Yy 2 rfl<|QY rfl (z0l tok rfl (fun hg=>hl'.sl))<|QE 1 [1,2,8,9,21] rfl<|Qw<|QX rfl (fun h=> ?_) fun h=> ?_
  ·
   refine QI<|Qw<|QA<|QJ<|QA<|QA<|QC<|Yy 2 rfl ?_
   obtain⟨n,h_n⟩:=hl'.at (k:=i) (by omega)
   have hlt_n:=z01 h_n
   refine QY rfl (z0c tok rfl (fun hg=>hl'.sl) (fun hg=>⟨by omega,by omega⟩))<|QY rfl (z08 tok (i) 0 (n) rfl (fun hg=>hl') (fun hg=>h_n) rfl rfl)<|Yy 1 rfl<|Qc (.a (.v _)) rfl j0v (fun hg E w1 hm=>by exact zs5 _ _ _) ?_
   refine QE 1 [1,2,8,9,30] rfl<|Qw<|QX rfl (fun h=> ?_) fun h=> ?_
   ·
    refine QA<|QC<|QE 2 [6,7] rfl<|Qw<|QO<|QL<|QP<|QL<|QL<|QP<|QL<|Qb rfl fun E w' hm=> ?_
    exact⟨.inr ⟨zxn h_n h,rfl⟩,hm.below lr⟩
   ·
    refine QI<|Qw<|QA<|QC<|Yy 2 rfl ?_
    have hf:=h
    clear h
    have hf':=hf
    simp only[z1k,Bool.and_eq_true,decide_eq_true_eq]at hf'
    obtain⟨⟨_,hn0⟩,hn1⟩:=hf'
    obtain⟨q,rfl⟩: ∃q:Nat,n=q:=⟨n.toNat,by omega⟩
    have hq:q≤1099511627776:=by unfold z6c at hn1;omega
    have hlt__q___Int_:=z01 h_n
    refine QY rfl (z0c tok rfl (fun hg=>hl'.sl) (fun hg=>⟨by omega,by omega⟩))<|QY rfl (z08 tok (i) 0 ((q:Int)) rfl (fun hg=>hl') (fun hg=>h_n) rfl rfl)<|QE 1 [1,2,8,9,10] rfl<|Qw<|QA<|QC<|QE 1 [1,2,8,9,10,11] rfl<|Qw<|QJ ?_
    have ep:q / pw 0=q:=by simp[pw]
    have el:z2t q 0=[]:=rfl
    refine Ql [1,2,9] [1] rfl rfl (σ:=Nat) (fun j=>[(8, .a (.row 1)),(10, .a (.v (I (q / pw j:Nat)))),(11, .a (.v (I j)))]) (fun j=>[(1, .row 5 1 (z3f bl m (ls.take i)++z2t q j).length ((z3f bl m (ls.take i)++z2t q j).flatMap z1e))]) (fun j=>j≤m) (fun j=>m - j) (0) (by omega) ?_ (hs:=by repeat (first|exact z52.nil|refine z52.cons rfl ?_|refine z52.cons (by simp only[ep,el,List.append_nil];first|done|rfl) ?_)) (hO:=by repeat (first|exact z3b.nil|refine z3b.cons rfl ?_|refine z3b.cons (by simp only[ep,el,List.append_nil];first|done|rfl) ?_))
    rintro j hj
    refine QA<|QA<|QC<|QE 3 [1,2,8,9,10,11,37] rfl<|Qw<|QX rfl (fun h=> ?_) fun h=> ?_
    ·
     refine QI<|Qw<|QA<|QJ<|QA<|QC<|Yy 2 rfl ?_
     have hqj:q / pw j≤q:=Nat.div_le_self _ _
     have hnx:q / pw (j+1)=q / pw j / 256:=by rw[z8p,Nat.div_div_eq_div_mul]
     have hlt:=zm6 q j
     obtain⟨r,hr⟩: ∃r,q / pw j=r:=⟨_,rfl⟩
     rw[hr]at hqj hlt hnx⊢
     refine QY rfl (zkn rfl (fun hg=>by decide))<|Yy 1 rfl ?_
     rw[Int.tmod_eq_emod_of_nonneg (by omega),show(r:Int)%256=((r%256:Nat):Int) by omega,j7b (n:=r%256) (by omega),←z41]
     refine QZ rfl (z1q tok 1 rfl rfl rfl) fun _ _=>QZ rfl (z0g tok [.int .u8 (UInt8.ofNat (r%256)).toNat] rfl (fun E w hm=>z09 (hm.row 2 _ _ _ _ rfl)) (fun _ _ _=>z5f [_]) (by dsimp only;simp only[List.length_append,z0q];omega)) fun _ _=> ?_
     refine QE 1 [1,2,8,9,10,11] rfl<|Qw<|QC<|Yy 1 rfl ?_
     rw[zrn,List.append_assoc,←hlt,show(z3f bl m (ls.take i)++z2t q j).length+1=(z3f bl m (ls.take i)++z2t q (j+1)).length by simp only[List.length_append,z0q];omega]
     refine z00 1 3 rfl<|QY rfl (zx1 rfl (fun hg=>by decide))<|QE 1 [1,2,8,9,10,11] rfl<|QM<|Qw<|QC<|QE 3 [1,2,8,9,10,11] rfl<|Qw ?_
     rw[Int.tdiv_eq_ediv_of_nonneg (by omega),show(r:Int) / 256=((r / 256:Nat):Int) by omega,z06 (n:=((r / 256:Nat):Int)) (by omega) (by omega),←hnx,z06 (n:=(j:Int)+1) (by omega) (by omega)]
     refine Qr (j+1) (by omega)
    ·
     refine QN<|QK<|QK<|QQ<|QM<|Qw<|QC<|QE 3 [1,2,8,9] rfl<|Qw ?_
     have hjm:j=m:=by omega
     subst hjm
     have hnew:z3f bl j (ls.take i)++z2t q j=z3f bl j (ls.take (i+1)):=by
      rw[z5x h_n,z3f,z3f,List.flatMap_append,List.append_assoc]
      simp[leB]
     have hsz2:(z3f bl j (ls.take (i+1))).length≤bl.length+6*(i+1):=by rw[←hnew,List.length_append,z0q];omega
     rw[hnew,z06 (n:=(i:Int)+1) (by omega) (by omega)]
     refine Qr (i+1)<|⟨by omega,z3q h_n hall hf,hsz2⟩
  ·
   refine QN<|QK<|QK<|QQ<|Qw<|QA<|QC<|QE 3 [6,7] rfl<|Qw<|QO<|z0h tok rfl ?_
   have hil:i=ls.length:=by omega
   subst hil
   rw[List.take_length]
   intro E w' hm _
   have hok:z5o m ls=true:=by
    rw[z5o,hw,Bool.true_and]
    exact zbv hall
   exact⟨.inl ⟨hok,E.κ 1,rfl,hm.rowFresh lr (l:=1) rfl⟩,hm.below lr⟩
theorem ztq{n:Nat}(h:n≤505):z5o 2 [(n:Int)]=true:=by
 have:z6c (2:Int).toNat=65535:=by decide
 simp only[z5o,List.all_cons,List.all_nil,Bool.and_true,z1k,this]
 simp[z0w]
 omega
def body(k:UInt8)(load:List UInt8):List UInt8:=z3f [k] 2 [(load.length:Int)]++load
def z4m(k:UInt8)(load:List UInt8):List UInt8:=body k load++z2t (z66 (body k load)) 4
theorem zll(k:UInt8)(load:List UInt8):body k load=k::UInt8.ofNat (load.length / pw 0%256)::UInt8.ofNat (load.length / pw 1%256)::load:=by
 simp[body,z3f,leB,z2t,List.range_succ]
theorem zn2(k:UInt8)(load:List UInt8):(body k load).length=3+load.length:=by rw[zll];simp;omega
theorem z9s(k:UInt8)(load:List UInt8):(z4m k load).length=7+load.length:=by rw[z4m,List.length_append,zn2,z0q];omega
def z0v(kind:Int):UInt8:=UInt8.ofNat kind.toNat
def zam(kind:Int)(s:ByteArray):ByteArray×Int:=
 if kind<1∨505<s.size then(ByteArray.empty,2)else(z0i (z4m (z0v kind) s.data.toList),0)
theorem zgr(a b:ByteArray):(a.toList==b.toList)=decide (a.data.toList=b.data.toList):=by
 rw[ByteArray.toList_eq,ByteArray.toList_eq]
 rw[Bool.eq_iff_iff,beq_iff_eq,decide_eq_true_eq]
theorem z4f{a b:ByteArray}(h:a.data.toList=b.data.toList):a=b:=by
 apply ByteArray.ext
 apply Array.ext'
 exact h
theorem z33(s:ByteArray):s.data.toList.length=s.size:=by rw[Array.length_toList];rfl
section
variable{o:Oper}{n:Nat}{F:z05}{C:List Nat}{O:Go.Eng.Own}{nl:Nat}{V:Vw}
theorem z87{p:List (Nat×Bool)}(bl:List UInt8)(k:Int)(ls:List Int){ss:List SV}(hv:z4i F p o.op=some (138,ss))(hok:z5o k ls=true)
  (hbn:bl.length≤1099511627776) (hln:ls.length≤1099511627776)
  (hargs: ∀E w,Mem E O nl V w→ ∃bv lv,ss.map (SV.den E)=[bv,I k,lv]∧SlOf (vw w) z1e 1 bv bl∧SlOf (vw w) z0a 1 lv ls):
  StepTo Tryz.prog o p n F C O nl V (σ:=Unit) (fun _=>True) (fun _=> .tup [.row nl, .v (I 0)]) (fun _=>(nl, .row 5 1 (z3f bl k ls).length ((z3f bl k ls).flatMap z1e))::O) (nl+1) (fun _=>V):=by
 refine ze5 (fun _=>True) (fun _=> .tup [.row nl, .v (I 0)]) 5 1 (fun _=>(z3f bl k ls).length) (fun _=>(z3f bl k ls).flatMap z1e) hv zuf (fun _=>by simp[SV.ok,z0z,A.ok,z0e]) ?_
 intro E w hm
 obtain⟨bv,lv,ha,hb,hl⟩:=hargs E w hm
 rw[ha]
 refine(znx (vw w) bv bl k lv ls w lr hb hl hbn hln).mono ?_
 rintro e w' ⟨⟨_,v,rfl,hown⟩|⟨hno,_⟩,hbl⟩
 · exact⟨(),v,by simp[SV.den,A.den,Env.setκ],hown,hbl,trivial⟩
 · rw[hok]at hno;cases hno
end
theorem zms{c j:Nat}{d:Int}(hd:d=((c / pw j:Nat):Int)):IntKind.u8.wrap d=(((UInt8.ofNat (c / pw j%256)).toNat:Nat):Int):=by
 subst hd
 obtain⟨r,hr⟩: ∃r,c / pw j=r:=⟨_,rfl⟩
 rw[hr,IntKind.wrap_u8',z41]
 omega
theorem zjw(kind:Int)(hk:R8 kind)(s:ByteArray)(hs:s.size≤maxLen)(w:World):
  Rt 139 #[I8 kind,S s] w (.tuple #[S (zam kind s).1,I (zam kind s).2]):=by
 unfold R8 at hk
 simp only[maxLen]at hs
 refine Qf [.a (.v (I8 kind)), .a (.v (S s))] Tryz.func139 rfl<|QA<|QC<|QE 2 [0,1] rfl<|Qw<|QA<|QA<|QC<|QE 7 [0,1,15] rfl<|Qw<|QX rfl (fun h=> ?_) fun h=> ?_
 ·
  refine QA<|QC<|QE 2 [4,5] rfl<|Qw<|QO<|QL<|Qb rfl fun E w' hm=>⟨?_,hm.below lr⟩
  rw[zam,if_pos (by omega)]
  rfl
 ·
  refine QI<|Qw<|QA<|QC<|Yy 2 rfl ?_
  obtain⟨h1,h2⟩:=h
  have hsz:=z33 s
  have hk8:(z0v kind).toNat=kind.toNat:=by
   rw[z0v,UInt8.toNat_ofNat'];omega
  rw[show IntKind.u8.wrap kind=(((z0v kind).toNat:Nat):Int) by rw[hk8,IntKind.wrap_u8'];omega]
  refine QZ rfl (z1q tok 1 rfl rfl rfl) fun _ _=>Yy 2 rfl<|QZ rfl (z1q tok 1 rfl rfl rfl) fun _ _=>QZ rfl (z87 [z0v kind] 2 [(s.size:Int)] rfl (ztq (by omega)) (by simp) (by simp) (fun E w hm=>⟨_,_,rfl,hm.rowOf (enc:=z1e) (L:=[z0v kind]) 0 rfl (fun _=>rfl),hm.rowOf (enc:=z0a) (L:=[(s.size:Int)]) 1 rfl (fun _=>rfl)⟩)) fun _ _=>QE 5 [1,6] rfl<|Qw<|QA<|QC ?_
  refine Yy 2 rfl ?_
  have hb3:(z3f [z0v kind] 2 [(s.size:Int)]).length=3:=by simp[z3f,leB,z0q]
  refine QZ rfl (z0g tok (zco s) rfl (fun _ _ _=>Src.str s) (fun _ _ _=>by rw[zjt];exact z5f _) (by dsimp only;rw[hb3];omega)) fun _ _=> ?_
  refine QE 1 [6] rfl<|Qw<|QA<|QC<|Yy 1 rfl ?_
  rw[zjt,←List.flatMap_append,←hsz,←List.length_append,show z3f [z0v kind] 2 [(s.data.toList.length:Int)]++s.data.toList=body (z0v kind) s.data.toList from rfl]
  have hbl:=zn2 (z0v kind) s.data.toList
  obtain⟨B,hB⟩: ∃B,body (z0v kind) s.data.toList=B:=⟨_,rfl⟩
  rw[hB]at hbl⊢
  refine Qc (.a (.v _)) rfl j23 (fun hg E w1 hm=>by exact zwl _ _ B _ lr (hm.rowOf 3 rfl (fun _=>rfl)) (by simp only[maxLen];omega)) ?_
  refine QE 1 [6,8] rfl<|Qw<|QA<|QC<|Yy 4 rfl ?_
  have hc:=zo1 B
  have hsh: ∀(j:Nat) (e:Int),e.toNat=8*j→((z66 B:Nat):Int) / 2^e.toNat=((z66 B / pw j:Nat):Int):=fun j e he=>by
   rw[he,zrd]
   norm_cast
  refine QY rfl (zk8 rfl (fun hg=>⟨by decide,by decide⟩))<|Yy 2 rfl<|QY rfl (zk8 rfl (fun hg=>⟨by decide,by decide⟩))<|Yy 2 rfl<|QY rfl (zk8 rfl (fun hg=>⟨by decide,by decide⟩))<|Yy 1 rfl ?_
  rw[zms (d:=((z66 B:Nat):Int)) (c:=z66 B) (j:=0) (by simp[pw]),zms (c:=z66 B) (j:=1) (hsh 1 8 rfl),zms (c:=z66 B) (j:=2) (hsh 2 16 rfl),zms (c:=z66 B) (j:=3) (hsh 3 24 rfl)]
  refine QZ rfl (z1q tok 1 rfl rfl rfl) fun _ _=>QZ rfl (z0g tok ((z2t (z66 B) 4).flatMap z1e) rfl (fun E w hm=>z09 (hm.row 4 _ _ _ _ rfl)) (fun _ _ _=>z5f _) (by dsimp only;omega)) fun _ _=> ?_
  rw[←List.flatMap_append]
  refine QY rfl (z0p (s:= .a (.v (.string (z0i (B++z2t (z66 B) 4))))) 5 rfl rfl (fun v V' hs=>zls tok _ rfl (fun hg=>by rw[List.length_append,z0q];exact hs))) ?_
  refine QE 2 [4,5] rfl<|Qw<|QO<|Qb rfl fun E w' hm=>⟨?_,hm.below lr⟩
  rw[zam,if_neg (by omega),z4m,hB]
  rfl
def z2v(s:ByteArray):ByteArray:=s.extract 3 (s.size - 4)
def z47(s:ByteArray):Bool:=decide (7≤s.size)&&decide (s.size≤512)&&decide (1≤(z0m s 0).toNat)&&decide ((z0m s 0).toNat≤127)&&decide (z4m (z0m s 0) (z2v s).data.toList=s.data.toList)
def zf7(s:ByteArray):Int:=if z47 s=true then((z0m s 0).toNat:Int)else 0
def zc3(s:ByteArray):ByteArray:=if z47 s=true then z2v s else ByteArray.empty
def zew(s:ByteArray):Int:=if z47 s=true then 0 else 30
theorem zva(s:ByteArray)(hs:s.size≤maxLen)(w:World):
  Rt 131 #[S s] w (.tuple #[I8 (zf7 s),S (zc3 s),I (zew s)]):=by
 simp only[maxLen]at hs
 refine Qf [.a (.v (S s))] Tryz.func131 rfl<|QA<|QC<|QE 3 [0] rfl<|Qw<|QA<|QA<|QC<|Yy 10 rfl<|QY rfl (zct tok rfl (fun hg=>by simp at hg;omega)) ?_
 refine Yy 4 rfl<|QY rfl (zct tok rfl (fun hg=>by simp at hg;omega)) ?_
 refine QE 2 [0,26] rfl<|Qw<|QX rfl (fun h=> ?_) fun h=> ?_
 ·
  refine QA<|QC<|QE 3 [2,3,4] rfl<|Qw<|QO<|QL<|Qb rfl fun E w' hm=>⟨?_,hm.below lr⟩
  have hno:z47 s=false:=by
   rw[Bool.eq_false_iff]
   intro hc
   simp only[z47,Bool.and_eq_true,decide_eq_true_eq]at hc
   have hb:(z0m s (0:Int).toNat).toNat=(z0m s 0).toNat:=rfl
   omega
  rw[zf7,zc3,zew,hno]
  rfl
 ·
  refine QI<|Qw<|QA<|z11 mixed (by kernel_rfl)<|Dm 1 rfl ?_
  obtain⟨⟨⟨h1,h2⟩,h3⟩,h4⟩:=h
  have hb:(z0m s (0:Int).toNat).toNat=(z0m s 0).toNat:=rfl
  rw[hb]at h3 h4
  refine Qd rfl (zct tok rfl (fun hg=>by omega))<|Dm 5 rfl ?_
  rw[hb,show IntKind.i8.wrap (((z0m s 0).toNat:Nat):Int)=(((z0m s 0).toNat:Nat):Int) by simp[IntKind.wrap,IntKind.bits,IntKind.signed];omega,z06 (n:=(s.size:Int) - 4) (by omega) (by omega)]
  refine Qd rfl (j3s tok rfl (fun hg=>by simp only[Option.getD];omega)) ?_
  refine Dm 2 rfl<|z1z [0,5,6] rfl<|Qw<|QA<|QC<|Yy 2 rfl ?_
  rw[show s.extract ((some (3:Int)).getD 0).toNat ((some ((s.size:Int) - 4)).getD (s.size:Int)).toNat=z2v s by simp only[Option.getD,z2v];congr 1;omega]
  have hls:(z2v s).size=s.size - 7:=by rw[z2v,ByteArray.size_extract];omega
  have hse:zam (((z0m s 0).toNat:Nat):Int) (z2v s)=(z0i (z4m (z0m s 0) (z2v s).data.toList),0):=by
   rw[zam,if_neg (by omega)]
   simp[z0v]
  have hop:z47 s=decide (z4m (z0m s 0) (z2v s).data.toList=s.data.toList):=by
   rw[z47,decide_eq_true (show 7≤s.size by omega),decide_eq_true (show s.size≤512 by omega),decide_eq_true (show 1≤(z0m s 0).toNat by omega),decide_eq_true (show(z0m s 0).toNat≤127 by omega)]
   rfl
  refine Qc (.a (.v _)) rfl zu5 (fun hg E w1 hm=>by exact zjw _ (by unfold R8;omega) (z2v s) (by rw[hls];simp only[maxLen];omega) _) ?_
  refine QE 5 [0,5,6,7,8] rfl<|Qw<|QA<|QA<|QC<|QE 7 [5,6,47] rfl<|Qw<|Qn rfl (fun h=> ?_) fun h=> ?_
  ·
   refine QA<|QC<|QE 3 [2,3,4] rfl<|Qw<|QO<|QL<|z0h tok rfl ?_
   rw[hse,zgr,z0t]at h
   simp at h
   intro E w' hm _
   refine⟨?_,hm.below lr⟩
   rw[zf7,zc3,zew,if_neg (by simp[hop,h]),if_neg (by simp[hop,h]),if_neg (by simp[hop,h])]
   rfl
  ·
   refine QI<|Qw<|QA<|QC<|QE 5 [2,3,4] rfl<|Qw<|QO<|z0h tok rfl ?_
   rw[hse,zgr,z0t]at h
   simp at h
   intro E w' hm _
   refine⟨?_,hm.below lr⟩
   rw[zf7,zc3,zew,if_pos (by simp[hop,h]),if_pos (by simp[hop,h]),if_pos (by simp[hop,h])]
   rfl
def ofB(kind:Int)(s:ByteArray):Bool:=z47 s&&decide (((z0m s 0).toNat:Int)=kind)
def ofL(kind:Int)(s:ByteArray):ByteArray:=if ofB kind s=true then z2v s else ByteArray.empty
def ofE(kind:Int)(s:ByteArray):Int:=if ofB kind s=true then 0 else 30
theorem zh9(kind:Int)(s:ByteArray):((zew s !=0)||(zf7 s !=kind))= !ofB kind s:=by
 unfold ofB zew zf7
 cases z47 s with
 |true=>
  simp only[if_true,Bool.true_and]
  rw[Bool.eq_iff_iff];simp
 |false=>rfl
theorem zti(kind:Int)(s:ByteArray)(hs:s.size≤maxLen)(w:World):
  Rt 100 #[I8 kind,S s] w (.tuple #[S (ofL kind s),I (ofE kind s)]):=by
 refine Qf [.a (.v (I8 kind)), .a (.v (S s))] Tryz.func100 rfl<|QA<|QC<|QE 2 [0,1] rfl<|Qw<|QA<|QC<|Yy 1 rfl<|Qc (.a (.v _)) rfl j2b (fun hg E w1 hm=>by exact zva s hs _) ?_
 refine QE 7 [0,6,7,8] rfl<|Qw<|QA<|QA<|QC<|QE 7 [7,21] rfl<|Qw<|Qn rfl (fun h=> ?_) fun h=> ?_
 ·
  refine QA<|QC<|QE 2 [4,5] rfl<|Qw<|QO<|QL<|z0h tok rfl ?_
  rw[zh9]at h
  simp at h
  intro E w' hm _
  refine⟨?_,hm.below lr⟩
  rw[ofL,ofE,if_neg (by simp[h]),if_neg (by simp[h])]
  rfl
 ·
  refine QI<|Qw<|QA<|QC<|QE 3 [4,5] rfl<|Qw<|QO<|z0h tok rfl ?_
  rw[zh9]at h
  simp at h
  have ho:z47 s=true:=by
   rw[ofB,Bool.and_eq_true]at h;exact h.1
  intro E w' hm _
  refine⟨?_,hm.below lr⟩
  rw[ofL,ofE,if_pos h,if_pos h]
  show Ending.returned (.tuple #[S (zc3 s),I 0])=_
  rw[zc3,if_pos ho]
/-! The program's. -/
theorem znl(f:Nat→Nat):z6p f 2=f 0+f 1*256:=by simp[z6p,pw]
theorem zk2(f:Nat→Nat):z6p f 4=f 0+f 1*256+f 2*65536+f 3*16777216:=by simp[z6p,pw]
theorem j3m(s:ByteArray):z02 s 1 2=if s.size<3 then(0,10)else(((z12 s 1 0+z12 s 1 1*256:Nat):Int),0):=by
 have h0:=z3a s 1 0
 have h1:=z3a s 1 1
 rw[z02,if_neg (by decide)]
 by_cases h:s.size<3
 · rw[if_pos (by omega),if_pos h]
 ·
  rw[if_neg (by omega),if_neg h]
  show(if 1099511627776<z6p (z12 s 1) 2 then _ else _)=_
  rw[znl,if_neg (by omega)]
  show(((z6p (z12 s 1) 2:Nat):Int),(0:Int))=_
  rw[znl]
theorem zwz(s:ByteArray)(n:Nat)(h:n+4≤s.size):z02 s n 4=(((z12 s n 0+z12 s n 1*256+z12 s n 2*65536+z12 s n 3*16777216:Nat):Int),0):=by
 have h0:=z3a s n 0
 have h1:=z3a s n 1
 have h2:=z3a s n 2
 have h3:=z3a s n 3
 rw[z02,if_neg (by decide),if_neg (by omega)]
 show(if 1099511627776<z6p (z12 s ((n:Int)).toNat) 4 then _ else _)=_
 rw[Int.toNat_natCast,zk2,if_neg (by omega)]
 show(((z6p (z12 s n) 4:Nat):Int),(0:Int))=_
 rw[zk2]
theorem z2h(s:ByteArray)(i:Nat):z0m s i=s.data.toList.getD i 0:=by
 simp[z0m,List.getD]
theorem parts(L:List UInt8)(h:7≤L.length): ∃b0 b1 b2 load c0 c1 c2 c3,L=b0::b1::b2::(load++[c0,c1,c2,c3])∧load.length=L.length - 7:=by
 match L,h with
 |b0::b1::b2::r,h=>
  have hr:4≤r.length:=by simp at h;omega
  have e:=List.take_append_drop (r.length - 4) r
  have hd:(r.drop (r.length - 4)).length=4:=by simp;omega
  match hq:r.drop (r.length - 4),hd with
  |[c0,c1,c2,c3],_=>exact⟨b0,b1,b2,r.take (r.length - 4),c0,c1,c2,c3,by rw[←hq,e],by simp⟩
theorem zzv{c:Nat}(hc:c<4294967296)(c0 c1 c2 c3:UInt8):z2t c 4=[c0,c1,c2,c3]↔c0.toNat+c1.toNat*256+c2.toNat*65536+c3.toNat*16777216=c:=by
 have h0:=UInt8.toNat_lt c0
 have h1:=UInt8.toNat_lt c1
 have h2:=UInt8.toNat_lt c2
 have h3:=UInt8.toNat_lt c3
 have e:z2t c 4=[UInt8.ofNat (c%256),UInt8.ofNat (c / 256%256),UInt8.ofNat (c / 65536%256),UInt8.ofNat (c / 16777216%256)]:=by
  simp[z2t,List.range_succ,pw]
 rw[e]
 simp only[List.cons.injEq,and_true]
 rw[←UInt8.toNat_inj,←UInt8.toNat_inj,←UInt8.toNat_inj,←UInt8.toNat_inj,z41,z41,z41,z41]
 omega
def zr3(s:ByteArray):Bool:=
 decide (3≤s.size)&&decide (s.size=7+(z12 s 1 0+z12 s 1 1*256))&&decide (z12 s 1 0+z12 s 1 1*256≤505)&&decide (1≤(z0m s 0).toNat)&&decide ((z0m s 0).toNat≤127)&&
  decide (z12 s (s.size - 4) 0+z12 s (s.size - 4) 1*256+z12 s (s.size - 4) 2*65536+z12 s (s.size - 4) 3*16777216=z66 (s.data.toList.take (s.size - 4)))
theorem znt(s:ByteArray):zr3 s=z47 s:=by
 have hsz:=z33 s
 by_cases h7:7≤s.size
 ·
  obtain⟨b0,b1,b2,load,c0,c1,c2,c3,hL,hlen⟩:=parts s.data.toList (by omega)
  have hb: ∀i,z0m s i=(b0::b1::b2::(load++[c0,c1,c2,c3])).getD i 0:=fun i=>by rw[z2h,hL]
  have d0:z0m s 0=b0:=by rw[hb];rfl
  have d1:z12 s 1 0=b1.toNat:=by rw[z12,hb];rfl
  have d2:z12 s 1 1=b2.toNat:=by rw[z12,hb];rfl
  have dc: ∀j,z12 s (s.size - 4) j=([c0,c1,c2,c3].getD j 0).toNat:=fun j=>by
   rw[z12,hb,show s.size - 4+j=(load.length+j)+3 by omega]
   simp only[List.getD,List.getElem?_cons_succ]
   rw[List.getElem?_append_right (by omega),Nat.add_sub_cancel_left]
  have hload:(z2v s).data.toList=load:=by
   rw[z2v,ByteArray.data_extract,Array.toList_extract,List.extract_eq_take_drop,hL,show s.size - 4 - 3=load.length by omega]
   simp
  have htake:s.data.toList.take (s.size - 4)=b0::b1::b2::load:=by
   rw[hL,show s.size - 4=load.length+3 by omega]
   simp
  unfold zr3 z47
  rw[d0,d1,d2,dc,dc,dc,dc,hload,htake,hL]
  have hb1:=UInt8.toNat_lt b1
  have hb2:=UInt8.toNat_lt b2
  have key:z4m b0 load=b0::b1::b2::(load++[c0,c1,c2,c3])↔b1.toNat+b2.toNat*256=load.length%65536∧z2t (z66 (b0::b1::b2::load)) 4=[c0,c1,c2,c3]:=by
   rw[z4m,zll]
   have p0:UInt8.ofNat (load.length / pw 0%256)=b1↔load.length%256=b1.toNat:=by
    rw[←UInt8.toNat_inj,z41];simp[pw]
   have p1:UInt8.ofNat (load.length / pw 1%256)=b2↔load.length / 256%256=b2.toNat:=by
    rw[←UInt8.toNat_inj,z41];simp[pw]
   simp only[List.cons_append,List.cons.injEq,true_and,List.append_cancel_left_eq,p0,p1]
   constructor
   ·
    rintro⟨e1,e2,e3⟩
    refine⟨by omega, ?_⟩
    rw[←p0.2 e1,←p1.2 e2];exact e3
   ·
    rintro⟨e1,e2⟩
    refine⟨by omega,by omega, ?_⟩
    rw[p0.2 (by omega),p1.2 (by omega)];exact e2
  rw[Bool.eq_iff_iff]
  simp only[Bool.and_eq_true,decide_eq_true_eq,key,zzv (zo1 _)]
  simp only[List.getD_cons_zero,List.getD_cons_succ]
  have hx:load.length=s.size - 7:=by omega
  generalize z66 (b0::b1::b2::load)=cc
  omega
 ·
  have h1:z47 s=false:=by
   rw[z47,decide_eq_false h7];rfl
  rw[h1,Bool.eq_false_iff]
  intro hc
  simp only[zr3,Bool.and_eq_true,decide_eq_true_eq]at hc
  omega
theorem j4u(s:ByteArray)(hs:s.size≤maxLen)(w:World):
  Rt 136 #[S s] w (.tuple #[I8 (zf7 s),S (zc3 s),I (zew s)]):=by
 have hs':=hs
 simp only[maxLen]at hs'
 have hb:(z0m s (0:Int).toNat).toNat=(z0m s 0).toNat:=rfl
 refine Qf [.a (.v (S s))] Tryz.func136 rfl<|QA<|QC<|QE 3 [0] rfl<|Qw<|QA<|QC<|Yy 1 rfl ?_
 have h10:=z3a s 1 0
 have h11:=z3a s 1 1
 obtain⟨n,e,hge,hfx⟩: ∃(n:Nat) (e:Int),z02 s 1 2=((n:Int),e)∧n≤65535∧((s.size<3∧e=10)∨(3≤s.size∧n=z12 s 1 0+z12 s 1 1*256∧e=0)):=by
  rw[j3m]
  by_cases h:s.size<3
  · rw[if_pos h];exact⟨0,10,rfl,by omega, .inl ⟨h,rfl⟩⟩
  · rw[if_neg h];exact⟨_,0,rfl,by omega, .inr ⟨by omega,rfl,rfl⟩⟩
 refine Qc (.a (.v _)) rfl zhg (fun hg E w1 hm=>by exact zc7 s 1 2 hs _) ?_
 refine QE 5 [0,5,6] rfl<|Qw<|QA<|QA<|QC<|Yy 16 rfl ?_
 rw[hge]
 dsimp only
 rw[z06 (n:=3+(n:Int)) (by omega) (by omega),z06 (n:=3+(n:Int)+4) (by omega) (by omega)]
 refine QY rfl (zct tok rfl (fun hg=>by simp at hg;omega)) ?_
 refine Yy 4 rfl<|QY rfl (zct tok rfl (fun hg=>by simp at hg;omega)) ?_
 refine QE 2 [0,5,37] rfl<|Qw<|QX rfl (fun h=> ?_) fun h=> ?_
 ·
  refine QA<|QC<|QE 3 [2,3,4] rfl<|Qw<|QO<|QL<|Qb rfl fun E w' hm=>⟨?_,hm.below lr⟩
  have hno:z47 s=false:=by
   rw[←znt,Bool.eq_false_iff]
   intro hc
   simp only[zr3,Bool.and_eq_true,decide_eq_true_eq]at hc
   omega
  rw[zf7,zc3,zew,hno]
  rfl
 ·
  rw[hb]at h
  have hn:n=z12 s 1 0+z12 s 1 1*256∧s.size=7+n∧n≤505∧1≤(z0m s 0).toNat∧(z0m s 0).toNat≤127:=by omega
  clear h hfx
  obtain⟨hn1,hn2,hn3,hk1,hk2⟩:=hn
  refine QI<|Qw<|QA<|QC<|Yy 3 rfl ?_
  rw[show IntKind.i64.wrap (3+(n:Int))=((3+n:Nat):Int) by rw[z06 (by omega) (by omega)];omega]
  have hop:z47 s=decide (z12 s (3+n) 0+z12 s (3+n) 1*256+z12 s (3+n) 2*65536+z12 s (3+n) 3*16777216=z66 (s.data.toList.take (3+n))):=by
   rw[←znt,zr3,decide_eq_true (show 3≤s.size by omega),decide_eq_true (show s.size=7+(z12 s 1 0+z12 s 1 1*256) by omega),decide_eq_true (show z12 s 1 0+z12 s 1 1*256≤505 by omega),decide_eq_true (show 1≤(z0m s 0).toNat by omega),decide_eq_true (show(z0m s 0).toNat≤127 by omega),
    show s.size - 4=3+n by omega]
   simp only[Bool.true_and]
  obtain⟨sum,hsum⟩: ∃sum,z12 s (3+n) 0+z12 s (3+n) 1*256+z12 s (3+n) 2*65536+z12 s (3+n) 3*16777216=sum:=⟨_,rfl⟩
  have hg4:=zwz s (3+n) (by omega)
  rw[hsum]at hop hg4
  refine Qc (.a (.v _)) rfl zhg (fun hg E w1 hm=>by exact zc7 s ((3+n:Nat):Int) 4 hs _) ?_
  refine QE 5 [0,5,7] rfl<|Qw<|QA<|QA<|QC<|Yy 4 rfl ?_
  rw[hg4]
  dsimp only
  rw[show IntKind.i64.wrap (3+(n:Int))=((3+n:Nat):Int) by rw[z06 (by omega) (by omega)];omega]
  refine QY rfl (j3s tok rfl (fun hg=>by simp only[Option.getD];omega)) ?_
  refine QZ rfl (j9a tok rfl) fun x hx=> ?_
  have hL:(s.extract (none.getD 0:Int).toNat ((some ((3+n:Nat):Int)).getD (s.size:Int)).toNat).data.toList=s.data.toList.take (3+n):=by
   simp only[Option.getD,Int.toNat_natCast]
   rw[ByteArray.data_extract,Array.toList_extract,List.extract_eq_take_drop]
   simp
  rw[hL]at hx
  have hxl:=hx.1
  have htl:(s.data.toList.take (3+n)).length=3+n:=by rw[List.length_take,z33];omega
  refine Qc (.a (.v _)) rfl j32 (fun hg E w1 hm=>by exact j34 x.2 _ (s.data.toList.take (3+n)) _ hm.leV hx.2 (by rw[htl];simp only[maxLen];omega)) ?_
  refine QE 1 [0,5,52] rfl<|Qw<|QX rfl (fun h=> ?_) fun h=> ?_
  ·
   refine QA<|QC<|QE 3 [2,3,4] rfl<|Qw<|QO<|QL<|z0h tok rfl ?_
   have ho:z47 s=false:=by rw[hop];simp;omega
   intro E w' hm _
   refine⟨?_,hm.below (hxl)⟩
   rw[zf7,zc3,zew,ho]
   rfl
  ·
   refine QI<|Qw<|QA<|z11 mixed (by kernel_rfl)<|Dm 1 rfl ?_
   have ho:z47 s=true:=by rw[hop];simp;omega
   refine Qd rfl (zct tok rfl (fun hg=>by omega))<|Dm 4 rfl ?_
   rw[hb,show IntKind.i8.wrap (((z0m s 0).toNat:Nat):Int)=(((z0m s 0).toNat:Nat):Int) by simp[IntKind.wrap,IntKind.bits,IntKind.signed];omega]
   rw[show IntKind.i64.wrap (3+(n:Int))=((3+n:Nat):Int) by rw[z06 (by omega) (by omega)];omega]
   refine Qd rfl (j3s tok rfl (fun hg=>by simp only[Option.getD];omega)) ?_
   refine Dm 3 rfl<|z1z [2,3,4] rfl<|Qw<|QO<|Qb rfl fun E w' hm=>⟨?_,hm.below (hxl)⟩
   rw[zf7,zc3,zew,if_pos ho,if_pos ho,if_pos ho]
   show Ending.returned (.tuple #[I8 (z0m s 0).toNat,S (s.extract 3 (3+n)),I 0])=_
   rw[z2v,show s.size - 4=3+n by omega]
theorem zo4(kind:Int)(s:ByteArray)(hs:s.size≤maxLen)(w:World):
  Rt 105 #[I8 kind,S s] w (.tuple #[S (ofL kind s),I (ofE kind s)]):=by
 refine Qf [.a (.v (I8 kind)), .a (.v (S s))] Tryz.func105 rfl<|QA<|QC<|QE 2 [0,1] rfl<|Qw<|QA<|QC<|Yy 1 rfl<|Qc (.a (.v _)) rfl j3f (fun hg E w1 hm=>by exact j4u s hs _) ?_
 refine QE 7 [0,4,5,6] rfl<|Qw<|QA<|QA<|QC<|QE 7 [4,19] rfl<|Qw<|Qn rfl (fun h=> ?_) fun h=> ?_
 ·
  refine QA<|QC<|QE 2 [4,5] rfl<|Qw<|QO<|QL<|z0h tok rfl ?_
  rw[zh9]at h
  simp at h
  intro E w' hm _
  refine⟨?_,hm.below lr⟩
  rw[ofL,ofE,if_neg (by simp[h]),if_neg (by simp[h])]
  rfl
 ·
  refine QI<|Qw<|QA<|QC<|QE 3 [4,5] rfl<|Qw<|QO<|z0h tok rfl ?_
  rw[zh9]at h
  simp at h
  have ho:z47 s=true:=by
   rw[ofB,Bool.and_eq_true]at h;exact h.1
  intro E w' hm _
  refine⟨?_,hm.below lr⟩
  rw[ofL,ofE,if_pos h,if_pos h]
  show Ending.returned (.tuple #[S (zc3 s),I 0])=_
  rw[zc3,if_pos ho]
def z1r(s:ByteArray)(k:Nat):ByteArray:=s.extract k s.size
theorem z28(s:ByteArray)(k:Nat):(z1r s k).data.toList=s.data.toList.drop k:=by
 rw[z1r,ByteArray.data_extract,Array.toList_extract,List.extract_eq_take_drop]
 rw[List.take_of_length_le (by rw[List.length_drop,z33];omega)]
theorem z4g(s:ByteArray)(k:Nat):(z1r s k).size=s.size - k:=by
 rw[←z33,z28,List.length_drop,z33]
theorem z84(s:ByteArray)(a b:Nat):z1r (z1r s a) b=z1r s (a+b):=by
 apply z4f
 rw[z28,z28,z28,List.drop_drop]
theorem z8w(s:ByteArray):z1r s 0=s:=by
 apply z4f
 rw[z28,List.drop_zero]
theorem zpn(s:ByteArray)(a j:Nat):z12 (z1r s a) 0 j=z12 s a j:=by
 rw[z12,z12,z2h,z2h,z28]
 simp[List.getD]
theorem zpk{f g:Nat→Nat}(h: ∀j,f j=g j)(k:Nat):z6p f k=z6p g k:=by
 rw[funext h]
theorem z5v(s:ByteArray){a:Nat}(ha:a≤s.size)(k:Int):z02 (z1r s a) 0 k=z02 s a k:=by
 have hd:z6p (z12 (z1r s a) (0:Int).toNat) k.toNat=z6p (z12 s ((a:Int)).toNat) k.toNat:=zpk (fun j=>by rw[Int.toNat_natCast];exact zpn s a j) _
 unfold z02
 rw[hd,z4g]
 by_cases h:z0w k=false
 · rw[if_pos h,if_pos h]
 ·
  rw[if_neg h,if_neg h]
  by_cases h2:(s.size:Int) - a<k
  · rw[if_pos (by omega),if_pos (by omega)]
  · rw[if_neg (show¬((0:Int)<0∨((s.size - a:Nat):Int)<0∨((s.size - a:Nat):Int) - 0<k) by omega),if_neg (show¬((a:Int)<0∨(s.size:Int)<a∨(s.size:Int) - a<k) by omega)]
theorem z6b{s:ByteArray}{a k:Int}(h:(z02 s a k).2=0):z0w k=true∧0≤a∧a+k≤s.size:=by
 unfold z02 at h
 split at h
 · simp at h
 ·
  rename_i hw
  split at h
  · simp at h
  · exact⟨by simpa using hw,by omega,by omega⟩
theorem zfj(s:ByteArray)(a k:Int):0≤(z02 s a k).1∧(z02 s a k).1≤1099511627776:=by
 unfold z02
 split
 · simp
 ·
  split
  · simp
  ·
   split
   · simp
   · simp only;omega
def zf2(acc:List Int)(rest:ByteArray):List Int→Option (List Int×ByteArray)
 |[]=>some (acc,rest)
 |k::ks=>if(z02 rest 0 k).2≠0 then none else zf2 (acc++[(z02 rest 0 k).1]) (z1r rest k.toNat) ks
def z17(kind:Int)(s:ByteArray)(ks:List Int):Option (List Int×ByteArray):=if ofB kind s=true then zf2 [] (z2v s) ks else none
def j4a(kind:Int)(s:ByteArray)(ks:List Int)(w:World)(e:Ending)(w':World):Prop:=
 ((∃l r v,z17 kind s ks=some (l,r)∧e= .returned (.tuple #[v,S r,I 0])∧w'.ownsRow w.heap.size 3 1 v l.length (l.flatMap z0a))∨
  (z17 kind s ks=none∧e= .returned (.tuple #[.slice none 0 0,S ByteArray.empty,I 30])))∧Below w.heap.size w w'
theorem zmw(l:List Int): ∀u∈l.flatMap z0a,u.oneCell'=true:=by
 intro u hu
 obtain⟨x,_,hx⟩:=List.mem_flatMap.1 hu
 simp only[List.mem_singleton]at hx
 subst hx
 rfl
theorem zjn(s:ByteArray)(h:z47 s=true):(z2v s).size≤505∧(z2v s).size=s.size - 7:=by
 simp only[z47,Bool.and_eq_true,decide_eq_true_eq]at h
 rw[z2v,ByteArray.size_extract];omega
theorem znf{kind:Int}{s:ByteArray}(h:ofB kind s=true):z47 s=true:=by
 rw[ofB,Bool.and_eq_true]at h;exact h.1
structure FInv(ks acc:List Int)(load rest:ByteArray)(i:Nat):Prop where
 le:i≤ks.length
 eq:zf2 [] load ks=zf2 acc rest (ks.drop i)
 len:acc.length=i
 size:rest.size≤505
theorem zcd(kind:Int)(s:ByteArray)(V:Vw)(kv:Value)(ks:List Int)(w:World)(hs:s.size≤maxLen)(hV:V.le (vw w))(hk:SlOf V z0a 1 kv ks)(hn:ks.length≤1000):
  Cl 78 #[I8 kind,S s,kv] w (j4a kind s ks w):=by
 have hk':=hk.mono hV
 refine Qf [.a (.v (I8 kind)), .a (.v (S s)), .a (.v kv)] Tryz.func78 rfl<|QA<|QC<|QE 3 [0,1,2,6] rfl<|Qw<|QA<|QC<|Yy 2 rfl<|Qc (.a (.v _)) rfl zvb (fun hg E w1 hm=>by exact zo4 kind s hs _) ?_
 refine QE 5 [2,6,7,8] rfl<|Qw<|QA<|QA<|QC<|Yy 1 rfl<|QY rfl (z0l tok rfl (fun hg=>hk'.sl))<|QE 1 [6,7,8,19,20,21] rfl<|Qw<|QJ ?_
 have hsz0:(ofL kind s).size≤505:=by
  unfold ofL
  cases ho:ofB kind s with
  |false=>simp
  |true=>rw[if_pos rfl];exact(zjn s (znf ho)).1
 have hno:ofE kind s≠0→z17 kind s ks=none:=fun hc=>by
  rw[z17,if_neg]
  intro hq
  exact hc (by rw[ofE,if_pos hq])
 have hE30:ofE kind s≠0→ofE kind s=30:=fun hc=>by
  unfold ofE at hc⊢
  split
  · rename_i hq;rw[if_pos hq]at hc;exact absurd rfl hc
  · rfl
 refine z6l 6 3 1 rfl rfl<|Ql [19,20] [0] rfl rfl (σ:=Nat×List Int×ByteArray) (fun(i,acc,rest)=>[(6, .a (.row 0)),(7, .a (.v (S rest))),(8, .a (.v (I (ofE kind s)))),(21, .a (.v (I i)))]) (fun(i,acc,rest)=>[(0, .row 3 1 acc.length (acc.flatMap z0a))]) (fun(i,acc,rest)=>FInv ks acc (ofL kind s) rest i) (fun(i,acc,rest)=>ks.length - i) ((0,[],ofL kind s)) (⟨by omega,rfl,rfl,hsz0⟩) ?_
 rintro⟨i,acc,rest⟩ ⟨hi,heq,hacc,hsz⟩
 refine QA<|QC<|QE 1 [6,7,8,19,20,21,22] rfl<|Qw<|QA<|QX rfl (fun h=> ?_) fun h=> ?_
 ·
  refine QI<|Qw<|QA<|QJ<|QA<|QC ?_
  obtain⟨k,h_k⟩:=hk'.at (k:=i) (by omega)
  have hlt_k:=z01 h_k
  refine QY rfl (z0c tok rfl (fun hg=>hk'.sl) (fun hg=>⟨by omega,by omega⟩))<|QY rfl (z08 tok (i) 0 (k) rfl (fun hg=>hk') (fun hg=>h_k) rfl rfl)<|QE 1 [6,7,8,10,19,20,21] rfl<|Qw<|QA<|QA<|QC<|QE 2 [6,7,8,10,19,20,21,26] rfl<|Qw<|QX rfl (fun h=> ?_) fun h=> ?_
  ·
   refine QN<|QK<|z4p rfl<|QK<|QK<|QQ<|Qw<|QA<|QA<|QC<|QE 2 [6,7,8,44] rfl<|Qw<|QX rfl (fun h=> ?_) fun h=> ?_
   ·
    refine QA<|QC<|QE 4 [6,7,8] rfl<|Qw<|QO<|QL<|z0h tok rfl ?_
    rw[hE30 h]
    intro E w' hm _
    exact⟨.inr ⟨hno h,rfl⟩,hm.below lr⟩
   ·
    refine QI<|Qw<|QA<|QC<|QE 5 [6,7,8] rfl<|Qw<|QO<|z0h tok rfl ?_
    contradiction
  ·
   refine QI<|Qw<|QA<|QC<|Yy 2 rfl ?_
   have hE:=h
   clear h
   rw[List.drop_eq_getElem_cons hlt_k]at heq
   have hkk:ks[i]=k:=by
    have:=h_k
    rw[List.getElem?_eq_getElem hlt_k]at this
    exact Option.some.inj this
   rw[hkk,zf2]at heq
   have hR:z17 kind s ks=zf2 [] (ofL kind s) ks:=by
    have ho:ofB kind s=true:=by
     cases hq:ofB kind s with
     |true=>rfl
     |false=>rw[ofE,if_neg (by simp[hq])]at hE;cases hE
    rw[z17,if_pos ho,ofL,if_pos ho]
   refine Qc (.a (.v _)) rfl zhg (fun hg E w1 hm=>by exact zc7 rest 0 k (by simp only[maxLen];omega) _) ?_
   refine QE 5 [6,7,8,10,11,12,19,20,21] rfl<|Qw<|QA<|QA<|QC<|QE 2 [6,7,8,10,11,19,20,21,34] rfl<|Qw<|QX rfl (fun h=> ?_) fun h=> ?_
   ·
    refine QA<|QC<|QE 3 [6,7,8] rfl<|Qw<|QO<|QL<|QP<|QL<|QL<|QP<|QL<|Qb rfl fun E w' hm=> ?_
    exact⟨.inr ⟨by rw[hR,heq,if_pos h],rfl⟩,hm.below lr⟩
   ·
    rw[if_neg (by simp[h])]at heq
    obtain⟨hw,_,hle⟩:=z6b h
    simp only[z0w,Bool.and_eq_true,decide_eq_true_eq]at hw
    refine QI<|Qw<|zdl [] ([]) mixed (by repeat (first|exact oN|refine oC rfl ?_)) (by first|rfl|simp[z0u,z26]) ?_
    refine QT [0,1,4,5] rfl ?_
    obtain⟨q,rfl⟩: ∃q:Nat,k=q:=⟨k.toNat,by omega⟩
    refine Qt 6 rfl rfl (j3s tok rfl (fun hg=>by simp only[Option.getD];omega)) ?_
    refine QS<|Qo 2 ?_
    rw[show rest.extract ((some (q:Int)).getD 0).toNat ((none:Option Int).getD (rest.size:Int)).toNat=z1r rest q from rfl]
    refine Qg 2 rfl rfl (z1q tok 1 rfl rfl rfl) fun _ _=>Qo 3<|Qg 3 rfl rfl (z0g tok ([(z02 rest 0 q).1].flatMap z0a) rfl (fun E w hm=>z09 (hm.row 1 _ _ _ _ rfl)) (fun _ _ _=>zmw _) (by dsimp only;omega)) fun _ _=>Qx [7,8] rfl<|Qe [6,7,8,19,20,21] rfl<|QM<|Qw<|QC<|QE 2 [6,7,8,19,20,21] rfl<|Qw ?_
    rw[←List.flatMap_append,show acc.length+1=(acc++[(z02 rest 0 q).1]).length by simp,z06 (n:=(i:Int)+1) (by omega) (by omega)]
    refine z00 0 2 rfl ?_
    have hrs:=z4g rest q
    refine Qr ((i+1,acc++[(z02 rest 0 q).1],z1r rest q))<|⟨by omega,heq,by simp[hacc],by omega⟩
 ·
  have hil:i=ks.length:=by omega
  subst hil
  rw[List.drop_length]at heq
  refine QN<|QK<|QK<|QQ<|Qw<|QA<|QA<|QC<|QE 2 [6,7,8,44] rfl<|Qw<|QX rfl (fun h=> ?_) fun h=> ?_
  ·
   refine QA<|QC<|QE 4 [6,7,8] rfl<|Qw<|QO<|QL<|z0h tok rfl ?_
   rw[hE30 h]
   intro E w' hm _
   exact⟨.inr ⟨hno h,rfl⟩,hm.below lr⟩
  ·
   refine QI<|Qw<|QA<|QC<|QE 5 [6,7,8] rfl<|Qw<|QO<|z0h tok rfl ?_
   have hR:z17 kind s ks=some (acc,rest):=by
    have ho:ofB kind s=true:=by
     cases hq:ofB kind s with
     |true=>rfl
     |false=>rw[ofE,if_neg (by simp[hq])]at h;cases h
    rw[ofL,if_pos ho]at heq
    rw[z17,if_pos ho,heq]
    rfl
   intro E w' hm _
   exact⟨.inl ⟨acc,rest,E.κ 0,hR,rfl,hm.rowFresh lr (l:=0) rfl⟩,hm.below lr⟩
theorem z6r(kind:Int)(s:ByteArray)(V:Vw)(kv:Value)(ks:List Int)(w:World)(hs:s.size≤maxLen)(hV:V.le (vw w))(hk:SlOf V z0a 1 kv ks)(hn:ks.length≤1000):
  Cl 64 #[I8 kind,S s,kv] w (j4a kind s ks w):=by
 have hk':=hk.mono hV
 refine Qf [.a (.v (I8 kind)), .a (.v (S s)), .a (.v kv)] Tryz.func64 rfl<|QA<|QC<|QE 3 [0,1,2] rfl<|Qw<|QA<|QC<|Yy 2 rfl<|Qc (.a (.v _)) rfl zu4 (fun hg E w1 hm=>by exact zti kind s hs _) ?_
 refine QE 5 [2,9,10] rfl<|Qw<|QA<|QA<|QC<|QE 2 [2,9,10,23] rfl<|Qw<|QX rfl (fun h=> ?_) fun h=> ?_
 ·
  refine QA<|QC<|QE 4 [6,7,8] rfl<|Qw<|QO<|QL<|z0h tok rfl ?_
  have hE:ofE kind s=30:=by
   unfold ofE at h⊢
   split
   · rename_i hq;rw[if_pos hq]at h;exact absurd rfl h
   · rfl
  have hR:z17 kind s ks=none:=by
   rw[z17,if_neg]
   intro hq
   exact h (by rw[ofE,if_pos hq])
  rw[hE]
  intro E w' hm _
  exact⟨.inr ⟨hR,rfl⟩,hm.below lr⟩
 ·
  refine QI<|Qw<|QA<|QC<|QE 1 [2,9,11] rfl<|Qw<|QA<|QC<|QE 1 [2,9,11,12] rfl<|Qw<|QA<|QA<|QC<|QE 1 [2,9,11,12,13] rfl<|Qw<|QJ ?_
  have ho:ofB kind s=true:=by
   cases hq:ofB kind s with
   |true=>rfl
   |false=>rw[ofE,if_neg (by simp[hq])]at h;cases h
  have hsz0:=(zjn s (znf ho)).1
  rw[show ofL kind s=z2v s by rw[ofL,if_pos ho]]
  obtain⟨L,hL⟩: ∃L,z2v s=L:=⟨_,rfl⟩
  have hR:z17 kind s ks=zf2 [] L ks:=by rw[z17,if_pos ho,hL]
  rw[hL]at hsz0⊢
  refine z6l 11 3 1 rfl rfl<|Ql [2,9] [0] rfl rfl (σ:=Nat×List Int×Nat) (fun(i,acc,a)=>[(11, .a (.row 0)),(12, .a (.v (I a))),(13, .a (.v (I i)))]) (fun(i,acc,a)=>[(0, .row 3 1 acc.length (acc.flatMap z0a))]) (fun(i,acc,a)=>FInv ks acc L (z1r L a) i∧a≤L.size) (fun(i,acc,a)=>ks.length - i) ((0,[],0)) (⟨⟨by omega,by rw[z8w];rfl,rfl,by rw[z8w];exact hsz0⟩,by omega⟩) ?_
  rintro⟨i,acc,a⟩ ⟨⟨hi,heq,hacc,hsz⟩,ha⟩
  refine QA<|QA<|QC<|Yy 2 rfl<|QY rfl (z0l tok rfl (fun hg=>hk'.sl))<|QE 1 [2,9,11,12,13,28] rfl<|Qw<|QX rfl (fun h=> ?_) fun h=> ?_
  ·
   refine QI<|Qw<|QA<|QJ<|QA<|QC<|Yy 4 rfl ?_
   obtain⟨k,h_k⟩:=hk'.at (k:=i) (by omega)
   have hlt_k:=z01 h_k
   refine QY rfl (z0c tok rfl (fun hg=>hk'.sl) (fun hg=>⟨by omega,by omega⟩))<|QY rfl (z08 tok (i) 0 (k) rfl (fun hg=>hk') (fun hg=>h_k) rfl rfl) ?_
   rw[List.drop_eq_getElem_cons hlt_k]at heq
   have hkk:ks[i]=k:=by
    have:=h_k
    rw[List.getElem?_eq_getElem hlt_k]at this
    exact Option.some.inj this
   rw[hkk,zf2,z5v L ha]at heq
   refine Qc (.a (.v _)) rfl zaz (fun hg E w1 hm=>by exact z83 L a k (by simp only[maxLen];omega) _) ?_
   refine QE 5 [2,9,11,12,13,14,15] rfl<|Qw<|QA<|QA<|QC<|QE 2 [2,9,11,12,13,14,42] rfl<|Qw<|QX rfl (fun h=> ?_) fun h=> ?_
   ·
    refine QA<|QC<|QE 3 [6,7,8] rfl<|Qw<|QO<|QL<|QP<|QL<|QL<|QP<|QL<|Qb rfl fun E w' hm=> ?_
    exact⟨.inr ⟨by rw[hR,heq,if_pos h],rfl⟩,hm.below lr⟩
   ·
    rw[if_neg (by simp[h])]at heq
    obtain⟨hw,_,hle⟩:=z6b h
    simp only[z0w,Bool.and_eq_true,decide_eq_true_eq]at hw
    obtain⟨q,rfl⟩: ∃q:Nat,k=q:=⟨k.toNat,by omega⟩
    refine QI<|Qw<|QA<|QC<|Yy 2 rfl<|QZ rfl (z1q tok 1 rfl rfl rfl) fun _ _=>QZ rfl (z0g tok ([(z02 L a q).1].flatMap z0a) rfl (fun E w hm=>z09 (hm.row 1 _ _ _ _ rfl)) (fun _ _ _=>zmw _) (by dsimp only;omega)) fun _ _=>QE 1 [2,9,11,12,13] rfl<|Qw<|QC<|Yy 3 rfl ?_
    rw[←List.flatMap_append,show acc.length+1=(acc++[(z02 L a q).1]).length by simp]
    have hlt__q___Int_:=z01 h_k
    refine QY rfl (z0c tok rfl (fun hg=>hk'.sl) (fun hg=>⟨by omega,by omega⟩))<|QY rfl (z08 tok (i) 0 ((q:Int)) rfl (fun hg=>hk') (fun hg=>h_k) rfl rfl)<|QE 2 [2,9,11,12,13] rfl<|QM<|Qw<|QC<|QE 3 [2,9,11,12,13] rfl<|Qw ?_
    rw[z06 (n:=(i:Int)+1) (by omega) (by omega),show IntKind.i64.wrap ((a:Int)+q)=((a+q:Nat):Int) by rw[z06 (by omega) (by omega)];omega]
    refine z00 0 2 rfl ?_
    rw[Int.toNat_natCast,z84]at heq
    have hrs:=z4g L (a+q)
    refine Qr ((i+1,acc++[(z02 L a q).1],a+q))<|⟨⟨by omega,heq,by simp[hacc],by omega⟩,by omega⟩
  ·
   refine QN<|QK<|QK<|QQ<|Qw<|QA<|z11 mixed (by kernel_rfl)<|Dm 3 rfl ?_
   have hil:i=ks.length:=by omega
   subst hil
   rw[List.drop_length]at heq
   refine Qd rfl (j3s tok rfl (fun hg=>by simp only[Option.getD];omega)) ?_
   refine Dm 3 rfl<|z1z [6,7,8] rfl<|Qw<|QO<|Qb rfl fun E w' hm=> ?_
   exact⟨.inl ⟨acc,z1r L a,E.κ 0,by rw[hR,heq];rfl,rfl,hm.rowFresh lr (l:=0) rfl⟩,hm.below lr⟩
def zxe(kind:Int)(s:ByteArray)(ks:List Int)(x:Value)(V':Vw):Prop:=
 (∃l r v,z17 kind s ks=some (l,r)∧x= .tuple #[v,S r,I 0]∧SlOf V' z0a 1 v l)∨(z17 kind s ks=none∧x= .tuple #[.slice none 0 0,S ByteArray.empty,I 30])
theorem z7m{P:Program}{f:Nat}{args:Array Value}{kind:Int}{s:ByteArray}{ks:List Int}{V:Vw}{w:World}(hV:V.le (vw w))(h:Calls P f args w (j4a kind s ks w)):
  Calls P f args w fun e w'=> ∃x V',e= .returned x∧Below w.heap.size w w'∧Vext w.heap.size V V' w'∧zxe kind s ks x V':=by
 refine h.mono ?_
 rintro e w' ⟨⟨l,r,v,h1,rfl,hown⟩|⟨h1,rfl⟩,hb⟩
 ·
  obtain⟨V',hx,hsl⟩:=z1i hV hb hown
  exact⟨_,V',rfl,hb,hx, .inl ⟨l,r,v,h1,rfl,hsl,fun _=>rfl⟩⟩
 · exact⟨_,V,rfl,hb,Vext.same hV hb, .inr ⟨h1,rfl⟩⟩
theorem za2(n:Int)(w:World):Rt 167 #[I n] w (.bool (zbt n)):=by
 refine Qf [.a (.v (I n))] Tryz.func167 rfl<|QA<|QC<|QE 1 [0] rfl<|Qw<|QA<|QC<|QE 7 [2] rfl<|Qw<|QO<|Qb rfl fun E w' hm=> ?_
 exact⟨rfl,hm.below lr⟩
theorem za0(s:ByteArray):(s.toList==ByteArray.empty.toList)=decide (s.size=0):=by
 rw[zgr,Bool.eq_iff_iff,decide_eq_true_eq,decide_eq_true_eq]
 constructor
 · intro h;rw[←z33,h];rfl
 · intro h;rw[ze7 h]
theorem zkk(r:Record)(w:World):Rt 152 #[r.val] w (.bool (zki r)):=by
 refine Qf [.a (.v r.val)] Tryz.func152 rfl<|QA<|QC<|QE 2 [1] rfl<|Qw<|QA<|QA<|QC<|Yy 2 rfl<|Qc (.a (.v _)) rfl zdq (fun hg E w1 hm=>by exact za2 _ _) ?_
 refine QE 21 [1,26] rfl<|Qw<|QX rfl (fun h=> ?_) fun h=> ?_
 ·
  refine QA<|QC<|QE 1 [2] rfl<|Qw<|QO<|QL<|Qb rfl fun E w' hm=>⟨?_,hm.below lr⟩
  rw[show zki r=false by
   rw[Bool.eq_false_iff]
   intro hc
   simp only[zki,Bool.and_eq_true,decide_eq_true_eq,z49]at hc
   rcases h with(((h|h)|h)|h)|h
   · rw[h]at hc;simp at hc
   all_goals omega]
  rfl
 ·
  obtain⟨⟨⟨⟨h1,h2⟩,h3⟩,h4⟩,h5⟩:=h
  have hpre:(zbt r.key&&z49 r.lsn 1099511627777&&z49 r.count 64)=true:=by
   simp[z49,h1];omega
  refine QI<|Qw<|QA<|QA<|QC<|QE 3 [1,29] rfl<|Qw<|QX rfl (fun h=> ?_) fun h=> ?_
  ·
   refine QA<|QC<|QE 14 [2] rfl<|Qw<|QO<|QL<|Qb rfl fun E w' hm=>⟨?_,hm.below lr⟩
   show Ending.returned (.bool ((r.block==0&&r.k==0)&&(r.text.toList==ByteArray.empty.toList)))=_
   rw[zki,hpre,if_pos h,za0,Bool.true_and]
   congr 2
  ·
   refine QI<|Qw<|QA<|QC<|QE 25 [2] rfl<|Qw<|QO<|Qb rfl fun E w' hm=>⟨?_,hm.below lr⟩
   show Ending.returned (.bool ((((decide (0≤r.block)&&decide (r.block<64))&&decide (0≤r.k))&&decide (r.k<8))&&decide ((r.text.size:Int)≤256)))=_
   rw[zki,hpre,if_neg (by omega),Bool.true_and]
   congr 2
   rw[Bool.eq_iff_iff]
   simp only[z49,Bool.and_eq_true,decide_eq_true_eq]
   omega
theorem zoo: ∀(ks acc:List Int) (r:ByteArray) {l:List Int} {q:ByteArray},zf2 acc r ks=some (l,q)→l.length=acc.length+ks.length
 |[],acc,r,l,q,h=>by
  simp only[zf2,Option.some.injEq,Prod.mk.injEq]at h
  rw[←h.1];rfl
 |k::ks,acc,r,l,q,h=>by
  rw[zf2]at h
  split at h
  · cases h
  ·
   have:=zoo ks _ _ h
   rw[this,List.length_append,List.length_singleton,List.length_cons]<;>omega
def z45:List Int:=[6,6,2,1,2]
abbrev zvs:Record:=⟨0,0,0,0,ByteArray.empty,0⟩
def zz3:List Int→ByteArray→Record
 |[a,b,c,d,e],t=>⟨a,b,c,d,t,e⟩
 |_,_=>zvs
def za3(s:ByteArray):Bool:=match z17 6 s z45 with
 |some (l,t)=>zki (zz3 l t)
 |none=>false
def z8t(s:ByteArray):Record:=if za3 s=true then(match z17 6 s z45 with
 |some (l,t)=>zz3 l t
 |none=>zvs)else zvs
def zf5(s:ByteArray):Int:=if za3 s=true then 0 else 50
theorem jbn{l:List Int}(h:l.length=5): ∃a b c d e,l=[a,b,c,d,e]:=by
 match l,h with
 |[a,b,c,d,e],_=>exact⟨a,b,c,d,e,rfl⟩
theorem z39{kind:Int}{s:ByteArray}{ks l:List Int}{q:ByteArray}(h:z17 kind s ks=some (l,q)):l.length=ks.length:=by
 rw[z17]at h
 split at h
 · rw[zoo ks [] _ h];simp
 · cases h
theorem zsw(b:Nat)(w:World):Cl 162 #[.pointer (some ⟨b,0,none⟩)] w fun e w'=> ∃v,e= .returned v∧w'.ownsRow w.heap.size 3 1 v z45.length (z45.flatMap z0a)∧Below w.heap.size w w':=by
 refine Qf [.a (.v (.pointer (some ⟨b,0,none⟩)))] Tryz.func162 rfl<|QA<|QC<|QE 1 [] rfl<|Qw<|QA<|QC<|QZ rfl (z1q tok 1 rfl rfl rfl) fun _ _=>QE 1 [2] rfl<|Qw<|QO<|Qb rfl fun E w' hm=> ?_
 exact⟨_,rfl,hm.rowFresh lr (l:=0) rfl,hm.below lr⟩
theorem zpz(V:Vw)(b:Nat)(w:World)(hV:V.le (vw w)):Cl 162 #[.pointer (some ⟨b,0,none⟩)] w fun e w'=> ∃x V',e= .returned x∧Below w.heap.size w w'∧Vext w.heap.size V V' w'∧SlOf V' z0a 1 x z45:=by
 refine(zsw b w).mono ?_
 rintro e w' ⟨v,rfl,hown,hb⟩
 obtain⟨V',hx,hsl⟩:=z1i hV hb hown
 exact⟨_,V',rfl,hb,hx,⟨hsl,fun _=>rfl⟩⟩
theorem ztk(s:ByteArray)(hs:s.size≤maxLen)(w:World):Rt 146 #[S s] w (.tuple #[(z8t s).val,I (zf5 s)]):=by
 refine Qf [.a (.v (S s))] Tryz.func146 rfl<|QA<|QC<|QE 2 [0,2] rfl<|Qw<|QA<|QC<|QE 3 [0,2,4] rfl<|Qw<|QA<|QC<|Yy 2 rfl<|Qv ((fun x V'=>SlOf V' z0a 1 x z45)) rfl j4b (fun hg E w1 hm=>by exact zpz (vw w) _ _ hm.leV) ?_
 rintro x V1 hle1 hx
 have hx1:=hx rfl
 refine Qv (zxe 6 s z45) rfl znq (fun hg E w1 hm=>by exact z7m hm.leV (zcd 6 s V1 x z45 _ hs hm.leV hx1 (by decide))) ?_
 rintro y V2 hle2 hy
 have hle:=hle1.trans hle2
 rcases hy rfl with⟨l,t,v,hR,rfl,hsl⟩|⟨hR,rfl⟩
 rotate_left
 ·
  refine QE 7 [2,4,5,6,7] rfl<|Qw<|QA<|QA<|QC<|QE 2 [2,4,5,6,19] rfl<|Qw<|Qn rfl (fun h=> ?_) fun h=> ?_
  ·
   refine QA<|QC<|Yy 1 rfl<|Qs rfl<|QE 1 [2,3] rfl<|Qw<|QO<|QL<|Qb rfl fun E w' hm=>⟨?_,hm.below (hle)⟩
   have h1:za3 s=false:=by rw[za3,hR]
   rw[z8t,zf5,if_neg (by simp[h1]),if_neg (by simp[h1])]
   rfl
  ·
   refine QI<|Qw<|QA<|zdl [] ([]) mixed (by repeat (first|exact oN|refine oC rfl ?_)) (by first|rfl|simp[z0u,z26]) ?_
   refine QT [0,1,2,3,4,5,6] rfl ?_
   exact absurd h (by decide)
 refine QE 7 [2,4,5,6,7] rfl<|Qw<|QA<|QA<|QC<|QE 2 [2,4,5,6,19] rfl<|Qw<|Qn rfl (fun h=> ?_) fun h=> ?_
 ·
  refine QA<|QC<|Yy 1 rfl<|Qs rfl<|QE 1 [2,3] rfl<|Qw<|QO<|QL<|z0h tok rfl ?_
  exact absurd h (by decide)
 ·
  refine QI<|Qw<|QA<|zdl [] ([]) mixed (by repeat (first|exact oN|refine oC rfl ?_)) (by first|rfl|simp[z0u,z26]) ?_
  refine QT [0,1,2,3,4,5,6] rfl ?_
  clear h
  obtain⟨a,b,c,d,e,rfl⟩:=jbn (z39 hR)
  have hlt_a:=z01 (show [a,b,c,d,e][0]? =some a from rfl)
  refine Qt 7 rfl rfl (z0c tok rfl (fun hg=>hsl.sl) (fun hg=>⟨by omega,by omega⟩))<|Qt 8 rfl rfl (z08 tok (0) 0 (a) rfl (fun hg=>hsl) (fun hg=>(show [a,b,c,d,e][0]? =some a from rfl)) rfl rfl)<|QT [9] rfl ?_
  have hlt_b:=z01 (show [a,b,c,d,e][1]? =some b from rfl)
  refine Qt 10 rfl rfl (z0c tok rfl (fun hg=>hsl.sl) (fun hg=>⟨by omega,by omega⟩))<|Qt 11 rfl rfl (z08 tok (1) 0 (b) rfl (fun hg=>hsl) (fun hg=>(show [a,b,c,d,e][1]? =some b from rfl)) rfl rfl)<|QT [12] rfl ?_
  have hlt_c:=z01 (show [a,b,c,d,e][2]? =some c from rfl)
  refine Qt 13 rfl rfl (z0c tok rfl (fun hg=>hsl.sl) (fun hg=>⟨by omega,by omega⟩))<|Qt 14 rfl rfl (z08 tok (2) 0 (c) rfl (fun hg=>hsl) (fun hg=>(show [a,b,c,d,e][2]? =some c from rfl)) rfl rfl)<|QT [15] rfl ?_
  have hlt_d:=z01 (show [a,b,c,d,e][3]? =some d from rfl)
  refine Qt 16 rfl rfl (z0c tok rfl (fun hg=>hsl.sl) (fun hg=>⟨by omega,by omega⟩))<|Qt 17 rfl rfl (z08 tok (3) 0 (d) rfl (fun hg=>hsl) (fun hg=>(show [a,b,c,d,e][3]? =some d from rfl)) rfl rfl)<|QT [18] rfl ?_
  have hlt_e:=z01 (show [a,b,c,d,e][4]? =some e from rfl)
  refine Qt 19 rfl rfl (z0c tok rfl (fun hg=>hsl.sl) (fun hg=>⟨by omega,by omega⟩))<|Qt 20 rfl rfl (z08 tok (4) 0 (e) rfl (fun hg=>hsl) (fun hg=>(show [a,b,c,d,e][4]? =some e from rfl)) rfl rfl)<|QT [21,22,23,24] rfl<|QS<|Qo 25<|Qi 25 rfl<|Qx [26,27,28] rfl<|Qo 29<|Qi 29 rfl<|Qx [30,31,32] rfl<|Qo 33<|Qi 33 rfl<|Qx [34,35,36] rfl<|Qo 37 ?_
  refine Qi 37 rfl<|Qx [38,39,40] rfl<|Qo 41<|Qi 41 rfl<|Qx [42,43,44] rfl<|Qo 45<|Qi 45 rfl<|Qe [2,4] rfl<|Qw<|QA<|QA<|QC<|Yy 1 rfl ?_
  have h0:z17 6 s z45=some ([a,b,c,d,e],t):=hR
  have hr:za3 s=zki ⟨a,b,c,d,t,e⟩:=by rw[za3,h0];rfl
  refine Qc (.a (.v _)) rfl j44 (fun hg E w1 hm=>by exact zp5 ⟨a,b,c,d,t,e⟩ _ _ (hm.lit 1 _ _ rfl)) ?_
  refine QE 1 [2,4,63] rfl<|Qw<|QX rfl (fun h=> ?_) fun h=> ?_
  ·
   refine QA<|QC<|Yy 1 rfl<|Qs rfl<|QE 1 [2,3] rfl<|Qw<|QO<|QL<|Qb rfl fun E w' hm=>⟨?_,hm.below (hle)⟩
   rw[z8t,zf5,if_neg (by simp[hr,h]),if_neg (by simp[hr,h])]
   rfl
  ·
   refine QI<|Qw<|QA<|QC<|Yy 4 rfl<|Qs rfl<|QE 1 [2,3] rfl<|Qw<|QO<|Qb rfl fun E w' hm=>⟨?_,hm.below (hle)⟩
   rw[z8t,zf5,if_pos (by rw[hr,h]),if_pos (by rw[hr,h]),h0]
   rfl
theorem zr6(s:ByteArray)(hs:s.size≤maxLen)(w:World):Rt 130 #[S s] w (.tuple #[(z8t s).val,I (zf5 s)]):=by
 refine Qf [.a (.v (S s))] Tryz.func130 rfl<|QA<|QC<|QE 2 [0,2] rfl<|Qw<|QA<|QC<|Yy 1 rfl<|zp7 tok rfl rfl rfl rfl fun b1 V1 hle1 hb1=>Qv (zxe 6 s z45) rfl zn1 (fun hg E w1 hm=>by exact z7m hm.leV (z6r 6 s V1 _ z45 _ hs hm.leV (SlOf.ofBlock (enc:=z0a) (sz:=1) (l:=z45) (hb1 rfl) rfl (fun _=>rfl) (Nat.le_refl _)) (by decide))) ?_
 rintro y V2 hle2 hy
 have hle:=hle1.trans hle2
 rcases hy rfl with⟨l,t,v,hR,rfl,hsl⟩|⟨hR,rfl⟩
 rotate_left
 ·
  refine QE 7 [2,4,5,6] rfl<|Qw<|QA<|QA<|QC<|QE 2 [2,4,5,16] rfl<|Qw<|Qn rfl (fun h=> ?_) fun h=> ?_
  ·
   refine QA<|QC<|Yy 1 rfl<|Qs rfl<|QE 1 [2,3] rfl<|Qw<|QO<|QL<|Qb rfl fun E w' hm=>⟨?_,hm.below (hle)⟩
   have h1:za3 s=false:=by rw[za3,hR]
   rw[z8t,zf5,if_neg (by simp[h1]),if_neg (by simp[h1])]
   rfl
  ·
   refine QI<|Qw<|QA<|Ra rfl<|QT [0] rfl ?_
   exact absurd h (by decide)
 refine QE 7 [2,4,5,6] rfl<|Qw<|QA<|QA<|QC<|QE 2 [2,4,5,16] rfl<|Qw<|Qn rfl (fun h=> ?_) fun h=> ?_
 ·
  refine QA<|QC<|Yy 1 rfl<|Qs rfl<|QE 1 [2,3] rfl<|Qw<|QO<|QL<|z0h tok rfl ?_
  exact absurd h (by decide)
 ·
  refine QI<|Qw<|QA<|Ra rfl<|QT [0] rfl ?_
  clear h
  obtain⟨a,b,c,d,e,rfl⟩:=jbn (z39 hR)
  have hlt_a:=z01 (show [a,b,c,d,e][0]? =some a from rfl)
  refine Qt 1 rfl rfl (z0c tok rfl (fun hg=>hsl.sl) (fun hg=>⟨by omega,by omega⟩))<|Qt 2 rfl rfl (z08 tok (0) 0 (a) rfl (fun hg=>hsl) (fun hg=>(show [a,b,c,d,e][0]? =some a from rfl)) rfl rfl)<|QT [3] rfl ?_
  have hlt_b:=z01 (show [a,b,c,d,e][1]? =some b from rfl)
  refine Qt 4 rfl rfl (z0c tok rfl (fun hg=>hsl.sl) (fun hg=>⟨by omega,by omega⟩))<|Qt 5 rfl rfl (z08 tok (1) 0 (b) rfl (fun hg=>hsl) (fun hg=>(show [a,b,c,d,e][1]? =some b from rfl)) rfl rfl)<|QT [6] rfl ?_
  have hlt_c:=z01 (show [a,b,c,d,e][2]? =some c from rfl)
  refine Qt 7 rfl rfl (z0c tok rfl (fun hg=>hsl.sl) (fun hg=>⟨by omega,by omega⟩))<|Qt 8 rfl rfl (z08 tok (2) 0 (c) rfl (fun hg=>hsl) (fun hg=>(show [a,b,c,d,e][2]? =some c from rfl)) rfl rfl)<|QT [9] rfl ?_
  have hlt_d:=z01 (show [a,b,c,d,e][3]? =some d from rfl)
  refine Qt 10 rfl rfl (z0c tok rfl (fun hg=>hsl.sl) (fun hg=>⟨by omega,by omega⟩))<|Qt 11 rfl rfl (z08 tok (3) 0 (d) rfl (fun hg=>hsl) (fun hg=>(show [a,b,c,d,e][3]? =some d from rfl)) rfl rfl)<|QT [12] rfl ?_
  have hlt_e:=z01 (show [a,b,c,d,e][4]? =some e from rfl)
  refine Qt 13 rfl rfl (z0c tok rfl (fun hg=>hsl.sl) (fun hg=>⟨by omega,by omega⟩))<|Qt 14 rfl rfl (z08 tok (4) 0 (e) rfl (fun hg=>hsl) (fun hg=>(show [a,b,c,d,e][4]? =some e from rfl)) rfl rfl)<|QT [15,16] rfl<|QS<|Qo 17<|Qk 17 rfl rfl rfl rfl<|Qo 18<|Qi 18 rfl<|Qe [2,7] rfl<|Qw<|QA<|QA<|QC<|Yy 1 rfl ?_
  have h0:z17 6 s z45=some ([a,b,c,d,e],t):=hR
  have hr:za3 s=zki ⟨a,b,c,d,t,e⟩:=by rw[za3,h0];rfl
  refine Qc (.a (.v _)) rfl j48 (fun hg E w1 hm=>by exact zkk ⟨a,b,c,d,t,e⟩ _) ?_
  refine QE 1 [2,7,37] rfl<|Qw<|QX rfl (fun h=> ?_) fun h=> ?_
  ·
   refine QA<|QC<|Yy 1 rfl<|Qs rfl<|QE 1 [2,3] rfl<|Qw<|QO<|QL<|Qb rfl fun E w' hm=>⟨?_,hm.below (hle)⟩
   rw[z8t,zf5,if_neg (by simp[hr,h]),if_neg (by simp[hr,h])]
   rfl
  ·
   refine QI<|Qw<|QA<|QC<|Yy 1 rfl<|Qs rfl<|QE 1 [2,3] rfl<|Qw<|QO<|Qb rfl fun E w' hm=>⟨?_,hm.below (hle)⟩
   rw[z8t,zf5,if_pos (by rw[hr,h]),if_pos (by rw[hr,h]),h0]
   rfl
def isB(s:ByteArray)(key lsn:Int):Bool:=za3 s&&decide ((z8t s).key=key)&&decide ((z8t s).lsn=lsn)
def isV(s:ByteArray)(key lsn:Int):Record:=if isB s key lsn=true then z8t s else zvs
theorem zhc(s:ByteArray)(key lsn:Int):((zf5 s !=0)||((z8t s).key !=key)||((z8t s).lsn !=lsn))= !isB s key lsn:=by
 unfold isB zf5
 cases za3 s with
 |true=>rw[Bool.eq_iff_iff];simp[or_assoc]
 |false=>rfl
theorem j00(s:ByteArray)(key lsn:Int)(hs:s.size≤maxLen)(w:World):Rt 118 #[S s,I key,I lsn] w (.tuple #[(isV s key lsn).val, .bool (isB s key lsn)]):=by
 refine Qf [.a (.v (S s)), .a (.v (I key)), .a (.v (I lsn))] Tryz.func118 rfl<|QA<|QC<|QE 2 [0,1,2,6] rfl<|Qw<|QA<|QC<|Yy 1 rfl<|Qc (.a (.v _)) rfl j2w (fun hg E w1 hm=>by exact ztk s hs _) ?_
 refine Yy 4 rfl<|Qs rfl<|QE 1 [1,2,6,8,9] rfl<|Qw<|QA<|QA<|QC<|QE 14 [6,8,28] rfl<|Qw<|Qn rfl (fun h=> ?_) fun h=> ?_
 ·
  refine QA<|QC<|Yy 1 rfl<|Qs rfl<|QE 1 [6,7] rfl<|Qw<|QO<|QL<|z0h tok rfl ?_
  rw[zhc]at h
  simp at h
  intro E w' hm _
  refine⟨?_,hm.below lr⟩
  rw[isV,h]
  rfl
 ·
  refine QI<|Qw<|QA<|QC<|Yy 1 rfl<|Qs rfl<|QE 1 [6,7] rfl<|Qw<|QO<|z0h tok rfl ?_
  rw[zhc]at h
  simp at h
  intro E w' hm _
  refine⟨?_,hm.below lr⟩
  rw[isV,h]
  rfl
theorem j3e(s:ByteArray)(key lsn:Int)(hs:s.size≤maxLen)(w:World):Rt 98 #[S s,I key,I lsn] w (.tuple #[(isV s key lsn).val, .bool (isB s key lsn)]):=by
 refine Qf [.a (.v (S s)), .a (.v (I key)), .a (.v (I lsn))] Tryz.func98 rfl<|QA<|QC<|QE 2 [0,1,2,6] rfl<|Qw<|QA<|QC<|Yy 1 rfl<|Qc (.a (.v _)) rfl j29 (fun hg E w1 hm=>by exact zr6 s hs _) ?_
 refine Yy 4 rfl<|Qs rfl<|QE 1 [1,2,6,8,9] rfl<|Qw<|QA<|QA<|QC<|QE 14 [6,8,28] rfl<|Qw<|Qn rfl (fun h=> ?_) fun h=> ?_
 ·
  refine QA<|QC<|Yy 1 rfl<|Qs rfl<|QE 1 [6,7] rfl<|Qw<|QO<|QL<|z0h tok rfl ?_
  rw[zhc]at h
  simp at h
  intro E w' hm _
  refine⟨?_,hm.below lr⟩
  rw[isV,h]
  rfl
 ·
  refine QI<|Qw<|QA<|QC<|Yy 1 rfl<|Qs rfl<|QE 1 [6,7] rfl<|Qw<|QO<|z0h tok rfl ?_
  rw[zhc]at h
  simp at h
  intro E w' hm _
  refine⟨?_,hm.below lr⟩
  rw[isV,h]
  rfl
theorem eqB_refl(r:Record):r.eqB r=true:=(Record.eqB_iff r r).2 rfl
section
variable{o:Oper}{n:Nat}{F:z05}{C:List Nat}{O:Go.Eng.Own}{nl:Nat}{V:Vw}
end
section
variable{o:Oper}{n:Nat}{F:z05}{C:List Nat}{O:Go.Eng.Own}{nl:Nat}{V:Vw}
end
theorem zxz(bl:List UInt8)(k:Int)(n:Int):z3f bl k [n]=bl++leB k n:=by simp[z3f]
def z24:List Int→List Int→List UInt8
 |k::ks,n::ns=>leB k n++z24 ks ns
 |_,_=>[]
theorem zg0: ∀{ks ns:List Int} {i:Nat} {k n:Int},ks[i]? =some k→ns[i]? =some n→z24 (ks.take (i+1)) (ns.take (i+1))=z24 (ks.take i) (ns.take i)++leB k n
 |k0::ks,n0::ns,0,k,n,hk,hn=>by
  simp at hk hn
  subst hk hn
  simp[z24]
 |k0::ks,n0::ns,i+1,k,n,hk,hn=>by
  simp only[List.getElem?_cons_succ]at hk hn
  have:=zg0 hk hn
  simp only[List.take_succ_cons,z24,this,List.append_assoc]
 |[],_,_,_,_,hk,_=>by simp at hk
 |_::_,[],_,_,_,_,hn=>by simp at hn
structure RecOk(r:Record):Prop where
 key:16≤r.key∧r.key≤1099511627776
 lsn:0≤r.lsn∧r.lsn≤1099511627776
 block:0≤r.block∧r.block<64
 k:0≤r.k∧r.k<8
 count:0≤r.count∧r.count<64
 text:r.text.size≤256
theorem j8i{r:Record}(h:zki r=true):RecOk r:=by
 simp only[zki,zbt,z49,Bool.and_eq_true,decide_eq_true_eq]at h
 obtain⟨⟨⟨h1,h2⟩,h3⟩,h4⟩:=h
 split at h4
 ·
  simp only[Bool.and_eq_true,decide_eq_true_eq,beq_iff_eq]at h4
  exact⟨h1,by omega,by omega,by omega,h3,by omega⟩
 ·
  simp only[Bool.and_eq_true,decide_eq_true_eq,z49]at h4
  exact⟨h1,by omega,h4.1.1,h4.1.2,h3,by omega⟩
theorem z8a{k n:Int}(h:z1k n k=true):z5o k [n]=true:=by
 have hw:z0w k=true:=by
  simp only[z1k,Bool.and_eq_true]at h;exact h.1.1
 simp[z5o,hw,h]
theorem zhj: ∀(ks ns:List Int),(z24 ks ns).length≤(ks.map Int.toNat).sum
 |k::ks,n::ns=>by
  have:=zhj ks ns
  simp only[z24,leB,List.length_append,z0q,List.map_cons,List.sum_cons];omega
 |[],_=>by simp[z24]
 |_::_,[]=>by simp[z24]
theorem z9i{f g:Nat→Nat}: ∀{k:Nat},(∀j,j<k→f j=g j)→z6p f k=z6p g k
 |0,_=>rfl
 |k+1,h=>by rw[z6p,z6p,z9i (fun j hj=>h j (by omega)),h k (by omega)]
theorem zd0(q:Nat): ∀k,z6p (fun j=>q / pw j%256) k=q%pw k
 |0=>by simp[z6p,pw,Nat.mod_one]
 |k+1=>by
  rw[z6p,zd0 q k,z8p,Nat.mod_mul,Nat.mul_comm (pw k)]
theorem zx5{n k:Int}(h:z1k n k=true): ∃q m:Nat,n=q∧k=m∧1≤m∧m≤6∧q<pw m∧q≤1099511627776:=by
 simp only[z1k,z0w,Bool.and_eq_true,decide_eq_true_eq]at h
 obtain⟨⟨⟨h1,h2⟩,h3⟩,h4⟩:=h
 refine⟨n.toNat,k.toNat,by omega,by omega,by omega,by omega, ?_, ?_⟩
 ·
  have:=zfi k.toNat
  unfold z6c at h4
  unfold pw
  unfold pw at this
  omega
 · unfold z6c at h4;omega
theorem z1v{n k:Int}(h:z1k n k=true)(R:List UInt8):z02 (z0i (leB k n++R)) 0 k=(n,0):=by
 have hw:z0w k=true:=by
  simp only[z1k,Bool.and_eq_true]at h;exact h.1.1
 obtain⟨q,m,rfl,rfl,h1,h2,h3,h4⟩:=zx5 h
 have hd:z6p (z12 (z0i (leB m q++R)) (0:Int).toNat) (m:Int).toNat=q:=by
  rw[Int.toNat_natCast,z9i (g:=fun j=>q / pw j%256) (fun j hj=> ?_),zd0,Nat.mod_eq_of_lt h3]
  rw[z12,z2h,z0t]
  have hlen:j<(leB (m:Int) (q:Int)).length:=by rw[leB,z0q];exact hj
  rw[List.getD,List.getElem?_append_left (by simpa using hlen)]
  simp only[leB,z2t,Int.toNat_natCast,Int.toNat_zero,Nat.zero_add,List.getElem?_map,List.getElem?_range hj,Option.map_some,Option.getD_some]
  exact z41 _
 rw[z02,if_neg (by simp[hw]),hd,if_neg (by rw[z16,List.length_append,leB,z0q];omega),if_neg (by omega)]
theorem zd9(n k:Int)(R:List UInt8):z1r (z0i (leB k n++R)) k.toNat=z0i R:=by
 apply z4f
 rw[z28,z0t,z0t,List.drop_left']
 rw[leB,z0q]
theorem zdi: ∀(ks ns acc:List Int) (R:List UInt8),ks.length=ns.length→(∀(i:Nat) (k n:Int),ks[i]? =some k→ns[i]? =some n→z1k n k=true)→zf2 acc (z0i (z24 ks ns++R)) ks=some (acc++ns,z0i R)
 |[],[],acc,R,_,_=>by simp[zf2,z24]
 |k::ks,n::ns,acc,R,hl,h=>by
  have h0:=h 0 k n rfl rfl
  rw[z24,List.append_assoc,zf2,z1v h0,if_neg (by simp),zd9,zdi ks ns (acc++[n]) R (by simpa using hl) (fun i k n hk hn=>h (i+1) k n (by simpa using hk) (by simpa using hn))]
  simp
 |[],_::_,_,_,hl,_=>by simp at hl
 |_::_,[],_,_,hl,_=>by simp at hl
theorem zgi(k:UInt8)(load:List UInt8): ∃b1 b2 T,z4m k load=k::b1::b2::(load++T)∧T.length=4:=by
 refine⟨UInt8.ofNat (load.length / pw 0%256),UInt8.ofNat (load.length / pw 1%256),z2t (z66 (body k load)) 4, ?_,z0q _ _⟩
 obtain⟨c,hc⟩: ∃c,z2t (z66 (body k load)) 4=c:=⟨_,rfl⟩
 rw[z4m,hc,zll]
 rfl
theorem z9a(k:UInt8)(load:List UInt8):z2v (z0i (z4m k load))=z0i load:=by
 obtain⟨b1,b2,T,h1,h2⟩:=zgi k load
 have hsz:(z0i (z4m k load)).size=7+load.length:=by rw[z16,z9s]
 apply z4f
 rw[z2v,ByteArray.data_extract,Array.toList_extract,List.extract_eq_take_drop,hsz,z0t,z0t,h1,show 7+load.length - 4 - 3=load.length by omega]
 simp
theorem z9f(k:UInt8)(load:List UInt8):z0m (z0i (z4m k load)) 0=k:=by
 obtain⟨b1,b2,T,h1,_⟩:=zgi k load
 rw[z2h,z0t,h1]
 rfl
theorem zfk{k:UInt8}{load:List UInt8}(h1:1≤k.toNat)(h2:k.toNat≤127)(h3:load.length≤505):z47 (z0i (z4m k load))=true:=by
 have hsz:(z0i (z4m k load)).size=7+load.length:=by rw[z16,z9s]
 simp only[z47,Bool.and_eq_true,decide_eq_true_eq]
 rw[z9f,z9a,z0t,z0t,hsz]
 exact⟨⟨⟨⟨by omega,by omega⟩,h1⟩,h2⟩,rfl⟩
end Go.Proofs.YtkoiogkdiifgfaaGreat

/- Commands: which may be, their bytes. -/
set_option linter.unusedVariables false
set_option linter.unusedSimpArgs false
set_option maxRecDepth 100000
namespace Go.Proofs.YtkoiogkdiifgfaaGreat
open Go Go.Eng Go.RowKit
def ze1(lo hi:Int):Bool:=(decide (0≤lo)&&decide (lo≤hi))&&decide (hi<64)
def z69(c:Cmd)(sp mo de wa:Bool):Bool:=
 ((((sp&&ze1 c.lo c.hi)||(!sp&&(c.lo==0&&c.hi==0)))&&((mo&&(c.mode==1||c.mode==2))||(!mo&&c.mode==0)))&&((de&&zbt c.dead)||(!de&&c.dead==0)))&&(c.was==0||(wa&&zbt c.was))
def z57(c:Cmd):Bool:=((zbt c.by_&&decide (1≤c.serial))&&decide (c.serial≤2147483648))&&
 (if c.kind=0∨c.kind=1 then z69 c false false false false else if c.kind=2 then z69 c true true false false else if c.kind=3 then z69 c true false false false
  else if c.kind=4 then z69 c false false true true else if c.kind=5 then z69 c false false true false else false)
theorem z70 {P : Program} {w : World} {d : Nat} {xs ys : Array Value} {f : Field} {fs : List Field} {a b : Value} {r rest : Bool} (hn : (f.name ≠ "_") = True) (ha : (part f.type xs f.offset).run P w = .ok a w)
  (hb:(part f.type ys f.offset).run P w= .ok b w) (hr:(Op.equalIn d f.type a b).run P w= .ok r w) (hrest:(Op.eqFields d xs ys fs).run P w= .ok rest w):(Op.eqFields d xs ys (f::fs)).run P w= .ok (r&&rest) w:=by
 rw[Op.eqFields,if_pos (by rw[hn];trivial)]
 simp only[Sem.run_bind,ha,hb,hr,Result.andThen_ok]
 cases r<;>simp[hrest,Sem.run_pure]
theorem j47{P:Program}{w:World}{d:Nat}{xs ys:Array Value}:(Op.eqFields d xs ys []).run P w= .ok true w:=by simp[Op.eqFields,Sem.run_pure]
theorem zt7{op:BinOp}{ox oy:Operand}(a b c d:Int)(w:World)(hop:op= .eql∨op= .neq):
  (do eqGuard op 162 ox oy (.agg #[I a,I b]) (.agg #[I c,I d]);binOp op 162 (.agg #[I a,I b]) (.agg #[I c,I d]):Sem Value).run Tryz.prog w= .ok (.bool (if op= .eql then(a==c&&b==d)else !(a==c&&b==d))) w:=by
 have hS:Tryz.prog.underlying 162=some (.struct (Tryz.prog.fieldsOf 162)):=by kernel_rfl
 have hp:Tryz.prog.stoodInHeld 162=false:=by kernel_rfl
 have hg:Tryz.prog.eqGuardType Tryz.prog.depth 162=false:=by kernel_rfl
 have key:(Op.equalIn 10000 162 (.agg #[I a,I b]) (.agg #[I c,I d])).run Tryz.prog w= .ok (a==c&&b==d) w:=by
  have u3:=Tryz.underlying3
  have a3:=Tryz.isAgg3
  have z3:=Tryz.sizeOf3
  rw[show(10000:Nat)=9999+1 from rfl,run_equalIn_agg w 9999 162 _ _ hS hp]
  simp only[Program.fieldsOf,Tryz.underlying162]
  go_simp
  by_cases h1:a=c<;>by_cases h2:b=d<;>simp[h1,h2]
 rw[Sem.run_bind,run_eqGuard_agg w _ _ _ _ _ _ hg]
 rcases hop with rfl|rfl
 · simp only[Result.andThen_ok,run_eql_struct,key];rfl
 · simp only[Result.andThen_ok,run_neq_struct,key];rfl
def Cmd.eqB(a b:Cmd):Bool:=a.kind==b.kind&&(a.by_==b.by_&&(a.serial==b.serial&&(a.dead==b.dead&&(a.was==b.was&&((a.lo==b.lo&&a.hi==b.hi)&&a.mode==b.mode)))))
theorem Cmd.eqB_iff(a b:Cmd):a.eqB b=true↔a=b:=by
 obtain⟨a1,a2,a3,a4,a5,a6,a7,a8⟩:=a
 obtain⟨b1,b2,b3,b4,b5,b6,b7,b8⟩:=b
 simp[Cmd.eqB,and_assoc]
theorem zp4{op:BinOp}{ox oy:Operand}(a b:Cmd)(w:World)(hop:op= .eql∨op= .neq):
  (do eqGuard op 164 ox oy a.val b.val;binOp op 164 a.val b.val:Sem Value).run Tryz.prog w= .ok (.bool (if op= .eql then a.eqB b else !(a.eqB b))) w:=by
 have hS:Tryz.prog.underlying 164=some (.struct (Tryz.prog.fieldsOf 164)):=by kernel_rfl
 have hp:Tryz.prog.stoodInHeld 164=false:=by kernel_rfl
 have hg:Tryz.prog.eqGuardType Tryz.prog.depth 164=false:=by kernel_rfl
 have hS2:Tryz.prog.underlying 162=some (.struct (Tryz.prog.fieldsOf 162)):=by kernel_rfl
 have hp2:Tryz.prog.stoodInHeld 162=false:=by kernel_rfl
 have key2: ∀a b c d:Int,(Op.equalIn 9999 162 (.agg #[I a,I b]) (.agg #[I c,I d])).run Tryz.prog w= .ok (a==c&&b==d) w:=by
  intro a b c d
  have u3:=Tryz.underlying3
  have a3:=Tryz.isAgg3
  have z3:=Tryz.sizeOf3
  rw[show(9999:Nat)=9998+1 from rfl,run_equalIn_agg w 9998 162 _ _ hS2 hp2]
  simp only[Program.fieldsOf,Tryz.underlying162]
  go_simp
  by_cases h1:a=c<;>by_cases h2:b=d<;>simp[h1,h2]
 have key:(Op.equalIn 10000 164 a.val b.val).run Tryz.prog w= .ok (a.eqB b) w:=by
  have u3:=Tryz.underlying3
  have a3:=Tryz.isAgg3
  have z3:=Tryz.sizeOf3
  have u8:=Tryz.underlying108
  have a8:=Tryz.isAgg108
  have z8:=Tryz.sizeOf108
  have asp:=Tryz.isAgg162
  have zsp:=Tryz.sizeOf162
  rw[show(10000:Nat)=9999+1 from rfl,run_equalIn_agg w 9999 164 _ _ hS hp]
  simp only[Program.fieldsOf,Tryz.underlying164]
  have e:=fun(k:IntKind) (x y:Int) (t:Nat) (hu:Tryz.prog.underlying t=some (.int k))=>run_equalIn_int (P:=Tryz.prog) w 9998 t k k x y hu
  refine(z70 (by simp) (by go_simp;rfl) (by go_simp;rfl) (e .i8 _ _ _ u8)<|z70 (by simp) (by go_simp;rfl) (by go_simp;rfl) (e .i64 _ _ _ u3)<|z70 (by simp) (by go_simp;rfl) (by go_simp;rfl) (e .i64 _ _ _ u3)<|
   z70 (by simp) (by go_simp;rfl) (by go_simp;rfl) (e .i64 _ _ _ u3)<|z70 (by simp) (by go_simp;rfl) (by go_simp;rfl) (e .i64 _ _ _ u3)<|z70 (a:= .agg #[I a.lo,I a.hi]) (b:= .agg #[I b.lo,I b.hi]) (by simp) (by go_simp) (by go_simp) (key2 _ _ _ _)<|
   z70 (by simp) (by go_simp;rfl) (by go_simp;rfl) (e .i8 _ _ _ u8) j47).trans ?_
  rw[Bool.and_true]
  rfl
 rw[Sem.run_bind,run_eqGuard_agg w _ _ _ _ _ _ hg]
 rcases hop with rfl|rfl
 · simp only[Result.andThen_ok,run_eql_struct,key];rfl
 · simp only[Result.andThen_ok,run_neq_struct,key];rfl
abbrev z8g(c:Cmd)(bv:Value):List Value:=c.cells++[bv]
theorem j10(c:Cmd)(bv:Value)(b:Nat)(w:World)(hb:w.heap[b]? =some (.cells (z8g c bv).toArray 277 (0,0))):
  Rt 217 #[.pointer (some ⟨b,0,none⟩)] w (.bool (ze1 c.lo c.hi)):=by
 refine z4n [.a (.ptr 0 0)] hb Tryz.func217 rfl rfl rfl rfl<|QA<|QC<|QE 1 [0] rfl<|Qw<|QA<|z11 mixed (by kernel_rfl)<|Dm 32 rfl<|z1z [2] rfl<|Qw<|QO<|Qb rfl fun E w' hm=> ?_
 exact⟨rfl,z3g hb hm lr rfl rfl rfl⟩
theorem zal(c:Cmd)(bv:Value)(sp mo de wa:Bool)(b:Nat)(w:World)(hb:w.heap[b]? =some (.cells (z8g c bv).toArray 277 (0,0))):
  Rt 206 #[.pointer (some ⟨b,0,none⟩), .bool sp, .bool mo, .bool de, .bool wa] w (.bool (z69 c sp mo de wa)):=by
 refine z4n [.a (.ptr 0 0), .a (.v (.bool sp)), .a (.v (.bool mo)), .a (.v (.bool de)), .a (.v (.bool wa))] hb Tryz.func206 rfl rfl rfl rfl<|QA<|QC<|QE 1 [0,1,2,3,4] rfl<|Qw<|QA<|QC<|Yy 3 rfl<|Qc (.a (.v _)) rfl j3a (fun hg E w1 hm=>by exact j10 c bv _ _ (hm.lit 0 _ _ rfl)) ?_
 refine Yy 11 rfl<|QY rfl (z60 (.bool (c.lo==0&&c.hi==0)) rfl (fun E w=>zt7 c.lo c.hi 0 0 w (.inl rfl)))<|Yy 41 rfl<|Qc (.a (.v _)) rfl zh6 (fun hg E w1 hm=>by exact zw0 _ _) ?_
 refine Yy 29 rfl<|Qc (.a (.v _)) rfl zh6 (fun hg E w1 hm=>by exact zw0 _ _) ?_
 refine QE 4 [10] rfl<|Qw<|QO<|Qb rfl fun E w' hm=> ?_
 exact⟨rfl,z3g hb hm lr rfl rfl rfl⟩
theorem j6b(c:Cmd)(bv:Value)(b:Nat)(w:World)(hb:w.heap[b]? =some (.cells (z8g c bv).toArray 277 (0,0))):
  Rt 190 #[.pointer (some ⟨b,0,none⟩)] w (.bool (z57 c)):=by
 have fin: ∀{E:Env} {O:Go.Eng.Own} {nl:Nat} {w':World},Mem E O nl ((vw w).del b) w'→lk O 2=some (.size w.heap.size)→lk O 1=some (.pin 0 b)→lk O 0=some (.lit ((z8g c bv).map .v) 277)→Below w.heap.size w w':=
  fun hm h2 h1 h0=>z3g hb hm lr h2 h1 h0
 refine z4n [.a (.ptr 0 0)] hb Tryz.func190 rfl rfl rfl rfl<|QA<|QC<|QE 1 [0] rfl<|Qw<|QA<|QA<|QC<|Yy 5 rfl<|Qc (.a (.v _)) rfl zh6 (fun hg E w1 hm=>by exact zw0 _ _) ?_
 refine QE 17 [0,25] rfl<|Qw<|QX rfl (fun h=> ?_) fun h=> ?_
 ·
  refine QA<|QC<|QE 1 [2] rfl<|Qw<|QO<|QL<|Qb rfl fun E w' hm=>⟨?_,fin hm rfl rfl rfl⟩
  have:z57 c=false:=by
   unfold z57
   rcases h with(h|h)|h
   · rw[h];rfl
   · rw[decide_eq_false (show¬1≤c.serial by omega),Bool.and_false];rfl
   · rw[decide_eq_false (show¬c.serial≤2147483648 by omega),Bool.and_false];rfl
  rw[this];rfl
 ·
  obtain⟨⟨h1,h2⟩,h3⟩:=h
  have hpre:((zbt c.by_&&decide (1≤c.serial))&&decide (c.serial≤2147483648))=true:=by
   rw[h1,decide_eq_true (show 1≤c.serial by omega),decide_eq_true (show c.serial≤2147483648 by omega)];rfl
  refine QI<|Qw<|QA<|QA<|QC<|QE 5 [0,30] rfl<|Qw<|QJ<|QA<|QA<|QC<|QE 2 [0,30,31] rfl<|Qw<|Qn rfl (fun h=> ?_) fun h=> ?_
  ·
   refine QI<|Qw<|Qn rfl (fun h2=> ?_) fun h2=> ?_
   ·
    refine QA<|QC<|Yy 1 rfl<|Qc (.a (.v _)) rfl zaj (fun hg E w1 hm=>by exact zal c bv false false false false _ _ (hm.lit 0 _ _ rfl)) ?_
    refine QE 1 [2] rfl<|Qw<|QO<|QP<|QL<|Qb rfl fun E w' hm=>⟨?_,fin hm rfl rfl rfl⟩
    rw[z57,hpre,Bool.true_and,if_pos (by simp at h;omega)]
    rfl
   ·
    rw[h]at h2
    cases h2
  ·
   refine QC<|QE 2 [0,30,31] rfl<|Qw<|Qn rfl (fun h=> ?_) fun h=> ?_
   ·
    refine QA<|QC<|Yy 1 rfl<|Qc (.a (.v _)) rfl zaj (fun hg E w1 hm=>by exact zal c bv false false false false _ _ (hm.lit 0 _ _ rfl)) ?_
    refine QE 1 [2] rfl<|Qw<|QO<|QP<|QL<|Qb rfl fun E w' hm=>⟨?_,fin hm rfl rfl rfl⟩
    rw[z57,hpre,Bool.true_and,if_pos (by simp at h;omega)]
    rfl
   ·
    refine QA<|QC<|QE 2 [0,30,36] rfl<|Qw<|Qn rfl (fun h=> ?_) fun h=> ?_
    ·
     refine QA<|QC<|Yy 1 rfl<|Qc (.a (.v _)) rfl zaj (fun hg E w1 hm=>by exact zal c bv true true false false _ _ (hm.lit 0 _ _ rfl)) ?_
     refine QE 1 [2] rfl<|Qw<|QO<|QP<|QL<|Qb rfl fun E w' hm=>⟨?_,fin hm rfl rfl rfl⟩
     rw[z57,hpre,Bool.true_and,if_neg (by simp at*;omega),if_pos (by simpa using h)]
     rfl
    ·
     refine QA<|QC<|QE 2 [0,30,40] rfl<|Qw<|Qn rfl (fun h=> ?_) fun h=> ?_
     ·
      refine QA<|QC<|Yy 1 rfl<|Qc (.a (.v _)) rfl zaj (fun hg E w1 hm=>by exact zal c bv true false false false _ _ (hm.lit 0 _ _ rfl)) ?_
      refine QE 1 [2] rfl<|Qw<|QO<|QP<|QL<|Qb rfl fun E w' hm=>⟨?_,fin hm rfl rfl rfl⟩
      rw[z57,hpre,Bool.true_and,if_neg (by simp at*;omega),if_neg (by simp at*;omega),if_pos (by simpa using h)]
      rfl
     ·
      refine QA<|QC<|QE 2 [0,30,44] rfl<|Qw<|Qn rfl (fun h=> ?_) fun h=> ?_
      ·
       refine QA<|QC<|Yy 1 rfl<|Qc (.a (.v _)) rfl zaj (fun hg E w1 hm=>by exact zal c bv false false true true _ _ (hm.lit 0 _ _ rfl)) ?_
       refine QE 1 [2] rfl<|Qw<|QO<|QP<|QL<|Qb rfl fun E w' hm=>⟨?_,fin hm rfl rfl rfl⟩
       rw[z57,hpre,Bool.true_and,if_neg (by simp at*;omega),if_neg (by simp at*;omega),if_neg (by simp at*;omega),if_pos (by simpa using h)]
       rfl
      ·
       refine QA<|QC<|QE 2 [0,48] rfl<|Qw<|Qn rfl (fun h=> ?_) fun h=> ?_
       ·
        refine QA<|QC<|Yy 1 rfl<|Qc (.a (.v _)) rfl zaj (fun hg E w1 hm=>by exact zal c bv false false true false _ _ (hm.lit 0 _ _ rfl)) ?_
        refine QE 1 [2] rfl<|Qw<|QO<|QP<|QL<|Qb rfl fun E w' hm=>⟨?_,fin hm rfl rfl rfl⟩
        rw[z57,hpre,Bool.true_and,if_neg (by simp at*;omega),if_neg (by simp at*;omega),if_neg (by simp at*;omega),if_neg (by simp at*;omega),if_pos (by simpa using h)]
        rfl
       ·
        refine QI<|QM<|Qw<|QA<|QC<|QE 1 [2] rfl<|Qw<|QO<|Qb rfl fun E w' hm=>⟨?_,fin hm rfl rfl rfl⟩
        rw[z57,hpre,Bool.true_and,if_neg (by simp at*;omega),if_neg (by simp at*;omega),if_neg (by simp at*;omega),if_neg (by simp at*;omega),if_neg (by simp at*;omega)]
        rfl
theorem z9q(c:Cmd)(w:World):Rt 173 #[c.val] w (.bool (z57 c)):=by
 refine Qf [.a (.v c.val)] Tryz.func173 rfl<|QA<|QC<|QE 2 [1] rfl<|Qw<|QA<|QC<|Yy 3 rfl<|Qc (.a (.v _)) rfl j31 (fun hg E w1 hm=>by exact j6b c _ _ _ (hm.lit 1 _ _ rfl)) ?_
 refine QE 1 [2] rfl<|Qw<|QO<|Qb rfl fun E w' hm=>⟨?_,hm.below lr⟩
 rfl
section
variable{o:Oper}{n:Nat}{F:z05}{C:List Nat}{O:Go.Eng.Own}{nl:Nat}{V:Vw}
end
def z6f(c:Cmd):List UInt8:=
 if c.kind=2 then z3f (z3f (z3f (z3f [] 1 [c.kind]) 6 [c.by_]) 4 [c.serial]) 1 [c.lo,c.hi,c.mode]
 else if c.kind=3 then z3f (z3f (z3f (z3f [] 1 [c.kind]) 6 [c.by_]) 4 [c.serial]) 1 [c.lo,c.hi]
 else if c.kind=4 then z3f (z3f (z3f (z3f [] 1 [c.kind]) 6 [c.by_]) 4 [c.serial]) 6 [c.dead,c.was]
 else if c.kind=5 then z3f (z3f (z3f (z3f [] 1 [c.kind]) 6 [c.by_]) 4 [c.serial]) 6 [c.dead]
 else z3f (z3f (z3f [] 1 [c.kind]) 6 [c.by_]) 4 [c.serial]
def cbV(c:Cmd):ByteArray:=if z57 c=true then z0i (z6f c)else ByteArray.empty
def cbE(c:Cmd):Int:=if z57 c=true then 0 else 2
structure CmdOk(c:Cmd):Prop where
 kind:0≤c.kind∧c.kind≤5
 by_:16≤c.by_∧c.by_≤1099511627776
 serial:1≤c.serial∧c.serial≤2147483648
 lo:0≤c.lo∧c.lo<64
 hi:0≤c.hi∧c.hi<64
 mode:0≤c.mode∧c.mode≤2
 dead:0≤c.dead∧c.dead≤1099511627776
 was:0≤c.was∧c.was≤1099511627776
 span:c.kind≠2→c.kind≠3→c.lo=0∧c.hi=0
 mode0:c.kind≠2→c.mode=0
 dead0:c.kind≠4→c.kind≠5→c.dead=0
 was0:c.kind≠4→c.was=0
theorem zkz{c:Cmd}(h:z57 c=true):CmdOk c:=by
 simp only[z57,zbt,Bool.and_eq_true,decide_eq_true_eq]at h
 obtain⟨⟨⟨h1,h2⟩,h3⟩,h4⟩:=h
 split at h4
 ·
  simp[z69,ze1,zbt]at h4
  constructor<;>omega
 ·
  split at h4
  ·
   simp[z69,ze1,zbt]at h4
   constructor<;>omega
  ·
   split at h4
   ·
    simp[z69,ze1,zbt]at h4
    constructor<;>omega
   ·
    split at h4
    ·
     simp[z69,ze1,zbt]at h4
     constructor<;>omega
    ·
     split at h4
     ·
      simp[z69,ze1,zbt]at h4
      constructor<;>omega
     · cases h4
def tkS(t:ByteArray×Bool)(k:Nat):ByteArray×Bool:=if(z02 t.1 0 k).2≠0 then(t.1,true)else(z1r t.1 k,t.2)
theorem z46(t:ByteArray×Bool)(k:Nat):(tkS t k).1.size≤t.1.size:=by
 rw[tkS];split
 · exact Nat.le_refl _
 · rw[z4g];omega
theorem zmi{s:ByteArray}{a k:Int}(h:(z02 s a k).2≠0):(z02 s a k).1=0:=by
 unfold z02 at h⊢
 split
 · rfl
 ·
  split
  · rfl
  ·
   split
   · rfl
   ·
    rename_i h1 h2 h3
    rw[if_neg h1,if_neg h2,if_neg h3]at h
    exact absurd rfl h
theorem zkl{s:ByteArray}{k:Nat}(h: ¬(z02 s 0 k).2≠0):k≤s.size:=by
 unfold z02 at h
 split at h
 · exact absurd (by decide) h
 ·
  split at h
  · exact absurd (by decide) h
  · omega
theorem j5w(t:ByteArray×Bool)(k:Nat)(hs:t.1.size≤maxLen)(hk:k≤6)(b:Nat)(w:World)(hb:w.heap[b]? =some (.cells [S t.1, .bool t.2].toArray 260 (0,0))):
  Cl 172 #[.pointer (some ⟨b,0,none⟩),I k] w fun e w'=>e= .returned (I (z02 t.1 0 k).1)∧Go.Eng.Touch (· =b) w w'∧w'.heap[b]? =some (.cells [S (tkS t k).1, .bool (tkS t k).2].toArray 260 (0,0)):=by
 obtain⟨s,bad⟩:=t
 dsimp only at hs hb⊢
 refine z4n [.a (.ptr 0 0), .a (.v (I k))] hb Tryz.func172 rfl rfl rfl rfl<|QA<|QC<|QE 1 [0,1] rfl<|Qw<|QA<|QC<|Yy 5 rfl<|Qc (.a (.v _)) rfl zhg (fun hg E w1 hm=>by exact zc7 s 0 k hs _) ?_
 refine QE 5 [0,1,5,6] rfl<|Qw<|QA<|QA<|QC<|QE 2 [0,1,5,17] rfl<|Qw<|QX rfl (fun h=> ?_) fun h=> ?_
 ·
  refine QA<|QC<|Yy 3 rfl<|Qs rfl<|z07 [] rfl<|Qw<|QA<|QC<|QE 1 [4] rfl<|Qw<|QO<|QL<|Qb rfl fun E w' hm=> ?_
  obtain⟨h1,h2⟩:=zid hm lr rfl rfl rfl
  refine⟨?_,h1, ?_⟩
  · rw[zmi h];rfl
  · rw[h2,tkS,if_pos h];rfl
 ·
  refine QI<|Qw<|QA<|QC<|Yy 6 rfl ?_
  have hf:=zkl (s:=s) (k:=k) (by simp[h])
  refine QY rfl (j3s tok rfl (fun hg=>by simp only[Option.getD];omega)) ?_
  refine Yy 2 rfl<|Qs rfl<|z07 [5] rfl<|Qw<|QA<|QC<|QE 2 [4] rfl<|Qw<|QO<|z0h tok rfl ?_
  rw[show s.extract ((some (k:Int)).getD 0).toNat ((none:Option Int).getD (s.size:Int)).toNat=z1r s k from rfl]
  intro E w' hm _
  obtain⟨h1,h2⟩:=zid hm lr rfl rfl rfl
  refine⟨rfl,h1, ?_⟩
  rw[h2,tkS,if_neg (by simp[h])];rfl
section
variable{o:Oper}{n:Nat}{F:z05}{C:List Nat}{O:Go.Eng.Own}{nl:Nat}{V:Vw}
theorem z7n{p:List (Nat×Bool)}(l:Nat)(t:ByteArray×Bool)(k:Nat)(K:Int)(hK:(k:Int)=K)(t':ByteArray×Bool)(ht:tkS t k=t')(ss:List SV)(hv:z4i F p o.op=some (172,ss))(hss: ∀E,ss.map (SV.den E)=[.pointer (some ⟨E.ρ l,0,none⟩),I K])
  (hl:lk O l=some (.lit [.v (S t.1), .v (.bool t.2)] 260)) (hs:t.1.size≤maxLen) (hk:k≤6):
  StepTo Tryz.prog o p n F C O nl V (σ:=Unit) (fun _=>True) (fun _=> .a (.v (I (z02 t.1 0 K).1))) (fun _=>(l, .lit [.v (S t'.1), .v (.bool t'.2)] 260)::O) nl (fun _=>V):=by
 subst hK ht
 refine zky (fun _=>True) (fun _=> .a (.v (I (z02 t.1 0 k).1))) l 260 (fun _=>[.v (S (tkS t k).1), .v (.bool (tkS t k).2)]) hv j18 hl (fun _=>rfl) (fun _=>rfl) ?_
 intro E w hm hb
 rw[hss E]
 refine(j5w t k hs hk (E.ρ l) w hb).mono ?_
 rintro e w' ⟨rfl,h1,h2⟩
 exact⟨(),rfl,h1,h2,trivial⟩
end
theorem z8o(s:ByteArray)(a k:Int):0≤(z02 s a k).1∧(z02 s a k).1≤1099511627776:=by
 unfold z02
 split
 · decide
 ·
  split
  · decide
  ·
   split
   · decide
   ·
    constructor
    · exact Int.natCast_nonneg _
    · dsimp only;omega
theorem zpx{n:Int}(h0:0≤n)(h1:n≤127):IntKind.i8.wrap n=n:=by
 simp[IntKind.wrap,IntKind.bits,IntKind.signed];omega
def z1y(s:ByteArray):Cmd×(ByteArray×Bool):=
 if min (z02 s 0 1).1 127=2 then
  (⟨min (z02 s 0 1).1 127,(z02 (tkS (s,false) 1).1 0 6).1,(z02 (tkS (tkS (s,false) 1) 6).1 0 4).1,0,0,(z02 (tkS (tkS (tkS (s,false) 1) 6) 4).1 0 1).1,(z02 (tkS (tkS (tkS (tkS (s,false) 1) 6) 4) 1).1 0 1).1,
   min (z02 (tkS (tkS (tkS (tkS (tkS (s,false) 1) 6) 4) 1) 1).1 0 1).1 127⟩,tkS (tkS (tkS (tkS (tkS (tkS (s,false) 1) 6) 4) 1) 1) 1)
 else if min (z02 s 0 1).1 127=3 then
  (⟨min (z02 s 0 1).1 127,(z02 (tkS (s,false) 1).1 0 6).1,(z02 (tkS (tkS (s,false) 1) 6).1 0 4).1,0,0,(z02 (tkS (tkS (tkS (s,false) 1) 6) 4).1 0 1).1,(z02 (tkS (tkS (tkS (tkS (s,false) 1) 6) 4) 1).1 0 1).1,0⟩,
   tkS (tkS (tkS (tkS (tkS (s,false) 1) 6) 4) 1) 1)
 else if min (z02 s 0 1).1 127=4 then
  (⟨min (z02 s 0 1).1 127,(z02 (tkS (s,false) 1).1 0 6).1,(z02 (tkS (tkS (s,false) 1) 6).1 0 4).1,(z02 (tkS (tkS (tkS (s,false) 1) 6) 4).1 0 6).1,(z02 (tkS (tkS (tkS (tkS (s,false) 1) 6) 4) 6).1 0 6).1,0,0,0⟩,
   tkS (tkS (tkS (tkS (tkS (s,false) 1) 6) 4) 6) 6)
 else if min (z02 s 0 1).1 127=5 then
  (⟨min (z02 s 0 1).1 127,(z02 (tkS (s,false) 1).1 0 6).1,(z02 (tkS (tkS (s,false) 1) 6).1 0 4).1,(z02 (tkS (tkS (tkS (s,false) 1) 6) 4).1 0 6).1,0,0,0,0⟩,tkS (tkS (tkS (tkS (s,false) 1) 6) 4) 6)
 else(⟨min (z02 s 0 1).1 127,(z02 (tkS (s,false) 1).1 0 6).1,(z02 (tkS (tkS (s,false) 1) 6).1 0 4).1,0,0,0,0,0⟩,tkS (tkS (tkS (s,false) 1) 6) 4)
def rdB(x:Cmd×(ByteArray×Bool)):Bool:= !((x.2.2|| !(x.2.1.toList==ByteArray.empty.toList))|| !(z57 x.1))
def j4g:Cmd:=⟨0,0,0,0,0,0,0,0⟩
def zot(s:ByteArray):Cmd:=if rdB (z1y s)=true then(z1y s).1 else j4g
def zkj(s:ByteArray):Int:=if rdB (z1y s)=true then 0 else 100
theorem zj9{s:ByteArray}{c:Cmd}{t:ByteArray×Bool}(hp:z1y s=(c,t))(h:((t.2|| !(t.1.toList==ByteArray.empty.toList))|| !z57 c)=true):zot s=j4g∧zkj s=100:=by
 rw[zot,zkj,hp,rdB,h];exact⟨rfl,rfl⟩
theorem zat{s:ByteArray}{c:Cmd}{t:ByteArray×Bool}(hp:z1y s=(c,t))(h:((t.2|| !(t.1.toList==ByteArray.empty.toList))|| !z57 c)=false):zot s=c∧zkj s=0:=by
 rw[zot,zkj,hp,rdB,h];exact⟨rfl,rfl⟩
theorem zrl(s:ByteArray)(hs:s.size≤maxLen)(w:World):Rt 159 #[S s] w (.tuple #[(zot s).val,I (zkj s)]):=by
 have hle1:=z46 (s,false) 1
 have hn1:=z8o s 0 1
 obtain⟨t1,ht1⟩: ∃t,tkS (s,false) 1=t:=⟨_,rfl⟩
 rw[ht1]at hle1
 have hle2:=z46 t1 6
 obtain⟨t2,ht2⟩: ∃t,tkS t1 6=t:=⟨_,rfl⟩
 rw[ht2]at hle2
 have hle3:=z46 t2 4
 obtain⟨t3,ht3⟩: ∃t,tkS t2 4=t:=⟨_,rfl⟩
 rw[ht3]at hle3
 dsimp only at hle1
 obtain⟨n1,hn⟩: ∃n,(z02 s 0 1).1=n:=⟨_,rfl⟩
 refine Qf [.a (.v (S s))] Tryz.func159 rfl<|QA<|QC<|QE 2 [0,2] rfl<|Qw<|QA<|QC<|QE 4 [2,4] rfl<|Qw<|QA<|QC<|Yy 1 rfl<|QZ rfl (z7n 1 (s,false) 1 1 rfl t1 ht1 _ rfl (fun E=>rfl) rfl hs (by omega)) fun _ _=>QE 1 [2,4,5] rfl<|Qw<|QA<|QC<|Yy 1 rfl ?_
 obtain⟨K,hK⟩: ∃K,min n1 127=K:=⟨_,rfl⟩
 have hk8:IntKind.i8.wrap K=K:=zpx (by omega) (by omega)
 rw[hn]
 refine QY rfl (j2f rfl)<|Yy 2 rfl ?_
 rw[show(bif false then max n1 127 else min n1 127)=K from hK,hk8]
 refine QZ rfl (z7n 1 t1 6 6 rfl t2 ht2 _ rfl (fun E=>rfl) rfl (by omega) (by omega)) fun _ _=>Yy 1 rfl<|QZ rfl (z7n 1 t2 4 4 rfl t3 ht3 _ rfl (fun E=>rfl) rfl (by omega) (by omega)) fun _ _=>Yy 2 rfl<|Qs rfl<|z07 [2,4,6] rfl<|Qw<|QA<|QA<|QC<|QE 2 [2,4,6,21] rfl<|Qw<|QJ<|QA<|QA<|QC<|QE 2 [2,4,6,21,22] rfl<|Qw<|Qn rfl (fun h=> ?_) fun h=> ?_
 ·
  refine QI<|Qw<|Qn rfl (fun h2=> ?_) fun h2=> ?_
  ·
   refine QA<|QC<|Yy 1 rfl ?_
   have e:K=2:=by simpa using h2
   have hlet4:=z46 t3 1
   obtain⟨t4,ht4⟩: ∃t,tkS t3 1=t:=⟨_,rfl⟩
   rw[ht4]at hlet4
   refine QZ rfl (z7n 1 t3 1 1 rfl t4 ht4 _ rfl (fun E=>rfl) rfl (by omega) (by omega)) fun _ _=>Yy 1 rfl ?_
   have hlet5:=z46 t4 1
   obtain⟨t5,ht5⟩: ∃t,tkS t4 1=t:=⟨_,rfl⟩
   rw[ht5]at hlet5
   refine QZ rfl (z7n 1 t4 1 1 rfl t5 ht5 _ rfl (fun E=>rfl) rfl (by omega) (by omega)) fun _ _=>Yy 2 rfl<|Qs rfl<|Yy 2 rfl<|Qs rfl<|z07 [2,4,6] rfl<|Qw<|QA<|QC<|QE 3 [2,4,6,35] rfl<|Qw<|Qn rfl (fun h=> ?_) fun h=> ?_
   ·
    refine QC<|Yy 1 rfl ?_
    obtain⟨m,hmv⟩: ∃m,(z02 t5.1 0 1).1=m:=⟨_,rfl⟩
    have hm1:=z8o t5.1 0 1
    rw[hmv]at hm1
    obtain⟨M,hM⟩: ∃M,min m 127=M:=⟨_,rfl⟩
    have hm8:IntKind.i8.wrap M=M:=zpx (by omega) (by omega)
    have hlet6:=z46 t5 1
    obtain⟨t6,ht6⟩: ∃t,tkS t5 1=t:=⟨_,rfl⟩
    rw[ht6]at hlet6
    refine QZ rfl (z7n 1 t5 1 1 rfl t6 ht6 _ rfl (fun E=>rfl) rfl (by omega) (by omega)) fun _ _=> ?_
    rw[hmv]
    refine QY rfl (j2f rfl)<|Yy 2 rfl<|Qs rfl<|z07 [2,4,6] rfl<|QM<|Qw<|QA<|QA<|QC<|Yy 13 rfl ?_
    rw[show(bif false then max m 127 else min m 127)=M from hM,hm8]
    refine Qc (.a (.v _)) rfl zed (fun hg E w1 hm=>by exact z9q ⟨K,(z02 t1.1 0 6).1,(z02 t2.1 0 4).1,0,0,(z02 t3.1 0 1).1,(z02 t4.1 0 1).1,M⟩ _) ?_
    refine QE 2 [2,6,68] rfl<|Qw<|Qn rfl (fun h=> ?_) fun h=> ?_
    ·
     refine QA<|QC<|Yy 1 rfl<|Qs rfl<|QE 1 [2,3] rfl<|Qw<|QO<|QL<|Qb rfl fun E w' hm=>⟨?_,hm.below lr⟩
     obtain⟨r1,r2⟩:=zj9 (s:=s) (c:=⟨K,(z02 t1.1 0 6).1,(z02 t2.1 0 4).1,0,0,(z02 t3.1 0 1).1,(z02 t4.1 0 1).1,M⟩) (t:=t6) (by rw[z1y,hn,hK,if_pos e,ht1,ht2,ht3,ht4,ht5,hmv,hM,ht6]) h
     rw[r1,r2];rfl
    ·
     refine QI<|Qw<|QA<|QC<|Yy 1 rfl<|Qs rfl<|QE 1 [2,3] rfl<|Qw<|QO<|Qb rfl fun E w' hm=>⟨?_,hm.below lr⟩
     obtain⟨r1,r2⟩:=zat (s:=s) (c:=⟨K,(z02 t1.1 0 6).1,(z02 t2.1 0 4).1,0,0,(z02 t3.1 0 1).1,(z02 t4.1 0 1).1,M⟩) (t:=t6) (by rw[z1y,hn,hK,if_pos e,ht1,ht2,ht3,ht4,ht5,hmv,hM,ht6]) h
     rw[r1,r2];rfl
   ·
    exact absurd (h.symm.trans h2) (by decide)
  ·
   exact absurd (h.symm.trans h2) (by decide)
 ·
  refine QC<|QE 2 [2,4,6,21,22] rfl<|Qw<|Qn rfl (fun h2=> ?_) fun h2=> ?_
  ·
   refine QA<|QC<|Yy 1 rfl ?_
   have e:K=3:=by simpa using h2
   have hlet4:=z46 t3 1
   obtain⟨t4,ht4⟩: ∃t,tkS t3 1=t:=⟨_,rfl⟩
   rw[ht4]at hlet4
   refine QZ rfl (z7n 1 t3 1 1 rfl t4 ht4 _ rfl (fun E=>rfl) rfl (by omega) (by omega)) fun _ _=>Yy 1 rfl ?_
   have hlet5:=z46 t4 1
   obtain⟨t5,ht5⟩: ∃t,tkS t4 1=t:=⟨_,rfl⟩
   rw[ht5]at hlet5
   refine QZ rfl (z7n 1 t4 1 1 rfl t5 ht5 _ rfl (fun E=>rfl) rfl (by omega) (by omega)) fun _ _=>Yy 2 rfl<|Qs rfl<|Yy 2 rfl<|Qs rfl<|z07 [2,4,6] rfl<|Qw<|QA<|QC<|QE 3 [2,4,6,35] rfl<|Qw<|Qn rfl (fun h=> ?_) fun h=> ?_
   ·
    rw[e]at h;cases h
   ·
    refine QI<|QM<|Qw<|QA<|QA<|QC<|Yy 13 rfl<|Qc (.a (.v _)) rfl zed (fun hg E w1 hm=>by exact z9q ⟨K,(z02 t1.1 0 6).1,(z02 t2.1 0 4).1,0,0,(z02 t3.1 0 1).1,(z02 t4.1 0 1).1,0⟩ _) ?_
    refine QE 2 [2,6,68] rfl<|Qw<|Qn rfl (fun h=> ?_) fun h=> ?_
    ·
     refine QA<|QC<|Yy 1 rfl<|Qs rfl<|QE 1 [2,3] rfl<|Qw<|QO<|QL<|Qb rfl fun E w' hm=>⟨?_,hm.below lr⟩
     obtain⟨r1,r2⟩:=zj9 (s:=s) (c:=⟨K,(z02 t1.1 0 6).1,(z02 t2.1 0 4).1,0,0,(z02 t3.1 0 1).1,(z02 t4.1 0 1).1,0⟩) (t:=t5) (by rw[z1y,hn,hK,if_neg (by omega),if_pos e,ht1,ht2,ht3,ht4,ht5]) h
     rw[r1,r2];rfl
    ·
     refine QI<|Qw<|QA<|QC<|Yy 1 rfl<|Qs rfl<|QE 1 [2,3] rfl<|Qw<|QO<|Qb rfl fun E w' hm=>⟨?_,hm.below lr⟩
     obtain⟨r1,r2⟩:=zat (s:=s) (c:=⟨K,(z02 t1.1 0 6).1,(z02 t2.1 0 4).1,0,0,(z02 t3.1 0 1).1,(z02 t4.1 0 1).1,0⟩) (t:=t5) (by rw[z1y,hn,hK,if_neg (by omega),if_pos e,ht1,ht2,ht3,ht4,ht5]) h
     rw[r1,r2];rfl
  ·
   refine QA<|QA<|QC<|QE 2 [2,4,6,21,41] rfl<|Qw<|Qn rfl (fun h4=> ?_) fun h4=> ?_
   ·
    refine QI<|Qw<|Qn rfl (fun h5=> ?_) fun h5=> ?_
    ·
     refine QA<|QC<|Yy 1 rfl ?_
     have f2: ¬K=2:=by simpa using h
     have f3: ¬K=3:=by simpa using h2
     have e:K=4:=by simpa using h4
     have hlet4:=z46 t3 6
     obtain⟨t4,ht4⟩: ∃t,tkS t3 6=t:=⟨_,rfl⟩
     rw[ht4]at hlet4
     refine QZ rfl (z7n 1 t3 6 6 rfl t4 ht4 _ rfl (fun E=>rfl) rfl (by omega) (by omega)) fun _ _=>Yy 1 rfl<|Qs rfl<|z07 [2,4,6] rfl<|Qw<|QA<|QC<|QE 3 [2,4,6,49] rfl<|Qw<|Qn rfl (fun h=> ?_) fun h=> ?_
     ·
      refine QC<|Yy 1 rfl ?_
      have hlet5:=z46 t4 6
      obtain⟨t5,ht5⟩: ∃t,tkS t4 6=t:=⟨_,rfl⟩
      rw[ht5]at hlet5
      refine QZ rfl (z7n 1 t4 6 6 rfl t5 ht5 _ rfl (fun E=>rfl) rfl (by omega) (by omega)) fun _ _=>Yy 1 rfl<|Qs rfl<|z07 [2,4,6] rfl<|QM<|Qw<|QA<|QA<|QC<|Yy 13 rfl<|Qc (.a (.v _)) rfl zed (fun hg E w1 hm=>by exact z9q ⟨K,(z02 t1.1 0 6).1,(z02 t2.1 0 4).1,(z02 t3.1 0 6).1,(z02 t4.1 0 6).1,0,0,0⟩ _) ?_
      refine QE 2 [2,6,68] rfl<|Qw<|Qn rfl (fun h=> ?_) fun h=> ?_
      ·
       refine QA<|QC<|Yy 1 rfl<|Qs rfl<|QE 1 [2,3] rfl<|Qw<|QO<|QL<|Qb rfl fun E w' hm=>⟨?_,hm.below lr⟩
       obtain⟨r1,r2⟩:=zj9 (s:=s) (c:=⟨K,(z02 t1.1 0 6).1,(z02 t2.1 0 4).1,(z02 t3.1 0 6).1,(z02 t4.1 0 6).1,0,0,0⟩) (t:=t5) (by rw[z1y,hn,hK,if_neg f2,if_neg f3,if_pos e,ht1,ht2,ht3,ht4,ht5]) h
       rw[r1,r2];rfl
      ·
       refine QI<|Qw<|QA<|QC<|Yy 1 rfl<|Qs rfl<|QE 1 [2,3] rfl<|Qw<|QO<|Qb rfl fun E w' hm=>⟨?_,hm.below lr⟩
       obtain⟨r1,r2⟩:=zat (s:=s) (c:=⟨K,(z02 t1.1 0 6).1,(z02 t2.1 0 4).1,(z02 t3.1 0 6).1,(z02 t4.1 0 6).1,0,0,0⟩) (t:=t5) (by rw[z1y,hn,hK,if_neg f2,if_neg f3,if_pos e,ht1,ht2,ht3,ht4,ht5]) h
       rw[r1,r2];rfl
     ·
      exact absurd (h.symm.trans h4) (by decide)
    ·
     exact absurd (h5.symm.trans h4) (by decide)
   ·
    refine QC<|QE 2 [2,4,6,41] rfl<|Qw<|Qn rfl (fun h5=> ?_) fun h5=> ?_
    ·
     refine QA<|QC<|Yy 1 rfl ?_
     have f2: ¬K=2:=by simpa using h
     have f3: ¬K=3:=by simpa using h2
     have e:K=5:=by simpa using h5
     have hlet4:=z46 t3 6
     obtain⟨t4,ht4⟩: ∃t,tkS t3 6=t:=⟨_,rfl⟩
     rw[ht4]at hlet4
     refine QZ rfl (z7n 1 t3 6 6 rfl t4 ht4 _ rfl (fun E=>rfl) rfl (by omega) (by omega)) fun _ _=>Yy 1 rfl<|Qs rfl<|z07 [2,4,6] rfl<|Qw<|QA<|QC<|QE 3 [2,4,6,49] rfl<|Qw<|Qn rfl (fun h=> ?_) fun h=> ?_
     ·
      rw[e]at h;cases h
     ·
      refine QI<|QM<|Qw<|QA<|QA<|QC<|Yy 13 rfl<|Qc (.a (.v _)) rfl zed (fun hg E w1 hm=>by exact z9q ⟨K,(z02 t1.1 0 6).1,(z02 t2.1 0 4).1,(z02 t3.1 0 6).1,0,0,0,0⟩ _) ?_
      refine QE 2 [2,6,68] rfl<|Qw<|Qn rfl (fun h=> ?_) fun h=> ?_
      ·
       refine QA<|QC<|Yy 1 rfl<|Qs rfl<|QE 1 [2,3] rfl<|Qw<|QO<|QL<|Qb rfl fun E w' hm=>⟨?_,hm.below lr⟩
       obtain⟨r1,r2⟩:=zj9 (s:=s) (c:=⟨K,(z02 t1.1 0 6).1,(z02 t2.1 0 4).1,(z02 t3.1 0 6).1,0,0,0,0⟩) (t:=t4) (by rw[z1y,hn,hK,if_neg f2,if_neg f3,if_neg (by omega),if_pos e,ht1,ht2,ht3,ht4]) h
       rw[r1,r2];rfl
      ·
       refine QI<|Qw<|QA<|QC<|Yy 1 rfl<|Qs rfl<|QE 1 [2,3] rfl<|Qw<|QO<|Qb rfl fun E w' hm=>⟨?_,hm.below lr⟩
       obtain⟨r1,r2⟩:=zat (s:=s) (c:=⟨K,(z02 t1.1 0 6).1,(z02 t2.1 0 4).1,(z02 t3.1 0 6).1,0,0,0,0⟩) (t:=t4) (by rw[z1y,hn,hK,if_neg f2,if_neg f3,if_neg (by omega),if_pos e,ht1,ht2,ht3,ht4]) h
       rw[r1,r2];rfl
    ·
     refine QI<|QM<|Qw<|QA<|QA<|QC<|Yy 13 rfl ?_
     have f2: ¬K=2:=by simpa using h
     have f3: ¬K=3:=by simpa using h2
     have f4: ¬K=4:=by simpa using h4
     have f5: ¬K=5:=by simpa using h5
     refine Qc (.a (.v _)) rfl zed (fun hg E w1 hm=>by exact z9q ⟨K,(z02 t1.1 0 6).1,(z02 t2.1 0 4).1,0,0,0,0,0⟩ _) ?_
     refine QE 2 [2,6,68] rfl<|Qw<|Qn rfl (fun h=> ?_) fun h=> ?_
     ·
      refine QA<|QC<|Yy 1 rfl<|Qs rfl<|QE 1 [2,3] rfl<|Qw<|QO<|QL<|Qb rfl fun E w' hm=>⟨?_,hm.below lr⟩
      obtain⟨r1,r2⟩:=zj9 (s:=s) (c:=⟨K,(z02 t1.1 0 6).1,(z02 t2.1 0 4).1,0,0,0,0,0⟩) (t:=t3) (by rw[z1y,hn,hK,if_neg f2,if_neg f3,if_neg f4,if_neg f5,ht1,ht2,ht3]) h
      rw[r1,r2];rfl
     ·
      refine QI<|Qw<|QA<|QC<|Yy 1 rfl<|Qs rfl<|QE 1 [2,3] rfl<|Qw<|QO<|Qb rfl fun E w' hm=>⟨?_,hm.below lr⟩
      obtain⟨r1,r2⟩:=zat (s:=s) (c:=⟨K,(z02 t1.1 0 6).1,(z02 t2.1 0 4).1,0,0,0,0,0⟩) (t:=t3) (by rw[z1y,hn,hK,if_neg f2,if_neg f3,if_neg f4,if_neg f5,ht1,ht2,ht3]) h
      rw[r1,r2];rfl
def drB(s:ByteArray):Bool:= !(s.toList==ByteArray.empty.toList)&&(ofE 5 s==0&&zkj (ofL 5 s)==0)
def drC(s:ByteArray):Cmd:=if drB s=true then zot (ofL 5 s)else j4g
def drS(s:ByteArray):ByteArray:=if drB s=true then ofL 5 s else ByteArray.empty
def drE(s:ByteArray):Int:=if(s.toList==ByteArray.empty.toList)=true∨drB s=true then 0 else 50
abbrev zm3(c:Cmd)(s:ByteArray)(ok:Bool)(lv:Value):List Value:=c.cells++[S s, .bool ok,lv]
abbrev z89(c:Cmd)(s:ByteArray)(ok:Bool)(a:A):List A:=c.cells.map .v++[.v (S s), .v (.bool ok),a]
theorem zxf(k:Int)(s:ByteArray)(hs:s.size≤maxLen):(ofL k s).size≤maxLen:=by
 rw[ofL]
 split
 · rw[z2v,ByteArray.size_extract];omega
 · exact Nat.zero_le _
theorem j0z(s:ByteArray)(hs:s.size≤maxLen)(c0:Cmd)(s0:ByteArray)(ok0:Bool)(lv:Value)(b:Nat)(w:World)(hb:w.heap[b]? =some (.cells (zm3 c0 s0 ok0 lv).toArray 227 (0,0))):
  Cl 143 #[.pointer (some ⟨b,0,none⟩),S s] w fun e w'=>e= .returned (I (drE s))∧Go.Eng.Touch (· =b) w w'∧w'.heap[b]? =some (.cells (zm3 (drC s) (drS s) (drB s) lv).toArray 227 (0,0)):=by
 have hos:=zxf 5 s hs
 refine z4n [.a (.ptr 0 0), .a (.v (S s))] hb Tryz.func143 rfl rfl rfl rfl<|QA<|QC<|QE 1 [0,1] rfl<|Qw<|QA<|QC<|Yy 4 rfl<|Qs rfl<|z07 [0,1] rfl<|Qw<|QA<|QA<|QC<|QE 2 [0,1,13] rfl<|Qw<|Qn rfl (fun h=> ?_) fun h=> ?_
 ·
  refine QA<|QC<|QE 1 [4] rfl<|Qw<|QO<|QL<|Qb rfl fun E w' hm=> ?_
  obtain⟨h1,h2⟩:=zid hm lr rfl rfl rfl
  have hem:(s.toList==ByteArray.empty.toList)=true:=h
  have hB:drB s=false:=by rw[drB,hem];rfl
  refine⟨?_,h1, ?_⟩
  · rw[drE,if_pos (.inl hem)];rfl
  · rw[h2,drC,drS,hB];rfl
 ·
  refine QI<|Qw<|QA<|QC<|Yy 1 rfl ?_
  have hem:(s.toList==ByteArray.empty.toList)=false:=h
  have no: ∀{x:Bool},drB s=x→(ofE 5 s==0&&zkj (ofL 5 s)==0)=x:=fun hx=>by rw[drB,hem]at hx;simpa using hx
  clear h
  refine Qc (.a (.v _)) rfl zvb (fun hg E w1 hm=>by exact zo4 5 s hs _) ?_
  refine QE 5 [0,5,6] rfl<|Qw<|QA<|QA<|QC<|QE 2 [0,5,20] rfl<|Qw<|QX rfl (fun h=> ?_) fun h=> ?_
  ·
   refine QA<|QC<|QE 1 [4] rfl<|Qw<|QO<|QL<|Qb rfl fun E w' hm=> ?_
   obtain⟨h3,h4⟩:=zid hm lr rfl rfl rfl
   have hB:drB s=false:=by rw[drB,hem];simp[h]
   have hE:drE s=50:=by rw[drE,if_neg (by rw[hem,hB];decide)]
   refine⟨?_,h3, ?_⟩
   · rw[hE];rfl
   · rw[h4,drC,drS,hB];rfl
  ·
   refine QI<|Qw<|QA<|QC<|Yy 1 rfl ?_
   have ho:=h
   clear h
   refine Qc (.a (.v _)) rfl j35 (fun hg E w1 hm=>by exact zrl (ofL 5 s) hos _) ?_
   refine Yy 4 rfl<|Qs rfl<|QE 1 [0,5,6,7] rfl<|Qw<|QA<|QA<|QC<|QE 2 [0,5,7,27] rfl<|Qw<|QX rfl (fun h=> ?_) fun h=> ?_
   ·
    refine QA<|QC<|QE 1 [4] rfl<|Qw<|QO<|QL<|Qb rfl fun E w' hm=> ?_
    obtain⟨h3,h4⟩:=zid hm lr rfl rfl rfl
    have hB:drB s=false:=by rw[drB,hem];simp[h]
    have hE:drE s=50:=by rw[drE,if_neg (by rw[hem,hB];decide)]
    refine⟨?_,h3, ?_⟩
    · rw[hE];rfl
    · rw[h4,drC,drS,hB];rfl
   ·
    refine QI<|Qw<|QA<|QC<|Yy 6 rfl<|Qs rfl<|z07 [] rfl<|Qw<|QA<|QC<|QE 1 [4] rfl<|Qw<|QO<|Qb rfl fun E w' hm=> ?_
    obtain⟨h3,h4⟩:=zid hm lr rfl rfl rfl
    have hB:drB s=true:=by rw[drB,hem,ho,h];rfl
    have hE:drE s=0:=by rw[drE,if_pos (.inr hB)]
    refine⟨?_,h3, ?_⟩
    · rw[hE];rfl
    · rw[h4,drC,drS,hB];rfl
section
variable{o:Oper}{n:Nat}{F:z05}{C:List Nat}{O:Go.Eng.Own}{nl:Nat}{V:Vw}
theorem zzq{p:List (Nat×Bool)}(l:Nat)(s:ByteArray)(c0:Cmd)(s0:ByteArray)(ok0:Bool)(a:A)(ha:a.ok nl=true)(ss:List SV)(hv:z4i F p o.op=some (143,ss))(hss: ∀E,ss.map (SV.den E)=[.pointer (some ⟨E.ρ l,0,none⟩),S s])
  (hl:lk O l=some (.lit (z89 c0 s0 ok0 a) 227)) (hs:s.size≤maxLen):
  StepTo Tryz.prog o p n F C O nl V (σ:=Unit) (fun _=>True) (fun _=> .a (.v (I (drE s)))) (fun _=>(l, .lit (z89 (drC s) (drS s) (drB s) a) 227)::O) nl (fun _=>V):=by
 refine zky (fun _=>True) (fun _=> .a (.v (I (drE s)))) l 227 (fun _=>z89 (drC s) (drS s) (drB s) a) hv j0x hl (fun _=>by simp only[z89,Cmd.cells,List.map_cons,List.map_nil,List.cons_append,List.nil_append,z0z,ha];rfl) (fun _=>rfl) ?_
 intro E w hm hb
 rw[hss E]
 refine(j0z s hs c0 s0 ok0 (a.den E) (E.ρ l) w hb).mono ?_
 rintro e w' ⟨rfl,h1,h2⟩
 exact⟨(),rfl,h1,h2,trivial⟩
end
end Go.Proofs.YtkoiogkdiifgfaaGreat
