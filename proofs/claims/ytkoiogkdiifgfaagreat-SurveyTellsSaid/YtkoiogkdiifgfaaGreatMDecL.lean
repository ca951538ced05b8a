import Derived.Test.YtkoiogkdiifgfaaGreatMGeo
/- Commands put and read back: the plain law. -/
set_option linter.unusedVariables false
set_option linter.unusedSimpArgs false
set_option maxRecDepth 100000
namespace Go.Proofs.YtkoiogkdiifgfaaGreat
open Go Go.Eng Go.RowKit
def z8k(c:Cmd):List UInt8:=
 if c.kind=2 then leB 1 c.lo++(leB 1 c.hi++(leB 1 c.mode++[]))
 else if c.kind=3 then leB 1 c.lo++(leB 1 c.hi++[])
 else if c.kind=4 then leB 6 c.dead++(leB 6 c.was++[])
 else if c.kind=5 then leB 6 c.dead++[]
 else []
theorem z4s(c:Cmd):z6f c=leB 1 c.kind++(leB 6 c.by_++(leB 4 c.serial++z8k c)):=by
 unfold z6f z8k
 split
 · simp[z3f]
 ·
  split
  · simp[z3f]
  ·
   split
   · simp[z3f]
   · split<;>simp[z3f]
theorem znz(c:Cmd):(z8k c).length≤12:=by
 unfold z8k
 split
 · simp[leB,z0q]
 ·
  split
  · simp[leB,z0q]
  ·
   split
   · simp[leB,z0q]
   · split<;>simp[leB,z0q]
theorem zxs(c:Cmd):11≤(z6f c).length∧(z6f c).length≤23:=by
 have:=znz c
 rw[z4s]
 simp only[List.length_append,leB,z0q]
 omega
theorem zmd{n:Int}{k:Nat}(h:z1k n k=true)(R:List UInt8)(bad:Bool):tkS (z0i (leB k n++R),bad) k=(z0i R,bad):=by
 have:=zd9 n k R
 rw[Int.toNat_natCast]at this
 rw[tkS,if_neg (by rw[z1v h];simp),this]
theorem j4q{c:Cmd}(ok:CmdOk c):z1y (z0i (z6f c))=(c,(z0i [],false)):=by
 have m6:z6c (6:Int).toNat=1099511627776:=by decide
 have m4:z6c (4:Int).toNat=4294967295:=by decide
 have m1:z6c (1:Int).toNat=255:=by decide
 obtain⟨o1,o2,o3,o4,o5,o6,o7,o8,o9,o10,o11,o12⟩:=ok
 have f1: ∀n:Int,0≤n→n≤255→z1k n 1=true:=fun n h1 h2=>by rw[z1k,m1];simp[z0w];omega
 have f6: ∀n:Int,0≤n→n≤1099511627776→z1k n 6=true:=fun n h1 h2=>by rw[z1k,m6];simp[z0w];omega
 have f4: ∀n:Int,0≤n→n≤4294967295→z1k n 4=true:=fun n h1 h2=>by rw[z1k,m4];simp[z0w];omega
 have t1: ∀(n:Int) (R:List UInt8),0≤n→n≤255→tkS (z0i (leB 1 n++R),false) 1=(z0i R,false):=fun n R h1 h2=>zmd (k:=1) (f1 n h1 h2) R false
 have t6: ∀(n:Int) (R:List UInt8),0≤n→n≤1099511627776→tkS (z0i (leB 6 n++R),false) 6=(z0i R,false):=fun n R h1 h2=>zmd (k:=6) (f6 n h1 h2) R false
 have t4: ∀(n:Int) (R:List UInt8),0≤n→n≤4294967295→tkS (z0i (leB 4 n++R),false) 4=(z0i R,false):=fun n R h1 h2=>zmd (k:=4) (f4 n h1 h2) R false
 have g1: ∀(n:Int) (R:List UInt8),0≤n→n≤255→z02 (z0i (leB 1 n++R)) 0 1=(n,0):=fun n R h1 h2=>z1v (f1 n h1 h2) R
 have g6: ∀(n:Int) (R:List UInt8),0≤n→n≤1099511627776→z02 (z0i (leB 6 n++R)) 0 6=(n,0):=fun n R h1 h2=>z1v (f6 n h1 h2) R
 have g4: ∀(n:Int) (R:List UInt8),0≤n→n≤4294967295→z02 (z0i (leB 4 n++R)) 0 4=(n,0):=fun n R h1 h2=>z1v (f4 n h1 h2) R
 have hm:min c.kind 127=c.kind:=by omega
 obtain⟨kind,by_,serial,dead,was,lo,hi,mode⟩:=c
 dsimp only at*
 rw[z1y,z4s,g1 _ _ (by dsimp only;omega) (by dsimp only;omega),t1 _ _ (by dsimp only;omega) (by dsimp only;omega)]
 dsimp only
 rw[g6 _ _ (by omega) (by omega),t6 _ _ (by omega) (by omega)]
 dsimp only
 rw[g4 _ _ (by omega) (by omega),t4 _ _ (by omega) (by omega),hm]
 dsimp only
 unfold z8k
 dsimp only
 split
 ·
  rename_i e
  rw[g1 _ _ (by omega) (by omega),t1 _ _ (by omega) (by omega)]
  dsimp only
  rw[g1 _ _ (by omega) (by omega),t1 _ _ (by omega) (by omega)]
  dsimp only
  rw[g1 _ _ (by omega) (by omega),t1 _ _ (by omega) (by omega),show min mode 127=mode by omega,o11 (by omega) (by omega),o12 (by omega)]
 ·
  rename_i e2
  split
  ·
   rename_i e
   rw[g1 _ _ (by omega) (by omega),t1 _ _ (by omega) (by omega)]
   dsimp only
   rw[g1 _ _ (by omega) (by omega),t1 _ _ (by omega) (by omega),o11 (by omega) (by omega),o12 (by omega),o10 e2]
  ·
   rename_i e3
   obtain⟨o13,o14⟩:=o9 e2 e3
   split
   ·
    rename_i e
    rw[g6 _ _ (by omega) (by omega),t6 _ _ (by omega) (by omega)]
    dsimp only
    rw[g6 _ _ (by omega) (by omega),t6 _ _ (by omega) (by omega),o10 e2,o13,o14]
   ·
    rename_i e4
    split
    ·
     rename_i e
     rw[g6 _ _ (by omega) (by omega),t6 _ _ (by omega) (by omega)]
     dsimp only
     rw[o10 e2,o13,o14,o12 e4]
    ·
     rename_i e5
     rw[o10 e2,o13,o14,o12 e4,o11 e4 e5]
theorem j16{c:Cmd}(h:z57 c=true):zot (z0i (z6f c))=c∧zkj (z0i (z6f c))=0:=
 zat (j4q (zkz h)) (by show((false|| !((z0i []).toList==ByteArray.empty.toList))|| !z57 c)=false;rw[za0,z16,h];rfl)
theorem zok(l:List Cmd): ∀u∈l.flatMap Cmd.cells,u.oneCell'=true:=by
 intro u hu
 simp only[List.mem_flatMap]at hu
 obtain⟨a,_,hu⟩:=hu
 simp only[Cmd.cells,List.mem_cons,List.not_mem_nil,or_false]at hu
 rcases hu with rfl|rfl|rfl|rfl|rfl|rfl|rfl|rfl<;>rfl
def ze9:List ByteArray→List Cmd→List Cmd×Int
 |[],acc=>(acc,0)
 |s::r,acc=>if drE s≠0 then([],drE s)else if drB s=false then(acc,0)else ze9 r (acc++[drC s])
theorem j7r(c:Cmd)(x:ByteArray)(ok:Bool)(lv:Value)(b:Nat)(w:World)(hb:w.heap[b]? =some (.cells (zm3 c x ok lv).toArray 227 (0,0))):
  Rt 144 #[.pointer (some ⟨b,0,none⟩)] w (.bool (!ok)):=by
 refine z4n [.a (.ptr 0 0)] hb Tryz.func144 rfl rfl rfl rfl<|QA<|QC<|QE 1 [0] rfl<|Qw<|QA<|QC<|QE 6 [2] rfl<|Qw<|QO<|Qb rfl fun E w' hm=> ?_
 exact⟨rfl,z3g hb hm lr rfl rfl rfl⟩
def zea(r:List Cmd×Int)(w:World)(e:Ending)(w':World):Prop:=
 (∃v,e= .returned (.tuple #[v,I r.2])∧w'.ownsRow w.heap.size 164 8 v r.1.length (r.1.flatMap Cmd.cells))∧Below w.heap.size w w'
theorem j8r(V:Vw)(sv:Value)(L:List ByteArray)(w:World)(hV:V.le (vw w))(hs0:SlOf V z1a 1 sv L)(hL: ∀s∈L,s.size≤maxLen)(hln:L.length≤1000000):
  Cl 113 #[sv] w (zea (ze9 L []) w):=by
 have hs:=hs0.mono hV
 refine Qf [.a (.v sv)] Tryz.func113 rfl<|QA<|QC<|QE 2 [0] rfl<|Qw<|QA<|QC<|QE 3 [0,4] rfl<|Qw<|QA<|QA<|QC<|Yy 1 rfl<|QY rfl (z0l tok rfl (fun hg=>hs.sl))<|QE 1 [4,10,11,12] rfl<|Qw<|QJ<|z9r 0 10 164 8 rfl rfl<|Ql [4,10,11] [0,1] rfl rfl (σ:=Nat×List Cmd×Cmd×ByteArray×Bool) (fun(k,acc,c,s,ok)=>[(12, .a (.v (I k)))]) (fun(k,acc,c,s,ok)=>[(0, .lit (z89 c s ok (.row 1)) 227),(1, .row 164 8 acc.length (acc.flatMap Cmd.cells))]) (fun(k,acc,c,s,ok)=>k≤L.length∧ze9 L []=ze9 (L.drop k) acc∧acc.length=k) (fun(k,acc,c,s,ok)=>L.length - k) ((0,[],j4g,ByteArray.empty,false)) (⟨by omega,rfl,rfl⟩) ?_
 rintro⟨k,acc,c,s,ok⟩ ⟨hk,heq,hal⟩
 refine QA<|QC<|QE 1 [4,10,11,12,13] rfl<|Qw<|QA<|QX rfl (fun h=> ?_) fun h=> ?_
 ·
  refine QI<|Qw<|QA<|QJ<|QA<|QC ?_
  obtain⟨x,h_x⟩:=hs.at (k:=k) (by omega)
  have hlt_x:=z01 h_x
  refine QY rfl (z0c tok rfl (fun hg=>hs.sl) (fun hg=>⟨by omega,by omega⟩))<|QY rfl (z08 tok (k) 0 (x) rfl (fun hg=>hs) (fun hg=>h_x) rfl rfl)<|QE 1 [4,6,10,11,12] rfl<|Qw<|QA<|QA<|QC<|Yy 2 rfl ?_
  have hx:=hL x (List.mem_of_getElem? h_x)
  rw[z27 h_x,ze9]at heq
  refine QZ rfl (zzq 0 x c s ok (.row 1) rfl _ rfl (fun E=>rfl) rfl hx) fun _ _=>QE 1 [4,7,10,11,12] rfl<|Qw<|QA<|QC<|QE 2 [4,7,10,11,12,20] rfl<|Qw<|QX rfl (fun h=> ?_) fun h=> ?_
  ·
   refine QA<|QC<|QE 3 [2,3] rfl<|Qw<|QO<|QL<|QP<|QL<|QL<|QP<|QL<|Qb rfl fun E w' hm=> ?_
   rw[if_pos h]at heq
   refine⟨⟨_,by rw[heq];rfl, ?_⟩,hm.below lr⟩
   rw[heq]
   exact World.ownsRow_nil _ _ _ _
  ·
   refine QI<|Qw<|QA<|QA<|QC<|Yy 3 rfl ?_
   have he:=h
   clear h
   rw[if_neg (by simp[he])]at heq
   refine Qc (.a (.v _)) rfl j2h (fun hg E w1 hm=>by exact j7r (drC x) (drS x) (drB x) _ _ _ (hm.lit 0 _ _ rfl)) ?_
   refine z07 [4,10,11,12,25] rfl<|Qw<|Qn rfl (fun h=> ?_) fun h=> ?_
   ·
    refine QN<|QK<|z4p rfl<|QK<|QK<|QQ<|Qw<|QA<|QC<|QE 6 [2,3] rfl<|Qw<|QO<|z0h tok rfl ?_
    have hb:drB x=false:=by simpa using h
    rw[if_pos hb]at heq
    intro E w' hm _
    refine⟨⟨_,by rw[heq];rfl, ?_⟩,hm.below lr⟩
    rw[heq]
    exact hm.rowFresh lr (l:=1) rfl
   ·
    refine QI<|Qw<|zdl [14] ([(0, .lit (z89 (drC x) (drS x) (drB x) (.row 1)) 227)]) mixed (by repeat (first|exact oN|refine oC rfl ?_)) (by first|rfl|simp[z0u,z26]) ?_
    refine QD [0,1,2,3,4,5,6,7,8,9] rfl<|QS<|Qo 10 ?_
    have hb:drB x=true:=by simpa using h
    rw[if_neg (by simp[hb])]at heq
    clear h
    refine Qg 10 rfl rfl (z1q tok 8 rfl rfl rfl) fun _ _=>Qo 11<|Qg 11 rfl rfl (z0g tok ([drC x].flatMap Cmd.cells) rfl (fun E w hm=>z09 (hm.row 2 _ _ _ _ rfl)) (fun _ _ _=>zok _) (by dsimp only;omega)) fun _ _=>Qx [12,13] rfl<|Qo 14<|Qj 14 rfl<|Qe [4,10,11,12] rfl<|QM<|Qw<|QC<|QE 2 [4,10,11,12] rfl<|Qw ?_
    rw[←List.flatMap_append,show acc.length+1=(acc++[drC x]).length by simp,z06 (n:=(k:Int)+1) (by omega) (by omega)]
    refine z00 1 3 rfl<|Qr ((k+1,acc++[drC x],drC x,drS x,drB x))<|⟨by omega,heq,by simp[hal]⟩
 ·
  refine QN<|QK<|QK<|QQ<|Qw<|QA<|QC<|QE 6 [2,3] rfl<|Qw<|QO<|z0h tok rfl ?_
  have hkL:k=L.length:=by omega
  subst hkL
  rw[List.drop_length,ze9]at heq
  intro E w' hm _
  refine⟨⟨_,by rw[heq];rfl, ?_⟩,hm.below lr⟩
  rw[heq]
  exact hm.rowFresh lr (l:=1) rfl
def zv8(r:List Cmd×Int)(x:Value)(V':Vw):Prop:= ∃v,x= .tuple #[v,I r.2]∧SlOf V' Cmd.cells 8 v r.1
theorem zl6{c:Cmd}(h:z57 c=true):cbV c=z0i (z6f c)∧cbE c=0:=by
 rw[cbV,cbE,if_pos h,if_pos h];exact⟨rfl,rfl⟩
end Go.Proofs.YtkoiogkdiifgfaaGreat

/- Commands, the document's: which may be. -/
set_option linter.unusedVariables false
set_option linter.unusedSimpArgs false
set_option maxRecDepth 100000
namespace Go.Proofs.YtkoiogkdiifgfaaGreat
open Go Go.Eng Go.RowKit
theorem zvl{c:Cmd}(h:((zbt c.by_&&decide (1≤c.serial))&&decide (c.serial≤2147483648))=false):z57 c=false:=by rw[z57,h];rfl
theorem j5j(c:Cmd):c.eqB ⟨c.kind,c.by_,c.serial,0,0,0,0,0⟩=z69 c false false false false:=by
 rw[Bool.eq_iff_iff]
 simp[Cmd.eqB,z69,and_assoc,and_comm,and_left_comm]
theorem jav(c:Cmd):((c.eqB ⟨c.kind,c.by_,c.serial,0,0,c.lo,c.hi,c.mode⟩&&ze1 c.lo c.hi)&&(c.mode==1||c.mode==2))=z69 c true true false false:=by
 rw[Bool.eq_iff_iff]
 simp[Cmd.eqB,z69,ze1]
 try omega
theorem j97(c:Cmd):(c.eqB ⟨c.kind,c.by_,c.serial,0,0,c.lo,c.hi,0⟩&&ze1 c.lo c.hi)=z69 c true false false false:=by
 rw[Bool.eq_iff_iff]
 simp[Cmd.eqB,z69,ze1]
 try omega
theorem j9d(c:Cmd):((c.eqB ⟨c.kind,c.by_,c.serial,c.dead,c.was,0,0,0⟩&&zbt c.dead)&&(c.was==0||zbt c.was))=z69 c false false true true:=by
 rw[Bool.eq_iff_iff]
 simp[Cmd.eqB,z69,zbt]
 try omega
theorem j9z(c:Cmd):(c.eqB ⟨c.kind,c.by_,c.serial,c.dead,0,0,0,0⟩&&zbt c.dead)=z69 c false false true false:=by
 rw[Bool.eq_iff_iff]
 simp[Cmd.eqB,z69,zbt]
 try omega
theorem zl2(c:Cmd)(w:World):Rt 185 #[c.val] w (.bool (z57 c)):=by
 refine Qf [.a (.v c.val)] Tryz.func185 rfl<|QA<|QC<|QE 2 [1] rfl<|Qw<|QA<|QA<|QC<|Yy 2 rfl<|Qc (.a (.v _)) rfl zdq (fun hg E w1 hm=>by exact za2 c.by_ _) ?_
 refine QE 11 [1,18] rfl<|Qw<|QX rfl (fun h=> ?_) fun h=> ?_
 ·
  refine QA<|QC<|QE 1 [2] rfl<|Qw<|QO<|QL<|Qb rfl fun E w' hm=>⟨?_,hm.below lr⟩
  rw[zvl]
  · rfl
  ·
   rcases h with(h|h)|h
   · rw[h];rfl
   · rw[decide_eq_false (show¬1≤c.serial by omega),Bool.and_false];rfl
   · rw[decide_eq_false (show¬c.serial≤2147483648 by omega),Bool.and_false]
 ·
  obtain⟨⟨g1,g2⟩,g3⟩:=h
  have hpre:((zbt c.by_&&decide (1≤c.serial))&&decide (c.serial≤2147483648))=true:=by
   rw[g1,decide_eq_true (show 1≤c.serial by omega),decide_eq_true (show c.serial≤2147483648 by omega)];rfl
  refine QI<|Qw<|QA<|QC<|Yy 8 rfl<|Qs rfl<|z07 [1,3] rfl<|Qw<|QA<|QC<|QE 20 [1,3,4] rfl<|Qw<|QA<|QA<|QC<|QE 2 [1,3,4,46] rfl<|Qw<|QJ<|QA<|QA<|QC<|QE 2 [1,3,4,46,47] rfl<|Qw<|Qn rfl (fun h=> ?_) fun h=> ?_
  ·
   refine QI<|Qw<|Qn rfl (fun h2=> ?_) fun h2=> ?_
   ·
    refine QA<|QC<|Yy 2 rfl ?_
    have e:c.kind=0:=by simpa using h
    refine QY rfl (z60 (.bool (c.eqB ⟨c.kind,c.by_,c.serial,0,0,0,0,0⟩)) rfl (fun E w=>zp4 c ⟨c.kind,c.by_,c.serial,0,0,0,0,0⟩ w (.inl rfl)))<|QE 1 [2] rfl<|Qw<|QO<|QP<|QL<|Qb rfl fun E w' hm=>⟨?_,hm.below lr⟩
    rw[z57,hpre,Bool.true_and,if_pos (.inl e),←j5j]
    rfl
   ·
    exact absurd (h.symm.trans h2) (by decide)
  ·
   refine QC<|QE 2 [1,3,4,46,47] rfl<|Qw<|Qn rfl (fun h2=> ?_) fun h2=> ?_
   ·
    refine QA<|QC<|Yy 2 rfl ?_
    have e:c.kind=1:=by simpa using h2
    refine QY rfl (z60 (.bool (c.eqB ⟨c.kind,c.by_,c.serial,0,0,0,0,0⟩)) rfl (fun E w=>zp4 c ⟨c.kind,c.by_,c.serial,0,0,0,0,0⟩ w (.inl rfl)))<|QE 1 [2] rfl<|Qw<|QO<|QP<|QL<|Qb rfl fun E w' hm=>⟨?_,hm.below lr⟩
    rw[z57,hpre,Bool.true_and,if_pos (.inr e),←j5j]
    rfl
   ·
    refine QA<|QC<|QE 2 [1,3,4,46,53] rfl<|Qw<|Qn rfl (fun h3=> ?_) fun h3=> ?_
    ·
     refine QA<|QC<|Yy 3 rfl<|Qs rfl<|z07 [1,3,4] rfl<|Qw<|QA<|QC<|Yy 3 rfl<|Qs rfl<|z07 [1,3,4] rfl<|Qw<|QA<|QC<|Yy 2 rfl ?_
     have e:c.kind=2:=by simpa using h3
     have f: ¬(c.kind=0∨c.kind=1):=by omega
     refine QY rfl (z60 (.bool (c.eqB ⟨c.kind,c.by_,c.serial,0,0,c.lo,c.hi,c.mode⟩)) rfl (fun E w=>zp4 c ⟨c.kind,c.by_,c.serial,0,0,c.lo,c.hi,c.mode⟩ w (.inl rfl)))<|QE 14 [2] rfl<|Qw<|QO<|QP<|QL<|Qb rfl fun E w' hm=>⟨?_,hm.below lr⟩
     rw[z57,hpre,Bool.true_and,if_neg f,if_pos e,←jav]
     rfl
    ·
     refine QA<|QC<|QE 2 [1,3,4,46,77] rfl<|Qw<|Qn rfl (fun h4=> ?_) fun h4=> ?_
     ·
      refine QA<|QC<|Yy 3 rfl<|Qs rfl<|z07 [1,3,4] rfl<|Qw<|QA<|QC<|Yy 2 rfl ?_
      have e:c.kind=3:=by simpa using h4
      have f: ¬(c.kind=0∨c.kind=1):=by omega
      refine QY rfl (z60 (.bool (c.eqB ⟨c.kind,c.by_,c.serial,0,0,c.lo,c.hi,0⟩)) rfl (fun E w=>zp4 c ⟨c.kind,c.by_,c.serial,0,0,c.lo,c.hi,0⟩ w (.inl rfl)))<|QE 4 [2] rfl<|Qw<|QO<|QP<|QL<|Qb rfl fun E w' hm=>⟨?_,hm.below lr⟩
      rw[z57,hpre,Bool.true_and,if_neg f,if_neg (by omega),if_pos e,←j97]
      rfl
     ·
      refine QA<|QC<|QE 2 [1,3,46,88] rfl<|Qw<|Qn rfl (fun h5=> ?_) fun h5=> ?_
      ·
       refine QA<|QC<|Yy 3 rfl<|Qs rfl<|z07 [1,3] rfl<|Qw<|QA<|QC<|Yy 3 rfl<|Qs rfl<|z07 [1,3] rfl<|Qw<|QA<|QC<|Yy 2 rfl ?_
       have e:c.kind=4:=by simpa using h5
       have f: ¬(c.kind=0∨c.kind=1):=by omega
       refine QY rfl (z60 (.bool (c.eqB ⟨c.kind,c.by_,c.serial,c.dead,c.was,0,0,0⟩)) rfl (fun E w=>zp4 c ⟨c.kind,c.by_,c.serial,c.dead,c.was,0,0,0⟩ w (.inl rfl)))<|Yy 3 rfl<|Qc (.a (.v _)) rfl zdq (fun hg E w1 hm=>by exact za2 c.dead _) ?_
       refine Yy 8 rfl<|Qc (.a (.v _)) rfl zdq (fun hg E w1 hm=>by exact za2 c.was _) ?_
       refine QE 3 [2] rfl<|Qw<|QO<|QP<|QL<|Qb rfl fun E w' hm=>⟨?_,hm.below lr⟩
       rw[z57,hpre,Bool.true_and,if_neg f,if_neg (by omega),if_neg (by omega),if_pos e,←j9d]
       rfl
      ·
       refine QA<|QC<|QE 2 [1,3,114] rfl<|Qw<|Qn rfl (fun h6=> ?_) fun h6=> ?_
       ·
        refine QA<|QC<|Yy 3 rfl<|Qs rfl<|z07 [1,3] rfl<|Qw<|QA<|QC<|Yy 2 rfl ?_
        have e:c.kind=5:=by simpa using h6
        have f: ¬(c.kind=0∨c.kind=1):=by omega
        refine QY rfl (z60 (.bool (c.eqB ⟨c.kind,c.by_,c.serial,c.dead,0,0,0,0⟩)) rfl (fun E w=>zp4 c ⟨c.kind,c.by_,c.serial,c.dead,0,0,0,0⟩ w (.inl rfl)))<|Yy 3 rfl<|Qc (.a (.v _)) rfl zdq (fun hg E w1 hm=>by exact za2 c.dead _) ?_
        refine QE 2 [2] rfl<|Qw<|QO<|QP<|QL<|Qb rfl fun E w' hm=>⟨?_,hm.below lr⟩
        rw[z57,hpre,Bool.true_and,if_neg f,if_neg (by omega),if_neg (by omega),if_neg (by omega),if_pos e,←j9z]
        rfl
       ·
        refine QI<|QM<|Qw<|QA<|QC<|QE 1 [2] rfl<|Qw<|QO<|Qb rfl fun E w' hm=>⟨?_,hm.below lr⟩
        rw[z57,hpre,Bool.true_and]
        simp at h h2 h3 h4 h5 h6
        rw[if_neg (by omega),if_neg (by omega),if_neg (by omega),if_neg (by omega),if_neg (by omega)]
        rfl
theorem zd2{n:Int}(h0:0≤n)(h1:n≤255):leB 1 n=[z0v n]∧IntKind.u8.wrap n=(((z0v n).toNat:Nat):Int):=by
 have hk:(z0v n).toNat=n.toNat:=by
  rw[z0v,UInt8.toNat_ofNat'];omega
 refine⟨?_,by rw[hk,IntKind.wrap_u8'];omega⟩
 have e:leB 1 n=[UInt8.ofNat (n.toNat / pw 0%256)]:=rfl
 rw[e,z0v]
 congr 1
 apply UInt8.toNat.inj
 rw[UInt8.toNat_ofNat',UInt8.toNat_ofNat',show pw 0=1 from rfl]
 omega
theorem z1m(c:Cmd)(w:World):Rt 165 #[c.val] w (.tuple #[S (cbV c),I (cbE c)]):=by
 refine Qf [.a (.v c.val)] Tryz.func165 rfl<|QA<|QC<|QE 3 [1] rfl<|Qw<|QA<|QA<|QC<|Yy 1 rfl<|Qc (.a (.v _)) rfl j0y (fun hg E w1 hm=>by exact zl2 c _) ?_
 refine QE 1 [1,8] rfl<|Qw<|QX rfl (fun h=> ?_) fun h=> ?_
 ·
  refine QA<|QC<|QE 2 [2,3] rfl<|Qw<|QO<|QL<|Qb rfl fun E w' hm=>⟨?_,hm.below lr⟩
  rw[cbV,cbE,if_neg (by simp[h]),if_neg (by simp[h])]
  rfl
 ·
  refine QI<|Qw<|QA<|QC<|Yy 3 rfl ?_
  have hc:=h
  clear h
  have ok:=zkz hc
  have okk:=ok.kind
  have oky:=ok.by_
  have oks:=ok.serial
  have okl:=ok.lo
  have okh:=ok.hi
  have okm:=ok.mode
  have okd:=ok.dead
  have okw:=ok.was
  have m6:z6c (6:Int).toNat=1099511627776:=by decide
  have m4:z6c (4:Int).toNat=4294967295:=by decide
  have q6: ∀n:Int,0≤n→n≤1099511627776→z1k n 6=true:=fun n h1 h2=>by rw[z1k,m6];simp[z0w];omega
  have p2:z5o 6 [c.by_]=true:=z8a (q6 _ (by omega) (by omega))
  have p3:z5o 4 [c.serial]=true:=z8a (by rw[z1k,m4];simp[z0w];omega)
  have w6:z0w 6=true:=rfl
  obtain⟨k1,k2⟩:=zd2 (n:=c.kind) (by omega) (by omega)
  obtain⟨B,hB⟩: ∃B,(z3f (z3f [z0v c.kind] 6 [c.by_]) 4 [c.serial])=B:=⟨_,rfl⟩
  have base:z3f (z3f (z3f [] 1 [c.kind]) 6 [c.by_]) 4 [c.serial]=B:=by rw[←hB];simp[z3f,k1]
  have lB:B.length=11:=by rw[←hB];simp[z3f,leB,z0q]
  obtain⟨lo1,lo2⟩:=zd2 (n:=c.lo) (by omega) (by omega)
  obtain⟨hi1,hi2⟩:=zd2 (n:=c.hi) (by omega) (by omega)
  obtain⟨mode1,mode2⟩:=zd2 (n:=c.mode) (by omega) (by omega)
  rw[k2]
  refine QZ rfl (z1q tok 1 rfl rfl rfl) fun _ _=>Yy 2 rfl<|QZ rfl (z1q tok 1 rfl rfl rfl) fun _ _=>QZ rfl (z87 [z0v c.kind] 6 [c.by_] rfl p2 (by simp) (by simp) (fun E w hm=>⟨E.κ 1,E.κ 2,rfl,hm.rowOf 1 rfl (fun _=>rfl),hm.rowOf (enc:=z0a) (L:=[c.by_]) 2 rfl (fun _=>rfl)⟩)) fun _ _=>QE 5 [1,4] rfl<|Qw<|QA<|QC<|Yy 3 rfl<|QZ rfl (z1q tok 1 rfl rfl rfl) fun _ _=> ?_
  have l2:(z3f [z0v c.kind] 6 [c.by_]).length=7:=by simp[z3f,leB,z0q]
  refine QZ rfl (z87 (z3f [z0v c.kind] 6 [c.by_]) 4 [c.serial] rfl p3 (by rw[l2];omega) (by simp) (fun E w hm=>⟨E.κ 3,E.κ 4,rfl,hm.rowOf 3 rfl (fun _=>rfl),hm.rowOf (enc:=z0a) (L:=[c.serial]) 4 rfl (fun _=>rfl)⟩)) fun _ _=> ?_
  refine QE 4 [1,4] rfl<|Qw<|QA<|QA<|QC<|QE 2 [1,4,29] rfl<|Qw<|QJ<|QA<|QC<|QE 2 [1,4,29,30] rfl<|Qw<|Qn rfl (fun h=> ?_) fun h=> ?_
  ·
   have e2:c.kind=2:=by simpa using h
   rw[hB]
   refine QC<|Yy 12 rfl ?_
   rw[lo2,hi2,mode2]
   refine QZ rfl (z1q tok 1 rfl rfl rfl) fun _ _=>QZ rfl (z0g tok ([z0v c.lo,z0v c.hi,z0v c.mode].flatMap z1e) rfl (fun E w hm=>z09 (hm.row 6 _ _ _ _ rfl)) (fun _ _ _=>z5f _) (by dsimp only;omega)) fun _ _=>QE 1 [4] rfl<|QM<|Qw<|QA<|QC<|Yy 1 rfl ?_
   rw[←List.flatMap_append,show B.length+3=(B++[z0v c.lo,z0v c.hi,z0v c.mode]).length by simp,show B++[z0v c.lo,z0v c.hi,z0v c.mode]=z3f B 1 [c.lo,c.hi,c.mode] by simp[z3f,lo1,hi1,mode1]]
   refine QY rfl (z0p (s:= .a (.v (.string (z0i (z6f c))))) 7 rfl rfl (fun v V' hs=>zls tok _ rfl (fun hg=>by rw[z6f,if_pos e2,base];exact hs))) ?_
   refine QE 2 [2,3] rfl<|Qw<|QO<|Qb rfl fun E w' hm=>⟨?_,hm.below lr⟩
   rw[cbV,cbE,if_pos hc,if_pos hc]
   rfl
  ·
   have f2: ¬c.kind=2:=by simpa using h
   rw[hB]
   refine QA<|QC<|QE 2 [1,4,29,46] rfl<|Qw<|Qn rfl (fun h=> ?_) fun h=> ?_
   ·
    refine QC<|Yy 9 rfl ?_
    have e3:c.kind=3:=by simpa using h
    rw[lo2,hi2]
    refine QZ rfl (z1q tok 1 rfl rfl rfl) fun _ _=>QZ rfl (z0g tok ([z0v c.lo,z0v c.hi].flatMap z1e) rfl (fun E w hm=>z09 (hm.row 6 _ _ _ _ rfl)) (fun _ _ _=>z5f _) (by dsimp only;omega)) fun _ _=>QE 1 [4] rfl<|QM<|Qw<|QA<|QC<|Yy 1 rfl ?_
    rw[←List.flatMap_append,show B.length+2=(B++[z0v c.lo,z0v c.hi]).length by simp,show B++[z0v c.lo,z0v c.hi]=z3f B 1 [c.lo,c.hi] by simp[z3f,lo1,hi1]]
    refine QY rfl (z0p (s:= .a (.v (.string (z0i (z6f c))))) 7 rfl rfl (fun v V' hs=>zls tok _ rfl (fun hg=>by rw[z6f,if_neg f2,if_pos e3,base];exact hs))) ?_
    refine QE 2 [2,3] rfl<|Qw<|QO<|Qb rfl fun E w' hm=>⟨?_,hm.below lr⟩
    rw[cbV,cbE,if_pos hc,if_pos hc]
    rfl
   ·
    have f3: ¬c.kind=3:=by simpa using h
    refine QA<|QC<|QE 2 [1,4,29,59] rfl<|Qw<|Qn rfl (fun h=> ?_) fun h=> ?_
    ·
     refine QC<|Yy 5 rfl ?_
     have e4:c.kind=4:=by simpa using h
     have p4:z5o 6 [c.dead,c.was]=true:=by simp only[z5o,List.all_cons,List.all_nil,Bool.and_true,Bool.and_eq_true];exact⟨w6,⟨q6 _ (by omega) (by omega),q6 _ (by omega) (by omega)⟩⟩
     refine QZ rfl (z1q tok 1 rfl rfl rfl) fun _ _=>QZ rfl (z87 B 6 [c.dead,c.was] rfl p4 (by omega) (by simp) (fun E w hm=>⟨E.κ 5,E.κ 6,rfl,hm.rowOf 5 rfl (fun _=>rfl),hm.rowOf (enc:=z0a) (L:=[c.dead,c.was]) 6 rfl (fun _=>rfl)⟩)) fun _ _=>QE 4 [4] rfl<|QM<|Qw<|QA<|QC<|Yy 1 rfl<|QY rfl (z0p (s:= .a (.v (.string (z0i (z6f c))))) 7 rfl rfl (fun v V' hs=>zls tok _ rfl (fun hg=>by rw[z6f,if_neg f2,if_neg f3,if_pos e4,base];exact hs))) ?_
     refine QE 2 [2,3] rfl<|Qw<|QO<|Qb rfl fun E w' hm=>⟨?_,hm.below lr⟩
     rw[cbV,cbE,if_pos hc,if_pos hc]
     rfl
    ·
     have f4: ¬c.kind=4:=by simpa using h
     refine QA<|QC<|QE 2 [1,4,71] rfl<|Qw<|Qn rfl (fun h=> ?_) fun h=> ?_
     ·
      refine QC<|Yy 3 rfl ?_
      have e5:c.kind=5:=by simpa using h
      have p4:z5o 6 [c.dead]=true:=by simp only[z5o,List.all_cons,List.all_nil,Bool.and_true,Bool.and_eq_true];exact⟨w6,q6 _ (by omega) (by omega)⟩
      refine QZ rfl (z1q tok 1 rfl rfl rfl) fun _ _=>QZ rfl (z87 B 6 [c.dead] rfl p4 (by omega) (by simp) (fun E w hm=>⟨E.κ 5,E.κ 6,rfl,hm.rowOf 5 rfl (fun _=>rfl),hm.rowOf (enc:=z0a) (L:=[c.dead]) 6 rfl (fun _=>rfl)⟩)) fun _ _=>QE 4 [4] rfl<|QM<|Qw<|QA<|QC<|Yy 1 rfl<|QY rfl (z0p (s:= .a (.v (.string (z0i (z6f c))))) 7 rfl rfl (fun v V' hs=>zls tok _ rfl (fun hg=>by rw[z6f,if_neg f2,if_neg f3,if_neg f4,if_pos e5,base];exact hs))) ?_
      refine QE 2 [2,3] rfl<|Qw<|QO<|Qb rfl fun E w' hm=>⟨?_,hm.below lr⟩
      rw[cbV,cbE,if_pos hc,if_pos hc]
      rfl
     ·
      refine QI<|QM<|Qw<|QA<|QC<|Yy 1 rfl ?_
      have f5: ¬c.kind=5:=by simpa using h
      refine QY rfl (z0p (s:= .a (.v (.string (z0i (z6f c))))) 5 rfl rfl (fun v V' hs=>zls tok _ rfl (fun hg=>by rw[z6f,if_neg f2,if_neg f3,if_neg f4,if_neg f5,base];exact hs))) ?_
      refine QE 2 [2,3] rfl<|Qw<|QO<|Qb rfl fun E w' hm=>⟨?_,hm.below lr⟩
      rw[cbV,cbE,if_pos hc,if_pos hc]
      rfl
theorem j5t(a b:Nat):pw (a+b)=pw a*pw b:=by rw[pw,pw,pw,Nat.pow_add]
theorem zfu{f:Nat→Nat}(hf: ∀j,f j<256): ∀(k j:Nat),j<k→z6p f k / pw j%256=f j
 |k+1,j,h=>by
  have hlt:=zhk hf k
  have hfk:=hf k
  rw[z6p]
  by_cases hjk:j=k
  ·
   subst hjk
   rw[Nat.add_mul_div_right _ _ (zfi j),Nat.div_eq_of_lt hlt,Nat.zero_add,Nat.mod_eq_of_lt hfk]
  ·
   have ih:=zfu hf k j (by omega)
   obtain⟨d,rfl⟩: ∃d,k=(j+1)+d:=⟨k - (j+1),by omega⟩
   have e:f (j+1+d)*pw (j+1+d)=(f (j+1+d)*pw d*256)*pw j:=by
    rw[j5t,z8p]
    simp only[Nat.mul_assoc,Nat.mul_comm,Nat.mul_left_comm]
   rw[e,Nat.add_mul_div_right _ _ (zfi j),Nat.add_mul_mod_self_right,ih]
theorem zlk{s:ByteArray}{k:Nat}(h:(z02 s 0 k).2=0):(z02 s 0 k).1=((z6p (z12 s 0) k:Nat):Int):=by
 unfold z02 at h⊢
 split at h
 · simp at h
 ·
  rename_i h1
  rw[if_neg h1]
  split at h
  · simp at h
  ·
   rename_i h2
   rw[if_neg h2]
   split at h
   · simp at h
   ·
    rename_i h3
    rw[if_neg h3]
    rfl
theorem zec{s:ByteArray}{k:Nat}(h:(z02 s 0 k).2=0):s=z0i (leB k (z02 s 0 k).1++(z1r s k).data.toList):=by
 obtain⟨hw,_,hle⟩:=z6b h
 have hsz:=z33 s
 have hke:k≤s.data.toList.length:=by omega
 apply z4f
 rw[z0t,z28,zlk h]
 conv=>lhs;rw[←List.take_append_drop k s.data.toList]
 congr 1
 apply List.ext_getElem
 · rw[List.length_take,leB,z0q,Int.toNat_natCast];omega
 ·
  intro i h1 h2
  have hik:i<k:=by rw[List.length_take]at h1;omega
  rw[List.getElem_take]
  simp only[leB,z2t,Int.toNat_natCast,List.getElem_map,List.getElem_range]
  rw[zfu (z3a s 0) k i hik,z12,z2h,Nat.zero_add,UInt8.ofNat_toNat]
  rw[List.getD_eq_getElem?_getD,List.getElem?_eq_getElem (by omega)]
  rfl
theorem z21{t:ByteArray×Bool}{k:Nat}(K:Int)(hK:(k:Int)=K)(h:(tkS t k).2=false):t.2=false∧t.1.data.toList=leB K (z02 t.1 0 K).1++(tkS t k).1.data.toList:=by
 subst hK
 rw[tkS]at h⊢
 split at h
 · simp at h
 ·
  rename_i hg
  rw[if_neg hg]
  refine⟨h, ?_⟩
  have:=congrArg (fun x:ByteArray=>x.data.toList) (zec (s:=t.1) (k:=k) (by simpa using hg))
  rw[z0t]at this
  exact this
theorem z6a{t:ByteArray}(h:t=ByteArray.empty):t.data.toList=[]:=by rw[h];rfl
theorem zg6{n:Int}(h:min n 127≤5):min n 127=n:=by omega
theorem j25{s:ByteArray}(e2:min (z02 s 0 1).1 127=2)(h1:(z1y s).2.2=false)(h4:(z1y s).2.1=ByteArray.empty)(ok:CmdOk (z1y s).1):s=z0i (z6f (z1y s).1):=by
 rw[z4s]
 unfold z1y at h1 h4 ok⊢
 rw[if_pos e2]at h1 h4 ok⊢
 obtain⟨a6,b6⟩:=z21 1 rfl h1
 obtain⟨a5,b5⟩:=z21 1 rfl a6
 obtain⟨a4,b4⟩:=z21 1 rfl a5
 obtain⟨a3,b3⟩:=z21 4 rfl a4
 obtain⟨a2,b2⟩:=z21 6 rfl a3
 obtain⟨a1,b1⟩:=z21 1 rfl a2
 have ok1:=ok.kind
 have ok2:=ok.mode
 clear ok h1
 dsimp only at h4 ok1 ok2 b1 b2 b3 b4 b5 b6
 apply z4f
 rw[z0t,b1,b2,b3,b4,b5,b6,z6a h4,z8k]
 dsimp only
 rw[if_pos e2,zg6 (n:=(z02 s 0 1).1) (by omega),zg6 (n:=(z02 (tkS (tkS (tkS (tkS (tkS (s,false) 1) 6) 4) 1) 1).1 0 1).1) (by omega)]
theorem j3q{s:ByteArray}(e2: ¬min (z02 s 0 1).1 127=2)(e3:min (z02 s 0 1).1 127=3)(h1:(z1y s).2.2=false)(h4:(z1y s).2.1=ByteArray.empty)(ok:CmdOk (z1y s).1):s=z0i (z6f (z1y s).1):=by
 rw[z4s]
 unfold z1y at h1 h4 ok⊢
 rw[if_neg e2,if_pos e3]at h1 h4 ok⊢
 obtain⟨a5,b5⟩:=z21 1 rfl h1
 obtain⟨a4,b4⟩:=z21 1 rfl a5
 obtain⟨a3,b3⟩:=z21 4 rfl a4
 obtain⟨a2,b2⟩:=z21 6 rfl a3
 obtain⟨a1,b1⟩:=z21 1 rfl a2
 have ok1:=ok.kind
 have ok2:=ok.mode
 clear ok h1
 dsimp only at h4 ok1 ok2 b1 b2 b3 b4 b5
 apply z4f
 rw[z0t,b1,b2,b3,b4,b5,z6a h4,z8k]
 dsimp only
 rw[if_neg e2,if_pos e3,zg6 (n:=(z02 s 0 1).1) (by omega)]
theorem j21{s:ByteArray}(e2: ¬min (z02 s 0 1).1 127=2)(e3: ¬min (z02 s 0 1).1 127=3)(e4:min (z02 s 0 1).1 127=4)(h1:(z1y s).2.2=false)(h4:(z1y s).2.1=ByteArray.empty)(ok:CmdOk (z1y s).1):s=z0i (z6f (z1y s).1):=by
 rw[z4s]
 unfold z1y at h1 h4 ok⊢
 rw[if_neg e2,if_neg e3,if_pos e4]at h1 h4 ok⊢
 obtain⟨a5,b5⟩:=z21 6 rfl h1
 obtain⟨a4,b4⟩:=z21 6 rfl a5
 obtain⟨a3,b3⟩:=z21 4 rfl a4
 obtain⟨a2,b2⟩:=z21 6 rfl a3
 obtain⟨a1,b1⟩:=z21 1 rfl a2
 have ok1:=ok.kind
 have ok2:=ok.mode
 clear ok h1
 dsimp only at h4 ok1 ok2 b1 b2 b3 b4 b5
 apply z4f
 rw[z0t,b1,b2,b3,b4,b5,z6a h4,z8k]
 dsimp only
 rw[if_neg e2,if_neg e3,if_pos e4,zg6 (n:=(z02 s 0 1).1) (by omega)]
theorem j1v{s:ByteArray}(e2: ¬min (z02 s 0 1).1 127=2)(e3: ¬min (z02 s 0 1).1 127=3)(e4: ¬min (z02 s 0 1).1 127=4)(e5:min (z02 s 0 1).1 127=5)(h1:(z1y s).2.2=false)(h4:(z1y s).2.1=ByteArray.empty)(ok:CmdOk (z1y s).1):s=z0i (z6f (z1y s).1):=by
 rw[z4s]
 unfold z1y at h1 h4 ok⊢
 rw[if_neg e2,if_neg e3,if_neg e4,if_pos e5]at h1 h4 ok⊢
 obtain⟨a4,b4⟩:=z21 6 rfl h1
 obtain⟨a3,b3⟩:=z21 4 rfl a4
 obtain⟨a2,b2⟩:=z21 6 rfl a3
 obtain⟨a1,b1⟩:=z21 1 rfl a2
 have ok1:=ok.kind
 have ok2:=ok.mode
 clear ok h1
 dsimp only at h4 ok1 ok2 b1 b2 b3 b4
 apply z4f
 rw[z0t,b1,b2,b3,b4,z6a h4,z8k]
 dsimp only
 rw[if_neg e2,if_neg e3,if_neg e4,if_pos e5,zg6 (n:=(z02 s 0 1).1) (by omega)]
theorem j2t{s:ByteArray}(e2: ¬min (z02 s 0 1).1 127=2)(e3: ¬min (z02 s 0 1).1 127=3)(e4: ¬min (z02 s 0 1).1 127=4)(e5: ¬min (z02 s 0 1).1 127=5)(h1:(z1y s).2.2=false)(h4:(z1y s).2.1=ByteArray.empty)(ok:CmdOk (z1y s).1):s=z0i (z6f (z1y s).1):=by
 rw[z4s]
 unfold z1y at h1 h4 ok⊢
 rw[if_neg e2,if_neg e3,if_neg e4,if_neg e5]at h1 h4 ok⊢
 obtain⟨a3,b3⟩:=z21 4 rfl h1
 obtain⟨a2,b2⟩:=z21 6 rfl a3
 obtain⟨a1,b1⟩:=z21 1 rfl a2
 have ok1:=ok.kind
 have ok2:=ok.mode
 clear ok h1
 dsimp only at h4 ok1 ok2 b1 b2 b3
 apply z4f
 rw[z0t,b1,b2,b3,z6a h4,z8k]
 dsimp only
 rw[if_neg e2,if_neg e3,if_neg e4,if_neg e5,zg6 (n:=(z02 s 0 1).1) (by omega)]
theorem j6x{s:ByteArray}(h:rdB (z1y s)=true):z57 (z1y s).1=true∧s=z0i (z6f (z1y s).1):=by
 simp only[rdB,Bool.not_eq_true',Bool.or_eq_false_iff,Bool.not_eq_false']at h
 obtain⟨⟨h1,h2⟩,h3⟩:=h
 refine⟨h3, ?_⟩
 have h4:(z1y s).2.1=ByteArray.empty:=by
  rw[za0,decide_eq_true_eq]at h2
  exact ze7 h2
 have ok:=zkz h3
 by_cases e2:min (z02 s 0 1).1 127=2
 · exact j25 e2 h1 h4 ok
 ·
  by_cases e3:min (z02 s 0 1).1 127=3
  · exact j3q e2 e3 h1 h4 ok
  ·
   by_cases e4:min (z02 s 0 1).1 127=4
   · exact j21 e2 e3 e4 h1 h4 ok
   ·
    by_cases e5:min (z02 s 0 1).1 127=5
    · exact j1v e2 e3 e4 e5 h1 h4 ok
    · exact j2t e2 e3 e4 e5 h1 h4 ok
theorem j04(s:ByteArray):(∃c,z57 c=true∧s=z0i (z6f c)∧zot s=c∧zkj s=0)∨((∀c,z57 c=true→s≠z0i (z6f c))∧zot s=j4g∧zkj s=100):=by
 cases hr:rdB (z1y s)with
 |true=>
  obtain⟨h1,h2⟩:=j6x hr
  exact .inl ⟨(z1y s).1,h1,h2,by rw[zot,if_pos hr],by rw[zkj,if_pos hr]⟩
 |false=>
  refine .inr ⟨fun c hc he=> ?_,by rw[zot,if_neg (by simp[hr])],by rw[zkj,if_neg (by simp[hr])]⟩
  have h2:=(j16 hc).2
  rw[←he,zkj,if_neg (by simp[hr])]at h2
  exact absurd h2 (by decide)
def zl4:Nat→ByteArray→List Int→List Int×Int
 |0,_,acc=>(acc,0)
 |f+1,r,acc=>if r.size=0 then(acc,0)else if(z02 r 0 6).2≠0 then([],(z02 r 0 6).2)else zl4 f (z1r r 6) (acc++[(z02 r 0 6).1])
theorem zud(l:List Int): ∀u∈l.flatMap z0a,u.oneCell'=true:=by
 intro u hu
 obtain⟨x,_,hx⟩:=List.mem_flatMap.1 hu
 simp only[z0a,List.mem_singleton]at hx
 subst hx;rfl
def zx6(r:List Int×Int)(w:World)(e:Ending)(w':World):Prop:=
 (∃v,e= .returned (.tuple #[v,I r.2])∧w'.ownsRow w.heap.size 3 1 v r.1.length (r.1.flatMap z0a))∧Below w.heap.size w w'
theorem zx2(s:ByteArray)(hs:s.size≤1000)(w:World):Cl 164 #[S s,I 6] w (zx6 (zl4 (s.size+1) s []) w):=by
 have hm:zf3 6=1099511627776:=by decide
 have hmx:s.size≤maxLen:=by simp only[maxLen];omega
 obtain⟨R,hR⟩: ∃r,zl4 (s.size+1) s []=r:=⟨_,rfl⟩
 rw[hR]
 refine Qf [.a (.v (S s)), .a (.v (I 6))] Tryz.func164 rfl<|QA<|QC<|QE 2 [0,1] rfl<|Qw<|QA<|QA<|QC<|Yy 1 rfl<|Qc (.a (.v _)) rfl zhs (fun hg E w1 hm=>by exact z9w 6 _) ?_
 refine QE 1 [0,1,12] rfl<|Qw<|Qn rfl (fun h=> ?_) fun h=> ?_
 ·
  exfalso
  rw[hm]at h
  exact absurd h (by decide)
 ·
  refine QI<|Qw<|QA<|QC<|QE 1 [0,1,6] rfl<|Qw<|QA<|QA<|QC<|QE 1 [0,1,6,7] rfl<|Qw<|QJ<|z6l 6 3 1 rfl rfl<|Ql [0,1] [0] rfl rfl (σ:=Nat×Nat×List Int) (fun(a,f,acc)=>[(6, .a (.row 0)),(7, .a (.v (I a)))]) (fun(a,f,acc)=>[(0, .row 3 1 acc.length (acc.flatMap z0a))]) (fun(a,f,acc)=>a≤s.size∧s.size+1≤a+f∧R=zl4 f (z1r s a) acc∧acc.length≤a) (fun(a,f,acc)=>s.size - a) ((0,s.size+1,[])) (⟨by omega,by omega,by rw[z8w];exact hR.symm,by simp⟩) ?_
  rintro⟨a,f,acc⟩ ⟨ha,hf,heq,hal⟩
  have hrs:=z4g s a
  obtain⟨f,rfl⟩: ∃g,f=g+1:=⟨f - 1,by omega⟩
  rw[zl4]at heq
  refine QA<|QA<|QC<|QE 4 [0,1,6,7,16] rfl<|Qw<|QX rfl (fun h=> ?_) fun h=> ?_
  ·
   refine QI<|Qw<|QA<|QJ<|QA<|QC<|Yy 3 rfl ?_
   rw[if_neg (by omega)]at heq
   rw[z5v s ha]at heq
   refine Qc (.a (.v _)) rfl zaz (fun hg E w1 hm=>by exact z83 s a 6 hmx _) ?_
   refine QE 5 [0,1,6,7,8,9] rfl<|Qw<|QA<|QA<|QC<|QE 2 [0,1,6,7,8,9,28] rfl<|Qw<|QX rfl (fun h=> ?_) fun h=> ?_
   ·
    refine QA<|QC<|QE 3 [4,5] rfl<|Qw<|QO<|QL<|QP<|QL<|QL<|QP<|QL<|z0h tok rfl ?_
    rw[if_pos h]at heq
    intro E w' hm _
    refine⟨⟨_,by rw[heq];rfl, ?_⟩,hm.below lr⟩
    rw[heq]
    exact World.ownsRow_nil _ _ _ _
   ·
    rw[if_neg (by simp[h])]at heq
    obtain⟨_,_,hle⟩:=z6b h
    rw[z84]at heq
    clear h
    refine QI<|Qw<|QC<|Yy 2 rfl<|QZ rfl (z1q tok 1 rfl rfl rfl) fun _ _=>QZ rfl (z0g tok ([(z02 s a 6).1].flatMap z0a) rfl (fun E w hm=>z09 (hm.row 1 _ _ _ _ rfl)) (fun _ _ _=>zud _) (by dsimp only;omega)) fun _ _=>QE 1 [0,1,6,7] rfl<|QM<|Qw<|QC<|QE 4 [0,1,6,7] rfl<|Qw ?_
    rw[←List.flatMap_append,show acc.length+1=(acc++[(z02 s a 6).1]).length by simp,z06 (n:=(a:Int)+6) (by omega) (by omega),show(a:Int)+6=((a+6:Nat):Int) by omega]
    refine z00 0 2 rfl<|Qr ((a+6,f,acc++[(z02 s a 6).1]))<|⟨by omega,by omega,heq,by simp;omega⟩
  ·
   refine QN<|QK<|QK<|QQ<|Qw<|QA<|QC<|QE 3 [4,5] rfl<|Qw<|QO<|z0h tok rfl ?_
   rw[if_pos (by omega)]at heq
   intro E w' hm _
   refine⟨⟨_,by rw[heq];rfl, ?_⟩,hm.below lr⟩
   rw[heq]
   exact hm.rowFresh lr (l:=0) rfl
section
variable{o:Oper}{n:Nat}{F:z05}{C:List Nat}{O:Go.Eng.Own}{nl:Nat}{V:Vw}
theorem j4n{P:Program}{tt:List (Nat×TI)}(htt:z0s P tt){p:List (Nat×Bool)}{g:Bool}{s:ByteArray}{lo hi:Option Int}(r:ByteArray)
  (hv:zj0 tt F p o.op=some (s,lo,hi)) (hb:g=true→0≤lo.getD 0∧lo.getD 0≤hi.getD s.size∧hi.getD s.size≤s.size) (hr:s.extract (lo.getD 0).toNat (hi.getD s.size).toNat=r):
  Yld P o n F C O nl V p g (.a (.v (.string r))):=hr▸j3s htt hv hb
theorem zcf{p:List (Nat×Bool)}(s:ByteArray)(r:List Int×Int)(hr:zl4 (s.size+1) s []=r){ss:List SV}(hv:z4i F p o.op=some (164,ss))(hs:s.size≤1000)
  (hss: ∀E,ss.map (SV.den E)=[S s,I 6]):
  StepTo Tryz.prog o p n F C O nl V (σ:=Unit) (fun _=>True) (fun _=> .tup [.row nl, .v (I r.2)]) (fun _=>(nl, .row 3 1 r.1.length (r.1.flatMap z0a))::O) (nl+1) (fun _=>V):=by
 refine ze5 (fun _=>True) (fun _=> .tup [.row nl, .v (I r.2)]) 3 1 (fun _=>r.1.length) (fun _=>r.1.flatMap z0a) hv j12 (fun _=>by simp[SV.ok,z0z,A.ok,z0e]) ?_
 intro E w hm
 rw[hss E]
 refine(zx2 s hs w).mono ?_
 rintro e w' ⟨⟨v,rfl,hown⟩,hbl⟩
 rw[hr]at hown
 exact⟨(),v,by rw[hr];simp[SV.den,A.den,Env.setκ],hown,hbl,trivial⟩
end
theorem zgj{s:ByteArray}(hbad: ∀c,z57 c=true→s≠z0i (z6f c))(c:Cmd):((cbE c !=0)|| !(cbV c).toList==s.toList)=true:=by
 cases hc:z57 c with
 |false=>rw[cbE,if_neg (by simp[hc])];rfl
 |true=>
  rw[(zl6 hc).1,(zl6 hc).2,zgr]
  have:=hbad c hc
  simp only[bne_self_eq_false,Bool.false_or,Bool.not_eq_true',decide_eq_false_iff_not]
  intro he
  exact this<|z4f he.symm
theorem zey(s:ByteArray)(hs:s.size≤1000)(hbad: ∀c,z57 c=true→s≠z0i (z6f c))(w:World):
  Rt 147 #[S s] w (.tuple #[j4g.val,I 100]):=by
 have hmx:s.size≤maxLen:=by simp only[maxLen];omega
 refine Qf [.a (.v (S s))] Tryz.func147 rfl<|QA<|QC<|QE 2 [0,2] rfl<|Qw<|QA<|QA<|QC<|QE 3 [0,2,16] rfl<|Qw<|QX rfl (fun h=> ?_) fun h=> ?_
 ·
  refine QA<|QC<|Yy 1 rfl<|Qs rfl<|QE 1 [2,3] rfl<|Qw<|QO<|QL<|Qb rfl fun E w' hm=>⟨?_,hm.below lr⟩
  rfl
 ·
  refine QI<|Qw<|QA<|QC<|Yy 1 rfl ?_
  have h11:=h
  clear h
  refine Qc (.a (.v _)) rfl zaz (fun hg E w1 hm=>by exact z83 s 1 6 hmx _) ?_
  refine QE 5 [0,2,4,5] rfl<|Qw<|QA<|QC<|Yy 1 rfl<|Qc (.a (.v _)) rfl zaz (fun hg E w1 hm=>by exact z83 s 7 4 hmx _) ?_
  refine QE 5 [0,2,4,5,6,7] rfl<|Qw<|QA<|QA<|QC<|Yy 8 rfl<|QY rfl (zct tok rfl (fun hg=>by omega))<|QE 2 [0,2,4,6,38] rfl<|Qw<|QX rfl (fun h=> ?_) fun h=> ?_
  ·
   refine QA<|QC<|Yy 1 rfl<|Qs rfl<|QE 1 [2,3] rfl<|Qw<|QO<|QL<|Qb rfl fun E w' hm=>⟨?_,hm.below lr⟩
   rfl
  ·
   refine QI<|Qw<|QA<|QC<|Yy 1 rfl ?_
   clear h
   obtain⟨r,hr⟩: ∃r,z1r s 11=r:=⟨_,rfl⟩
   have hrs:=z4g s 11
   rw[hr]at hrs
   obtain⟨R,hR⟩: ∃R,zl4 (r.size+1) r []=R:=⟨_,rfl⟩
   obtain⟨K,hK⟩: ∃K,IntKind.i8.wrap (((z0m s (0:Int).toNat).toNat:Nat):Int)=K:=⟨_,rfl⟩
   obtain⟨y,hy⟩: ∃y,(z02 s 1 6).1=y:=⟨_,rfl⟩
   obtain⟨z,hz⟩: ∃z,(z02 s 7 4).1=z:=⟨_,rfl⟩
   refine QY rfl (zct tok rfl (fun hg=>by omega))<|Yy 5 rfl<|Qs rfl<|z07 [0,2,8] rfl<|Qw<|QA<|QC<|Yy 1 rfl ?_
   rw[hK,hy,hz]
   refine QY rfl (j4n tok r rfl (fun hg=>by simp only[Option.getD];omega) hr) ?_
   refine QE 1 [0,2,8,9] rfl<|Qw<|QA<|QA<|QC<|QE 2 [0,2,8,9,49] rfl<|Qw<|QJ<|QA<|QA<|QC<|QE 2 [0,2,8,9,49,50] rfl<|Qw<|Qn rfl (fun h=> ?_) fun h=> ?_
   ·
    refine QI<|Qw<|Qn rfl (fun h2=> ?_) fun h2=> ?_
    ·
     refine QA<|QA<|QC<|QE 3 [0,2,8,9,55] rfl<|Qw<|QX rfl (fun h=> ?_) fun h=> ?_
     ·
      refine QA<|QC<|Yy 1 rfl<|Qs rfl<|QE 1 [2,3] rfl<|Qw<|QO<|QL<|QP<|QL<|Qb rfl fun E w' hm=>⟨?_,hm.below lr⟩
      rfl
     ·
      refine QI<|Qw<|QA<|Rb [8] rfl<|QD [0] rfl ?_
      have h2r:=h
      clear h
      refine Qu 1 rfl rfl (zct tok rfl (fun hg=>by omega))<|QD [2,3] rfl<|Qu 4 rfl rfl (zct tok rfl (fun hg=>by omega))<|QD [5,6,7] rfl<|QS<|Qo 8<|Qj 8 rfl<|Qe [0,2,8,9] rfl<|Qw<|QA<|QC<|QE 8 [0,2,8,9,72] rfl<|Qw<|Qn rfl (fun h=> ?_) fun h=> ?_
      ·
       refine QC<|Yy 1 rfl<|QY rfl (zct tok rfl (fun hg=>by simp at h;omega)) ?_
       refine Yy 3 rfl<|Qs rfl<|z07 [0,2,8] rfl<|QM<|Qw<|QA<|QC<|Yy 1 rfl<|Qc (.a (.v _)) rfl z40 (fun hg E w1 hm=>by exact z1m ⟨_,_,_,_,_,_,_,_⟩ _) ?_
       refine QE 5 [0,2,8,12,13] rfl<|Qw<|QA<|QA<|QC<|QE 7 [2,8,121] rfl<|Qw<|Qn rfl (fun h=> ?_) fun h=> ?_
       ·
        refine QA<|QC<|Yy 1 rfl<|Qs rfl<|QE 1 [2,3] rfl<|Qw<|QO<|QL<|Qb rfl fun E w' hm=>⟨?_,hm.below lr⟩
        rfl
       ·
        exact absurd (h.symm.trans (zgj hbad _)) (by decide)
      ·
       refine QI<|QM<|Qw<|QA<|QC<|Yy 1 rfl<|Qc (.a (.v _)) rfl z40 (fun hg E w1 hm=>by exact z1m ⟨_,_,_,_,_,_,_,_⟩ _) ?_
       refine QE 5 [0,2,8,12,13] rfl<|Qw<|QA<|QA<|QC<|QE 7 [2,8,121] rfl<|Qw<|Qn rfl (fun h=> ?_) fun h=> ?_
       ·
        refine QA<|QC<|Yy 1 rfl<|Qs rfl<|QE 1 [2,3] rfl<|Qw<|QO<|QL<|Qb rfl fun E w' hm=>⟨?_,hm.below lr⟩
        rfl
       ·
        exact absurd (h.symm.trans (zgj hbad _)) (by decide)
    ·
     exact absurd (h.symm.trans h2) (by decide)
   ·
    refine QC<|QE 2 [0,2,8,9,49,50] rfl<|Qw<|Qn rfl (fun h2=> ?_) fun h2=> ?_
    ·
     refine QA<|QA<|QC<|QE 3 [0,2,8,9,55] rfl<|Qw<|QX rfl (fun h=> ?_) fun h=> ?_
     ·
      refine QA<|QC<|Yy 1 rfl<|Qs rfl<|QE 1 [2,3] rfl<|Qw<|QO<|QL<|QP<|QL<|Qb rfl fun E w' hm=>⟨?_,hm.below lr⟩
      rfl
     ·
      refine QI<|Qw<|QA<|Rb [8] rfl<|QD [0] rfl ?_
      have h2r:=h
      clear h
      refine Qu 1 rfl rfl (zct tok rfl (fun hg=>by omega))<|QD [2,3] rfl<|Qu 4 rfl rfl (zct tok rfl (fun hg=>by omega))<|QD [5,6,7] rfl<|QS<|Qo 8<|Qj 8 rfl<|Qe [0,2,8,9] rfl<|Qw<|QA<|QC<|QE 8 [0,2,8,9,72] rfl<|Qw<|Qn rfl (fun h=> ?_) fun h=> ?_
      ·
       refine QC<|Yy 1 rfl<|QY rfl (zct tok rfl (fun hg=>by simp at h;omega)) ?_
       refine Yy 3 rfl<|Qs rfl<|z07 [0,2,8] rfl<|QM<|Qw<|QA<|QC<|Yy 1 rfl<|Qc (.a (.v _)) rfl z40 (fun hg E w1 hm=>by exact z1m ⟨_,_,_,_,_,_,_,_⟩ _) ?_
       refine QE 5 [0,2,8,12,13] rfl<|Qw<|QA<|QA<|QC<|QE 7 [2,8,121] rfl<|Qw<|Qn rfl (fun h=> ?_) fun h=> ?_
       ·
        refine QA<|QC<|Yy 1 rfl<|Qs rfl<|QE 1 [2,3] rfl<|Qw<|QO<|QL<|Qb rfl fun E w' hm=>⟨?_,hm.below lr⟩
        rfl
       ·
        exact absurd (h.symm.trans (zgj hbad _)) (by decide)
      ·
       refine QI<|QM<|Qw<|QA<|QC<|Yy 1 rfl<|Qc (.a (.v _)) rfl z40 (fun hg E w1 hm=>by exact z1m ⟨_,_,_,_,_,_,_,_⟩ _) ?_
       refine QE 5 [0,2,8,12,13] rfl<|Qw<|QA<|QA<|QC<|QE 7 [2,8,121] rfl<|Qw<|Qn rfl (fun h=> ?_) fun h=> ?_
       ·
        refine QA<|QC<|Yy 1 rfl<|Qs rfl<|QE 1 [2,3] rfl<|Qw<|QO<|QL<|Qb rfl fun E w' hm=>⟨?_,hm.below lr⟩
        rfl
       ·
        exact absurd (h.symm.trans (zgj hbad _)) (by decide)
    ·
     refine QA<|QA<|QC<|QE 2 [0,2,8,9,49,78] rfl<|Qw<|Qn rfl (fun h4=> ?_) fun h4=> ?_
     ·
      refine QI<|Qw<|Qn rfl (fun h5=> ?_) fun h5=> ?_
      ·
       refine QA<|QC<|Yy 1 rfl<|QZ rfl (zcf r R hR rfl (by omega) (fun E=>rfl)) fun _ _=>QE 5 [0,2,8,10,11] rfl<|Qw<|QA<|QA<|QC<|QE 7 [0,2,8,10,92] rfl<|Qw<|QX rfl (fun h=> ?_) fun h=> ?_
       ·
        refine QA<|QC<|Yy 1 rfl<|Qs rfl<|QE 1 [2,3] rfl<|Qw<|QO<|QL<|QP<|QL<|Qb rfl fun E w' hm=>⟨?_,hm.below lr⟩
        rfl
       ·
        obtain⟨g1,g2⟩:=h
        obtain⟨x,hx⟩:=atx (L:=R.1) (k:=0) (by omega)
        refine QI<|Qw<|QA<|QC<|Yy 1 rfl<|QY rfl (z0p (s:= .a (.rel 2 0)) 2 rfl rfl (fun v V' hv=>z14 tok 0 rfl (by simp) (fun hg=>hv) (fun hg=>by omega)))<|QY rfl (z0p (s:= .a (.v (I x))) 2 rfl rfl (fun v V' hv=>z08 (enc:=z0a) (l:=R.1) tok 0 0 x rfl (fun hg=>⟨hv,fun _=>rfl⟩) (fun hg=>hx) (by simp) rfl))<|Yy 1 rfl<|Qs rfl<|z07 [0,2,8,10] rfl<|Qw<|QA<|QC<|QE 8 [0,2,8,10,105] rfl ?_
        refine Qw<|Qn rfl (fun h=> ?_) fun h=> ?_
        ·
         obtain⟨x2,hx2⟩:=atx (L:=R.1) (k:=1) (by simp at h;omega)
         refine QC<|Yy 1 rfl<|QY rfl (z0p (s:= .a (.rel 2 1)) 2 rfl rfl (fun v V' hv=>z14 tok 1 rfl (by simp) (fun hg=>hv) (fun hg=>by simp at h;omega))) ?_
         refine QY rfl (z0p (s:= .a (.v (I x2))) 2 rfl rfl (fun v V' hv=>z08 (enc:=z0a) (l:=R.1) tok 1 0 x2 rfl (fun hg=>⟨hv,fun _=>rfl⟩) (fun hg=>hx2) (by simp) rfl))<|Yy 1 rfl<|Qs rfl<|z07 [0,2,8] rfl<|QM<|Qw<|QA<|QC<|Yy 1 rfl<|Qc (.a (.v _)) rfl z40 (fun hg E w1 hm=>by exact z1m ⟨_,_,_,_,_,_,_,_⟩ _) ?_
         refine QE 5 [0,2,8,12,13] rfl<|Qw<|QA<|QA<|QC<|QE 7 [2,8,121] rfl<|Qw<|Qn rfl (fun h=> ?_) fun h=> ?_
         ·
          refine QA<|QC<|Yy 1 rfl<|Qs rfl<|QE 1 [2,3] rfl<|Qw<|QO<|QL<|Qb rfl fun E w' hm=>⟨?_,hm.below lr⟩
          rfl
         ·
          exact absurd (h.symm.trans (zgj hbad _)) (by decide)
        ·
         refine QI<|QM<|Qw<|QA<|QC<|Yy 1 rfl<|Qc (.a (.v _)) rfl z40 (fun hg E w1 hm=>by exact z1m ⟨_,_,_,_,_,_,_,_⟩ _) ?_
         refine QE 5 [0,2,8,12,13] rfl<|Qw<|QA<|QA<|QC<|QE 7 [2,8,121] rfl<|Qw<|Qn rfl (fun h=> ?_) fun h=> ?_
         ·
          refine QA<|QC<|Yy 1 rfl<|Qs rfl<|QE 1 [2,3] rfl<|Qw<|QO<|QL<|Qb rfl fun E w' hm=>⟨?_,hm.below lr⟩
          rfl
         ·
          exact absurd (h.symm.trans (zgj hbad _)) (by decide)
      ·
       exact absurd (h5.symm.trans h4) (by decide)
     ·
      refine QC<|QE 2 [0,2,8,9,78] rfl<|Qw<|Qn rfl (fun h5=> ?_) fun h5=> ?_
      ·
       refine QA<|QC<|Yy 1 rfl<|QZ rfl (zcf r R hR rfl (by omega) (fun E=>rfl)) fun _ _=>QE 5 [0,2,8,10,11] rfl<|Qw<|QA<|QA<|QC<|QE 7 [0,2,8,10,92] rfl<|Qw<|QX rfl (fun h=> ?_) fun h=> ?_
       ·
        refine QA<|QC<|Yy 1 rfl<|Qs rfl<|QE 1 [2,3] rfl<|Qw<|QO<|QL<|QP<|QL<|Qb rfl fun E w' hm=>⟨?_,hm.below lr⟩
        rfl
       ·
        obtain⟨g1,g2⟩:=h
        obtain⟨x,hx⟩:=atx (L:=R.1) (k:=0) (by omega)
        refine QI<|Qw<|QA<|QC<|Yy 1 rfl<|QY rfl (z0p (s:= .a (.rel 2 0)) 2 rfl rfl (fun v V' hv=>z14 tok 0 rfl (by simp) (fun hg=>hv) (fun hg=>by omega)))<|QY rfl (z0p (s:= .a (.v (I x))) 2 rfl rfl (fun v V' hv=>z08 (enc:=z0a) (l:=R.1) tok 0 0 x rfl (fun hg=>⟨hv,fun _=>rfl⟩) (fun hg=>hx) (by simp) rfl))<|Yy 1 rfl<|Qs rfl<|z07 [0,2,8,10] rfl<|Qw<|QA<|QC<|QE 8 [0,2,8,10,105] rfl ?_
        refine Qw<|Qn rfl (fun h=> ?_) fun h=> ?_
        ·
         obtain⟨x2,hx2⟩:=atx (L:=R.1) (k:=1) (by simp at h;omega)
         refine QC<|Yy 1 rfl<|QY rfl (z0p (s:= .a (.rel 2 1)) 2 rfl rfl (fun v V' hv=>z14 tok 1 rfl (by simp) (fun hg=>hv) (fun hg=>by simp at h;omega))) ?_
         refine QY rfl (z0p (s:= .a (.v (I x2))) 2 rfl rfl (fun v V' hv=>z08 (enc:=z0a) (l:=R.1) tok 1 0 x2 rfl (fun hg=>⟨hv,fun _=>rfl⟩) (fun hg=>hx2) (by simp) rfl))<|Yy 1 rfl<|Qs rfl<|z07 [0,2,8] rfl<|QM<|Qw<|QA<|QC<|Yy 1 rfl<|Qc (.a (.v _)) rfl z40 (fun hg E w1 hm=>by exact z1m ⟨_,_,_,_,_,_,_,_⟩ _) ?_
         refine QE 5 [0,2,8,12,13] rfl<|Qw<|QA<|QA<|QC<|QE 7 [2,8,121] rfl<|Qw<|Qn rfl (fun h=> ?_) fun h=> ?_
         ·
          refine QA<|QC<|Yy 1 rfl<|Qs rfl<|QE 1 [2,3] rfl<|Qw<|QO<|QL<|Qb rfl fun E w' hm=>⟨?_,hm.below lr⟩
          rfl
         ·
          exact absurd (h.symm.trans (zgj hbad _)) (by decide)
        ·
         refine QI<|QM<|Qw<|QA<|QC<|Yy 1 rfl<|Qc (.a (.v _)) rfl z40 (fun hg E w1 hm=>by exact z1m ⟨_,_,_,_,_,_,_,_⟩ _) ?_
         refine QE 5 [0,2,8,12,13] rfl<|Qw<|QA<|QA<|QC<|QE 7 [2,8,121] rfl<|Qw<|Qn rfl (fun h=> ?_) fun h=> ?_
         ·
          refine QA<|QC<|Yy 1 rfl<|Qs rfl<|QE 1 [2,3] rfl<|Qw<|QO<|QL<|Qb rfl fun E w' hm=>⟨?_,hm.below lr⟩
          rfl
         ·
          exact absurd (h.symm.trans (zgj hbad _)) (by decide)
      ·
       refine QI<|QM<|Qw<|QA<|QC<|Yy 1 rfl<|Qc (.a (.v _)) rfl z40 (fun hg E w1 hm=>by exact z1m ⟨_,_,_,_,_,_,_,_⟩ _) ?_
       refine QE 5 [0,2,8,12,13] rfl<|Qw<|QA<|QA<|QC<|QE 7 [2,8,121] rfl<|Qw<|Qn rfl (fun h=> ?_) fun h=> ?_
       ·
        refine QA<|QC<|Yy 1 rfl<|Qs rfl<|QE 1 [2,3] rfl<|Qw<|QO<|QL<|Qb rfl fun E w' hm=>⟨?_,hm.below lr⟩
        rfl
       ·
        exact absurd (h.symm.trans (zgj hbad _)) (by decide)
theorem z54(a b:List UInt8):z1r (z0i (a++b)) a.length=z0i b:=by
 apply z4f
 rw[z28,z0t,z0t,List.drop_left]
theorem zb3(k n:Int):(leB k n).length=k.toNat:=by rw[leB,z0q]
theorem zoz{n:Int}(h0:0≤n)(h1:n≤255)(R:List UInt8):(z0m (z0i (leB 1 n++R)) 0).toNat=n.toNat:=by
 rw[z2h,z0t,(zd2 h0 h1).1,List.singleton_append]
 show(z0v n).toNat=_
 rw[z0v,UInt8.toNat_ofNat'];omega
theorem za4(s:ByteArray)(i:Nat):z0m s (i+1)=z0m (z1r s 1) i:=by
 rw[z2h,z2h,z28]
 simp[List.getD,List.getElem?_drop,Nat.add_comm]
structure Facts(c:Cmd)(s r:ByteArray):Prop where
 size:s.size=11+(z8k c).length
 g1:z02 s 1 6=(c.by_,0)
 g2:z02 s 7 4=(c.serial,0)
 k0:(z0m s 0).toNat=c.kind.toNat
 rest:z1r s 11=r
theorem zwc{c:Cmd}(hc:z57 c=true):Facts c (z0i (z6f c)) (z0i (z8k c)):=by
 have ok:=zkz hc
 have okk:=ok.kind
 have oky:=ok.by_
 have oks:=ok.serial
 have m6:z6c (6:Int).toNat=1099511627776:=by decide
 have m4:z6c (4:Int).toNat=4294967295:=by decide
 have f6:z1k c.by_ 6=true:=by rw[z1k,m6];simp[z0w];omega
 have f4:z1k c.serial 4=true:=by rw[z1k,m4];simp[z0w];omega
 have e:=z4s c
 have l:=zxs c
 have r1:z1r (z0i (z6f c)) 1=z0i (leB 6 c.by_++(leB 4 c.serial++z8k c)):=by
  rw[e];exact z54 (leB 1 c.kind) _
 have r7:z1r (z0i (z6f c)) 7=z0i (leB 4 c.serial++z8k c):=by
  rw[show 7=1+6 from rfl,←z84,r1];exact z54 (leB 6 c.by_) _
 have r11:z1r (z0i (z6f c)) 11=z0i (z8k c):=by
  rw[show 11=7+4 from rfl,←z84,r7];exact z54 (leB 4 c.serial) _
 have hs:(z0i (z6f c)).size=11+(z8k c).length:=by
  rw[z16,e]
  simp only[List.length_append,zb3]
  omega
 refine⟨hs, ?_, ?_, ?_,r11⟩
 ·
  have:=z5v (z0i (z6f c)) (a:=1) (by omega) 6
  rw[r1,z1v f6]at this
  exact this.symm
 ·
  have:=z5v (z0i (z6f c)) (a:=7) (by omega) 4
  rw[r7,z1v f4]at this
  exact this.symm
 · rw[e];exact zoz (by omega) (by omega) _
theorem zy5{a b:Int}(ha:0≤a∧a≤1099511627776)(hb:0≤b∧b≤1099511627776):zl4 ((z0i (leB 6 a++(leB 6 b++[]))).size+1) (z0i (leB 6 a++(leB 6 b++[]))) []=([a,b],0):=by
 have m6:z6c (6:Int).toNat=1099511627776:=by decide
 have f6: ∀n:Int,0≤n∧n≤1099511627776→z1k n 6=true:=fun n h=>by rw[z1k,m6];simp[z0w];omega
 have l:(z0i (leB 6 a++(leB 6 b++[]))).size=12:=by rw[z16];simp only[List.length_append,zb3,List.length_nil];rfl
 have l2:(z0i (leB 6 b++[])).size=6:=by rw[z16];simp only[List.length_append,zb3,List.length_nil];rfl
 rw[l,zl4,l,if_neg (by decide),z1v (f6 a ha),if_neg (by simp),show z1r (z0i (leB 6 a++(leB 6 b++[]))) 6=z0i (leB 6 b++[])from z54 (leB 6 a) _,
  zl4,l2,if_neg (by decide),z1v (f6 b hb),if_neg (by simp),show z1r (z0i (leB 6 b++[])) 6=z0i []from z54 (leB 6 b) _,zl4,if_pos (by rw[z16];rfl)]
 rfl
theorem zwy{b:Int}(hb:0≤b∧b≤1099511627776):zl4 ((z0i (leB 6 b++[])).size+1) (z0i (leB 6 b++[])) []=([b],0):=by
 have m6:z6c (6:Int).toNat=1099511627776:=by decide
 have f6: ∀n:Int,0≤n∧n≤1099511627776→z1k n 6=true:=fun n h=>by rw[z1k,m6];simp[z0w];omega
 have l2:(z0i (leB 6 b++[])).size=6:=by rw[z16];simp only[List.length_append,zb3,List.length_nil];rfl
 rw[l2,zl4,l2,if_neg (by decide),z1v (f6 b hb),if_neg (by simp),show z1r (z0i (leB 6 b++[])) 6=z0i []from z54 (leB 6 b) _,zl4,if_pos (by rw[z16];rfl)]
 rfl
theorem zkp{s:ByteArray}{c:Cmd}(hc:z57 c=true)(hs:z0i (z6f c)=s)(c':Cmd)(h:c'=c)(w:World):Rt 165 #[c'.val] w (.tuple #[S s,I 0]):=by
 subst h
 obtain⟨h1,h2⟩:=zl6 hc
 have:=z1m c' w
 rw[h1,h2,hs]at this
 exact this
theorem zs0{b:UInt8}{n:Int}(h0:0≤n)(h1:n≤127)(h:b.toNat=n.toNat):IntKind.i64.wrap ((b.toNat:Nat):Int)=n∧IntKind.i8.wrap ((b.toNat:Nat):Int)=n:=by
 rw[h,show((n.toNat:Nat):Int)=n by omega]
 exact⟨z06 (by omega) (by omega),zpx h0 h1⟩
theorem zwg{b:UInt8}{n:Int}(h0:0≤n)(h1:n≤2)(h:b.toNat=n.toNat):IntKind.i8.wrap (bits .and .u8 ((b.toNat:Nat):Int) 127)=n:=by
 rw[h]
 have:n=0∨n=1∨n=2:=by omega
 rcases this with rfl|rfl|rfl<;>decide
theorem zd5(c:Cmd)(hc:z57 c=true)(w:World):Rt 147 #[S (z0i (z6f c))] w (.tuple #[c.val,I 0]):=by
 have ok:=zkz hc
 have okk:=ok.kind
 have okl:=ok.lo
 have okh:=ok.hi
 have okm:=ok.mode
 have okd:=ok.dead
 have okw:=ok.was
 obtain⟨fz,g1,g2,k0,hr⟩:=zwc hc
 have hR:c.kind≠2→c.kind≠3→c.kind=4∨c.kind=5→zl4 ((z0i (z8k c)).size+1) (z0i (z8k c)) []=(if c.kind=4 then [c.dead,c.was]else [c.dead],0):=by
  intro n2 n3 h
  rw[z8k,if_neg n2,if_neg n3]
  rcases h with h|h
  · rw[if_pos h,if_pos h];exact zy5 okd okw
  · rw[if_neg (by omega),if_pos h,if_neg (by omega)];exact zwy okd
 have hl:=znz c
 have hrz:(z0i (z8k c)).size=(z8k c).length:=z16 _
 have hb:=zkp hc (s:=z0i (z6f c)) rfl
 obtain⟨y1,y2⟩:=zs0 (b:=z0m (z0i (z6f c)) (0:Int).toNat) okk.1 (by omega) k0
 have r2:c.kind=2→(z0i (z8k c)).size=3∧(z0m (z0i (z8k c)) 0).toNat=c.lo.toNat∧(z0m (z0i (z8k c)) 1).toNat=c.hi.toNat∧(z0m (z0i (z8k c)) 2).toNat=c.mode.toNat:=by
  intro h
  have e:z8k c=leB 1 c.lo++(leB 1 c.hi++(leB 1 c.mode++[])):=by rw[z8k,if_pos h]
  rw[hrz,e]
  have x1:z1r (z0i (leB 1 c.lo++(leB 1 c.hi++(leB 1 c.mode++[])))) 1=z0i (leB 1 c.hi++(leB 1 c.mode++[])):=z54 (leB 1 c.lo) _
  have x2:z1r (z0i (leB 1 c.hi++(leB 1 c.mode++[]))) 1=z0i (leB 1 c.mode++[]):=z54 (leB 1 c.hi) _
  refine⟨by simp only[List.length_append,zb3,List.length_nil];rfl,zoz (by omega) (by omega) _, ?_, ?_⟩
  · rw[za4 _ 0,x1];exact zoz (by omega) (by omega) _
  · rw[za4 _ 1,x1,za4 _ 0,x2];exact zoz (by omega) (by omega) _
 have r3:c.kind=3→(z0i (z8k c)).size=2∧(z0m (z0i (z8k c)) 0).toNat=c.lo.toNat∧(z0m (z0i (z8k c)) 1).toNat=c.hi.toNat:=by
  intro h
  have e:z8k c=leB 1 c.lo++(leB 1 c.hi++[]):=by rw[z8k,if_neg (by omega),if_pos h]
  rw[hrz,e]
  have x1:z1r (z0i (leB 1 c.lo++(leB 1 c.hi++[]))) 1=z0i (leB 1 c.hi++[]):=z54 (leB 1 c.lo) _
  refine⟨by simp only[List.length_append,zb3,List.length_nil];rfl,zoz (by omega) (by omega) _, ?_⟩
  rw[za4 _ 0,x1];exact zoz (by omega) (by omega) _
 obtain⟨s,hs⟩: ∃s,z0i (z6f c)=s:=⟨_,rfl⟩
 obtain⟨r,hrr⟩: ∃r,z0i (z8k c)=r:=⟨_,rfl⟩
 rw[hs]at fz g1 g2 k0 hr hb y1 y2⊢
 rw[hrr]at hr hR r2 r3 hrz
 have hmx:s.size≤maxLen:=by simp only[maxLen];omega
 refine Qf [.a (.v (S s))] Tryz.func147 rfl<|QA<|QC<|QE 2 [0,2] rfl<|Qw<|QA<|QA<|QC<|QE 3 [0,2,16] rfl<|Qw<|QX rfl (fun h=> ?_) fun h=> ?_
 ·
  refine QA<|QC<|Yy 1 rfl<|Qs rfl<|QE 1 [2,3] rfl<|Qw<|QO<|QL<|z0h tok rfl ?_
  omega
 ·
  refine QI<|Qw<|QA<|QC<|Yy 1 rfl ?_
  clear h
  refine Qc (.a (.v _)) rfl zaz (fun hg E w1 hm=>by exact z83 s 1 6 hmx _) ?_
  refine QE 5 [0,2,4,5] rfl<|Qw<|QA<|QC<|Yy 1 rfl<|Qc (.a (.v _)) rfl zaz (fun hg E w1 hm=>by exact z83 s 7 4 hmx _) ?_
  refine QE 5 [0,2,4,5,6,7] rfl<|Qw<|QA<|QA<|QC<|Yy 8 rfl<|QY rfl (zct tok rfl (fun hg=>by omega))<|QE 2 [0,2,4,6,38] rfl<|Qw<|Qn rfl (fun h=> ?_) fun h=> ?_
  ·
   exfalso
   rw[g1,g2]at h
   have:((z0m s (0:Int).toNat).toNat:Int)≤5:=by rw[show z0m s (0:Int).toNat=z0m s 0 from rfl,k0];omega
   simp at h
   omega
  ·
   refine QI<|Qw<|QA<|QC<|Yy 1 rfl ?_
   clear h
   refine QY rfl (zct tok rfl (fun hg=>by omega))<|Yy 5 rfl<|Qs rfl<|z07 [0,2,8] rfl<|Qw<|QA<|QC<|Yy 1 rfl ?_
   rw[y2,g1,g2]
   refine QY rfl (j4n tok r rfl (fun hg=>by simp only[Option.getD];omega) hr) ?_
   refine QE 1 [0,2,8,9] rfl<|Qw<|QA<|QA<|QC<|QE 2 [0,2,8,9,49] rfl<|Qw<|QJ<|QA<|QA<|QC<|QE 2 [0,2,8,9,49,50] rfl<|Qw<|Qn rfl (fun h=> ?_) fun h=> ?_
   ·
    refine QI<|Qw<|Qn rfl (fun h2=> ?_) fun h2=> ?_
    ·
     have e:c.kind=2:=by simpa using h2
     have hcc:(⟨c.kind,c.by_,c.serial,0,0,c.lo,c.hi,c.mode⟩:Cmd)=c:=(Cmd.eqB_iff _ _).1 (by
      simp[Cmd.eqB,ok.dead0 (by omega) (by omega),ok.was0 (by omega)])
     obtain⟨q0,q1,q2,q3⟩:=r2 e
     obtain⟨u0,_⟩:=zs0 (b:=z0m r (0:Int).toNat) okl.1 (by omega) q1
     obtain⟨u1,_⟩:=zs0 (b:=z0m r (1:Int).toNat) okh.1 (by omega) q2
     have u2:=zwg (b:=z0m r (2:Int).toNat) okm.1 okm.2 q3
     refine QA<|QA<|QC<|QE 3 [0,2,8,9,55] rfl<|Qw<|QX rfl (fun h=> ?_) fun h=> ?_
     ·
      refine QA<|QC<|Yy 1 rfl<|Qs rfl<|QE 1 [2,3] rfl<|Qw<|QO<|QL<|QP<|QL<|z0h tok rfl ?_
      omega
     ·
      refine QI<|Qw<|QA<|Rb [8] rfl<|QD [0] rfl ?_
      clear h
      refine Qu 1 rfl rfl (zct tok rfl (fun hg=>by omega))<|QD [2,3] rfl<|Qu 4 rfl rfl (zct tok rfl (fun hg=>by omega))<|QD [5,6,7] rfl<|QS<|Qo 8<|Qj 8 rfl<|Qe [0,2,8,9] rfl<|Qw<|QA<|QC<|QE 8 [0,2,8,9,72] rfl<|Qw<|Qn rfl (fun h=> ?_) fun h=> ?_
      ·
       refine QC<|Yy 1 rfl<|QY rfl (zct tok rfl (fun hg=>by omega))<|Yy 3 rfl<|Qs rfl<|z07 [0,2,8] rfl<|QM<|Qw<|QA<|QC<|Yy 1 rfl ?_
       rw[u0,u1,u2]
       refine Qc (.a (.v _)) rfl z40 (fun hg E w1 hm=>by exact hb ⟨c.kind,c.by_,c.serial,0,0,c.lo,c.hi,c.mode⟩ hcc _) ?_
       refine QE 5 [0,2,8,12,13] rfl<|Qw<|QA<|QA<|QC<|QE 7 [2,8,121] rfl<|Qw<|Qn rfl (fun h=> ?_) fun h=> ?_
       ·
        exfalso
        simp at h
       ·
        refine QI<|Qw<|QA<|QC<|Yy 1 rfl<|Qs rfl<|QE 1 [2,3] rfl<|Qw<|QO<|Qb rfl fun E w' hm=>⟨?_,hm.below lr⟩
        show Ending.returned (.tuple #[(⟨c.kind,c.by_,c.serial,0,0,c.lo,c.hi,c.mode⟩:Cmd).val,I 0])=_
        rw[hcc]
      ·
       exfalso
       simp[e,q0]at h
    ·
     exact absurd (h.symm.trans h2) (by decide)
   ·
    refine QC<|QE 2 [0,2,8,9,49,50] rfl<|Qw<|Qn rfl (fun h2=> ?_) fun h2=> ?_
    ·
     have e:c.kind=3:=by simpa using h2
     have hcc:(⟨c.kind,c.by_,c.serial,0,0,c.lo,c.hi,0⟩:Cmd)=c:=(Cmd.eqB_iff _ _).1 (by
      simp[Cmd.eqB,ok.mode0 (by omega),ok.dead0 (by omega) (by omega),ok.was0 (by omega)])
     obtain⟨q0,q1,q2⟩:=r3 e
     obtain⟨u0,_⟩:=zs0 (b:=z0m r (0:Int).toNat) okl.1 (by omega) q1
     obtain⟨u1,_⟩:=zs0 (b:=z0m r (1:Int).toNat) okh.1 (by omega) q2
     refine QA<|QA<|QC<|QE 3 [0,2,8,9,55] rfl<|Qw<|QX rfl (fun h=> ?_) fun h=> ?_
     ·
      refine QA<|QC<|Yy 1 rfl<|Qs rfl<|QE 1 [2,3] rfl<|Qw<|QO<|QL<|QP<|QL<|z0h tok rfl ?_
      omega
     ·
      refine QI<|Qw<|QA<|Rb [8] rfl<|QD [0] rfl ?_
      clear h
      refine Qu 1 rfl rfl (zct tok rfl (fun hg=>by omega))<|QD [2,3] rfl<|Qu 4 rfl rfl (zct tok rfl (fun hg=>by omega))<|QD [5,6,7] rfl<|QS<|Qo 8<|Qj 8 rfl<|Qe [0,2,8,9] rfl<|Qw<|QA<|QC<|QE 8 [0,2,8,9,72] rfl<|Qw<|Qn rfl (fun h=> ?_) fun h=> ?_
      ·
       exfalso
       simp[e]at h
      ·
       refine QI<|QM<|Qw<|QA<|QC<|Yy 1 rfl ?_
       rw[u0,u1]
       refine Qc (.a (.v _)) rfl z40 (fun hg E w1 hm=>by exact hb ⟨c.kind,c.by_,c.serial,0,0,c.lo,c.hi,0⟩ hcc _) ?_
       refine QE 5 [0,2,8,12,13] rfl<|Qw<|QA<|QA<|QC<|QE 7 [2,8,121] rfl<|Qw<|Qn rfl (fun h=> ?_) fun h=> ?_
       ·
        exfalso
        simp at h
       ·
        refine QI<|Qw<|QA<|QC<|Yy 1 rfl<|Qs rfl<|QE 1 [2,3] rfl<|Qw<|QO<|Qb rfl fun E w' hm=>⟨?_,hm.below lr⟩
        show Ending.returned (.tuple #[(⟨c.kind,c.by_,c.serial,0,0,c.lo,c.hi,0⟩:Cmd).val,I 0])=_
        rw[hcc]
    ·
     refine QA<|QA<|QC<|QE 2 [0,2,8,9,49,78] rfl<|Qw<|Qn rfl (fun h4=> ?_) fun h4=> ?_
     ·
      refine QI<|Qw<|Qn rfl (fun h5=> ?_) fun h5=> ?_
      ·
       refine QA<|QC<|Yy 1 rfl ?_
       have e:c.kind=4:=by simpa using h4
       have hR4:=hR (by omega) (by omega) (.inl e)
       rw[if_pos e]at hR4
       have hcc:(⟨c.kind,c.by_,c.serial,c.dead,c.was,0,0,0⟩:Cmd)=c:=(Cmd.eqB_iff _ _).1 (by
        obtain⟨z1,z2⟩:=ok.span (by omega) (by omega)
        simp[Cmd.eqB,z1,z2,ok.mode0 (by omega)])
       refine QZ rfl (zcf r ([c.dead,c.was],0) hR4 rfl (by omega) (fun E=>rfl)) fun _ _=>QE 5 [0,2,8,10,11] rfl<|Qw<|QA<|QA<|QC<|QE 7 [0,2,8,10,92] rfl<|Qw<|Qn rfl (fun h=> ?_) fun h=> ?_
       ·
        exfalso
        simp at h
       ·
        refine QI<|Qw<|QA<|QC<|Yy 1 rfl ?_
        clear h
        refine QY rfl (z0p (s:= .a (.rel 2 0)) 2 rfl rfl (fun v V' hv=>z14 tok 0 rfl (by simp) (fun hg=>hv) (fun hg=>by simp)))<|QY rfl (z0p (s:= .a (.v (I c.dead))) 2 rfl rfl (fun v V' hv=>z08 (enc:=z0a) (l:=[c.dead,c.was]) tok 0 0 c.dead rfl (fun hg=>⟨hv,fun _=>rfl⟩) (fun hg=>rfl) (by simp) rfl))<|Yy 1 rfl<|Qs rfl<|z07 [0,2,8,10] rfl<|Qw<|QA<|QC<|QE 8 [0,2,8,10,105] rfl ?_
        refine Qw<|Qn rfl (fun h=> ?_) fun h=> ?_
        ·
         refine QC<|Yy 1 rfl<|QY rfl (z0p (s:= .a (.rel 2 1)) 2 rfl rfl (fun v V' hv=>z14 tok 1 rfl (by simp) (fun hg=>hv) (fun hg=>by simp)))<|QY rfl (z0p (s:= .a (.v (I c.was))) 2 rfl rfl (fun v V' hv=>z08 (enc:=z0a) (l:=[c.dead,c.was]) tok 1 0 c.was rfl (fun hg=>⟨hv,fun _=>rfl⟩) (fun hg=>rfl) (by simp) rfl))<|Yy 1 rfl<|Qs rfl<|z07 [0,2,8] rfl<|QM<|Qw<|QA<|QC<|Yy 1 rfl<|Qc (.a (.v _)) rfl z40 (fun hg E w1 hm=>by exact hb ⟨c.kind,c.by_,c.serial,c.dead,c.was,0,0,0⟩ hcc _) ?_
         refine QE 5 [0,2,8,12,13] rfl<|Qw<|QA<|QA<|QC<|QE 7 [2,8,121] rfl<|Qw<|Qn rfl (fun h=> ?_) fun h=> ?_
         ·
          exfalso
          simp at h
         ·
          refine QI<|Qw<|QA<|QC<|Yy 1 rfl<|Qs rfl<|QE 1 [2,3] rfl<|Qw<|QO<|Qb rfl fun E w' hm=>⟨?_,hm.below lr⟩
          show Ending.returned (.tuple #[(⟨c.kind,c.by_,c.serial,c.dead,c.was,0,0,0⟩:Cmd).val,I 0])=_
          rw[hcc]
        ·
         exfalso
         simp[e]at h
      ·
       exact absurd (h5.symm.trans h4) (by decide)
     ·
      refine QC<|QE 2 [0,2,8,9,78] rfl<|Qw<|Qn rfl (fun h5=> ?_) fun h5=> ?_
      ·
       refine QA<|QC<|Yy 1 rfl ?_
       have e:c.kind=5:=by simpa using h5
       have hR4:=hR (by omega) (by omega) (.inr e)
       rw[if_neg (by omega)]at hR4
       have hcc:(⟨c.kind,c.by_,c.serial,c.dead,0,0,0,0⟩:Cmd)=c:=(Cmd.eqB_iff _ _).1 (by
        obtain⟨z1,z2⟩:=ok.span (by omega) (by omega)
        simp[Cmd.eqB,z1,z2,ok.mode0 (by omega),ok.was0 (by omega)])
       refine QZ rfl (zcf r ([c.dead],0) hR4 rfl (by omega) (fun E=>rfl)) fun _ _=>QE 5 [0,2,8,10,11] rfl<|Qw<|QA<|QA<|QC<|QE 7 [0,2,8,10,92] rfl<|Qw<|Qn rfl (fun h=> ?_) fun h=> ?_
       ·
        exfalso
        simp at h
       ·
        refine QI<|Qw<|QA<|QC<|Yy 1 rfl ?_
        clear h
        refine QY rfl (z0p (s:= .a (.rel 2 0)) 2 rfl rfl (fun v V' hv=>z14 tok 0 rfl (by simp) (fun hg=>hv) (fun hg=>by simp)))<|QY rfl (z0p (s:= .a (.v (I c.dead))) 2 rfl rfl (fun v V' hv=>z08 (enc:=z0a) (l:=[c.dead]) tok 0 0 c.dead rfl (fun hg=>⟨hv,fun _=>rfl⟩) (fun hg=>rfl) (by simp) rfl))<|Yy 1 rfl<|Qs rfl<|z07 [0,2,8,10] rfl<|Qw<|QA<|QC<|QE 8 [0,2,8,10,105] rfl<|Qw<|Qn rfl (fun h=> ?_) fun h=> ?_
        ·
         exfalso
         simp[e]at h
        ·
         refine QI<|QM<|Qw<|QA<|QC<|Yy 1 rfl<|Qc (.a (.v _)) rfl z40 (fun hg E w1 hm=>by exact hb ⟨c.kind,c.by_,c.serial,c.dead,0,0,0,0⟩ hcc _) ?_
         refine QE 5 [0,2,8,12,13] rfl<|Qw<|QA<|QA<|QC<|QE 7 [2,8,121] rfl<|Qw<|Qn rfl (fun h=> ?_) fun h=> ?_
         ·
          exfalso
          simp at h
         ·
          refine QI<|Qw<|QA<|QC<|Yy 1 rfl<|Qs rfl<|QE 1 [2,3] rfl<|Qw<|QO<|Qb rfl fun E w' hm=>⟨?_,hm.below lr⟩
          show Ending.returned (.tuple #[(⟨c.kind,c.by_,c.serial,c.dead,0,0,0,0⟩:Cmd).val,I 0])=_
          rw[hcc]
      ·
       refine QI<|QM<|Qw<|QA<|QC<|Yy 1 rfl ?_
       have f2: ¬c.kind=2:=by simpa using h
       have f3: ¬c.kind=3:=by simpa using h2
       have f4: ¬c.kind=4:=by simpa using h4
       have f5: ¬c.kind=5:=by simpa using h5
       have hcc:(⟨c.kind,c.by_,c.serial,0,0,0,0,0⟩:Cmd)=c:=(Cmd.eqB_iff _ _).1 (by
        obtain⟨z1,z2⟩:=ok.span f2 f3
        simp[Cmd.eqB,z1,z2,ok.mode0 f2,ok.dead0 f4 f5,ok.was0 f4])
       refine Qc (.a (.v _)) rfl z40 (fun hg E w1 hm=>by exact hb ⟨c.kind,c.by_,c.serial,0,0,0,0,0⟩ hcc _) ?_
       refine QE 5 [0,2,8,12,13] rfl<|Qw<|QA<|QA<|QC<|QE 7 [2,8,121] rfl<|Qw<|Qn rfl (fun h=> ?_) fun h=> ?_
       ·
        exfalso
        simp at h
       ·
        refine QI<|Qw<|QA<|QC<|Yy 1 rfl<|Qs rfl<|QE 1 [2,3] rfl<|Qw<|QO<|Qb rfl fun E w' hm=>⟨?_,hm.below lr⟩
        show Ending.returned (.tuple #[(⟨c.kind,c.by_,c.serial,0,0,0,0,0⟩:Cmd).val,I 0])=_
        rw[hcc]
theorem zkb(s:ByteArray)(hs:s.size≤1000)(w:World):Rt 147 #[S s] w (.tuple #[(zot s).val,I (zkj s)]):=by
 rcases j04 s with⟨c,hc,he,h1,h2⟩|⟨hb,h1,h2⟩
 · rw[h1,h2,he];exact zd5 c hc w
 · rw[h1,h2];exact zey s hs hb w
theorem zrx(s:ByteArray):(ofL 5 s).size≤1000:=by
 rw[ofL]
 split
 ·
  rename_i h
  simp only[ofB,z47,Bool.and_eq_true,decide_eq_true_eq]at h
  rw[z2v,ByteArray.size_extract];omega
 · exact Nat.zero_le _
theorem ziz(s:ByteArray)(hs:s.size≤maxLen)(w:World):Rt 120 #[S s] w (.tuple #[(drC s).val,S (drS s), .bool (drB s),I (drE s)]):=by
 have hos:=zrx s
 refine Qf [.a (.v (S s))] Tryz.func120 rfl<|QA<|QC<|QE 4 [0,2] rfl<|Qw<|QA<|QA<|QC<|QE 2 [0,2,10] rfl<|Qw<|Qn rfl (fun h=> ?_) fun h=> ?_
 ·
  refine QA<|QC<|Yy 1 rfl<|Qs rfl<|QE 3 [2,3,4,5] rfl<|Qw<|QO<|QL<|z0h tok rfl ?_
  have hem:(s.toList==ByteArray.empty.toList)=true:=h
  have hB:drB s=false:=by rw[drB,hem];rfl
  have hE:drE s=0:=by rw[drE,if_pos (.inl hem)]
  intro E w' hm _
  refine⟨?_,hm.below lr⟩
  rw[drC,drS,hB,hE];rfl
 ·
  refine QI<|Qw<|QA<|QC<|Yy 1 rfl ?_
  have hem:(s.toList==ByteArray.empty.toList)=false:=h
  clear h
  refine Qc (.a (.v _)) rfl zu4 (fun hg E w1 hm=>by exact zti 5 s hs _) ?_
  refine QE 5 [2,6,7] rfl<|Qw<|QA<|QA<|QC<|QE 2 [2,6,18] rfl<|Qw<|QX rfl (fun h=> ?_) fun h=> ?_
  ·
   refine QA<|QC<|Yy 1 rfl<|Qs rfl<|QE 3 [2,3,4,5] rfl<|Qw<|QO<|QL<|z0h tok rfl ?_
   have hB:drB s=false:=by rw[drB,hem];simp[h]
   have hE:drE s=50:=by rw[drE,if_neg (by rw[hem,hB];decide)]
   intro E w' hm _
   refine⟨?_,hm.below lr⟩
   rw[drC,drS,hB,hE];rfl
  ·
   refine QI<|Qw<|QA<|QC<|Yy 1 rfl ?_
   have ho:=h
   clear h
   refine Qc (.a (.v _)) rfl j11 (fun hg E w1 hm=>by exact zkb (ofL 5 s) hos _) ?_
   refine Yy 4 rfl<|Qs rfl<|QE 1 [2,6,7,8] rfl<|Qw<|QA<|QA<|QC<|QE 2 [2,6,8,26] rfl<|Qw<|QX rfl (fun h=> ?_) fun h=> ?_
   ·
    refine QA<|QC<|Yy 1 rfl<|Qs rfl<|QE 3 [2,3,4,5] rfl<|Qw<|QO<|QL<|z0h tok rfl ?_
    have hB:drB s=false:=by rw[drB,hem];simp[h]
    have hE:drE s=50:=by rw[drE,if_neg (by rw[hem,hB];decide)]
    intro E w' hm _
    refine⟨?_,hm.below lr⟩
    rw[drC,drS,hB,hE];rfl
   ·
    refine QI<|Qw<|QA<|QC<|Yy 2 rfl<|Qs rfl<|QE 3 [2,3,4,5] rfl<|Qw<|QO<|z0h tok rfl ?_
    have hB:drB s=true:=by rw[drB,hem,ho,h];rfl
    have hE:drE s=0:=by rw[drE,if_pos (.inr hB)]
    intro E w' hm _
    refine⟨?_,hm.below lr⟩
    rw[drC,drS,hB,hE];rfl
theorem zqm(V:Vw)(sv:Value)(L:List ByteArray)(w:World)(hV:V.le (vw w))(hs0:SlOf V z1a 1 sv L)(hL: ∀s∈L,s.size≤maxLen)(hln:L.length≤1000000):
  Cl 94 #[sv] w (zea (ze9 L []) w):=by
 have hs:=hs0.mono hV
 refine Qf [.a (.v sv)] Tryz.func94 rfl<|QA<|QC<|QE 2 [0] rfl<|Qw<|QA<|QC<|QE 1 [0,4] rfl<|Qw<|QA<|QA<|QC<|QE 1 [0,4,5] rfl<|Qw<|QJ<|z6l 4 164 8 rfl rfl<|Ql [0] [0] rfl rfl (σ:=Nat×List Cmd) (fun(k,acc)=>[(4, .a (.row 0)),(5, .a (.v (I k)))]) (fun(k,acc)=>[(0, .row 164 8 acc.length (acc.flatMap Cmd.cells))]) (fun(k,acc)=>k≤L.length∧ze9 L []=ze9 (L.drop k) acc∧acc.length=k) (fun(k,acc)=>L.length - k) ((0,[])) (⟨by omega,rfl,rfl⟩) ?_
 rintro⟨k,acc⟩ ⟨hk,heq,hal⟩
 refine QA<|QA<|QC<|Yy 2 rfl<|QY rfl (z0l tok rfl (fun hg=>hs.sl))<|QE 1 [0,4,5,13] rfl<|Qw<|QX rfl (fun h=> ?_) fun h=> ?_
 ·
  refine QI<|Qw<|QA<|QJ<|QA<|QC<|Yy 2 rfl ?_
  obtain⟨x,h_x⟩:=hs.at (k:=k) (by omega)
  have hlt_x:=z01 h_x
  refine QY rfl (z0c tok rfl (fun hg=>hs.sl) (fun hg=>⟨by omega,by omega⟩))<|QY rfl (z08 tok (k) 0 (x) rfl (fun hg=>hs) (fun hg=>h_x) rfl rfl) ?_
  have hx:=hL x (List.mem_of_getElem? h_x)
  rw[z27 h_x,ze9]at heq
  refine Qc (.a (.v _)) rfl j0j (fun hg E w1 hm=>by exact ziz x hx _) ?_
  refine Yy 6 rfl<|Qs rfl<|QE 3 [0,4,5,6,8,9] rfl<|Qw<|QA<|QA<|QC<|QE 2 [0,4,5,6,8,9,27] rfl<|Qw<|QX rfl (fun h=> ?_) fun h=> ?_
  ·
   refine QA<|QC<|QE 3 [2,3] rfl<|Qw<|QO<|QL<|QP<|QL<|QL<|QP<|QL<|Qb rfl fun E w' hm=> ?_
   rw[if_pos h]at heq
   refine⟨⟨_,by rw[heq];rfl, ?_⟩,hm.below lr⟩
   rw[heq]
   exact World.ownsRow_nil _ _ _ _
  ·
   have he:=h
   clear h
   rw[if_neg (by simp[he])]at heq
   refine QI<|Qw<|QA<|QA<|QC<|QE 2 [0,4,5,6,30] rfl<|Qw<|Qn rfl (fun h=> ?_) fun h=> ?_
   ·
    refine QA<|QC<|QE 3 [2,3] rfl<|Qw<|QO<|QL<|QP<|QL<|QL<|QP<|QL<|z0h tok rfl ?_
    have hb:drB x=false:=by simpa using h
    rw[if_pos hb]at heq
    intro E w' hm _
    refine⟨⟨_,by rw[heq];rfl, ?_⟩,hm.below lr⟩
    rw[heq]
    exact hm.rowFresh lr (l:=0) rfl
   ·
    refine QI<|Qw<|QC<|Yy 2 rfl ?_
    have hb:drB x=true:=by simpa using h
    rw[if_neg (by simp[hb])]at heq
    clear h
    refine QZ rfl (z1q tok 8 rfl rfl rfl) fun _ _=>QZ rfl (z0g tok ([drC x].flatMap Cmd.cells) rfl (fun E w hm=>z09 (hm.row 2 _ _ _ _ rfl)) (fun _ _ _=>zok _) (by dsimp only;omega)) fun _ _=>QE 1 [0,4,5] rfl<|QM<|Qw<|QC<|QE 3 [0,4,5] rfl<|Qw ?_
    rw[←List.flatMap_append,show acc.length+1=(acc++[drC x]).length by simp,z06 (n:=(k:Int)+1) (by omega) (by omega)]
    refine z00 0 3 rfl<|Qr ((k+1,acc++[drC x]))<|⟨by omega,heq,by simp[hal]⟩
 ·
  refine QN<|QK<|QK<|QQ<|Qw<|QA<|QC<|QE 3 [2,3] rfl<|Qw<|QO<|z0h tok rfl ?_
  have hkL:k=L.length:=by omega
  subst hkL
  rw[List.drop_length,ze9]at heq
  intro E w' hm _
  refine⟨⟨_,by rw[heq];rfl, ?_⟩,hm.below lr⟩
  rw[heq]
  exact hm.rowFresh lr (l:=0) rfl
theorem zrt(V:Vw)(av bv:Value)(A:List Int)(w:World)(hV:V.le (vw w))(ha0:SlOf V z0a 1 av A)(hb0:SlOf V z0a 1 bv A)(hA:A.length≤1000000):
  Rt 19 #[av,bv] w (.bool true):=by
 have ha:=ha0.mono hV
 have hb:=hb0.mono hV
 refine Qf [.a (.v av), .a (.v bv)] Tryz.func19 rfl<|QA<|QC<|QE 1 [0,1] rfl<|Qw<|QA<|QA<|QC<|Yy 1 rfl<|QY rfl (z0l tok rfl (fun hg=>ha.sl))<|Yy 1 rfl<|QY rfl (z0l tok rfl (fun hg=>hb.sl))<|QE 1 [0,1,10] rfl<|Qw<|Qn rfl (fun h=> ?_) fun h=> ?_
 ·
  exfalso
  simp at h
 ·
  refine QI<|Qw<|QA<|QA<|QC<|QE 1 [0,1,5] rfl<|Qw<|QJ ?_
  clear h
  refine Ql [0,1] [] rfl rfl (σ:=Nat) (fun k=>[(5, .a (.v (I k)))]) (fun k=>[]) (fun k=>k≤A.length) (fun k=>A.length - k) (0) (by omega) ?_
  rintro k hk
  refine QA<|QA<|QC<|Yy 2 rfl<|QY rfl (z0l tok rfl (fun hg=>ha.sl))<|QE 1 [0,1,5,14] rfl<|Qw<|QX rfl (fun h=> ?_) fun h=> ?_
  ·
   refine QI<|Qw<|QA<|QJ<|QA<|z11 mixed (by kernel_rfl)<|Dm 2 rfl ?_
   obtain⟨x,h_x⟩:=ha.at (k:=k) (by omega)
   have hlt_x:=z01 h_x
   refine Qd rfl (z0c tok rfl (fun hg=>ha.sl) (fun hg=>⟨by omega,by omega⟩))<|Qd rfl (z08 tok (k) 0 (x) rfl (fun hg=>ha) (fun hg=>h_x) rfl rfl)<|Dm 2 rfl ?_
   have hlt_x:=z01 h_x
   refine Qd rfl (z0c tok rfl (fun hg=>hb.sl) (fun hg=>⟨by omega,by omega⟩))<|Qd rfl (z08 tok (k) 0 (x) rfl (fun hg=>hb) (fun hg=>h_x) rfl rfl)<|Dm 1 rfl<|z1z [0,1,5,25] rfl<|Qw<|Qn rfl (fun h=> ?_) fun h=> ?_
   ·
    exfalso
    simp at h
   ·
    refine QI<|QM<|Qw<|QC<|QE 3 [0,1,5] rfl<|Qw ?_
    rw[z06 (n:=(k:Int)+1) (by omega) (by omega)]
    refine Qr (k+1) (by omega)
  ·
   refine QN<|QK<|QK<|QQ<|Qw<|QA<|QC<|QE 1 [4] rfl<|Qw<|QO<|Qb rfl fun E w' hm=>⟨?_,hm.below lr⟩
   rfl
theorem zi9(lo hi:Int)(w:World):Rt 223 #[.agg #[I lo,I hi]] w (.bool (decide (hi<lo))):=by
 refine Qf [.a (.v (.agg #[I lo,I hi]))] Tryz.func223 rfl<|QA<|QC<|QE 2 [1] rfl<|Qw<|QA<|QC<|QE 8 [2] rfl<|Qw<|QO<|Qb rfl fun E w' hm=> ?_
 exact⟨rfl,hm.below lr⟩
def j85(lo hi n:Int):Bool:=decide (lo≤n)&&decide (n≤hi)
theorem zt9(lo hi n:Int)(w:World):Rt 230 #[.agg #[I lo,I hi],I n] w (.bool (j85 lo hi n)):=by
 refine Qf [.a (.v (.agg #[I lo,I hi])), .a (.v (I n))] Tryz.func230 rfl<|QA<|QC<|QE 2 [1,2] rfl<|Qw<|QA<|QC<|QE 13 [4] rfl<|Qw<|QO<|Qb rfl fun E w' hm=> ?_
 exact⟨rfl,hm.below lr⟩
def zax(lo hi lo' hi':Int):Bool:=(!decide (hi<lo)&& !decide (hi'<lo'))&&(j85 lo hi lo'||j85 lo' hi' lo)
theorem zj2(lo hi lo' hi':Int)(w:World):Rt 226 #[.agg #[I lo,I hi], .agg #[I lo',I hi']] w (.bool (zax lo hi lo' hi')):=by
 refine Qf [.a (.v (.agg #[I lo,I hi])), .a (.v (.agg #[I lo',I hi']))] Tryz.func226 rfl<|QA<|QC<|QE 3 [2,3] rfl<|Qw<|QA<|QC<|Yy 1 rfl<|Qc (.a (.v _)) rfl zkw (fun hg E w1 hm=>by exact zi9 _ _ _) ?_
 refine Yy 3 rfl<|Qc (.a (.v _)) rfl zkw (fun hg E w1 hm=>by exact zi9 _ _ _) ?_
 refine Yy 7 rfl<|Qc (.a (.v _)) rfl zua (fun hg E w1 hm=>by exact zt9 _ _ _ _) ?_
 refine Yy 5 rfl<|Qc (.a (.v _)) rfl zua (fun hg E w1 hm=>by exact zt9 _ _ _ _) ?_
 refine QE 3 [4] rfl<|Qw<|QO<|Qb rfl fun E w' hm=> ?_
 exact⟨rfl,hm.below lr⟩
theorem zks(lo hi lo' hi':Int)(w:World):Rt 213 #[.agg #[I lo,I hi], .agg #[I lo',I hi']] w (.bool (zax lo hi lo' hi')):=by
 refine Qf [.a (.v (.agg #[I lo,I hi])), .a (.v (.agg #[I lo',I hi']))] Tryz.func213 rfl<|QA<|QC<|QE 3 [2,3] rfl<|Qw<|QA<|QC<|Yy 4 rfl<|Qc (.a (.v _)) rfl zs7 (fun hg E w1 hm=>by exact zj2 _ _ _ _ _) ?_
 refine QE 1 [4] rfl<|Qw<|QO<|Qb rfl fun E w' hm=> ?_
 exact⟨rfl,hm.below lr⟩
theorem zyf(h:Hold)(w:World):Rt 231 #[h.val] w (.agg #[I h.lo,I h.hi,I h.key,I8 h.mode]):=by
 refine Qf [.a (.v h.val)] Tryz.func231 rfl<|QA<|QC<|QE 2 [1,2] rfl<|Qw<|QA<|QC<|Yy 8 rfl<|Qs rfl<|z07 [2] rfl<|Qw<|QO<|Qb rfl fun E w' hm=> ?_
 exact⟨rfl,hm.below lr⟩
def z2g(a b:Hold):Bool:=((a.key==b.key)|| !zax a.lo a.hi b.lo b.hi)||((a.mode==1)&&(b.mode==1))
theorem zvv(a b:Hold)(w:World):Rt 232 #[.agg #[I a.lo,I a.hi,I a.key,I8 a.mode], .agg #[I b.lo,I b.hi,I b.key,I8 b.mode]] w (.bool (z2g a b)):=by
 refine Qf [.a (.v (.agg #[I a.lo,I a.hi,I a.key,I8 a.mode])), .a (.v (.agg #[I b.lo,I b.hi,I b.key,I8 b.mode]))] Tryz.func232 rfl<|QA<|QC<|QE 3 [2,3] rfl<|Qw<|QA<|QC<|Yy 10 rfl<|Qc (.a (.v _)) rfl zs7 (fun hg E w1 hm=>by exact zj2 _ _ _ _ _) ?_
 refine QE 13 [4] rfl<|Qw<|QO<|Qb rfl fun E w' hm=> ?_
 exact⟨rfl,hm.below lr⟩
theorem zjv(a b:Hold)(w:World):Rt 228 #[a.val,b.val] w (.bool (z2g a b)):=by
 refine Qf [.a (.v a.val), .a (.v b.val)] Tryz.func228 rfl<|QA<|QC<|QE 3 [2,3] rfl<|Qw<|QA<|z11 mixed (by kernel_rfl)<|Dm 1 rfl<|Qq (.a (.v _)) rfl zsi (fun hg E w1 hm=>by exact zyf a _) ?_
 refine Dm 1 rfl<|Qq (.a (.v _)) rfl zsi (fun hg E w1 hm=>by exact zyf b _) ?_
 refine Qq (.a (.v _)) rfl j3y (fun hg E w1 hm=>by exact zvv a b _) ?_
 refine Dm 1 rfl<|z1z [4] rfl<|Qw<|QO<|Qb rfl fun E w' hm=> ?_
 exact⟨rfl,hm.below lr⟩
def may(blocks lo hi:Int):Bool:=(!decide (hi<lo)&&decide (0≤lo))&&decide (hi<blocks)
theorem j2n(g:Geo)(lo hi:Int)(w:World):Rt 210 #[g.val, .agg #[I lo,I hi]] w (.bool (may g.blocks lo hi)):=by
 refine Qf [.a (.v g.val), .a (.v (.agg #[I lo,I hi]))] Tryz.func210 rfl<|QA<|QC<|QE 3 [2,3] rfl<|Qw<|QA<|QC<|Yy 2 rfl<|Qc (.a (.v _)) rfl zkw (fun hg E w1 hm=>by exact zi9 _ _ _) ?_
 refine QE 14 [4] rfl<|Qw<|QO<|Qb rfl fun E w' hm=> ?_
 exact⟨rfl,hm.below lr⟩
def zjh(blocks:Int)(h:Hold):Bool:=(decide (0<h.key)&&may blocks h.lo h.hi)&&((h.mode==1)||(h.mode==2))
theorem zy8(g:Geo)(h:Hold)(w:World):Rt 196 #[g.val,h.val] w (.bool (zjh g.blocks h)):=by
 refine Qf [.a (.v g.val), .a (.v h.val)] Tryz.func196 rfl<|QA<|QC<|QE 3 [2,3] rfl<|Qw<|QA<|QC<|Yy 7 rfl<|Qc (.a (.v _)) rfl j2u (fun hg E w1 hm=>by exact j2n g _ _ _) ?_
 refine QE 12 [4] rfl<|Qw<|QO<|Qb rfl fun E w' hm=> ?_
 exact⟨rfl,hm.below lr⟩
/-! slices.IndexFunc, ContainsFunc -/
def z3r{α:Type}(pr:α→Bool)(l:List α):Int:=match l.findIdx? pr with
 |some k=>k
 |none=> -1
def zar(V:Vw)(fv:Value)(pr:Hold→Bool):Prop:=
 ∀x w',V.le (vw w')→z7r Tryz.prog fv [x.val] w' fun e w''=>e= .returned (.bool (pr x))∧Below w'.heap.size w' w''
theorem z58(V:Vw)(fv sv:Value)(pr:Hold→Bool)(l:List Hold)(w:World)(hV:V.le (vw w))(hs:SlOf V Hold.cells 4 sv l)(hn:l.length≤lim)(hf:zar V fv pr):
  Rt 199 #[sv,fv] w (I (z3r pr l)):=by
 unfold lim at hn
 have hs':=hs.mono hV
 refine Qf [.a (.v sv), .a (.v fv)] Tryz.func199 rfl<|QA<|QC<|QE 1 [0,1] rfl<|Qw<|QA<|QA<|QC<|Yy 1 rfl<|QY rfl (z0l tok rfl (fun hg=>hs'.sl))<|QE 1 [0,1,7,8] rfl<|Qw<|QJ ?_
 refine zcp (σ:=Nat) (fun k=>[(0, .a (.v sv)),(1, .a (.v fv)),(7, .a (.v (I l.length))),(8, .a (.v (I k)))]) (fun _=>[]) 0 (fun _=>vw w)
  (fun k=>k≤l.length∧ ∀j x,j<k→l[j]? =some x→pr x=false) (fun k=>l.length - k) 0 ⟨by omega,by simp⟩ ⟨rfl,rfl,rfl,rfl,trivial⟩ trivial rfl lr ?_
 rintro k ⟨hk,hall⟩
 refine QA<|QC<|QE 1 [0,1,7,8,9] rfl<|Qw<|QA<|Qn rfl (fun h=> ?_) fun h=> ?_
 ·
  refine QI<|Qw<|QA<|QJ<|QA<|QC<|QE 2 [0,1,5,7,8] rfl<|Qw<|QA<|QC<|Yy 3 rfl ?_
  have hlt:k<l.length:=by simp at h;exact h
  have hx:l[k]? =some l[k]:=by simp[hlt]
  refine QY rfl (z0c tok rfl (fun hg=>hs'.sl) (fun hg=>⟨by omega,by omega⟩))<|QY rfl (z08 tok (k) 0 (l[k]) rfl (fun hg=>hs') (fun hg=>hx) rfl rfl)<|z7w (.a (.v _)) rfl rfl rfl rfl rfl (fun hg E w1 hm=>by exact hf l[k] w1 (hV.trans hm.leV)) ?_
  refine z07 [0,1,5,7,8,16] rfl<|Qw<|Qn rfl (fun h=> ?_) fun h=> ?_
  ·
   refine QA<|QC<|QE 2 [4] rfl<|Qw<|QO<|QP<|QL<|QL<|QP<|QL<|Qb rfl fun E w' hm=>⟨?_,hm.below lr⟩
   rw[z3r,findIdx?_at hx h hall];rfl
  ·
   refine QI<|QM<|Qw<|QC<|QE 2 [0,1,7,8] rfl<|Qw ?_
   rw[z06 (by omega) (by omega)]
   exact Qr (k+1) ⟨by omega,z3q hx hall h⟩ (hμ:=by omega) (hs:=⟨rfl,rfl,rfl,rfl,trivial⟩) (hO:=trivial)
 ·
  refine QN<|QK<|QK<|QQ<|Qw<|QA<|QC<|QE 1 [4] rfl<|Qw<|QO<|z0h tok rfl ?_
  have hge:k=l.length:=by simp at h;omega
  intro E w' hm _
  refine⟨?_,hm.below lr⟩
  rw[z3r,findIdx?_no (hge▸hall)];rfl
theorem zby(V:Vw)(fv sv:Value)(pr:Hold→Bool)(l:List Hold)(w:World)(hV:V.le (vw w))(hs:SlOf V Hold.cells 4 sv l)(hn:l.length≤lim)(hf:zar V fv pr):
  Rt 224 #[sv,fv] w (.bool (l.any pr)):=by
 refine Qf [.a (.v sv), .a (.v fv)] Tryz.func224 rfl<|QA<|QC<|QE 1 [0,1] rfl<|Qw<|QA<|QC<|Yy 2 rfl<|Qc (.a (.v _)) rfl zh7 (fun hg E w1 hm=>by exact z58 V fv sv pr l _ (hV.trans hm.leV) hs hn hf) ?_
 refine QE 2 [4] rfl<|Qw<|QO<|Qb rfl fun E w' hm=>⟨?_,hm.below lr⟩
 have:decide (0≤z3r pr l)=l.any pr:=by
  rw[←zkr,z3r]
  cases l.findIdx? pr<;>simp
 rw[←this];rfl
theorem zlz(V:Vw)(fv:Value)(pr:Hold→Bool)(b:Nat)(hb:V.get b=some (.cells #[fv] 283 (0,0)))(hf:zar V fv pr)(x:Hold)(w:World)(hV:V.le (vw w)):
  Rt 225 #[x.val, .pointer (some ⟨b,0,none⟩)] w (.bool (!pr x)):=by
 refine Qf [.a (.v x.val), .a (.v (.pointer (some ⟨b,0,none⟩)))] Tryz.func225 rfl<|QA<|QC<|QE 2 [1,2] rfl<|Qw<|QA<|QC<|QY rfl (z2p (cs:=[fv]) tok rfl (fun hg=>hV.get _ _ hb) rfl)<|Yy 1 rfl<|z7w (.a (.v _)) rfl rfl rfl rfl rfl (fun hg E w1 hm=>by exact hf x w1 (hV.trans hm.leV)) ?_
 refine QE 2 [3] rfl<|Qw<|QO<|Qb rfl fun E w' hm=> ?_
 exact⟨rfl,hm.below lr⟩
theorem zkf(V:Vw)(k:Nat)(caps:Array Value)(sv:Value)(pr:Hold→Bool)(l:List Hold)(w:World)(hV:V.le (vw w))(hs:SlOf V Hold.cells 4 sv l)(hn:l.length≤lim)
  (hf:zar V (.func (.func k) #[] caps) pr):
  Rt 211 #[.func (.func k) #[] caps,sv] w (.bool (l.all pr)):=by
 refine Qf [.a (.v (.func (.func k) #[] caps)), .a (.v sv)] Tryz.func211 rfl<|QA<|QC<|QE 2 [1,2] rfl<|Qw<|QA<|QC<|Yy 2 rfl<|Qc (.a (.v (.bool (l.any fun x=> !pr x)))) rfl j3x (fun hg E w1 hm=> ?_) ?_
 ·
  have hle:=hm.leV
  have hb:=hm.lit 0 _ _ rfl
  refine zby (vw w1) _ sv (fun x=> !pr x) l w1 lr (hs.mono (hV.trans hle)) hn ?_
  intro x w' hle'
  exact⟨225,_,rfl,j1q,zlz (vw w1) _ pr (E.ρ 0) hb (fun x w' h=>hf x w' ((hV.trans hle).trans h)) x w' hle'⟩
 refine QE 2 [4] rfl<|Qw<|QO<|Qb rfl fun E w' hm=>⟨?_,hm.below lr⟩
 show Ending.returned (.bool (!(l.any fun x=> !pr x)))=_
 rw[List.all_eq_not_any_not]
/-! Fits -/
theorem zpd(V:Vw)(h:Hold)(b:Nat)(hb:V.get b=some (.cells h.cells.toArray 196 (0,0)))(x:Hold)(w:World)(hV:V.le (vw w)):
  Rt 227 #[x.val, .pointer (some ⟨b,0,none⟩)] w (.bool (z2g h x)):=by
 refine Qf [.a (.v x.val), .a (.v (.pointer (some ⟨b,0,none⟩)))] Tryz.func227 rfl<|QA<|QC<|QE 2 [1,2] rfl<|Qw<|QA<|QC<|QY rfl (z2p (cs:=h.cells) tok rfl (fun hg=>hV.get _ _ hb) rfl)<|Yy 1 rfl<|Qc (.a (.v _)) rfl j1i (fun hg E w1 hm=>by exact zjv h x _) ?_
 refine QE 1 [3] rfl<|Qw<|QO<|Qb rfl fun E w' hm=> ?_
 exact⟨rfl,hm.below lr⟩
def zbo(h:Hold)(l:List Hold):Bool:=l.all (z2g h)
theorem znh(V:Vw)(h:Hold)(sv:Value)(l:List Hold)(w:World)(hV:V.le (vw w))(hs:SlOf V Hold.cells 4 sv l)(hn:l.length≤lim):
  Rt 214 #[h.val,sv] w (.bool (zbo h l)):=by
 refine Qf [.a (.v h.val), .a (.v sv)] Tryz.func214 rfl<|QA<|QC<|QE 2 [1,2] rfl<|Qw<|QA<|QC<|Yy 2 rfl<|Qc (.a (.v (.bool (zbo h l)))) rfl zqi (fun hg E w1 hm=> ?_) ?_
 ·
  refine zkf (vw w1) 227 _ sv (z2g h) l w1 lr (hs.mono (hV.trans hm.leV)) hn ?_
  intro x w' hle'
  exact⟨227,_,rfl,j2m,zpd (vw w1) h (E.ρ 0) (hm.lit 0 _ _ rfl) x w' hle'⟩
 refine QE 1 [4] rfl<|Qw<|QO<|Qb rfl fun E w' hm=> ?_
 exact⟨rfl,hm.below lr⟩
/-! Covers -/
/-! Touches -/
def z30(key lo hi:Int)(o:Hold):Bool:=(o.key==key)&&zax o.lo o.hi lo hi
theorem zi5(V:Vw)(key lo hi:Int)(b1 b2:Nat)(h1:V.get b1=some (.cells #[I key] 3 (0,0)))(h2:V.get b2=some (.cells #[I lo,I hi] 162 (0,0)))
  (o:Hold) (w:World) (hV:V.le (vw w)):
  Rt 212 #[o.val, .pointer (some ⟨b1,0,none⟩), .pointer (some ⟨b2,0,none⟩)] w (.bool (!z30 key lo hi o)):=by
 refine Qf [.a (.v o.val), .a (.v (.pointer (some ⟨b1,0,none⟩))), .a (.v (.pointer (some ⟨b2,0,none⟩)))] Tryz.func212 rfl<|QA<|QC<|QE 2 [1,2,3] rfl<|Qw<|QA<|QC<|Yy 2 rfl<|QY rfl (z2p (cs:=[I key]) tok rfl (fun hg=>hV.get _ _ h1) rfl)<|Yy 4 rfl<|QY rfl (z2p (cs:=[I lo,I hi]) tok rfl (fun hg=>hV.get _ _ h2) rfl)<|Qc (.a (.v _)) rfl j22 (fun hg E w1 hm=>by exact zks _ _ _ _ _) ?_
 refine QE 3 [4] rfl<|Qw<|QO<|Qb rfl fun E w' hm=>⟨?_,hm.below lr⟩
 show Ending.returned (.bool ((o.key !=key)|| !zax o.lo o.hi lo hi))=_
 congr 2
 unfold z30 bne
 cases (o.key==key)<;>cases zax o.lo o.hi lo hi<;>rfl
def z4c(l:List Hold)(key lo hi:Int):Bool:=l.any (z30 key lo hi)
theorem zly(V:Vw)(sv:Value)(l:List Hold)(key lo hi:Int)(w:World)(hV:V.le (vw w))(hs:SlOf V Hold.cells 4 sv l)(hn:l.length≤lim):
  Rt 197 #[sv,I key, .agg #[I lo,I hi]] w (.bool (z4c l key lo hi)):=by
 refine Qf [.a (.v sv), .a (.v (I key)), .a (.v (.agg #[I lo,I hi]))] Tryz.func197 rfl<|QA<|QC<|QE 3 [0,4,5] rfl<|Qw<|QA<|QC<|Yy 2 rfl<|Qc (.a (.v (.bool (l.all fun o=> !z30 key lo hi o)))) rfl zqi (fun hg E w1 hm=> ?_) ?_
 ·
  refine zkf (vw w1) 212 _ sv (fun o=> !z30 key lo hi o) l w1 lr (hs.mono (hV.trans hm.leV)) hn ?_
  intro x w' hle'
  exact⟨212,_,rfl,j2x,zi5 (vw w1) key lo hi (E.ρ 0) (E.ρ 1) (hm.lit 0 _ _ rfl) (hm.lit 1 _ _ rfl) x w' hle'⟩
 refine QE 2 [6] rfl<|Qw<|QO<|Qb rfl fun E w' hm=>⟨?_,hm.below lr⟩
 show Ending.returned (.bool (!(l.all fun o=> !z30 key lo hi o)))=_
 rw[z4c,List.any_eq_not_all_not]
/-! All -/
def zcx:List Hold→Nat→List Hold→Bool
 |_,_,[]=>true
 |l,i,h::r=>zbo h (l.take i)&&zcx l (i+1) r
def ztx(l:List Hold):Bool:=zcx l 0 l
theorem zqr(b lo hi:Int):((decide (0≤lo)&&decide (lo≤hi))&&decide (hi<b))=may b lo hi:=by
 unfold may
 rw[Bool.eq_iff_iff]
 simp
 omega
theorem zx8(g:Geo)(lo hi:Int)(w:World):Rt 149 #[g.val, .agg #[I lo,I hi]] w (.bool (may g.blocks lo hi)):=by
 refine Qf [.a (.v g.val), .a (.v (.agg #[I lo,I hi]))] Tryz.func149 rfl<|QA<|QC<|QE 3 [2,3] rfl<|Qw<|QA<|QC<|QE 18 [4] rfl<|Qw<|QO<|Qb rfl fun E w' hm=> ?_
 exact⟨by rw[←zqr];rfl,hm.below lr⟩
theorem ztu(g:Geo)(h:Hold)(w:World):Rt 125 #[g.val,h.val] w (.bool (zjh g.blocks h)):=by
 refine Qf [.a (.v g.val), .a (.v h.val)] Tryz.func125 rfl<|QA<|QC<|QE 3 [2,3] rfl<|Qw<|QA<|QC<|Yy 7 rfl<|Qc (.a (.v _)) rfl j3t (fun hg E w1 hm=>by exact zx8 g _ _ _) ?_
 refine QE 12 [4] rfl<|Qw<|QO<|Qb rfl fun E w' hm=>⟨?_,hm.below lr⟩
 show Ending.returned (.bool ((decide (1≤h.key)&&may g.blocks h.lo h.hi)&&((h.mode==1)||(h.mode==2))))=_
 rw[show decide (1≤h.key)=decide (0<h.key) by rw[Bool.eq_iff_iff];simp;omega]
 rfl
theorem zho(lo hi lo' hi':Int):(((decide (lo≤hi)&&decide (lo'≤hi'))&&decide (lo≤hi'))&&decide (lo'≤hi))=zax lo hi lo' hi':=by
 unfold zax j85
 rw[Bool.eq_iff_iff]
 simp
 omega
theorem zbd(lo hi lo' hi':Int)(w:World):Rt 150 #[.agg #[I lo,I hi], .agg #[I lo',I hi']] w (.bool (zax lo hi lo' hi')):=by
 refine Qf [.a (.v (.agg #[I lo,I hi])), .a (.v (.agg #[I lo',I hi']))] Tryz.func150 rfl<|QA<|QC<|QE 3 [2,3] rfl<|Qw<|QA<|QC<|QE 27 [4] rfl<|Qw<|QO<|Qb rfl fun E w' hm=> ?_
 exact⟨by rw[←zho];rfl,hm.below lr⟩
theorem zgw(a b:Hold)(w:World):Rt 166 #[a.val,b.val] w (.bool (z2g a b)):=by
 refine Qf [.a (.v a.val), .a (.v b.val)] Tryz.func166 rfl<|QA<|QC<|QE 3 [2,3] rfl<|Qw<|QA<|QC<|Yy 10 rfl<|Qc (.a (.v _)) rfl zse (fun hg E w1 hm=>by exact zbd _ _ _ _ _) ?_
 refine QE 13 [4] rfl<|Qw<|QO<|Qb rfl fun E w' hm=> ?_
 exact⟨rfl,hm.below lr⟩
theorem zjj(V:Vw)(a:Hold)(sv:Value)(l:List Hold)(w:World)(hV:V.le (vw w))(hs:SlOf V Hold.cells 4 sv l)(hn:l.length≤lim):
  Rt 151 #[a.val,sv] w (.bool (zbo a l)):=by
 unfold lim at hn
 have hs':=hs.mono hV
 refine Qf [.a (.v a.val), .a (.v sv)] Tryz.func151 rfl<|QA<|QC<|QE 2 [1,2] rfl<|Qw<|QA<|QA<|QC<|QE 1 [1,2,5] rfl<|Qw<|QJ ?_
 refine zcp (σ:=Nat) (fun k=>[(1, .a (.v sv)),(2, .a (.ptr 0 0)),(5, .a (.v (I k)))]) (fun _=>[(0, .lit [.v (I a.key), .v (I a.lo), .v (I a.hi), .v (I8 a.mode)] 196)]) 1 (fun _=>vw w)
  (fun k=>k≤l.length∧ ∀j y,j<k→l[j]? =some y→z2g a y=true) (fun k=>l.length - k) 0 ⟨by omega,by simp⟩ ⟨rfl,rfl,rfl,trivial⟩ ⟨rfl,trivial⟩ rfl lr ?_
 rintro k ⟨hk,hall⟩
 refine QA<|QA<|QC<|Yy 2 rfl<|QY rfl (z0l tok rfl (fun hg=>hs'.sl))<|QE 1 [1,2,5,9] rfl<|Qw<|Qn rfl (fun h=> ?_) fun h=> ?_
 ·
  refine QI<|Qw<|QA<|QJ<|QA<|z11 mixed (by kernel_rfl)<|Dm 3 rfl ?_
  have hlt:k<l.length:=by simp at h;exact h
  have hx:l[k]? =some l[k]:=by simp[hlt]
  refine Qd rfl (z0c tok rfl (fun hg=>hs'.sl) (fun hg=>⟨by omega,by omega⟩))<|Qd rfl (z08 tok (k) 0 (l[k]) rfl (fun hg=>hs') (fun hg=>hx) rfl rfl)<|Qq (.a (.v _)) rfl j15 (fun hg E w1 hm=>by exact zgw a l[k] _) ?_
  refine Dm 1 rfl<|z1z [1,2,5,18] rfl<|Qw<|Qn rfl (fun h=> ?_) fun h=> ?_
  ·
   refine QA<|QC<|QE 1 [4] rfl<|Qw<|QO<|QP<|QL<|QL<|QP<|QL<|z0h tok rfl ?_
   simp only[Bool.not_eq_true']at h
   intro E w' hm _
   refine⟨?_,hm.below lr⟩
   rw[zbo,zyp hx h];rfl
  ·
   refine QI<|QM<|Qw<|QC<|QE 3 [1,2,5] rfl<|Qw ?_
   simp only[Bool.not_eq_false']at h
   rw[z06 (by omega) (by omega)]
   exact Qr (k+1) ⟨by omega,z3q hx hall h⟩ (hμ:=by omega) (hs:=⟨rfl,rfl,rfl,trivial⟩) (hO:=⟨rfl,trivial⟩)
 ·
  refine QN<|QK<|QK<|QQ<|Qw<|QA<|QC<|QE 1 [4] rfl<|Qw<|QO<|z0h tok rfl ?_
  have hge:k=l.length:=by simp at h;omega
  intro E w' hm _
  refine⟨?_,hm.below lr⟩
  rw[zbo,zbv (hge▸hall)];rfl
theorem ziw(V:Vw)(sv:Value)(l:List Hold)(key lo hi:Int)(w:World)(hV:V.le (vw w))(hs:SlOf V Hold.cells 4 sv l)(hn:l.length≤lim):
  Rt 126 #[sv,I key, .agg #[I lo,I hi]] w (.bool (z4c l key lo hi)):=by
 unfold lim at hn
 have hs':=hs.mono hV
 refine Qf [.a (.v sv), .a (.v (I key)), .a (.v (.agg #[I lo,I hi]))] Tryz.func126 rfl<|QA<|QC<|QE 2 [0,1,5] rfl<|Qw<|QA<|QA<|QC<|QE 1 [0,1,5,7] rfl<|Qw<|QJ ?_
 refine zcp (σ:=Nat) (fun k=>[(0, .a (.v sv)),(1, .a (.v (I key))),(5, .a (.ptr 0 0)),(7, .a (.v (I k)))]) (fun _=>[(0, .lit [.v (I lo), .v (I hi)] 162)]) 1 (fun _=>vw w)
  (fun k=>k≤l.length∧ ∀j y,j<k→l[j]? =some y→z30 key lo hi y=false) (fun k=>l.length - k) 0 ⟨by omega,by simp⟩ ⟨rfl,rfl,rfl,rfl,trivial⟩ ⟨rfl,trivial⟩ rfl lr ?_
 rintro k ⟨hk,hall⟩
 refine QA<|QA<|QC<|Yy 2 rfl<|QY rfl (z0l tok rfl (fun hg=>hs'.sl))<|QE 1 [0,1,5,7,11] rfl<|Qw<|Qn rfl (fun h=> ?_) fun h=> ?_
 ·
  refine QI<|Qw<|QA<|QJ<|QA<|z11 mixed (by kernel_rfl)<|Dm 2 rfl ?_
  have hlt:k<l.length:=by simp at h;exact h
  have hx:l[k]? =some l[k]:=by simp[hlt]
  refine Qd rfl (z0c tok rfl (fun hg=>hs'.sl) (fun hg=>⟨by omega,by omega⟩))<|Qd rfl (z1f tok rfl (fun hg=>hs'.sl) (fun hg=>by omega))<|Qd rfl (z08 tok (k) 0 (l[k]) rfl (fun hg=>hs') (fun hg=>hx) rfl rfl)<|Dm 5 rfl<|Qd rfl (z0c tok rfl (fun hg=>hs'.sl) (fun hg=>⟨by omega,by omega⟩))<|Qd rfl (z1f tok rfl (fun hg=>hs'.sl) (fun hg=>by omega))<|Qd rfl (z08 tok (k) 1 (l[k]) rfl (fun hg=>hs') (fun hg=>hx) rfl rfl) ?_
  refine Dm 1 rfl<|Qq (.a (.v _)) rfl zse (fun hg E w1 hm=>by exact zbd _ _ _ _ _) ?_
  refine Dm 1 rfl<|z1z [0,1,5,7,29] rfl<|Qw<|Qn rfl (fun h=> ?_) fun h=> ?_
  ·
   refine QA<|QC<|QE 1 [6] rfl<|Qw<|QO<|QP<|QL<|QL<|QP<|QL<|Qb rfl fun E w' hm=>⟨?_,hm.below lr⟩
   have h':z30 key lo hi l[k]=true:=h
   rw[z4c,zry hx h'];rfl
  ·
   refine QI<|QM<|Qw<|QC<|QE 3 [0,1,5,7] rfl<|Qw ?_
   have h':z30 key lo hi l[k]=false:=h
   rw[z06 (by omega) (by omega)]
   exact Qr (k+1) ⟨by omega,z3q hx hall h'⟩ (hμ:=by omega) (hs:=⟨rfl,rfl,rfl,rfl,trivial⟩) (hO:=⟨rfl,trivial⟩)
 ·
  refine QN<|QK<|QK<|QQ<|Qw<|QA<|QC<|QE 1 [6] rfl<|Qw<|QO<|z0h tok rfl ?_
  have hge:k=l.length:=by simp at h;omega
  intro E w' hm _
  refine⟨?_,hm.below lr⟩
  rw[z4c,j62 (hge▸hall)];rfl
/-! What the document says of two holds -/
theorem zg5(lo hi lo' hi':Int):zax lo hi lo' hi'=zax lo' hi' lo hi:=by
 simp only[zax]
 rw[Bool.and_comm (!decide (hi<lo)),Bool.or_comm]
theorem za1(a b:Hold):z2g a b=z2g b a:=by
 simp only[z2g]
 rw[zg5,show(a.key==b.key)=(b.key==a.key) by rw[Bool.eq_iff_iff];simp;exact eq_comm,Bool.and_comm (a.mode==1)]
theorem zcu(l:List Hold): ∀(r:List Hold) (i:Nat),l.drop i=r→(zcx l i r=true↔ ∀j x,i≤j→l[j]? =some x→zbo x (l.take j)=true)
 |[],i,hd=>by
  have:l.length≤i:=by simpa using hd
  simp only[zcx,true_iff]
  intro j x hj hx
  have:=(List.getElem?_eq_some_iff.1 hx).1
  omega
 |y::r,i,hd=>by
  have hlt:i<l.length:=by
   rcases Nat.lt_or_ge i l.length with h|h
   · exact h
   · rw[List.drop_eq_nil_of_le h]at hd;cases hd
  have hy:l[i]? =some y:=by
   have:=congrArg (fun q:List Hold=>q[0]?) hd
   simpa using this
  have hr:l.drop (i+1)=r:=by
   have:=congrArg List.tail hd
   simpa using this
  have ih:=zcu l r (i+1) hr
  simp only[zcx,Bool.and_eq_true,ih]
  constructor
  ·
   rintro⟨h1,h2⟩ j x hj hx
   by_cases e:j=i
   · subst e;rw[hy]at hx;cases hx;exact h1
   · exact h2 j x (by omega) hx
  ·
   intro h
   exact⟨h i y (Nat.le_refl _) hy,fun j x hj hx=>h j x (by omega) hx⟩
theorem zcc(l:List Hold):ztx l=true↔ ∀j x,l[j]? =some x→zbo x (l.take j)=true:=by
 rw[ztx,zcu l l 0 rfl]
 exact⟨fun h j x hx=>h j x (Nat.zero_le _) hx,fun h j x _ hx=>h j x hx⟩
theorem zw1{l:List Hold}(h:ztx l=true){i j:Nat}{x y:Hold}(hx:l[i]? =some x)(hy:l[j]? =some y):z2g x y=true:=by
 rw[zcc]at h
 have key: ∀{i j:Nat} {x y:Hold},i<j→l[i]? =some x→l[j]? =some y→z2g y x=true:=by
  intro i j x y hij hx hy
  have:=h j y hy
  rw[zbo,List.all_eq_true]at this
  exact this x<|List.mem_of_getElem? (by rw[List.getElem?_take_of_lt hij];exact hx)
 rcases Nat.lt_trichotomy i j with hij|hij|hij
 · rw[za1];exact key hij hx hy
 ·
  subst hij
  rw[hx]at hy
  cases hy
  simp[z2g]
 · exact key hij hy hx
theorem ztz(l:List Hold)(x:Hold)(h:ztx l=true):ztx (l++[x])=zbo x l:=by
 rw[Bool.eq_iff_iff,zcc]
 rw[zcc]at h
 constructor
 ·
  intro h1
  have:=h1 l.length x (by simp)
  simpa using this
 ·
  intro h1 j y hy
  rcases Nat.lt_or_ge j l.length with hj|hj
  ·
   rw[List.getElem?_append_left hj]at hy
   rw[List.take_append_of_le_length (by omega)]
   exact h j y hy
  ·
   rw[List.getElem?_append_right hj]at hy
   have:j=l.length:=by
    have:=(List.getElem?_eq_some_iff.1 hy).1
    simp at this;omega
   subst this
   simp at hy
   subst hy
   simpa using h1
theorem z0d(l:List Hold): ∀u∈l.flatMap Hold.cells,u.oneCell'=true:=by
 intro u hu
 obtain⟨x,_,hx⟩:=List.mem_flatMap.1 hu
 simp only[Hold.cells,List.mem_cons,List.not_mem_nil,or_false]at hx
 rcases hx with rfl|rfl|rfl|rfl<;>rfl
theorem z04{V:Vw}{v:Value}{sz m:Nat}{xs:List Value}(h:z7i V v sz m xs): ∃a n c,v= .slice a n c:=by
 rcases h.2 with⟨a,c,rfl,_⟩|⟨g,o,cap,cur,e,f,rfl,_⟩
 · exact⟨_,_,_,rfl⟩
 · exact⟨_,_,_,rfl⟩
end Go.Proofs.YtkoiogkdiifgfaaGreat
