import Derived.Test.YtkoiogkdiifgfaaGreatMRTb
import Derived.Test.YtkoiogkdiifgfaaGreatEng31
/- A device's first sectors: the document's. -/
set_option linter.unusedVariables false
set_option linter.unusedSimpArgs false
set_option maxRecDepth 100000
namespace Go.Proofs.YtkoiogkdiifgfaaGreat
open Go Go.Eng Go.RowKit
def z7x(g:Geo)(top hd:ByteArray):Nat→List ByteArray
 |0=>(List.replicate (z5j g).toNat ByteArray.empty).set 0 top
 |i+1=>(z7x g top hd i).set (z1o g (i:Int)).toNat hd
theorem zen(g:Geo)(top hd:ByteArray): ∀i,(z7x g top hd i).length=(z5j g).toNat
 |0=>by simp[z7x]
 |i+1=>by rw[z7x,List.length_set,zen g top hd i]
theorem zaw{g:Geo}(hg:z2y g=true){i:Nat}(hi:(i:Int)<g.slots): ∃q:Nat,z1o g (i:Int)=(q:Int)∧(q:Int)<z5j g:=by
 have hf:=z0b hg
 have hh:z1o g (i:Int)=1+2*g.nodes+g.log+(i:Int)*(1+g.journal):=by rw[z1o,if_pos ⟨hg,by omega,hi⟩]
 have ht:z5j g=z2b g+g.blocks*g.per:=by rw[z5j,if_pos hg]
 have hd:z2b g=1+2*g.nodes+g.log+g.slots*(1+g.journal):=rfl
 have h1:0≤(i:Int)*(1+g.journal):=Int.mul_nonneg (by omega) (by omega)
 have h2:((i:Int)+1)*(1+g.journal)≤g.slots*(1+g.journal):=Int.mul_le_mul_of_nonneg_right (by omega) (by omega)
 have h3:0≤g.blocks*g.per:=Int.mul_nonneg (by omega) (by omega)
 rw[Int.add_mul]at h2
 exact⟨(z1o g (i:Int)).toNat,by omega,by omega⟩
theorem zsf(g:Geo)(ok:g.Ok)(hd:ByteArray)(hh: ∀w:World,Cl 81 #[I 0] w fun e w'=>e= .returned (.tuple #[S hd,I 0])∧Below w.heap.size w w')(w:World):
  Cl 49 #[g.val] w fun e w'=>((z2y g=true∧ ∃v,e= .returned (.tuple #[v,I 0])∧w'.ownsRow w.heap.size 9 1 v (z5j g).toNat ((z7x g (gbV g) hd g.slots.toNat).flatMap z1a))∨
   (z2y g=false∧e= .returned (.tuple #[.slice none 0 0,I 40])))∧Below w.heap.size w w':=by
 refine Qf [.a (.v g.val)] Tryz.func49 rfl<|QA<|QC<|QE 3 [1] rfl<|Qw<|QA<|QC<|Yy 1 rfl<|Qc (.a (.v _)) rfl j4o (fun hg E w1 hm=>by exact zv2 g ok _) ?_
 refine QE 5 [1,4,5] rfl<|Qw<|QA<|QA<|QC<|QE 2 [1,4,5,16] rfl<|Qw<|QX rfl (fun h=> ?_) fun h=> ?_
 ·
  refine QA<|QC<|QE 3 [2,3] rfl<|Qw<|QO<|QL<|Qb rfl fun E w' hm=> ?_
  have hg:z2y g=false:=by
   cases hq:z2y g with
   |false=>rfl
   |true=>rw[gbE,if_pos hq]at h;exact absurd rfl h
  refine⟨.inr ⟨hg, ?_⟩,hm.below lr⟩
  rw[gbE,hg]
  rfl
 ·
  have hg:z2y g=true:=by
   cases hq:z2y g with
   |true=>rfl
   |false=>rw[gbE,hq]at h;simp at h
  clear h
  have hf:=z0b hg
  have hs:=z2d hg
  have htt:z5j g=z2b g+g.blocks*g.per:=by rw[z5j,if_pos hg]
  obtain⟨tot,htot⟩: ∃t:Nat,z5j g=(t:Int):=⟨(z5j g).toNat,by omega⟩
  have htn:(z5j g).toNat=tot:=by omega
  refine QI<|Qw<|QA<|QC<|Qc (.a (.v _)) rfl j6g (fun hg E w1 hm=>by exact hh _) ?_
  refine QE 5 [1,4,6] rfl<|Qw<|QA<|QC<|Yy 1 rfl<|Qc (.a (.v _)) rfl zk0 (fun hg E w1 hm=>by exact z6k g ok _) ?_
  rw[htot]
  have hpos:0<tot:=by omega
  have htb:tot≤4000:=by omega
  obtain⟨sl,hsl⟩: ∃sl:Nat,g.slots=sl:=⟨g.slots.toNat,by omega⟩
  have hsn:g.slots.toNat=sl:=by omega
  refine QZ rfl (z2z tok tot tot rfl rfl rfl (Nat.le_refl _) (by dsimp only;omega) (by simp only[maxLen];omega)) fun _ _=>QE 1 [1,4,6,8] rfl<|Qw<|QA<|QC<|Yy 2 rfl ?_
  rw[show(z6z tot _:List Value)=_ from za9 (enc:=z1a) ByteArray.empty tot]
  refine QY rfl (z0p (s:= .a (.rel 1 0)) 1 rfl rfl (fun v V' hv=>z14 tok 0 rfl (by simp) (fun hg=>hv) (fun hg=>by omega)))<|z2q rfl rfl rfl rfl (z5m tok rfl rfl (by intro u hu;simp only[List.mem_singleton]at hu;subst hu;rfl) (by simp only[List.length_singleton];omega) (by omega)) fun _ _=> ?_
  refine z07 [1,6,8] rfl<|Qw<|QA<|QA<|QC<|QE 1 [1,6,8,9] rfl<|Qw<|QJ ?_
  have hset:=z6d (enc:=z1a) (sz:=1) (fun _=>rfl) (List.replicate tot ByteArray.empty) 0 (gbV g) (by simpa using hpos)
  have hf0:(List.replicate tot ByteArray.empty).set 0 (gbV g)=z7x g (gbV g) hd 0:=by rw[z7x,htn]
  rw[Nat.zero_mul]at hset
  rw[show z25 0 [Value.string _] _=_ from hset,hf0]
  refine Ql [1,6,8] [1,0] rfl rfl (σ:=Nat) (fun i=>[(9, .a (.v (I i)))]) (fun i=>[(1, .row 9 1 tot ((z7x g (gbV g) hd i).flatMap z1a)),(0, .lit (g.cells.map .v) 23)]) (fun i=>i≤sl) (fun i=>sl - i) (0) (by omega) ?_
  rintro i hi
  refine QA<|QA<|QC<|QE 4 [1,6,8,9,31] rfl<|Qw<|QX rfl (fun h=> ?_) fun h=> ?_
  ·
   refine QI<|Qw<|QA<|QJ<|QC<|Yy 3 rfl ?_
   obtain⟨q,hq,hqt⟩:=zaw hg (i:=i) (by omega)
   have hfl:=zen g (gbV g) hd i
   refine Qc (.a (.v _)) rfl zch (fun hg E w1 hm=>by exact z5k g ok i _) ?_
   refine Yy 1 rfl ?_
   rw[hq]
   refine QY rfl (z0p (s:= .a (.rel 1 q)) 1 rfl rfl (fun v V' hv=>z14 tok q rfl (by simp) (fun hg=>hv) (fun hg=>by omega)))<|z2q rfl rfl rfl rfl (z5m tok rfl rfl (by intro u hu;simp only[List.mem_singleton]at hu;subst hu;rfl) (by simp only[List.length_singleton];omega) (by omega)) fun _ _=> ?_
   refine z07 [1,6,8,9] rfl<|QM<|Qw<|QC<|QE 3 [1,6,8,9] rfl<|Qw ?_
   have hset:=z6d (enc:=z1a) (sz:=1) (fun _=>rfl) (z7x g (gbV g) hd i) q hd (by rw[hfl];omega)
   have hfs:(z7x g (gbV g) hd i).set q hd=z7x g (gbV g) hd (i+1):=by rw[z7x,hq];simp
   rw[Nat.mul_one,hfs]at hset
   rw[show z25 q [Value.string _] _=_ from hset,z06 (n:=(i:Int)+1) (by omega) (by omega)]
   refine Qr (i+1) (by omega)
  ·
   refine QN<|QK<|QK<|QQ<|Qw<|QA<|QC<|QE 3 [2,3] rfl<|Qw<|QO<|z0h tok rfl ?_
   have his:i=sl:=by omega
   subst his
   intro E w' hm _
   refine⟨.inl ⟨hg,E.κ 1,rfl, ?_⟩,hm.below lr⟩
   rw[Int.toNat_natCast,hsn]
   exact hm.rowFresh lr (l:=1) rfl
def zyj(V:Vw)(fv:Value)(pr:ByteArray→Bool):Prop:=
 ∀(x:ByteArray) w',V.le (vw w')→z7r Tryz.prog fv [S x] w' fun e w''=>e= .returned (.bool (pr x))∧Below w'.heap.size w' w''
def zzf(pr:ByteArray→Bool):List ByteArray→Nat→Int
 |[],_=> -1
 |b::r,i=>if pr b=true then i else zzf pr r (i+1)
theorem zn8(pr:ByteArray→Bool): ∀(l:List ByteArray) (i:Nat),decide (0≤zzf pr l i)=l.any pr
 |[],_=>rfl
 |b::r,i=>by
  rw[zzf,List.any_cons]
  by_cases h:pr b=true
  · rw[if_pos h,h];simp
  · rw[if_neg h,zn8 pr r (i+1)];simp[h]
theorem zwe(V:Vw)(fv sv:Value)(pr:ByteArray→Bool)(l:List ByteArray)(w:World)(hV:V.le (vw w))(hs0:SlOf V z1a 1 sv l)(hn:l.length≤9223372036854775807)(hf:zyj V fv pr):
  Rt 158 #[sv,fv] w (I (zzf pr l 0)):=by
 have hs:=hs0.mono hV
 refine Qf [.a (.v sv), .a (.v fv)] Tryz.func158 rfl<|QA<|QC<|QE 1 [0,1] rfl<|Qw<|QA<|QA<|QC<|Yy 1 rfl<|QY rfl (z0l tok rfl (fun hg=>hs.sl))<|QE 1 [0,1,7,8] rfl<|Qw<|QJ<|Ql [0,1,7] [] rfl rfl (σ:=Nat) (fun k=>[(8, .a (.v (I k)))]) (fun k=>[]) (fun k=>k≤l.length∧zzf pr l 0=zzf pr (l.drop k) k) (fun k=>l.length - k) (0) (⟨by omega,rfl⟩) ?_
 rintro k ⟨hk,heq⟩
 refine QA<|QC<|QE 1 [0,1,7,8,9] rfl<|Qw<|QA<|QX rfl (fun h=> ?_) fun h=> ?_
 ·
  refine QI<|Qw<|QA<|QJ<|QA<|QC<|QE 2 [0,1,5,7,8] rfl<|Qw<|QA<|QC<|Yy 3 rfl ?_
  obtain⟨x,h_x⟩:=hs.at (k:=k) (by omega)
  have hlt_x:=z01 h_x
  refine QY rfl (z0c tok rfl (fun hg=>hs.sl) (fun hg=>⟨by omega,by omega⟩))<|QY rfl (z08 tok (k) 0 (x) rfl (fun hg=>hs) (fun hg=>h_x) rfl rfl) ?_
  rw[z27 h_x,zzf]at heq
  refine z7w (.a (.v _)) rfl rfl rfl rfl rfl (fun hg E w1 hm=>by exact hf x w1 (hV.trans hm.leV)) ?_
  refine z07 [0,1,5,7,8,16] rfl<|Qw<|Qn rfl (fun h=> ?_) fun h=> ?_
  ·
   refine QA<|QC<|QE 2 [4] rfl<|Qw<|QO<|QP<|QL<|QL<|QP<|QL<|z0h tok rfl ?_
   rw[if_pos h]at heq
   intro E w' hm _
   refine⟨?_,hm.below lr⟩
   rw[heq];rfl
  ·
   refine QI<|QM<|Qw<|QC<|QE 2 [0,1,7,8] rfl<|Qw ?_
   rw[if_neg (by simp[h])]at heq
   rw[z06 (n:=(k:Int)+1) (by omega) (by omega)]
   refine Qr (k+1)<|⟨by omega,heq⟩
 ·
  refine QN<|QK<|QK<|QQ<|Qw<|QA<|QC<|QE 1 [4] rfl<|Qw<|QO<|z0h tok rfl ?_
  have hkL:k=l.length:=by omega
  subst hkL
  rw[List.drop_length,zzf]at heq
  intro E w' hm _
  refine⟨?_,hm.below lr⟩
  rw[heq];rfl
theorem j4d(V:Vw)(fv sv:Value)(pr:ByteArray→Bool)(l:List ByteArray)(w:World)(hV:V.le (vw w))(hs0:SlOf V z1a 1 sv l)(hn:l.length≤9223372036854775807)(hf:zyj V fv pr):
  Rt 140 #[sv,fv] w (.bool (l.any pr)):=by
 have hs:=hs0.mono hV
 refine Qf [.a (.v sv), .a (.v fv)] Tryz.func140 rfl<|QA<|QC<|QE 1 [0,1] rfl<|Qw<|QA<|QC<|Yy 2 rfl<|Qc (.a (.v _)) rfl j24 (fun hg E w1 hm=>by exact zwe V fv sv pr l _ (hV.trans hm.leV) hs0 hn hf) ?_
 refine QE 2 [4] rfl<|Qw<|QO<|Qb rfl fun E w' hm=>⟨?_,hm.below lr⟩
 rw[←zn8 pr l 0]
 rfl
theorem zuu(x:ByteArray)(w:World):Rt 141 #[S x] w (.bool (decide (512<(x.size:Int)))):=by
 refine Qf [.a (.v (S x))] Tryz.func141 rfl<|QA<|QC<|QE 1 [0] rfl<|Qw<|QA<|QC<|QE 4 [2] rfl<|Qw<|QO<|Qb rfl fun E w' hm=>⟨?_,hm.below lr⟩
 rfl
def z48(l:List ByteArray):Bool:= !(l.any fun x=>decide (512<(x.size:Int)))
theorem zrf(V:Vw)(sv:Value)(l:List ByteArray)(w:World)(hV:V.le (vw w))(hs0:SlOf V z1a 1 sv l)(hn:l.length≤9223372036854775807):
  Rt 109 #[sv] w (.bool (z48 l)):=by
 refine Qf [.a (.v sv)] Tryz.func109 rfl<|QA<|QC<|QE 1 [0] rfl<|Qw<|QA<|QC<|Yy 1 rfl<|Qc (.a (.v _)) rfl j2v (fun hg E w1 hm=>by exact j4d V _ sv (fun x=>decide (512<(x.size:Int))) l _ (hV.trans hm.leV) hs0 hn (fun x w' hle=>⟨141,_,rfl,j36,zuu x w'⟩)) ?_
 refine QE 2 [2] rfl<|Qw<|QO<|Qb rfl fun E w' hm=>⟨?_,hm.below lr⟩
 rfl
def z6n(d:Device)(key:Int):Bool:=decide (16≤key)&&decide (IntKind.i64.wrap (key.tdiv 16)<d.next_)&&decide (key.tmod 16<(d.keys.l.length:Int))
theorem zo5(d:Device)(key:Int)(b:Nat)(w:World)(hb:w.heap[b]? =some (.cells d.cells.toArray 138 (0,0)))(hk:SlOf ((vw w).del b) z0a 1 d.keys.v d.keys.l):
  Rt 111 #[.pointer (some ⟨b,0,none⟩),I key] w (.bool (z6n d key)):=by
 have hs:=hk
 refine z4n [.a (.ptr 0 0), .a (.v (I key))] hb Tryz.func111 rfl rfl rfl rfl<|QA<|QC<|QE 1 [0,1] rfl<|Qw<|QA<|QC<|Yy 4 rfl<|QY rfl (zx1 rfl (fun hg=>by decide))<|Yy 9 rfl<|QY rfl (zkn rfl (fun hg=>by decide))<|Yy 5 rfl<|QY rfl (z0l tok rfl (fun hg=>hs.sl))<|QE 3 [4] rfl<|Qw<|QO<|Qb rfl fun E w' hm=> ?_
 exact⟨rfl,z3g hb hm lr rfl rfl rfl⟩
theorem zps(V:Vw)(d:Device)(key:Int)(w:World)(hV:V.le (vw w))(hk:SlOf V z0a 1 d.keys.v d.keys.l)(ha: ∃a n c,d.s.v= .slice a n c)(hc: ∃a n c,d.cache.v= .slice a n c)(hf: ∃a n c,d.fenced.v= .slice a n c):
  Rt 67 #[d.val,I key] w (.bool (z6n d key)):=by
 obtain⟨⟨sv,sl⟩,⟨cv,cl⟩,⟨kv,kl⟩,nx,⟨fv,fl⟩⟩:=d
 simp only at*
 obtain⟨a1,n1,c1,rfl⟩:=ha
 obtain⟨a2,n2,c2,rfl⟩:=hc
 obtain⟨a3,n3,c3,rfl⟩:=hf
 obtain⟨a4,n4,c4,rfl⟩:=z04 hk.sl
 have hs:=hk.mono hV
 refine Qf [.a (.v (⟨⟨.slice a1 n1 c1,sl⟩,⟨.slice a2 n2 c2,cl⟩,⟨.slice a4 n4 c4,kl⟩,nx,⟨.slice a3 n3 c3,fl⟩⟩:Device).val), .a (.v (I key))] Tryz.func67 rfl<|QA<|QC<|QE 2 [1,2] rfl<|Qw<|QA<|QC<|Yy 4 rfl<|QY rfl (zx1 rfl (fun hg=>by decide))<|Yy 6 rfl<|QY rfl (zkn rfl (fun hg=>by decide))<|Yy 2 rfl<|QY rfl (z0l tok rfl (fun hg=>hs.sl))<|QE 3 [4] rfl<|Qw<|QO<|Qb rfl fun E w' hm=> ?_
 refine⟨?_,hm.below lr⟩
 rfl
def z2l(n:Int):List Int→List Cell→Bool
 |_,[]=>true
 |seen,c::r=>decide (0≤c.sector∧c.sector<n∧c.b.size≤512∧ ¬c.sector∈seen)&&z2l n (seen++[c.sector]) r
theorem z8y{n:Int}{seen:List Int}{c:Cell}{r:List Cell}:z2l n seen (c::r)=true↔(0≤c.sector∧c.sector<n∧c.b.size≤512∧ ¬c.sector∈seen)∧z2l n (seen++[c.sector]) r=true:=by
 simp[z2l]
def zeo(l:List Cell)(i:Nat):List Int:=(l.take i).map Cell.sector
theorem z9u{l:List Cell}{i:Nat}{c:Cell}(h:l[i]? =some c):zeo l (i+1)=zeo l i++[c.sector]:=by rw[zeo,z5x h,List.map_append];rfl
theorem zjz(b:ByteArray):z48 [b]=decide (b.size≤512):=by
 rw[z48,List.any_cons,List.any_nil,Bool.or_false,←decide_not]
 congr 1
 simp
 omega
theorem zvy(d:Device)(lv:Value)(l:List Cell)(b:Nat)(w:World)(hb:w.heap[b]? =some (.cells d.cells.toArray 138 (0,0)))(hl:SlOf ((vw w).del b) Cell.cells 2 lv l)(hS:SlOf ((vw w).del b) z1a 1 d.s.v d.s.l)(hn:l.length≤maxLen):
  Rt 110 #[.pointer (some ⟨b,0,none⟩),lv] w (.bool (z2l (d.s.l.length:Int) [] l)):=by
 simp only[maxLen]at hn
 refine z4n [.a (.ptr 0 0), .a (.v lv)] hb Tryz.func110 rfl rfl rfl rfl<|QA<|QC<|QE 1 [0,1] rfl<|Qw<|QA<|QC<|QZ rfl (zv9 rfl) fun mb hmb=>QE 1 [0,1,5] rfl<|Qw<|QA<|QA<|QC<|Yy 1 rfl ?_
 have hV0:((vw w).del b).le (((vw w).del b).put mb (z5n [])):=Vw.put_le lr hmb
 refine QY rfl (z0l tok rfl (fun hg=>(hl.mono hV0).sl))<|QE 1 [0,5,9,10,11] rfl<|Qw<|QJ<|Lv [0,5,9,10] [0,1,2] rfl rfl (σ:=Nat) (fun i=>[(11, .a (.v (I i)))]) (fun i=>[(0, .lit (d.cells.map .v) 138),(1, .pin 0 b),(2, .size w.heap.size)]) (fun i=>(((vw w).del b).put mb (z5n (zeo l i)))) (fun i=>i≤l.length∧z2l (d.s.l.length:Int) [] l=z2l (d.s.l.length:Int) (zeo l i) (l.drop i)) (fun i=>l.length - i) (0) (⟨by omega,rfl⟩) ?_
 rintro i ⟨hi,heq⟩
 have hVi:((vw w).del b).le (((vw w).del b).put mb (z5n (zeo l i))):=Vw.put_le lr hmb
 have hli:=hl.mono hVi
 have hSi:=hS.mono hVi
 refine QA<|QC<|QE 1 [0,5,9,10,11,12] rfl<|Qw<|QA<|QX rfl (fun h=> ?_) fun h=> ?_
 ·
  refine QI<|Qw<|QA<|QJ<|QA<|QC ?_
  obtain⟨x,h_x⟩:=hli.at (k:=i) (by omega)
  have hlt_x:=z01 h_x
  refine QY rfl (z0c tok rfl (fun hg=>hli.sl) (fun hg=>⟨by omega,by omega⟩))<|QY rfl (z08 tok (i) 0 (x) rfl (fun hg=>hli) (fun hg=>h_x) rfl rfl)<|Yy 1 rfl<|Qs rfl<|z07 [0,5,7,9,10,11] rfl<|Qw<|QA<|QA<|Ra rfl<|QT [0,1,2,3,4,5,6,7,8,9,10] rfl ?_
  rw[z27 h_x]at heq
  refine Qt 11 rfl rfl (z0l tok rfl (fun hg=>hSi.sl))<|QT [12,13,14,15,16,17] rfl<|Qt 18 rfl rfl (jag (zeo l i) rfl Tryz.underlying221 Tryz.underlying3 (fun w=>Tryz.zeroValue4 w) (fun hg=>Vw.put_get _ _ _))<|QT [19,20,21,22] rfl<|QS<|Qo 23<|h_bs 23 tok rfl rfl rfl rfl rfl fun b1 W1 hlw1 hb1=>Qo 24<|Qh 24 (.a (.v _)) rfl rfl zu7 (fun hg E w1 hm=>by exact zrf W1 _ [x.b] _ hm.leV (SlOf.ofBlock (enc:=z1a) (sz:=1) (l:=[x.b]) (hb1 hg) rfl (fun _=>rfl) (Nat.le_refl _)) (by simp)) ?_
  refine Qx [25,26] rfl<|Qe [0,5,7,9,10,11,41] rfl<|Qw<|QX rfl (fun h=> ?_) fun h=> ?_
  ·
   refine QA<|QC<|QE 1 [4] rfl<|Qw<|QO<|QL<|QP<|QL<|QL<|QP<|QL<|z0h tok rfl ?_
   have hno:z2l (d.s.l.length:Int) (zeo l i) (x::l.drop (i+1))=false:=by
    rw[Bool.eq_false_iff]
    intro hc
    obtain⟨⟨h1,h2,h3,h4⟩,_⟩:=z8y.1 hc
    rw[zjz]at h
    simp[h4,h3]at h
    omega
   intro E w' hm _
   exact⟨by rw[heq,hno];rfl,z3g hb hm (hVi.trans hlw1) rfl rfl rfl⟩
  ·
   rw[zjz]at h
   simp at h
   have hcc:0≤x.sector∧x.sector<(d.s.l.length:Int)∧x.b.size≤512∧ ¬x.sector∈zeo l i:=⟨by omega,by omega,h.2,h.1.2⟩
   have hyes:z2l (d.s.l.length:Int) (zeo l i) (x::l.drop (i+1))=z2l (d.s.l.length:Int) (zeo l (i+1)) (l.drop (i+1)):=by
    rw[z2l,decide_eq_true hcc,Bool.true_and,z9u h_x]
   clear h
   refine QI<|Qw<|QC<|Yy 3 rfl<|z2q rfl rfl rfl rfl (zxd (zeo l i) rfl rfl Tryz.underlying221 Tryz.underlying3 hcc.2.2.2 (hlw1.get _ _ (Vw.put_get _ _ _))) fun _ _=>z07 [0,5,9,10,11] rfl<|QM<|Qw<|QC<|QE 2 [0,5,9,10,11] rfl<|Qw ?_
   rw[←z9u h_x,z06 (n:=(i:Int)+1) (by omega) (by omega)]
   refine Qr (i+1) (⟨by omega,by rw[heq,hyes]⟩) (hV:=Vw.put_mono hlw1)
 ·
  refine QN<|QK<|QK<|QQ<|Qw<|QA<|QC<|QE 1 [4] rfl<|Qw<|QO<|z0h tok rfl ?_
  have hkL:i=l.length:=by omega
  subst hkL
  rw[List.drop_length,z2l]at heq
  intro E w' hm _
  exact⟨by rw[heq];rfl,z3g hb hm hVi rfl rfl rfl⟩
theorem zm0(V:Vw)(lv:Value)(l:List Cell)(n:Int)(w:World)(hV:V.le (vw w))(hl0:SlOf V Cell.cells 2 lv l)(hn:l.length≤maxLen):
  Rt 66 #[lv,I n] w (.bool (z2l n [] l)):=by
 have hl:=hl0.mono hV
 simp only[maxLen]at hn
 refine Qf [.a (.v lv), .a (.v (I n))] Tryz.func66 rfl<|QA<|QC<|QE 1 [0,1] rfl<|Qw<|QA<|QA<|QC<|QE 1 [0,1,5] rfl<|Qw<|QJ<|Ql [0,1] [] rfl rfl (σ:=Nat) (fun i=>[(5, .a (.v (I i)))]) (fun i=>[]) (fun i=>i≤l.length∧z2l n [] l=z2l n (zeo l i) (l.drop i)) (fun i=>l.length - i) (0) (⟨by omega,rfl⟩) ?_
 rintro i ⟨hi,heq⟩
 refine QA<|QA<|QC<|Yy 2 rfl<|QY rfl (z0l tok rfl (fun hg=>hl.sl))<|QE 1 [0,1,5,10] rfl<|Qw<|QX rfl (fun h=> ?_) fun h=> ?_
 ·
  refine QI<|Qw<|QA<|QJ<|QA<|QA<|QC<|Yy 2 rfl ?_
  obtain⟨x,h_x⟩:=hl.at (k:=i) (by omega)
  rw[z27 h_x]at heq
  have hlt_x:=z01 h_x
  refine QY rfl (z0c tok rfl (fun hg=>hl.sl) (fun hg=>⟨by omega,by omega⟩))<|QY rfl (z1f tok rfl (fun hg=>hl.sl) (fun hg=>by omega))<|QY rfl (z08 tok (i) 0 (x) rfl (fun hg=>hl) (fun hg=>h_x) rfl rfl)<|Yy 4 rfl ?_
  have hlt_x:=z01 h_x
  refine QY rfl (z0c tok rfl (fun hg=>hl.sl) (fun hg=>⟨by omega,by omega⟩))<|QY rfl (z1f tok rfl (fun hg=>hl.sl) (fun hg=>by omega))<|QY rfl (z08 tok (i) 0 (x) rfl (fun hg=>hl) (fun hg=>h_x) rfl rfl)<|Yy 6 rfl ?_
  have hlt_x:=z01 h_x
  refine QY rfl (z0c tok rfl (fun hg=>hl.sl) (fun hg=>⟨by omega,by omega⟩))<|QY rfl (z1f tok rfl (fun hg=>hl.sl) (fun hg=>by omega))<|QY rfl (z08 tok (i) 1 (x) rfl (fun hg=>hl) (fun hg=>h_x) rfl rfl)<|QE 3 [0,1,5,36] rfl<|Qw<|QX rfl (fun h=> ?_) fun h=> ?_
  ·
   refine QA<|QC<|QE 1 [4] rfl<|Qw<|QO<|QL<|QP<|QL<|QL<|QP<|QL<|z0h tok rfl ?_
   have hno:z2l n (zeo l i) (x::l.drop (i+1))=false:=by
    rw[Bool.eq_false_iff]
    intro hc
    obtain⟨⟨h1,h2,h3,h4⟩,_⟩:=z8y.1 hc
    omega
   intro E w' hm _
   refine⟨?_,hm.below lr⟩
   rw[heq,hno];rfl
  ·
   have h1:=h
   clear h
   refine QI<|Qw<|QA<|QC<|QE 1 [0,1,5,6] rfl<|Qw<|QJ<|Ql [0,1,5] [] rfl rfl (σ:=Nat) (fun k=>[(6, .a (.v (I k)))]) (fun k=>[]) (fun k=>k≤i∧ ¬x.sector∈zeo l k) (fun k=>i - k) (0) (⟨by omega,by simp[zeo]⟩) ?_
   rintro k ⟨hk,hnot⟩
   refine QA<|QA<|QC<|QE 3 [0,1,5,6,39] rfl<|Qw<|QX rfl (fun h=> ?_) fun h=> ?_
   ·
    refine QI<|Qw<|QA<|QJ<|QA<|z11 mixed (by kernel_rfl)<|Dm 2 rfl ?_
    obtain⟨y,h_y⟩:=hl.at (k:=k) (by omega)
    have hlt_y:=z01 h_y
    refine Qd rfl (z0c tok rfl (fun hg=>hl.sl) (fun hg=>⟨by omega,by omega⟩))<|Qd rfl (z1f tok rfl (fun hg=>hl.sl) (fun hg=>by omega))<|Qd rfl (z08 tok (k) 0 (y) rfl (fun hg=>hl) (fun hg=>h_y) rfl rfl)<|Dm 2 rfl ?_
    have hlt_x:=z01 h_x
    refine Qd rfl (z0c tok rfl (fun hg=>hl.sl) (fun hg=>⟨by omega,by omega⟩))<|Qd rfl (z1f tok rfl (fun hg=>hl.sl) (fun hg=>by omega))<|Qd rfl (z08 tok (i) 0 (x) rfl (fun hg=>hl) (fun hg=>h_x) rfl rfl)<|Dm 1 rfl<|z1z [0,1,5,6,52] rfl<|Qw<|QX rfl (fun h=> ?_) fun h=> ?_
    ·
     refine QA<|QC<|QE 1 [4] rfl<|Qw<|QO<|QP<|QL<|QL<|QP<|QP<|QL<|QL<|QP<|QL<|z0h tok rfl ?_
     have hmem:x.sector∈zeo l i:=by
      rw[zeo,List.mem_map]
      refine⟨y, ?_,h⟩
      have:(l.take i)[k]? =some y:=by rw[List.getElem?_take,if_pos (by omega)];exact h_y
      exact List.mem_of_getElem? this
     have hno:z2l n (zeo l i) (x::l.drop (i+1))=false:=by
      rw[Bool.eq_false_iff]
      intro hc
      exact(z8y.1 hc).1.2.2.2 hmem
     intro E w' hm _
     refine⟨?_,hm.below lr⟩
     rw[heq,hno];rfl
    ·
     refine QI<|QM<|Qw<|QC<|QE 3 [0,1,5,6] rfl<|Qw ?_
     rw[z06 (n:=(k:Int)+1) (by omega) (by omega)]
     refine Qr (k+1)<|⟨by omega,by rw[z9u h_y];simp;exact⟨hnot,fun hc=>h hc.symm⟩⟩
   ·
    refine QN<|QK<|QK<|QQ<|QM<|Qw<|QC<|QE 3 [0,1,5] rfl<|Qw ?_
    have hki:k=i:=by omega
    subst hki
    have hcc:0≤x.sector∧x.sector<n∧x.b.size≤512∧ ¬x.sector∈zeo l k:=⟨by omega,by omega,by omega,hnot⟩
    have hyes:z2l n (zeo l k) (x::l.drop (k+1))=z2l n (zeo l (k+1)) (l.drop (k+1)):=by
     rw[z2l,decide_eq_true hcc,Bool.true_and,z9u h_x]
    rw[z06 (n:=(k:Int)+1) (by omega) (by omega)]
    refine Qr (k+1)<|⟨by omega,by rw[heq,hyes]⟩
 ·
  refine QN<|QK<|QK<|QQ<|Qw<|QA<|QC<|QE 1 [4] rfl<|Qw<|QO<|z0h tok rfl ?_
  have hkL:i=l.length:=by omega
  subst hkL
  rw[List.drop_length,z2l]at heq
  intro E w' hm _
  refine⟨?_,hm.below lr⟩
  rw[heq];rfl
structure DevIn(V:Vw)(d:Device):Prop where
 s:SlOf V z1a 1 d.s.v d.s.l
 sn:d.s.l.length≤maxLen
 cache:SlOf V Sl.enc 1 d.cache.v d.cache.l
 cn:d.cache.l.length≤maxLen
 ca: ∀c∈d.cache.l,SlOf V Cell.cells 2 c.v c.l∧c.l.length≤maxLen
 keys:SlOf V z0a 1 d.keys.v d.keys.l
 kn:d.keys.l.length≤maxLen
 fenced:SlOf V z0a 1 d.fenced.v d.fenced.l
 fn:d.fenced.l.length≤maxLen
theorem DevIn.mono{V V':Vw}{d:Device}(h:DevIn V d)(hle:V.le V'):DevIn V' d:=
 ⟨h.s.mono hle,h.sn,h.cache.mono hle,h.cn,fun c hc=>⟨(h.ca c hc).1.mono hle,(h.ca c hc).2⟩,h.keys.mono hle,h.kn,h.fenced.mono hle,h.fn⟩
theorem DevIn.of{V:Vw}{d:Device}(h:Device.Ok V d):DevIn V d:=
 ⟨h.s.sl,h.s.max,h.cache.sl,h.cache.max,fun c hc=>⟨(h.cache.all c hc).sl,(h.cache.all c hc).max⟩,h.keys.sl,h.keys.max,h.fenced.sl,h.fenced.max⟩
def zez(d:Device):Bool:=decide (0<d.s.l.length)&&(z48 d.s.l&&decide (0<d.keys.l.length∧d.keys.l.length≤16∧d.cache.l.length=d.keys.l.length∧1≤d.next_∧d.next_≤68719476736))
def zbs(d:Device)(i:Nat)(k:Int)(c:Sl Cell):Bool:=z2l (d.s.l.length:Int) [] c.l&&(decide (k=0)||(z6n d k&&decide (k.tmod 16=(i:Int))))
def z9h(d:Device):Nat→List Int→List (Sl Cell)→Bool
 |i,k::ks,c::cs=>zbs d i k c&&z9h d (i+1) ks cs
 |_,_,_=>true
def zpu(d:Device):Int→List Int→Bool
 |_,[]=>true
 |last,k::r=>(decide (last<k)&&z6n d k)&&zpu d k r
def z2a(d:Device):Bool:=zez d&&(z9h d 0 d.keys.l d.cache.l&&zpu d 0 d.fenced.l)
def zdx(l:List Int):Nat→Int
 |0=>0
 |i+1=>l.getD i 0
theorem zav{l:List Int}{i:Nat}{k:Int}(h:l[i]? =some k):zdx l (i+1)=k:=by simp[zdx,List.getD,h]
theorem j5y(d:Device)(b:Nat)(w:World)(hb:w.heap[b]? =some (.cells d.cells.toArray 138 (0,0)))(hd:DevIn ((vw w).del b) d):
  Rt 83 #[.pointer (some ⟨b,0,none⟩)] w (.bool (z2a d)):=by
 have hsn:=hd.sn
 have hcn:=hd.cn
 have hkn:=hd.kn
 have hfn:=hd.fn
 simp only[maxLen]at hsn hcn hkn hfn
 refine z4n [.a (.ptr 0 0)] hb Tryz.func83 rfl rfl rfl rfl<|QA<|QC<|QE 1 [0] rfl<|Qw<|QA<|QA<|z11 mixed (by kernel_rfl)<|Dm 5 rfl<|Qd rfl (z0l tok rfl (fun hg=>hd.s.sl))<|Dm 7 rfl<|Qq (.a (.v _)) rfl zu7 (fun hg E w1 hm=>by exact zrf ((vw w).del b) _ d.s.l _ hm.leV hd.s (by omega)) ?_
 refine Dm 8 rfl<|Qd rfl (z0l tok rfl (fun hg=>hd.keys.sl))<|Dm 8 rfl<|Qd rfl (z0l tok rfl (fun hg=>hd.keys.sl))<|Dm 8 rfl<|Qd rfl (z0l tok rfl (fun hg=>hd.cache.sl))<|Dm 5 rfl<|Qd rfl (z0l tok rfl (fun hg=>hd.keys.sl))<|Dm 18 rfl<|z1z [0,72] rfl<|Qw<|QX rfl (fun h=> ?_) fun h=> ?_
 ·
  refine QA<|QC<|QE 1 [2] rfl<|Qw<|QO<|QL<|z0h tok rfl ?_
  have hno:zez d=false:=by
   rw[Bool.eq_false_iff]
   intro hc
   simp only[zez,Bool.and_eq_true,decide_eq_true_eq]at hc
   obtain⟨c1,c2,c3,c4,c5,c6,c7⟩:=hc
   rw[c2]at h
   simp only[Bool.true_eq_false,or_false]at h
   omega
  intro E w' hm _
  exact⟨by rw[z2a,hno];rfl,z3g hb hm lr rfl rfl rfl⟩
 ·
  have hh:zez d=true:=by
   simp only[zez,Bool.and_eq_true,decide_eq_true_eq]
   obtain⟨⟨⟨⟨⟨⟨h1,h2⟩,h3⟩,h4⟩,h5⟩,h6⟩,h7⟩:=h
   exact⟨by omega,h2,by omega,by omega,by omega,by omega,by omega⟩
  have hch:z2a d=(z9h d 0 d.keys.l d.cache.l&&zpu d 0 d.fenced.l):=by rw[z2a,hh,Bool.true_and]
  simp only[zez,Bool.and_eq_true,decide_eq_true_eq]at hh
  obtain⟨_,_,hk0,hk16,hck,_,_⟩:=hh
  clear h
  refine QI<|Qw<|QA<|QA<|QC<|Yy 5 rfl<|QY rfl (z0l tok rfl (fun hg=>hd.keys.sl))<|QE 1 [0,77,78,79] rfl<|Qw<|QJ<|Ql [0,77,78] [0,1,2] rfl rfl (σ:=Nat) (fun i=>[(79, .a (.v (I i)))]) (fun i=>[(0, .lit (d.cells.map .v) 138),(1, .pin 0 b),(2, .size w.heap.size)]) (fun i=>i≤d.keys.l.length∧z9h d 0 d.keys.l d.cache.l=z9h d i (d.keys.l.drop i) (d.cache.l.drop i)) (fun i=>d.keys.l.length - i) (0) (⟨by omega,rfl⟩) ?_
  rintro i ⟨hi,heq⟩
  refine QA<|QC<|QE 1 [0,77,78,79,80] rfl<|Qw<|QA<|QX rfl (fun h=> ?_) fun h=> ?_
  ·
   refine QI<|Qw<|QA<|QJ<|QA<|QC<|Yy 1 rfl ?_
   obtain⟨k,h_k⟩:=hd.keys.at (k:=i) (by omega)
   obtain⟨c,h_c⟩:=hd.cache.at (k:=i) (by omega)
   obtain⟨hcs,hcl⟩:=hd.ca c (List.mem_of_getElem? h_c)
   rw[z27 h_k,z27 h_c,z9h]at heq
   have hlt_k:=z01 h_k
   refine QY rfl (z0c tok rfl (fun hg=>hd.keys.sl) (fun hg=>⟨by omega,by omega⟩))<|QY rfl (z08 tok (i) 0 (k) rfl (fun hg=>hd.keys) (fun hg=>h_k) rfl rfl)<|QE 2 [0,3,4,77,78,79] rfl<|Qw<|QA<|QC<|Yy 7 rfl ?_
   have hlt_c:=z01 h_c
   refine QY rfl (z0c tok rfl (fun hg=>hd.cache.sl) (fun hg=>⟨by omega,by omega⟩))<|QY rfl (z08 tok (i) 0 (c) rfl (fun hg=>hd.cache) (fun hg=>h_c) rfl rfl)<|Qc (.a (.v _)) rfl j49 (fun hg E w1 hm=>by exact zvy d c.v c.l _ _ (hm.lit 0 _ _ rfl) (hcs.mono (hm.leDel (l:=0) rfl)) (hd.s.mono (hm.leDel (l:=0) rfl)) hcl) ?_
   refine Yy 7 rfl<|Qc (.a (.v _)) rfl ztl (fun hg E w1 hm=>by exact zo5 d k _ _ (hm.lit 0 _ _ rfl) (hd.keys.mono (hm.leDel (l:=0) rfl))) ?_
   refine Yy 3 rfl<|QY rfl (zkn rfl (fun hg=>by decide))<|QE 5 [0,77,78,79,110] rfl<|Qw<|QX rfl (fun h=> ?_) fun h=> ?_
   ·
    refine QA<|QC<|QE 1 [2] rfl<|Qw<|QO<|QP<|QL<|QL<|QP<|QL<|z0h tok rfl ?_
    have hno:zbs d i k c=false:=by
     rw[Bool.eq_false_iff]
     intro hc
     simp only[zbs,Bool.and_eq_true,Bool.or_eq_true,decide_eq_true_eq]at hc
     rcases h with h|⟨h1,h2⟩
     · rw[hc.1]at h;cases h
     ·
      rcases hc.2 with h3|⟨h3,h4⟩
      · exact h1 h3
      · rw[h3]at h2;simp only[Bool.true_eq_false,false_or]at h2;exact h2 h4
    intro E w' hm _
    exact⟨by rw[hch,heq,hno];rfl,z3g hb hm lr rfl rfl rfl⟩
   ·
    refine QI<|QM<|Qw<|QC<|QE 2 [0,77,78,79] rfl<|Qw ?_
    have hyes:zbs d i k c=true:=by
     simp only[zbs,Bool.and_eq_true,Bool.or_eq_true,decide_eq_true_eq]
     exact⟨h.1,h.2⟩
    rw[hyes,Bool.true_and]at heq
    rw[z06 (n:=(i:Int)+1) (by omega) (by omega)]
    refine Qr (i+1)<|⟨by omega,heq⟩
  ·
   refine QN<|QK<|QK<|QQ<|Qw<|QA<|QC<|QE 1 [0,5] rfl<|Qw<|QA<|QA<|QC<|Yy 5 rfl ?_
   have hkL:i=d.keys.l.length:=by omega
   have hkeys:z9h d 0 d.keys.l d.cache.l=true:=by rw[heq,hkL,List.drop_length];rfl
   rw[hkeys,Bool.true_and]at hch
   refine QY rfl (z0l tok rfl (fun hg=>hd.fenced.sl))<|QE 1 [0,5,116,117,118] rfl<|Qw<|QJ<|Ql [0,116,117] [0,1,2] rfl rfl (σ:=Nat) (fun j=>[(5, .a (.v (I (zdx d.fenced.l j)))),(118, .a (.v (I j)))]) (fun j=>[(0, .lit (d.cells.map .v) 138),(1, .pin 0 b),(2, .size w.heap.size)]) (fun j=>j≤d.fenced.l.length∧zpu d 0 d.fenced.l=zpu d (zdx d.fenced.l j) (d.fenced.l.drop j)) (fun j=>d.fenced.l.length - j) (0) (⟨by omega,rfl⟩) ?_
   rintro j ⟨hj,hjq⟩
   refine QA<|QC<|QE 1 [0,5,116,117,118,119] rfl<|Qw<|QA<|QX rfl (fun h=> ?_) fun h=> ?_
   ·
    refine QI<|Qw<|QA<|QJ<|QA<|QC ?_
    obtain⟨k,h_k⟩:=hd.fenced.at (k:=j) (by omega)
    rw[z27 h_k,zpu]at hjq
    have hlt_k:=z01 h_k
    refine QY rfl (z0c tok rfl (fun hg=>hd.fenced.sl) (fun hg=>⟨by omega,by omega⟩))<|QY rfl (z08 tok (j) 0 (k) rfl (fun hg=>hd.fenced) (fun hg=>h_k) rfl rfl)<|QE 1 [0,5,7,116,117,118] rfl<|Qw<|QA<|QA<|QC<|Yy 6 rfl<|Qc (.a (.v _)) rfl ztl (fun hg E w1 hm=>by exact zo5 d k _ _ (hm.lit 0 _ _ rfl) (hd.keys.mono (hm.leDel (l:=0) rfl))) ?_
    refine QE 2 [0,7,116,117,118,130] rfl<|Qw<|QX rfl (fun h=> ?_) fun h=> ?_
    ·
     refine QA<|QC<|QE 1 [2] rfl<|Qw<|QO<|QL<|QP<|QL<|QL<|QP<|QL<|z0h tok rfl ?_
     have hno:(decide (zdx d.fenced.l j<k)&&z6n d k)=false:=by
      rcases h with h|h
      · rw[decide_eq_false (by omega)];rfl
      · rw[h,Bool.and_false]
     intro E w' hm _
     exact⟨by rw[hch,hjq,hno];rfl,z3g hb hm lr rfl rfl rfl⟩
    ·
     refine QI<|Qw<|QC<|QE 2 [0,5,116,117,118] rfl<|QM<|Qw<|QC<|QE 2 [0,5,116,117,118] rfl<|Qw ?_
     have hyes:(decide (zdx d.fenced.l j<k)&&z6n d k)=true:=by rw[decide_eq_true (by omega),h.2];rfl
     rw[hyes,Bool.true_and]at hjq
     have hls:=zav h_k
     rw[z06 (n:=(j:Int)+1) (by omega) (by omega),←hls]
     refine Qr (j+1)<|⟨by omega,by rw[hjq,hls]⟩
   ·
    refine QN<|QK<|QK<|QQ<|Qw<|QA<|QC<|QE 1 [2] rfl<|Qw<|QO<|z0h tok rfl ?_
    have hjL:j=d.fenced.l.length:=by omega
    have:zpu d 0 d.fenced.l=true:=by rw[hjq,hjL,List.drop_length];rfl
    intro E w' hm _
    exact⟨by rw[hch,this];rfl,z3g hb hm lr rfl rfl rfl⟩
theorem zhv(V:Vw)(d:Device)(w:World)(hV:V.le (vw w))(hd0:DevIn V d):Rt 52 #[d.val] w (I (if z2a d=true then 0 else 2)):=by
 obtain⟨⟨sv,sl⟩,⟨cv,cl⟩,⟨kv,kl⟩,nx,⟨fv,fl⟩⟩:=d
 obtain⟨a1,n1,c1,rfl⟩:=z04 hd0.s.sl
 obtain⟨a2,n2,c2,rfl⟩:=z04 hd0.cache.sl
 obtain⟨a3,n3,c3,rfl⟩:=z04 hd0.keys.sl
 obtain⟨a4,n4,c4,rfl⟩:=z04 hd0.fenced.sl
 have hd:=hd0.mono hV
 refine Qf [.a (.v (⟨⟨.slice a1 n1 c1,sl⟩,⟨.slice a2 n2 c2,cl⟩,⟨.slice a3 n3 c3,kl⟩,nx,⟨.slice a4 n4 c4,fl⟩⟩:Device).val)] Tryz.func52 rfl<|QA<|QC<|QE 2 [1] rfl<|Qw<|QA<|QA<|QC<|QE 4 [3] rfl<|Qw<|QA<|QC<|Yy 1 rfl<|Qc (.a (.v _)) rfl j67 (fun hg E w1 hm=>by exact j5y ⟨⟨.slice a1 n1 c1,sl⟩,⟨.slice a2 n2 c2,cl⟩,⟨.slice a3 n3 c3,kl⟩,nx,⟨.slice a4 n4 c4,fl⟩⟩ _ _ (hm.lit 1 _ _ rfl) (hd.mono (hm.leDel (l:=1) rfl))) ?_
 refine QE 1 [9] rfl<|Qw<|QX rfl (fun h=> ?_) fun h=> ?_
 ·
  refine QA<|QC<|QE 1 [2] rfl<|Qw<|QO<|QL<|Qb rfl fun E w' hm=>⟨?_,hm.below lr⟩
  rw[if_neg (by rw[h];simp)]
  rfl
 ·
  refine QI<|Qw<|QA<|QC<|QE 1 [2] rfl<|Qw<|QO<|Qb rfl fun E w' hm=>⟨?_,hm.below lr⟩
  rw[if_pos h]
  rfl
theorem z8b(V:Vw)(d:Device)(w:World)(hV:V.le (vw w))(hd0:DevIn V d):Rt 35 #[d.val] w (I (if z2a d=true then 0 else 2)):=by
 obtain⟨⟨sv,sl⟩,⟨cv,cl⟩,⟨kv,kl⟩,nx,⟨fv,fl⟩⟩:=d
 obtain⟨a1,n1,c1,rfl⟩:=z04 hd0.s.sl
 obtain⟨a2,n2,c2,rfl⟩:=z04 hd0.cache.sl
 obtain⟨a3,n3,c3,rfl⟩:=z04 hd0.keys.sl
 obtain⟨a4,n4,c4,rfl⟩:=z04 hd0.fenced.sl
 have hd:=hd0.mono hV
 have hsn:=hd.sn
 have hcn:=hd.cn
 have hkn:=hd.kn
 have hfn:=hd.fn
 simp only[maxLen]at hsn hcn hkn hfn
 generalize hD:(⟨⟨.slice a1 n1 c1,sl⟩,⟨.slice a2 n2 c2,cl⟩,⟨.slice a3 n3 c3,kl⟩,nx,⟨.slice a4 n4 c4,fl⟩⟩:Device)=D at*
 have hDs:D.s=⟨.slice a1 n1 c1,sl⟩:=by rw[←hD]
 have hDc:D.cache=⟨.slice a2 n2 c2,cl⟩:=by rw[←hD]
 have hDk:D.keys=⟨.slice a3 n3 c3,kl⟩:=by rw[←hD]
 have hDn:D.next_=nx:=by rw[←hD]
 have hDf:D.fenced=⟨.slice a4 n4 c4,fl⟩:=by rw[←hD]
 have hS:=hd.s
 have hC:=hd.cache
 have hK:=hd.keys
 have hF:=hd.fenced
 have hca:=hd.ca
 rw[hDs]at hS
 rw[hDc]at hC hca
 rw[hDk]at hK
 rw[hDf]at hF
 simp only at hS hC hK hF hca
 have hgv:=fun(key:Int) (w1:World) (hle:(vw w).le (vw w1))=>zps (vw w) D key w1 hle hd.keys ⟨a1,n1,c1,by rw[hDs]⟩ ⟨a2,n2,c2,by rw[hDc]⟩ ⟨a4,n4,c4,by rw[hDf]⟩
 have hval:D.val= .agg #[.slice a1 n1 c1, .slice a2 n2 c2, .slice a3 n3 c3,I nx, .slice a4 n4 c4]:=by rw[←hD]
 have hhead:zez D=(decide (0<sl.length)&&(z48 sl&&decide (0<kl.length∧kl.length≤16∧cl.length=kl.length∧1≤nx∧nx≤68719476736))):=by rw[←hD];rfl
 have hcheck:z2a D=(zez D&&(z9h D 0 kl cl&&zpu D 0 fl)):=by rw[z2a,hDk,hDc,hDf]
 have hko: ∀i k c,zbs D i k c=(z2l (sl.length:Int) [] c.l&&(decide (k=0)||(z6n D k&&decide (k.tmod 16=(i:Int))))):=fun i k c=>by rw[zbs,hDs]
 rw[hval]at hgv⊢
 clear hD hDs hDc hDk hDn hDf hd hd0 hval
 refine Qf [.a (.v (.agg #[.slice a1 n1 c1, .slice a2 n2 c2, .slice a3 n3 c3,I nx, .slice a4 n4 c4]))] Tryz.func35 rfl<|QA<|QC<|QE 2 [1] rfl<|Qw<|QA<|QA<|QC<|Yy 2 rfl<|QY rfl (z0l tok rfl (fun hg=>hS.sl))<|Yy 4 rfl<|QY rfl (z0l tok rfl (fun hg=>hK.sl))<|Yy 5 rfl<|QY rfl (z0l tok rfl (fun hg=>hK.sl))<|Yy 5 rfl<|QY rfl (z0l tok rfl (fun hg=>hC.sl))<|Yy 2 rfl<|QY rfl (z0l tok rfl (fun hg=>hK.sl)) ?_
 refine QE 12 [1,40] rfl<|Qw<|QX rfl (fun h=> ?_) fun h=> ?_
 ·
  refine QA<|QC<|QE 1 [2] rfl<|Qw<|QO<|QL<|Qb rfl fun E w' hm=>⟨?_,hm.below lr⟩
  rw[if_neg]
  · rfl
  ·
   intro hc
   simp only[hcheck,hhead,Bool.and_eq_true,decide_eq_true_eq]at hc
   omega
 ·
  refine QI<|Qw<|QA<|QA<|QC<|QE 1 [1,3] rfl<|Qw<|QJ ?_
  have h1:=h
  refine Ql [1] [0] rfl rfl (σ:=Nat) (fun i=>[(3, .a (.v (I i)))]) (fun i=>[(0, .lit [.v (.slice a1 n1 c1), .v (.slice a2 n2 c2), .v (.slice a3 n3 c3), .v (I nx), .v (.slice a4 n4 c4)] 28)]) (fun i=>i≤sl.length∧z48 sl=z48 (sl.drop i)) (fun i=>sl.length - i) (0) (⟨by omega,rfl⟩) ?_
  rintro i ⟨hi,heq⟩
  refine QA<|QA<|QC<|Yy 3 rfl<|QY rfl (z0l tok rfl (fun hg=>hS.sl))<|QE 1 [1,3,45] rfl<|Qw<|QX rfl (fun h=> ?_) fun h=> ?_
  ·
   refine QI<|Qw<|QA<|QJ<|QA<|QC<|Yy 3 rfl ?_
   obtain⟨x,h_x⟩:=hS.at (k:=i) (by omega)
   rw[z27 h_x]at heq
   have hlt_x:=z01 h_x
   refine QY rfl (z0c tok rfl (fun hg=>hS.sl) (fun hg=>⟨by omega,by omega⟩))<|QY rfl (z08 tok (i) 0 (x) rfl (fun hg=>hS) (fun hg=>h_x) rfl rfl)<|QE 2 [1,3,54] rfl<|Qw<|QX rfl (fun h=> ?_) fun h=> ?_
   ·
    refine QA<|QC<|QE 1 [2] rfl<|Qw<|QO<|QP<|QL<|QL<|QP<|QL<|Qb rfl fun E w' hm=>⟨?_,hm.below lr⟩
    rw[if_neg]
    · rfl
    ·
     intro hc
     have hno:z48 (x::sl.drop (i+1))=false:=by
      rw[z48,List.any_cons,decide_eq_true (by omega)];rfl
     rw[hno]at heq
     simp only[hcheck,hhead,heq,Bool.and_eq_true]at hc
     exact absurd hc.1.2.1 (by simp)
   ·
    refine QI<|QM<|Qw<|QC<|QE 3 [1,3] rfl<|Qw ?_
    have hyes:z48 (x::sl.drop (i+1))=z48 (sl.drop (i+1)):=by rw[z48,List.any_cons,decide_eq_false (by omega),Bool.false_or];rfl
    rw[z06 (n:=(i:Int)+1) (by omega) (by omega)]
    refine Qr (i+1)<|⟨by omega,by rw[heq,hyes]⟩
  ·
   refine QN<|QK<|QK<|QQ<|Qw<|QA<|QA<|QC<|QE 1 [1,4] rfl<|Qw<|QJ ?_
   have hsh:z48 sl=true:=by
    rw[heq,List.drop_eq_nil_of_le (by omega)];rfl
   have hh:zez D=true:=by
    simp only[hhead,hsh,Bool.and_eq_true,decide_eq_true_eq]
    exact⟨by omega,trivial,by omega,by omega,by omega,by omega,by omega⟩
   rw[hh,Bool.true_and]at hcheck
   refine Ql [1] [0] rfl rfl (σ:=Nat) (fun i=>[(4, .a (.v (I i)))]) (fun i=>[(0, .lit [.v (.slice a1 n1 c1), .v (.slice a2 n2 c2), .v (.slice a3 n3 c3), .v (I nx), .v (.slice a4 n4 c4)] 28)]) (fun i=>i≤kl.length∧z9h D 0 kl cl=z9h D i (kl.drop i) (cl.drop i)) (fun i=>kl.length - i) (0) (⟨by omega,rfl⟩) ?_
   rintro i ⟨hi,heq⟩
   refine QA<|QA<|QC<|Yy 3 rfl<|QY rfl (z0l tok rfl (fun hg=>hK.sl))<|QE 1 [1,4,59] rfl<|Qw<|QX rfl (fun h=> ?_) fun h=> ?_
   ·
    refine QI<|Qw<|QA<|QJ<|QA<|z11 mixed (by kernel_rfl)<|Dm 3 rfl ?_
    obtain⟨k,h_k⟩:=hK.at (k:=i) (by omega)
    obtain⟨c,h_c⟩:=hC.at (k:=i) (by omega)
    obtain⟨hcs,hcl⟩:=hca c (List.mem_of_getElem? h_c)
    rw[z27 h_k,z27 h_c,z9h,hko]at heq
    have hlt_c:=z01 h_c
    refine Qd rfl (z0c tok rfl (fun hg=>hC.sl) (fun hg=>⟨by omega,by omega⟩))<|Qd rfl (z08 tok (i) 0 (c) rfl (fun hg=>hC) (fun hg=>h_c) rfl rfl)<|Dm 2 rfl<|Qd rfl (z0l tok rfl (fun hg=>hS.sl))<|Qq (.a (.v _)) rfl j7h (fun hg E w1 hm=>by exact zm0 (vw w) c.v c.l _ _ hm.leV hcs hcl) ?_
    refine Dm 5 rfl ?_
    have hlt_k:=z01 h_k
    refine Qd rfl (z0c tok rfl (fun hg=>hK.sl) (fun hg=>⟨by omega,by omega⟩))<|Qd rfl (z08 tok (i) 0 (k) rfl (fun hg=>hK) (fun hg=>h_k) rfl rfl)<|Dm 6 rfl ?_
    have hlt_k:=z01 h_k
    refine Qd rfl (z0c tok rfl (fun hg=>hK.sl) (fun hg=>⟨by omega,by omega⟩))<|Qd rfl (z08 tok (i) 0 (k) rfl (fun hg=>hK) (fun hg=>h_k) rfl rfl)<|Qq (.a (.v _)) rfl zyk (fun hg E w1 hm=>by exact hgv k _ hm.leV) ?_
    refine Dm 5 rfl ?_
    have hlt_k:=z01 h_k
    refine Qd rfl (z0c tok rfl (fun hg=>hK.sl) (fun hg=>⟨by omega,by omega⟩))<|Qd rfl (z08 tok (i) 0 (k) rfl (fun hg=>hK) (fun hg=>h_k) rfl rfl)<|Qd rfl (zkn rfl (fun hg=>by decide))<|Dm 5 rfl<|z1z [1,4,99] rfl<|Qw<|QX rfl (fun h=> ?_) fun h=> ?_
    ·
     refine QA<|QC<|QE 1 [2] rfl<|Qw<|QO<|QP<|QL<|QL<|QP<|QL<|z0h tok rfl ?_
     have hno:(z2l (sl.length:Int) [] c.l&&(decide (k=0)||(z6n D k&&decide (k.tmod 16=(i:Int)))))=false:=by
      rw[Bool.eq_false_iff]
      intro hc
      simp only[Bool.and_eq_true,Bool.or_eq_true,decide_eq_true_eq]at hc
      rcases h with h|⟨h1,h2⟩
      · rw[hc.1]at h;cases h
      ·
       rcases hc.2 with h3|⟨h3,h4⟩
       · exact h1 h3
       · rw[h3]at h2;simp only[Bool.true_eq_false,false_or]at h2;exact h2 h4
     intro E w' hm _
     refine⟨?_,hm.below lr⟩
     rw[hcheck,heq,hno]
     rfl
    ·
     refine QI<|QM<|Qw<|QC<|QE 3 [1,4] rfl<|Qw ?_
     have hyes:(z2l (sl.length:Int) [] c.l&&(decide (k=0)||(z6n D k&&decide (k.tmod 16=(i:Int)))))=true:=by
      simp only[Bool.and_eq_true,Bool.or_eq_true,decide_eq_true_eq]
      exact⟨h.1,h.2⟩
     rw[hyes,Bool.true_and]at heq
     rw[z06 (n:=(i:Int)+1) (by omega) (by omega)]
     refine Qr (i+1)<|⟨by omega,heq⟩
   ·
    refine QN<|QK<|QK<|QQ<|Qw<|QA<|QA<|QC<|QE 1 [1,5] rfl<|Qw<|QJ ?_
    have hkeys:z9h D 0 kl cl=true:=by rw[heq,List.drop_eq_nil_of_le (show kl.length≤i by omega)];rfl
    rw[hkeys,Bool.true_and]at hcheck
    refine Ql [1] [0] rfl rfl (σ:=Nat) (fun j=>[(5, .a (.v (I j)))]) (fun j=>[(0, .lit [.v (.slice a1 n1 c1), .v (.slice a2 n2 c2), .v (.slice a3 n3 c3), .v (I nx), .v (.slice a4 n4 c4)] 28)]) (fun j=>j≤fl.length∧zpu D 0 fl=zpu D (zdx fl j) (fl.drop j)) (fun j=>fl.length - j) (0) (⟨by omega,rfl⟩) ?_
    rintro j ⟨hj,hjq⟩
    refine QA<|QA<|QC<|Yy 3 rfl<|QY rfl (z0l tok rfl (fun hg=>hF.sl))<|QE 1 [1,5,104] rfl<|Qw<|QX rfl (fun h=> ?_) fun h=> ?_
    ·
     refine QI<|Qw<|QA<|QJ<|QA<|z11 mixed (by kernel_rfl)<|Dm 4 rfl ?_
     obtain⟨k,h_k⟩:=hF.at (k:=j) (by omega)
     obtain⟨q,h_q⟩: ∃q,fl[j - 1]? =some q:=⟨fl[j - 1]'(by omega),by rw[List.getElem?_eq_getElem (by omega)]⟩
     have hlast:(j=0∧zdx fl j=0)∨(0<j∧zdx fl j=q):=by
      cases j with
      |zero=>exact .inl ⟨rfl,rfl⟩
      |succ j'=>exact .inr ⟨by omega,zav h_q⟩
     have hg16:z6n D k=true→16≤k:=fun hc=>by simp only[z6n,Bool.and_eq_true,decide_eq_true_eq]at hc;exact hc.1.1
     rw[z27 h_k,zpu]at hjq
     have hlt_k:=z01 h_k
     refine Qd rfl (z0c tok rfl (fun hg=>hF.sl) (fun hg=>⟨by omega,by omega⟩))<|Qd rfl (z08 tok (j) 0 (k) rfl (fun hg=>hF) (fun hg=>h_k) rfl rfl)<|Qq (.a (.v _)) rfl zyk (fun hg E w1 hm=>by exact hgv k _ hm.leV) ?_
     refine Dm 8 rfl ?_
     have hlt_k:=z01 h_k
     refine Qd rfl (z0c tok rfl (fun hg=>hF.sl) (fun hg=>⟨by omega,by omega⟩))<|Qd rfl (z08 tok (j) 0 (k) rfl (fun hg=>hF) (fun hg=>h_k) rfl rfl)<|Dm 4 rfl<|Qd rfl (z14 tok ((j - 1)*1+0) rfl (by rw[z06 (by omega) (by omega)];dsimp only;omega) (fun hg=>hF.sl) (fun hg=>by simp at hg;rw[z06 (by omega) (by omega)];omega)) ?_
     refine Qd rfl (z08 tok (j - 1) 0 (q) rfl (fun hg=>hF) (fun hg=>h_q) rfl rfl)<|Dm 3 rfl<|z1z [1,5,132] rfl<|Qw<|QX rfl (fun h=> ?_) fun h=> ?_
     ·
      refine QA<|QC<|QE 1 [2] rfl<|Qw<|QO<|QP<|QL<|QL<|QP<|QL<|z0h tok rfl ?_
      have hno:(decide (zdx fl j<k)&&z6n D k)=false:=by
       rcases h with h|h
       · rw[h,Bool.and_false]
       · rw[decide_eq_false (by omega)];rfl
      intro E w' hm _
      refine⟨?_,hm.below lr⟩
      rw[hcheck,hjq,hno]
      rfl
     ·
      refine QI<|QM<|Qw<|QC<|QE 3 [1,5] rfl<|Qw ?_
      have h16:=hg16 h.1
      have hyes:(decide (zdx fl j<k)&&z6n D k)=true:=by rw[decide_eq_true (by omega),h.1];rfl
      rw[hyes,Bool.true_and]at hjq
      have hls:=zav h_k
      rw[z06 (n:=(j:Int)+1) (by omega) (by omega)]
      refine Qr (j+1)<|⟨by omega,by rw[hjq,hls]⟩
    ·
     refine QN<|QK<|QK<|QQ<|Qw<|QA<|QC<|QE 1 [2] rfl<|Qw<|QO<|z0h tok rfl ?_
     have hfe:zpu D 0 fl=true:=by rw[hjq,List.drop_eq_nil_of_le (show fl.length≤j by omega)];rfl
     intro E w' hm _
     refine⟨?_,hm.below lr⟩
     rw[hcheck,hfe]
     rfl
theorem zxc(g:Geo):z8s 4 (zf4 g)=if z2y g=true then⟨1+2*g.nodes,g.log,4,1⟩else⟨0,0,0,1⟩:=by
 unfold zf4
 split<;>simp[zpm,z8s]
theorem zz6(g:Geo)(ok:g.Ok)(hG:z2y g=true)(w:World):Rt 114 #[g.val,I 0] w (I (1+2*g.nodes)):=by
 have hr:=zxc g
 rw[if_pos hG]at hr
 have hf:=z0b hG
 refine Qf [.a (.v g.val), .a (.v (I 0))] Tryz.func114 rfl<|QA<|QC<|QE 2 [1,2] rfl<|Qw<|QA<|QC<|Yy 2 rfl<|Qc (.a (.v _)) rfl zd1 (fun hg E w1 hm=>by exact zlj g ok 4 0 0 _ hr g.log (by omega) (by dsimp only;omega) (by dsimp only;omega) (by dsimp only;omega) (by dsimp only;omega) (by dsimp only;omega) (1+2*g.nodes) (by rw[if_neg (by dsimp only;omega)];dsimp only;omega) _) ?_
 refine QE 1 [4] rfl<|Qw<|QO<|Qb rfl fun E w' hm=>⟨?_,hm.below lr⟩
 rfl
theorem j05(g:Geo)(ok:g.Ok)(hG:z2y g=true)(w:World):Rt 93 #[g.val,I 0] w (I (1+2*g.nodes)):=by
 have hf:=z0b hG
 refine Qf [.a (.v g.val), .a (.v (I 0))] Tryz.func93 rfl<|QA<|QC<|QE 2 [1,2] rfl<|Qw<|QA<|QA<|QC<|Yy 1 rfl<|Qc (.a (.v _)) rfl z78 (fun hg E w1 hm=>by exact z3k g ok _) ?_
 refine Yy 6 rfl<|Qc (.a (.v _)) rfl z7k (fun hg E w1 hm=>by exact zt5 _ _ _ _) ?_
 refine QE 2 [1,2,15] rfl<|Qw<|Qn rfl (fun h=> ?_) fun h=> ?_
 ·
  refine QA<|QC<|QE 1 [4] rfl<|Qw<|QO<|QL<|z0h tok rfl ?_
  rw[z7e]at h
  simp only[Bool.or_eq_true,Bool.not_eq_true',decide_eq_false_iff_not]at h
  rw[z06 (by omega) (by omega),hG]at h
  rcases h with h|h
  · cases h
  · omega
 ·
  refine QI<|Qw<|QA<|QC<|QE 7 [4] rfl<|Qw<|QO<|Qb rfl fun E w' hm=>⟨?_,hm.below lr⟩
  rw[z06 (n:=2*g.nodes) (by omega) (by omega),z06 (n:=1+2*g.nodes) (by omega) (by omega),z06 (by omega) (by omega)]
  simp;rfl
def zjb(g:Geo)(l:List ByteArray):List ByteArray:=(l.drop (1+2*g.nodes).toNat).take g.log.toNat
def zaa(g:Geo)(d:Device):Bool:=z2y g&&(z2a d&&decide ((d.s.l.length:Int)=z5j g))
def zc0(g:Geo)(d:Device):List Cmd×Int:=if zaa g d=true then ze9 (zjb g d.s.l) []else([],2)
theorem zbb{g:Geo}(hG:z2y g=true){n:Nat}(hn:(n:Int)=z5j g):0≤1+2*g.nodes∧1+2*g.nodes+g.log≤n∧n≤1000000:=by
 have hf:=z0b hG
 have hz:=z2d hG
 have ht:z5j g=z2b g+g.blocks*g.per:=by rw[z5j,if_pos hG]
 have hd:z2b g=1+2*g.nodes+g.log+g.slots*(1+g.journal):=rfl
 omega
theorem zjm{V:Vw}{f:Nat}{r:List Cmd×Int}{args:Array Value}{w:World}(hV:V.le (vw w))(h:Cl f args w (zea r w)):
  Cl f args w fun e w'=> ∃x V',e= .returned x∧Below w.heap.size w w'∧Vext w.heap.size V V' w'∧zv8 r x V':=by
 refine h.mono ?_
 rintro e w' ⟨⟨v,rfl,hown⟩,hb⟩
 obtain⟨V',hx,hsl⟩:=z1i hV hb hown
 exact⟨_,V',rfl,hb,hx,v,rfl,hsl,fun _=>rfl⟩
theorem zsk{V:Vw}{v:Value}{l:List ByteArray}(g:Geo)(hs:SlOf V z1a 1 v l)(hG:z2y g=true)(hn:(l.length:Int)=z5j g):
  SlOf V z1a 1 (z0n v (1+2*g.nodes).toNat (1+2*g.nodes+g.log).toNat 1) (zjb g l):=by
 obtain⟨h1,h2,_⟩:=zbb hG hn
 have hf:=z0b hG
 have:=hs.cut (lo:=(1+2*g.nodes).toNat) (hi:=(1+2*g.nodes+g.log).toNat) (by omega) (by omega)
 rw[show(1+2*g.nodes+g.log).toNat - (1+2*g.nodes).toNat=g.log.toNat by omega]at this
 exact this
theorem j5u(V:Vw)(g:Geo)(ok:g.Ok)(d:Device)(w:World)(hV:V.le (vw w))(hd0:DevIn V d)(hsz: ∀s∈d.s.l,s.size≤maxLen):
  Cl 89 #[g.val,d.val] w (zea (zc0 g d) w):=by
 obtain⟨⟨sv,sl⟩,⟨cv,cl⟩,⟨kv,kl⟩,nx,⟨fv,fl⟩⟩:=d
 obtain⟨a1,n1,c1,rfl⟩:=z04 hd0.s.sl
 obtain⟨a2,n2,c2,rfl⟩:=z04 hd0.cache.sl
 obtain⟨a3,n3,c3,rfl⟩:=z04 hd0.keys.sl
 obtain⟨a4,n4,c4,rfl⟩:=z04 hd0.fenced.sl
 have hS:=hd0.s.mono hV
 generalize hD:(⟨⟨.slice a1 n1 c1,sl⟩,⟨.slice a2 n2 c2,cl⟩,⟨.slice a3 n3 c3,kl⟩,nx,⟨.slice a4 n4 c4,fl⟩⟩:Device)=D at*
 have hval:D.val= .agg #[.slice a1 n1 c1, .slice a2 n2 c2, .slice a3 n3 c3,I nx, .slice a4 n4 c4]:=by rw[←hD]
 have hDl:D.s.l=sl:=by rw[←hD]
 have hDv:D.s.v= .slice a1 n1 c1:=by rw[←hD]
 have hchk:=fun(w1:World) (hle:V.le (vw w1))=>zhv V D w1 hle hd0
 rw[hDv,hDl]at hS
 rw[hDl]at hsz
 have hlb:zaa g D=(z2y g&&(z2a D&&decide ((sl.length:Int)=z5j g))):=by rw[zaa,hDl]
 have hlv:zc0 g D=if zaa g D=true then ze9 (zjb g sl) []else([],2):=by rw[zc0,hDl]
 rw[hval]at hchk⊢
 clear hD hd0 hval
 refine Qf [.a (.v g.val), .a (.v (.agg #[.slice a1 n1 c1, .slice a2 n2 c2, .slice a3 n3 c3,I nx, .slice a4 n4 c4]))] Tryz.func89 rfl<|QA<|QC<|QE 4 [2,3] rfl<|Qw<|QA<|QA<|z11 mixed (by kernel_rfl)<|Dm 1 rfl<|Qq (.a (.v _)) rfl zcr (fun hg E w1 hm=>by exact z73 g ok _) ?_
 refine Dm 3 rfl<|Qq (.a (.v _)) rfl zr4 (fun hg E w1 hm=>by exact hchk _ (hV.trans hm.leV)) ?_
 refine Dm 5 rfl<|Qd rfl (z0l tok rfl (fun hg=>hS.sl))<|Dm 1 rfl<|Qq (.a (.v _)) rfl zni (fun hg E w1 hm=>by exact zi3 g ok _) ?_
 refine Dm 2 rfl<|z1z [2,3,21] rfl<|Qw<|Qn rfl (fun h=> ?_) fun h=> ?_
 ·
  refine QA<|QC<|QE 2 [4,5] rfl<|Qw<|QO<|QL<|z0h tok rfl ?_
  have hlo:zaa g D=false:=by
   rw[hlb,Bool.eq_false_iff]
   intro hc
   simp only[Bool.and_eq_true,decide_eq_true_eq]at hc
   obtain⟨h1,h2,h3⟩:=hc
   simp[h1,h2,h3]at h
  intro E w' hm _
  refine⟨⟨.slice none 0 0,by rw[hlv,hlo];rfl, ?_⟩,hm.below lr⟩
  rw[hlv,hlo]
  exact⟨rfl, .inl ⟨rfl,rfl⟩⟩
 ·
  have hlo:zaa g D=true:=by
   rw[hlb]
   simp only[Bool.or_eq_false_iff,Bool.not_eq_false',bne_eq_false_iff_eq]at h
   obtain⟨⟨h1,h2⟩,h3⟩:=h
   have h4:z2a D=true:=by
    cases hq:z2a D with
    |true=>rfl
    |false=>rw[hq]at h2;simp at h2
   simp[h1,h4,h3]
  clear h
  have hlo2:=hlo
  rw[hlb]at hlo2
  simp only[Bool.and_eq_true,decide_eq_true_eq]at hlo2
  obtain⟨hG,_,hln⟩:=hlo2
  obtain⟨hi1,hi2,hi3⟩:=zbb hG hln
  have hf:=z0b hG
  rw[if_pos hlo]at hlv
  refine QI<|Qw<|QA<|Ra rfl<|QT [0,1,2,4,6,7] rfl<|QS<|Qo 3<|Qh 3 (.a (.v _)) rfl rfl zr5 (fun hg E w1 hm=>by exact zz6 g ok hG _) ?_
  refine Qo 5<|Qh 5 (.a (.v _)) rfl rfl zr5 (fun hg E w1 hm=>by exact zz6 g ok hG _) ?_
  refine Qx [8] rfl<|Qo 9 ?_
  rw[z06 (n:=1+2*g.nodes+g.log) (by omega) (by omega)]
  refine Qy 9 rfl rfl (zo7 tok rfl (fun hg=>hS.sl) (fun hg=>by dsimp only[Option.getD];omega))<|Qo 10 ?_
  rw[show((some (1+2*g.nodes)).getD 0).toNat=(1+2*g.nodes).toNat from rfl,show((some (1+2*g.nodes+g.log)).getD (sl.length:Int)).toNat=(1+2*g.nodes+g.log).toNat from rfl]
  have hcut:=zsk g hS hG hln
  have hLs: ∀s∈zjb g sl,s.size≤maxLen:=fun s hs=>hsz s (List.mem_of_mem_drop (List.mem_of_mem_take hs))
  have hLn:(zjb g sl).length≤1000000:=by rw[zjb,List.length_take,List.length_drop];omega
  generalize hR:ze9 (zjb g sl) []=R at*
  have hrc:=fun(w1:World) (hle:(vw w).le (vw w1))=>j8r (vw w) _ (zjb g sl) w1 hle hcut hLs hLn
  rw[hR]at hrc
  refine Qg 10 rfl rfl (ze5 (fun _:Unit=>True) (fun _=> .tup [.row 2, .v (I R.2)]) 164 8 (fun _=>R.1.length) (fun _=>R.1.flatMap Cmd.cells) rfl j43 (fun _=>rfl) (fun E w1 hm=>(hrc w1 hm.leV).mono (fun e w' hq=>⟨(),hq.1.choose,hq.1.choose_spec.1,hq.1.choose_spec.2,hq.2,trivial⟩))) fun _ _=>z36 11 rfl (by kernel_rfl) rfl rfl rfl rfl (yV rfl) rfl<|Qx [12,13,14] rfl<|Qe [4,5] rfl<|Qw<|QO ?_
  refine Qb rfl fun E w' hm=>⟨⟨E.κ 2,by rw[hlv];rfl, ?_⟩,hm.below lr⟩
  rw[hlv]
  exact hm.rowFresh lr (l:=2) rfl
theorem j39(V:Vw)(g:Geo)(ok:g.Ok)(d:Device)(w:World)(hV:V.le (vw w))(hd0:DevIn V d)(hsz: ∀s∈d.s.l,s.size≤maxLen):
  Cl 61 #[g.val,d.val] w (zea (zc0 g d) w):=by
 obtain⟨⟨sv,sl⟩,⟨cv,cl⟩,⟨kv,kl⟩,nx,⟨fv,fl⟩⟩:=d
 obtain⟨a1,n1,c1,rfl⟩:=z04 hd0.s.sl
 obtain⟨a2,n2,c2,rfl⟩:=z04 hd0.cache.sl
 obtain⟨a3,n3,c3,rfl⟩:=z04 hd0.keys.sl
 obtain⟨a4,n4,c4,rfl⟩:=z04 hd0.fenced.sl
 have hS:=hd0.s.mono hV
 generalize hD:(⟨⟨.slice a1 n1 c1,sl⟩,⟨.slice a2 n2 c2,cl⟩,⟨.slice a3 n3 c3,kl⟩,nx,⟨.slice a4 n4 c4,fl⟩⟩:Device)=D at*
 have hval:D.val= .agg #[.slice a1 n1 c1, .slice a2 n2 c2, .slice a3 n3 c3,I nx, .slice a4 n4 c4]:=by rw[←hD]
 have hDl:D.s.l=sl:=by rw[←hD]
 have hDv:D.s.v= .slice a1 n1 c1:=by rw[←hD]
 have hchk:=fun(w1:World) (hle:V.le (vw w1))=>z8b V D w1 hle hd0
 rw[hDv,hDl]at hS
 rw[hDl]at hsz
 have hlb:zaa g D=(z2y g&&(z2a D&&decide ((sl.length:Int)=z5j g))):=by rw[zaa,hDl]
 have hlv:zc0 g D=if zaa g D=true then ze9 (zjb g sl) []else([],2):=by rw[zc0,hDl]
 rw[hval]at hchk⊢
 clear hD hd0 hval
 refine Qf [.a (.v g.val), .a (.v (.agg #[.slice a1 n1 c1, .slice a2 n2 c2, .slice a3 n3 c3,I nx, .slice a4 n4 c4]))] Tryz.func61 rfl<|QA<|QC<|QE 4 [2,3] rfl<|Qw<|QA<|QA<|z11 mixed (by kernel_rfl)<|Dm 1 rfl<|Qq (.a (.v _)) rfl z78 (fun hg E w1 hm=>by exact z3k g ok _) ?_
 refine Dm 3 rfl<|Qq (.a (.v _)) rfl zoh (fun hg E w1 hm=>by exact hchk _ (hV.trans hm.leV)) ?_
 refine Dm 5 rfl<|Qd rfl (z0l tok rfl (fun hg=>hS.sl))<|Dm 1 rfl<|Qq (.a (.v _)) rfl zk0 (fun hg E w1 hm=>by exact z6k g ok _) ?_
 refine Dm 2 rfl<|z1z [2,3,22] rfl<|Qw<|Qn rfl (fun h=> ?_) fun h=> ?_
 ·
  refine QA<|QC<|QE 2 [4,5] rfl<|Qw<|QO<|QL<|z0h tok rfl ?_
  have hlo:zaa g D=false:=by
   rw[hlb,Bool.eq_false_iff]
   intro hc
   simp only[Bool.and_eq_true,decide_eq_true_eq]at hc
   obtain⟨h1,h2,h3⟩:=hc
   simp[h1,h2,h3]at h
  intro E w' hm _
  refine⟨⟨.slice none 0 0,by rw[hlv,hlo];rfl, ?_⟩,hm.below lr⟩
  rw[hlv,hlo]
  exact⟨rfl, .inl ⟨rfl,rfl⟩⟩
 ·
  have hlo:zaa g D=true:=by
   rw[hlb]
   simp only[Bool.or_eq_false_iff,Bool.not_eq_false',bne_eq_false_iff_eq]at h
   obtain⟨⟨h1,h2⟩,h3⟩:=h
   have h4:z2a D=true:=by
    cases hq:z2a D with
    |true=>rfl
    |false=>rw[hq]at h2;simp at h2
   simp[h1,h4,h3]
  clear h
  have hlo2:=hlo
  rw[hlb]at hlo2
  simp only[Bool.and_eq_true,decide_eq_true_eq]at hlo2
  obtain⟨hG,_,hln⟩:=hlo2
  obtain⟨hi1,hi2,hi3⟩:=zbb hG hln
  have hf:=z0b hG
  rw[if_pos hlo]at hlv
  refine QI<|Qw<|QA<|QC<|Yy 1 rfl<|Qc (.a (.v _)) rfl j5v (fun hg E w1 hm=>by exact j05 g ok hG _) ?_
  refine QE 1 [2,3,6] rfl<|Qw<|QA<|QC<|Yy 7 rfl ?_
  rw[z06 (n:=1+2*g.nodes+g.log) (by omega) (by omega)]
  refine QY rfl (zo7 tok rfl (fun hg=>hS.sl) (fun hg=>by dsimp only[Option.getD];omega)) ?_
  rw[show((some (1+2*g.nodes)).getD 0).toNat=(1+2*g.nodes).toNat from rfl,show((some (1+2*g.nodes+g.log)).getD (sl.length:Int)).toNat=(1+2*g.nodes+g.log).toNat from rfl]
  have hcut:=zsk g hS hG hln
  have hLs: ∀s∈zjb g sl,s.size≤maxLen:=fun s hs=>hsz s (List.mem_of_mem_drop (List.mem_of_mem_take hs))
  have hLn:(zjb g sl).length≤1000000:=by rw[zjb,List.length_take,List.length_drop];omega
  generalize hR:ze9 (zjb g sl) []=R at*
  have hrc:=fun(w1:World) (hle:(vw w).le (vw w1))=>zqm (vw w) _ (zjb g sl) w1 hle hcut hLs hLn
  rw[hR]at hrc
  refine QZ rfl (ze5 (fun _:Unit=>True) (fun _=> .tup [.row 2, .v (I R.2)]) 164 8 (fun _=>R.1.length) (fun _=>R.1.flatMap Cmd.cells) rfl j5r (fun _=>rfl) (fun E w1 hm=>(hrc w1 hm.leV).mono (fun e w' hq=>⟨(),hq.1.choose,hq.1.choose_spec.1,hq.1.choose_spec.2,hq.2,trivial⟩))) fun _ _=>QE 4 [4,5] rfl<|Qw<|QO<|Qb rfl fun E w' hm=>⟨⟨E.κ 2,by rw[hlv];rfl, ?_⟩,hm.below lr⟩
  rw[hlv]
  exact hm.rowFresh lr (l:=2) rfl
theorem zo6: ∀(L:List ByteArray) (acc:List Cmd),(ze9 L acc).1.length≤L.length+acc.length
 |[],acc=>by simp[ze9]
 |s::r,acc=>by
  rw[ze9]
  split
  · simp
  ·
   split
   · simp
   ·
    have:=zo6 r (acc++[drC s])
    simp only[List.length_append,List.length_cons,List.length_nil]at this⊢
    omega
def z10(sl:List ByteArray)(n:Nat)(sv cv kv:Value):Device:=⟨⟨sv,sl⟩,⟨cv,List.replicate n ⟨.slice none 0 0,[]⟩⟩,⟨kv,List.replicate n 0⟩,1,⟨.slice none 0 0,[]⟩⟩
theorem zjs(sl:List ByteArray)(n:Nat)(sv cv kv:Value): ∀(m i:Nat),z9h (z10 sl n sv cv kv) i (List.replicate m 0) (List.replicate m ⟨.slice none 0 0,[]⟩)=true
 |0,_=>rfl
 |m+1,i=>by
  rw[List.replicate_succ,List.replicate_succ,z9h,zjs sl n sv cv kv m (i+1),Bool.and_true,zbs]
  rfl
theorem zdk(sl:List ByteArray)(n:Nat)(sv cv kv:Value)(h0:0<n)(h1:n≤16):z2a (z10 sl n sv cv kv)=(decide (0<sl.length)&&z48 sl):=by
 have hk:z9h (z10 sl n sv cv kv) 0 (z10 sl n sv cv kv).keys.l (z10 sl n sv cv kv).cache.l=true:=zjs sl n sv cv kv n 0
 have hf:zpu (z10 sl n sv cv kv) 0 (z10 sl n sv cv kv).fenced.l=true:=rfl
 have hl:(z10 sl n sv cv kv).keys.l.length=n∧(z10 sl n sv cv kv).cache.l.length=n:=⟨by simp[z10],by simp[z10]⟩
 rw[z2a,hk,hf,zez,hl.1,hl.2,Bool.and_true,Bool.and_true,decide_eq_true (p:=_∧_) ⟨h0,h1,rfl,by simp[z10],by simp[z10]⟩,Bool.and_true]
 rfl
end Go.Proofs.YtkoiogkdiifgfaaGreat

/- Whether sectors are a device's: the program's, whole. -/
set_option linter.unusedVariables false
set_option linter.unusedSimpArgs false
set_option maxRecDepth 100000
namespace Go.Proofs.YtkoiogkdiifgfaaGreat
open Go Go.Eng Go.RowKit
end Go.Proofs.YtkoiogkdiifgfaaGreat

/- Superblocks and headers read back, what is at first checked: plain laws. -/
set_option linter.unusedVariables false
set_option linter.unusedSimpArgs false
set_option maxRecDepth 100000
namespace Go.Proofs.YtkoiogkdiifgfaaGreat
open Go Go.Eng Go.RowKit
theorem zqk: ∀(ks acc:List Int) (rest:ByteArray) {l:List Int} {r:ByteArray},zf2 acc rest ks=some (l,r)→ ∃l',l=acc++l'∧l'.length=ks.length∧rest.data.toList=z24 ks l'++r.data.toList
 |[],acc,rest,l,r,h=>by
  simp only[zf2,Option.some.injEq,Prod.mk.injEq]at h
  exact⟨[],by simp[h.1],rfl,by simp[z24,h.2]⟩
 |k::ks,acc,rest,l,r,h=>by
  rw[zf2]at h
  split at h
  · cases h
  ·
   rename_i hg
   have hg0:(z02 rest 0 k).2=0:=Decidable.not_not.1 hg
   obtain⟨hw,_,_⟩:=z6b hg0
   obtain⟨m,rfl⟩: ∃m:Nat,k=m:=⟨k.toNat,by have:=zkt hw;omega⟩
   obtain⟨l',h1,h2,h3⟩:=zqk ks _ _ h
   refine⟨(z02 rest 0 m).1::l',by rw[h1];simp,by simp[h2], ?_⟩
   have:=congrArg (fun x:ByteArray=>x.data.toList) (zec hg0)
   simp only[z0t]at this
   rw[Int.toNat_natCast]at h3
   rw[this,h3,z24,List.append_assoc]
theorem zwo{kind:Int}{s:ByteArray}{ks l:List Int}{r:ByteArray}(h:z17 kind s ks=some (l,r))(hr:r.size=0):s=z0i (z4m (z0m s 0) (z24 ks l))∧((z0m s 0).toNat:Int)=kind:=by
 unfold z17 at h
 split at h
 ·
  rename_i ho
  simp only[ofB,Bool.and_eq_true,decide_eq_true_eq]at ho
  obtain⟨ho,hk⟩:=ho
  refine⟨?_,hk⟩
  obtain⟨l',h1,h2,h3⟩:=zqk _ _ _ h
  simp only[List.nil_append]at h1
  subst h1
  have hr0:r.data.toList=[]:=List.length_eq_zero_iff.1 (by rw[z33];exact hr)
  rw[hr0,List.append_nil]at h3
  simp only[z47,Bool.and_eq_true,decide_eq_true_eq]at ho
  apply z4f
  rw[z0t,←h3]
  exact ho.2.symm
 · cases h
theorem zx3{s:ByteArray}{n:Int}(h:z2s s=some n):z3n n=(s,0)∧0≤n∧n≤1099511627776:=by
 unfold z2s at h
 split at h
 ·
  rename_i l r hfr
  split at h
  ·
   rename_i hq
   obtain⟨a,rfl⟩:=zhy (l:=l) (by rw[z39 hfr];rfl)
   have han:a=n:=by simpa using h
   subst han
   obtain⟨h1,h2⟩:=zwo hfr hq
   have hb:z0m s 0=2:=UInt8.toNat_inj.1 (by have:(2:UInt8).toNat=2:=rfl;omega)
   rw[hb]at h1
   have hbnd:0≤a∧a≤1099511627776:=by
    unfold z17 at hfr
    split at hfr
    ·
     simp only[zf2]at hfr
     split at hfr
     · cases hfr
     ·
      simp only[List.nil_append,Option.some.injEq,Prod.mk.injEq,List.cons.injEq,and_true]at hfr
      rw[←hfr.1]
      exact zfj _ _ _
    · cases hfr
   have hfit:z1k a 6=true:=by
    have:z6c (6:Int).toNat=1099511627776:=by decide
    rw[z1k,this]
    simp[z0w];omega
   have h6:(z24 [6] [a])=leB 6 a:=by simp[z24]
   rw[h6]at h1
   exact⟨by rw[zic hfit,←h1],hbnd⟩
  · cases h
 · cases h
theorem j52(n:Int):z1k n 6=(decide (0≤n)&&decide (n≤1099511627776)):=by
 have:z6c (6:Int).toNat=1099511627776:=by decide
 rw[z1k,this]
 simp[z0w]
theorem zgb(n:Int):((z3n n).2=0↔0≤n∧n≤1099511627776)∧((z3n n).2=0→z2s (z3n n).1=some n):=by
 by_cases h:z1k n 6=true
 ·
  have h2:=h
  rw[j52]at h2
  simp only[Bool.and_eq_true,decide_eq_true_eq]at h2
  exact⟨⟨fun _=>h2,fun _=>by rw[zic h]⟩,fun _=>zug h⟩
 ·
  have h2:=h
  rw[j52]at h2
  simp only[Bool.and_eq_true,decide_eq_true_eq]at h2
  have h3:(z3n n).2=2:=by rw[z3n,if_neg h]
  exact⟨⟨fun h4=>by omega,fun h4=>absurd h4 h2⟩,fun h4=>by omega⟩
theorem zxp{g:Geo}(h:z2y g=true):zf6 (gbV g)=some g:=by
 have hp:=zdi gW (z56 g) [] [] rfl (z7t h)
 have hl:=z6h g 8
 rw[List.take_of_length_le (by simp[gW]),List.take_of_length_le (by simp[z56])]at hl
 rw[List.append_nil]at hp
 have hv:gbV g=z0i (z4m 1 (z24 gW (z56 g))):=by rw[gbV,if_pos h]
 have ho:z47 (gbV g)=true:=by rw[hv];exact zfk (by decide) (by decide) hl
 have hof:ofB 1 (gbV g)=true:=by
  rw[ofB,ho,hv,z9f,Bool.true_and];decide
 have hfr:z17 1 (gbV g) gW=some ([]++z56 g,z0i []):=by
  rw[z17,if_pos hof,hv,z9a,hp]
 rw[zf6,hfr]
 simp only[List.nil_append]
 have hgo:zkh (z56 g)=g:=rfl
 rw[hgo,if_pos ⟨by rw[z16];rfl,h⟩]
theorem zzs(sv:Value)(l:List Block)(g:Geo)(ok:g.Ok)(b:Nat)(w:World)(hb:w.heap[b]? =some (.cells (sv::g.cells).toArray 129 (0,0)))(hs0:SlOf ((vw w).del b) Block.cells 2 sv l)(hn:l.length≤maxLen):
  Rt 75 #[.pointer (some ⟨b,0,none⟩)] w (.bool (zcl g l)):=by
 have hs:=hs0
 simp only[maxLen]at hn
 refine z4n [.a (.ptr 0 0)] hb Tryz.func75 rfl rfl rfl rfl<|QA<|QC<|QE 1 [0] rfl<|Qw<|QA<|QA<|QC<|Yy 4 rfl<|Qc (.a (.v _)) rfl zcr (fun hg E w1 hm=>by exact z73 g ok _) ?_
 refine QE 1 [0,11] rfl<|Qw<|QX rfl (fun h=> ?_) fun h=> ?_
 ·
  refine QA<|QC<|QE 1 [2] rfl<|Qw<|QO<|QL<|Qb rfl fun E w' hm=> ?_
  exact⟨by rw[zcl,h];rfl,z3g hb hm lr rfl rfl rfl⟩
 ·
  have hgg:=h
  have hf:=z0b hgg
  clear h
  have hmL:zcl g l=zeq g (-1) l:=by rw[zcl,hgg,Bool.true_and]
  have hwp:IntKind.i64.wrap (g.per*256)=g.per*256:=z06 (by omega) (by omega)
  refine QI<|Qw<|QA<|QC<|QE 1 [0,3] rfl<|Qw<|QA<|QA<|QC<|Yy 5 rfl<|QY rfl (z0l tok rfl (fun hg=>hs.sl))<|QE 1 [0,3,16,17,18] rfl<|Qw<|QJ<|Ql [0,16,17] [0,1,2] rfl rfl (σ:=Nat) (fun i=>[(3, .a (.v (I (z8r l i)))),(18, .a (.v (I i)))]) (fun i=>[(0, .lit ((sv::g.cells).map .v) 129),(1, .pin 0 b),(2, .size w.heap.size)]) (fun i=>i≤l.length∧zeq g (-1) l=zeq g (z8r l i) (l.drop i)∧ -1≤z8r l i) (fun i=>l.length - i) (0) (⟨by omega,rfl,by simp[z8r]⟩) ?_
  rintro i ⟨hi,heq,hlast⟩
  refine QA<|QC<|QE 1 [0,3,16,17,18,19] rfl<|Qw<|QA<|QX rfl (fun h=> ?_) fun h=> ?_
  ·
   refine QI<|Qw<|QA<|QJ<|QA<|QC ?_
   obtain⟨x,h_x⟩:=hs.at (k:=i) (by omega)
   rw[z27 h_x]at heq
   have hlt_x:=z01 h_x
   refine QY rfl (z0c tok rfl (fun hg=>hs.sl) (fun hg=>⟨by omega,by omega⟩))<|QY rfl (z08 tok (i) 0 (x) rfl (fun hg=>hs) (fun hg=>h_x) rfl rfl)<|Yy 1 rfl<|Qs rfl<|z07 [0,3,5,16,17,18] rfl<|Qw<|QA<|QA<|z11 mixed (by kernel_rfl)<|Dm 26 rfl<|z1z [0,5,16,17,18,47] rfl<|Qw<|QX rfl (fun h=> ?_) fun h=> ?_
   ·
    refine QA<|QC<|QE 1 [2] rfl<|Qw<|QO<|QL<|QP<|QL<|QL<|QP<|QL<|z0h tok rfl ?_
    rw[hwp]at h
    have hno:zeq g (z8r l i) (x::l.drop (i+1))=false:=by
     rw[Bool.eq_false_iff]
     intro hc
     obtain⟨⟨h1,h2,h3⟩,_⟩:=zcq.1 hc
     omega
    intro E w' hm _
    exact⟨by rw[hmL,heq,hno];rfl,z3g hb hm lr rfl rfl rfl⟩
   ·
    refine QI<|Qw<|QC<|QE 3 [0,3,16,17,18] rfl<|QM<|Qw<|QC<|QE 2 [0,3,16,17,18] rfl<|Qw ?_
    rw[hwp]at h
    have hyes:zeq g (z8r l i) (x::l.drop (i+1))=zeq g x.n (l.drop (i+1)):=by
     rw[zeq,decide_eq_true (by omega),Bool.true_and]
    rw[z06 (n:=(i:Int)+1) (by omega) (by omega)]
    have hls:=zao h_x
    rw[←hls]
    refine Qr (i+1)<|⟨by omega,by rw[heq,hyes,hls],by rw[hls];omega⟩
  ·
   refine QN<|QK<|QK<|QQ<|Qw<|QA<|QC<|QE 1 [2] rfl<|Qw<|QO<|z0h tok rfl ?_
   have hkL:i=l.length:=by omega
   subst hkL
   rw[List.drop_length,zeq]at heq
   intro E w' hm _
   exact⟨by rw[hmL,heq];rfl,z3g hb hm lr rfl rfl rfl⟩
theorem j6y(V:Vw)(g:Geo)(ok:g.Ok)(sv:Value)(l:List Block)(w:World)(hV:V.le (vw w))(hs0:SlOf V Block.cells 2 sv l)(hn:l.length≤maxLen):
  Rt 40 #[g.val,sv] w (.bool (zcl g l)):=by
 obtain⟨a,n,c,rfl⟩:=z04 hs0.sl
 have hs:=hs0.mono hV
 refine Qf [.a (.v g.val), .a (.v (.slice a n c))] Tryz.func40 rfl<|QA<|QC<|QE 2 [1,2] rfl<|Qw<|QA<|QC<|Yy 5 rfl<|Qc (.a (.v _)) rfl j55 (fun hg E w1 hm=>by exact zzs _ l g ok _ _ (hm.lit 1 _ _ rfl) (hs.mono (hm.leDel (l:=1) rfl)) hn) ?_
 refine QE 1 [4] rfl<|Qw<|QO<|Qb rfl fun E w' hm=>⟨?_,hm.below lr⟩
 rfl
end Go.Proofs.YtkoiogkdiifgfaaGreat

/- Where blocks stand: the program's. -/
set_option linter.unusedVariables false
set_option linter.unusedSimpArgs false
set_option maxRecDepth 100000
namespace Go.Proofs.YtkoiogkdiifgfaaGreat
open Go Go.Eng Go.RowKit
theorem z7o: ∀(l:List Record) (i n d:Nat),n≤i→z31 l i n d≤i+l.length
 |[],i,n,d,h=>by rw[z31];exact Nat.le_trans h (Nat.le_add_right _ _)
 |r::t,i,n,d,h=>by
  rw[z31]
  have h1:=z7o t (i+1) n (d+1) (by omega)
  have h2:=z7o t (i+1) (i+1) 0 (by omega)
  simp only[List.length_cons]
  split
  · omega
  · split<;>omega
theorem za6(l:List Record):whole l≤l.length:=by
 have:=z7o l 0 0 0 (Nat.le_refl _)
 unfold whole;omega
end Go.Proofs.YtkoiogkdiifgfaaGreat
