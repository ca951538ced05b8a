import Derived.Test.YtlkkohkilelamaaGreatShf
import Derived.Test.YtlkkohkilelamaaGreatEng31
import Derived.Test.YtlkkohkilelamaaGreatEng51
import Derived.Test.YtlkkohkilelamaaGreatProg
import Derived.KernelRfl
/- A part of the proof of SurveySlots. -/
set_option linter.unusedVariables false
namespace Go.Proofs.YtlkkohkilelamaaGreat
open Go Go.Eng Go.RowKit
abbrev cA:Z7:=.int .i64 0
abbrev cz:Z7:=.slice none 0 0
def kF:Nat->Z8 Nat->Z8 (Nat×Nat×Nat)
 |_,[]=>[]
 |i,x::r=>(i,x,1)::kF (i+1) r
def lg:Nat->Z8 (Nat×Nat)->Z8 (Nat×Nat×Nat)
 |_,[]=>[]
 |i,(x,k)::r=>(i,x,k)::lg (i+k) r
abbrev pn:TI:=⟨1,8,[.nilFunc],[],.other⟩
abbrev yt:TI:=⟨1,8,[cA],[],.int .i64⟩
abbrev KR:TI:=⟨1,1,[.int .u8 0],[],.int .u8⟩
abbrev G3:TI:=⟨4,24,[cA,cA,.bool false,.int .u8 0],(kF 0 [2,3,4,6]),.struct⟩
abbrev DA:TI:=⟨1,16,[.string ByteArray.empty],[],.str⟩
abbrev BF:TI:=⟨1,8,[.int .u64 0],[],.int .u64⟩
abbrev EF:TI:=⟨2,24,[.string ByteArray.empty,.int .u64 0],[(0,9,1),(1,12,1)],.struct⟩
abbrev iJ:TI:=⟨1,8,[.pointer none],[],.other⟩
abbrev J2:TI:=⟨1,8,[.pointer none],[(0,17,1)],.struct⟩
abbrev EO:TI:=⟨8,64,[cA,cA,cA,cA,cA,cA,cA,cA],(kF 0 [3,3,3,3,3,3,3,3]),.struct⟩
abbrev Bj:TI:=⟨2,16,[cA,cA],[(0,3,1),(1,3,1)],.struct⟩
abbrev GZ:TI:=⟨2,24,[cA,.string ByteArray.empty],[(0,3,1),(1,9,1)],.struct⟩
abbrev Fb:TI:=⟨1,8,[.map none],[],.other⟩
def tt:Z8 (Nat×TI):=[
 (1,pn),
 (2,yt),
 (3,yt),
 (4,⟨1,1,[.bool false],[],.bool⟩),
 (5,KR),
 (6,KR),
 (7,G3),
 (8,G3),
 (9,DA),
 (10,DA),
 (11,DA),
 (12,BF),
 (13,EF),
 (14,EF),
 (15,iJ),
 (16,iJ),
 (17,iJ),
 (18,J2),
 (19,J2),
 (21,⟨1,4,[.int .i32 0],[],.int .i32⟩),
 (22,EO),
 (23,EO),
 (24,⟨1,24,[cz],[],.slice 106⟩),
 (25,⟨1,24,[cz],[],.slice 9⟩),
 (26,⟨1,24,[cz],[],.slice 123⟩),
 (27,⟨1,24,[cz],[],.slice 3⟩),
 (29,⟨5,104,[cz,cz,cz,cA,cz],(kF 0 [25,26,27,3,27]),.struct⟩),
 (30,⟨1,24,[cz],[],.slice 131⟩),
 (31,⟨1,24,[cz],[],.slice 172⟩),
 (33,⟨15,216,[cA,cA,cA,cA,cA,cA,cA,cA,cz,cz,cz,cA,cz,cz,cz],(lg 0 [(23,8),(29,5),(30,1),(31,1)]),.struct⟩),
 (37,⟨1,24,[cz],[],.slice 53⟩),
 (38,⟨1,24,[cz],[],.slice 189⟩),
 (40,⟨3,72,[cz,cz,cz],(kF 0 [37,38,38]),.struct⟩),
 (41,yt),
 (44,⟨1,24,[cz],[],.slice 51⟩),
 (47,⟨1,24,[cz],[],.slice 56⟩),
 (51,⟨6,48,[cA,cA,cA,cA,cA,cA],(kF 0 [3,3,3,3,3,3]),.struct⟩),
 (53,Bj),
 (56,⟨3,40,[.string ByteArray.empty,.string ByteArray.empty,cA],(kF 0 [9,9,3]),.struct⟩),
 (71,⟨1,24,[cz],[],.slice 139⟩),
 (75,iJ),
 (81,⟨1,24,[cz],[],.slice 86⟩),
 (84,⟨17,264,[cz,cz,cz,cA,cA,cA,cA,cA,cA,cA,cA,cz,cz,cz,cA,cz,cz],(lg 0 [(40,3),(23,8),(29,5),(27,1)]),.struct⟩),
 (86,⟨6,56,[cA,cA,cA,cA,.string ByteArray.empty,cA],(kF 0 [3,3,3,3,9,3]),.struct⟩),
 (89,⟨1,24,[cz],[],.slice 93⟩),
 (93,GZ),
 (99,⟨1,1,[.int .i8 0],[],.int .i8⟩),
 (101,Bj),
 (103,⟨8,72,[.int .i8 0,cA,cA,.int .i8 0,cA,.string ByteArray.empty,cA,cA],(lg 0 [(99,1),(101,2),(99,1),(3,1),(9,1),(3,1),(3,1)]),.struct⟩),
 (104,BF),
 (106,⟨11,96,[.int .i8 0,cA,.int .u64 0,.int .i8 0,cA,cA,.int .i8 0,cA,.string ByteArray.empty,cA,cA],(lg 0 [(99,1),(3,1),(104,1),(103,8)]),.struct⟩),
 (112,⟨2,32,[.bool false,cz],[(0,4,1),(1,89,1)],.struct⟩),
 (113,⟨1,24,[cz],[],.slice 352⟩),
 (114,⟨1,24,[cz],[],.slice 101⟩),
 (116,⟨4,40,[cA,cA,cA,.string ByteArray.empty],(kF 0 [3,3,3,9]),.struct⟩),
 (118,⟨7,56,[cA,cA,cA,.string ByteArray.empty,cA,.bool false,.bool false],(kF 0 [3,3,3,9,3,4,4]),.struct⟩),
 (120,⟨15,136,[cA,.string ByteArray.empty,.int .i8 0,cA,cA,cA,cA,.string ByteArray.empty,cA,cA,cA,.string ByteArray.empty,cA,.bool false,.bool false],(lg 0 [(3,1),(9,1),(99,1),(3,1),(116,4),(118,7)]),.struct⟩),
 (122,⟨2,32,[cz,cA],[(0,81,1),(1,3,1)],.struct⟩),
 (123,⟨1,24,[cz],[],.slice 243⟩),
 (125,⟨4,48,[cz,cA,cA,.int .i8 0],(kF 0 [123,3,3,99]),.struct⟩),
 (127,⟨8,96,[cA,cA,.int .i8 0,cA,cz,cz,cA,cA],(kF 0 [3,3,99,3,81,123,3,3]),.struct⟩),
 (129,⟨3,40,[cA,cA,cz],(kF 0 [3,3,25]),.struct⟩),
 (131,⟨64,720,[cA,cA,.bool false,cA,cA,cA,cA,.bool false,cA,cA,cA,cz,cz,cz,cA,cA,.bool false,cz,cz,cz,cz,.bool false,.bool false,.int .i8 0,cA,cA,.int .i8 0,cA,.string ByteArray.empty,cA,cA,.int .i8 0,cA,.string ByteArray.empty,.int .i8 0,cA,cA,cA,cA,.string ByteArray.empty,cA,cA,cA,.string ByteArray.empty,cA,.bool false,.bool false,cz,cA,cz,cA,cA,.int .i8 0,cA,cA,.int .i8 0,cA,cz,cz,cA,cA,cA,cA,cz],(lg 0 [(3,1),(3,1),(4,1),(41,1),(3,1),(3,1),(3,1),(4,1),(3,1),(3,1),(3,1),(40,3),(3,1),(3,1),(112,2),(89,1),(113,1),(114,1),(4,1),(4,1),(103,8),(99,1),(120,15),(122,2),(125,4),(127,8),(129,3)]),.struct⟩),
 (139,⟨8,64,[.int .i8 0,cA,cA,cA,cA,cA,cA,.int .i8 0],(lg 0 [(99,1),(3,1),(3,1),(3,1),(3,1),(101,2),(99,1)]),.struct⟩),
 (144,pn),
 (153,Fb),
 (156,iJ),
 (158,⟨1,24,[cz],[(0,89,1)],.struct⟩),
 (160,⟨9,88,[cz,cA,cA,cA,cA,cA,cA,cA,cA],[(0,158,1),(1,23,8)],.struct⟩),
 (168,⟨3,32,[cA,.string ByteArray.empty,.bool false],(kF 0 [41,9,4]),.struct⟩),
 (172,⟨14,128,[cA,cA,.int .i8 0,cA,cA,.int .i8 0,cA,.string ByteArray.empty,cA,cA,.bool false,cA,.string ByteArray.empty,.bool false],(lg 0 [(3,1),(3,1),(103,8),(4,1),(168,3)]),.struct⟩),
 (189,⟨4,32,[cA,cA,cA,.int .i8 0],(lg 0 [(3,1),(101,2),(99,1)]),.struct⟩),
 (196,iJ),
 (198,⟨5,104,[cz,cz,cz,cA,cz],[(0,29,5)],.struct⟩),
 (200,Bj),
 (202,⟨4,32,[cA,cA,.int .i8 0,cA],(lg 0 [(200,2),(99,1),(3,1)]),.struct⟩),
 (205,iJ),
 (207,⟨8,64,[cA,cA,cA,cA,cA,cA,cA,cA],[(0,23,8)],.struct⟩),
 (209,⟨1,24,[cz],[],.slice 211⟩),
 (211,iJ),
 (213,⟨10,96,[cA,cA,cA,cA,cA,cA,cA,cA,cz,cA],(lg 0 [(23,8),(25,1),(3,1)]),.struct⟩),
 (219,iJ),
 (221,⟨11,104,[cA,cA,cz,cA,cA,cA,cA,cA,cA,cA,cA],[(0,129,3),(3,23,8)],.struct⟩),
 (231,⟨4,40,[.int .i8 0,cA,.string ByteArray.empty,cA],(kF 0 [99,3,9,3]),.struct⟩),
 (240,BF),
 (243,GZ),
 (256,⟨1,24,[cz],[],.slice 202⟩),
 (259,⟨12,144,[cz,cz,cz,cA,cA,cA,cA,cA,cA,cA,cA,cA],(lg 0 [(40,3),(23,8),(3,1)]),.struct⟩),
 (260,iJ),
 (262,pn),
 (265,iJ),
 (266,⟨1,24,[cz],[],.slice 5⟩),
 (268,⟨2,32,[.pointer none,cz],[(0,265,1),(1,266,1)],.struct⟩),
 (277,yt),
 (298,⟨1,24,[cz],[],.slice 99⟩),
 (316,pn),
 (317,Fb),
 (319,iJ),
 (321,⟨10,88,[.int .i8 0,cA,cA,cA,cA,cA,cA,.int .i8 0,.string ByteArray.empty,.bool false],(lg 0 [(139,8),(9,1),(4,1)]),.struct⟩),
 (323,⟨11,112,[.int .i8 0,cA,cA,cA,cA,cA,cA,.int .i8 0,.string ByteArray.empty,.bool false,cz],[(0,321,10),(10,71,1)],.struct⟩),
 (327,iJ),
 (352,⟨4,32,[cA,cA,cA,.bool false],(kF 0 [3,3,3,4]),.struct⟩),
 (366,iJ),
 (367,pn),
 (368,⟨6,48,[.nilFunc,.nilFunc,.nilFunc,.nilFunc,.nilFunc,.nilFunc],[],.arr 6 367⟩),
 (370,iJ),
 (373,⟨11,136,[cz,cz,cz,cA,cA,cA,cA,cA,cA,cA,cA],[(0,40,3),(3,23,8)],.struct⟩),
 (374,iJ),
 (376,⟨6,56,[cA,cA,cA,cA,.string ByteArray.empty,cA],[(0,86,6)],.struct⟩),
 (401,iJ),
 (403,⟨2,24,[.string ByteArray.empty,.bool false],[(0,9,1),(1,4,1)],.struct⟩),
 (407,iJ),
 (410,⟨1,4,[.int .u32 0],[],.int .u32⟩),
 (412,⟨1,4,[.int .u32 0],[(0,410,1)],.struct⟩),
 (413,⟨16,64,[.int .u32 0,.int .u32 0,.int .u32 0,.int .u32 0,.int .u32 0,.int .u32 0,.int .u32 0,.int .u32 0,.int .u32 0,.int .u32 0,.int .u32 0,.int .u32 0,.int .u32 0,.int .u32 0,.int .u32 0,.int .u32 0],[],.arr 16 410⟩),
 (415,⟨17,68,[.int .u32 0,.int .u32 0,.int .u32 0,.int .u32 0,.int .u32 0,.int .u32 0,.int .u32 0,.int .u32 0,.int .u32 0,.int .u32 0,.int .u32 0,.int .u32 0,.int .u32 0,.int .u32 0,.int .u32 0,.int .u32 0,.int .u32 0],[(0,412,1),(1,413,16)],.struct⟩),
 (426,⟨1,24,[cz],[],.slice 89⟩),
 (427,iJ),
 (429,⟨9,88,[.int .i8 0,cA,cA,cA,cA,cA,cA,.int .i8 0,cz],[(0,139,8),(8,266,1)],.struct⟩),
 (432,pn),
 (435,pn),
 (436,pn),
 (440,iJ),
 (444,⟨1,24,[cz],[],.slice 116⟩),
 (448,iJ),
 (449,⟨1,24,[cz],[],.slice 38⟩),
 (452,⟨1,24,[cz],[],.slice 436⟩),
 (455,pn),
 (457,⟨2,16,[cA,cA],[(0,101,2)],.struct⟩),
 (462,⟨4,32,[cA,cA,cA,.int .i8 0],(lg 0 [(457,2),(3,1),(99,1)]),.struct⟩)]
theorem aJ:dl Tryz.prog tt:=dl.all (by kernel_rfl)
theorem FN(f:Nat)(h:zd Tryz.prog f=true:=by kernel_rfl):eJ Tryz.prog f:=Er f h
theorem mixed:Tryz.prog.follows .mixedOrders=true:=by kernel_rfl
theorem Xa(a b:Bool):((a&&b)=true)=(a=true/\b=true):=Z1 a b
theorem Xb(a b:Bool):((a||b)=true)=(a=true\/b=true):=Zv a b
theorem Xc(b:Bool):((!b)=true)=(b=false):=ZJ b
theorem Xd{x y:Bool}:(x||y)=false↔x=false/\y=false:=Zf
theorem Xe{x y:Bool}:(x&&y)=false↔x=false\/y=false:=Bool.and_eq_false_iff
theorem Xf{p:Prop} [i:Decidable p]:(decide p=true)=p:=ZV
theorem Xg{p:Prop}{x:Decidable p}:decide p=false↔ ¬p:=Zl
theorem Xh{α:Type _} [BEq α] [LawfulBEq α]{a b:α}:(a==b)=true↔a=b:=beq_iff_eq
theorem Xi{α:Type _} [BEq α] [LawfulBEq α]{a b:α}:(a !=b)=true↔a≠b:=bne_iff_ne
theorem Xj(b:Bool):((!b)=false)=(b=true):=Z_ b
theorem Xk{α:Type _} [BEq α] [LawfulBEq α]{a b:α}:(a==b)=false↔a≠b:=beq_eq_false_iff_ne
theorem Xl{α:Type _} [BEq α] [LawfulBEq α]{a b:α}:(a !=b)=false↔a=b:=bne_eq_false_iff_eq
theorem Xm{α:Sort _}(a b:α):(a≠b)= ¬a=b:=ne_eq a b
theorem Xn{p:Prop} [Decidable p]: ¬¬p↔p:=Decidable.not_not
theorem Xo{a b:Int}: ¬a<b↔b<=a:=Int.not_lt
theorem Xp{a b:Int}: ¬a<=b↔b<a:=Int.not_le
section
variable{ops:Array Oper}{Q:Exit->Act->Z6->Prop}{o:Oper}{n:Nat}{F:cy}{C:Z8 Nat}{O:Go.Eng.Own}{nl:Nat}{V:Vw}{p:Z8 (Nat×Bool)}{g:Bool}{C':Z8 Nat}{s:SV}{d:Nat}
theorem yH{sp:Z8 Nat}{O0:Go.Eng.Own}{nl0:Nat}{V0:Vw}{fuel:Nat}{listed:Z8 Bool}(i:Nat)(hi:ops[i]? =some o)(hg:gd ops F C o.guard=some (p,g,C'))(hd:o.dst=some d)(hc:(Nat.blt d n&& !(dh d C'))=true)(hv:eI tt F O p o.op=some s)
  (next:HJ Tryz.prog ops Q sp O0 nl0 V0 fuel (dz listed i) n ((d,⟨p,g,s⟩)::F) C' O nl V):HI Tryz.prog ops Q sp O0 nl0 V0 fuel listed n F C O nl V i:=pB i hi hg hd hc (jr aJ hv) next
theorem yV(hv:eI tt F O p o.op=some s):dY Tryz.prog o n F C O nl V p g s:=jr aJ hv
theorem oN:dm O []:=dm.nil
theorem oC{l:Nat}{c:Cel}{r:Go.Eng.Own}(h:Eng.lk O l=some c)(hr:dm O r):dm O ((l,c)::r):=dm.cons h hr
theorem fN:dT F []:=dT.nil
theorem fC{t:Nat}{x:SV}{r:Z8 (Nat×SV)}(h:cV F [] (.tmp t)=some x)(hr:dT F r):dT F ((t,x)::r):=dT.cons h hr
end
noncomputable abbrev bJ:=Tryz.prog
abbrev Cl:=Calls bJ
abbrev kD(f:Nat)(xs:Array Z7)(w:Z6)(V:Vw)(φ:Z7->Vw->Prop):=Cl f xs w λe w'=>∃v V',e=.returned v/\cH w w'/\Vext w.heap.size V V' w'/\φ v V'
abbrev Rt(f:Nat)(xs:Array Z7)(w:Z6)(v:Z7):Prop:=Calls bJ f xs w λe w'=>e=.returned v/\cH w w'
theorem lr{V:Vw}:V.le V:=Vw.le.refl V
theorem fk{α:Type}{L:Z8 α}{k:Nat}(h:k<L.length):∃x,L[k]? =some x:=⟨_,List.getElem?_eq_getElem h⟩
section
variable{ops:Array Oper}{Q:Exit->Act->Z6->Prop}{o:Oper}{n:Nat}{F F':cy}{C C':Z8 Nat}{O O':Go.Eng.Own}{nl nl':Nat}{V:Vw}{p:Z8 (Nat×Bool)}{g:Bool}{s:SV}{d:Nat}{K:Act->Z6->Prop}{rest l l':Z8 Oper}
def yi(n:Nat)(ops:Array Oper)(O:Go.Eng.Own)(o:Oper)(F:cy)(C:Z8 Nat):Z4 (cy×Z8 Nat):=
  match gd ops F C o.guard with
  |some (p,g,C')=>match o.dst with
    |some d=>bif Nat.blt d n&& !(dh d C')then(match eI tt F O p o.op with
      |some s=>some ((d,⟨p,g,s⟩)::F,C')
      |none=>none)else none
    |none=>none
  |none=>none
def xH(n:Nat)(o:Oper)(F:cy)(C:Z8 Nat)(O:Go.Eng.Own)(nl:Nat):Z4 (cy×Go.Eng.Own):=
  match o.guard,o.dst with
  |none,some d=>bif Nat.blt d n&& !(dh d C)then(match m5 tt F O o.op with
    |some (cs,e)=>some ((d,⟨[],true,.a (.ptr nl 0)⟩)::F,(nl,.lit cs e)::O)
    |none=>none)else none
  |_,_=>none
def tz(n:Nat)(ops:Array Oper):Nat->Z8 Oper->cy->Z8 Nat->Go.Eng.Own->Nat->Z4 (Z8 Oper×cy×Z8 Nat×Go.Eng.Own×Nat)
  |0,l,F,C,O,nl=>some (l,F,C,O,nl)
  |_+1,[],_,_,_,_=>none
  |k+1,o::r,F,C,O,nl=>match yi n ops O o F C with
    |some (F',C')=>tz n ops k r F' C' O nl
    |none=>match xH n o F C O nl with
      |some (F',O')=>tz n ops k r F' C O' (nl+1)
      |none=>none
theorem GL(h:yi n ops O o F C=some (F',C'))(next:KJ (wpList bJ ops Q rest) n F' C' O nl V):KJ (wpList bJ ops Q (o::rest)) n F C O nl V:=by
 unfold yi at h;split at h
 .rename_i p g C1 hg;split at h
  .rename_i d hd;cases hc:(Nat.blt d n&& !(dh d C1))with
   |false=>rw[hc]at h;cases h
   |true=>rw[hc]at h;simp only[Za]at h;split at h;{rename_i s hs;cases h;exact ua hg hd hc (jr aJ hs) next};cases h
  cases h
 cases h
theorem JZ(h:xH n o F C O nl=some (F',O'))(next:KJ (wpList bJ ops Q rest) n F' C O' (nl+1) V):KJ (wpList bJ ops Q (o::rest)) n F C O nl V:=by
 unfold xH at h;split at h
 .rename_i d hg hd;cases hc:(Nat.blt d n&& !(dh d C))with
  |false=>rw[hc]at h;cases h
  |true=>rw[hc]at h;simp only[Za]at h;split at h;{rename_i cs e hs;cases h;exact ED aJ hg hs hd hc next};cases h
 cases h
theorem Yy(k:Nat)(h:tz n ops k l F C O nl=some (l',F',C',O',nl'))(next:KJ (wpList bJ ops Q l') n F' C' O' nl' V):KJ (wpList bJ ops Q l) n F C O nl V:=by
 induction k generalizing l F C O nl with
 |zero=>simp only[tz,Z0,ZN]at h;obtain⟨rfl,rfl,rfl,rfl,rfl⟩:=h;exact next
 |succ k ih=>
  cases l with
  |nil=>cases h
  |cons o r=>simp only[tz]at h;split at h;{rename_i F1 C1 h1;exact GL h1 (ih h)};split at h;{rename_i F1 O1 h1;exact JZ h1 (ih h)};cases h
def rm(n:Nat)(ops:Array Oper)(k:Nat)(ts:Z8 Nat)(l:Z8 Oper)(F:cy)(C:Z8 Nat)(O:Go.Eng.Own)(nl:Nat):Z4 (cy×Go.Eng.Own×Nat):=
  match tz n ops k l F C O nl with
  |some ([],F',_,O',nl')=>match oi F' ts []with
    |some F2=>some (F2,O',nl')
    |none=>none
  |_=>none
theorem QE(k:Nat)(ts:Z8 Nat)(h:rm n ops k ts l F C O nl=some (F',O',nl'))(next:KJ (Q .normal) n F' [] O' nl' V):KJ (wpList bJ ops Q l) n F C O nl V:=by unfold rm at h;split at h;{rename_i F1 C1 O1 nl1 h1;split at h;{rename_i F2 h2;cases h;exact Yy k h1 (du ts h2 next)};cases h};cases h
theorem QA{x y:Code}(h:KJ (x.wp bJ (Exit.then (y.wp bJ Q) Q)) n F C O nl V):KJ ((Code.seq x y).wp bJ Q) n F C O nl V:=Ir h
theorem Qw(h:KJ K n F C O nl V):KJ (Exit.then K Q .normal) n F C O nl V:=Fj h
theorem QC{id:Nat}{l:Z8 Oper}(h:KJ (wpList bJ l.toArray Q l) n F C O nl V):KJ ((Code.region id l.toArray false).wp bJ Q) n F C O nl V:=Gj h
theorem QI(h:KJ (Q .normal) n F C O nl V):KJ (Code.skip.wp bJ Q) n F C O nl V:=KA h
theorem QJ{id:Nat}{c:Code}(h:KJ (c.wp bJ (Exit.inBlock id Q)) n F C O nl V):KJ ((Code.block id c).wp bJ Q) n F C O nl V:=KX h
theorem QK{i:Nat}(h:KJ (Q (.exit i)) n F C O nl V):KJ (Exit.then K Q (.exit i)) n F C O nl V:=Fm h
theorem QL(h:KJ (Q .ret) n F C O nl V):KJ (Exit.then K Q .ret) n F C O nl V:=FQ h
theorem QM{id:Nat}(h:KJ (Q .normal) n F C O nl V):KJ (Exit.inBlock id Q .normal) n F C O nl V:=E5 h
theorem QN{id:Nat}(h:KJ (Q (.exit id)) n F C O nl V):KJ ((Code.exit id).wp bJ Q) n F C O nl V:=Gu h
theorem QO(h:KJ (Q .ret) n F C O nl V):KJ (Code.ret.wp bJ Q) n F C O nl V:=G2 h
theorem QP{id:Nat}(h:KJ (Q .ret) n F C O nl V):KJ (Exit.inBlock id Q .ret) n F C O nl V:=F4 h
theorem QQ{id:Nat}(h:KJ (Q .normal) n F C O nl V):KJ (Exit.inBlock id Q (.exit id)) n F C O nl V:=Ax h
theorem QX{b T1 T2 c}{x y:Code}(hc:cV F [] c=some (.a (.v (.bool b))))(ht:T1->KJ (x.wp bJ Q) n F C O nl V)(hf:T2->KJ (y.wp bJ Q) n F C O nl V)
  (h1:b=true->T1:=by intro h;simp only[Xa,Xb,Xc,Xd,Xe,Xf,Xg,Xh,Xi,Xj,Xk,Xl,Xm,Xn,Xo,Xp]at h;exact h)
  (h2:b=false->T2:=by intro h;simp only[Xa,Xb,Xc,Xd,Xe,Xf,Xg,Xh,Xi,Xj,Xk,Xl,Xm,Xn,Xo,Xp]at h;exact h):
  KJ ((Code.cond c x y).wp bJ Q) n F C O nl V:=C6 hc (λh=>ht (h1 h)) (λh=>hf (h2 h))
def jP(n:Nat)(ops:Array Oper)(F:cy)(C:Z8 Nat)(o:Oper):Z4 (Z8 (Nat×Bool)×Bool×Z8 Nat×Nat):=
  match gd ops F C o.guard with
  |some (p,g,C')=>match o.dst with
    |some d=>bif Nat.blt d n&& !(dh d C')then some (p,g,C',d)else none
    |none=>none
  |none=>none
theorem eZ(h:jP n ops F C o=some (p,g,C',d)):gd ops F C o.guard=some (p,g,C')/\o.dst=some d/\(Nat.blt d n&& !(dh d C'))=true:=by
 unfold jP at h;split at h
 .rename_i p1 g1 C1 hg;split at h
  .rename_i d1 hd;cases hc:(Nat.blt d1 n&& !(dh d1 C1))with
   |false=>rw[hc]at h;cases h
   |true=>rw[hc]at h;cases h;exact⟨hg,hd,hc⟩
  cases h
 cases h
theorem QY(h:jP n ops F C o=some (p,g,C',d))(hy:dY bJ o n F C' O nl V p g s)(next:KJ (wpList bJ ops Q rest) n ((d,⟨p,g,s⟩)::F) C' O nl V):KJ (wpList bJ ops Q (o::rest)) n F C O nl V:=
  ua (eZ h).1 (eZ h).2.1 (eZ h).2.2 hy next
theorem Qd(h:jP n ops F C o=some (p,g,C',d))(hy:dY bJ o n F C' O nl V p g s)(next:DJ bJ ops Q rest n ((d,⟨p,g,s⟩)::F) C' O nl V)(hs:s.ok nl=true:=by rfl):DJ bJ ops Q (o::rest) n F C O nl V:=
  Fc (eZ h).1 (eZ h).2.1 (eZ h).2.2 hy hs next
theorem QZ{σ:Type}{Φ:σ->Prop}{sx:σ->SV}{Ox:σ->Go.Eng.Own}{nl':Nat}{Vx:σ->Vw}(h:jP n ops F C o=some (p,true,C',d))(hs:StepTo bJ o p n F C' O nl V Φ sx Ox nl' Vx)
  (next:∀x,Φ x->KJ (wpList bJ ops Q rest) n ((d,⟨p,true,sx x⟩)::F) C' (Ox x) nl' (Vx x)) (hn:Nat.ble nl nl'=true:=by rfl):KJ (wpList bJ ops Q (o::rest)) n F C O nl V:=
  WW (eZ h).1 J (eZ h).2.1 (eZ h).2.2 hn hs next
def uG(F:cy)(O:Go.Eng.Own)(o:Oper):Z4 (Nat×Z8 A×Nat×Z8 A):=match o.guard,o.dst with
  |none,none=>m8 tt F O o.op
  |_,_=>none
theorem oG{x:Nat×Z8 A×Nat×Z8 A}(h:uG F O o=some x):o.guard=none/\o.dst=none/\m8 tt F O o.op=some x:=by unfold uG at h;split at h;{rename_i h1 h2;exact⟨h1,h2,h⟩};cases h
theorem Qs{a:Nat}{cs vs:Z8 A}{e:Nat}(h:uG F O o=some (a,cs,e,vs))(next:KJ (wpList bJ ops Q rest) n F C ((a,.lit cs e)::O) nl V)
  (h1:gg O vs:=by first|(repeat' first|exact ZY|exact J|apply YO);done|simp[gg,jG,lk,Value.oneCell']):KJ (wpList bJ ops Q (o::rest)) n F C O nl V:=
  fw aJ (oG h).1 (oG h).2.1 (oG h).2.2 h1 next
def jW(n:Nat)(ops:Array Oper)(F:cy)(C:Z8 Nat)(o:Oper):Z4 ((Z8 (Nat×Bool)×Bool×Z8 Nat×Nat)×Nat×Z8 SV):=
  match jP n ops F C o with
  |some x=>match fL F x.1 o.op with
    |some y=>some (x,y)
    |none=>none
  |none=>none
theorem qB{f:Nat}{ss:Z8 SV}(h:jW n ops F C o=some ((p,g,C',d),f,ss)):jP n ops F C o=some (p,g,C',d)/\fL F p o.op=some (f,ss):=by unfold jW at h;split at h;{rename_i x hx;split at h;{rename_i y hy;cases h;exact⟨hx,hy⟩};cases h};cases h
theorem Qc{f:Nat}{ss:Z8 SV}(s:SV)(h:jW n ops F C o=some ((p,g,C',d),f,ss))(hok:eJ bJ f)
  (hcall:g=true-> ∀E w,Mem E O nl V w->Calls bJ f (ss.map (SV.den E)).toArray w λe w'=>e=.returned (s.den E)/\cH w w')
  (next:KJ (wpList bJ ops Q rest) n ((d,⟨p,g,s⟩)::F) C' O nl V) (hs:s.ok nl=true:=by rfl):KJ (wpList bJ ops Q (o::rest)) n F C O nl V:=
  let k:=eZ (qB h).1;Ua s k.1 (qB h).2 hok k.2.1 k.2.2 hs hcall next
theorem Qq{f:Nat}{ss:Z8 SV}(s:SV)(h:jW n ops F C o=some ((p,g,C',d),f,ss))(hok:eJ bJ f)
  (hcall:g=true-> ∀E w,Mem E O nl V w->Calls bJ f (ss.map (SV.den E)).toArray w λe w'=>e=.returned (s.den E)/\cH w w')
  (next:DJ bJ ops Q rest n ((d,⟨p,g,s⟩)::F) C' O nl V) (hs:s.ok nl=true:=by rfl):DJ bJ ops Q (o::rest) n F C O nl V:=
  let k:=eZ (qB h).1;Sk s k.1 (qB h).2 hok k.2.1 k.2.2 hs hcall next
theorem Qv{f:Nat}{ss:Z8 SV}(Φ:Z7->Vw->Prop)(h:jW n ops F C o=some ((p,g,C',d),f,ss))(hok:eJ bJ f)
  (hcall:g=true-> ∀E w,Mem E O nl V w->Calls bJ f (ss.map (SV.den E)).toArray w λe w'=>∃v V',e=.returned v/\cH w w'/\Vext w.heap.size V V' w'/\Φ v V')
  (next:∀v V',V.le V'->(g=true->Φ v V')->KJ (wpList bJ ops Q rest) n ((d,⟨p,g,.a (.v v)⟩)::F) C' O nl V'):KJ (wpList bJ ops Q (o::rest)) n F C O nl V:=
  let k:=eZ (qB h).1;K8 Φ k.1 (qB h).2 hok k.2.1 k.2.2 hcall next
theorem Qb{fn:Func}{R:Ending->Z6->Prop}{ss:Z8 SV}(hr:jN tt F O fn.results.toList=some ss)
    (h:∀E w,Mem E O nl V w->R (.returned (eY (ss.map (SV.den E)))) w):KJ (bodyPost bJ fn R .ret) n F C O nl V:=cL aJ hr (λE w hm _=>h E w hm)
theorem Qf{f:Nat}{c:Code}{R:Ending->Z6->Prop}{w:Z6}{fn:Func}(ss:Z8 SV)(hfn:Tryz.prog.funcs[f]? =some fn)(hb:fn.body=some c)
    (h:KJ (c.wp bJ (bodyPost bJ fn R)) fn.ntmps (k5 ss 0) [] [] 0 (vw w)) (hok:kI 0 ss=true:=by rfl) (hle:Nat.ble ss.length fn.ntmps=true:=by rfl):Calls bJ f (ss.map (SV.den E0)).toArray w R:=
  enter ss hfn hb J (jh E0 0 w) hok hle h
theorem Qr{σ:Type}{Fx:σ->Z8 (Nat×SV)}{Ox:σ->Go.Eng.Own}{nl':Nat}{Vx:σ->Vw}{I:σ->Prop}{m:Nat}{μ:σ->Nat}(x':σ)
    (hI:I x') (hμ:μ x'<m:=by first|omega|(dsimp only;omega)) (hs:dT F (Fx x'):=by repeat (first|exact fN|refine fC J ?_)) (hO:dm O (Ox x'):=by repeat (first|exact oN|refine oC J ?_))
    (hok:(iO nl' (Fx x')&&eA nl' (Ox x'))=true:=by rfl) (hV:(Vx x').le V:=by exact Vw.le.refl _):
    KJ (λa w=>∃x',(gM n Fx Ox nl' Vx x' a w/\I x')/\μ x'<m) n F C O nl V:=PR x' hI hμ hs hO hok hV
theorem Qm{σ:Type}{Fx:σ->Z8 (Nat×SV)}{Ox:σ->Go.Eng.Own}{nl':Nat}{Vx:σ->Vw}{I:σ->Prop}(x':σ)
    (hI:I x') (hs:dT F (Fx x'):=by repeat (first|exact fN|refine fC J ?_)) (hO:dm O (Ox x'):=by repeat (first|exact oN|refine oC J ?_)) (hok:(iO nl' (Fx x')&&eA nl' (Ox x'))=true:=by rfl) (hV:(Vx x').le V:=by exact Vw.le.refl _):
    KJ (λa w=>∃x',gM n Fx Ox nl' Vx x' a w/\I x') n F C O nl V:=DO x' hI hs hO hok hV
theorem Ql{c:Code}{σ:Type}(ts ls:Z8 Nat){K0:Z8 (Nat×SV)}{O0:Go.Eng.Own}(hk:nR F ts []=some K0)(ho:jH O ls []=some O0)
    (Fx:σ->Z8 (Nat×SV)) (Ox:σ->Go.Eng.Own) (I:σ->Prop) (μ:σ->Nat) (x0:σ) (h0:I x0)
    (round:∀x,I x->KJ (c.wp bJ (Exit.then (λa w=>∃x',(gM n (λx=>Fx x++K0) (λx=>Ox x++O0) nl (λ_=>V) x' a w/\I x')/\μ x'<μ x) Q)) n (dA (Fx x++K0)) [] (Ox x++O0) nl V)
    (hs:dT F (Fx x0++K0):=by repeat (first|exact fN|refine fC J ?_)) (hO:dm O (Ox x0++O0):=by repeat (first|exact oN|refine oC J ?_)) (hok:(iO nl (Fx x0++K0)&&eA nl (Ox x0++O0))=true:=by rfl):
    KJ ((Code.loop c).wp bJ Q) n F C O nl V:=PA ts ls hk ho Fx Ox I μ x0 h0 hs hO hok round
theorem Qn{b:Bool}{c:Operand}{x y:Code}(hc:cV F [] c=some (.a (.v (.bool b))))(ht:b=true->KJ (x.wp bJ Q) n F C O nl V)(hf:b=false->KJ (y.wp bJ Q) n F C O nl V):KJ ((Code.cond c x y).wp bJ Q) n F C O nl V:=C6 hc ht hf
theorem Lv{c:Code}{σ:Type}(ts ls:Z8 Nat){K0:Z8 (Nat×SV)}{O0:Go.Eng.Own}(hk:nR F ts []=some K0)(ho:jH O ls []=some O0)
    (Fx:σ->Z8 (Nat×SV)) (Ox:σ->Go.Eng.Own) (Vx:σ->Vw) (I:σ->Prop) (μ:σ->Nat) (x0:σ) (h0:I x0)
    (round:∀x,I x->KJ (c.wp bJ (Exit.then (λa w=>∃x',(gM n (λx=>Fx x++K0) (λx=>Ox x++O0) nl Vx x' a w/\I x')/\μ x'<μ x) Q)) n (dA (Fx x++K0)) [] (Ox x++O0) nl (Vx x))
    (hs:dT F (Fx x0++K0):=by repeat (first|exact fN|refine fC J ?_)) (hO:dm O (Ox x0++O0):=by repeat (first|exact oN|refine oC J ?_)) (hok:(iO nl (Fx x0++K0)&&eA nl (Ox x0++O0))=true:=by rfl) (hV:(Vx x0).le V:=by exact Vw.le.refl _):
    KJ ((Code.loop c).wp bJ Q) n F C O nl V:=UH ts ls hk ho Fx Ox Vx I μ x0 h0 hs hO hok hV round
def At(n:Nat)(ops:Array Oper)(O:Go.Eng.Own)(nl:Nat):Nat->Z8 Oper->cy->Z8 Nat->Z4 (Z8 Oper×cy×Z8 Nat)
  |0,l,F,C=>some (l,F,C)
  |_+1,[],_,_=>none
  |k+1,o::r,F,C=>match jP n ops F C o with
    |some (p,g,C',d)=>match eI tt F O p o.op with
      |some s=>bif s.ok nl then At n ops O nl k r ((d,⟨p,g,s⟩)::F) C' else none
      |none=>none
    |none=>none
theorem Dm(k:Nat)(h:At n ops O nl k l F C=some (l',F',C'))(next:DJ bJ ops Q l' n F' C' O nl V):DJ bJ ops Q l n F C O nl V:=by
 induction k generalizing l F C with
 |zero=>simp only[At,Z0,ZN]at h;obtain⟨rfl,rfl,rfl⟩:=h;exact next
 |succ k ih=>
  cases l with
  |nil=>cases h
  |cons o r=>
   simp only[At]at h;split at h
   .rename_i p g C1 d hg;split at h
    .rename_i s hs;cases hk:s.ok nl with
     |false=>rw[hk]at h;cases h
     |true=>rw[hk]at h;exact Fc (eZ hg).1 (eZ hg).2.1 (eZ hg).2.2 (jr aJ hs) hk (ih h)
    cases h
   cases h
end
section
variable{ops:Array Oper}{Q:Exit->Act->Z6->Prop}{o:Oper}{n:Nat}{F F':cy}{C C':Z8 Nat}{O O' O0:Go.Eng.Own}{nl nl' nl0:Nat}{V V0:Vw}{p:Z8 (Nat×Bool)}{g:Bool}{s:SV}{d:Nat}{sp:Z8 Nat}{fuel fuel':Nat}{listed listed':Z8 Bool}
def nu(n:Nat)(ops:Array Oper)(O:Go.Eng.Own)(nl:Nat):Z8 Nat->Nat->Z8 Bool->cy->Z8 Nat->Z4 (Nat×Z8 Bool×cy×Z8 Nat)
  |[],fuel,L,F,C=>some (fuel,L,F,C)
  |i::r,fuel+1,L,F,C=>match ops[i]? with
    |some o=>match jP n ops F C o with
      |some (p,g,C',d)=>match eI tt F O p o.op with
        |some s=>bif s.ok nl then nu n ops O nl r fuel (dz L i) ((d,⟨p,g,s⟩)::F) C' else none
        |none=>none
      |none=>none
    |none=>none
  |_::_,0,_,_,_=>none
def re(f:Z8 Bool->Nat->Bool):Z8 Nat->Z8 Bool->Bool
  |[],_=>true
  |i::r,L=>f L i&&re f r (dz L i)
theorem CM{i:Nat}{r:Z8 Nat}(h:nu n ops O nl (i::r) fuel listed F C=some (fuel',listed',F',C')):∃o p g C1 d s f1,fuel=f1+1/\ops[i]? =some o/\jP n ops F C o=some (p,g,C1,d)/\eI tt F O p o.op=some s/\s.ok nl=true/\nu n ops O nl r f1 (dz listed i) ((d,⟨p,g,s⟩)::F) C1=some (fuel',listed',F',C'):=by
 cases fuel with
 |zero=>cases h
 |succ f1=>
  simp only[nu]at h;split at h
  .rename_i o ho;split at h
   .rename_i p g C1 d hg;split at h
    .rename_i s hs;cases hk:s.ok nl with
     |false=>rw[hk]at h;cases h
     |true=>rw[hk]at h;exact⟨o,p,g,C1,d,s,f1,J,ho,hg,hs,hk,h⟩
    cases h
   cases h
  cases h
theorem QS(h:HJ bJ ops Q sp O0 nl V fuel listed n F C O nl V):TJ bJ ops Q sp O0 fuel listed n F C O nl V:=KU h
theorem QT(L:Z8 Nat)(h:nu n ops O0 nl L fuel listed F C=some (fuel',listed',F',C'))(next:TJ bJ ops Q sp O0 fuel' listed' n F' C' O nl V) (hk:re (λl i=>r9 ops sp l.toArray i) L listed=true:=by kernel_rfl):TJ bJ ops Q sp O0 fuel listed n F C O nl V:=by
 induction L generalizing fuel listed F C with
 |nil=>simp only[nu,Z0,ZN]at h;obtain⟨rfl,rfl,rfl,rfl⟩:=h;exact next
 |cons i r ih=>obtain⟨o,p,g,C1,d,s,f1,rfl,ho,hg,hs,hok,h⟩:=CM h;simp only[re,Z1]at hk;exact Jc i ho hk.1 (eZ hg).1 (eZ hg).2.1 (eZ hg).2.2 (jr aJ hs) hok (ih h hk.2)
theorem QD(L:Z8 Nat)(h:nu n ops O0 nl L fuel listed F C=some (fuel',listed',F',C'))(next:TJ bJ ops Q sp O0 fuel' listed' n F' C' O nl V) (hk:re (λl i=>sD ops sp l.toArray i) L listed=true:=by kernel_rfl):TJ bJ ops Q sp O0 fuel listed n F C O nl V:=by
 induction L generalizing fuel listed F C with
 |nil=>simp only[nu,Z0,ZN]at h;obtain⟨rfl,rfl,rfl,rfl⟩:=h;exact next
 |cons i r ih=>obtain⟨o,p,g,C1,d,s,f1,rfl,ho,hg,hs,hok,h⟩:=CM h;simp only[re,Z1]at hk;exact FR i ho hk.1 (eZ hg).1 (eZ hg).2.1 (eZ hg).2.2 (jr aJ hs) hok (ih h hk.2)
theorem Qo(i:Nat)(h:HI bJ ops Q sp O0 nl0 V0 fuel listed n F C O nl V i)(hr:Region.ready .any ops listed.toArray=[i]:=by kernel_rfl):HJ bJ ops Q sp O0 nl0 V0 (fuel+1) listed n F C O nl V:=D5 i hr h
theorem Qz(i j:Nat)(h1:HI bJ ops Q sp O0 nl0 V0 fuel listed n F C O nl V i)(h2:HI bJ ops Q sp O0 nl0 V0 fuel listed n F C O nl V j)(hr:Region.ready .any ops listed.toArray=[i,j]:=by kernel_rfl):HJ bJ ops Q sp O0 nl0 V0 (fuel+1) listed n F C O nl V:=Va i j hr h1 h2
theorem Qx(L:Z8 Nat)(h:nu n ops O nl L fuel listed F C=some (fuel',listed',F',C'))(next:HJ bJ ops Q sp O0 nl0 V0 fuel' listed' n F' C' O nl V) (hk:re (λl i=>Region.ready .any ops l.toArray==[i]) L listed=true:=by kernel_rfl):HJ bJ ops Q sp O0 nl0 V0 fuel listed n F C O nl V:=by
 induction L generalizing fuel listed F C with
 |nil=>simp only[nu,Z0,ZN]at h;obtain⟨rfl,rfl,rfl,rfl⟩:=h;exact next
 |cons i r ih=>obtain⟨o,p,g,C1,d,s,f1,rfl,ho,hg,hs,hok,h⟩:=CM h;simp only[re,Z1,beq_iff_eq]at hk;exact D5 i hk.1 (pB i ho (eZ hg).1 (eZ hg).2.1 (eZ hg).2.2 (jr aJ hs) (ih h hk.2))
theorem Qe(ts:Z8 Nat)(hk:oi F ts []=some F')(h:KJ (Q .normal) n F' [] O nl V)(hr:Region.ready .any ops listed.toArray=[]:=by kernel_rfl):HJ bJ ops Q sp O0 nl0 V0 fuel listed n F C O nl V:=Fa ts hr hk h
def tT(ops:Array Oper)(i:Nat)(F:cy)(O:Go.Eng.Own):Z4 (Nat×Z8 A×Nat×Z8 A):=match ops[i]? with
  |some o=>uG F O o
  |none=>none
theorem FU{i:Nat}{x:Nat×Z8 A×Nat×Z8 A}(h:tT ops i F O=some x):∃o,ops[i]? =some o/\uG F O o=some x:=by unfold tT at h;split at h;{rename_i o ho;exact⟨o,ho,h⟩};cases h
theorem Qi(i:Nat){a:Nat}{cs vs:Z8 A}{e:Nat}(h:tT ops i F O=some (a,cs,e,vs))(next:HJ bJ ops Q sp O0 nl0 V0 fuel (dz listed i) n F C ((a,.lit cs e)::O) nl V)
  (h1:gg O vs:=by repeat' first|exact ZY|exact J|apply YO)
  (hsp:dm ((a,.lit cs e)::O) O0/\eA nl0 O0=true/\V0.le V:=by exact⟨(by repeat (first|exact oN|refine oC J ?_)),J,(by first|exact Vw.le.refl _|assumption)⟩):HI bJ ops Q sp O0 nl0 V0 fuel listed n F C O nl V i:=
  let ⟨o,ho,hs⟩:=FU h;mC i aJ ho (oG hs).1 (oG hs).2.1 (oG hs).2.2 h1 (.inr hsp) next
theorem Qj(i:Nat){a:Nat}{cs vs:Z8 A}{e:Nat}(h:tT ops i F O=some (a,cs,e,vs))(next:HJ bJ ops Q sp O0 nl0 V0 fuel (dz listed i) n F C ((a,.lit cs e)::O) nl V)
  (h1:gg O vs:=by repeat' first|exact ZY|exact J|apply YO)
  (hsp:fF sp (dz listed i).toArray=true:=by rfl):HI bJ ops Q sp O0 nl0 V0 fuel listed n F C O nl V i:=
  let ⟨o,ho,hs⟩:=FU h;mC i aJ ho (oG hs).1 (oG hs).2.1 (oG hs).2.2 h1 (.inl hsp) next
theorem Qg(i:Nat){σ:Type}{Φ:σ->Prop}{sx:σ->SV}{Ox:σ->Go.Eng.Own}{nl':Nat}{Vx:σ->Vw}(hi:ops[i]? =some o)(h:jP n ops F C o=some (p,true,C',d))
    (hs:StepTo bJ o p n F C' O nl V Φ sx Ox nl' Vx)
    (next:∀x,Φ x->HJ bJ ops Q sp O0 nl0 V0 fuel (dz listed i) n ((d,⟨p,true,sx x⟩)::F) C' (Ox x) nl' (Vx x)) (hn:(Nat.ble nl nl'&&Nat.ble nl0 nl)=true:=by rfl)
    (hsp:∀x,Φ x->dm (Ox x) O0/\eA nl0 O0=true/\V0.le (Vx x):=by exact λ_ _=>⟨(by repeat (first|exact oN|refine oC J ?_)),J,(by first|exact Vw.le.refl _|assumption)⟩):HI bJ ops Q sp O0 nl0 V0 fuel listed n F C O nl V i:=
  gv i hi (eZ h).1 J (eZ h).2.1 (eZ h).2.2 hn hs (.inr hsp) next
theorem Qk(i:Nat){d:Nat}{cs:Z8 A}{e:Nat}(hi:ops[i]? =some o)(h:jP n ops F C o=some ([],true,C,d))(hg:o.guard=none)(hv:m5 tt F O o.op=some (cs,e))
    (next:HJ bJ ops Q sp O0 nl0 V0 fuel (dz listed i) n ((d,⟨[],true,.a (.ptr nl 0)⟩)::F) C ((nl,.lit cs e)::O) (nl+1) V) (hnl:Nat.ble nl0 nl=true:=by rfl):HI bJ ops Q sp O0 nl0 V0 fuel listed n F C O nl V i:=
  B4 i aJ hi hg hv (eZ h).2.1 (eZ h).2.2 hnl next
theorem Qt(i:Nat)(hi:ops[i]? =some o)(h:jP n ops F C o=some (p,g,C',d))(hy:dY bJ o n F C' O0 nl V p g s)
    (next:TJ bJ ops Q sp O0 fuel (dz listed i) n ((d,⟨p,g,s⟩)::F) C' O nl V) (hk:r9 ops sp listed.toArray i=true:=by kernel_rfl) (hs:s.ok nl=true:=by rfl):TJ bJ ops Q sp O0 (fuel+1) listed n F C O nl V:=
  Jc i hi hk (eZ h).1 (eZ h).2.1 (eZ h).2.2 hy hs next
theorem Qu(i:Nat)(hi:ops[i]? =some o)(h:jP n ops F C o=some (p,g,C',d))(hy:dY bJ o n F C' O0 nl V p g s)
    (next:TJ bJ ops Q sp O0 fuel (dz listed i) n ((d,⟨p,g,s⟩)::F) C' O nl V) (hk:sD ops sp listed.toArray i=true:=by kernel_rfl) (hs:s.ok nl=true:=by rfl):TJ bJ ops Q sp O0 (fuel+1) listed n F C O nl V:=
  FR i hi hk (eZ h).1 (eZ h).2.1 (eZ h).2.2 hy hs next
theorem Qy(i:Nat)(hi:ops[i]? =some o)(h:jP n ops F C o=some (p,g,C',d))(hy:dY bJ o n F C' O nl V p g s)
    (next:HJ bJ ops Q sp O0 nl0 V0 fuel (dz listed i) n ((d,⟨p,g,s⟩)::F) C' O nl V):HI bJ ops Q sp O0 nl0 V0 fuel listed n F C O nl V i:=
  pB i hi (eZ h).1 (eZ h).2.1 (eZ h).2.2 hy next
theorem Qh(i:Nat){f:Nat}{ss:Z8 SV}(s:SV)(hi:ops[i]? =some o)(h:jW n ops F C o=some ((p,g,C',d),f,ss))(hok:eJ bJ f)
    (hcall:g=true-> ∀E w,Mem E O nl V w->Calls bJ f (ss.map (SV.den E)).toArray w λe w'=>e=.returned (s.den E)/\cH w w')
    (next:HJ bJ ops Q sp O0 nl0 V0 fuel (dz listed i) n ((d,⟨p,g,s⟩)::F) C' O nl V) (hs:s.ok nl=true:=by rfl):HI bJ ops Q sp O0 nl0 V0 fuel listed n F C O nl V i:=
  let k:=eZ (qB h).1;Tg i s hi k.1 (qB h).2 hok k.2.1 k.2.2 hs hcall next
theorem Ra{id:Nat}{l:Z8 Oper}(ho:jH O [] []=some O0)(h:TJ bJ l.toArray Q [] O0 l.length (List.replicate l.length false) n F C O nl V)(hO:dm O O0:=by repeat (first|exact oN|refine oC J ?_))(hok:eA nl O0=true:=by first|rfl|simp[eA,Cp]):KJ ((Code.region id l.toArray true).wp bJ Q) n F C O nl V:=Q5 mixed ho hO hok h
theorem Rb{id:Nat}{l:Z8 Oper}(sp:Z8 Nat)(ho:jH O [] []=some O0)(h:TJ bJ l.toArray Q sp O0 l.length (List.replicate l.length false) n F C O nl V)(hO:dm O O0:=by repeat (first|exact oN|refine oC J ?_))(hok:eA nl O0=true:=by first|rfl|simp[eA,Cp]):KJ ((Code.region id l.toArray true).wp bJ Q) n F C O nl V:=ML sp mixed ho hO hok h
end
section
variable{ops:Array Oper}{Q:Exit->Act->Z6->Prop}{o:Oper}{n:Nat}{F F':cy}{C C':Z8 Nat}{O O':Go.Eng.Own}{nl nl':Nat}{V:Vw}{p:Z8 (Nat×Bool)}{g:Bool}{s:SV}{d:Nat}{K:Act->Z6->Prop}{l l':Z8 Oper}{y:Code}{id:Nat}
theorem Sa(h:KJ (wpList bJ l.toArray (Exit.then (y.wp bJ Q) Q) l) n F C O nl V):KJ ((Code.seq (Code.region id l.toArray false) y).wp bJ Q) n F C O nl V:=QA (QC h)
theorem Sb(k:Nat)(ts:Z8 Nat)(h:rm n ops k ts l F C O nl=some (F',O',nl'))(next:KJ K n F' [] O' nl' V):KJ (wpList bJ ops (Exit.then K Q) l) n F C O nl V:=QE k ts h (Qw next)
theorem Sc(k:Nat)(ts:Z8 Nat)(h:rm n ops k ts l F C O nl=some (F',O',nl'))(next:KJ (wpList bJ l'.toArray (Exit.then (y.wp bJ Q) Q) l') n F' [] O' nl' V):KJ (wpList bJ ops (Exit.then ((Code.seq (Code.region id l'.toArray false) y).wp bJ Q) Q) l) n F C O nl V:=Sb k ts h (Sa next)
theorem Sx(k:Nat)(ts:Z8 Nat){b T1 T2 c}{x z:Code}(h:rm n ops k ts l F C O nl=some (F',O',nl'))(hc:cV F' [] c=some (.a (.v (.bool b))))(ht:T1->KJ (x.wp bJ Q) n F' [] O' nl' V)(hf:T2->KJ (z.wp bJ Q) n F' [] O' nl' V)
  (h1:b=true->T1:=by intro h;simp only[Xa,Xb,Xc,Xd,Xe,Xf,Xg,Xh,Xi,Xj,Xk,Xl,Xm,Xn,Xo,Xp]at h;exact h)
  (h2:b=false->T2:=by intro h;simp only[Xa,Xb,Xc,Xd,Xe,Xf,Xg,Xh,Xi,Xj,Xk,Xl,Xm,Xn,Xo,Xp]at h;exact h):
  KJ (wpList bJ ops (Exit.then ((Code.cond c x z).wp bJ Q) Q) l) n F C O nl V:=Sb k ts h (QX hc ht hf h1 h2)
theorem Sn(k:Nat)(ts:Z8 Nat){b:Bool}{c:Operand}{x z:Code}(h:rm n ops k ts l F C O nl=some (F',O',nl'))(hc:cV F' [] c=some (.a (.v (.bool b))))(ht:b=true->KJ (x.wp bJ Q) n F' [] O' nl' V)(hf:b=false->KJ (z.wp bJ Q) n F' [] O' nl' V):
  KJ (wpList bJ ops (Exit.then ((Code.cond c x z).wp bJ Q) Q) l) n F C O nl V:=Sb k ts h (Qn hc ht hf)
theorem Sd(k:Nat)(ts:Z8 Nat)(h:rm n ops k ts l F C O nl=some (F',O',nl'))(next:KJ (Q .ret) n F' [] O' nl' V):KJ (wpList bJ ops (Exit.then (Code.ret.wp bJ Q) Q) l) n F C O nl V:=Sb k ts h (QO next)
theorem Se(h:KJ K n F C O nl V):KJ (Code.skip.wp bJ (Exit.then K Q)) n F C O nl V:=QI (Qw h)
theorem Sf(h:KJ (wpList bJ l.toArray (Exit.then (y.wp bJ Q) Q) l) n F C O nl V):KJ (Code.skip.wp bJ (Exit.then ((Code.seq (Code.region id l.toArray false) y).wp bJ Q) Q)) n F C O nl V:=Se (Sa h)
theorem Sg(h:KJ (wpList bJ l.toArray (Exit.then (y.wp bJ Q) Q) l) n F C O nl V):KJ (Exit.then ((Code.seq (Code.region id l.toArray false) y).wp bJ Q) Q .normal) n F C O nl V:=Qw (Sa h)
end
section
variable{o:Oper}{n:Nat}{F:cy}{C:Z8 Nat}{O:Go.Eng.Own}{nl:Nat}{V:Vw}{p:Z8 (Nat×Bool)}{g:Bool}
theorem yI{v:Z7}{i:Int}{sz:Nat}{α:Type}{enc:α->Z8 Z7}{L:Z8 α}(hv:ww tt F p o.op=some (v,i,sz))(hs:SlOf V enc sz v L)(hi:0<=i/\i<L.length:=by constructor<;>omega):dY bJ o n F C O nl V p g (.a (.el v (i.toNat*sz))):=gZ aJ hv (λ_=>hs.sl) (λ_=>hi)
theorem yF{v:Z7}{k sz:Nat}{α:Type}{enc:α->Z8 Z7}{L:Z8 α}(hv:yE tt F p o.op=some (v,k))(hs:SlOf V enc sz v L)(hi:0<L.length:=by omega):dY bJ o n F C O nl V p g (.a (.el v k)):=gS aJ hv (λ_=>hs.sl) (λ_=>hi)
theorem yN{v:Z7}{sz:Nat}{α:Type}{enc:α->Z8 Z7}{L:Z8 α}(hv:qs tt F p o.op=some v)(hs:SlOf V enc sz v L):dY bJ o n F C O nl V p g (.a (.v (.int .i64 L.length))):=ic aJ hv (λ_=>hs.sl)
theorem yL{α:Type}{v:Z7}{k m sz:Nat}{agg:Bool}{enc:α->Z8 Z7}{l:Z8 α}{s:SV}(i fo:Nat){x:α}
  (hv:zo tt F p o.op=some (v,k,m,agg)) (hs:SlOf V enc sz v l) (hx:l[i]? =some x) (hp:sU agg fo m (enc x)=some s) (hk:k=i*sz+fo:=by rfl):dY bJ o n F C O nl V p g s:=dy aJ i fo x hv (λ_=>hs) (λ_=>hx) hk hp
end
section
variable{ops:Array Oper}{Q:Exit->Act->Z6->Prop}{o:Oper}{n:Nat}{F F':cy}{C C':Z8 Nat}{O O' O0:Go.Eng.Own}{nl nl' nl0:Nat}{V V0:Vw}{p:Z8 (Nat×Bool)}{g:Bool}{d:Nat}{rest:Z8 Oper}{sp:Z8 Nat}{fuel:Nat}{listed:Z8 Bool}
theorem Tc{f:Nat}{ss:Z8 SV}{v:Z7}(h:jW n ops F C o=some ((p,g,C',d),f,ss))(hok:eJ bJ f)
  (hcall:g=true-> ∀E w,Mem E O nl V w->Calls bJ f (ss.map (SV.den E)).toArray w λe w'=>e=.returned v/\cH w w')
  (next:KJ (wpList bJ ops Q rest) n ((d,⟨p,g,.a (.v v)⟩)::F) C' O nl V):KJ (wpList bJ ops Q (o::rest)) n F C O nl V:=Qc (.a (.v v)) h hok hcall next
theorem Tq{f:Nat}{ss:Z8 SV}{v:Z7}(h:jW n ops F C o=some ((p,g,C',d),f,ss))(hok:eJ bJ f)
  (hcall:g=true-> ∀E w,Mem E O nl V w->Calls bJ f (ss.map (SV.den E)).toArray w λe w'=>e=.returned v/\cH w w')
  (next:DJ bJ ops Q rest n ((d,⟨p,g,.a (.v v)⟩)::F) C' O nl V):DJ bJ ops Q (o::rest) n F C O nl V:=Qq (.a (.v v)) h hok hcall next
theorem Th(i:Nat){f:Nat}{ss:Z8 SV}{v:Z7}(hi:ops[i]? =some o)(h:jW n ops F C o=some ((p,g,C',d),f,ss))(hok:eJ bJ f)
    (hcall:g=true-> ∀E w,Mem E O nl V w->Calls bJ f (ss.map (SV.den E)).toArray w λe w'=>e=.returned v/\cH w w')
    (next:HJ bJ ops Q sp O0 nl0 V0 fuel (dz listed i) n ((d,⟨p,g,.a (.v v)⟩)::F) C' O nl V):HI bJ ops Q sp O0 nl0 V0 fuel listed n F C O nl V i:=Qh i (.a (.v v)) hi h hok hcall next
section
variable{f:Nat}{c:Code}{R:Ending->Z6->Prop}{w:Z6}{fn:Func}{a b e u x y:Z7}(hfn:Tryz.prog.funcs[f]? =some fn)(hb:fn.body=some c)
include hfn hb
theorem T1(h:KJ (c.wp bJ (bodyPost bJ fn R)) fn.ntmps (k5 [.a (.v a)] 0) [] [] 0 (vw w))(hle:Nat.ble 1 fn.ntmps=true:=by rfl):Calls bJ f #[a] w R:=Qf [.a (.v a)] hfn hb h J hle
theorem T2(h:KJ (c.wp bJ (bodyPost bJ fn R)) fn.ntmps (k5 [.a (.v a),.a (.v b)] 0) [] [] 0 (vw w))(hle:Nat.ble 2 fn.ntmps=true:=by rfl):Calls bJ f #[a,b] w R:=Qf [.a (.v a),.a (.v b)] hfn hb h J hle
end
end
section
variable{n:Nat}{F:cy}{C:Z8 Nat}{O O':Go.Eng.Own}{nl:Nat}{V W:Vw}
theorem oo(h:dm O O':=by repeat (first|exact oN|refine oC J ?_)):dm O O':=h
theorem ff{l:Z8 (Nat×SV)}(h:dT F l:=by repeat (first|exact fN|refine fC J ?_)):dT F l:=h
theorem od{p:Prop}(h:p:=by first|omega|(dsimp only;omega)):p:=h
theorem vl(h:V.le W:=by repeat (first|exact lr|assumption|(refine Vw.le.trans ?_ (by assumption)))):V.le W:=h
theorem kc(h:eA nl O=true:=by first|rfl|simp[eA,Cp]):eA nl O=true:=h
theorem o1{x:Z7}(h:∀u∈[x],u.oneCell'=true:=by intro u hu;simp only[ZE]at hu;subst hu;rfl):∀u∈[x],u.oneCell'=true:=h
theorem Tz{fn:Func}{w:Z6}{v:Z7}{ss:Z8 SV}(hr:jN tt F O fn.results.toList=some ss)(h:∀E:Env,Ending.returned (eY (ss.map (SV.den E)))=.returned v):
  KJ (bodyPost bJ fn (λe w'=>e=.returned v/\cH w w') .ret) n F C O nl (vw w):=Qb hr λE w' hm=>⟨h E,hm.below lr⟩
end
inductive ZFr where
  |sq (y:Code)
  |bl (i:Nat)
  |tn (K:Act->World->Prop)
def eX(Q:Exit->Act->Z6->Prop):Z8 ZFr->Exit->Act->Z6->Prop
  |[]=>Q
  |.sq y::r=>Exit.then (y.wp bJ (eX Q r)) (eX Q r)
  |.bl i::r=>Exit.inBlock i (eX Q r)
  |.tn K::r=>Exit.then K (eX Q r)
inductive ZMd where
  |cd (c:Code) (ks:List ZFr)
  |ls (ops:Array Oper) (l:List Oper) (ks:List ZFr)
  |ex (e:Exit) (ks:List ZFr)
  |en (K:Act->World->Prop)
def ZMd.K(Q:Exit->Act->Z6->Prop):ZMd->Act->Z6->Prop
  |.cd c ks=>c.wp bJ (eX Q ks)
  |.ls ops l ks=>wpList bJ ops (eX Q ks) l
  |.ex e ks=>eX Q ks e
  |.en K=>K
abbrev Le:=cy×Z8 Nat×Go.Eng.Own×Nat
def ul:cy->Z4 (Z8 Nat)
  |[]=>some []
  |(_,⟨[],_,_⟩)::r=>ul r
  |(t,_)::r=>match ul r with
    |some b=>some (t::b)
    |none=>none
def zM(bs:Z8 Nat):cy->Z4 cy
  |[]=>some []
  |(t,e)::r=>match zM bs r with
    |some r'=>bif dh t bs then some r' else some ((t,e)::r')
    |none=>none
def oe(F:cy):Z8 Nat->Z4 cy
  |[]=>some F
  |_=>match ul F with
    |some b=>zM b F
    |none=>none
theorem wu{bs:Z8 Nat}{t:Nat}{x:Ent}:∀{F F':cy},zM bs F=some F'->lk F' t=some x->lk F t=some x/\dh t bs=false
  |[],F',h,hx=>by cases h;cases hx
  |(s,e)::r,F',h,hx=>by
    simp only[zM]at h
    split at h
    . rename_i r' hr
      cases hm:dh s bs with
      |true=>
        rw[hm]at h
        cases h
        have:=wu hr hx
        refine⟨?_,this.2⟩
        simp only[lk]
        cases hs:Nat.beq s t with
        |true=>rw[ZM hs,this.2]at hm;cases hm
        |false=>exact this.1
      |false=>
        rw[hm]at h
        cases h
        simp only[lk]at hx⊢
        cases hs:Nat.beq s t with
        |true=>rw[hs]at hx;exact⟨hx,ZM hs▸hm⟩
        |false=>rw[hs]at hx;exact wu hr hx
    . cases h
theorem CG{t:Nat}{x:Ent}:∀{F:cy} {b:Z8 Nat},ul F=some b->lk F t=some x->dh t b=false->x.path=[]
  |[],_,_,h,_=>by cases h
  |(s,⟨p,g,y⟩)::r,b,hb,h,hm=>by
    simp only[lk]at h
    cases p with
    |nil=>
      cases hs:Nat.beq s t with
      |true=>rw[hs]at h;cases h;rfl
      |false=>rw[hs]at h;exact CG (by simpa only[ul]using hb) h hm
    |cons p1 p2=>
      simp only[ul]at hb
      split at hb
      . rename_i b' hb'
        cases hb
        simp only[dh]at hm
        cases hs:Nat.beq s t with
        |true=>simp[ZM hs]at hm
        |false=>
          rw[hs]at h
          cases ht:Nat.beq t s with
          |true=>rw[ht]at hm;cases hm
          |false=>rw[ht]at hm;exact CG hb' h hm
      . cases hb
theorem Br{E:Env}{n:Nat}{F F':cy}{nl:Nat}{C:Z8 Nat}{T:Array Z7}(h:oe F C=some F')(hf:Frm E n F C nl T):Frm E n F' [] nl T:=by
 cases C with
 |nil=>cases h;exact hf
 |cons c C=>
  simp only[oe]at h;split at h
  case h_2=>cases h
  rename_i b hb;refine⟨hf.size,λt e he=>hf.val t e (wu h he).1,λt e he=>?_,λt e he hg=>hf.labs t e (wu h he).1 hg⟩;obtain⟨h1,h2⟩:=wu h he;have hp:=CG hb h1 h2;have:=(hf.wf t e h1).1;rw[hp]at this⊢;exact⟨this,λq hq=>by cases hq⟩
theorem O9{K:Act->Z6->Prop}{n:Nat}{F F':cy}{O:Go.Eng.Own}{nl:Nat}{V:Vw}{C:Z8 Nat}(h:oe F C=some F')(next:KJ K n F' [] O nl V):KJ K n F C O nl V:=
  ⟨λE a w hd hf hm=>next.out E a w hd (Br h hf) hm⟩
def MH(F:cy)(o:Oper):Bool:=match o.op with
  |.call ⟨.builtin .len,args,ts⟩=>match args.toList,ts.toList with
    |[.tmp x],[t]=>match lk tt t with
      |some ⟨_,_,_,_,.slice _⟩=>match lk F x with
        |some ⟨_,_,.a (.row _)⟩=>true
        |_=>false
      |some ⟨_,_,_,_,.str⟩=>true
      |_=>false
    |_,_=>false
  |.call _=>false
  |_=>true
def iZ(n:Nat):Nat->ZMd->cy->Z8 Nat->Go.Eng.Own->Nat->Z4 (ZMd×Le)
  |0,_,_,_,_,_=>none
  |k+1,.cd c ks,F,C,O,nl=>match c with
    |.seq x y=>iZ n k (.cd x (.sq y::ks)) F C O nl
    |.region _ ops false=>iZ n k (.ls ops ops.toList ks) F C O nl
    |.block i x=>iZ n k (.cd x (.bl i::ks)) F C O nl
    |.skip=>iZ n k (.ex .normal ks) F C O nl
    |.exit i=>iZ n k (.ex (.exit i) ks) F C O nl
    |.ret=>iZ n k (.ex .ret ks) F C O nl
    |c=>some (.cd c ks,F,C,O,nl)
  |k+1,.ls ops l ks,F,C,O,nl=>match l with
    |[]=>match oe F C with
      |some F'=>iZ n k (.ex .normal ks) F' [] O nl
      |none=>none
    |o::r=>match MH F o with
      |true=>match yi n ops O o F C with
        |some (F',C')=>iZ n k (.ls ops r ks) F' C' O nl
        |none=>match xH n o F C O nl with
          |some (F',O')=>iZ n k (.ls ops r ks) F' C O' (nl+1)
          |none=>some (.ls ops (o::r) ks,F,C,O,nl)
      |false=>some (.ls ops (o::r) ks,F,C,O,nl)
  |k+1,.ex e ks,F,C,O,nl=>match ks with
    |[]=>some (.ex e [],F,C,O,nl)
    |f::r=>match e with
      |.normal=>match f with
        |.sq y=>iZ n k (.cd y r) F C O nl
        |.bl _=>iZ n k (.ex .normal r) F C O nl
        |.tn K=>some (.en K,F,C,O,nl)
      |.exit i=>match f with
        |.bl j=>bif Nat.beq i j then iZ n k (.ex .normal r) F C O nl else iZ n k (.ex (.exit i) r) F C O nl
        |_=>iZ n k (.ex (.exit i) r) F C O nl
      |.ret=>iZ n k (.ex .ret r) F C O nl
      |_=>none
  |_+1,.en K,F,C,O,nl=>some (.en K,F,C,O,nl)
abbrev qt:=(Act->Z6->Prop)×Le
def nj(n:Nat)(Q:Exit->Act->Z6->Prop)(m:ZMd)(F:cy)(C:Z8 Nat)(O:Go.Eng.Own)(nl:Nat):Z4 qt:=match iZ n 400 m F C O nl with
  |some (.cd c ks,s)=>some (c.wp bJ (eX Q ks),s)
  |some (.ls ops l ks,s)=>some (wpList bJ ops (eX Q ks) l,s)
  |some (.ex e ks,s)=>match ks with
    |[]=>some (Q e,s)
    |_=>none
  |some (.en K,s)=>some (K,s)
  |none=>none
def mY(n:Nat)(Q:Exit->Act->Z6->Prop)(m:ZMd)(F:cy)(C:Z8 Nat)(O:Go.Eng.Own)(nl:Nat):Z4 (Bool×qt×qt):=match iZ n 400 m F C O nl with
  |some (.cd (.cond c x y) ks,F,C,O,nl)=>match cV F [] c with
    |some (.a (.v (.bool b)))=>match nj n Q (.cd x ks) F C O nl with
      |some s=>match nj n Q (.cd y ks) F C O nl with
        |some s'=>some (b,s,s')
        |none=>none
      |none=>none
    |_=>none
  |_=>none
section
variable{n:Nat}{Q:Exit->Act->Z6->Prop}{K K' K1 K2:Act->Z6->Prop}{m m':ZMd}{F F' F1 F2:cy}{C C' C1 C2:Z8 Nat}{O O' O1 O2:Go.Eng.Own}{nl nl' nl1 nl2:Nat}{V:Vw}
theorem vB(k:Nat)(h:iZ n k m F C O nl=some (m',F',C',O',nl'))(next:KJ (m'.K Q) n F' C' O' nl' V):KJ (m.K Q) n F C O nl V:=by
 induction k generalizing m F C O nl with
 |zero=>cases h
 |succ k ih=>
  cases m with
  |cd c ks=>simp only[iZ]at h;split at h;{exact QA (ih h)};{rename_i id ops;have:=ih h;obtain⟨l⟩:=ops;exact QC this};{exact QJ (ih h)};{exact QI (ih h)};{exact QN (ih h)};{exact QO (ih h)};cases h;exact next
  |ls ops l ks=>simp only[iZ]at h;split at h;{split at h;{rename_i F1 h1;exact⟨λE a w hd hf hm=>(O9 h1 (ih h)).out E a w hd hf hm⟩};cases h};split at h;{split at h;{rename_i F1 C1 h1;exact GL h1 (ih h)};split at h;{rename_i F1 O1 h1;exact JZ h1 (ih h)};cases h;exact next};cases h;exact next
  |en K=>cases h;exact next
  |ex e ks=>
   simp only[iZ]at h;split at h;{cases h;exact next};rename_i f r;cases e with
   |normal=>
    cases f with
    |sq y=>exact⟨(ih h).out⟩
    |bl _=>exact⟨(ih h).out⟩
    |tn K=>cases h;exact⟨next.out⟩
   |exit i=>
    cases f with
    |sq y=>exact⟨(ih h).out⟩
    |tn K=>exact⟨(ih h).out⟩
    |bl j=>
     cases hb:Nat.beq i j with
     |true=>simp only[hb]at h;cases ZM hb;exact⟨(Ax (Q:=eX Q r) (ih h)).out⟩
     |false=>simp only[hb]at h;exact⟨(sO (Q:=eX Q r) hb (ih h)).out⟩
   |ret=>cases f<;>exact⟨(ih h).out⟩
   |_=>cases h
theorem pm(h:nj n Q m F C O nl=some (K',F',C',O',nl'))(next:KJ K' n F' C' O' nl' V):KJ (m.K Q) n F C O nl V:=by unfold nj at h;split at h;{rename_i hm;cases h;exact vB 400 hm next};{rename_i hm;cases h;exact vB 400 hm next};{rename_i hm;split at h;{cases h;exact vB 400 hm next};cases h};{rename_i hm;cases h;exact vB 400 hm next};cases h
theorem wQ{b:Bool}(h:mY n Q m F C O nl=some (b,(K1,F1,C1,O1,nl1),(K2,F2,C2,O2,nl2)))(ht:b=true->KJ K1 n F1 C1 O1 nl1 V)(hf:b=false->KJ K2 n F2 C2 O2 nl2 V):KJ (m.K Q) n F C O nl V:=by
 unfold mY at h;split at h
 .rename_i hm;split at h
  .rename_i hc;split at h;{rename_i s h1;split at h;{rename_i s' h2;cases h;exact vB 400 hm (Qn hc (λe=>pm h1 (ht e)) (λe=>pm h2 (hf e)))};cases h};cases h
  cases h
 cases h
variable{c:Code}{ks:Z8 ZFr}{ops:Array Oper}{l:Z8 Oper}{e:Exit}{b:Bool}
theorem zA(h:nj n Q (.ls ops l ks) F C O nl=some (K',F',C',O',nl'))(next:KJ K' n F' C' O' nl' V):KJ (wpList bJ ops (eX Q ks) l) n F C O nl V:=pm h next
theorem zB(h:nj n Q (.cd c ks) F C O nl=some (K',F',C',O',nl'))(next:KJ K' n F' C' O' nl' V):KJ (c.wp bJ (eX Q ks)) n F C O nl V:=pm h next
theorem zU(h:nj n Q (.cd c (.tn K::ks)) F C O nl=some (K',F',C',O',nl'))(next:KJ K' n F' C' O' nl' V):KJ (c.wp bJ (Exit.then K (eX Q ks))) n F C O nl V:=pm h next
theorem zW(h:nj n Q (.cd c []) F C O nl=some (K',F',C',O',nl'))(next:KJ K' n F' C' O' nl' V):KJ (c.wp bJ Q) n F C O nl V:=pm h next
theorem zE(h:nj n Q (.ex e ks) F C O nl=some (K',F',C',O',nl'))(next:KJ K' n F' C' O' nl' V):KJ (eX Q ks e) n F C O nl V:=pm h next
theorem cS(h:mY n Q (.ls ops l ks) F C O nl=some (b,(K1,F1,C1,O1,nl1),(K2,F2,C2,O2,nl2)))(ht:b=true->KJ K1 n F1 C1 O1 nl1 V)(hf:b=false->KJ K2 n F2 C2 O2 nl2 V):KJ (wpList bJ ops (eX Q ks) l) n F C O nl V:=wQ h ht hf
theorem dv(h:mY n Q (.cd c ks) F C O nl=some (b,(K1,F1,C1,O1,nl1),(K2,F2,C2,O2,nl2)))(ht:b=true->KJ K1 n F1 C1 O1 nl1 V)(hf:b=false->KJ K2 n F2 C2 O2 nl2 V):KJ (c.wp bJ (eX Q ks)) n F C O nl V:=wQ h ht hf
theorem FT(h:mY n Q (.cd c (.tn K::ks)) F C O nl=some (b,(K1,F1,C1,O1,nl1),(K2,F2,C2,O2,nl2)))(ht:b=true->KJ K1 n F1 C1 O1 nl1 V)(hf:b=false->KJ K2 n F2 C2 O2 nl2 V):KJ (c.wp bJ (Exit.then K (eX Q ks))) n F C O nl V:=wQ h ht hf
theorem yp{T1 T2}(h:mY n Q m F C O nl=some (b,(K1,F1,C1,O1,nl1),(K2,F2,C2,O2,nl2)))(ht:T1->KJ K1 n F1 C1 O1 nl1 V)(hf:T2->KJ K2 n F2 C2 O2 nl2 V)
  (h1:b=true->T1) (h2:b=false->T2):KJ (m.K Q) n F C O nl V:=wQ h (λe=>ht (h1 e)) (λe=>hf (h2 e))
theorem cJ{T1 T2}(h:mY n Q (.ls ops l ks) F C O nl=some (b,(K1,F1,C1,O1,nl1),(K2,F2,C2,O2,nl2)))(ht:T1->KJ K1 n F1 C1 O1 nl1 V)(hf:T2->KJ K2 n F2 C2 O2 nl2 V)
  (h1:b=true->T1:=by intro h;simp only[Xa,Xb,Xc,Xd,Xe,Xf,Xg,Xh,Xi,Xj,Xk,Xl,Xm,Xn,Xo,Xp]at h;exact h)
  (h2:b=false->T2:=by intro h;simp only[Xa,Xb,Xc,Xd,Xe,Xf,Xg,Xh,Xi,Xj,Xk,Xl,Xm,Xn,Xo,Xp]at h;exact h):KJ (wpList bJ ops (eX Q ks) l) n F C O nl V:=yp h ht hf h1 h2
theorem dD{T1 T2}(h:mY n Q (.cd c ks) F C O nl=some (b,(K1,F1,C1,O1,nl1),(K2,F2,C2,O2,nl2)))(ht:T1->KJ K1 n F1 C1 O1 nl1 V)(hf:T2->KJ K2 n F2 C2 O2 nl2 V)
  (h1:b=true->T1:=by intro h;simp only[Xa,Xb,Xc,Xd,Xe,Xf,Xg,Xh,Xi,Xj,Xk,Xl,Xm,Xn,Xo,Xp]at h;exact h)
  (h2:b=false->T2:=by intro h;simp only[Xa,Xb,Xc,Xd,Xe,Xf,Xg,Xh,Xi,Xj,Xk,Xl,Xm,Xn,Xo,Xp]at h;exact h):KJ (c.wp bJ (eX Q ks)) n F C O nl V:=yp h ht hf h1 h2
theorem JO{T1 T2}(h:mY n Q (.cd c (.tn K::ks)) F C O nl=some (b,(K1,F1,C1,O1,nl1),(K2,F2,C2,O2,nl2)))(ht:T1->KJ K1 n F1 C1 O1 nl1 V)(hf:T2->KJ K2 n F2 C2 O2 nl2 V)
  (h1:b=true->T1:=by intro h;simp only[Xa,Xb,Xc,Xd,Xe,Xf,Xg,Xh,Xi,Xj,Xk,Xl,Xm,Xn,Xo,Xp]at h;exact h)
  (h2:b=false->T2:=by intro h;simp only[Xa,Xb,Xc,Xd,Xe,Xf,Xg,Xh,Xi,Xj,Xk,Xl,Xm,Xn,Xo,Xp]at h;exact h):KJ (c.wp bJ (Exit.then K (eX Q ks))) n F C O nl V:=yp h ht hf h1 h2
theorem BA{T1 T2}(h:mY n Q (.ex e ks) F C O nl=some (b,(K1,F1,C1,O1,nl1),(K2,F2,C2,O2,nl2)))(ht:T1->KJ K1 n F1 C1 O1 nl1 V)(hf:T2->KJ K2 n F2 C2 O2 nl2 V)
  (h1:b=true->T1:=by intro h;simp only[Xa,Xb,Xc,Xd,Xe,Xf,Xg,Xh,Xi,Xj,Xk,Xl,Xm,Xn,Xo,Xp]at h;exact h)
  (h2:b=false->T2:=by intro h;simp only[Xa,Xb,Xc,Xd,Xe,Xf,Xg,Xh,Xi,Xj,Xk,Xl,Xm,Xn,Xo,Xp]at h;exact h):KJ (eX Q ks e) n F C O nl V:=yp h ht hf h1 h2
def w7(n:Nat)(Q:Exit->Act->Z6->Prop)(ks:Z8 ZFr)(F:cy)(C:Z8 Nat)(O:Go.Eng.Own)(nl:Nat):Z4 qt:=match oe F C with
  |some F'=>nj n Q (.ex .normal ks) F' [] O nl
  |none=>none
def tq(n:Nat)(Q:Exit->Act->Z6->Prop)(ks:Z8 ZFr)(F:cy)(C:Z8 Nat)(O:Go.Eng.Own)(nl:Nat):Z4 (Bool×qt×qt):=match oe F C with
  |some F'=>mY n Q (.ex .normal ks) F' [] O nl
  |none=>none
theorem I0(h:w7 n Q ks F C O nl=some (K',F',C',O',nl'))(next:KJ K' n F' C' O' nl' V):∃F',oe F C=some F'/\KJ (eX Q ks .normal) n F' [] O nl V:=by unfold w7 at h;split at h;{rename_i h1;exact⟨_,h1,pm h next⟩};cases h
theorem II(h:tq n Q ks F C O nl=some (b,(K1,F1,C1,O1,nl1),(K2,F2,C2,O2,nl2)))(ht:b=true->KJ K1 n F1 C1 O1 nl1 V)(hf:b=false->KJ K2 n F2 C2 O2 nl2 V):∃F',oe F C=some F'/\KJ (eX Q ks .normal) n F' [] O nl V:=by unfold tq at h;split at h;{rename_i h1;exact⟨_,h1,wQ h ht hf⟩};cases h
theorem KL(h:∃F',oe F C=some F'/\KJ (eX Q ks .normal) n F' [] O nl V):DJ bJ ops (eX Q ks) [] n F C O nl V:=
  let ⟨_,h1,h2⟩:=h;⟨λE a hd hf=>λw' hm=>h2.out E a w' hd (Br h1 hf) hm⟩
theorem IY{sp:Z8 Nat}{O0:Go.Eng.Own}{nl0:Nat}{V0:Vw}{fuel:Nat}{listed:Z8 Bool}(h:∃F',oe F C=some F'/\KJ (eX Q ks .normal) n F' [] O nl V)(hr:Region.ready .any ops listed.toArray=[]):HJ bJ ops (eX Q ks) sp O0 nl0 V0 fuel listed n F C O nl V:=by
 obtain⟨F',h1,h2⟩:=h;constructor;intro E0 E a w hag hd hf hm hM;have hq:NoPanic (eX Q ks) .normal a w:=h2.out E a w hd (Br h1 hf) hm;cases fuel with
 |zero=>exact⟨hr,hq⟩
 |succ f=>exact⟨λ_=>hq,λi hi=>by rw[hr]at hi;cases hi⟩
theorem zD(h:w7 n Q ks F C O nl=some (K',F',C',O',nl'))(next:KJ K' n F' C' O' nl' V):DJ bJ ops (eX Q ks) [] n F C O nl V:=KL (I0 h next)
theorem k6(h:tq n Q ks F C O nl=some (b,(K1,F1,C1,O1,nl1),(K2,F2,C2,O2,nl2)))(ht:b=true->KJ K1 n F1 C1 O1 nl1 V)(hf:b=false->KJ K2 n F2 C2 O2 nl2 V):DJ bJ ops (eX Q ks) [] n F C O nl V:=KL (II h ht hf)
theorem mF{T1 T2}(h:tq n Q ks F C O nl=some (b,(K1,F1,C1,O1,nl1),(K2,F2,C2,O2,nl2)))(ht:T1->KJ K1 n F1 C1 O1 nl1 V)(hf:T2->KJ K2 n F2 C2 O2 nl2 V)
  (h1:b=true->T1:=by intro h;simp only[Xa,Xb,Xc,Xd,Xe,Xf,Xg,Xh,Xi,Xj,Xk,Xl,Xm,Xn,Xo,Xp]at h;exact h)
  (h2:b=false->T2:=by intro h;simp only[Xa,Xb,Xc,Xd,Xe,Xf,Xg,Xh,Xi,Xj,Xk,Xl,Xm,Xn,Xo,Xp]at h;exact h):DJ bJ ops (eX Q ks) [] n F C O nl V:=k6 h (λe=>ht (h1 e)) (λe=>hf (h2 e))
section
variable{sp:Z8 Nat}{O0:Go.Eng.Own}{nl0:Nat}{V0:Vw}{fuel:Nat}{listed:Z8 Bool}
theorem zH(h:w7 n Q ks F C O nl=some (K',F',C',O',nl'))(next:KJ K' n F' C' O' nl' V)(hr:Region.ready .any ops listed.toArray=[]:=by kernel_rfl):HJ bJ ops (eX Q ks) sp O0 nl0 V0 fuel listed n F C O nl V:=IY (I0 h next) hr
theorem nW(h:tq n Q ks F C O nl=some (b,(K1,F1,C1,O1,nl1),(K2,F2,C2,O2,nl2)))(ht:b=true->KJ K1 n F1 C1 O1 nl1 V)(hf:b=false->KJ K2 n F2 C2 O2 nl2 V)(hr:Region.ready .any ops listed.toArray=[]:=by kernel_rfl):HJ bJ ops (eX Q ks) sp O0 nl0 V0 fuel listed n F C O nl V:=IY (II h ht hf) hr
theorem nw{T1 T2}(h:tq n Q ks F C O nl=some (b,(K1,F1,C1,O1,nl1),(K2,F2,C2,O2,nl2)))(ht:T1->KJ K1 n F1 C1 O1 nl1 V)(hf:T2->KJ K2 n F2 C2 O2 nl2 V)
  (h1:b=true->T1:=by intro h;simp only[Xa,Xb,Xc,Xd,Xe,Xf,Xg,Xh,Xi,Xj,Xk,Xl,Xm,Xn,Xo,Xp]at h;exact h)
  (h2:b=false->T2:=by intro h;simp only[Xa,Xb,Xc,Xd,Xe,Xf,Xg,Xh,Xi,Xj,Xk,Xl,Xm,Xn,Xo,Xp]at h;exact h) (hr:Region.ready .any ops listed.toArray=[]:=by kernel_rfl):HJ bJ ops (eX Q ks) sp O0 nl0 V0 fuel listed n F C O nl V:=nW h (λe=>ht (h1 e)) (λe=>hf (h2 e)) hr
end
theorem zL{σ:Type}(ts ls:Z8 Nat){K0:Z8 (Nat×SV)}{O0:Go.Eng.Own}(hk:nR F ts []=some K0)(ho:jH O ls []=some O0)
    (Fx:σ->Z8 (Nat×SV)) (Ox:σ->Go.Eng.Own) (I:σ->Prop) (μ:σ->Nat) (x0:σ) (h0:I x0)
    (round:∀x,I x->KJ (c.wp bJ (eX Q (.tn (λa w=>∃x',(gM n (λx=>Fx x++K0) (λx=>Ox x++O0) nl (λ_=>V) x' a w/\I x')/\μ x'<μ x)::ks))) n (dA (Fx x++K0)) [] (Ox x++O0) nl V)
    (hs:dT F (Fx x0++K0):=by repeat (first|exact fN|refine fC J ?_)) (hO:dm O (Ox x0++O0):=by repeat (first|exact oN|refine oC J ?_)) (hok:(iO nl (Fx x0++K0)&&eA nl (Ox x0++O0))=true:=by rfl):
    KJ ((Code.loop c).wp bJ (eX Q ks)) n F C O nl V:=Ql ts ls hk ho Fx Ox I μ x0 h0 round hs hO hok
theorem zV{σ:Type}(ts ls:Z8 Nat){K0:Z8 (Nat×SV)}{O0:Go.Eng.Own}(hk:nR F ts []=some K0)(ho:jH O ls []=some O0)
    (Fx:σ->Z8 (Nat×SV)) (Ox:σ->Go.Eng.Own) (Vx:σ->Vw) (I:σ->Prop) (μ:σ->Nat) (x0:σ) (h0:I x0)
    (round:∀x,I x->KJ (c.wp bJ (eX Q (.tn (λa w=>∃x',(gM n (λx=>Fx x++K0) (λx=>Ox x++O0) nl Vx x' a w/\I x')/\μ x'<μ x)::ks))) n (dA (Fx x++K0)) [] (Ox x++O0) nl (Vx x))
    (hs:dT F (Fx x0++K0):=by repeat (first|exact fN|refine fC J ?_)) (hO:dm O (Ox x0++O0):=by repeat (first|exact oN|refine oC J ?_)) (hok:(iO nl (Fx x0++K0)&&eA nl (Ox x0++O0))=true:=by rfl) (hV:(Vx x0).le V:=by exact Vw.le.refl _):
    KJ ((Code.loop c).wp bJ (eX Q ks)) n F C O nl V:=Lv ts ls hk ho Fx Ox Vx I μ x0 h0 round hs hO hok hV
def nV(fn:Func)(R:Ending->Z6->Prop)(ss:Z8 SV):Z4 qt:=match fn.body with
  |some c=>nj fn.ntmps (bodyPost bJ fn R) (.cd c []) (k5 ss 0) [] [] 0
  |none=>none
theorem zF{f:Nat}{R:Ending->Z6->Prop}{w:Z6}{fn:Func}(ss:Z8 SV)(hfn:Tryz.prog.funcs[f]? =some fn)(h:nV fn R ss=some (K',F',C',O',nl')) (next:KJ K' fn.ntmps F' C' O' nl' (vw w)) (hok:kI 0 ss=true:=by rfl) (hle:Nat.ble ss.length fn.ntmps=true:=by rfl):Calls bJ f (ss.map (SV.den E0)).toArray w R:=by unfold nV at h;split at h;{rename_i c hc;exact Qf ss hfn hc (pm h next) hok hle};cases h
end
section
variable{f:Nat}{R:Ending->Z6->Prop}{w:Z6}{fn:Func}{a b e u x y:Z7}{K':Act->Z6->Prop}{F':cy}{C':Z8 Nat}{O':Go.Eng.Own}{nl':Nat}(hfn:Tryz.prog.funcs[f]? =some fn)
include hfn
theorem z0(h:nV fn R []=some (K',F',C',O',nl'))(next:KJ K' fn.ntmps F' C' O' nl' (vw w))(hle:Nat.ble 0 fn.ntmps=true:=by rfl):Calls bJ f #[] w R:=zF [] hfn h next J hle
theorem z1(h:nV fn R [.a (.v a)]=some (K',F',C',O',nl'))(next:KJ K' fn.ntmps F' C' O' nl' (vw w))(hle:Nat.ble 1 fn.ntmps=true:=by rfl):Calls bJ f #[a] w R:=zF [.a (.v a)] hfn h next J hle
theorem z2(h:nV fn R [.a (.v a),.a (.v b)]=some (K',F',C',O',nl'))(next:KJ K' fn.ntmps F' C' O' nl' (vw w))(hle:Nat.ble 2 fn.ntmps=true:=by rfl):Calls bJ f #[a,b] w R:=zF [.a (.v a),.a (.v b)] hfn h next J hle
theorem z3(h:nV fn R [.a (.v a),.a (.v b),.a (.v e)]=some (K',F',C',O',nl'))(next:KJ K' fn.ntmps F' C' O' nl' (vw w))(hle:Nat.ble 3 fn.ntmps=true:=by rfl):Calls bJ f #[a,b,e] w R:=zF [.a (.v a),.a (.v b),.a (.v e)] hfn h next J hle
theorem z4(h:nV fn R [.a (.v a),.a (.v b),.a (.v e),.a (.v u)]=some (K',F',C',O',nl'))(next:KJ K' fn.ntmps F' C' O' nl' (vw w))(hle:Nat.ble 4 fn.ntmps=true:=by rfl):Calls bJ f #[a,b,e,u] w R:=zF [.a (.v a),.a (.v b),.a (.v e),.a (.v u)] hfn h next J hle
theorem z5(h:nV fn R [.a (.v a),.a (.v b),.a (.v e),.a (.v u),.a (.v x)]=some (K',F',C',O',nl'))(next:KJ K' fn.ntmps F' C' O' nl' (vw w))(hle:Nat.ble 5 fn.ntmps=true:=by rfl):Calls bJ f #[a,b,e,u,x] w R:=zF [.a (.v a),.a (.v b),.a (.v e),.a (.v u),.a (.v x)] hfn h next J hle
end
theorem fZ{O:Go.Eng.Own}{vs:Z8 A}(h:gg O vs:=by first|exact mb (by assumption)|exact⟨ZY,ZY⟩|(repeat' first|exact ZY|exact J|apply YO);done|simp[gg,jG,lk,Value.oneCell']):gg O vs:=h
section
variable{ops:Array Oper}{Q:Exit->Act->Z6->Prop}{o:Oper}{n:Nat}{F:cy}{C C':Z8 Nat}{O O0:Go.Eng.Own}{nl nl0:Nat}{V V0:Vw}{p:Z8 (Nat×Bool)}{g:Bool}{d:Nat}{s:SV}{sp:Z8 Nat}{fuel:Nat}{listed:Z8 Bool}
def tY(n:Nat)(ops:Array Oper)(F:cy)(C:Z8 Nat)(i:Nat):Z4 (Oper×Z8 (Nat×Bool)×Bool×Z8 Nat×Nat):=match ops[i]? with
  |some o=>match jP n ops F C o with
    |some x=>some (o,x)
    |none=>none
  |none=>none
theorem qb{i:Nat}(h:tY n ops F C i=some (o,p,g,C',d)):ops[i]? =some o/\jP n ops F C o=some (p,g,C',d):=by
 unfold tY at h;cases h1:ops[i]? with
 |none=>simp[h1]at h
 |some o1=>
  cases h2:jP n ops F C o1 with
  |none=>simp[h1,h2]at h
  |some x=>simp[h1,h2]at h;obtain⟨rfl,rfl⟩:=h;exact⟨J,h2⟩
theorem zG(i:Nat){σ:Type}{Φ:σ->Prop}{sx:σ->SV}{Ox:σ->Go.Eng.Own}{nl':Nat}{Vx:σ->Vw}(h:tY n ops F C i=some (o,p,true,C',d))
    (hs:StepTo bJ o p n F C' O nl V Φ sx Ox nl' Vx)
    (next:∀x,Φ x->HJ bJ ops Q sp O0 nl0 V0 fuel (dz listed i) n ((d,⟨p,true,sx x⟩)::F) C' (Ox x) nl' (Vx x)) (hn:(Nat.ble nl nl'&&Nat.ble nl0 nl)=true:=by rfl)
    (hsp:∀x,Φ x->dm (Ox x) O0/\eA nl0 O0=true/\V0.le (Vx x):=by exact λ_ _=>⟨(by repeat (first|exact oN|refine oC J ?_)),J,(by first|exact Vw.le.refl _|assumption)⟩)
    (hr:Region.ready .any ops listed.toArray=[i]:=by kernel_rfl):HJ bJ ops Q sp O0 nl0 V0 (fuel+1) listed n F C O nl V:=Qo i (Qg i (qb h).1 (qb h).2 hs next hn hsp) hr
theorem zY(i:Nat)(h:tY n ops F C i=some (o,p,g,C',d))(hy:dY bJ o n F C' O nl V p g s)
    (next:HJ bJ ops Q sp O0 nl0 V0 fuel (dz listed i) n ((d,⟨p,g,s⟩)::F) C' O nl V) (hr:Region.ready .any ops listed.toArray=[i]:=by kernel_rfl):HJ bJ ops Q sp O0 nl0 V0 (fuel+1) listed n F C O nl V:=Qo i (Qy i (qb h).1 (qb h).2 hy next) hr
theorem zI(i:Nat){a:Nat}{cs vs:Z8 A}{e:Nat}(h:tT ops i F O=some (a,cs,e,vs))(next:HJ bJ ops Q sp O0 nl0 V0 fuel (dz listed i) n F C ((a,.lit cs e)::O) nl V)
  (h1:gg O vs:=by repeat' first|exact ZY|exact J|apply YO)
  (hsp:dm ((a,.lit cs e)::O) O0/\eA nl0 O0=true/\V0.le V:=by exact⟨(by repeat (first|exact oN|refine oC J ?_)),J,(by first|exact Vw.le.refl _|assumption)⟩)
  (hr:Region.ready .any ops listed.toArray=[i]:=by kernel_rfl):HJ bJ ops Q sp O0 nl0 V0 (fuel+1) listed n F C O nl V:=Qo i (Qi i h next h1 hsp) hr
theorem zJ(i:Nat){a:Nat}{cs vs:Z8 A}{e:Nat}(h:tT ops i F O=some (a,cs,e,vs))(next:HJ bJ ops Q sp O0 nl0 V0 fuel (dz listed i) n F C ((a,.lit cs e)::O) nl V)
  (h1:gg O vs:=by repeat' first|exact ZY|exact J|apply YO) (hsp:fF sp (dz listed i).toArray=true:=by rfl)
  (hr:Region.ready .any ops listed.toArray=[i]:=by kernel_rfl):HJ bJ ops Q sp O0 nl0 V0 (fuel+1) listed n F C O nl V:=Qo i (Qj i h next h1 hsp) hr
theorem zt(i:Nat)(h:tY n ops F C i=some (o,p,g,C',d))(hy:dY bJ o n F C' O0 nl V p g s)
    (next:TJ bJ ops Q sp O0 fuel (dz listed i) n ((d,⟨p,g,s⟩)::F) C' O nl V) (hk:r9 ops sp listed.toArray i=true:=by kernel_rfl) (hs:s.ok nl=true:=by rfl):TJ bJ ops Q sp O0 (fuel+1) listed n F C O nl V:=
  Qt i (qb h).1 (qb h).2 hy next hk hs
theorem zu(i:Nat)(h:tY n ops F C i=some (o,p,g,C',d))(hy:dY bJ o n F C' O0 nl V p g s)
    (next:TJ bJ ops Q sp O0 fuel (dz listed i) n ((d,⟨p,g,s⟩)::F) C' O nl V) (hk:sD ops sp listed.toArray i=true:=by kernel_rfl) (hs:s.ok nl=true:=by rfl):TJ bJ ops Q sp O0 (fuel+1) listed n F C O nl V:=
  Qu i (qb h).1 (qb h).2 hy next hk hs
theorem zT(i:Nat){f:Nat}{ss:Z8 SV}{v:Z7}(hi:ops[i]? =some o)(h:jW n ops F C o=some ((p,g,C',d),f,ss))(hok:eJ bJ f)
    (hcall:g=true-> ∀E w,Mem E O nl V w->Calls bJ f (ss.map (SV.den E)).toArray w λe w'=>e=.returned v/\cH w w')
    (next:HJ bJ ops Q sp O0 nl0 V0 fuel (dz listed i) n ((d,⟨p,g,.a (.v v)⟩)::F) C' O nl V) (hr:Region.ready .any ops listed.toArray=[i]:=by kernel_rfl):HJ bJ ops Q sp O0 nl0 V0 (fuel+1) listed n F C O nl V:=Qo i (Th i hi h hok hcall next) hr
end
theorem cU{a b:Prop}(h:a)(g:a->b:=by intro h;simpa using h):b:=g h
theorem cw{α:Sort _}{β:α->Sort _}{f:∀x,β x}:∀x,f x=f x:=λ_=>rfl
section
variable{K':Act->Z6->Prop}{F':cy}{C':Z8 Nat}{O':Go.Eng.Own}{nl':Nat}{f:Nat}{R:Ending->Z6->Prop}{w:Z6}{fn:Func}{a b e u x y:Z7}
noncomputable def qN (f:Nat) (R:Ending->Z6->Prop) (ss:Z8 SV):Z4 (Func×qt):=match Tryz.prog.funcs[f]? with
  |some fn=>match nV fn R ss with
    |some s=>some (fn,s)
    |none=>none
  |none=>none
theorem dC(ss:Z8 SV)(h:qN f R ss=some (fn,K',F',C',O',nl'))(next:KJ K' fn.ntmps F' C' O' nl' (vw w))(hok:kI 0 ss=true:=by rfl)(hle:Nat.ble ss.length fn.ntmps=true:=by rfl):Calls bJ f (ss.map (SV.den E0)).toArray w R:=by
 unfold qN at h;cases h1:Tryz.prog.funcs[f]? with
 |none=>rw[h1]at h;cases h
 |some fn1=>
  rw[h1]at h;cases h2:nV fn1 R ss with
  |none=>simp[h2]at h
  |some s=>simp only[h2,Z0,ZN]at h;obtain⟨rfl,rfl⟩:=h;exact zF ss h1 h2 next hok hle
theorem wP(h:qN f R []=some (fn,K',F',C',O',nl'))(next:KJ K' fn.ntmps F' C' O' nl' (vw w))(hle:Nat.ble 0 fn.ntmps=true:=by rfl):Calls bJ f #[] w R:=dC [] h next J hle
theorem dU(h:qN f R [.a (.v a)]=some (fn,K',F',C',O',nl'))(next:KJ K' fn.ntmps F' C' O' nl' (vw w))(hle:Nat.ble 1 fn.ntmps=true:=by rfl):Calls bJ f #[a] w R:=dC [.a (.v a)] h next J hle
theorem dN(h:qN f R [.a (.v a),.a (.v b)]=some (fn,K',F',C',O',nl'))(next:KJ K' fn.ntmps F' C' O' nl' (vw w))(hle:Nat.ble 2 fn.ntmps=true:=by rfl):Calls bJ f #[a,b] w R:=dC [.a (.v a),.a (.v b)] h next J hle
theorem jC(h:qN f R [.a (.v a),.a (.v b),.a (.v e)]=some (fn,K',F',C',O',nl'))(next:KJ K' fn.ntmps F' C' O' nl' (vw w))(hle:Nat.ble 3 fn.ntmps=true:=by rfl):Calls bJ f #[a,b,e] w R:=dC [.a (.v a),.a (.v b),.a (.v e)] h next J hle
theorem tH(h:qN f R [.a (.v a),.a (.v b),.a (.v e),.a (.v u)]=some (fn,K',F',C',O',nl'))(next:KJ K' fn.ntmps F' C' O' nl' (vw w))(hle:Nat.ble 4 fn.ntmps=true:=by rfl):Calls bJ f #[a,b,e,u] w R:=dC [.a (.v a),.a (.v b),.a (.v e),.a (.v u)] h next J hle
end
section
variable{ops:Array Oper}{Q:Exit->Act->Z6->Prop}{o:Oper}{n:Nat}{F:cy}{C C':Z8 Nat}{O O0:Go.Eng.Own}{nl nl0:Nat}{V V0:Vw}{p:Z8 (Nat×Bool)}{g:Bool}{d:Nat}{rest:Z8 Oper}{sp:Z8 Nat}{fuel:Nat}{listed:Z8 Bool}{f:Nat}{ss:Z8 SV}{v:Z7}
theorem dq(h:jW n ops F C o=some ((p,g,C',d),f,ss))
  (hcall:g=true-> ∀E w,Mem E O nl V w->Calls bJ f (ss.map (SV.den E)).toArray w λe w'=>e=.returned v/\cH w w')
  (next:KJ (wpList bJ ops Q rest) n ((d,⟨p,g,.a (.v v)⟩)::F) C' O nl V) (hok:eJ bJ f:=by exact FN _):KJ (wpList bJ ops Q (o::rest)) n F C O nl V:=Tc h hok hcall next
theorem zC(h:jW n ops F C o=some ((p,g,C',d),f,ss))(hcall:∀{E:Env} w,Calls bJ f (ss.map (SV.den E)).toArray w λe w'=>e=.returned v/\cH w w')
  (next:KJ (wpList bJ ops Q rest) n ((d,⟨p,g,.a (.v v)⟩)::F) C' O nl V) (hok:eJ bJ f:=by exact FN _):KJ (wpList bJ ops Q (o::rest)) n F C O nl V:=Tc h hok (λ_ _ w _=>hcall w) next
theorem k8(h:jW n ops F C o=some ((p,g,C',d),f,ss))(hcall:∀{E:Env} w,V.le (vw w)->Calls bJ f (ss.map (SV.den E)).toArray w λe w'=>e=.returned v/\cH w w')
  (next:KJ (wpList bJ ops Q rest) n ((d,⟨p,g,.a (.v v)⟩)::F) C' O nl V) (hok:eJ bJ f:=by exact FN _):KJ (wpList bJ ops Q (o::rest)) n F C O nl V:=Tc h hok (λ_ _ w hm=>hcall w hm.leV) next
theorem lR(h:jW n ops F C o=some ((p,g,C',d),f,ss))
  (hcall:g=true-> ∀E w,Mem E O nl V w->Calls bJ f (ss.map (SV.den E)).toArray w λe w'=>e=.returned v/\cH w w')
  (next:DJ bJ ops Q rest n ((d,⟨p,g,.a (.v v)⟩)::F) C' O nl V) (hok:eJ bJ f:=by exact FN _):DJ bJ ops Q (o::rest) n F C O nl V:=Tq h hok hcall next
theorem zQ(h:jW n ops F C o=some ((p,g,C',d),f,ss))(hcall:∀{E:Env} w,Calls bJ f (ss.map (SV.den E)).toArray w λe w'=>e=.returned v/\cH w w')
  (next:DJ bJ ops Q rest n ((d,⟨p,g,.a (.v v)⟩)::F) C' O nl V) (hok:eJ bJ f:=by exact FN _):DJ bJ ops Q (o::rest) n F C O nl V:=Tq h hok (λ_ _ w _=>hcall w) next
theorem eR(Φ:Z7->Vw->Prop)(h:jW n ops F C o=some ((p,g,C',d),f,ss))
  (hcall:g=true-> ∀E w,Mem E O nl V w->Calls bJ f (ss.map (SV.den E)).toArray w λe w'=>∃v V',e=.returned v/\cH w w'/\Vext w.heap.size V V' w'/\Φ v V')
  (next:∀v V',V.le V'->(g=true->Φ v V')->KJ (wpList bJ ops Q rest) n ((d,⟨p,g,.a (.v v)⟩)::F) C' O nl V') (hok:eJ bJ f:=by exact FN _):KJ (wpList bJ ops Q (o::rest)) n F C O nl V:=Qv Φ h hok hcall next
theorem kt(Φ:Z7->Vw->Prop)(h:jW n ops F C o=some ((p,g,C',d),f,ss))
  (hcall:∀{E:Env} w,V.le (vw w)->Calls bJ f (ss.map (SV.den E)).toArray w λe w'=>∃v V',e=.returned v/\cH w w'/\Vext w.heap.size V V' w'/\Φ v V')
  (next:∀v V',V.le V'->(g=true->Φ v V')->KJ (wpList bJ ops Q rest) n ((d,⟨p,g,.a (.v v)⟩)::F) C' O nl V') (hok:eJ bJ f:=by exact FN _):KJ (wpList bJ ops Q (o::rest)) n F C O nl V:=Qv Φ h hok (λ_ _ w hm=>hcall w hm.leV) next
end
theorem lI{α β:Type}{R:α->β->Prop}{l:Z8 α}{m:Z8 β}{a:α}{b:β}(h:cT R l m)(i:Nat)(hl:l[i]? =some a:=by rfl)(hm:m[i]? =some b:=by rfl):R a b:=by obtain⟨c,h1,h2⟩:=h.at hl;rw[hm]at h1;cases h1;exact h2
abbrev fD(a1:Z4 Addr)(n1 c1:Nat)(a2:Z4 Addr)(n2 c2:Nat)(a3:Z4 Addr)(n3 c3:Nat)(nx:Int)(a4:Z4 Addr)(n4 c4:Nat):Z7:=.agg #[.slice a1 n1 c1,.slice a2 n2 c2,.slice a3 n3 c3,I nx,.slice a4 n4 c4]
abbrev cM:PT:=.one (.int .i64)
