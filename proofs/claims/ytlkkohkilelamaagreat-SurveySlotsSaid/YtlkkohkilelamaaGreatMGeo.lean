import Derived.Test.YtlkkohkilelamaaGreatData
/- A part of the proof of SurveySlots. -/
set_option linter.unusedVariables false
set_option linter.unusedSimpArgs false
set_option maxRecDepth 100000
set_option maxHeartbeats 4000000
namespace Go.Proofs.YtlkkohkilelamaaGreat
open Go Go.Eng Go.RowKit
def nd(n a b:Int):Bool:=decide (a<=n)&&decide (n<=b)
theorem ke(n a b:Int)(w:Z6):Rt 30 #[I n,I a,I b] w (.bool (nd n a b)):=by refine jC J<|Tz J λ_=>rfl
def cY(g:Geo):Bool:=decide ((1<=g.nodes/\g.nodes<=16)/\(1<=g.slots/\g.slots<=g.nodes)/\(1<=g.blocks/\g.blocks<=64)/\(1<=g.per/\g.per<=8)/\(g.per+2<=g.journal/\g.journal<=64)/\
 (8*g.slots<=g.log/\g.log<=512)/\(1<=g.lease/\g.lease<g.wait/\g.wait<=1048576))
theorem jc(g:Geo)(ok:g.Ok)(w:Z6):Rt 12 #[g.val] w (.bool (cY g)):=by
 refine dU J<|zC J (ke _ _ _)<|zA J<|zC J (ke _ _ _)<|zA J<|zC J (ke _ _ _)<|zA J<|zC J (ke _ _ _)<|zA J<|zC J (ke _ _ _)<|zA J<|zC J (ke _ _ _)<|zA J<|Tz J λE=>?_
 show Ending.returned (.bool ((((((((nd g.nodes 1 16&&nd g.slots 1 g.nodes)&&nd g.blocks 1 64)&&nd g.per 1 8)&&nd g.journal (IntKind.i64.wrap (g.per+2)) 64)&&nd g.log (IntKind.i64.wrap (8*g.slots)) 512)&&
  decide (1<=g.lease))&&decide (g.lease<g.wait))&&decide (g.wait<=1048576)))=_
 congr 2;by_cases h:(1<=g.nodes/\g.nodes<=16)/\(1<=g.slots/\g.slots<=g.nodes)/\(1<=g.per/\g.per<=8);{rw[cx om om,cx om om,Ze];simp only[nd,cY,Z1,ZV];omega};(have:cY g=false:=by simp only[cY,Zl];omega);rw[this,Zi];simp only[nd,ne_eq,Z1,ZV];omega
abbrev sF(n:Int):Z8 Z7:=[I n]
def jU:Z8 Int->Bool
 |a::b::r=>decide (a<=b)&&jU (b::r)
 |_=>true
theorem D0:∀(l:Z8 Int),jU l=true↔ ∀j x y,l[j]? =some x->l[j+1]? =some y->x<=y
 |[]=>by simp[jU]
 |[a]=>by simp[jU]
 |a::b::r=>by
  simp only[jU,Z1,ZV,D0 (b::r)]
  constructor
  ·
   grind
  ·
   intro h
   exact⟨h 0 a b J J,λj x y hx hy=>h (j+1) x y (cU hx) (cU hy)⟩
theorem sJ(V:Vw)(M:Z7)(l:Z8 Int)(w:Z6)(hV:V.le (vw w))(hs:SlOf V sF 1 M l)(R:l.length<=eg): Rt 81 #[M] w (.bool (jU l)):=by
 simp only[eg]at R;have d:=hs.mono hV
 refine dU J<|ql (σ:=Nat) (λk=>[(0,.a (.v M)),(3,.a (.v (I (k+1:Nat))))]) (λ_=>[]) 0 (λ_=>vw w)
  (λk=>k+1<=l.length+1/\ ∀j x y,j<k->l[j]? =some x->l[j+1]? =some y->x<=y) (λk=>l.length - k) 0 ⟨om,om⟩ ⟨J,J,ZY⟩ ZY J lr ?_
 rintro k ⟨W,m⟩;refine zU J<|QY J (yN J d)<|cS J ?_ ?_<;>intro h;{refine ez mixed kr<|Dm 3 J ?_;(have z:k+1<l.length:=by simp at h;omega);have u:l[k]? =some (l[k]'om):=sm;(have t:l[k+1]? =some l[k+1]:=by simp[z]);(have O:IntKind.i64.wrap (((k+1:Nat):Int) - 1)=(k:Int):=by rw[cx om om];omega);rw[O];refine Qd J (yI J d)<|Qd J (dy aJ (k) 0 ((l[k]'om)) J (λL=>d) (λL=>u) J J)<|Dm 2 J<|Qd J (yI J d)<|Qd J (dy aJ (k+1) 0 (l[k+1]) J (λL=>d) (λL=>t) J J)<|Dm 1 J<|k6 J ?_ ?_<;>intro h;{refine Tz J λE=>?_;(have:jU l=false:=by rw[Zi];intro T;have:=(D0 l).1 T k _ _ u t;simp at h;omega);rw[this];rfl};(have N:IntKind.i64.wrap (((k+1:Nat):Int)+1)=((k+1+1:Nat):Int):=by rw[cx om om];omega);rw[N];refine Qr (k+1) ⟨om,λj x y X o p=>?_⟩ (hμ:=om) (hs:=⟨J,J,ZY⟩) (hO:=trivial);by_cases B:j=k;{subst B;rw[u]at o;rw[t]at p;cases o;cases p;simp at h;omega};exact m j x y om o p};refine Tz J λE=>?_;(have:jU l=true:=by rw[D0];intro j x y u t;have:=(List.getElem?_eq_some_iff.1 t).1;simp at h;exact m j x y om u t);rw[this];rfl
theorem rM(g:Geo)(ok:g.Ok)(w:Z6):Rt 40 #[g.val] w (.bool (cY g)):=by
 refine dU J<|jV aJ J J J J λb1 Y L T=>dq J (λm E p d=>sJ Y _ [1,g.slots,g.nodes,16] _ d.leV (SlOf.ofBlock (enc:=sF) (sz:=1) (l:=[1,g.slots,g.nodes,16]) (T m) J cw (ZS _)) (by simp[eg]))<|zA J<|jV aJ J J J J λb2 Z u O=>dq J (λm E p d=>sJ Z _ [1,g.blocks,64] _ d.leV (SlOf.ofBlock (enc:=sF) (sz:=1) (l:=[1,g.blocks,64]) (O m) J cw (ZS _)) (by simp[eg]))<|zA J<|jV aJ J J J J λb3 W y V=>dq J (λm E p d=>sJ W _ [1,g.per,8] _ d.leV (SlOf.ofBlock (enc:=sF) (sz:=1) (l:=[1,g.per,8]) (V m) J cw (ZS _)) (by simp[eg]))<|zA J<|jV aJ J J J J λb4 V4 t R=>dq J (λm E p d=>sJ V4 _ [IntKind.i64.wrap (g.per+2),g.journal,64] _ d.leV (SlOf.ofBlock (enc:=sF) (sz:=1) (l:=[IntKind.i64.wrap (g.per+2),g.journal,64]) (R m) J cw (ZS _)) (by simp[eg]))<|zA J<|jV aJ J J J J λb5 V5 B N=>dq J (λm E p d=>sJ V5 _ [IntKind.i64.wrap (8*g.slots),g.log,512] _ d.leV (SlOf.ofBlock (enc:=sF) (sz:=1) (l:=[IntKind.i64.wrap (8*g.slots),g.log,512]) (N m) J cw (ZS _)) (by simp[eg]))<|zA J<|jV aJ J J J J λb6 X z M=>dq J (λm E p d=>sJ X _ [1,g.lease,IntKind.i64.wrap (g.wait - 1),1048575] _ d.leV (SlOf.ofBlock (enc:=sF) (sz:=1) (l:=[1,g.lease,IntKind.i64.wrap (g.wait - 1),1048575]) (M m) J cw (ZS _)) (by simp[eg]))<|zA J<|Qb J λE w' d=>⟨?_,d.below (((((L.trans u).trans y).trans t).trans B).trans z)⟩
 show Ending.returned (.bool (((((jU [1,g.slots,g.nodes,16]&&jU [1,g.blocks,64])&&jU [1,g.per,8])&&jU [IntKind.i64.wrap (g.per+2),g.journal,64])&&jU [IntKind.i64.wrap (8*g.slots),g.log,512])&&
  jU [1,g.lease,IntKind.i64.wrap (g.wait - 1),1048575]))=_
 congr 2;have hw:=ok.wait;simp only[cK]at hw;by_cases h:(1<=g.nodes/\g.nodes<=16)/\(1<=g.slots/\g.slots<=g.nodes)/\(1<=g.per/\g.per<=8)
 .rw[cx (n:=g.per+2) om om,cx (n:=8*g.slots) om om];by_cases o:g.wait= -9223372036854775808
  ·(have:cY g=false:=by simp only[cY,Zl];omega);rw[this,o];simp[jU]
   intros
   decide
  rw[cx (n:=g.wait - 1) om om,Ze];simp only[jU,cY,Z1,ZV,x_];omega
 (have:cY g=false:=by simp only[cY,Zl];omega);rw[this,Zi];simp only[jU,ne_eq,Z1,ZV];omega
def iB(n m:Int):Bool:=decide (0<=n)&&decide (n<m)
theorem zp(n m:Int)(w:Z6):Rt 287 #[I n,I m] w (.bool (iB n m)):=by refine dN J<|Tz J λ_=>rfl
def gy(n:Int):Bool:=decide (16<=n)&&decide (n<=1099511627776)
theorem yC(n:Int)(w:Z6):Rt 286 #[I n] w (.bool (gy n)):=by refine dU J<|Tz J λ_=>rfl
theorem UM(r:Record)(b:Nat)(w:Z6)(d:w.heap[b]? =some (.cells r.cells.toArray 376 (0,0))): Rt 288 #[.pointer (some ⟨b,0,none⟩)] w (.bool (decide (0<r.count))):=by refine j5 [.a (.ptr 0 0)] d Tryz.func288 J J J J<|zW J<|Qb J λE m l=>?_;exact⟨J,iI d l lr J J J⟩
def Record.eqB(a b:Record):Bool:=a.key==b.key&&(a.lsn==b.lsn&&(a.block==b.block&&(a.k==b.k&&(a.text.toList==b.text.toList&&a.count==b.count))))
theorem WS{a b:Z5}(h:a.toList=b.toList):a=b:=by rw[S_,S_]at h;exact Y5 ByteArray.mk<|YN h
theorem VL{a:Z5}(h:a.size=0):a=ByteArray.empty:=by simp_all
theorem Record.eqB_iff(a b:Record):a.eqB b=true↔a=b:=by
 simp only[Record.eqB,Z1,beq_iff_eq];constructor
 .rintro⟨p,m,t,o,d,l⟩;cases a;cases b;have:=WS d
  simp_all
 simp_all
theorem LJ{d:BinOp}{ox oy:Operand}(a b:Record)(w:Z6)(l:d=.eql\/d=.neq): (do eqGuard d 86 ox oy a.val b.val;binOp d 86 a.val b.val:Sem Z7).run bJ w=.ok (.bool (if d=.eql then a.eqB b else !(a.eqB b))) w:=by
 have o:bJ.underlying 86=some (.struct (bJ.fieldsOf 86)):=kr;have m:bJ.stoodInHeld 86=false:=kr;have p:bJ.eqGuardType bJ.depth 86=false:=kr
 have key:(Op.equalIn 10000 86 a.val b.val).run bJ w=.ok (a.eqB b) w:=by
  rw[show(10000:Nat)=9999+1 from J,run_equalIn_agg w 9999 86 _ _ o m];simp only[Program.fieldsOf,Tryz.underlying86]
  go_simp
  unfold Record.eqB
  grind
 rw[ZR,run_eqGuard_agg w _ _ _ _ _ _ p];(rcases l with rfl|rfl);{simp only[ZU,run_eql_struct,key];rfl};simp only[ZU,run_neq_struct,key];rfl
def fX(r:Record):Bool:=
 gy r.key&&iB r.lsn 1099511627777&&iB r.count 64&&
  (if 0<r.count then decide (r.block=0)&&decide (r.k=0)&&(r.text.size==0)else iB r.block 64&&iB r.k 8&&decide ((r.text.size:Int)<=256))
theorem Ph(r:Record)(b:Nat)(w:Z6)(m:w.heap[b]? =some (.cells r.cells.toArray 376 (0,0))): Rt 245 #[.pointer (some ⟨b,0,none⟩)] w (.bool (fX r)):=by
 refine j5 [.a (.ptr 0 0)] m Tryz.func245 J J J J<|zW J<|zC J (yC _)<|zA J<|zC J (zp _ _)<|zA J<|zC J (zp _ _)<|cS J ?_ ?_<;>intro h;{refine Qb J λE B l=>⟨?_,iI m l lr J J J⟩;(have:fX r=false:=by simp only[fX];revert h;cases gy r.key<;>cases iB r.lsn 1099511627777<;>cases iB r.count 64<;>simp);rw[this];rfl};have d:=h;refine dq J (λM E L l=>UM r _ _ (l.lit 0 _ _ J))<|cS J ?_ ?_<;>intro h
 .refine ez mixed kr<|Dm 20 J<|Qd J (hU (.bool (r.eqB ⟨r.key,r.lsn,0,0,ByteArray.empty,r.count⟩)) J (λE w=>LJ r ⟨r.key,r.lsn,0,0,ByteArray.empty,r.count⟩ w (.inl J)))<|Dm 1 J<|zD J<|Qb J λE B l=>⟨?_,iI m l lr J J J⟩;show Ending.returned (.bool _)=_;congr 2;have u:0<r.count:=cU h;rw[Ze,Record.eqB_iff];simp only[fX,ZW u];(have z:(gy r.key&&iB r.lsn 1099511627777&&iB r.count 64)=true:=by simp only[Zf,Z_]at d;simp[d]);rw[z,ZI];simp only[Z1,ZV,beq_iff_eq];constructor;{intro o;have t:=Y5 Record.block o;have p:=Y5 Record.k o;have y:=Y5 Record.text o;simp only at t p y;exact⟨⟨t,p⟩,by rw[y];rfl⟩};rintro⟨⟨t,p⟩,y⟩;cases r
  simp_all
 refine zC J (zp _ _)<|zA J<|zC J (zp _ _)<|zA J<|Qb J λE B l=>⟨?_,iI m l lr J J J⟩;show Ending.returned (.bool _)=_;congr 2;have u: ¬0<r.count:=cU h;simp only[fX,ZX u];(have z:(gy r.key&&iB r.lsn 1099511627777&&iB r.count 64)=true:=by simp only[Zf,Z_]at d;simp[d]);rw[z,ZI]
def yG(s:Z5):Z5:=s.extract 0 (min s.size 256)
def Ef(s:Z5):Z5:=s.extract (min s.size 256) s.size
theorem nM(l:Z8 Record):∀u∈l.flatMap Record.cells,u.oneCell'=true:=by intro u d;have ⟨x,_,hx⟩:=YW.1 d;simp only[Record.cells,Zg,YH,w_]at hx;rcases hx with rfl|rfl|rfl|rfl|rfl|rfl<;>rfl
abbrev eP(b:Nat):Z7:=.pointer (some ⟨b,0,none⟩)
section
variable{o:Oper}{n:Nat}{F:cy}{C:Z8 Nat}{O:Go.Eng.Own}{nl:Nat}{V:Vw}
end
def nP(t:Z5):Nat->Z5
 |0=>t
 |k+1=>Ef (nP t k)
def kE(l:Z8 Block)(i:Nat):Block:=l.getD i ⟨0,ByteArray.empty⟩
theorem vP{l:Z8 Block}{i:Nat}{b:Block}(h:l[i]? =some b):kE l i=b:=by simp[kE,List.getD,h]
def nL(key lsn:Int)(per:Nat)(l:Z8 Block)(j:Nat):Record:=
 ⟨key,lsn+j,(kE l (j / per)).n,(j%per:Nat),yG (nP (kE l (j / per)).text (j%per)),0⟩
def ip(key lsn:Int)(per:Nat)(l:Z8 Block)(j:Nat):Z8 Record:=(List.range j).map (nL key lsn per l)
theorem ml(key lsn:Int)(per:Nat)(l:Z8 Block)(j:Nat):(ip key lsn per l j).length=j:=by simp[ip]
theorem Rs(key lsn:Int)(per:Nat)(l:Z8 Block)(j:Nat):ip key lsn per l (j+1)=ip key lsn per l j++[nL key lsn per l j]:=by simp[ip,Y0]
theorem UD(key lsn:Int)(per:Nat)(l:Z8 Block){i k:Nat}{b:Block}(p:l[i]? =some b)(d:k<per): nL key lsn per l (i*per+k)=⟨key,lsn+(i*per+k:Nat),b.n,(k:Nat),yG (nP b.text k),0⟩:=by (have o:(i*per+k) / per=i:=by rw[YI,X' _ _ om,d_ d,Zo]);(have m:(i*per+k)%per=k:=by rw[YI,V_,T' d]);simp only[nL,o,m,vP p]
def qE(key lsn:Int)(m:Nat):Record:=⟨key,lsn+m,0,0,ByteArray.empty,m⟩
def i9(l:Z8 Block):Nat->Int
 |0=> -1
 |i+1=>(kE l i).n
structure BlkOk(g:Geo)(l:List Block)(i:Nat)(b:Block):Prop where
 last:i9 l i<b.n
 blocks:b.n<g.blocks
 size:(b.text.size:Int)<=g.per*256
structure OfOk(g:Geo)(key lsn:Int)(l:List Block):Prop where
 geo:cY g=true
 some_:l≠[]
 few:(l.length:Int)<=g.blocks
 lsnB:iB lsn 1099511627777=true
 blks:∀i b,l[i]? =some b->BlkOk g l i b
 recsB:∀j,j<l.length*g.per.toNat->fX (nL key lsn g.per.toNat l j)=true
 commitB:fX (qE key lsn (l.length*g.per.toNat))=true
def iN(g:Geo)(key lsn:Int)(l:Z8 Block):Z8 Record:=ip key lsn g.per.toNat l (l.length*g.per.toNat)++[qE key lsn (l.length*g.per.toNat)]
def VR(g:Geo)(key lsn:Int)(l:Z8 Block)(w:Z6)(e:Ending)(w':Z6):Prop:=
 ((OfOk g key lsn l/\ ∃v,e=.returned (.tuple #[v,I 0])/\w'.ownsRow w.heap.size 86 6 v (iN g key lsn l).length ((iN g key lsn l).flatMap Record.cells))\/
  (¬OfOk g key lsn l/\e=.returned (.tuple #[cz,I 2])))/\cH w w'
def gR:Z8 Record->Nat->Nat->Nat->Nat
 |[],_,n,_=>n
 |r::t,i,n,d=>if r.count=0 then gR t (i+1) n (d+1)else if r.count≠(d:Int)then n else gR t (i+1) (i+1) 0
def whole(l:Z8 Record):Nat:=gR l 0 0 0
theorem gX{α:Type}{l:Z8 α}{k:Nat}{x:α}(h:l[k]? =some x):l.drop k=x::l.drop (k+1):=by have d:=(List.getElem?_eq_some_iff.1 h).1;rw[YB d,(List.getElem?_eq_some_iff.1 h).2]
theorem Mb(V:Vw)(L:Z7)(l:Z8 Record)(w:Z6)(hV:V.le (vw w))(hs:SlOf V Record.cells 6 L l)(T:l.length<=eg): Rt 49 #[L] w (I (whole l)):=by
 have o:=hs.mono hV;simp only[eg]at T
 refine dU J<|QY J (yN J o)<|zA J<|ql (σ:=Nat×Nat×Nat) (λx=>[(2,.a (.v (I x.2.1))),(3,.a (.v (I x.2.2))),(6,.a (.v L)),(7,.a (.v (I l.length))),(8,.a (.v (I x.1)))]) (λ_=>[]) 0 (λ_=>vw w)
  (λx=>x.1<=l.length/\x.2.1<=x.1/\x.2.2<=x.1/\whole l=gR (l.drop x.1) x.1 x.2.1 x.2.2) (λx=>l.length - x.1) (0,0,0) ⟨Zz _,ZS _,ZS _,J⟩ ⟨J,J,J,J,J,ZY⟩ ZY J lr ?_
 rintro⟨k,n,d⟩ ⟨R,B,hd,m⟩;simp only at R B hd m;refine FT J ?_ ?_<;>intro h;{(have t:k<l.length:=by simp at h;omega);obtain⟨r,N⟩:∃r,l[k]? =some r:=⟨l[k],by simp[t]⟩;rw[gX N]at m;simp only[gR]at m;refine QY J (yI J o)<|QY J (yL k 0 J o N J)<|zA J<|Qs J<|cS J ?_ ?_<;>intro h;{have p:r.count=0:=cU h;rw[ZW p]at m;rw[cx (n:=(d:Int)+1) om om,cx om om];exact Qr (k+1,n,d+1) ⟨by simp only;omega,by simp only;omega,by simp only;omega,m⟩ (hμ:=by simp only;omega) (hs:=⟨J,J,J,J,J,ZY⟩) (hO:=trivial)};refine dv J (λu=>?_) λu=>?_;{refine cL aJ J ?_;have p: ¬r.count=0:=cU h;rw[ZX p]at m;have z:r.count≠(d:Int):=cU u;rw[ZW z]at m;intro E O M _;exact⟨by rw[m];rfl,M.below lr⟩};have p: ¬r.count=0:=cU h;rw[ZX p]at m;have z: ¬r.count≠(d:Int):=cU u;rw[ZX z]at m;rw[cx om om];exact Qr (k+1,k+1,0) ⟨by simp only;omega,by simp only;omega,by simp only;omega,m⟩ (hμ:=by simp only;omega) (hs:=⟨J,J,J,J,J,ZY⟩) (hO:=trivial)};refine cL aJ J ?_;(have y:k=l.length:=by simp at h;omega);subst y;intro E O M _;refine⟨?_,M.below lr⟩;rw[Zp]at m;rw[m];rfl
end Go.Proofs.YtlkkohkilelamaaGreat
set_option linter.unusedVariables false
set_option linter.unusedSimpArgs false
set_option maxRecDepth 100000
namespace Go.Proofs.YtlkkohkilelamaaGreat
open Go Go.Eng Go.RowKit
theorem FE{g:Geo}{key lsn:Int}{l:Z8 Block}{j:Nat}(h:j<l.length*g.per.toNat):(iN g key lsn l)[j]? =some (nL key lsn g.per.toNat l j):=by unfold iN;rw[List.getElem?_append_left (by rw[ml];exact h)];simp[ip,h]
theorem D2{g:Geo}{key lsn:Int}{l:Z8 Block}:(iN g key lsn l)[l.length*g.per.toNat]? =some (qE key lsn (l.length*g.per.toNat)):=by unfold iN;rw[List.getElem?_append_right (by rw[ml];omega),ml];simp
theorem An(g:Geo)(key lsn:Int)(l:Z8 Block):(iN g key lsn l).length=l.length*g.per.toNat+1:=by simp[iN,ml]
end Go.Proofs.YtlkkohkilelamaaGreat
set_option linter.unusedVariables false
set_option linter.unusedSimpArgs false
set_option maxRecDepth 100000
set_option maxHeartbeats 4000000
namespace Go.Proofs.YtlkkohkilelamaaGreat
open Go Go.Eng Go.RowKit
def ej(w:Int):Bool:=decide (1<=w)&&decide (w<=6)
theorem NI(n:Int)(w:Z6):Rt 137 #[I n] w (.bool (ej n)):=by refine dU J<|Tz J λ_=>rfl
def ik(k:Nat):Nat:=min (256^k - 1) 1099511627776
theorem Ud{n:Int}(h:ej n=true):n=1\/n=2\/n=3\/n=4\/n=5\/n=6:=by simp only[ej,Z1,ZV]at h;omega
def dW(n w:Int):Bool:=ej w&&decide (0<=n)&&decide (n<=ik w.toNat)
def nC(k:Int):Int:=if ej k=true then ik k.toNat else -1
def pw(k:Nat):Nat:=256^k
theorem qW(k:Nat):pw (k+1)=pw k*256:=by simp[pw,Nat.pow_succ]
theorem uc(k:Nat):1<=pw k:=Nat.pow_pos om
theorem Mj{k m:Nat}(h:k<=m):pw k<=pw m:=Nat.pow_le_pow_right om h
theorem OO:pw 6=281474976710656:=dc
theorem yM{k:Nat}(h:k<=6):pw k<=281474976710656:=OO▸Mj h
theorem zK(k:Int)(w:Z6):Rt 199 #[I k] w (I (nC k)):=by refine dU J<|dD J ?_ ?_<;>intro h;{refine Tz J λE=>?_;rw[nC,ZX (by simp[ej];omega)];rfl};obtain⟨m,o⟩:∃m:Nat,k=m:=⟨k.toNat,om⟩;subst o;refine zL [0] [] J J (σ:=Nat) (λi=>[(3,.a (.v (I (pw i)))),(4,.a (.v (I i)))]) (λi=>[]) (λi=>i<=m) (λi=>m - i) (0) om ?_;rintro i hi;refine dD J ?_ ?_<;>intro h;{have l:=yM (k:=i) om;rw[cx (n:=(pw i:Int)*256) om om,cx (n:=(i:Int)+1) om om,show(pw i:Int)*256=(pw (i+1):Int) by rw[qW];omega];refine Qr (i+1) om};have d:i=m:=om;subst d;have l:=yM (k:=i) om;have p:=uc i;rw[cx (n:=(pw i:Int) - 1) om om];refine QY J (mO J)<|zA J<|Tz J λE=>?_;rw[nC,ZW (by simp[ej];omega),ZH,ik];show Ending.returned (I (min ((pw i:Int) - 1) 1099511627776))=_;rw[show min ((pw i:Int) - 1) 1099511627776=((min (pw i - 1) 1099511627776:Nat):Int) by omega];rfl
theorem Rm(n k:Int)(w:Z6):Rt 200 #[I n,I k] w (.bool (dW n k)):=by
 refine dN J<|zC J (zK _)<|zA J<|Tz J λE=>?_;show Ending.returned (.bool (decide (0<=n)&&decide (n<=nC k)))=_;congr 2;unfold nC dW;cases d:ej k with
 |true=>simp
 |false=>simp;omega
def eW(f:Nat->Nat):Nat->Nat
 |0=>0
 |k+1=>eW f k+f k*pw k
theorem Ak{f:Nat->Nat}(d:∀j,f j<256):∀k,eW f k<pw k
 |0=>by simp[eW,pw]
 |k+1=>by
  have h1:=Ak d k
  have l:f k*pw k<=255*pw k:=Zn _ (by have:=d k;omega)
  rw[eW,qW];omega
theorem CV(k:Nat):pw k=2^(8*k):=by rw[pw,Nat.pow_mul]
theorem TX{x y k:Nat}(d:x<pw k):x|||y*pw k=x+y*pw k:=by rw[CV]at d⊢;rw[Nat.or_comm,nat_join (8*k) (y*2^(8*k)) x (Nat.mul_mod_left _ _) d,YI]
def dL(s:Z5)(at_ j:Nat):Nat:=(eb s (at_+j)).toNat
theorem l7(s:Z5)(at_ j:Nat):dL s at_ j<256:=Yi _
def cG(s:Z5)(at_ k:Int):Int×Int:=
 if ej k=false then(0,2)
 else if at_<0\/(s.size:Int)<at_\/(s.size:Int) - at_<k then(0,10)
 else if 1099511627776<eW (dL s at_.toNat) k.toNat then(0,10)
 else((eW (dL s at_.toNat) k.toNat:Nat),0)
theorem xw(s:Z5)(at_ k:Int)(hs:s.size<=maxLen)(w:Z6):Rt 96 #[S s,I at_,I k] w (.tuple #[I (cG s at_ k).1,I (cG s at_ k).2]):=by
 simp only[maxLen]at hs;refine jC J<|zC J (NI _)<|cJ J ?_ ?_<;>intro h;{refine Tz J λE=>?_;rw[cG,ZW h];rfl};have p:=h;have o: ¬at_<0-> ¬(s.size:Int)<at_->IntKind.i64.wrap ((s.size:Int) - at_)=(s.size:Int) - at_:=λl d=>cx om om;refine dD J ?_ ?_<;>intro h
 .refine Tz J λE=>?_
  rw[cG,ZX (by simp[p]),ZW (by
   by_cases l:at_<0
   . exact .inl l
   ·
    by_cases d:(s.size:Int)<at_
    . exact .inr (.inl d)
    . rw[o l d]at h;omega)]
  rfl
 rw[o om om]at h;have B:=p;simp only[ej,Z1,ZV]at B;obtain⟨m,M⟩:∃m:Nat,k=m:=⟨k.toNat,om⟩;obtain⟨b,y⟩:∃b:Nat,at_=b:=⟨at_.toNat,om⟩;subst M y;have t:=Ak (l7 s b);refine zL [0,1,30] [] J J (σ:=Nat) (λi=>[(6,.a (.v (I (eW (dL s b) i)))),(31,.a (.v (I i)))]) (λi=>[]) (λi=>i<=m) (λi=>m - i) (0) om ?_;rintro i hi;refine dD J ?_ ?_<;>intro h
 .have l:=t i;have d:=yM (k:=i+1) om;rw[qW]at d;have O:=l7 s b i;rw[cx (n:=(b:Int)+i) om om];refine QY J (iq aJ J (λz=>om))<|zA J ?_;rw[cx (n:=8*(i:Int)) om om];refine QY J (Oi J (λz=>⟨om,by show 8*(i:Int)<=64;omega⟩))<|zA J ?_
  have e:bits .or .i64 (eW (dL s b) i:Nat) (IntKind.i64.wrap (IntKind.i64.wrap (((eb s ((b:Int)+i).toNat).toNat:Nat):Int)*2^(8*(i:Int)).toNat))=((eW (dL s b) (i+1):Nat):Int):=by
   have N:dL s b i*pw i<=255*pw i:=Zn _ om;have L:((eb s ((b:Int)+i).toNat).toNat:Nat)=dL s b i:=by rw[show((b:Int)+i).toNat=b+i by omega];rfl
   rw[L,show(8*(i:Int)).toNat=8*i by omega,cx (n:=((dL s b i:Nat):Int)) om om,show(2:Int)^(8*i)=((pw i:Nat):Int) by rw[CV];simp,<-Int.natCast_mul,
    cx om om,Nu _ _ om om,TX l,eW]
  rw[e,cx (n:=(i:Int)+1) om om];refine Qr (i+1) om
 have u:i=m:=om;subst u;refine dD J ?_ ?_<;>intro h;{refine Tz J λE=>?_;rw[cG,ZX (by simp[p]),ZX om,ZW (by simp only[ZH];omega)];rfl};refine Tz J λE=>?_;rw[cG,ZX (by simp[p]),ZX om,ZX (by simp only[ZH];omega)];simp only[ZH];rfl
theorem tf(s:Z5)(at_ k:Int)(hs:s.size<=maxLen)(w:Z6):Rt 185 #[S s,I at_,I k] w (.tuple #[I (cG s at_ k).1,I (cG s at_ k).2]):=by
 simp only[maxLen]at hs;refine jC J<|zC J (zK _)<|cJ J ?_ ?_<;>intro h
 .refine Tz J λE=>?_
  have l:ej k=false:=by
   cases d:ej k with
   |false=>rfl
   |true=>rw[nC,ZW d]at h;omega
  rw[cG,ZW l];rfl
 have l:ej k=true:=by
  cases d:ej k with
  |true=>rfl
  |false=>rw[nC,ZX (by simp[d])]at h;omega
 have p: ¬at_<0-> ¬(s.size:Int)<at_->IntKind.i64.wrap ((s.size:Int) - at_)=(s.size:Int) - at_:=λu t=>cx om om;refine dD J ?_ ?_<;>intro h
 .refine Tz J λE=>?_
  rw[cG,ZX (by simp[l]),ZW (by
   by_cases u:at_<0
   . exact .inl u
   ·
    by_cases t:(s.size:Int)<at_
    . exact .inr (.inl t)
    . rw[p u t]at h;omega)]
  rfl
 rw[p om om]at h;have M:=l;simp only[ej,Z1,ZV]at M;obtain⟨m,N⟩:∃m:Nat,k=m:=⟨k.toNat,om⟩;obtain⟨b,L⟩:∃b:Nat,at_=b:=⟨at_.toNat,om⟩;subst N L;have y:=Ak (l7 s b);rw[cx (n:=(m:Int) - 1) om om];refine zL [0,1] [] J J (σ:=Nat×Nat) (λ(i,q)=>[(8,.a (.v (I q))),(9,.a (.v (I ((i:Int) - 1))))]) (λ(i,q)=>[]) (λ(i,q)=>i<=m/\q*pw i+eW (dL s b) i=eW (dL s b) m/\q<=281474976710656) (λ(i,q)=>i) ((m,0)) (⟨om,om,om⟩) ?_;rintro⟨i,q⟩ ⟨hi,d,R⟩;refine QA<|Sa<|Sx 2 [0,1,8,9,32] J J ?_ ?_<;>intro h;{refine Se<|QA<|QJ<|QC<|Yy 6 J ?_;obtain⟨j,rfl⟩:∃j,i=j+1:=⟨i - 1,om⟩;have u:=y m;have t:=yM (k:=m) om;have W:=l7 s b j;have V:=uc (j+1);rw[cx (n:=(q:Int)*256) om om,show((j+1:Nat):Int) - 1=j by omega,cx (n:=(b:Int)+j) om om];refine QY J (iq aJ J (λT=>om))<|QE 3 [0,1,8,9] J<|QM<|Qw<|QC<|Sb 3 [0,1,8,9] J ?_;(have o:(q*256+dL s b j)*pw j+eW (dL s b) j=eW (dL s b) m:=by rw[<-d,qW,eW,Y4,Nat.mul_assoc,r_ 256 (pw j)];omega);have O:q*256+dL s b j<=(q*256+dL s b j)*pw j:=J_ _ (uc j);(have e:IntKind.i64.wrap (((q:Int)*256)+IntKind.i64.wrap (((eb s ((b:Int)+j).toNat).toNat:Nat):Int))=((q*256+dL s b j:Nat):Int):=by rw[show((eb s ((b:Int)+j).toNat).toNat:Nat)=dL s b j by rw[show((b:Int)+j).toNat=b+j by omega];rfl,cx (n:=((dL s b j:Nat):Int)) om om,cx om om];omega);rw[e,cx (n:=(j:Int) - 1) om om];refine Qr ((j,q*256+dL s b j))<|⟨om,o,om⟩};have B:i=0:=om;subst B;(have z:q=eW (dL s b) m:=by simpa[eW,pw]using d);subst z;refine JO J ?_ ?_<;>intro h;{refine Tz J λE=>?_;rw[cG,ZX (by simp[l]),ZX om,ZW (by simp only[ZH];omega)];rfl};refine Tz J λE=>?_;rw[cG,ZX (by simp[l]),ZX om,ZX (by simp only[ZH];omega)];simp only[ZH];rfl
def jQ(x:Nat):Nat:=if x%2=1 then x / 2^^^2197175160 else x / 2
theorem Ri{x:Nat}(h:x<4294967296):jQ x<4294967296:=by unfold jQ;split;{exact Yx (n:=32) om om};omega
theorem QV(a b:Nat):(a^^^b) / 2=a / 2^^^b / 2:=by have:=Nat.shiftRight_xor_distrib (a:=a) (b:=b) (i:=1);simpa[Nat.shiftRight_eq_div_pow]using this
theorem WO(a b:Nat):(a^^^b)%2=(a%2+b%2)%2:=by have d:=Nat.xor_mod_two_pow (a:=a) (b:=b) (n:=1);rw[d];rcases o_ a with h|h<;>rcases o_ b with h'|h'<;>rw[h,h']<;>rfl
theorem XX(a b:Nat):jQ (a^^^b)=jQ a^^^jQ b:=by
 have d:=WO a b;unfold jQ;rw[QV]
 grind
def gq:Nat->Nat->Nat
 |0,x=>x
 |k+1,x=>jQ (gq k x)
theorem ui:∀(k:Nat) {x:Nat},x<4294967296->gq k x<4294967296
 |0,_,h=>h
 |k+1,_,h=>Ri (ui k h)
theorem IC:∀(k a b:Nat),gq k (a^^^b)=gq k a^^^gq k b
 |0,_,_=>rfl
 |k+1,a,b=>by rw[gq,IC k,XX];rfl
theorem He:∀(j k x:Nat),gq (j+k) x=gq j (gq k x)
 |0,k,x=>by rw[Zo];rfl
 |j+1,k,x=>by rw[Nat.add_right_comm,gq,He j k x];rfl
theorem ya(y:Nat):jQ (2*y)=y:=by unfold jQ;rw[ZX om];omega
theorem UT(y:Nat):gq 4 (16*y)=y:=by show jQ (jQ (jQ (jQ (16*y))))=y;rw[show 16*y=2*(2*(2*(2*y))) by omega,ya,ya,ya,ya]
theorem Ui(x:Nat):16*(x / 16)^^^x%16=x:=by have h:=nat_join 4 (16*(x / 16)) (x%16) om om;(have d:16*(x / 16)^^^x%16=16*(x / 16)|||x%16:=by apply Nat.eq_of_testBit_eq;intro i;rw[Nat.testBit_xor,Nat.testBit_or];by_cases hi:i<4;{rw[show 16*(x / 16)=2^4*(x / 16) by omega,Nat.testBit_two_pow_mul,show decide (i≥4)=false by simp;omega];simp};rw[Nat.testBit_lt_two_pow (i:=i) (Nat.lt_of_lt_of_le (by omega:x%16<2^4) (Nat.pow_le_pow_right om om))];simp);omega
theorem OY(x:Nat):x / 16^^^gq 4 (x%16)=gq 4 x:=by have:=IC 4 (16*(x / 16)) (x%16);rw[Ui,UT]at this;omega
abbrev U(n:Nat):Z7:=.int .u32 (n:Int)
def ko(x:Nat)(l:Z8 UInt8):Nat:=l.foldl (λx b=>gq 8 (x^^^b.toNat)) x
theorem LC(b:UInt8):b.toNat<4294967296:=by have:=Yi b;omega
theorem sH:∀(l:Z8 UInt8) {x:Nat},x<4294967296->ko x l<4294967296
 |[],_,h=>h
 |b::r,x,h=>sH r (ui 8 (Yx (n:=32) h (LC b)))
theorem Gp(x:Nat)(l:Z8 UInt8)(b:UInt8):ko x (l++[b])=gq 8 (ko x l^^^b.toNat):=by simp[ko]
def jA(l:Z8 UInt8):Nat:=ko 4294967295 l^^^4294967295
theorem WT(l:Z8 UInt8):jA l<4294967296:=Yx (n:=32) (sH l om) om
def rf(i:Nat):Z8 Z7:=(List.range 16).map λj=>U (if j<i then gq 4 j else 0)
def j1(x:Nat)(i:Nat):Z8 Z7:=U x::rf i
theorem Nt(x i:Nat):(j1 x i).length=17:=by simp[j1,rf]
theorem IF(x:Nat){j i:Nat}(h:j<16)(hi:j<i):((j1 x i).map A.v)[1+j]? =some (.v (U (gq 4 j))):=by rw[YI];simp[j1,rf,h,hi]
theorem Nz(x:Nat){i:Nat}(h:i<16):((j1 x i).map A.v).set (1+i) (.v (U (gq 4 i)))=(j1 x (i+1)).map A.v:=by
 apply Yc;intro j;rw[YI,List.getElem?_set];cases j with
 |zero=>simp[j1]
 |succ j=>by_cases d:j<16;{by_cases l:i=j;{subst l;simp[j1,rf,d]};rw[ZX om];have:(j<i)↔(j<i+1):=om;simp[j1,rf,d,this]};simp[j1,rf,d];omega
theorem N9{x:Nat}(h:x<4294967296): bits .xor .u32 ((x:Int) / 2^(1:Int).toNat) (bits .and .u32 2197175160 (IntKind.u32.wrap (0 - bits .and .u32 (x:Int) 1)))=(jQ x:Int):=by
 have d:bits .and .u32 (x:Int) 1=((x%2:Nat):Int):=by
  have:=u32_and_nat x 1 h om
  simp_all
 (have l:(x:Int) / 2^(1:Int).toNat=((x / 2:Nat):Int):=by simp);rw[d,l];unfold jQ;by_cases m:x%2=1;{rw[m,ZW J,show IntKind.u32.wrap (0 - ((1:Nat):Int))=4294967295 by decide,show bits .and .u32 2197175160 4294967295=((2197175160:Nat):Int) by decide+kernel,u32_xor_nat _ _ om om]};rw[show x%2=0 by omega,ZX om,show IntKind.u32.wrap (0 - ((0:Nat):Int))=0 by decide,show bits .and .u32 2197175160 0=((0:Nat):Int) by decide+kernel,u32_xor_nat _ _ om om,Nat.xor_zero]
theorem So(w:Z6):Cl 289 #[I 0] w λe w'=>∃(x:Unit) (b:Nat),e=.returned (.pointer (some ⟨b,0,none⟩))/\w.heap.size<=b/\w'.heap[b]? =some (.cells (j1 4294967295 16).toArray 415 (0,0))/\cH w w'/\True:=by refine dU J<|zL [3] [0] J J (σ:=Nat) (λi=>[(12,.a (.v (I i)))]) (λi=>[(0,.lit ((j1 4294967295 i).map .v) 415)]) (λi=>i<=16) (λi=>16 - i) (0) om ?_;rintro i hi;refine dD J ?_ ?_<;>intro h;{have d:i<16:=om;rw[show IntKind.u32.wrap (i:Int)=(i:Int)from Hq om];refine zL [3,4,12] [] J J (σ:=Nat) (λk=>[(5,.a (.v (U (gq k i)))),(17,.a (.v (I k)))]) (λk=>[]) (λk=>k<=4) (λk=>4 - k) (0) om ?_;rintro k u;refine dD J ?_ ?_<;>intro h;{have l:=ui k (x:=i) om;refine QY J (pk J (λt=>⟨dc,dc⟩))<|zA J ?_;rw[N9 l,cx om om];refine Qr (k+1) om};have o:k=4:=om;subst o;refine QY J (oP aJ (1+i) J sm (λt=>om))<|gP J J J J (Jk aJ J J J (by simp[Nt];omega)) λ_ _=>zA J ?_;rw[cx om om,Nz _ d];refine Qr (i+1) om};refine cL aJ J ?_;have d:i=16:=om;subst d;intro E w' m _;have p:=m.lit 0 _ _ J;rw[(iC E _).1]at p;refine⟨(),E.ρ 0,J,?_,p,m.below lr,ZY⟩;(rcases YM (E.ρ 0) w.heap.size with l|hge);{have:=m.off 0 _ (E.ρ 0) J J;simp[vw,l]at this};exact hge
theorem Rq(x:Nat)(Y:x<4294967296)(b:Nat)(R:Z7)(l:Z8 UInt8)(w:Z6)(W:w.heap[b]? =some (.cells (j1 x 16).toArray 415 (0,0)))(hs:SlOf ((vw w).del b) fV 1 R l)(Z:l.length<=maxLen): Cl 290 #[.pointer (some ⟨b,0,none⟩),R] w λe w'=>e=.returned (.pointer (some ⟨b,0,none⟩))/\Go.Eng.Touch (· =b) w w'/\w'.heap[b]? =some (.cells (j1 (ko x l) 16).toArray 415 (0,0)):=by simp only[maxLen]at Z;refine j5 [.a (.ptr 0 0),.a (.v R)] W Tryz.func290 J J J J<|zW J<|QY J (yN J hs)<|zA J<|zL [0,7,8] [0] J J (σ:=Nat) (λk=>[(9,.a (.v (I k)))]) (λk=>[(0,.lit ((j1 (ko x (l.take k)) 16).map .v) 415)]) (λk=>k<=l.length) (λk=>l.length - k) (0) om ?_;rintro k hk;refine dD J ?_ ?_<;>intro h;{have ⟨c,h_c⟩:=hs.at (k:=k) om;refine QY J (yI J hs)<|QY J (yL k 0 J hs h_c J)<|zA J<|Qs J<|zA J<|Rb [22] J<|QD [0,1,2,3,4,5] J ?_;have L:=sH (l.take k) Y;have hc:=Yi c;rw[Hq om,u32_xor_nat _ _ L om];have m:ko x (l.take k)^^^c.toNat<4294967296:=Yx (n:=32) L om;obtain⟨z,T⟩:∃z,ko x (l.take k)^^^c.toNat=z:=⟨_,J⟩;rw[T]at m⊢;(have u:gq 8 z=ko x (l.take (k+1)):=by rw[oX h_c,Gp,T]);(have o:∀y:Nat,y<4294967296->bits .and .u32 (y:Int) 15=((y%16:Nat):Int):=λy M=>by have:=u32_and_nat y 15 M om;rw[nat_mask4]at this;exact this);(have p:∀y:Nat,(y:Int) / 2^(4:Int).toNat=((y / 16:Nat):Int):=λy=>by simp);(have d:∀y:Nat,y<4294967296->bits .xor .u32 ((y / 16:Nat):Int) ((gq 4 (y%16):Nat):Int)=((gq 4 y:Nat):Int):=λy M=>by rw[u32_xor_nat _ _ om (ui 4 om),OY]);refine zu 6 J (pk J (λB=>⟨dc,dc⟩))<|QD [7,8,9,10,11,12,13,14,15] J ?_;rw[p,o z m];refine zu 16 J (oP aJ (1+z%16) J (by simp;omega) (λB=>om))<|zu 17 J (qg aJ J J (λB=>IF z om om))<|QD [18,19,20,21] J<|QS<|zJ 22 J<|zH J<|Rb [22] J<|QD [0,1,2,3,4,5] J ?_;rw[d z m];have t:=ui 4 m;have O:gq 4 (gq 4 z)=gq 8 z:=(He 4 4 z).symm;rw[O.symm]at u;obtain⟨y,M⟩:∃y,gq 4 z=y:=⟨_,J⟩;rw[M]at u t⊢;refine zu 6 J (pk J (λB=>⟨dc,dc⟩))<|QD [7,8,9,10,11,12,13,14,15] J ?_;rw[p,o y t];refine zu 16 J (oP aJ (1+y%16) J (by simp;omega) (λB=>om))<|zu 17 J (qg aJ J J (λB=>IF y om om))<|QD [18,19,20,21] J<|QS<|zJ 22 J<|zH J ?_;rw[d y t,u,cx om om];refine Qr (k+1) om};refine cL aJ J ?_;have N:k=l.length:=om;subst N;intro E w' V _;have ⟨h1,h2⟩:=pc V lr J J J;rw[(iC E _).1,Zx]at h2;refine⟨?_,h1,h2⟩;have X:=(V.pin 1 0 _ J).1;show Ending.returned (.pointer (some ⟨E.ρ 0,0,none⟩))=_;rw[X]
theorem Me(x:Nat)(l:x<4294967296)(b:Nat)(w:Z6){cs:Z8 Z7}(d:w.heap[b]? =some (.cells (U x::cs).toArray 415 (0,0))): Rt 291 #[.pointer (some ⟨b,0,none⟩)] w (I ((x^^^4294967295:Nat):Int)):=by refine j5 [.a (.ptr 0 0)] d Tryz.func291 J J J J<|zW J<|Qb J λE t m=>⟨?_,iI d m lr J J J⟩;have p:=u32_xor_nat 4294967295 x om l;show Ending.returned (I (IntKind.i64.wrap (bits .xor .u32 4294967295 (x:Int))))=_;have o:x^^^4294967295<4294967296:=Yx (n:=32) l om;rw[show bits .xor .u32 4294967295 (x:Int)=((4294967295^^^x:Nat):Int)from p,Nat.xor_comm,cx om om]
theorem OJ(V:Vw)(o:Z7)(l:Z8 UInt8)(w:Z6)(hV:V.le (vw w))(hs:SlOf V fV 1 o l)(u:l.length<=maxLen): Rt 248 #[I 0,o] w (I (jA l)):=by have m:=hs.mono hV;refine dN J<|QZ J (VB (λ_=>True) (λ_=>j1 4294967295 16) 415 J (FN 289) (λE w d=>So w)) λ_ _=>zA J<|QZ J (BW (λ_=>True) (λ_:Unit=>.a (.ptr 0 0)) 0 415 (λ_=>(j1 (ko 4294967295 l) 16).map .v) J (FN 290) J (λ_=>(iC E0 _).2 _) cw (λE p d t=>(Rq 4294967295 om (E.ρ 0) o l p (by rw[t,(iC E _).1]) (m.mono (d.leDel J)) u).mono λe y h=>⟨(),h.1,h.2.1,by rw[(iC E _).1];exact h.2.2,ZY⟩)) λ_ _=>zA J<|dq J (λz E p d=>Me (ko 4294967295 l) (sH l om) _ _ (cs:=rf 16) (by have h:=d.lit 0 _ _ J;rw[(iC _ _).1]at h;exact h))<|zA J<|Tz J λ_=>rfl
theorem Na(V:Vw)(d:Z7)(l:Z8 UInt8)(w:Z6)(hV:V.le (vw w))(hs:SlOf V fV 1 d l)(o:l.length<=maxLen): Rt 198 #[d] w (I (jA l)):=by refine dU J<|dq J (λt E p m=>OJ V _ l _ (hV.trans m.leV) hs o)<|zA J<|Tz J λ_=>rfl
theorem UG(x:Nat)(o:x<4294967296)(w:Z6):Rt 323 #[I x] w (I (jQ x)):=by (have l:bits .and .i64 (x:Int) 1=((x%2:Nat):Int):=by have:=KO x 1 om om;rw[nat_mask1]at this;exact this);(have d:(x:Int) / 2^(1:Int).toNat=((x / 2:Nat):Int):=by simp);refine dU J<|dD J ?_ ?_<;>intro h;{rw[l]at h;refine QY J (pk J (λm=>⟨dc,dc⟩))<|zA J<|Tz J λE=>?_;show Ending.returned (I (bits .xor .i64 ((x:Int) / 2^(1:Int).toNat) ((2197175160:Nat):Int)))=_;rw[d,DE _ _ om om,jQ,ZW om]};rw[l]at h;refine QY J (pk J (λm=>⟨dc,dc⟩))<|zA J<|Tz J λE=>?_;show Ending.returned (I ((x:Int) / 2^(1:Int).toNat))=_;rw[d,jQ,ZX om]
theorem Nc{x:Nat}(h:x<4294967296):x&&&4294967295=x:=by
 have:=Nat.and_two_pow_sub_one_eq_mod x 32
 simp_all
theorem My(x:Nat)(p:x<4294967296)(w:Z6):Rt 292 #[I x,I 1] w (I (gq 8 x)):=by (have l:bits .and .i64 (x:Int) 4294967295=(x:Int):=by have:=KO x 4294967295 om om;rw[Nc p]at this;exact this);refine dN J ?_;rw[l];refine zL [1] [] J J (σ:=Nat) (λi=>[(0,.a (.v (I (gq (8*i) x)))),(5,.a (.v (I i)))]) (λi=>[]) (λi=>i<=1) (λi=>1 - i) (0) om ?_;rintro i hi;refine dD J ?_ ?_<;>intro h;{have o:i=0:=om;subst o;refine zL [1,5] [] J J (σ:=Nat) (λk=>[(0,.a (.v (I (gq k x)))),(6,.a (.v (I k)))]) (λk=>[]) (λk=>k<=8) (λk=>8 - k) (0) om ?_;rintro k u;refine dD J ?_ ?_<;>intro h;{refine zC J (UG _ (ui k p))<|zA J ?_;rw[cx om om];refine Qr (k+1) om};have m:k=8:=om;subst m;refine Qr (1) om};refine cL aJ J ?_;have d:i=1:=om;subst d;intro E y t _;refine⟨?_,t.below lr⟩;rfl
theorem Ns(V:Vw)(t:Z7)(l:Z8 UInt8)(w:Z6)(hV:V.le (vw w))(hs:SlOf V fV 1 t l)(y:l.length<=maxLen): Rt 249 #[I 0,t] w (I (jA l)):=by have d:=hs.mono hV;simp only[maxLen]at y;refine dN J ?_;rw[show bits .xor .i64 (bits .and .i64 0 4294967295) 4294967295=((4294967295:Nat):Int) by decide+kernel];refine zL [1] [] J J (σ:=Nat) (λi=>[(5,.a (.v (I (ko 4294967295 (l.take i))))),(6,.a (.v (I i)))]) (λi=>[]) (λi=>i<=l.length) (λi=>l.length - i) (0) om ?_;rintro i hi;refine zB J<|QY J (yN J d)<|cJ J ?_ ?_<;>intro h;{have ⟨c,h_c⟩:=d.at (k:=i) om;refine QY J (yI J d)<|QY J (yL i 0 J d h_c J)<|zA J ?_;have m:=sH (l.take i) (x:=4294967295) om;have B:=Yi c;have o:ko 4294967295 (l.take i)^^^c.toNat<4294967296:=Yx (n:=32) m om;rw[cx om om,DE _ _ om om];refine zC J (My _ o)<|zA J ?_;rw[cx om om,<-Gp,<-oX h_c];refine Qr (i+1) om};refine cL aJ J ?_;have p:i=l.length:=om;subst p;intro E z u _;refine⟨?_,u.below lr⟩;rw[Zx];have m:=sH l (x:=4294967295) om;have:=DE (ko 4294967295 l) 4294967295 om om;show Ending.returned (I (bits .xor .i64 (ko 4294967295 l:Nat) ((4294967295:Nat):Int)))=_;rw[this];rfl
theorem Wq(V:Vw)(d:Z7)(l:Z8 UInt8)(w:Z6)(hV:V.le (vw w))(hs:SlOf V fV 1 d l)(o:l.length<=maxLen): Rt 201 #[d] w (I (jA l)):=by refine dU J<|dq J (λt E p m=>Ns V _ l _ (hV.trans m.leV) hs o)<|zA J<|Tz J λ_=>rfl
def ij(n j:Nat):Z8 UInt8:=(List.range j).map λi=>UInt8.ofNat (n / pw i%256)
def db(k n:Int):Z8 UInt8:=ij n.toNat k.toNat
theorem Oc(n j:Nat):ij n (j+1)=ij n j++[UInt8.ofNat (n / pw j%256)]:=by simp[ij,Y0]
theorem gQ(n j:Nat):(ij n j).length=j:=by simp[ij]
theorem qn(n:Nat):(UInt8.ofNat (n%256)).toNat=n%256:=by simp
def io(k:Int)(ls:Z8 Int):Bool:=ej k&&ls.all λn=>dW n k
def dQ(bl:Z8 UInt8)(k:Int)(ls:Z8 Int):Z8 UInt8:=bl++ls.flatMap (db k)
theorem XP(L:Z8 UInt8)(b:UInt8):L.flatMap fV++[.int .u8 b.toNat]=(L++[b]).flatMap fV:=by simp
def L9(bl:Z8 UInt8)(k:Int)(ls:Z8 Int)(w:Z6)(e:Ending)(w':Z6):Prop:=
 ((io k ls=true/\ ∃v,e=.returned (.tuple #[v,I 0])/\w'.ownsRow w.heap.size 5 1 v (dQ bl k ls).length ((dQ bl k ls).flatMap fV))\/
  (io k ls=false/\e=.returned (.tuple #[cz,I 2])))/\cH w w'
theorem RK{k:Int}{ls:Z8 Int}{i:Nat}{n:Int}(d:ls[i]? =some n)(h:dW n k=false):io k ls=false:=by have:(ls.all λn=>dW n k)=false:=Lg d h;rw[io,this,YD]
theorem BD(V:Vw)(bv:Z7)(d:Z8 UInt8)(k:Int)(lv:Z7)(ls:Z8 Int)(w:Z6)(hV:V.le (vw w))(hb:SlOf V fV 1 bv d)(hl:SlOf V cB 1 lv ls) (ai:d.length<=1099511627776) (af:ls.length<=1099511627776):Cl 138 #[bv,I k,lv] w (L9 d k ls w):=by
 have a5:=hb.mono hV;have o:=hl.mono hV;refine jC J<|zC J (zK _)<|cJ J ?_ ?_<;>intro h
 .refine cL aJ J ?_
  have O:ej k=false:=by
   cases N:ej k with
   |false=>rfl
   |true=>rw[nC,ZW N]at h;omega
  intro E w' t _;exact⟨.inr ⟨by rw[io,O];rfl,J⟩,t.below lr⟩
 have O:ej k=true:=by
  cases N:ej k with
  |true=>rfl
  |false=>rw[nC,ZX (by simp[N])]at h;omega
 have hk:=O;simp only[ej,Z1,ZV]at hk;obtain⟨m,rfl⟩:∃m:Nat,k=m:=⟨k.toNat,om⟩;clear h;refine iD 15 5 1 J J<|QZ J (cQ aJ (d.flatMap fV) J (λE w t=>a5.sl.src t.get) (λ_ _ _=>sS _) od) λ_ _=>zA J ?_;rw[Zo d.length,ZB];(have e0:dQ d m (ls.take 0)=d:=by simp[dQ]);refine zL [1,2] [1] J J (σ:=Nat) (λi=>[(8,.a (.row 1)),(9,.a (.v (I i)))]) (λi=>[(1,.row 5 1 (dQ d m (ls.take i)).length ((dQ d m (ls.take i)).flatMap fV))]) (λi=>i<=ls.length/\(∀j n,j<i->ls[j]? =some n->dW n m=true)/\(dQ d m (ls.take i)).length<=d.length+6*i) (λi=>ls.length - i) (0) (⟨om,om,by simp[dQ]⟩) ?_ (hs:=by repeat (first|exact dT.nil|refine dT.cons J ?_|refine dT.cons (by simp only[e0];first|done|rfl) ?_)) (hO:=by repeat (first|exact dm.nil|refine dm.cons J ?_|refine dm.cons (by simp only[e0];first|done|rfl) ?_));rintro i ⟨hi,y,ae⟩;refine zB J<|QY J (yN J o)<|cJ J ?_ ?_<;>intro h;{have ⟨n,h_n⟩:=o.at (k:=i) om;have W:=cC h_n;refine QY J (yI J o)<|QY J (yL i 0 J o h_n J)<|zA J<|zC J (Rm _ _)<|cJ J ?_ ?_<;>intro h;{refine Qb J λE w' t=>?_;exact⟨.inr ⟨RK h_n h,J⟩,t.below lr⟩};have hf:=h;clear h;have B:=hf;simp only[dW,Z1,ZV]at B;obtain⟨⟨_,aj⟩,R⟩:=B;obtain⟨q,rfl⟩:∃q:Nat,n=q:=⟨n.toNat,om⟩;(have N:q<=1099511627776:=by unfold ik at R;omega);have p:=cC h_n;refine QY J (yI J o)<|QY J (dy aJ (i) 0 ((q:Int)) J (λT=>o) (λT=>h_n) J J)<|zA J ?_;(have ep:q / pw 0=q:=by simp[pw]);have el:ij q 0=[]:=rfl;refine zL [1,2,9] [1] J J (σ:=Nat) (λj=>[(8,.a (.row 1)),(10,.a (.v (I (q / pw j:Nat)))),(11,.a (.v (I j)))]) (λj=>[(1,.row 5 1 (dQ d m (ls.take i)++ij q j).length ((dQ d m (ls.take i)++ij q j).flatMap fV))]) (λj=>j<=m) (λj=>m - j) (0) om ?_ (hs:=by repeat (first|exact dT.nil|refine dT.cons J ?_|refine dT.cons (by simp only[ep,el,Zb];first|done|rfl) ?_)) (hO:=by repeat (first|exact dm.nil|refine dm.cons J ?_|refine dm.cons (by simp only[ep,el,Zb];first|done|rfl) ?_));rintro j hj;refine dD J ?_ ?_<;>intro h;{have Z:q / pw j<=q:=Nat.div_le_self _ _;(have L:q / pw (j+1)=q / pw j / 256:=by rw[qW,Nat.div_div_eq_div_mul]);have z:=Oc q j;obtain⟨r,hr⟩:∃r,q / pw j=r:=⟨_,J⟩;rw[hr]at Z z L⊢;refine QY J (pZ J (λT=>dc))<|zA J ?_;rw[U' om,show(r:Int)%256=((r%256:Nat):Int) by omega,Um (n:=r%256) om,<-qn];refine QZ J (cX aJ 1 J J J) λ_ _=>QZ J (cQ aJ [.int .u8 (UInt8.ofNat (r%256)).toNat] J (λE w t=>dZ (t.row 2 _ _ _ _ J)) (λ_ _ _=>sS [_]) (by dsimp only;simp only[ZQ,gQ];omega)) λ_ _=>zA J ?_;rw[XP,Zc,<-z,show(dQ d m (ls.take i)++ij q j).length+1=(dQ d m (ls.take i)++ij q (j+1)).length by simp only[ZQ,gQ];omega];refine dx 1 3 J<|QY J (vT J (λT=>dc))<|zA J ?_;rw[Int.tdiv_eq_ediv_of_nonneg om,show(r:Int) / 256=((r / 256:Nat):Int) by omega,cx (n:=((r / 256:Nat):Int)) om om,<-L,cx (n:=(j:Int)+1) om om];refine Qr (j+1) om};have X:j=m:=om;subst X;(have u:dQ d j (ls.take i)++ij q j=dQ d j (ls.take (i+1)):=by rw[oX h_n,dQ,dQ,ZF,Zc];simp[db]);(have M:(dQ d j (ls.take (i+1))).length<=d.length+6*(i+1):=by rw[<-u,ZQ,gQ];omega);rw[u,cx (n:=(i:Int)+1) om om];refine Qr (i+1)<|⟨om,nH h_n y hf,M⟩};refine cL aJ J ?_;have Y:i=ls.length:=om;subst Y;rw[Zx];intro E w' t _;(have a0:io m ls=true:=by rw[io,O,ZI];exact Ko y);exact⟨.inl ⟨a0,E.κ 1,J,t.rowFresh lr (l:=1) J⟩,t.below lr⟩
theorem XZ{n:Nat}(h:n<=505):io 2 [(n:Int)]=true:=by have:ik (2:Int).toNat=65535:=dc;simp only[io,g_,List.all_nil,YE,dW,this];simp[ej];omega
def body(k:UInt8)(load:Z8 UInt8):Z8 UInt8:=dQ [k] 2 [(load.length:Int)]++load
def gH(k:UInt8)(load:Z8 UInt8):Z8 UInt8:=body k load++ij (jA (body k load)) 4
theorem Gc(k:UInt8)(d:Z8 UInt8):body k d=k::UInt8.ofNat (d.length / pw 0%256)::UInt8.ofNat (d.length / pw 1%256)::d:=by simp[body,dQ,db,ij,Y0]
theorem K7(k:UInt8)(d:Z8 UInt8):(body k d).length=3+d.length:=by rw[Gc];simp;omega
theorem pz(k:UInt8)(d:Z8 UInt8):(gH k d).length=7+d.length:=by rw[gH,ZQ,K7,gQ];omega
def fh(kind:Int):UInt8:=UInt8.ofNat kind.toNat
def iz(kind:Int)(s:Z5):Z5×Int:=
 if kind<1\/505<s.size then(ByteArray.empty,2)else(cN (gH (fh kind) s.data.toList),0)
theorem zj(a b:Z5):(a.toList==b.toList)=decide (a.data.toList=b.data.toList):=by
 rw[S_,S_]
 grind
theorem lD{a b:Z5}(h:a.data.toList=b.data.toList):a=b:=by
 apply ByteArray.ext
 simp_all
theorem ll(s:Z5):s.data.toList.length=s.size:=sm
section
variable{o:Oper}{n:Nat}{F:cy}{C:Z8 Nat}{O:Go.Eng.Own}{nl:Nat}{V:Vw}
theorem qU{p:Z8 (Nat×Bool)}(l:Z8 UInt8)(k:Int)(ls:Z8 Int){L:Z8 SV}(N:fL F p o.op=some (138,L))(u:io k ls=true) (B:l.length<=1099511627776) (z:ls.length<=1099511627776) (d:∀E w,Mem E O nl V w-> ∃bv lv,L.map (SV.den E)=[bv,I k,lv]/\SlOf (vw w) fV 1 bv l/\SlOf (vw w) cB 1 lv ls): StepTo bJ o p n F C O nl V (σ:=Unit) (λ_=>True) (λ_=>.tup [.row nl,.v (I 0)]) (λ_=>(nl,.row 5 1 (dQ l k ls).length ((dQ l k ls).flatMap fV))::O) (nl+1) (λ_=>V):=by refine vd (λ_=>True) (λ_=>.tup [.row nl,.v (I 0)]) 5 1 (λ_=>(dQ l k ls).length) (λ_=>(dQ l k ls).flatMap fV) N (FN 138) (λ_=>by simp[SV.ok,dH,A.ok,eD]) ?_;intro E w M;have ⟨bv,lv,ha,hb,hl⟩:=d E w M;rw[ha];refine(BD (vw w) bv l k lv ls w lr hb hl B z).mono ?_;rintro e R ⟨⟨_,v,rfl,t⟩|⟨m,_⟩,y⟩;{exact⟨(),v,by simp[SV.den,A.den,Env.setκ],t,y,ZY⟩};rw[u]at m;cases m
end
theorem yS{c j:Nat}{d:Int}(hd:d=((c / pw j:Nat):Int)):IntKind.u8.wrap d=(((UInt8.ofNat (c / pw j%256)).toNat:Nat):Int):=by obtain⟨r,l⟩:∃r,c / pw j=r:=⟨_,J⟩;rw[l,IntKind.wrap_u8',qn];omega
theorem xU(kind:Int)(M:R8 kind)(s:Z5)(hs:s.size<=maxLen)(w:Z6): Rt 139 #[I8 kind,S s] w (.tuple #[S (iz kind s).1,I (iz kind s).2]):=by unfold R8 at M;simp only[maxLen]at hs;refine dN J<|dD J ?_ ?_<;>intro h;{refine Tz J λE=>?_;rw[iz,ZW om];rfl};have ⟨h1,h2⟩:=h;have u:=ll s;(have t:(fh kind).toNat=kind.toNat:=by rw[fh,X9];omega);rw[show IntKind.u8.wrap kind=(((fh kind).toNat:Nat):Int) by rw[t,IntKind.wrap_u8'];omega];refine QZ J (cX aJ 1 J J J) λ_ _=>zA J<|QZ J (cX aJ 1 J J J) λ_ _=>QZ J (qU [fh kind] 2 [(s.size:Int)] J (XZ om) sm sm (λE w m=>⟨_,_,J,m.rowOf (L:=[fh kind]) 0 J cw,m.rowOf (enc:=cB) (L:=[(s.size:Int)]) 1 J cw⟩)) λ_ _=>zA J<|zA J ?_;(have y:(dQ [fh kind] 2 [(s.size:Int)]).length=3:=by simp[dQ,db,gQ]);refine QZ J (cQ aJ (rJ s) J (λ_ _ _=>Src.str s) (λ_ _ _=>by rw[GJ];exact sS _) (by dsimp only;rw[y];omega)) λ_ _=>zA J ?_;rw[GJ,<-ZF,<-u,<-ZQ,show dQ [fh kind] 2 [(s.data.toList.length:Int)]++s.data.toList=body (fh kind) s.data.toList from J];have p:=K7 (fh kind) s.data.toList;obtain⟨B,z⟩:∃B,body (fh kind) s.data.toList=B:=⟨_,J⟩;rw[z]at p⊢;refine dq J (λo E O m=>Wq _ _ B _ lr (m.rowOf 3 J cw) (by simp only[maxLen];omega))<|zA J ?_;(have l:∀(j:Nat) (e:Int),e.toNat=8*j->((jA B:Nat):Int) / 2^e.toNat=((jA B / pw j:Nat):Int):=λj e N=>by rw[N,CV];norm_cast);refine QY J (pk J (λo=>⟨dc,dc⟩))<|zA J<|QY J (pk J (λo=>⟨dc,dc⟩))<|zA J<|QY J (pk J (λo=>⟨dc,dc⟩))<|zA J ?_;rw[yS (d:=((jA B:Nat):Int)) (c:=jA B) (j:=0) (by simp[pw]),yS (c:=jA B) (j:=1) (l 1 8 J),yS (c:=jA B) (j:=2) (l 2 16 J),yS (c:=jA B) (j:=3) (l 3 24 J)];refine QZ J (cX aJ 1 J J J) λ_ _=>QZ J (cQ aJ ((ij (jA B) 4).flatMap fV) J (λE w m=>dZ (m.row 4 _ _ _ _ J)) (λ_ _ _=>sS _) od) λ_ _=>?_;rw[<-ZF];refine QY J (cW (s:=.a (.v (.string (cN (B++ij (jA B) 4))))) 5 J J (λv R hs=>oY aJ _ J (λo=>by rw[ZQ,gQ];exact hs)))<|zA J<|Tz J λE=>?_;rw[iz,ZX om,gH,z];rfl
def gN(s:Z5):Z5:=s.extract 3 (s.size - 4)
def gu(s:Z5):Bool:=decide (7<=s.size)&&decide (s.size<=512)&&decide (1<=(eb s 0).toNat)&&decide ((eb s 0).toNat<=127)&&decide (gH (eb s 0) (gN s).data.toList=s.data.toList)
def nQ(s:Z5):Int:=if gu s=true then((eb s 0).toNat:Int)else 0
def mJ(s:Z5):Z5:=if gu s=true then gN s else ByteArray.empty
def ny(s:Z5):Int:=if gu s=true then 0 else 30
theorem Ny(s:Z5)(hs:s.size<=maxLen)(w:Z6): Rt 184 #[S s] w (.tuple #[I8 (nQ s),S (mJ s),I (ny s)]):=by simp only[maxLen]at hs;refine dU J<|QY J (iq aJ J (λm=>by simp at m;omega))<|zA J<|QY J (iq aJ J (λm=>by simp at m;omega))<|cJ J ?_ ?_<;>intro h;{refine Tz J λE=>?_;(have o:gu s=false:=by rw[Zi];intro L;simp only[gu,Z1,ZV]at L;have t:(eb s (0:Int).toNat).toNat=(eb s 0).toNat:=rfl;omega);rw[nQ,mJ,ny,o];rfl};refine ez mixed kr<|Dm 1 J ?_;obtain⟨⟨⟨N,M⟩,B⟩,z⟩:=h;have t:(eb s (0:Int).toNat).toNat=(eb s 0).toNat:=rfl;rw[t]at B z;refine Qd J (iq aJ J (λm=>om))<|Dm 5 J ?_;rw[t,show IntKind.i8.wrap (((eb s 0).toNat:Nat):Int)=(((eb s 0).toNat:Nat):Int) by simp[IntKind.wrap,IntKind.bits,IntKind.signed];omega,cx om om];refine Qd J (pF aJ J (λm=>by simp;omega))<|Dm 2 J<|zD J ?_;rw[show s.extract ((some (3:Int)).getD 0).toNat ((some ((s.size:Int) - 4)).getD (s.size:Int)).toNat=gN s by simp;congr 1;omega];(have u:(gN s).size=s.size - 7:=by rw[gN,YS];omega);(have l:iz (((eb s 0).toNat:Nat):Int) (gN s)=(cN (gH (eb s 0) (gN s).data.toList),0):=by rw[iz,ZX om];simp[fh]);(have d:gu s=decide (gH (eb s 0) (gN s).data.toList=s.data.toList):=by rw[gu,ZD (show 7<=s.size by omega),ZD (show s.size<=512 by omega),ZD (show 1<=(eb s 0).toNat by omega),ZD (show(eb s 0).toNat<=127 by omega)];rfl);refine zC J (xU _ (by unfold R8;omega) (gN s) (by rw[u];simp only[maxLen];omega))<|cS J ?_ ?_<;>intro h;{refine cL aJ J ?_;rw[l,zj,iY]at h;simp at h;intro E y p _;refine⟨?_,p.below lr⟩;rw[nQ,mJ,ny,ZX (by simp[d,h]),ZX (by simp[d,h]),ZX (by simp[d,h])];rfl};refine cL aJ J ?_;rw[l,zj,iY]at h;simp at h;intro E y p _;refine⟨?_,p.below lr⟩;rw[nQ,mJ,ny,ZW (by simp[d,h]),ZW (by simp[d,h]),ZW (by simp[d,h])];rfl
def gO(kind:Int)(s:Z5):Bool:=gu s&&decide (((eb s 0).toNat:Int)=kind)
def gF(kind:Int)(s:Z5):Z5:=if gO kind s=true then gN s else ByteArray.empty
def i3(kind:Int)(s:Z5):Int:=if gO kind s=true then 0 else 30
theorem yd(kind:Int)(s:Z5):((ny s !=0)||(nQ s !=kind))= !gO kind s:=by
 unfold gO ny nQ
 grind
theorem IB(kind:Int)(s:Z5)(hs:s.size<=maxLen)(w:Z6): Rt 116 #[I8 kind,S s] w (.tuple #[S (gF kind s),I (i3 kind s)]):=by refine dN J<|zC J (Ny s hs)<|cS J ?_ ?_<;>intro h;{refine cL aJ J ?_;rw[yd]at h;simp at h;intro E m d _;refine⟨?_,d.below lr⟩;rw[gF,i3,ZX (by simp[h]),ZX (by simp[h])];rfl};refine cL aJ J ?_;rw[yd]at h;simp at h;(have l:gu s=true:=by rw[gO,Z1]at h;exact h.1);intro E m d _;refine⟨?_,d.below lr⟩;rw[gF,i3,ZW h,ZW h];show Ending.returned (.tuple #[S (mJ s),I 0])=_;rw[mJ,ZW l]
theorem FL(f:Nat->Nat):eW f 2=f 0+f 1*256:=by simp[eW,pw]
theorem Kh(f:Nat->Nat):eW f 4=f 0+f 1*256+f 2*65536+f 3*16777216:=by simp[eW,pw]
theorem PQ(s:Z5):cG s 1 2=if s.size<3 then(0,10)else(((dL s 1 0+dL s 1 1*256:Nat):Int),0):=by have l:=l7 s 1 0;have d:=l7 s 1 1;rw[cG,ZX dc];by_cases h:s.size<3;{rw[ZW om,ZW h]};rw[ZX om,ZX h];show(if 1099511627776<eW (dL s 1) 2 then _ else _)=_;rw[FL,ZX om];show(((eW (dL s 1) 2:Nat):Int),(0:Int))=_;rw[FL]
theorem S5(s:Z5)(n:Nat)(h:n+4<=s.size):cG s n 4=(((dL s n 0+dL s n 1*256+dL s n 2*65536+dL s n 3*16777216:Nat):Int),0):=by have m:=l7 s n 0;have l:=l7 s n 1;have d:=l7 s n 2;have o:=l7 s n 3;rw[cG,ZX dc,ZX om];show(if 1099511627776<eW (dL s ((n:Int)).toNat) 4 then _ else _)=_;rw[ZH,Kh,ZX om];show(((eW (dL s n) 4:Nat):Int),(0:Int))=_;rw[Kh]
theorem p8(s:Z5)(i:Nat):eb s i=s.data.toList.getD i 0:=by simp[eb,List.getD]
theorem parts(L:Z8 UInt8)(h:7<=L.length):∃b0 b1 b2 load c0 c1 c2 c3,L=b0::b1::b2::(load++[c0,c1,c2,c3])/\load.length=L.length - 7:=by
 match L,h with
 |b0::b1::b2::r,h=>
  (have d:4<=r.length:=by simp at h;omega);have e:=YQ (r.length - 4) r;have hd:(r.drop (r.length - 4)).length=4:=by simp;omega
  match hq:r.drop (r.length - 4),hd with
  |[c0,c1,c2,c3],_=>exact⟨b0,b1,b2,r.take (r.length - 4),c0,c1,c2,c3,by rw[<-hq,e],sm⟩
theorem Mt{c:Nat}(p:c<4294967296)(d c1 c2 c3:UInt8):ij c 4=[d,c1,c2,c3]↔d.toNat+c1.toNat*256+c2.toNat*65536+c3.toNat*16777216=c:=by have o:=Yi d;have m:=Yi c1;have l:=Yi c2;(have e:ij c 4=[UInt8.ofNat (c%256),UInt8.ofNat (c / 256%256),UInt8.ofNat (c / 65536%256),UInt8.ofNat (c / 16777216%256)]:=by simp[ij,Y0,pw]);rw[e];simp;rw[<-Ye,<-Ye,<-Ye,<-Ye,qn,qn,qn,qn];omega
def u6(s:Z5):Bool:=
 decide (3<=s.size)&&decide (s.size=7+(dL s 1 0+dL s 1 1*256))&&decide (dL s 1 0+dL s 1 1*256<=505)&&decide (1<=(eb s 0).toNat)&&decide ((eb s 0).toNat<=127)&&
  decide (dL s (s.size - 4) 0+dL s (s.size - 4) 1*256+dL s (s.size - 4) 2*65536+dL s (s.size - 4) 3*16777216=jA (s.data.toList.take (s.size - 4)))
theorem Ik(s:Z5):u6 s=gu s:=by have E:=ll s;by_cases B:7<=s.size;{have ⟨b0,b1,b2,load,c0,c1,c2,c3,hL,hlen⟩:=parts s.data.toList om;(have m:∀i,eb s i=(b0::b1::b2::(load++[c0,c1,c2,c3])).getD i 0:=λi=>by rw[p8,hL]);(have L:eb s 0=b0:=by rw[m];rfl);(have y:dL s 1 0=b1.toNat:=by rw[dL,m];rfl);(have w:dL s 1 1=b2.toNat:=by rw[dL,m];rfl);(have dc:∀j,dL s (s.size - 4) j=([c0,c1,c2,c3].getD j 0).toNat:=λj=>by rw[dL,m,show s.size - 4+j=(load.length+j)+3 by omega];simp only[List.getD,List.getElem?_cons_succ];rw[List.getElem?_append_right om,I']);(have d:(gN s).data.toList=load:=by rw[gN,YL,YG,YX,hL,show s.size - 4 - 3=load.length by omega];simp);(have l:s.data.toList.take (s.size - 4)=b0::b1::b2::load:=by rw[hL,show s.size - 4=load.length+3 by omega];simp);unfold u6 gu;rw[L,y,w,dc,dc,dc,dc,d,l,hL];have N:=Yi b1;(have key:gH b0 load=b0::b1::b2::(load++[c0,c1,c2,c3])↔b1.toNat+b2.toNat*256=load.length%65536/\ij (jA (b0::b1::b2::load)) 4=[c0,c1,c2,c3]:=by rw[gH,Gc];(have t:UInt8.ofNat (load.length / pw 0%256)=b1↔load.length%256=b1.toNat:=by rw[<-Ye,qn];simp[pw]);(have p:UInt8.ofNat (load.length / pw 1%256)=b2↔load.length / 256%256=b2.toNat:=by rw[<-Ye,qn];simp[pw]);simp only[YY,Yt,true_and,List.append_cancel_left_eq,t,p];constructor;{rintro⟨u,o,M⟩;refine⟨om,?_⟩;rw[<-t.2 u,<-p.2 o];exact M};rintro⟨u,o⟩;refine⟨om,om,?_⟩;rw[t.2 om,p.2 om];exact o);rw[Ze];simp only[Z1,ZV,key,Mt (WT _)];simp only[List.getD_cons_zero,List.getD_cons_succ];omega};(have z:gu s=false:=by rw[gu,Yd B];rfl);rw[z,Zi];intro O;simp only[u6,Z1,ZV]at O;omega
theorem XF(s:Z5)(hs:s.size<=maxLen)(w:Z6): Rt 136 #[S s] w (.tuple #[I8 (nQ s),S (mJ s),I (ny s)]):=by
 have L:=hs;simp only[maxLen]at L;have O:(eb s (0:Int).toNat).toNat=(eb s 0).toNat:=rfl;refine dU J ?_;have T:=l7 s 1 0;have V:=l7 s 1 1;(obtain⟨n,e,z,X⟩:∃(n:Nat) (e:Int),cG s 1 2=((n:Int),e)/\n<=65535/\((s.size<3/\e=10)\/(3<=s.size/\n=dL s 1 0+dL s 1 1*256/\e=0)):=by rw[PQ];by_cases h:s.size<3;{rw[ZW h];exact⟨0,10,J,om,.inl ⟨h,J⟩⟩};rw[ZX h];exact⟨_,0,J,om,.inr ⟨om,J,J⟩⟩);refine zC J (xw s 1 2 hs)<|zA J ?_;rw[z];dsimp only;rw[cx (n:=3+(n:Int)) om om,cx (n:=3+(n:Int)+4) om om];refine QY J (iq aJ J (λd=>by simp at d;omega))<|zA J<|QY J (iq aJ J (λd=>by simp at d;omega))<|cJ J ?_ ?_<;>intro h;{refine Tz J λE=>?_;(have B:gu s=false:=by rw[<-Ik,Zi];intro Z;simp only[u6,Z1,ZV]at Z;omega);rw[nQ,mJ,ny,B];rfl};rw[O]at h;have Y:n=dL s 1 0+dL s 1 1*256/\s.size=7+n/\n<=505/\1<=(eb s 0).toNat/\(eb s 0).toNat<=127:=om;have ⟨hn1,hn2,hn3,hk1,hk2⟩:=Y;rw[show IntKind.i64.wrap (3+(n:Int))=((3+n:Nat):Int) by rw[cx om om];omega]
 have l:gu s=decide (dL s (3+n) 0+dL s (3+n) 1*256+dL s (3+n) 2*65536+dL s (3+n) 3*16777216=jA (s.data.toList.take (3+n))):=by
  rw[<-Ik,u6,ZD (show 3<=s.size by omega),ZD (show s.size=7+(dL s 1 0+dL s 1 1*256) by omega),ZD (show dL s 1 0+dL s 1 1*256<=505 by omega),ZD (show 1<=(eb s 0).toNat by omega),ZD (show(eb s 0).toNat<=127 by omega),
   show s.size - 4=3+n by omega]
  simp only[ZI]
 obtain⟨y,o⟩:∃y,dL s (3+n) 0+dL s (3+n) 1*256+dL s (3+n) 2*65536+dL s (3+n) 3*16777216=y:=⟨_,J⟩;have p:=S5 s (3+n) om;rw[o]at l p;refine zC J (xw s ((3+n:Nat):Int) 4 hs)<|zA J ?_;rw[p];dsimp only;rw[show IntKind.i64.wrap (3+(n:Int))=((3+n:Nat):Int) by rw[cx om om];omega];refine QY J (pF aJ J (λd=>by simp only[Option.getD];omega))<|QZ J (Wn aJ J) λx N=>?_;(have W:(s.extract (none.getD 0:Int).toNat ((some ((3+n:Nat):Int)).getD (s.size:Int)).toNat).data.toList=s.data.toList.take (3+n):=by simp only[Option.getD,ZH];rw[YL,YG,YX];simp);rw[W]at N;have m:=N.1;(have M:(s.data.toList.take (3+n)).length=3+n:=by rw[ZL,ll];omega);refine dq J (λd E w1 u=>Na x.2 _ (s.data.toList.take (3+n)) _ u.leV N.2 (by rw[M];simp only[maxLen];omega))<|cJ J ?_ ?_<;>intro h;{refine cL aJ J ?_;(have t:gu s=false:=by rw[l];simp;omega);intro E R u _;refine⟨?_,u.below (m)⟩;rw[nQ,mJ,ny,t];rfl};refine ez mixed kr<|Dm 1 J ?_;(have t:gu s=true:=by rw[l];simp;omega);refine Qd J (iq aJ J (λd=>om))<|Dm 4 J ?_;rw[O,show IntKind.i8.wrap (((eb s 0).toNat:Nat):Int)=(((eb s 0).toNat:Nat):Int) by simp[IntKind.wrap,IntKind.bits,IntKind.signed];omega];rw[show IntKind.i64.wrap (3+(n:Int))=((3+n:Nat):Int) by rw[cx om om];omega];refine Qd J (pF aJ J (λd=>by simp only[Option.getD];omega))<|Dm 3 J<|zD J<|Qb J λE R u=>⟨?_,u.below (m)⟩;rw[nQ,mJ,ny,ZW t,ZW t,ZW t];show Ending.returned (.tuple #[I8 (eb s 0).toNat,S (s.extract 3 (3+n)),I 0])=_;rw[gN,show s.size - 4=3+n by omega]
theorem Ij(kind:Int)(s:Z5)(hs:s.size<=maxLen)(w:Z6): Rt 95 #[I8 kind,S s] w (.tuple #[S (gF kind s),I (i3 kind s)]):=by refine dN J<|zC J (XF s hs)<|cS J ?_ ?_<;>intro h;{refine cL aJ J ?_;rw[yd]at h;simp at h;intro E m d _;refine⟨?_,d.below lr⟩;rw[gF,i3,ZX (by simp[h]),ZX (by simp[h])];rfl};refine cL aJ J ?_;rw[yd]at h;simp at h;(have l:gu s=true:=by rw[gO,Z1]at h;exact h.1);intro E m d _;refine⟨?_,d.below lr⟩;rw[gF,i3,ZW h,ZW h];show Ending.returned (.tuple #[S (mJ s),I 0])=_;rw[mJ,ZW l]
def fj(s:Z5)(k:Nat):Z5:=s.extract k s.size
theorem nB(s:Z5)(k:Nat):(fj s k).data.toList=s.data.toList.drop k:=by rw[fj,YL,YG,YX];rw[ZG (by rw[Zk,ll];omega)]
theorem ud(s:Z5)(k:Nat):(fj s k).size=s.size - k:=by rw[<-ll,nB,Zk,ll]
theorem xg(s:Z5)(a b:Nat):fj (fj s a) b=fj s (a+b):=by apply lD;rw[nB,nB,nB,Yu]
theorem BI(s:Z5):fj s 0=s:=by apply lD;rw[nB,List.drop_zero]
theorem Ng(s:Z5)(a j:Nat):dL (fj s a) 0 j=dL s a j:=by rw[dL,dL,p8,p8,nB];simp
theorem Wx{f g:Nat->Nat}(h:∀j,f j=g j)(k:Nat):eW f k=eW g k:=by rw[funext h]
theorem wU(s:Z5){a:Nat}(d:a<=s.size)(k:Int):cG (fj s a) 0 k=cG s a k:=by
 have hd:eW (dL (fj s a) (0:Int).toNat) k.toNat=eW (dL s ((a:Int)).toNat) k.toNat:=Wx (λj=>by rw[ZH];exact Ng s a j) _;unfold cG;rw[hd,ud]
 grind
theorem vj{s:Z5}{a k:Int}(h:(cG s a k).2=0):ej k=true/\0<=a/\a+k<=s.size:=by
 unfold cG at h
 grind
theorem AN(s:Z5)(a k:Int):0<=(cG s a k).1/\(cG s a k).1<=1099511627776:=by
 unfold cG
 grind
def ie(acc:Z8 Int)(rest:Z5):Z8 Int->Z4 (Z8 Int×Z5)
 |[]=>some (acc,rest)
 |k::ks=>if(cG rest 0 k).2≠0 then none else ie (acc++[(cG rest 0 k).1]) (fj rest k.toNat) ks
def fu(kind:Int)(s:Z5)(ks:Z8 Int):Z4 (Z8 Int×Z5):=if gO kind s=true then ie [] (gN s) ks else none
def AU(kind:Int)(s:Z5)(ks:Z8 Int)(w:Z6)(e:Ending)(w':Z6):Prop:=
 ((∃l r v,fu kind s ks=some (l,r)/\e=.returned (.tuple #[v,S r,I 0])/\w'.ownsRow w.heap.size 3 1 v l.length (l.flatMap cB))\/
  (fu kind s ks=none/\e=.returned (.tuple #[cz,S ByteArray.empty,I 30])))/\cH w w'
theorem xJ(l:Z8 Int):∀u∈l.flatMap cB,u.oneCell'=true:=by intro u d;have ⟨x,_,hx⟩:=YW.1 d;simp at hx;subst hx;rfl
theorem IM(s:Z5)(h:gu s=true):(gN s).size<=505/\(gN s).size=s.size - 7:=by simp only[gu,Z1,ZV]at h;rw[gN,YS];omega
theorem It{kind:Int}{s:Z5}(h:gO kind s=true):gu s=true:=by rw[gO,Z1]at h;exact h.1
structure FInv(ks acc:List Int)(load rest:ByteArray)(i:Nat):Prop where
 le:i<=ks.length
 eq:ie [] load ks=ie acc rest (ks.drop i)
 len:acc.length=i
 size:rest.size<=505
theorem yT(kind:Int)(s:Z5)(V:Vw)(Y:Z7)(ks:Z8 Int)(w:Z6)(hs:s.size<=maxLen)(hV:V.le (vw w))(Z:SlOf V cB 1 Y ks)(hn:ks.length<=1000): Cl 56 #[I8 kind,S s,Y] w (AU kind s ks w):=by
 have p:=Z.mono hV;refine jC J<|zC J (Ij kind s hs)<|zA J<|QY J (yN J p)<|zA J ?_
 have L:(gF kind s).size<=505:=by
  unfold gF;cases z:gO kind s with
  |false=>simp
  |true=>rw[ZW J];exact(IM s (It z)).1
 (have B:i3 kind s≠0->fu kind s ks=none:=λN=>by rw[fu,ZX];intro y;exact N (by rw[i3,ZW y]));(have t:i3 kind s≠0->i3 kind s=30:=λN=>by unfold i3 at N⊢;split;{rename_i y;rw[ZW y]at N;exact absurd J N};rfl);refine iD 6 3 1 J J<|zL [19,20] [0] J J (σ:=Nat×Z8 Int×Z5) (λ(i,d,rest)=>[(6,.a (.row 0)),(7,.a (.v (S rest))),(8,.a (.v (I (i3 kind s)))),(21,.a (.v (I i)))]) (λ(i,d,rest)=>[(0,.row 3 1 d.length (d.flatMap cB))]) (λ(i,d,rest)=>FInv ks d (gF kind s) rest i) (λ(i,d,rest)=>ks.length - i) ((0,[],gF kind s)) (⟨om,J,J,L⟩) ?_;rintro⟨i,d,rest⟩ ⟨hi,m,M,a5⟩;refine dD J ?_ ?_<;>intro h
 .have ⟨k,h_k⟩:=p.at (k:=i) om;have u:=cC h_k;refine QY J (yI J p)<|QY J (yL i 0 J p h_k J)<|Sb 1 [6,7,8,10,19,20,21] J<|QA<|Sa<|Sx 2 [6,7,8,10,19,20,21,26] J J ?_ ?_<;>intro h;{refine QN<|QK<|sO J<|QK<|QK<|QQ<|Qw<|QA<|Sa<|Sx 2 [6,7,8,44] J J ?_ ?_<;>intro h;{refine zU J<|cL aJ J ?_;rw[t h];intro E O o _;exact⟨.inr ⟨B h,J⟩,o.below lr⟩};omega};refine Sf<|Yy 2 J ?_;have X:=h;rw[YB u]at m;(have R:ks[i]=k:=by simp_all);rw[R,ie]at m
  have W:fu kind s ks=ie [] (gF kind s) ks:=by
   have z:gO kind s=true:=by
    cases y:gO kind s with
    |true=>rfl
    |false=>rw[i3,ZX (by simp[y])]at X;cases X
   rw[fu,ZW z,gF,ZW z]
  refine zC J (xw rest 0 k (by simp only[maxLen];omega))<|Sb 5 [6,7,8,10,11,12,19,20,21] J<|QA<|Sa<|Sx 2 [6,7,8,10,11,19,20,21,34] J J ?_ ?_<;>intro h;{refine zU J<|Qb J λE O o=>?_;exact⟨.inr ⟨by rw[W,m,ZW h],J⟩,o.below lr⟩};rw[ZX (by simp[h])]at m;have ⟨hw,_,hle⟩:=vj h;simp only[ej,Z1,ZV]at hw;refine zU J<|gE [] ([]) mixed oo kc<|QT [0,1,4,5] J ?_;obtain⟨q,rfl⟩:∃q:Nat,k=q:=⟨k.toNat,om⟩;refine zt 6 J (pF aJ J (λhg=>by simp only[Option.getD];omega))<|QS<|Qo 2 ?_;rw[show rest.extract ((some (q:Int)).getD 0).toNat ((none:Z4 Int).getD (rest.size:Int)).toNat=fj rest q from J];refine Qg 2 J J (cX aJ 1 J J J) λ_ _=>zG 3 J (cQ aJ ([(cG rest 0 q).1].flatMap cB) J (λE w o=>dZ (o.row 1 _ _ _ _ J)) (λ_ _ _=>xJ _) od) λ_ _=>Qx [7,8] J<|zH J ?_;rw[<-ZF,show d.length+1=(d++[(cG rest 0 q).1]).length by simp,cx (n:=(i:Int)+1) om om];refine dx 0 2 J ?_;have a0:=ud rest q;refine Qr ((i+1,d++[(cG rest 0 q).1],fj rest q))<|⟨om,m,by simp[M],om⟩
 have T:i=ks.length:=om;subst T;rw[Zp]at m;refine dD J ?_ ?_<;>intro h;{refine cL aJ J ?_;rw[t h];intro E O o _;exact⟨.inr ⟨B h,J⟩,o.below lr⟩};refine cL aJ J ?_
 have W:fu kind s ks=some (d,rest):=by
  have z:gO kind s=true:=by
   cases y:gO kind s with
   |true=>rfl
   |false=>rw[i3,ZX (by simp[y])]at h;cases h
  rw[gF,ZW z]at m;rw[fu,ZW z,m];rfl
 intro E O o _;exact⟨.inl ⟨d,rest,E.κ 0,W,J,o.rowFresh lr (l:=0) J⟩,o.below lr⟩
theorem vq(kind:Int)(s:Z5)(V:Vw)(W:Z7)(ks:Z8 Int)(w:Z6)(hs:s.size<=maxLen)(hV:V.le (vw w))(X:SlOf V cB 1 W ks)(hn:ks.length<=1000): Cl 254 #[I8 kind,S s,W] w (AU kind s ks w):=by
 have m:=X.mono hV;refine jC J<|zC J (IB kind s hs)<|cJ J ?_ ?_<;>intro h;{refine cL aJ J ?_;(have hE:i3 kind s=30:=by unfold i3 at h⊢;split;{rename_i u;rw[ZW u]at h;exact absurd J h};rfl);(have z:fu kind s ks=none:=by rw[fu,ZX];intro u;exact h (by rw[i3,ZW u]));rw[hE];intro E O p _;exact⟨.inr ⟨z,J⟩,p.below lr⟩}
 have M:gO kind s=true:=by
  cases u:gO kind s with
  |true=>rfl
  |false=>rw[i3,ZX (by simp[u])]at h;cases h
 have o:=(IM s (It M)).1;rw[show gF kind s=gN s by rw[gF,ZW M]];obtain⟨L,T⟩:∃L,gN s=L:=⟨_,J⟩;(have z:fu kind s ks=ie [] L ks:=by rw[fu,ZW M,T]);rw[T]at o⊢;refine iD 11 3 1 J J<|zL [2,9] [0] J J (σ:=Nat×Z8 Int×Nat) (λ(i,d,a)=>[(11,.a (.row 0)),(12,.a (.v (I a))),(13,.a (.v (I i)))]) (λ(i,d,a)=>[(0,.row 3 1 d.length (d.flatMap cB))]) (λ(i,d,a)=>FInv ks d L (fj L a) i/\a<=L.size) (λ(i,d,a)=>ks.length - i) ((0,[],0)) (⟨⟨om,by rw[BI];rfl,J,by rw[BI];exact o⟩,om⟩) ?_;rintro⟨i,d,a⟩ ⟨⟨hi,l,y,Z⟩,ha⟩;refine zB J<|QY J (yN J m)<|cJ J ?_ ?_<;>intro h;{have ⟨k,h_k⟩:=m.at (k:=i) om;have t:=cC h_k;refine QY J (yI J m)<|QY J (yL i 0 J m h_k J) ?_;rw[YB t]at l;(have B:ks[i]=k:=by simp_all);rw[B,ie,wU L ha]at l;refine zC J (tf L a k (by simp only[maxLen];omega))<|cJ J ?_ ?_<;>intro h;{refine Qb J λE O p=>?_;exact⟨.inr ⟨by rw[z,l,ZW h],J⟩,p.below lr⟩};rw[ZX (by simp[h])]at l;have ⟨hw,_,hle⟩:=vj h;simp only[ej,Z1,ZV]at hw;obtain⟨q,rfl⟩:∃q:Nat,k=q:=⟨k.toNat,om⟩;refine QZ J (cX aJ 1 J J J) λ_ _=>QZ J (cQ aJ ([(cG L a q).1].flatMap cB) J (λE w p=>dZ (p.row 1 _ _ _ _ J)) (λ_ _ _=>xJ _) od) λ_ _=>zA J ?_;rw[<-ZF,show d.length+1=(d++[(cG L a q).1]).length by simp];refine QY J (yI J m)<|QY J (dy aJ (i) 0 ((q:Int)) J (λR=>m) (λR=>h_k) J J)<|zA J ?_;rw[cx om om,show IntKind.i64.wrap ((a:Int)+q)=((a+q:Nat):Int) by rw[cx om om];omega];refine dx 0 2 J ?_;rw[ZH,xg]at l;have Y:=ud L (a+q);refine Qr ((i+1,d++[(cG L a q).1],a+q))<|⟨⟨om,l,by simp[y],om⟩,om⟩};refine ez mixed kr<|Dm 3 J ?_;have N:i=ks.length:=om;subst N;rw[Zp]at l;refine Qd J (pF aJ J (λR=>by simp;omega))<|Dm 3 J<|zD J<|Qb J λE O p=>?_;exact⟨.inl ⟨d,fj L a,E.κ 0,by rw[z,l];rfl,J,p.rowFresh lr J⟩,p.below lr⟩
def nT(kind:Int)(s:Z5)(ks:Z8 Int)(x:Z7)(V':Vw):Prop:=
 (∃l r v,fu kind s ks=some (l,r)/\x=.tuple #[v,S r,I 0]/\SlOf V' cB 1 v l)\/(fu kind s ks=none/\x=.tuple #[cz,S ByteArray.empty,I 30])
theorem oK{P:Z3}{f:Nat}{args:Array Z7}{kind:Int}{s:Z5}{ks:Z8 Int}{V:Vw}{w:Z6}(hV:V.le (vw w))(h:Calls P f args w (AU kind s ks w)): Calls P f args w λe w'=>∃x V',e=.returned x/\cH w w'/\Vext w.heap.size V V' w'/\nT kind s ks x V':=by refine h.mono ?_;rintro e w' ⟨⟨l,r,v,o,rfl,d⟩|⟨o,rfl⟩,m⟩;{have ⟨V',hx,hsl⟩:=jS hV m d;exact⟨_,V',J,m,hx,.inl ⟨l,r,v,o,J,hsl,cw⟩⟩};exact⟨_,V,J,m,Vext.same hV m,.inr ⟨o,J⟩⟩
theorem tI(n:Int)(w:Z6):Rt 253 #[I n] w (.bool (gy n)):=by refine dU J<|Tz J λ_=>rfl
theorem tJ(s:Z5):(s.toList==ByteArray.empty.toList)=decide (s.size=0):=by
 rw[zj,Ze,ZV,ZV];constructor;{intro h;rw[<-ll,h];rfl}
 simp_all
theorem B1(r:Record)(w:Z6):Rt 251 #[r.val] w (.bool (fX r)):=by
 refine dU J<|zC J (tI _)<|cJ J ?_ ?_<;>intro h
 .refine Tz J λE=>?_
  rw[show fX r=false by
   rw[Zi]
   intro l
   simp only[fX,Z1,ZV,iB]at l
   rcases h with(((h|h)|h)|h)|h
   . rw[h]at l;simp at l
   all_goals omega]
  rfl
 obtain⟨⟨⟨⟨m,o⟩,u⟩,p⟩,t⟩:=h;(have d:(gy r.key&&iB r.lsn 1099511627777&&iB r.count 64)=true:=by simp[iB,m];omega);refine dD J ?_ ?_<;>intro h;{refine Tz J λE=>?_;show Ending.returned (.bool ((r.block==0&&r.k==0)&&(r.text.toList==ByteArray.empty.toList)))=_;rw[fX,d,ZW h,tJ,ZI];congr 2};refine Tz J λE=>?_;show Ending.returned (.bool ((((decide (0<=r.block)&&decide (r.block<64))&&decide (0<=r.k))&&decide (r.k<8))&&decide ((r.text.size:Int)<=256)))=_;rw[fX,d,ZX om,ZI];congr 2;rw[Ze];simp only[iB,Z1,ZV];omega
theorem G6:∀(ks acc:Z8 Int) (r:Z5) {l:Z8 Int} {q:Z5},ie acc r ks=some (l,q)->l.length=acc.length+ks.length
 |[],acc,r,l,q,h=>by
  simp only[ie,Z0,ZN]at h
  rw[<-h.1];rfl
 |k::ks,acc,r,l,q,h=>by
  rw[ie]at h
  split at h
  . cases h
  ·
   have:=G6 ks _ _ h
   rw[this,ZQ,ZP,Y8]<;>omega
def gw:Z8 Int:=[6,6,2,1,2]
abbrev yx:Record:=⟨0,0,0,0,ByteArray.empty,0⟩
def EN:Z8 Int->Z5->Record
 |[a,b,c,d,e],t=>⟨a,b,c,d,t,e⟩
 |_,_=>yx
def jf(s:Z5):Bool:=match fu 6 s gw with
 |some (l,t)=>fX (EN l t)
 |none=>false
def iy(s:Z5):Record:=if jf s=true then(match fu 6 s gw with
 |some (l,t)=>EN l t
 |none=>yx)else yx
def lO(s:Z5):Int:=if jf s=true then 0 else 50
theorem JE{l:Z8 Int}(h:l.length=5):∃a b c d e,l=[a,b,c,d,e]:=by
 match l,h with
 |[a,b,c,d,e],_=>exact⟨a,b,c,d,e,J⟩
theorem nU{kind:Int}{s:Z5}{ks l:Z8 Int}{q:Z5}(h:fu kind s ks=some (l,q)):l.length=ks.length:=by rw[fu]at h;split at h;{rw[G6 ks [] _ h];simp};cases h
theorem WN(b:Nat)(w:Z6):Cl 244 #[.pointer (some ⟨b,0,none⟩)] w λe w'=>∃v,e=.returned v/\w'.ownsRow w.heap.size 3 1 v gw.length (gw.flatMap cB)/\cH w w':=by refine dU J<|QZ J (cX aJ 1 J J J) λ_ _=>zA J<|Qb J λE w' d=>?_;exact⟨_,J,d.rowFresh lr (l:=0) J,d.below lr⟩
theorem RH(V:Vw)(b:Nat)(w:Z6)(hV:V.le (vw w)):Cl 244 #[.pointer (some ⟨b,0,none⟩)] w λe w'=>∃x V',e=.returned x/\cH w w'/\Vext w.heap.size V V' w'/\SlOf V' cB 1 x gw:=by refine(WN b w).mono ?_;rintro e w' ⟨v,rfl,d,l⟩;have ⟨V',hx,hsl⟩:=jS hV l d;exact⟨_,V',J,l,hx,⟨hsl,cw⟩⟩
theorem Ub(s:Z5)(hs:s.size<=maxLen)(w:Z6):Rt 195 #[S s] w (.tuple #[(iy s).val,I (lO s)]):=by
 refine dU J<|kt ((λx V'=>SlOf V' cB 1 x gw)) J (RH (vw w) _) ?_;rintro x V1 B hx;have O:=hx J;refine eR (nT 6 s gw) J (λo E w1 p=>oK p.leV (yT 6 s V1 x gw _ hs p.leV O dc)) ?_;rintro y V2 z hy;have u:=B.trans z;rcases hy J with⟨l,t,v,M,rfl,m⟩|⟨M,rfl⟩
 rotate_left
 {refine cS J ?_ ?_<;>intro h;{refine Qs J<|zA J<|Qb J λE X p=>⟨?_,p.below (u)⟩;(have Z:jf s=false:=by rw[jf,M]);rw[iy,lO,ZX (by simp[Z]),ZX (by simp[Z])];rfl};refine gE [] ([]) mixed oo kc<|QT [0,1,2,3,4,5,6] J ?_;exact absurd h dc};refine cS J ?_ ?_<;>intro h;{refine Qs J<|zA J<|cL aJ J ?_;exact absurd h dc};refine gE [] ([]) mixed oo kc<|QT [0,1,2,3,4,5,6] J ?_;clear h;obtain⟨a,b,c,d,e,rfl⟩:=JE (nU M);have R:=cC (show [a,b,c,d,e][0]? =some a from J);refine zt 7 J (yI J m)<|zt 8 J (dy aJ (0) 0 (a) J (λo=>m) (λo=>(show [a,b,c,d,e][0]? =some a from J)) J J)<|QT [9] J ?_;have W:=cC (show [a,b,c,d,e][1]? =some b from J);refine zt 10 J (yI J m)<|zt 11 J (dy aJ (1) 0 (b) J (λo=>m) (λo=>(show [a,b,c,d,e][1]? =some b from J)) J J)<|QT [12] J ?_;have V:=cC (show [a,b,c,d,e][2]? =some c from J);refine zt 13 J (yI J m)<|zt 14 J (dy aJ (2) 0 (c) J (λo=>m) (λo=>(show [a,b,c,d,e][2]? =some c from J)) J J)<|QT [15] J ?_;have T:=cC (show [a,b,c,d,e][3]? =some d from J);refine zt 16 J (yI J m)<|zt 17 J (dy aJ (3) 0 (d) J (λo=>m) (λo=>(show [a,b,c,d,e][3]? =some d from J)) J J)<|QT [18] J ?_;have N:=cC (show [a,b,c,d,e][4]? =some e from J);refine zt 19 J (yI J m)<|zt 20 J (dy aJ (4) 0 (e) J (λo=>m) (λo=>(show [a,b,c,d,e][4]? =some e from J)) J J)<|QT [21,22,23,24] J<|QS<|zI 25 J<|Qx [26,27,28] J<|zI 29 J<|Qx [30,31,32] J<|zI 33 J<|Qx [34,35,36] J<|Qo 37<|Qi 37 J<|Qx [38,39,40] J<|zI 41 J<|Qx [42,43,44] J<|zI 45 J<|zH J ?_;have Y:fu 6 s gw=some ([a,b,c,d,e],t):=M;(have L:jf s=fX ⟨a,b,c,d,t,e⟩:=by rw[jf,Y];rfl);refine dq J (λo E w1 p=>Ph ⟨a,b,c,d,t,e⟩ _ _ (p.lit 1 _ _ J))<|cJ J ?_ ?_<;>intro h;{refine Qs J<|zA J<|Qb J λE X p=>⟨?_,p.below (u)⟩;rw[iy,lO,ZX (by simp[L,h]),ZX (by simp[L,h])];rfl};refine Qs J<|zA J<|Qb J λE X p=>⟨?_,p.below (u)⟩;rw[iy,lO,ZW (by rw[L,h]),ZW (by rw[L,h]),Y];rfl
theorem Mf(s:Z5)(hs:s.size<=maxLen)(w:Z6):Rt 324 #[S s] w (.tuple #[(iy s).val,I (lO s)]):=by
 refine dU J<|jV aJ J J J J λb1 V1 B W=>eR (nT 6 s gw) J (λo E w1 p=>oK p.leV (vq 6 s V1 _ gw _ hs p.leV (SlOf.ofBlock (enc:=cB) (sz:=1) (l:=gw) (W J) J cw (ZS _)) dc)) ?_;rintro y V2 z hy;have u:=B.trans z;rcases hy J with⟨l,t,v,M,rfl,m⟩|⟨M,rfl⟩
 rotate_left
 {refine cS J ?_ ?_<;>intro h;{refine Qs J<|zA J<|Qb J λE X p=>⟨?_,p.below (u)⟩;(have Z:jf s=false:=by rw[jf,M]);rw[iy,lO,ZX (by simp[Z]),ZX (by simp[Z])];rfl};refine Ra J<|QT [0] J ?_;exact absurd h dc};refine cS J ?_ ?_<;>intro h;{refine Qs J<|zA J<|cL aJ J ?_;exact absurd h dc};refine Ra J<|QT [0] J ?_;clear h;obtain⟨a,b,c,d,e,rfl⟩:=JE (nU M);have O:=cC (show [a,b,c,d,e][0]? =some a from J);refine zt 1 J (yI J m)<|zt 2 J (dy aJ (0) 0 (a) J (λo=>m) (λo=>(show [a,b,c,d,e][0]? =some a from J)) J J)<|QT [3] J ?_;have V:=cC (show [a,b,c,d,e][1]? =some b from J);refine zt 4 J (yI J m)<|zt 5 J (dy aJ (1) 0 (b) J (λo=>m) (λo=>(show [a,b,c,d,e][1]? =some b from J)) J J)<|QT [6] J ?_;have T:=cC (show [a,b,c,d,e][2]? =some c from J);refine zt 7 J (yI J m)<|zt 8 J (dy aJ (2) 0 (c) J (λo=>m) (λo=>(show [a,b,c,d,e][2]? =some c from J)) J J)<|QT [9] J ?_;have R:=cC (show [a,b,c,d,e][3]? =some d from J);refine zt 10 J (yI J m)<|zt 11 J (dy aJ (3) 0 (d) J (λo=>m) (λo=>(show [a,b,c,d,e][3]? =some d from J)) J J)<|QT [12] J ?_;have N:=cC (show [a,b,c,d,e][4]? =some e from J);refine zt 13 J (yI J m)<|zt 14 J (dy aJ (4) 0 (e) J (λo=>m) (λo=>(show [a,b,c,d,e][4]? =some e from J)) J J)<|QT [15,16] J<|QS<|Qo 17<|Qk 17 J J J J<|zI 18 J<|zH J ?_;have Y:fu 6 s gw=some ([a,b,c,d,e],t):=M;(have L:jf s=fX ⟨a,b,c,d,t,e⟩:=by rw[jf,Y];rfl);refine zC J (B1 ⟨a,b,c,d,t,e⟩)<|cJ J ?_ ?_<;>intro h;{refine Qs J<|zA J<|Qb J λE X p=>⟨?_,p.below (u)⟩;rw[iy,lO,ZX (by simp[L,h]),ZX (by simp[L,h])];rfl};refine Qs J<|zA J<|Qb J λE X p=>⟨?_,p.below (u)⟩;rw[iy,lO,ZW (by rw[L,h]),ZW (by rw[L,h]),Y];rfl
def mc(s:Z5)(key lsn:Int):Bool:=jf s&&decide ((iy s).key=key)&&decide ((iy s).lsn=lsn)
def oQ(s:Z5)(key lsn:Int):Record:=if mc s key lsn=true then iy s else yx
theorem D9(s:Z5)(key lsn:Int):((lO s !=0)||((iy s).key !=key)||((iy s).lsn !=lsn))= !mc s key lsn:=by
 unfold mc lO;cases jf s with
 |true=>rw[Ze];simp[or_assoc]
 |false=>rfl
theorem Vo(s:Z5)(key lsn:Int)(hs:s.size<=maxLen)(w:Z6):Rt 131 #[S s,I key,I lsn] w (.tuple #[(oQ s key lsn).val,.bool (mc s key lsn)]):=by refine jC J<|zC J (Ub s hs)<|zA J<|Qs J<|cS J ?_ ?_<;>intro h;{refine Qs J<|zA J<|cL aJ J ?_;rw[D9]at h;simp at h;intro E l d _;refine⟨?_,d.below lr⟩;rw[oQ,h];rfl};refine Qs J<|zA J<|cL aJ J ?_;rw[D9]at h;simp at h;intro E l d _;refine⟨?_,d.below lr⟩;rw[oQ,h];rfl
theorem eqB_refl(r:Record):r.eqB r=true:=(Record.eqB_iff r r).2 J
section
variable{o:Oper}{n:Nat}{F:cy}{C:Z8 Nat}{O:Go.Eng.Own}{nl:Nat}{V:Vw}
end
section
variable{o:Oper}{n:Nat}{F:cy}{C:Z8 Nat}{O:Go.Eng.Own}{nl:Nat}{V:Vw}
end
theorem N0(d:Z8 UInt8)(k:Int)(n:Int):dQ d k [n]=d++db k n:=by simp[dQ]
def eu:Z8 Int->Z8 Int->Z8 UInt8
 |k::ks,n::ns=>db k n++eu ks ns
 |_,_=>[]
theorem IA:∀{ks ns:Z8 Int} {i:Nat} {k n:Int},ks[i]? =some k->ns[i]? =some n->eu (ks.take (i+1)) (ns.take (i+1))=eu (ks.take i) (ns.take i)++db k n
 |k0::ks,n0::ns,0,k,n,hk,hn=>by
  simp at hk hn
  subst hk hn
  simp[eu]
 |k0::ks,n0::ns,i+1,k,n,hk,hn=>by
  simp only[List.getElem?_cons_succ]at hk hn
  have:=IA hk hn
  simp only[R_,eu,this,Zc]
 |[],_,_,_,_,hk,_=>by simp at hk
 |_::_,[],_,_,_,_,hn=>by simp at hn
def lK(r:Record):Z8 Int:=[r.key,r.lsn,r.block,r.k,r.count]
def lA(r:Record):Z5:=cN (gH 6 (eu gw (lK r)++r.text.data.toList))
def pV(r:Record):Z5:=if fX r=true then lA r else ByteArray.empty
def BY(r:Record):Int:=if fX r=true then 0 else 2
structure RecOk(r:Record):Prop where
 key:16<=r.key/\r.key<=1099511627776
 lsn:0<=r.lsn/\r.lsn<=1099511627776
 block:0<=r.block/\r.block<64
 k:0<=r.k/\r.k<8
 count:0<=r.count/\r.count<64
 text:r.text.size<=256
theorem vx{r:Record}(h:fX r=true):RecOk r:=by simp only[fX,gy,iB,Z1,ZV]at h;obtain⟨⟨⟨l,o⟩,m⟩,d⟩:=h;split at d;{simp only[Z1,ZV,beq_iff_eq]at d;exact⟨l,om,om,om,m,om⟩};simp only[Z1,ZV,iB]at d;exact⟨l,om,d.1.1,d.1.2,m,om⟩
theorem rg{k n:Int}(h:dW n k=true):io k [n]=true:=by (have d:ej k=true:=by simp only[dW,Z1]at h;exact h.1.1);simp[io,d,h]
theorem FI{r:Record}(ok:RecOk r):∀(i:Nat) (k n:Int),gw[i]? =some k->(lK r)[i]? =some n->dW n k=true:=by
 have m:ik (6:Int).toNat=1099511627776:=dc;have o:ik (2:Int).toNat=65535:=dc;have p:ik (1:Int).toNat=255:=dc;have ⟨a1,a2,a3,a4,a5,_⟩:=ok;intro i k n d l
 match i with
 |0=>cases d;cases l;rw[dW,m];simp[ej];omega
 |1=>cases d;cases l;rw[dW,m];simp[ej];omega
 |2=>cases d;cases l;rw[dW,o];simp[ej];omega
 |3=>cases d;cases l;rw[dW,p];simp[ej];omega
 |4=>cases d;cases l;rw[dW,o];simp[ej];omega
 |i+5=>simp[gw]at d
theorem Ar:∀(ks ns:Z8 Int),(eu ks ns).length<=(ks.map Int.toNat).sum
 |k::ks,n::ns=>by
  have:=Ar ks ns
  simp only[eu,db,ZQ,gQ,Zq,List.sum_cons];omega
 |[],_=>by simp[eu]
 |_::_,[]=>by simp[eu]
theorem AT(r:Record):(eu gw (lK r)).length=17:=by simp[eu,gw,lK,db,gQ]
theorem VU{r:Record}(ok:RecOk r):iz 6 (cN (eu gw (lK r))++r.text)=(lA r,0):=by have d:=AT r;have l:=ok.text;rw[iz,ZX (by rw[YP,gx];omega),lA];congr 3
theorem Kr{f g:Nat->Nat}:∀{k:Nat},(∀j,j<k->f j=g j)->eW f k=eW g k
 |0,_=>rfl
 |k+1,h=>by rw[eW,eW,Kr (λj hj=>h j om),h k om]
theorem Jv(q:Nat):∀k,eW (λj=>q / pw j%256) k=q%pw k
 |0=>by simp[eW,pw,Nat.mod_one]
 |k+1=>by
  rw[eW,Jv q k,qW,Nat.mod_mul,r_ (pw k)]
theorem WD{n k:Int}(h:dW n k=true):∃q m:Nat,n=q/\k=m/\1<=m/\m<=6/\q<pw m/\q<=1099511627776:=by simp only[dW,ej,Z1,ZV]at h;obtain⟨⟨⟨o,l⟩,p⟩,d⟩:=h;refine⟨n.toNat,k.toNat,om,om,om,om,?_,?_⟩;{have:=uc k.toNat;unfold ik at d;unfold pw;unfold pw at this;omega};unfold ik at d;omega
theorem nZ{n k:Int}(h:dW n k=true)(R:Z8 UInt8):cG (cN (db k n++R)) 0 k=(n,0):=by (have o:ej k=true:=by simp only[dW,Z1]at h;exact h.1.1);obtain⟨q,m,rfl,rfl,w,t,p,u⟩:=WD h;(have hd:eW (dL (cN (db m q++R)) (0:Int).toNat) (m:Int).toNat=q:=by rw[ZH,Kr (g:=λj=>q / pw j%256) (λj l=>?_),Jv,T' p];rw[dL,p8,iY];(have d:j<(db (m:Int) (q:Int)).length:=by rw[db,gQ];exact l);rw[List.getD,List.getElem?_append_left (cU d)];simp only[db,ij,ZH,Int.toNat_zero,Zo,List.getElem?_map,List.getElem?_range l,YR,YK];simp);rw[cG,ZX (by simp[o]),hd,ZX (by rw[gx,ZQ,db,gQ];omega),ZX om]
theorem HL(n k:Int)(R:Z8 UInt8):fj (cN (db k n++R)) k.toNat=cN R:=by apply lD;rw[nB,iY,iY,List.drop_left'];rw[db,gQ]
theorem As:∀(ks ns acc:Z8 Int) (R:Z8 UInt8),ks.length=ns.length->(∀(i:Nat) (k n:Int),ks[i]? =some k->ns[i]? =some n->dW n k=true)->ie acc (cN (eu ks ns++R)) ks=some (acc++ns,cN R)
 |[],[],acc,R,_,_=>by simp[ie,eu]
 |k::ks,n::ns,acc,R,hl,h=>by
  have h0:=h 0 k n J J
  rw[eu,Zc,ie,nZ h0,ZX sm,HL,As ks ns (acc++[n]) R (cU hl) (λi k n d l=>h (i+1) k n (cU d) (cU l))]
  simp
 |[],_::_,_,_,hl,_=>by simp at hl
 |_::_,[],_,_,hl,_=>by simp at hl
theorem NH(k:UInt8)(d:Z8 UInt8):∃b1 b2 T,gH k d=k::b1::b2::(d++T)/\T.length=4:=by refine⟨UInt8.ofNat (d.length / pw 0%256),UInt8.ofNat (d.length / pw 1%256),ij (jA (body k d)) 4,?_,gQ _ _⟩;rfl
theorem uO(k:UInt8)(d:Z8 UInt8):gN (cN (gH k d))=cN d:=by have ⟨b1,b2,T,h1,h2⟩:=NH k d;(have l:(cN (gH k d)).size=7+d.length:=by rw[gx,pz]);apply lD;rw[gN,YL,YG,YX,l,iY,iY,h1,show 7+d.length - 4 - 3=d.length by omega];simp
theorem vM(k:UInt8)(d:Z8 UInt8):eb (cN (gH k d)) 0=k:=by rfl
theorem xR{k:UInt8}{d:Z8 UInt8}(o:1<=k.toNat)(m:k.toNat<=127)(p:d.length<=505):gu (cN (gH k d))=true:=by (have l:(cN (gH k d)).size=7+d.length:=by rw[gx,pz]);simp only[gu,Z1,ZV];rw[vM,uO,iY,iY,l];exact⟨⟨⟨⟨om,om⟩,o⟩,m⟩,J⟩
theorem XH{r:Record}(ok:RecOk r):fu 6 (lA r) gw=some (lK r,r.text):=by have o:=AT r;have p:=ok.text;(have m:(eu gw (lK r)++r.text.data.toList).length<=505:=by rw[ZQ,ll];omega);have l:gu (lA r)=true:=xR dc dc m;(have d:gO 6 (lA r)=true:=by rw[gO,l,lA,vM];rfl);rw[fu,ZW d,lA,uO,As gw (lK r) [] r.text.data.toList J (FI ok),LA];rfl
theorem Tx{r:Record}(h:fX r=true):jf (lA r)=true/\iy (lA r)=r/\lO (lA r)=0:=by have l:=XH (vx h);(have d:jf (lA r)=true:=by rw[jf,l];exact h);refine⟨d,?_,by rw[lO,ZW d]⟩;rw[iy,ZW d,l];rfl
theorem Wi{r:Record}(ok:RecOk r):(lA r).size=24+r.text.size:=by rw[lA,gx,pz,ZQ,AT,ll];omega
def m9(lo hi:Int):Bool:=(decide (0<=lo)&&decide (lo<=hi))&&decide (hi<64)
def iX(c:Cmd)(sp mo de wa:Bool):Bool:=
 ((((sp&&m9 c.lo c.hi)||(!sp&&(c.lo==0&&c.hi==0)))&&((mo&&(c.mode==1||c.mode==2))||(!mo&&c.mode==0)))&&((de&&gy c.dead)||(!de&&c.dead==0)))&&(c.was==0||(wa&&gy c.was))
def eo(c:Cmd):Bool:=((gy c.by_&&decide (1<=c.serial))&&decide (c.serial<=2147483648))&&
 (if c.kind=0\/c.kind=1 then iX c false false false false else if c.kind=2 then iX c true true false false else if c.kind=3 then iX c true false false false
  else if c.kind=4 then iX c false false true true else if c.kind=5 then iX c false false true false else false)
theorem nI {P : Z3} {w : Z6} {d : Nat} {xs ys : Array Z7} {f : Field} {fs : Z8 Field} {a b : Z7} {r rest : Bool} (t : (f.name ≠ "_") = True) (m : (part f.type xs f.offset).run P w = .ok a w)
  (p:(part f.type ys f.offset).run P w=.ok b w) (o:(Op.equalIn d f.type a b).run P w=.ok r w) (l:(Op.eqFields d xs ys fs).run P w=.ok rest w):(Op.eqFields d xs ys (f::fs)).run P w=.ok (r&&rest) w:=by
 rw[Op.eqFields,ZW (by rw[t];trivial)]
 simp only[ZR,m,p,o,ZU]
 cases r<;>simp[l,ZO]
theorem J7{P:Z3}{w:Z6}{d:Nat}{xs ys:Array Z7}:(Op.eqFields d xs ys []).run P w=.ok true w:=by simp[Op.eqFields,ZO]
theorem s9{l:BinOp}{ox oy:Operand}(a b c d:Int)(w:Z6)(m:l=.eql\/l=.neq): (do eqGuard l 101 ox oy (.agg #[I a,I b]) (.agg #[I c,I d]);binOp l 101 (.agg #[I a,I b]) (.agg #[I c,I d]):Sem Z7).run bJ w=.ok (.bool (if l=.eql then(a==c&&b==d)else !(a==c&&b==d))) w:=by
 have p:bJ.underlying 101=some (.struct (bJ.fieldsOf 101)):=kr;have o:bJ.stoodInHeld 101=false:=kr;have t:bJ.eqGuardType bJ.depth 101=false:=kr
 have key:(Op.equalIn 10000 101 (.agg #[I a,I b]) (.agg #[I c,I d])).run bJ w=.ok (a==c&&b==d) w:=by
  rw[show(10000:Nat)=9999+1 from J,run_equalIn_agg w 9999 101 _ _ p o];simp only[Program.fieldsOf,Tryz.underlying101]
  go_simp
  grind
 rw[ZR,run_eqGuard_agg w _ _ _ _ _ _ t];(rcases m with rfl|rfl);{simp only[ZU,run_eql_struct,key];rfl};simp only[ZU,run_neq_struct,key];rfl
def Cmd.eqB(a b:Cmd):Bool:=a.kind==b.kind&&(a.by_==b.by_&&(a.serial==b.serial&&(a.dead==b.dead&&(a.was==b.was&&((a.lo==b.lo&&a.hi==b.hi)&&a.mode==b.mode)))))
theorem Cmd.eqB_iff(a b:Cmd):a.eqB b=true↔a=b:=by have ⟨a1,a2,a3,a4,a5,a6,a7,a8⟩:=a;have ⟨b1,b2,b3,b4,b5,b6,b7,b8⟩:=b;simp[Cmd.eqB,and_assoc]
theorem tW{o:BinOp}{ox oy:Operand}(a b:Cmd)(w:Z6)(p:o=.eql\/o=.neq): (do eqGuard o 139 ox oy a.val b.val;binOp o 139 a.val b.val:Sem Z7).run bJ w=.ok (.bool (if o=.eql then a.eqB b else !(a.eqB b))) w:=by
 have R:bJ.underlying 139=some (.struct (bJ.fieldsOf 139)):=kr;have N:bJ.stoodInHeld 139=false:=kr;have L:bJ.eqGuardType bJ.depth 139=false:=kr;have z:bJ.underlying 101=some (.struct (bJ.fieldsOf 101)):=kr;have u:bJ.stoodInHeld 101=false:=kr
 have m:∀a b c d:Int,(Op.equalIn 9999 101 (.agg #[I a,I b]) (.agg #[I c,I d])).run bJ w=.ok (a==c&&b==d) w:=by
  intro a b c d;have l:=Tryz.underlying3;have a3:=Tryz.isAgg3;have O:=Tryz.sizeOf3;rw[show(9999:Nat)=9998+1 from J,run_equalIn_agg w 9998 101 _ _ z u];simp only[Program.fieldsOf,Tryz.underlying101]
  go_simp
  by_cases M:a=c<;>by_cases E:b=d<;>simp[M,E]
 have key:(Op.equalIn 10000 139 a.val b.val).run bJ w=.ok (a.eqB b) w:=by
  have l:=Tryz.underlying3;have a3:=Tryz.isAgg3;have O:=Tryz.sizeOf3;have B:=Tryz.underlying99;rw[show(10000:Nat)=9999+1 from J,run_equalIn_agg w 9999 139 _ _ R N];simp only[Program.fieldsOf,Tryz.underlying139];have e:=λ(k:IntKind) (x y:Int) (t:Nat) (hu:bJ.underlying t=some (.int k))=>run_equalIn_int (P:=bJ) w 9998 t k k x y hu
  refine(nI sm (by go_simp;rfl) (by go_simp;rfl) (e .i8 _ _ _ B)<|nI sm (by go_simp;rfl) (by go_simp;rfl) (e .i64 _ _ _ l)<|nI sm (by go_simp;rfl) (by go_simp;rfl) (e .i64 _ _ _ l)<|
   nI sm (by go_simp;rfl) (by go_simp;rfl) (e .i64 _ _ _ l)<|nI sm (by go_simp;rfl) (by go_simp;rfl) (e .i64 _ _ _ l)<|nI (a:=.agg #[I a.lo,I a.hi]) (b:=.agg #[I b.lo,I b.hi]) sm (by go_simp) (by go_simp) (m _ _ _ _)<|
   nI sm (by go_simp;rfl) (by go_simp;rfl) (e .i8 _ _ _ B) J7).trans ?_
  rw[YE];rfl
 rw[ZR,run_eqGuard_agg w _ _ _ _ _ _ L];(rcases p with rfl|rfl);{simp only[ZU,run_eql_struct,key];rfl};simp only[ZU,run_neq_struct,key];rfl
abbrev xh(c:Cmd)(bv:Z7):Z8 Z7:=c.cells++[bv]
theorem P5(c:Cmd)(m:Z7)(b:Nat)(w:Z6)(d:w.heap[b]? =some (.cells (xh c m).toArray 429 (0,0))): Rt 344 #[.pointer (some ⟨b,0,none⟩)] w (.bool (m9 c.lo c.hi)):=by refine j5 [.a (.ptr 0 0)] d Tryz.func344 J J J J<|zW J<|ez mixed kr<|Dm 32 J<|zD J<|Qb J λE o l=>?_;exact⟨J,iI d l lr J J J⟩
theorem uv(c:Cmd)(t:Z7)(sp l m o:Bool)(b:Nat)(w:Z6)(p:w.heap[b]? =some (.cells (xh c t).toArray 429 (0,0))): Rt 330 #[.pointer (some ⟨b,0,none⟩),.bool sp,.bool l,.bool m,.bool o] w (.bool (iX c sp l m o)):=by refine j5 [.a (.ptr 0 0),.a (.v (.bool sp)),.a (.v (.bool l)),.a (.v (.bool m)),.a (.v (.bool o))] p Tryz.func330 J J J J<|zW J<|dq J (λz E u d=>P5 c t _ _ (d.lit 0 _ _ J))<|zA J<|QY J (hU (.bool (c.lo==0&&c.hi==0)) J (λE w=>s9 c.lo c.hi 0 0 w (.inl J)))<|zA J<|zC J (yC _)<|zA J<|zC J (yC _)<|zA J<|Qb J λE y d=>?_;exact⟨J,iI p d lr J J J⟩
theorem VN(c:Cmd)(p:Z7)(b:Nat)(w:Z6)(B:w.heap[b]? =some (.cells (xh c p).toArray 429 (0,0))): Rt 308 #[.pointer (some ⟨b,0,none⟩)] w (.bool (eo c)):=by
 have m:∀{E:Env} {O:Go.Eng.Own} {nl:Nat} {o:Z6},Mem E O nl ((vw w).del b) o->lk O 2=some (.size w.heap.size)->lk O 1=some (.pin 0 b)->lk O 0=some (.lit ((xh c p).map .v) 429)->cH w o:=
  λd t z L=>iI B d lr t z L
 refine j5 [.a (.ptr 0 0)] B Tryz.func308 J J J J<|zW J<|zC J (yC _)<|cJ J ?_ ?_<;>intro h;{refine Qb J λE o d=>⟨?_,m d J J J⟩;(have:eo c=false:=by unfold eo;(rcases h with(h|h)|h);{rw[h];rfl};{rw[Yd (show¬1<=c.serial by omega),YD];rfl};rw[Yd (show¬c.serial<=2147483648 by omega),YD];rfl);rw[this];rfl};obtain⟨⟨z,t⟩,M⟩:=h;(have l:((gy c.by_&&decide (1<=c.serial))&&decide (c.serial<=2147483648))=true:=by rw[z,ZD (show 1<=c.serial by omega),ZD (show c.serial<=2147483648 by omega)];rfl);refine dv J ?_ ?_<;>intro h;{refine dv J (λt=>?_) λt=>?_;{refine dq J (λy E u d=>uv c p false false false false _ _ (d.lit 0 _ _ J))<|zA J<|Qb J λE o d=>⟨?_,m d J J J⟩;rw[eo,l,ZI,ZW (by simp at h;omega)];rfl};rw[h]at t;cases t};refine dv J ?_ ?_<;>intro h;{refine dq J (λy E u d=>uv c p false false false false _ _ (d.lit 0 _ _ J))<|zA J<|Qb J λE o d=>⟨?_,m d J J J⟩;rw[eo,l,ZI,ZW (by simp at h;omega)];rfl};refine dv J ?_ ?_<;>intro h;{refine dq J (λy E u d=>uv c p true true false false _ _ (d.lit 0 _ _ J))<|zA J<|Qb J λE o d=>⟨?_,m d J J J⟩;rw[eo,l,ZI,ZX (by simp at*;omega),ZW (cU h)];rfl};refine dv J ?_ ?_<;>intro h;{refine dq J (λy E u d=>uv c p true false false false _ _ (d.lit 0 _ _ J))<|zA J<|Qb J λE o d=>⟨?_,m d J J J⟩;rw[eo,l,ZI,ZX (by simp at*;omega),ZX (by simp at*;omega),ZW (cU h)];rfl};refine dv J ?_ ?_<;>intro h;{refine dq J (λy E u d=>uv c p false false true true _ _ (d.lit 0 _ _ J))<|zA J<|Qb J λE o d=>⟨?_,m d J J J⟩;rw[eo,l,ZI,ZX (by simp at*;omega),ZX (by simp at*;omega),ZX (by simp at*;omega),ZW (cU h)];rfl};refine dv J ?_ ?_<;>intro h;{refine dq J (λy E u d=>uv c p false false true false _ _ (d.lit 0 _ _ J))<|zA J<|Qb J λE o d=>⟨?_,m d J J J⟩;rw[eo,l,ZI,ZX (by simp at*;omega),ZX (by simp at*;omega),ZX (by simp at*;omega),ZX (by simp at*;omega),ZW (cU h)];rfl};refine Qb J λE o d=>⟨?_,m d J J J⟩;rw[eo,l,ZI,ZX (by simp at*;omega),ZX (by simp at*;omega),ZX (by simp at*;omega),ZX (by simp at*;omega),ZX (by simp at*;omega)];rfl
theorem wJ(c:Cmd)(w:Z6):Rt 277 #[c.val] w (.bool (eo c)):=by refine dU J<|dq J (λm E l d=>VN c _ _ _ (d.lit 1 _ _ J))<|zA J<|Tz J λ_=>rfl
section
variable{o:Oper}{n:Nat}{F:cy}{C:Z8 Nat}{O:Go.Eng.Own}{nl:Nat}{V:Vw}
end
def eE(c:Cmd):Z8 UInt8:=
 if c.kind=2 then dQ (dQ (dQ (dQ [] 1 [c.kind]) 6 [c.by_]) 4 [c.serial]) 1 [c.lo,c.hi,c.mode]
 else if c.kind=3 then dQ (dQ (dQ (dQ [] 1 [c.kind]) 6 [c.by_]) 4 [c.serial]) 1 [c.lo,c.hi]
 else if c.kind=4 then dQ (dQ (dQ (dQ [] 1 [c.kind]) 6 [c.by_]) 4 [c.serial]) 6 [c.dead,c.was]
 else if c.kind=5 then dQ (dQ (dQ (dQ [] 1 [c.kind]) 6 [c.by_]) 4 [c.serial]) 6 [c.dead]
 else dQ (dQ (dQ [] 1 [c.kind]) 6 [c.by_]) 4 [c.serial]
def l5(c:Cmd):Z5:=if eo c=true then cN (eE c)else ByteArray.empty
def lz(c:Cmd):Int:=if eo c=true then 0 else 2
structure CmdOk(c:Cmd):Prop where
 kind:0<=c.kind/\c.kind<=5
 by_:16<=c.by_/\c.by_<=1099511627776
 serial:1<=c.serial/\c.serial<=2147483648
 lo:0<=c.lo/\c.lo<64
 hi:0<=c.hi/\c.hi<64
 mode:0<=c.mode/\c.mode<=2
 dead:0<=c.dead/\c.dead<=1099511627776
 was:0<=c.was/\c.was<=1099511627776
 span:c.kind≠2->c.kind≠3->c.lo=0/\c.hi=0
 mode0:c.kind≠2->c.mode=0
 dead0:c.kind≠4->c.kind≠5->c.dead=0
 was0:c.kind≠4->c.was=0
theorem qP{c:Cmd}(h:eo c=true):CmdOk c:=by simp only[eo,gy,Z1,ZV]at h;obtain⟨⟨⟨m,l⟩,o⟩,d⟩:=h;split at d;{simp[iX,m9,gy]at d;constructor<;>omega};split at d;{simp[iX,m9,gy]at d;constructor<;>omega};split at d;{simp[iX,m9,gy]at d;constructor<;>omega};split at d;{simp[iX,m9,gy]at d;constructor<;>omega};split at d;{simp[iX,m9,gy]at d;constructor<;>omega};cases d
def dk(t:Z5×Bool)(k:Nat):Z5×Bool:=if(cG t.1 0 k).2≠0 then(t.1,true)else(fj t.1 k,t.2)
theorem mR(t:Z5×Bool)(k:Nat):(dk t k).1.size<=t.1.size:=by rw[dk];split;{exact ZS _};rw[ud];omega
theorem Nh{s:Z5}{a k:Int}(h:(cG s a k).2≠0):(cG s a k).1=0:=by
 unfold cG at h⊢
 grind
theorem Tf{s:Z5}{k:Nat}(h: ¬(cG s 0 k).2≠0):k<=s.size:=by
 unfold cG at h
 grind
theorem Q9(t:Z5×Bool)(k:Nat)(hs:t.1.size<=maxLen)(o:k<=6)(b:Nat)(w:Z6)(l:w.heap[b]? =some (.cells [S t.1,.bool t.2].toArray 403 (0,0))): Cl 276 #[.pointer (some ⟨b,0,none⟩),I k] w λe w'=>e=.returned (I (cG t.1 0 k).1)/\Go.Eng.Touch (· =b) w w'/\w'.heap[b]? =some (.cells [S (dk t k).1,.bool (dk t k).2].toArray 403 (0,0)):=by have ⟨s,bad⟩:=t;dsimp only at hs l⊢;refine j5 [.a (.ptr 0 0),.a (.v (I k))] l Tryz.func276 J J J J<|zW J<|zC J (xw s 0 k hs)<|cJ J ?_ ?_<;>intro h;{refine Qs J<|zA J<|Qb J λE w' d=>?_;have ⟨h1,h2⟩:=pc d lr J J J;refine⟨?_,h1,?_⟩;{rw[Nh h];rfl};rw[h2,dk,ZW h];rfl};have m:=Tf (s:=s) (k:=k) (by simp[h]);refine QY J (pF aJ J (λp=>by simp;omega))<|zA J<|Qs J<|zA J<|cL aJ J ?_;rw[show s.extract ((some (k:Int)).getD 0).toNat ((none:Z4 Int).getD (s.size:Int)).toNat=fj s k from J];intro E w' d _;have ⟨h1,h2⟩:=pc d lr J J J;refine⟨J,h1,?_⟩;rw[h2,dk,ZX (by simp[h])];rfl
section
variable{o:Oper}{n:Nat}{F:cy}{C:Z8 Nat}{O:Go.Eng.Own}{nl:Nat}{V:Vw}
theorem mX{p:Z8 (Nat×Bool)}(l:Nat)(t:Z5×Bool)(k:Nat)(K:Int)(N:(k:Int)=K)(d:Z5×Bool)(R:dk t k=d)(u:Z8 SV)(B:fL F p o.op=some (276,u))(m:∀E,u.map (SV.den E)=[.pointer (some ⟨E.ρ l,0,none⟩),I K]) (L:lk O l=some (.lit [.v (S t.1),.v (.bool t.2)] 403)) (hs:t.1.size<=maxLen) (y:k<=6): StepTo bJ o p n F C O nl V (σ:=Unit) (λ_=>True) (λ_=>.a (.v (I (cG t.1 0 K).1))) (λ_=>(l,.lit [.v (S d.1),.v (.bool d.2)] 403)::O) nl (λ_=>V):=by subst N R;refine BW (λ_=>True) (λ_=>.a (.v (I (cG t.1 0 k).1))) l 403 (λ_=>[.v (S (dk t k).1),.v (.bool (dk t k).2)]) B (FN 276) L cw cw ?_;intro E w W T;rw[m E];refine(Q9 t k hs y (E.ρ l) w T).mono ?_;rintro e X ⟨rfl,M,z⟩;exact⟨(),J,M,z,ZY⟩
end
theorem KW(s:Z5)(a k:Int):0<=(cG s a k).1/\(cG s a k).1<=1099511627776:=by
 unfold cG
 grind
theorem Ca{n:Int}(l:0<=n)(d:n<=127):IntKind.i8.wrap n=n:=by simp[IntKind.wrap,IntKind.bits,IntKind.signed];omega
def eG(s:Z5):Cmd×(Z5×Bool):=
 if min (cG s 0 1).1 127=2 then
  (⟨min (cG s 0 1).1 127,(cG (dk (s,false) 1).1 0 6).1,(cG (dk (dk (s,false) 1) 6).1 0 4).1,0,0,(cG (dk (dk (dk (s,false) 1) 6) 4).1 0 1).1,(cG (dk (dk (dk (dk (s,false) 1) 6) 4) 1).1 0 1).1,
   min (cG (dk (dk (dk (dk (dk (s,false) 1) 6) 4) 1) 1).1 0 1).1 127⟩,dk (dk (dk (dk (dk (dk (s,false) 1) 6) 4) 1) 1) 1)
 else if min (cG s 0 1).1 127=3 then
  (⟨min (cG s 0 1).1 127,(cG (dk (s,false) 1).1 0 6).1,(cG (dk (dk (s,false) 1) 6).1 0 4).1,0,0,(cG (dk (dk (dk (s,false) 1) 6) 4).1 0 1).1,(cG (dk (dk (dk (dk (s,false) 1) 6) 4) 1).1 0 1).1,0⟩,
   dk (dk (dk (dk (dk (s,false) 1) 6) 4) 1) 1)
 else if min (cG s 0 1).1 127=4 then
  (⟨min (cG s 0 1).1 127,(cG (dk (s,false) 1).1 0 6).1,(cG (dk (dk (s,false) 1) 6).1 0 4).1,(cG (dk (dk (dk (s,false) 1) 6) 4).1 0 6).1,(cG (dk (dk (dk (dk (s,false) 1) 6) 4) 6).1 0 6).1,0,0,0⟩,
   dk (dk (dk (dk (dk (s,false) 1) 6) 4) 6) 6)
 else if min (cG s 0 1).1 127=5 then
  (⟨min (cG s 0 1).1 127,(cG (dk (s,false) 1).1 0 6).1,(cG (dk (dk (s,false) 1) 6).1 0 4).1,(cG (dk (dk (dk (s,false) 1) 6) 4).1 0 6).1,0,0,0,0⟩,dk (dk (dk (dk (s,false) 1) 6) 4) 6)
 else(⟨min (cG s 0 1).1 127,(cG (dk (s,false) 1).1 0 6).1,(cG (dk (dk (s,false) 1) 6).1 0 4).1,0,0,0,0,0⟩,dk (dk (dk (s,false) 1) 6) 4)
def pP(x:Cmd×(Z5×Bool)):Bool:= !((x.2.2|| !(x.2.1.toList==ByteArray.empty.toList))|| !(eo x.1))
def rC:Cmd:=⟨0,0,0,0,0,0,0,0⟩
def lu(s:Z5):Cmd:=if pP (eG s)=true then(eG s).1 else rC
def jX(s:Z5):Int:=if pP (eG s)=true then 0 else 100
theorem uQ{s:Z5}{c:Cmd}{t:Z5×Bool}(d:eG s=(c,t))(h:((t.2|| !(t.1.toList==ByteArray.empty.toList))|| !eo c)=true):lu s=rC/\jX s=100:=by rw[lu,jX,d,pP,h];exact⟨J,J⟩
theorem ug{s:Z5}{c:Cmd}{t:Z5×Bool}(d:eG s=(c,t))(h:((t.2|| !(t.1.toList==ByteArray.empty.toList))|| !eo c)=false):lu s=c/\jX s=0:=by rw[lu,jX,d,pP,h];exact⟨J,J⟩
theorem M9(s:Z5)(hs:s.size<=maxLen)(w:Z6):Rt 241 #[S s] w (.tuple #[(lu s).val,I (jX s)]):=by
 have a5:=mR (s,false) 1;have ai:=KW s 0 1;obtain⟨O,y⟩:∃t,dk (s,false) 1=t:=⟨_,J⟩;rw[y]at a5;have a8:=mR O 6;obtain⟨N,z⟩:∃t,dk O 6=t:=⟨_,J⟩;rw[z]at a8;have a9:=mR N 4;obtain⟨p,B⟩:∃t,dk N 4=t:=⟨_,J⟩;rw[B]at a9;dsimp only at a5;obtain⟨n1,V⟩:∃n,(cG s 0 1).1=n:=⟨_,J⟩;refine dU J<|QZ J (mX 1 (s,false) 1 1 J O y _ J (λE=>rfl) J hs om) λ_ _=>zA J ?_;obtain⟨K,T⟩:∃K,min n1 127=K:=⟨_,J⟩;have ad:IntKind.i8.wrap K=K:=Ca om om;rw[V];refine QY J (mO J)<|zA J ?_;rw[show(bif false then max n1 127 else min n1 127)=K from T,ad];refine QZ J (mX 1 O 6 6 J N z _ J (λE=>rfl) J om om) λ_ _=>zA J<|QZ J (mX 1 N 4 4 J p B _ J (λE=>rfl) J om om) λ_ _=>zA J<|Qs J<|cS J ?_ ?_<;>intro h
 .refine dv J (λY=>?_) λY=>?_
  .have e:K=2:=cU Y;have l:=mR p 1;obtain⟨u,d⟩:∃t,dk p 1=t:=⟨_,J⟩;rw[d]at l;refine QZ J (mX 1 p 1 1 J u d _ J (λE=>rfl) J om om) λ_ _=>zA J ?_;have L:=mR u 1;obtain⟨R,o⟩:∃t,dk u 1=t:=⟨_,J⟩;rw[o]at L;refine QZ J (mX 1 u 1 1 J R o _ J (λE=>rfl) J om om) λ_ _=>zA J<|Qs J<|zA J<|Qs J<|cS J ?_ ?_<;>intro h;{obtain⟨m,W⟩:∃m,(cG R.1 0 1).1=m:=⟨_,J⟩;have ae:=KW R.1 0 1;rw[W]at ae;obtain⟨M,hM⟩:∃M,min m 127=M:=⟨_,J⟩;have af:IntKind.i8.wrap M=M:=Ca om om;have a6:=mR R 1;obtain⟨t6,X⟩:∃t,dk R 1=t:=⟨_,J⟩;rw[X]at a6;refine QZ J (mX 1 R 1 1 J t6 X _ J (λE=>rfl) J om om) λ_ _=>?_;rw[W];refine QY J (mO J)<|zA J<|Qs J<|zA J ?_;rw[show(bif false then max m 127 else min m 127)=M from hM,af];refine zC J (wJ ⟨K,(cG O.1 0 6).1,(cG N.1 0 4).1,0,0,(cG p.1 0 1).1,(cG u.1 0 1).1,M⟩)<|cS J ?_ ?_<;>intro h;{refine Qs J<|zA J<|Tz J λE=>?_;have ⟨r1,r2⟩:=uQ (s:=s) (c:=⟨K,(cG O.1 0 6).1,(cG N.1 0 4).1,0,0,(cG p.1 0 1).1,(cG u.1 0 1).1,M⟩) (t:=t6) (by rw[eG,V,T,ZW e,y,z,B,d,o,W,hM,X]) h;rw[r1,r2];rfl};refine Qs J<|zA J<|Tz J λE=>?_;have ⟨r1,r2⟩:=ug (s:=s) (c:=⟨K,(cG O.1 0 6).1,(cG N.1 0 4).1,0,0,(cG p.1 0 1).1,(cG u.1 0 1).1,M⟩) (t:=t6) (by rw[eG,V,T,ZW e,y,z,B,d,o,W,hM,X]) h;rw[r1,r2];rfl}
   simp_all
  simp_all
 refine dv J (λY=>?_) λY=>?_;{have e:K=3:=cU Y;have l:=mR p 1;obtain⟨u,d⟩:∃t,dk p 1=t:=⟨_,J⟩;rw[d]at l;refine QZ J (mX 1 p 1 1 J u d _ J (λE=>rfl) J om om) λ_ _=>zA J ?_;have L:=mR u 1;obtain⟨R,o⟩:∃t,dk u 1=t:=⟨_,J⟩;rw[o]at L;refine QZ J (mX 1 u 1 1 J R o _ J (λE=>rfl) J om om) λ_ _=>zA J<|Qs J<|zA J<|Qs J<|cS J ?_ ?_<;>intro h;{simp_all};refine zC J (wJ ⟨K,(cG O.1 0 6).1,(cG N.1 0 4).1,0,0,(cG p.1 0 1).1,(cG u.1 0 1).1,0⟩)<|cS J ?_ ?_<;>intro h;{refine Qs J<|zA J<|Tz J λE=>?_;have ⟨r1,r2⟩:=uQ (s:=s) (c:=⟨K,(cG O.1 0 6).1,(cG N.1 0 4).1,0,0,(cG p.1 0 1).1,(cG u.1 0 1).1,0⟩) (t:=R) (by rw[eG,V,T,ZX om,ZW e,y,z,B,d,o]) h;rw[r1,r2];rfl};refine Qs J<|zA J<|Tz J λE=>?_;have ⟨r1,r2⟩:=ug (s:=s) (c:=⟨K,(cG O.1 0 6).1,(cG N.1 0 4).1,0,0,(cG p.1 0 1).1,(cG u.1 0 1).1,0⟩) (t:=R) (by rw[eG,V,T,ZX om,ZW e,y,z,B,d,o]) h;rw[r1,r2];rfl};refine dv J (λh4=>?_) λh4=>?_
 .refine dv J (λh5=>?_) λh5=>?_
  .have Z: ¬K=2:=cU h;have f3: ¬K=3:=cU Y;have e:K=4:=cU h4;have l:=mR p 6;obtain⟨u,d⟩:∃t,dk p 6=t:=⟨_,J⟩;rw[d]at l;refine QZ J (mX 1 p 6 6 J u d _ J (λE=>rfl) J om om) λ_ _=>zA J<|Qs J<|cS J ?_ ?_<;>intro h;{have L:=mR u 6;obtain⟨R,o⟩:∃t,dk u 6=t:=⟨_,J⟩;rw[o]at L;refine QZ J (mX 1 u 6 6 J R o _ J (λE=>rfl) J om om) λ_ _=>zA J<|Qs J<|zA J<|zC J (wJ ⟨K,(cG O.1 0 6).1,(cG N.1 0 4).1,(cG p.1 0 6).1,(cG u.1 0 6).1,0,0,0⟩)<|cS J ?_ ?_<;>intro h;{refine Qs J<|zA J<|Tz J λE=>?_;have ⟨r1,r2⟩:=uQ (s:=s) (c:=⟨K,(cG O.1 0 6).1,(cG N.1 0 4).1,(cG p.1 0 6).1,(cG u.1 0 6).1,0,0,0⟩) (t:=R) (by rw[eG,V,T,ZX Z,ZX f3,ZW e,y,z,B,d,o]) h;rw[r1,r2];rfl};refine Qs J<|zA J<|Tz J λE=>?_;have ⟨r1,r2⟩:=ug (s:=s) (c:=⟨K,(cG O.1 0 6).1,(cG N.1 0 4).1,(cG p.1 0 6).1,(cG u.1 0 6).1,0,0,0⟩) (t:=R) (by rw[eG,V,T,ZX Z,ZX f3,ZW e,y,z,B,d,o]) h;rw[r1,r2];rfl};exact absurd (h.symm.trans h4) dc
  simp_all
 refine dv J (λh5=>?_) λh5=>?_;{have Z: ¬K=2:=cU h;have f3: ¬K=3:=cU Y;have e:K=5:=cU h5;have l:=mR p 6;obtain⟨u,d⟩:∃t,dk p 6=t:=⟨_,J⟩;rw[d]at l;refine QZ J (mX 1 p 6 6 J u d _ J (λE=>rfl) J om om) λ_ _=>zA J<|Qs J<|cS J ?_ ?_<;>intro h;{rw[e]at h;cases h};refine zC J (wJ ⟨K,(cG O.1 0 6).1,(cG N.1 0 4).1,(cG p.1 0 6).1,0,0,0,0⟩)<|cS J ?_ ?_<;>intro h;{refine Qs J<|zA J<|Tz J λE=>?_;have ⟨r1,r2⟩:=uQ (s:=s) (c:=⟨K,(cG O.1 0 6).1,(cG N.1 0 4).1,(cG p.1 0 6).1,0,0,0,0⟩) (t:=u) (by rw[eG,V,T,ZX Z,ZX f3,ZX om,ZW e,y,z,B,d]) h;rw[r1,r2];rfl};refine Qs J<|zA J<|Tz J λE=>?_;have ⟨r1,r2⟩:=ug (s:=s) (c:=⟨K,(cG O.1 0 6).1,(cG N.1 0 4).1,(cG p.1 0 6).1,0,0,0,0⟩) (t:=u) (by rw[eG,V,T,ZX Z,ZX f3,ZX om,ZW e,y,z,B,d]) h;rw[r1,r2];rfl};have Z: ¬K=2:=cU h;have f3: ¬K=3:=cU Y;have f4: ¬K=4:=cU h4;have f5: ¬K=5:=cU h5;refine zC J (wJ ⟨K,(cG O.1 0 6).1,(cG N.1 0 4).1,0,0,0,0,0⟩)<|cS J ?_ ?_<;>intro h;{refine Qs J<|zA J<|Tz J λE=>?_;have ⟨r1,r2⟩:=uQ (s:=s) (c:=⟨K,(cG O.1 0 6).1,(cG N.1 0 4).1,0,0,0,0,0⟩) (t:=p) (by rw[eG,V,T,ZX Z,ZX f3,ZX f4,ZX f5,y,z,B]) h;rw[r1,r2];rfl};refine Qs J<|zA J<|Tz J λE=>?_;have ⟨r1,r2⟩:=ug (s:=s) (c:=⟨K,(cG O.1 0 6).1,(cG N.1 0 4).1,0,0,0,0,0⟩) (t:=p) (by rw[eG,V,T,ZX Z,ZX f3,ZX f4,ZX f5,y,z,B]) h;rw[r1,r2];rfl
def qA(s:Z5):Z5:=if jX s=0 then(iz 5 s).1 else ByteArray.empty
def rZ(s:Z5):Int:=if jX s=0 then(iz 5 s).2 else 2
def fg(s:Z5):Bool:= !(s.toList==ByteArray.empty.toList)&&(i3 5 s==0&&jX (gF 5 s)==0)
def gp(s:Z5):Cmd:=if fg s=true then lu (gF 5 s)else rC
def jv(s:Z5):Z5:=if fg s=true then gF 5 s else ByteArray.empty
def fB(s:Z5):Int:=if(s.toList==ByteArray.empty.toList)=true\/fg s=true then 0 else 50
abbrev BS(c:Cmd)(s:Z5)(ok:Bool)(lv:Z7):Z8 Z7:=c.cells++[S s,.bool ok,lv]
abbrev sT(c:Cmd)(s:Z5)(ok:Bool)(a:A):Z8 A:=c.cells.map .v++[.v (S s),.v (.bool ok),a]
theorem Tn(k:Int)(s:Z5)(hs:s.size<=maxLen):(gF k s).size<=maxLen:=by rw[gF];split;{rw[gN,YS];omega};simp
theorem LG(s:Z5)(hs:s.size<=maxLen)(O:Cmd)(s0:Z5)(y:Bool)(z:Z7)(b:Nat)(w:Z6)(N:w.heap[b]? =some (.cells (BS O s0 y z).toArray 323 (0,0))): Cl 192 #[.pointer (some ⟨b,0,none⟩),S s] w λe w'=>e=.returned (I (fB s))/\Go.Eng.Touch (· =b) w w'/\w'.heap[b]? =some (.cells (BS (gp s) (jv s) (fg s) z).toArray 323 (0,0)):=by have u:=Tn 5 s hs;refine j5 [.a (.ptr 0 0),.a (.v (S s))] N Tryz.func192 J J J J<|zW J<|Qs J<|cS J ?_ ?_<;>intro h;{refine Qb J λE w' m=>?_;obtain⟨M,L⟩:=pc m lr J J J;have d:(s.toList==ByteArray.empty.toList)=true:=h;(have l:fg s=false:=by rw[fg,d];rfl);refine⟨?_,M,?_⟩;{rw[fB,ZW (.inl d)];rfl};rw[L,gp,jv,l];rfl};have d:(s.toList==ByteArray.empty.toList)=false:=h;refine zC J (Ij 5 s hs)<|cJ J ?_ ?_<;>intro h;{refine Qb J λE w' m=>?_;obtain⟨t,p⟩:=pc m lr J J J;(have l:fg s=false:=by rw[fg,d];simp[h]);(have o:fB s=50:=by rw[fB,ZX (by rw[d,l];decide)]);refine⟨?_,t,?_⟩;{rw[o];rfl};rw[p,gp,jv,l];rfl};have B:=h;refine zC J (M9 (gF 5 s) u)<|zA J<|Qs J<|cJ J ?_ ?_<;>intro h;{refine Qb J λE w' m=>?_;obtain⟨t,p⟩:=pc m lr J J J;(have l:fg s=false:=by rw[fg,d];simp[h]);(have o:fB s=50:=by rw[fB,ZX (by rw[d,l];decide)]);refine⟨?_,t,?_⟩;{rw[o];rfl};rw[p,gp,jv,l];rfl};refine Qs J<|zA J<|Qb J λE w' m=>?_;obtain⟨t,p⟩:=pc m lr J J J;(have l:fg s=true:=by rw[fg,d,B,h];rfl);(have o:fB s=0:=by rw[fB,ZW (.inr l)]);refine⟨?_,t,?_⟩;{rw[o];rfl};rw[p,gp,jv,l];rfl
section
variable{o:Oper}{n:Nat}{F:cy}{C:Z8 Nat}{O:Go.Eng.Own}{nl:Nat}{V:Vw}
theorem We{p:Z8 (Nat×Bool)}(l:Nat)(s:Z5)(u:Cmd)(s0:Z5)(d:Bool)(a:A)(B:a.ok nl=true)(t:Z8 SV)(z:fL F p o.op=some (192,t))(m:∀E,t.map (SV.den E)=[.pointer (some ⟨E.ρ l,0,none⟩),S s]) (L:lk O l=some (.lit (sT u s0 d a) 323)) (hs:s.size<=maxLen): StepTo bJ o p n F C O nl V (σ:=Unit) (λ_=>True) (λ_=>.a (.v (I (fB s)))) (λ_=>(l,.lit (sT (gp s) (jv s) (fg s) a) 323)::O) nl (λ_=>V):=by refine BW (λ_=>True) (λ_=>.a (.v (I (fB s)))) l 323 (λ_=>sT (gp s) (jv s) (fg s) a) z (FN 192) L (λ_=>by simp only[sT,Cmd.cells,Zq,Yp,YY,ZB,dH,B];rfl) cw ?_;intro E w R N;rw[m E];refine(LG s hs u s0 d (a.den E) (E.ρ l) w N).mono ?_;rintro e T ⟨rfl,M,y⟩;exact⟨(),J,M,y,ZY⟩
end
def fS(c:Cmd):Z8 UInt8:=
 if c.kind=2 then db 1 c.lo++(db 1 c.hi++(db 1 c.mode++[]))
 else if c.kind=3 then db 1 c.lo++(db 1 c.hi++[])
 else if c.kind=4 then db 6 c.dead++(db 6 c.was++[])
 else if c.kind=5 then db 6 c.dead++[]
 else []
theorem pR(c:Cmd):eE c=db 1 c.kind++(db 6 c.by_++(db 4 c.serial++fS c)):=by unfold eE fS;split;{simp[dQ]};split;{simp[dQ]};split;{simp[dQ]};split<;>simp[dQ]
theorem Fq(c:Cmd):(fS c).length<=12:=by unfold fS;split;{simp[db,gQ]};split;{simp[db,gQ]};split;{simp[db,gQ]};split<;>simp[db,gQ]
theorem CD(c:Cmd):11<=(eE c).length/\(eE c).length<=23:=by have:=Fq c;rw[pR];simp only[ZQ,db,gQ];omega
theorem Ct{n:Int}{k:Nat}(h:dW n k=true)(R:Z8 UInt8)(d:Bool):dk (cN (db k n++R),d) k=(cN R,d):=by have:=HL n k R;rw[ZH]at this;rw[dk,ZX (by rw[nZ h];simp),this]
theorem Ou{c:Cmd}(ok:CmdOk c):eG (cN (eE c))=(c,(cN [],false)):=by have B:ik (6:Int).toNat=1099511627776:=dc;have V:ik (4:Int).toNat=4294967295:=dc;have N:ik (1:Int).toNat=255:=dc;have ⟨o1,o2,o3,o4,o5,o6,o7,o8,o9,o10,o11,o12⟩:=ok;(have w:∀n:Int,0<=n->n<=255->dW n 1=true:=λn l d=>by rw[dW,N];simp[ej];omega);(have y:∀n:Int,0<=n->n<=1099511627776->dW n 6=true:=λn l d=>by rw[dW,B];simp[ej];omega);(have z:∀n:Int,0<=n->n<=4294967295->dW n 4=true:=λn l d=>by rw[dW,V];simp[ej];omega);have m:∀(n:Int) (R:Z8 UInt8),0<=n->n<=255->dk (cN (db 1 n++R),false) 1=(cN R,false):=λn R l d=>Ct (k:=1) (w n l d) R false;have t:∀(n:Int) (R:Z8 UInt8),0<=n->n<=1099511627776->dk (cN (db 6 n++R),false) 6=(cN R,false):=λn R l d=>Ct (k:=6) (y n l d) R false;have L:∀(n:Int) (R:Z8 UInt8),0<=n->n<=4294967295->dk (cN (db 4 n++R),false) 4=(cN R,false):=λn R l d=>Ct (k:=4) (z n l d) R false;have g1:∀(n:Int) (R:Z8 UInt8),0<=n->n<=255->cG (cN (db 1 n++R)) 0 1=(n,0):=λn R l d=>nZ (w n l d) R;have p:∀(n:Int) (R:Z8 UInt8),0<=n->n<=1099511627776->cG (cN (db 6 n++R)) 0 6=(n,0):=λn R l d=>nZ (y n l d) R;have M:∀(n:Int) (R:Z8 UInt8),0<=n->n<=4294967295->cG (cN (db 4 n++R)) 0 4=(n,0):=λn R l d=>nZ (z n l d) R;have O:min c.kind 127=c.kind:=om;have ⟨kind,by_,serial,dead,was,lo,hi,mode⟩:=c;dsimp only at*;rw[eG,pR,g1 _ _ od od,m _ _ od od];dsimp only;rw[p _ _ om om,t _ _ om om];rw[M _ _ om om,L _ _ om om,O];unfold fS;dsimp only;split;{rename_i e;rw[g1 _ _ om om,m _ _ om om];rw[g1 _ _ om om,m _ _ om om];dsimp only;rw[g1 _ _ om om,m _ _ om om,show min mode 127=mode by omega,o11 om om,o12 om]};rename_i o;split;{rename_i e;rw[g1 _ _ om om,m _ _ om om];dsimp only;rw[g1 _ _ om om,m _ _ om om,o11 om om,o12 om,o10 o]};rename_i T;have ⟨o13,o14⟩:=o9 o T;split;{rename_i e;rw[p _ _ om om,t _ _ om om];dsimp only;rw[p _ _ om om,t _ _ om om,o10 o,o13,o14]};rename_i u;split;{rename_i e;rw[p _ _ om om,t _ _ om om];dsimp only;rw[o10 o,o13,o14,o12 u]};rename_i E;rw[o10 o,o13,o14,o12 u,o11 u E]
theorem KH{c:Cmd}(h:eo c=true):lu (cN (eE c))=c/\jX (cN (eE c))=0:=
 ug (Ou (qP h)) (by show((false|| !((cN []).toList==ByteArray.empty.toList))|| !eo c)=false;rw[tJ,gx,h];rfl)
def km(c:Cmd):Z5:=cN (gH 5 (eE c))
theorem SM{c:Cmd}(h:eo c=true):qA (cN (eE c))=km c/\rZ (cN (eE c))=0/\fg (km c)=true/\gp (km c)=c/\jv (km c)=cN (eE c)/\fB (km c)=0/\(km c).size=7+(eE c).length:=by have ⟨h1,h2⟩:=KH h;have u:=CD c;(have p:iz 5 (cN (eE c))=(km c,0):=by rw[iz,ZX (by rw[gx];omega),iY,km];rfl);(have m:(km c).size=7+(eE c).length:=by rw[km,gx,pz]);have t:gu (km c)=true:=xR dc dc om;(have d:gO 5 (km c)=true:=by rw[gO,t,km,vM];rfl);(have o:gF 5 (km c)=cN (eE c):=by rw[gF,ZW d,km,uO]);(have l:fg (km c)=true:=by rw[fg,o,h2,i3,ZW d,tJ,Yd om];rfl);refine⟨by rw[qA,ZW h2,p],by rw[rZ,ZW h2,p],l,by rw[gp,ZW l,o,h1],by rw[jv,ZW l,o],by rw[fB,ZW (.inr l)],m⟩
theorem IU(l:Z8 Cmd):∀u∈l.flatMap Cmd.cells,u.oneCell'=true:=by intro u d;simp only[YW]at d;obtain⟨a,_,d⟩:=d;simp at d;rcases d with rfl|rfl|rfl|rfl|rfl|rfl|rfl|rfl<;>rfl
def gV:Z8 Z5->Z8 Cmd->Z8 Cmd×Int
 |[],acc=>(acc,0)
 |s::r,acc=>if fB s≠0 then([],fB s)else if fg s=false then(acc,0)else gV r (acc++[gp s])
theorem Nb(c:Cmd)(x:Z5)(ok:Bool)(m:Z7)(b:Nat)(w:Z6)(d:w.heap[b]? =some (.cells (BS c x ok m).toArray 323 (0,0))): Rt 193 #[.pointer (some ⟨b,0,none⟩)] w (.bool (!ok)):=by refine j5 [.a (.ptr 0 0)] d Tryz.func193 J J J J<|zW J<|Qb J λE o l=>?_;exact⟨J,iI d l lr J J J⟩
def wl(r:Z8 Cmd×Int)(w:Z6)(e:Ending)(w':Z6):Prop:=
 (∃v,e=.returned (.tuple #[v,I r.2])/\w'.ownsRow w.heap.size 139 8 v r.1.length (r.1.flatMap Cmd.cells))/\cH w w'
theorem Px(V:Vw)(M:Z7)(L:Z8 Z5)(w:Z6)(hV:V.le (vw w))(y:SlOf V da 1 M L)(N:∀s∈L,s.size<=maxLen)(O:L.length<=1000000): Cl 126 #[M] w (wl (gV L []) w):=by have p:=y.mono hV;refine dU J<|QY J (yN J p)<|zA J<|mV 0 10 139 8 J J<|zL [4,10,11] [0,1] J J (σ:=Nat×Z8 Cmd×Cmd×Z5×Bool) (λ(k,l,c,s,ok)=>[(12,.a (.v (I k)))]) (λ(k,l,c,s,ok)=>[(0,.lit (sT c s ok (.row 1)) 323),(1,.row 139 8 l.length (l.flatMap Cmd.cells))]) (λ(k,l,c,s,ok)=>k<=L.length/\gV L []=gV (L.drop k) l/\l.length=k) (λ(k,l,c,s,ok)=>L.length - k) ((0,[],rC,ByteArray.empty,false)) (⟨om,J,J⟩) ?_;rintro⟨k,l,c,s,ok⟩ ⟨Y,d,z⟩;refine dD J ?_ ?_<;>intro h;{obtain⟨x,o⟩:=p.at (k:=k) om;refine QY J (yI J p)<|QY J (yL k 0 J p o J)<|zA J ?_;have R:=N x (ZZ o);rw[gX o,gV]at d;refine QZ J (We 0 x c s ok (.row 1) J _ J (λE=>rfl) J R) λ_ _=>cJ J ?_ ?_<;>intro h;{refine Qb J λE B m=>?_;rw[ZW h]at d;refine⟨⟨_,by rw[d];rfl,?_⟩,m.below lr⟩;rw[d];exact World.ownsRow_nil _ _ _ _};have T:=h;rw[ZX (by simp[T])]at d;refine dq J (λX E W m=>Nb (gp x) (jv x) (fg x) _ _ _ (m.lit 0 _ _ J))<|du [4,10,11,12,25] J<|Qw<|Qn J ?_ ?_<;>intro h;{refine QN<|QK<|sO J<|QK<|QK<|QQ<|Sg<|Sd 6 [2,3] J<|cL aJ J ?_;have u:fg x=false:=cU h;rw[ZW u]at d;intro E B m _;refine⟨⟨_,by rw[d];rfl,?_⟩,m.below lr⟩;rw[d];exact m.rowFresh lr J};refine zB J<|gE [14] ([(0,.lit (sT (gp x) (jv x) (fg x) (.row 1)) 323)]) mixed oo kc<|QD [0,1,2,3,4,5,6,7,8,9] J<|QS<|Qo 10 ?_;have u:fg x=true:=cU h;rw[ZX (by simp[u])]at d;refine Qg 10 J J (cX aJ 8 J J J) λ_ _=>zG 11 J (cQ aJ ([gp x].flatMap Cmd.cells) J (λE w m=>dZ (m.row 2 _ _ _ _ J)) (λ_ _ _=>IU _) od) λ_ _=>Qx [12,13] J<|zJ 14 J<|zH J ?_;rw[<-ZF,show l.length+1=(l++[gp x]).length by simp,cx om om];refine dx 1 3 J<|Qr ((k+1,l++[gp x],gp x,jv x,fg x))<|⟨om,d,by simp[z]⟩};refine cL aJ J ?_;have t:k=L.length:=om;subst t;rw[Zp,gV]at d;intro E B m _;refine⟨⟨_,by rw[d];rfl,?_⟩,m.below lr⟩;rw[d];exact m.rowFresh lr J
def A1(r:Z8 Cmd×Int)(x:Z7)(V':Vw):Prop:= ∃v,x=.tuple #[v,I r.2]/\SlOf V' Cmd.cells 8 v r.1
theorem Bi{c:Cmd}(h:eo c=true):l5 c=cN (eE c)/\lz c=0:=by rw[l5,lz,ZW h,ZW h];exact⟨J,J⟩
theorem RO:fB ByteArray.empty=0:=by rw[fB,ZW (.inl (by rw[tJ];rfl))]
abbrev xS:Z5:=⟨#[120]⟩
def rv(n:Int):Int:=if gy n=true then n.tmod 16 else -1
theorem xq(n:Int)(w:Z6):Rt 212 #[I n] w (I (rv n)):=by refine dU J<|zC J (tI _)<|cS J ?_ ?_<;>intro h;{refine Tz J λE=>?_;rw[rv,ZX (cU h)];rfl};refine QY J (pZ J (λd=>dc))<|zA J<|Tz J λE=>?_;rw[rv,ZW (cU h)];rfl
theorem Oq{c:Cmd}(h:((gy c.by_&&decide (1<=c.serial))&&decide (c.serial<=2147483648))=false):eo c=false:=by rw[eo,h];rfl
theorem Ll(c:Cmd):c.eqB ⟨c.kind,c.by_,c.serial,0,0,0,0,0⟩=iX c false false false false:=by rw[Ze];simp[Cmd.eqB,iX,and_assoc,and_comm,and_left_comm]
theorem Mv(c:Cmd):((c.eqB ⟨c.kind,c.by_,c.serial,0,0,c.lo,c.hi,c.mode⟩&&m9 c.lo c.hi)&&(c.mode==1||c.mode==2))=iX c true true false false:=by
 rw[Ze];simp[Cmd.eqB,iX,m9]
 try omega
theorem SS(c:Cmd):(c.eqB ⟨c.kind,c.by_,c.serial,0,0,c.lo,c.hi,0⟩&&m9 c.lo c.hi)=iX c true false false false:=by
 rw[Ze];simp[Cmd.eqB,iX,m9]
 try omega
theorem Sw(c:Cmd):((c.eqB ⟨c.kind,c.by_,c.serial,c.dead,c.was,0,0,0⟩&&gy c.dead)&&(c.was==0||gy c.was))=iX c false false true true:=by
 simp[Cmd.eqB,iX,gy]
 try omega
theorem Uk(c:Cmd):(c.eqB ⟨c.kind,c.by_,c.serial,c.dead,0,0,0,0⟩&&gy c.dead)=iX c false false true false:=by
 rw[Ze];simp[Cmd.eqB,iX,gy]
 try omega
theorem MS(c:Cmd)(w:Z6):Rt 239 #[c.val] w (.bool (eo c)):=by
 refine dU J<|zC J (tI c.by_)<|cJ J ?_ ?_<;>intro h
 .refine Tz J λE=>?_;rw[Oq];{rfl}
  grind
 obtain⟨⟨g1,g2⟩,u⟩:=h;(have d:((gy c.by_&&decide (1<=c.serial))&&decide (c.serial<=2147483648))=true:=by simp_all);refine Qs J<|cS J ?_ ?_<;>intro h
 .refine dv J (λl=>?_) λl=>?_;{have e:c.kind=0:=cU h;refine QY J (hU (.bool (c.eqB ⟨c.kind,c.by_,c.serial,0,0,0,0,0⟩)) J (λE w=>tW c ⟨c.kind,c.by_,c.serial,0,0,0,0,0⟩ w (.inl J)))<|zA J<|Tz J λE=>?_;rw[eo,d,ZI,ZW (.inl e),<-Ll];rfl}
  simp_all
 refine dv J (λl=>?_) λl=>?_;{have e:c.kind=1:=cU l;refine QY J (hU (.bool (c.eqB ⟨c.kind,c.by_,c.serial,0,0,0,0,0⟩)) J (λE w=>tW c ⟨c.kind,c.by_,c.serial,0,0,0,0,0⟩ w (.inl J)))<|zA J<|Tz J λE=>?_;rw[eo,d,ZI,ZW (.inr e),<-Ll];rfl};refine dv J (λt=>?_) λt=>?_;{refine Qs J<|zA J<|Qs J<|zA J ?_;have e:c.kind=2:=cU t;have f: ¬(c.kind=0\/c.kind=1):=om;refine QY J (hU (.bool (c.eqB ⟨c.kind,c.by_,c.serial,0,0,c.lo,c.hi,c.mode⟩)) J (λE w=>tW c ⟨c.kind,c.by_,c.serial,0,0,c.lo,c.hi,c.mode⟩ w (.inl J)))<|zA J<|Tz J λE=>?_;rw[eo,d,ZI,ZX f,ZW e,<-Mv];rfl};refine dv J (λo=>?_) λo=>?_;{refine Qs J<|zA J ?_;have e:c.kind=3:=cU o;have f: ¬(c.kind=0\/c.kind=1):=om;refine QY J (hU (.bool (c.eqB ⟨c.kind,c.by_,c.serial,0,0,c.lo,c.hi,0⟩)) J (λE w=>tW c ⟨c.kind,c.by_,c.serial,0,0,c.lo,c.hi,0⟩ w (.inl J)))<|zA J<|Tz J λE=>?_;rw[eo,d,ZI,ZX f,ZX om,ZW e,<-SS];rfl};refine dv J (λp=>?_) λp=>?_;{refine Qs J<|zA J<|Qs J<|zA J ?_;have e:c.kind=4:=cU p;have f: ¬(c.kind=0\/c.kind=1):=om;refine QY J (hU (.bool (c.eqB ⟨c.kind,c.by_,c.serial,c.dead,c.was,0,0,0⟩)) J (λE w=>tW c ⟨c.kind,c.by_,c.serial,c.dead,c.was,0,0,0⟩ w (.inl J)))<|zA J<|zC J (tI c.dead)<|zA J<|zC J (tI c.was)<|zA J<|Tz J λE=>?_;rw[eo,d,ZI,ZX f,ZX om,ZX om,ZW e,<-Sw];rfl};refine dv J (λm=>?_) λm=>?_;{refine Qs J<|zA J ?_;have e:c.kind=5:=cU m;have f: ¬(c.kind=0\/c.kind=1):=om;refine QY J (hU (.bool (c.eqB ⟨c.kind,c.by_,c.serial,c.dead,0,0,0,0⟩)) J (λE w=>tW c ⟨c.kind,c.by_,c.serial,c.dead,0,0,0,0⟩ w (.inl J)))<|zA J<|zC J (tI c.dead)<|zA J<|Tz J λE=>?_;rw[eo,d,ZI,ZX f,ZX om,ZX om,ZX om,ZW e,<-Uk];rfl};refine Tz J λE=>?_;rw[eo,d,ZI];simp at h l t o p m;rw[ZX om,ZX om,ZX om,ZX om,ZX om];rfl
theorem uK{n:Int}(m:0<=n)(l:n<=255):db 1 n=[fh n]/\IntKind.u8.wrap n=(((fh n).toNat:Nat):Int):=by (have d:(fh n).toNat=n.toNat:=by rw[fh,X9];omega);refine⟨?_,by rw[d,IntKind.wrap_u8'];omega⟩;have e:db 1 n=[UInt8.ofNat (n.toNat / pw 0%256)]:=rfl;rw[e,fh];congr 1;apply UInt8.toNat.inj;rw[X9,X9,show pw 0=1 from J];omega
theorem mn(c:Cmd)(w:Z6):Rt 187 #[c.val] w (.tuple #[S (l5 c),I (lz c)]):=by refine dU J<|zC J (MS c)<|cJ J ?_ ?_<;>intro h;{refine Tz J λE=>?_;rw[l5,lz,ZX (by simp[h]),ZX (by simp[h])];rfl};have l:=h;clear h;have ok:=qP l;have Y:=ok.kind;have a0:=ok.by_;have a7:=ok.serial;have aa:=ok.lo;have a8:=ok.hi;have X:=ok.mode;have a5:=ok.dead;have Z:=ok.was;have T:ik (6:Int).toNat=1099511627776:=dc;have m4:ik (4:Int).toNat=4294967295:=dc;(have p:∀n:Int,0<=n->n<=1099511627776->dW n 6=true:=λn h1 h2=>by rw[dW,T];simp[ej];omega);have W:io 6 [c.by_]=true:=rg (p _ om om);have R:io 4 [c.serial]=true:=rg (by rw[dW,m4];simp[ej];omega);have N:ej 6=true:=rfl;have ⟨k1,k2⟩:=uK (n:=c.kind) om om;obtain⟨B,y⟩:∃B,(dQ (dQ [fh c.kind] 6 [c.by_]) 4 [c.serial])=B:=⟨_,J⟩;(have base:dQ (dQ (dQ [] 1 [c.kind]) 6 [c.by_]) 4 [c.serial]=B:=by rw[<-y];simp[dQ,k1]);(have lB:B.length=11:=by rw[<-y];simp[dQ,db,gQ]);have ⟨lo1,lo2⟩:=uK (n:=c.lo) om om;have ⟨hi1,hi2⟩:=uK (n:=c.hi) om om;have ⟨mode1,mode2⟩:=uK (n:=c.mode) om om;rw[k2];refine QZ J (cX aJ 1 J J J) λ_ _=>zA J<|QZ J (cX aJ 1 J J J) λ_ _=>QZ J (qU [fh c.kind] 6 [c.by_] J W sm sm (λE w d=>⟨E.κ 1,E.κ 2,J,d.rowOf 1 J cw,d.rowOf (enc:=cB) (L:=[c.by_]) 2 J cw⟩)) λ_ _=>zA J<|QZ J (cX aJ 1 J J J) λ_ _=>?_;(have l2:(dQ [fh c.kind] 6 [c.by_]).length=7:=by simp[dQ,db,gQ]);refine QZ J (qU (dQ [fh c.kind] 6 [c.by_]) 4 [c.serial] J R (by rw[l2];omega) sm (λE w d=>⟨E.κ 3,E.κ 4,J,d.rowOf 3 J cw,d.rowOf (enc:=cB) (L:=[c.serial]) 4 J cw⟩)) λ_ _=>cS J ?_ ?_<;>intro h;{have e2:c.kind=2:=cU h;rw[y];rw[lo2,hi2,mode2];refine QZ J (cX aJ 1 J J J) λ_ _=>QZ J (cQ aJ ([fh c.lo,fh c.hi,fh c.mode].flatMap fV) J (λE w d=>dZ (d.row 6 _ _ _ _ J)) (λ_ _ _=>sS _) od) λ_ _=>zA J ?_;rw[<-ZF,show B.length+3=(B++[fh c.lo,fh c.hi,fh c.mode]).length by simp,show B++[fh c.lo,fh c.hi,fh c.mode]=dQ B 1 [c.lo,c.hi,c.mode] by simp[dQ,lo1,hi1,mode1]];refine QY J (cW (s:=.a (.v (.string (cN (eE c))))) 7 J J (λv t m=>oY aJ _ J (λo=>by rw[eE,ZW e2,base];exact m)))<|zA J<|Tz J λE=>?_;rw[l5,lz,ZW l,ZW l];rfl};have u: ¬c.kind=2:=cU h;rw[y];refine dv J ?_ ?_<;>intro h;{have e3:c.kind=3:=cU h;rw[lo2,hi2];refine QZ J (cX aJ 1 J J J) λ_ _=>QZ J (cQ aJ ([fh c.lo,fh c.hi].flatMap fV) J (λE w d=>dZ (d.row 6 _ _ _ _ J)) (λ_ _ _=>sS _) od) λ_ _=>zA J ?_;rw[<-ZF,show B.length+2=(B++[fh c.lo,fh c.hi]).length by simp,show B++[fh c.lo,fh c.hi]=dQ B 1 [c.lo,c.hi] by simp[dQ,lo1,hi1]];refine QY J (cW (s:=.a (.v (.string (cN (eE c))))) 7 J J (λv t m=>oY aJ _ J (λo=>by rw[eE,ZX u,ZW e3,base];exact m)))<|zA J<|Tz J λE=>?_;rw[l5,lz,ZW l,ZW l];rfl};have M: ¬c.kind=3:=cU h;refine dv J ?_ ?_<;>intro h;{have e4:c.kind=4:=cU h;(have z:io 6 [c.dead,c.was]=true:=by simp only[io,g_,List.all_nil,YE,Z1];exact⟨N,⟨p _ om om,p _ om om⟩⟩);refine QZ J (cX aJ 1 J J J) λ_ _=>QZ J (qU B 6 [c.dead,c.was] J z om sm (λE w d=>⟨E.κ 5,E.κ 6,J,d.rowOf 5 J cw,d.rowOf (enc:=cB) (L:=[c.dead,c.was]) 6 J cw⟩)) λ_ _=>zA J<|QY J (cW (s:=.a (.v (.string (cN (eE c))))) 7 J J (λv t m=>oY aJ _ J (λo=>by rw[eE,ZX u,ZX M,ZW e4,base];exact m)))<|zA J<|Tz J λE=>?_;rw[l5,lz,ZW l,ZW l];rfl};have O: ¬c.kind=4:=cU h;refine dv J ?_ ?_<;>intro h;{have V:c.kind=5:=cU h;(have z:io 6 [c.dead]=true:=by simp only[io,g_,List.all_nil,YE,Z1];exact⟨N,p _ om om⟩);refine QZ J (cX aJ 1 J J J) λ_ _=>QZ J (qU B 6 [c.dead] J z om sm (λE w d=>⟨E.κ 5,E.κ 6,J,d.rowOf 5 J cw,d.rowOf (enc:=cB) (L:=[c.dead]) 6 J cw⟩)) λ_ _=>zA J<|QY J (cW (s:=.a (.v (.string (cN (eE c))))) 7 J J (λv t m=>oY aJ _ J (λo=>by rw[eE,ZX u,ZX M,ZX O,ZW V,base];exact m)))<|zA J<|Tz J λE=>?_;rw[l5,lz,ZW l,ZW l];rfl};have f5: ¬c.kind=5:=cU h;refine QY J (cW (s:=.a (.v (.string (cN (eE c))))) 5 J J (λv t m=>oY aJ _ J (λo=>by rw[eE,ZX u,ZX M,ZX O,ZX f5,base];exact m)))<|zA J<|Tz J λE=>?_;rw[l5,lz,ZW l,ZW l];rfl
theorem Nn(a b:Nat):pw (a+b)=pw a*pw b:=by rw[pw,pw,pw,Nat.pow_add]
theorem FD{f:Nat->Nat}(m:∀j,f j<256):∀(k j:Nat),j<k->eW f k / pw j%256=f j
 |k+1,j,h=>by
  have hlt:=Ak m k
  have l:=m k
  rw[eW]
  by_cases o:j=k
  ·
   subst o
   rw[X' _ _ (uc j),d_ hlt,Zo,T' l]
  ·
   have p:=FD m k j om
   obtain⟨d,rfl⟩:∃d,k=(j+1)+d:=⟨k - (j+1),om⟩
   have e:f (j+1+d)*pw (j+1+d)=(f (j+1+d)*pw d*256)*pw j:=by
    rw[Nn,qW]
    simp only[Nat.mul_assoc,r_,Nat.mul_left_comm]
   rw[e,X' _ _ (uc j),V_,p]
theorem Rg{s:Z5}{k:Nat}(h:(cG s 0 k).2=0):(cG s 0 k).1=((eW (dL s 0) k:Nat):Int):=by unfold cG at h⊢;split at h;{simp at h};rename_i d;rw[ZX d];split at h;{simp at h};rename_i l;rw[ZX l];split at h;{simp at h};rename_i m;rw[ZX m];rfl
theorem Ji{s:Z5}{k:Nat}(h:(cG s 0 k).2=0):s=cN (db k (cG s 0 k).1++(fj s k).data.toList):=by
 have ⟨hw,_,hle⟩:=vj h;have m:=ll s;have l:k<=s.data.toList.length:=om;apply lD;rw[iY,nB,Rg h]
 conv=>lhs;rw[<-YQ k s.data.toList]
 congr 1;apply List.ext_getElem;{rw[ZL,db,gQ,ZH];omega};intro i o p;(have d:i<k:=by rw[ZL]at o;omega);rw[List.getElem_take];simp only[db,ij,ZH,List.getElem_map,List.getElem_range];rw[FD (l7 s 0) k i d,dL,p8,Zo,UInt8.ofNat_toNat];rw[List.getD_eq_getElem?_getD,List.getElem?_eq_getElem om];rfl
theorem iu{t:Z5×Bool}{k:Nat}(K:Int)(l:(k:Int)=K)(h:(dk t k).2=false):t.2=false/\t.1.data.toList=db K (cG t.1 0 K).1++(dk t k).1.data.toList:=by subst l;rw[dk]at h⊢;split at h;{simp at h};rename_i d;rw[ZX d];refine⟨h,?_⟩;have:=Y5 (λx:Z5=>x.data.toList) (Ji (k:=k) (cU d));exact this
theorem vG{t:Z5}(h:t=ByteArray.empty):t.data.toList=[]:=by rw[h];rfl
theorem sP{n:Int}(h:min n 127<=5):min n 127=n:=om
theorem WK{s:Z5}(p:min (cG s 0 1).1 127=2)(m:(eG s).2.2=false)(d:(eG s).2.1=ByteArray.empty)(ok:CmdOk (eG s).1):s=cN (eE (eG s).1):=by rw[pR];unfold eG at m d ok⊢;rw[ZW p]at m d ok⊢;have ⟨a6,b6⟩:=iu 1 J m;have ⟨a5,b5⟩:=iu 1 J a6;have ⟨a4,b4⟩:=iu 1 J a5;have ⟨a3,b3⟩:=iu 4 J a4;have ⟨a2,b2⟩:=iu 6 J a3;have ⟨a1,b1⟩:=iu 1 J a2;have l:=ok.kind;have o:=ok.mode;dsimp only at d l o b1 b2 b3 b4 b5 b6;apply lD;rw[iY,b1,b2,b3,b4,b5,b6,vG d,fS];dsimp only;rw[ZW p,sP (n:=(cG s 0 1).1) om,sP (n:=(cG (dk (dk (dk (dk (dk (s,false) 1) 6) 4) 1) 1).1 0 1).1) om]
theorem VY{s:Z5}(t: ¬min (cG s 0 1).1 127=2)(p:min (cG s 0 1).1 127=3)(m:(eG s).2.2=false)(d:(eG s).2.1=ByteArray.empty)(ok:CmdOk (eG s).1):s=cN (eE (eG s).1):=by rw[pR];unfold eG at m d ok⊢;rw[ZX t,ZW p]at m d ok⊢;have ⟨a5,b5⟩:=iu 1 J m;have ⟨a4,b4⟩:=iu 1 J a5;have ⟨a3,b3⟩:=iu 4 J a4;have ⟨a2,b2⟩:=iu 6 J a3;have ⟨a1,b1⟩:=iu 1 J a2;have l:=ok.kind;have o:=ok.mode;dsimp only at d l o b1 b2 b3 b4 b5;apply lD;rw[iY,b1,b2,b3,b4,b5,vG d,fS];dsimp only;rw[ZX t,ZW p,sP (n:=(cG s 0 1).1) om]
theorem VC{s:Z5}(u: ¬min (cG s 0 1).1 127=2)(p: ¬min (cG s 0 1).1 127=3)(t:min (cG s 0 1).1 127=4)(l:(eG s).2.2=false)(d:(eG s).2.1=ByteArray.empty)(ok:CmdOk (eG s).1):s=cN (eE (eG s).1):=by rw[pR];unfold eG at l d ok⊢;rw[ZX u,ZX p,ZW t]at l d ok⊢;have ⟨a5,b5⟩:=iu 6 J l;have ⟨a4,b4⟩:=iu 6 J a5;have ⟨a3,b3⟩:=iu 4 J a4;have ⟨a2,b2⟩:=iu 6 J a3;have ⟨a1,b1⟩:=iu 1 J a2;have m:=ok.kind;have o:=ok.mode;clear ok l;dsimp only at d m o b1 b2 b3 b4 b5;apply lD;rw[iY,b1,b2,b3,b4,b5,vG d,fS];dsimp only;rw[ZX u,ZX p,ZW t,sP (n:=(cG s 0 1).1) om]
theorem RM{s:Z5}(w: ¬min (cG s 0 1).1 127=2)(t: ¬min (cG s 0 1).1 127=3)(u: ¬min (cG s 0 1).1 127=4)(p:min (cG s 0 1).1 127=5)(l:(eG s).2.2=false)(d:(eG s).2.1=ByteArray.empty)(ok:CmdOk (eG s).1):s=cN (eE (eG s).1):=by rw[pR];unfold eG at l d ok⊢;rw[ZX w,ZX t,ZX u,ZW p]at l d ok⊢;have ⟨a4,b4⟩:=iu 6 J l;have ⟨a3,b3⟩:=iu 4 J a4;have ⟨a2,b2⟩:=iu 6 J a3;have ⟨a1,b1⟩:=iu 1 J a2;have m:=ok.kind;have o:=ok.mode;clear ok l;dsimp only at d m o b1 b2 b3 b4;apply lD;rw[iY,b1,b2,b3,b4,vG d,fS];dsimp only;rw[ZX w,ZX t,ZX u,ZW p,sP (n:=(cG s 0 1).1) om]
theorem UP{s:Z5}(w: ¬min (cG s 0 1).1 127=2)(t: ¬min (cG s 0 1).1 127=3)(u: ¬min (cG s 0 1).1 127=4)(p: ¬min (cG s 0 1).1 127=5)(l:(eG s).2.2=false)(d:(eG s).2.1=ByteArray.empty)(ok:CmdOk (eG s).1):s=cN (eE (eG s).1):=by rw[pR];unfold eG at l d ok⊢;rw[ZX w,ZX t,ZX u,ZX p]at l d ok⊢;have ⟨a3,b3⟩:=iu 4 J l;have ⟨a2,b2⟩:=iu 6 J a3;have ⟨a1,b1⟩:=iu 1 J a2;have m:=ok.kind;have o:=ok.mode;clear ok l;dsimp only at d m o b1 b2 b3;apply lD;rw[iY,b1,b2,b3,vG d,fS];dsimp only;rw[ZX w,ZX t,ZX u,ZX p,sP (n:=(cG s 0 1).1) om]
theorem LH{s:Z5}(h:pP (eG s)=true):eo (eG s).1=true/\s=cN (eE (eG s).1):=by simp only[pP,ZJ,Zf,Z_]at h;obtain⟨⟨l,u⟩,w⟩:=h;refine⟨w,?_⟩;(have d:(eG s).2.1=ByteArray.empty:=by rw[tJ,ZV]at u;exact VL u);have ok:=qP w;by_cases m:min (cG s 0 1).1 127=2;{exact WK m l d ok};by_cases o:min (cG s 0 1).1 127=3;{exact VY m o l d ok};by_cases p:min (cG s 0 1).1 127=4;{exact VC m o p l d ok};by_cases t:min (cG s 0 1).1 127=5;{exact RM m o p t l d ok};exact UP m o p t l d ok
theorem Cy(s:Z5):(∃c,eo c=true/\s=cN (eE c)/\lu s=c/\jX s=0)\/((∀c,eo c=true->s≠cN (eE c))/\lu s=rC/\jX s=100):=by
 cases d:pP (eG s)with
 |true=>have ⟨h1,l⟩:=LH d;exact .inl ⟨(eG s).1,h1,l,by rw[lu,ZW d],by rw[jX,ZW d]⟩
 |false=>refine .inr ⟨λc o m=>?_,by rw[lu,ZX (by simp[d])],by rw[jX,ZX (by simp[d])]⟩;have l:=(KH o).2;rw[<-m,jX,ZX (by simp[d])]at l;exact absurd l dc
def i6:Nat->Z5->Z8 Int->Z8 Int×Int
 |0,_,acc=>(acc,0)
 |f+1,r,acc=>if r.size=0 then(acc,0)else if(cG r 0 6).2≠0 then([],(cG r 0 6).2)else i6 f (fj r 6) (acc++[(cG r 0 6).1])
theorem T9(l:Z8 Int):∀u∈l.flatMap cB,u.oneCell'=true:=by intro u d;have ⟨x,_,hx⟩:=YW.1 d;simp only[cB,ZE]at hx;subst hx;rfl
def Xw(r:Z8 Int×Int)(w:Z6)(e:Ending)(w':Z6):Prop:=
 (∃v,e=.returned (.tuple #[v,I r.2])/\w'.ownsRow w.heap.size 3 1 v r.1.length (r.1.flatMap cB))/\cH w w'
theorem HN(s:Z5)(hs:s.size<=1000)(w:Z6):Cl 186 #[S s,I 6] w (Xw (i6 (s.size+1) s []) w):=by have o:nC 6=1099511627776:=dc;(have p:s.size<=maxLen:=by simp only[maxLen];omega);obtain⟨R,t⟩:∃r,i6 (s.size+1) s []=r:=⟨_,J⟩;rw[t];refine dN J<|zC J (zK 6)<|cS J ?_ ?_<;>intro h;{exfalso;rw[o]at h;exact absurd h dc};refine iD 6 3 1 J J<|zL [0,1] [0] J J (σ:=Nat×Nat×Z8 Int) (λ(a,f,m)=>[(6,.a (.row 0)),(7,.a (.v (I a)))]) (λ(a,f,m)=>[(0,.row 3 1 m.length (m.flatMap cB))]) (λ(a,f,m)=>a<=s.size/\s.size+1<=a+f/\R=i6 f (fj s a) m/\m.length<=a) (λ(a,f,m)=>s.size - a) ((0,s.size+1,[])) (⟨om,om,by rw[BI];exact t.symm,sm⟩) ?_;rintro⟨a,f,m⟩ ⟨z,L,d,B⟩;have u:=ud s a;obtain⟨f,rfl⟩:∃g,f=g+1:=⟨f - 1,om⟩;rw[i6]at d;refine dD J ?_ ?_<;>intro h;{rw[ZX om]at d;rw[wU s z]at d;refine zC J (tf s a 6 p)<|cJ J ?_ ?_<;>intro h;{refine cL aJ J ?_;rw[ZW h]at d;intro E y o _;refine⟨⟨_,by rw[d];rfl,?_⟩,o.below lr⟩;rw[d];exact World.ownsRow_nil _ _ _ _};rw[ZX (by simp[h])]at d;have ⟨_,_,hle⟩:=vj h;rw[xg]at d;clear h;refine QZ J (cX aJ 1 J J J) λ_ _=>QZ J (cQ aJ ([(cG s a 6).1].flatMap cB) J (λE w o=>dZ (o.row 1 _ _ _ _ J)) (λ_ _ _=>T9 _) od) λ_ _=>zA J ?_;rw[<-ZF,show m.length+1=(m++[(cG s a 6).1]).length by simp,cx (n:=(a:Int)+6) om om,show(a:Int)+6=((a+6:Nat):Int) by omega];refine dx 0 2 J<|Qr ((a+6,f,m++[(cG s a 6).1]))<|⟨om,om,d,by simp;omega⟩};refine cL aJ J ?_;rw[ZW om]at d;intro E y o _;refine⟨⟨_,by rw[d];rfl,?_⟩,o.below lr⟩;rw[d];exact o.rowFresh lr (l:=0) J
section
variable{o:Oper}{n:Nat}{F:cy}{C:Z8 Nat}{O:Go.Eng.Own}{nl:Nat}{V:Vw}
theorem Ln{P:Z3}{tt:Z8 (Nat×TI)}(d:dl P tt){p:Z8 (Nat×Bool)}{g:Bool}{s:Z5}{lo hi:Z4 Int}(r:Z5)
  (l:vF tt F p o.op=some (s,lo,hi)) (t:g=true->0<=lo.getD 0/\lo.getD 0<=hi.getD s.size/\hi.getD s.size<=s.size) (m:s.extract (lo.getD 0).toNat (hi.getD s.size).toNat=r):
  dY P o n F C O nl V p g (.a (.v (.string r))):=m▸pF d l t
theorem zb{p:Z8 (Nat×Bool)}(s:Z5)(r:Z8 Int×Int)(u:i6 (s.size+1) s []=r){t:Z8 SV}(y:fL F p o.op=some (186,t))(hs:s.size<=1000) (m:∀E,t.map (SV.den E)=[S s,I 6]): StepTo bJ o p n F C O nl V (σ:=Unit) (λ_=>True) (λ_=>.tup [.row nl,.v (I r.2)]) (λ_=>(nl,.row 3 1 r.1.length (r.1.flatMap cB))::O) (nl+1) (λ_=>V):=by refine vd (λ_=>True) (λ_=>.tup [.row nl,.v (I r.2)]) 3 1 (λ_=>r.1.length) (λ_=>r.1.flatMap cB) y (FN 186) (λ_=>by simp[SV.ok,dH,A.ok,eD]) ?_;intro E w z;rw[m E];refine(HN s hs w).mono ?_;rintro e B ⟨⟨v,rfl,d⟩,l⟩;rw[u]at d;exact⟨(),v,by rw[u];simp[SV.den,A.den,Env.setκ],d,l,ZY⟩
end
theorem po{s:Z5}(d:∀c,eo c=true->s≠cN (eE c))(c:Cmd):((lz c !=0)|| !(l5 c).toList==s.toList)=true:=by
 cases l:eo c with
 |false=>rw[lz,ZX (by simp[l])];rfl
 |true=>rw[(Bi l).1,(Bi l).2,zj];have:=d c l;simp only[bne_self_eq_false,A_,ZJ,Zl];intro m;exact this<|lD m.symm
theorem NJ(s:Z5)(hs:s.size<=1000)(d:∀c,eo c=true->s≠cN (eE c))(w:Z6): Rt 117 #[S s] w (.tuple #[rC.val,I 100]):=by
 (have t:s.size<=maxLen:=by simp only[maxLen];omega);refine dU J<|dD J ?_ ?_<;>intro h;{refine Qs J<|zA J<|Tz J λ_=>rfl};have X:=h;clear h;refine zC J (tf s 1 6 t)<|zA J<|zC J (tf s 7 4 t)<|zA J<|QY J (iq aJ J (λm=>om))<|cJ J ?_ ?_<;>intro h;{refine Qs J<|zA J<|Tz J λ_=>rfl};clear h;obtain⟨r,T⟩:∃r,fj s 11=r:=⟨_,J⟩;have M:=ud s 11;rw[T]at M;obtain⟨R,V⟩:∃R,i6 (r.size+1) r []=R:=⟨_,J⟩;obtain⟨K,W⟩:∃K,IntKind.i8.wrap (((eb s (0:Int).toNat).toNat:Nat):Int)=K:=⟨_,J⟩;obtain⟨y,Z⟩:∃y,(cG s 1 6).1=y:=⟨_,J⟩;obtain⟨z,Y⟩:∃z,(cG s 7 4).1=z:=⟨_,J⟩;refine QY J (iq aJ J (λm=>om))<|zA J<|Qs J<|zA J ?_;rw[W,Z,Y];refine QY J (Ln aJ r J (λm=>by simp only[Option.getD];omega) T)<|cS J ?_ ?_<;>intro h
 .refine dv J (λu=>?_) λu=>?_
  .refine dD J ?_ ?_<;>intro h;{refine Qs J<|zA J<|Tz J λ_=>rfl};refine Rb [8] J<|QD [0] J ?_;have N:=h;clear h;refine zu 1 J (iq aJ J (λm=>om))<|QD [2,3] J<|zu 4 J (iq aJ J (λm=>om))<|QD [5,6,7] J<|QS<|zJ 8 J<|nW J ?_ ?_<;>intro h;{refine QY J (iq aJ J (λm=>by simp at h;omega))<|zA J<|Qs J<|zA J<|zC J (mn ⟨_,_,_,_,_,_,_,_⟩)<|cS J ?_ ?_<;>intro h;{refine Qs J<|zA J<|Tz J λ_=>rfl};exact absurd (h.symm.trans (po d _)) dc};refine zC J (mn ⟨_,_,_,_,_,_,_,_⟩)<|cS J ?_ ?_<;>intro h;{refine Qs J<|zA J<|Tz J λ_=>rfl};exact absurd (h.symm.trans (po d _)) dc
  exact absurd (h.symm.trans u) dc
 refine dv J (λu=>?_) λu=>?_
 .refine dD J ?_ ?_<;>intro h;{refine Qs J<|zA J<|Tz J λ_=>rfl};refine Rb [8] J<|QD [0] J ?_;have N:=h;clear h;refine zu 1 J (iq aJ J (λm=>om))<|QD [2,3] J<|zu 4 J (iq aJ J (λm=>om))<|QD [5,6,7] J<|QS<|zJ 8 J<|nW J ?_ ?_<;>intro h;{refine QY J (iq aJ J (λm=>by simp at h;omega))<|zA J<|Qs J<|zA J<|zC J (mn ⟨_,_,_,_,_,_,_,_⟩)<|cS J ?_ ?_<;>intro h;{refine Qs J<|zA J<|Tz J λ_=>rfl};exact absurd (h.symm.trans (po d _)) dc};refine zC J (mn ⟨_,_,_,_,_,_,_,_⟩)<|cS J ?_ ?_<;>intro h;{refine Qs J<|zA J<|Tz J λ_=>rfl};exact absurd (h.symm.trans (po d _)) dc
 refine dv J (λO=>?_) λO=>?_
 .refine dv J (λB=>?_) λB=>?_
  .refine QZ J (zb r R V J om (λE=>rfl)) λ_ _=>cJ J ?_ ?_<;>intro h;{refine Qs J<|zA J<|Tz J λ_=>rfl};have ⟨g1,g2⟩:=h;have ⟨x,hx⟩:=fk (L:=R.1) (k:=0) om;refine QY J (cW (s:=.a (.rel 2 0)) 2 J J (λv p o=>dO aJ 0 J sm (λm=>o) (λm=>om)))<|QY J (cW (s:=.a (.v (I x))) 2 J J (λv p o=>dy (enc:=cB) (l:=R.1) aJ 0 0 x J (λm=>⟨o,cw⟩) (λm=>hx) sm J))<|zA J<|Qs J<|zA J<|dv J ?_ ?_<;>intro h;{have ⟨x2,hx2⟩:=fk (L:=R.1) (k:=1) (by simp at h;omega);refine QY J (cW (s:=.a (.rel 2 1)) 2 J J (λv p o=>dO aJ 1 J sm (λm=>o) (λm=>by simp at h;omega)))<|QY J (cW (s:=.a (.v (I x2))) 2 J J (λv p o=>dy (enc:=cB) (l:=R.1) aJ 1 0 x2 J (λm=>⟨o,cw⟩) (λm=>hx2) sm J))<|zA J<|Qs J<|zA J<|zC J (mn ⟨_,_,_,_,_,_,_,_⟩)<|cS J ?_ ?_<;>intro h;{refine Qs J<|zA J<|Tz J λ_=>rfl};exact absurd (h.symm.trans (po d _)) dc};refine zC J (mn ⟨_,_,_,_,_,_,_,_⟩)<|cS J ?_ ?_<;>intro h;{refine Qs J<|zA J<|Tz J λ_=>rfl};exact absurd (h.symm.trans (po d _)) dc
  exact absurd (B.symm.trans O) dc
 refine dv J (λB=>?_) λB=>?_
 .refine QZ J (zb r R V J om (λE=>rfl)) λ_ _=>cJ J ?_ ?_<;>intro h;{refine Qs J<|zA J<|Tz J λ_=>rfl};have ⟨g1,g2⟩:=h;have ⟨x,hx⟩:=fk (L:=R.1) (k:=0) om;refine QY J (cW (s:=.a (.rel 2 0)) 2 J J (λv p o=>dO aJ 0 J sm (λm=>o) (λm=>om)))<|QY J (cW (s:=.a (.v (I x))) 2 J J (λv p o=>dy (enc:=cB) (l:=R.1) aJ 0 0 x J (λm=>⟨o,cw⟩) (λm=>hx) sm J))<|zA J<|Qs J<|zA J<|dv J ?_ ?_<;>intro h;{have ⟨x2,hx2⟩:=fk (L:=R.1) (k:=1) (by simp at h;omega);refine QY J (cW (s:=.a (.rel 2 1)) 2 J J (λv p o=>dO aJ 1 J sm (λm=>o) (λm=>by simp at h;omega)))<|QY J (cW (s:=.a (.v (I x2))) 2 J J (λv p o=>dy (enc:=cB) (l:=R.1) aJ 1 0 x2 J (λm=>⟨o,cw⟩) (λm=>hx2) sm J))<|zA J<|Qs J<|zA J<|zC J (mn ⟨_,_,_,_,_,_,_,_⟩)<|cS J ?_ ?_<;>intro h;{refine Qs J<|zA J<|Tz J λ_=>rfl};exact absurd (h.symm.trans (po d _)) dc};refine zC J (mn ⟨_,_,_,_,_,_,_,_⟩)<|cS J ?_ ?_<;>intro h;{refine Qs J<|zA J<|Tz J λ_=>rfl};exact absurd (h.symm.trans (po d _)) dc
 refine zC J (mn ⟨_,_,_,_,_,_,_,_⟩)<|cS J ?_ ?_<;>intro h;{refine Qs J<|zA J<|Tz J λ_=>rfl};exact absurd (h.symm.trans (po d _)) dc
theorem oW(a b:Z8 UInt8):fj (cN (a++b)) a.length=cN b:=by apply lD;rw[nB,iY,iY,List.drop_left]
theorem xN(k n:Int):(db k n).length=k.toNat:=by rw[db,gQ]
theorem sR{n:Int}(l:0<=n)(d:n<=255)(R:Z8 UInt8):(eb (cN (db 1 n++R)) 0).toNat=n.toNat:=by rw[p8,iY,(uK l d).1,List.singleton_append];show(fh n).toNat=_;rw[fh,X9];omega
theorem xr(s:Z5)(i:Nat):eb s (i+1)=eb (fj s 1) i:=by rw[p8,p8,nB];simp
structure Facts(c:Cmd)(s r:ByteArray):Prop where
 size:s.size=11+(fS c).length
 g1:cG s 1 6=(c.by_,0)
 g2:cG s 7 4=(c.serial,0)
 k0:(eb s 0).toNat=c.kind.toNat
 rest:fj s 11=r
theorem s8{c:Cmd}(B:eo c=true):Facts c (cN (eE c)) (cN (fS c)):=by have ok:=qP B;have E:=ok.kind;have u:=ok.by_;have o:=ok.serial;have p:ik (6:Int).toNat=1099511627776:=dc;have w:ik (4:Int).toNat=4294967295:=dc;(have y:dW c.by_ 6=true:=by rw[dW,p];simp[ej];omega);(have t:dW c.serial 4=true:=by rw[dW,w];simp[ej];omega);have e:=pR c;(have m:fj (cN (eE c)) 1=cN (db 6 c.by_++(db 4 c.serial++fS c)):=by rw[e];exact oW (db 1 c.kind) _);(have l:fj (cN (eE c)) 7=cN (db 4 c.serial++fS c):=by rw[show 7=1+6 from J,<-xg,m];exact oW (db 6 c.by_) _);(have d:fj (cN (eE c)) 11=cN (fS c):=by rw[show 11=7+4 from J,<-xg,l];exact oW (db 4 c.serial) _);(have z:(cN (eE c)).size=11+(fS c).length:=by rw[gx,e];simp only[ZQ,xN];omega);refine⟨z,?_,?_,?_,d⟩;{have:=wU (cN (eE c)) (a:=1) om 6;rw[m,nZ y]at this;exact this.symm};{have:=wU (cN (eE c)) (a:=7) om 4;rw[l,nZ t]at this;exact this.symm};rw[e];exact sR om om _
theorem Oh{a b:Int}(o:0<=a/\a<=1099511627776)(t:0<=b/\b<=1099511627776):i6 ((cN (db 6 a++(db 6 b++[]))).size+1) (cN (db 6 a++(db 6 b++[]))) []=([a,b],0):=by
 have m:ik (6:Int).toNat=1099511627776:=dc;(have d:∀n:Int,0<=n/\n<=1099511627776->dW n 6=true:=λn h=>by rw[dW,m];simp[ej];omega);(have l:(cN (db 6 a++(db 6 b++[]))).size=12:=by rw[gx];simp;rfl);have p:(cN (db 6 b++[])).size=6:=by rw[gx];simp;rfl
 rw[l,i6,l,ZX dc,nZ (d a o),ZX sm,show fj (cN (db 6 a++(db 6 b++[]))) 6=cN (db 6 b++[])from oW (db 6 a) _,
  i6,p,ZX dc,nZ (d b t),ZX sm,show fj (cN (db 6 b++[])) 6=cN []from oW (db 6 b) _,i6,ZW (by rw[gx];rfl)]
 rfl
theorem SU{b:Int}(m:0<=b/\b<=1099511627776):i6 ((cN (db 6 b++[])).size+1) (cN (db 6 b++[])) []=([b],0):=by have l:ik (6:Int).toNat=1099511627776:=dc;(have o:∀n:Int,0<=n/\n<=1099511627776->dW n 6=true:=λn h=>by rw[dW,l];simp[ej];omega);(have d:(cN (db 6 b++[])).size=6:=by rw[gx];simp;rfl);rw[d,i6,d,ZX dc,nZ (o b m),ZX sm,show fj (cN (db 6 b++[])) 6=cN []from oW (db 6 b) _,i6,ZW (by rw[gx];rfl)];rfl
theorem ND{s:Z5}{c:Cmd}(l:eo c=true)(hs:cN (eE c)=s)(d:Cmd)(h:d=c)(w:Z6):Rt 187 #[d.val] w (.tuple #[S s,I 0]):=by
 subst h;have ⟨h1,h2⟩:=Bi l;have:=mn d w
 simp_all
theorem vD{b:UInt8}{n:Int}(l:0<=n)(d:n<=127)(h:b.toNat=n.toNat):IntKind.i64.wrap ((b.toNat:Nat):Int)=n/\IntKind.i8.wrap ((b.toNat:Nat):Int)=n:=by rw[h,show((n.toNat:Nat):Int)=n by omega];exact⟨cx om om,Ca l d⟩
theorem SN{b:UInt8}{n:Int}(l:0<=n)(d:n<=2)(h:b.toNat=n.toNat):IntKind.i8.wrap (bits .and .u8 ((b.toNat:Nat):Int) 127)=n:=by rw[h];have:n=0\/n=1\/n=2:=om;rcases this with rfl|rfl|rfl<;>decide
theorem VM(c:Cmd)(hc:eo c=true)(w:Z6):Rt 117 #[S (cN (eE c))] w (.tuple #[c.val,I 0]):=by
 have ok:=qP hc;have W:=ok.kind;have R:=ok.lo;have O:=ok.hi;have B:=ok.mode;have M:=ok.dead;have X:=ok.was;have ⟨fz,g1,g2,k0,hr⟩:=s8 hc;(have Z:c.kind≠2->c.kind≠3->c.kind=4\/c.kind=5->i6 ((cN (fS c)).size+1) (cN (fS c)) []=(if c.kind=4 then [c.dead,c.was]else [c.dead],0):=by intro n2 n3 h;rw[fS,ZX n2,ZX n3];(rcases h with h|h);{rw[ZW h,ZW h];exact Oh M X};rw[ZX om,ZW h,ZX om];exact SU M);have hl:=Fq c;have t:(cN (fS c)).size=(fS c).length:=gx _;have y:=ND hc (s:=cN (eE c)) J;have ⟨y1,y2⟩:=vD (b:=eb (cN (eE c)) (0:Int).toNat) W.1 om k0;(have r2:c.kind=2->(cN (fS c)).size=3/\(eb (cN (fS c)) 0).toNat=c.lo.toNat/\(eb (cN (fS c)) 1).toNat=c.hi.toNat/\(eb (cN (fS c)) 2).toNat=c.mode.toNat:=by intro h;(have e:fS c=db 1 c.lo++(db 1 c.hi++(db 1 c.mode++[])):=by rw[fS,ZW h]);rw[t,e];have V:fj (cN (db 1 c.lo++(db 1 c.hi++(db 1 c.mode++[])))) 1=cN (db 1 c.hi++(db 1 c.mode++[])):=oW (db 1 c.lo) _;have x2:fj (cN (db 1 c.hi++(db 1 c.mode++[]))) 1=cN (db 1 c.mode++[]):=oW (db 1 c.hi) _;refine⟨by simp only[ZQ,xN,Ys];rfl,sR om om _,?_,?_⟩;{rw[xr _ 0,V];exact sR om om _};rw[xr _ 1,V,xr _ 0,x2];exact sR om om _);(have r3:c.kind=3->(cN (fS c)).size=2/\(eb (cN (fS c)) 0).toNat=c.lo.toNat/\(eb (cN (fS c)) 1).toNat=c.hi.toNat:=by intro h;(have e:fS c=db 1 c.lo++(db 1 c.hi++[]):=by rw[fS,ZX om,ZW h]);rw[t,e];have V:fj (cN (db 1 c.lo++(db 1 c.hi++[]))) 1=cN (db 1 c.hi++[]):=oW (db 1 c.lo) _;refine⟨by simp only[ZQ,xN,Ys];rfl,sR om om _,?_⟩;rw[xr _ 0,V];exact sR om om _);obtain⟨s,hs⟩:∃s,cN (eE c)=s:=⟨_,J⟩;obtain⟨r,Y⟩:∃r,cN (fS c)=r:=⟨_,J⟩;rw[hs]at fz g1 g2 k0 hr y y1 y2⊢;rw[Y]at hr Z r2 r3 t;(have L:s.size<=maxLen:=by simp only[maxLen];omega);refine dC [.a (.v (S s))] J<|dD J ?_ ?_<;>intro h;{omega};refine zC J (tf s 1 6 L)<|zA J<|zC J (tf s 7 4 L)<|zA J<|QY J (iq aJ J (λm=>om))<|cS J ?_ ?_<;>intro h;{grind};refine QY J (iq aJ J (λm=>om))<|zA J<|Qs J<|zA J ?_;rw[y2,g1,g2];refine QY J (Ln aJ r J (λm=>by simp only[Option.getD];omega) hr)<|cS J ?_ ?_<;>intro h
 .refine dv J (λu=>?_) λu=>?_
  .have e:c.kind=2:=cU u
   have d:(⟨c.kind,c.by_,c.serial,0,0,c.lo,c.hi,c.mode⟩:Cmd)=c:=(Cmd.eqB_iff _ _).1 (by
    simp[Cmd.eqB,ok.dead0 om om,ok.was0 om])
   have ⟨q0,q1,q2,q3⟩:=r2 e;have ⟨u0,_⟩:=vD (b:=eb r (0:Int).toNat) R.1 om q1;have ⟨u1,_⟩:=vD (b:=eb r (1:Int).toNat) O.1 om q2;have u2:=SN (b:=eb r (2:Int).toNat) B.1 B.2 q3;refine dD J ?_ ?_<;>intro h;{omega};refine Rb [8] J<|QD [0] J<|zu 1 J (iq aJ J (λm=>om))<|QD [2,3] J<|zu 4 J (iq aJ J (λm=>om))<|QD [5,6,7] J<|QS<|zJ 8 J<|nW J ?_ ?_<;>intro h;{refine QY J (iq aJ J (λm=>om))<|zA J<|Qs J<|zA J ?_;rw[u0,u1,u2];refine zC J (y ⟨c.kind,c.by_,c.serial,0,0,c.lo,c.hi,c.mode⟩ d)<|cS J ?_ ?_<;>intro h;{exfalso;simp at h};refine Qs J<|zA J<|Tz J λE=>?_;show Ending.returned (.tuple #[(⟨c.kind,c.by_,c.serial,0,0,c.lo,c.hi,c.mode⟩:Cmd).val,I 0])=_;rw[d]};exfalso;simp[e,q0]at h
  simp_all
 refine dv J (λu=>?_) λu=>?_
 .have e:c.kind=3:=cU u
  have d:(⟨c.kind,c.by_,c.serial,0,0,c.lo,c.hi,0⟩:Cmd)=c:=(Cmd.eqB_iff _ _).1 (by
   simp[Cmd.eqB,ok.mode0 om,ok.dead0 om om,ok.was0 om])
  have ⟨q0,q1,q2⟩:=r3 e;have ⟨u0,_⟩:=vD (b:=eb r (0:Int).toNat) R.1 om q1;have ⟨u1,_⟩:=vD (b:=eb r (1:Int).toNat) O.1 om q2;refine dD J ?_ ?_<;>intro h;{refine Qs J<|zA J<|cL aJ J ?_;omega};refine Rb [8] J<|QD [0] J<|zu 1 J (iq aJ J (λm=>om))<|QD [2,3] J<|zu 4 J (iq aJ J (λm=>om))<|QD [5,6,7] J<|QS<|zJ 8 J<|nW J ?_ ?_<;>intro h;{exfalso;simp[e]at h};rw[u0,u1];refine zC J (y ⟨c.kind,c.by_,c.serial,0,0,c.lo,c.hi,0⟩ d)<|cS J ?_ ?_<;>intro h;{exfalso;simp at h};refine Qs J<|zA J<|Tz J λE=>?_;show Ending.returned (.tuple #[(⟨c.kind,c.by_,c.serial,0,0,c.lo,c.hi,0⟩:Cmd).val,I 0])=_;rw[d]
 refine dv J (λT=>?_) λT=>?_
 .refine dv J (λz=>?_) λz=>?_
  .have e:c.kind=4:=cU T;have o:=Z om om (.inl e);rw[ZW e]at o
   have d:(⟨c.kind,c.by_,c.serial,c.dead,c.was,0,0,0⟩:Cmd)=c:=(Cmd.eqB_iff _ _).1 (by
    have ⟨z1,z2⟩:=ok.span om om
    simp[Cmd.eqB,z1,z2,ok.mode0 om])
   refine QZ J (zb r ([c.dead,c.was],0) o J om (λE=>rfl)) λ_ _=>cS J ?_ ?_<;>intro h;{exfalso;simp at h};refine QY J (cW (s:=.a (.rel 2 0)) 2 J J (λv N p=>dO aJ 0 J sm (λm=>p) (λm=>sm)))<|QY J (cW (s:=.a (.v (I c.dead))) 2 J J (λv N p=>dy (enc:=cB) (l:=[c.dead,c.was]) aJ 0 0 c.dead J (λm=>⟨p,cw⟩) (λm=>rfl) sm J))<|zA J<|Qs J<|zA J<|dv J ?_ ?_<;>intro h;{refine QY J (cW (s:=.a (.rel 2 1)) 2 J J (λv N p=>dO aJ 1 J sm (λm=>p) (λm=>sm)))<|QY J (cW (s:=.a (.v (I c.was))) 2 J J (λv N p=>dy (enc:=cB) (l:=[c.dead,c.was]) aJ 1 0 c.was J (λm=>⟨p,cw⟩) (λm=>rfl) sm J))<|zA J<|Qs J<|zA J<|zC J (y ⟨c.kind,c.by_,c.serial,c.dead,c.was,0,0,0⟩ d)<|cS J ?_ ?_<;>intro h;{exfalso;simp at h};refine Qs J<|zA J<|Tz J λE=>?_;show Ending.returned (.tuple #[(⟨c.kind,c.by_,c.serial,c.dead,c.was,0,0,0⟩:Cmd).val,I 0])=_;rw[d]};exfalso;simp[e]at h
  exact absurd (z.symm.trans T) dc
 refine dv J (λz=>?_) λz=>?_
 .have e:c.kind=5:=cU z;have o:=Z om om (.inr e);rw[ZX om]at o
  have d:(⟨c.kind,c.by_,c.serial,c.dead,0,0,0,0⟩:Cmd)=c:=(Cmd.eqB_iff _ _).1 (by
   have ⟨z1,z2⟩:=ok.span om om
   simp[Cmd.eqB,z1,z2,ok.mode0 om,ok.was0 om])
  refine QZ J (zb r ([c.dead],0) o J om (λE=>rfl)) λ_ _=>cS J ?_ ?_<;>intro h;{exfalso;simp at h};refine QY J (cW (s:=.a (.rel 2 0)) 2 J J (λv N p=>dO aJ 0 J sm (λm=>p) (λm=>sm)))<|QY J (cW (s:=.a (.v (I c.dead))) 2 J J (λv N p=>dy (enc:=cB) (l:=[c.dead]) aJ 0 0 c.dead J (λm=>⟨p,cw⟩) (λm=>rfl) sm J))<|zA J<|Qs J<|cS J ?_ ?_<;>intro h;{exfalso;simp[e]at h};refine zC J (y ⟨c.kind,c.by_,c.serial,c.dead,0,0,0,0⟩ d)<|cS J ?_ ?_<;>intro h;{exfalso;simp at h};refine Qs J<|zA J<|Tz J λE=>?_;show Ending.returned (.tuple #[(⟨c.kind,c.by_,c.serial,c.dead,0,0,0,0⟩:Cmd).val,I 0])=_;rw[d]
 have f2: ¬c.kind=2:=cU h;have f3: ¬c.kind=3:=cU u;have f4: ¬c.kind=4:=cU T;have f5: ¬c.kind=5:=cU z
 have d:(⟨c.kind,c.by_,c.serial,0,0,0,0,0⟩:Cmd)=c:=(Cmd.eqB_iff _ _).1 (by
  have ⟨z1,z2⟩:=ok.span f2 f3
  simp[Cmd.eqB,z1,z2,ok.mode0 f2,ok.dead0 f4 f5,ok.was0 f4])
 refine zC J (y ⟨c.kind,c.by_,c.serial,0,0,0,0,0⟩ d)<|cS J ?_ ?_<;>intro h;{exfalso;simp at h};refine Qs J<|zA J<|Tz J λE=>?_;show Ending.returned (.tuple #[(⟨c.kind,c.by_,c.serial,0,0,0,0,0⟩:Cmd).val,I 0])=_;rw[d]
theorem Ce(s:Z5)(hs:s.size<=1000)(w:Z6):Rt 117 #[S s] w (.tuple #[(lu s).val,I (jX s)]):=by (rcases Cy s with⟨c,p,m,l,d⟩|⟨o,l,d⟩);{rw[l,d,m];exact VM c p w};rw[l,d];exact NJ s hs o w
theorem SY(s:Z5)(hs:s.size<=1000)(w:Z6):Rt 210 #[S s] w (.tuple #[S (qA s),I (rZ s)]):=by (have d:s.size<=maxLen:=by simp only[maxLen];omega);refine dU J<|zC J (Ce s hs)<|zA J<|Qs J<|cJ J ?_ ?_<;>intro h;{refine Tz J λE=>?_;rw[qA,rZ,ZX h,ZX h];rfl};refine zC J (xU 5 (by unfold R8;omega) s d)<|zA J<|Tz J λE=>?_;rw[qA,rZ,ZW h,ZW h];rfl
theorem MK(s:Z5):(gF 5 s).size<=1000:=by rw[gF];split;{rename_i h;simp only[gO,gu,Z1,ZV]at h;rw[gN,YS];omega};simp
theorem Ec(s:Z5)(hs:s.size<=maxLen)(w:Z6):Rt 71 #[S s] w (.tuple #[(gp s).val,S (jv s),.bool (fg s),I (fB s)]):=by have p:=MK s;refine dU J<|dv J ?_ ?_<;>intro h;{refine Qs J<|zA J<|cL aJ J ?_;have d:(s.toList==ByteArray.empty.toList)=true:=h;(have l:fg s=false:=by rw[fg,d];rfl);(have m:fB s=0:=by rw[fB,ZW (.inl d)]);intro E t o _;refine⟨?_,o.below lr⟩;rw[gp,jv,l,m];rfl};have d:(s.toList==ByteArray.empty.toList)=false:=h;refine zC J (IB 5 s hs)<|cJ J ?_ ?_<;>intro h;{refine Qs J<|zA J<|cL aJ J ?_;(have l:fg s=false:=by rw[fg,d];simp[h]);(have m:fB s=50:=by rw[fB,ZX (by rw[d,l];decide)]);intro E t o _;refine⟨?_,o.below lr⟩;rw[gp,jv,l,m];rfl};have u:=h;refine zC J (Ce (gF 5 s) p)<|zA J<|Qs J<|cJ J ?_ ?_<;>intro h;{refine Qs J<|zA J<|cL aJ J ?_;(have l:fg s=false:=by rw[fg,d];simp[h]);(have m:fB s=50:=by rw[fB,ZX (by rw[d,l];decide)]);intro E t o _;refine⟨?_,o.below lr⟩;rw[gp,jv,l,m];rfl};refine Qs J<|zA J<|cL aJ J ?_;(have l:fg s=true:=by rw[fg,d,u,h];rfl);(have m:fB s=0:=by rw[fB,ZW (.inr l)]);intro E t o _;refine⟨?_,o.below lr⟩;rw[gp,jv,l,m];rfl
theorem M0(V:Vw)(M:Z7)(L:Z8 Z5)(w:Z6)(hV:V.le (vw w))(y:SlOf V da 1 M L)(N:∀s∈L,s.size<=maxLen)(O:L.length<=1000000): Cl 37 #[M] w (wl (gV L []) w):=by have p:=y.mono hV;refine dU J<|iD 4 139 8 J J<|zL [0] [0] J J (σ:=Nat×Z8 Cmd) (λ(k,l)=>[(4,.a (.row 0)),(5,.a (.v (I k)))]) (λ(k,l)=>[(0,.row 139 8 l.length (l.flatMap Cmd.cells))]) (λ(k,l)=>k<=L.length/\gV L []=gV (L.drop k) l/\l.length=k) (λ(k,l)=>L.length - k) ((0,[])) (⟨om,J,J⟩) ?_;rintro⟨k,l⟩ ⟨W,d,z⟩;refine zB J<|QY J (yN J p)<|cJ J ?_ ?_<;>intro h;{obtain⟨x,o⟩:=p.at (k:=k) om;refine QY J (yI J p)<|QY J (yL k 0 J p o J) ?_;have R:=N x (ZZ o);rw[gX o,gV]at d;refine zC J (Ec x R)<|zA J<|Qs J<|cJ J ?_ ?_<;>intro h;{refine Qb J λE B m=>?_;rw[ZW h]at d;refine⟨⟨_,by rw[d];rfl,?_⟩,m.below lr⟩;rw[d];exact World.ownsRow_nil _ _ _ _};have T:=h;rw[ZX (by simp[T])]at d;refine dv J ?_ ?_<;>intro h;{refine cL aJ J ?_;have u:fg x=false:=cU h;rw[ZW u]at d;intro E B m _;refine⟨⟨_,by rw[d];rfl,?_⟩,m.below lr⟩;rw[d];exact m.rowFresh lr J};have u:fg x=true:=cU h;rw[ZX (by simp[u])]at d;refine QZ J (cX aJ 8 J J J) λ_ _=>QZ J (cQ aJ ([gp x].flatMap Cmd.cells) J (λE w m=>dZ (m.row 2 _ _ _ _ J)) (λ_ _ _=>IU _) od) λ_ _=>zA J ?_;rw[<-ZF,show l.length+1=(l++[gp x]).length by simp,cx om om];refine dx 0 3 J<|Qr ((k+1,l++[gp x]))<|⟨om,d,by simp[z]⟩};refine cL aJ J ?_;have t:k=L.length:=om;subst t;rw[Zp,gV]at d;intro E B m _;refine⟨⟨_,by rw[d];rfl,?_⟩,m.below lr⟩;rw[d];exact m.rowFresh lr J
theorem Bo(lo hi:Int)(w:Z6):Rt 350 #[.agg #[I lo,I hi]] w (.bool (decide (hi<lo))):=by refine dU J<|Tz J λ_=>rfl
def rY(lo hi n:Int):Bool:=decide (lo<=n)&&decide (n<=hi)
theorem EH(lo hi n:Int)(w:Z6):Rt 357 #[.agg #[I lo,I hi],I n] w (.bool (rY lo hi n)):=by refine dN J<|Tz J λ_=>rfl
def ms(lo hi lo' hi':Int):Bool:=(!decide (hi<lo)&& !decide (hi'<lo'))&&(rY lo hi lo'||rY lo' hi' lo)
theorem Ly(lo hi l d:Int)(w:Z6):Rt 353 #[.agg #[I lo,I hi],.agg #[I l,I d]] w (.bool (ms lo hi l d)):=by refine dN J<|zC J (Bo _ _)<|zA J<|zC J (Bo _ _)<|zA J<|zC J (EH _ _ _)<|zA J<|zC J (EH _ _ _)<|zA J<|Tz J λ_=>rfl
theorem Mr(lo hi l d:Int)(w:Z6):Rt 337 #[.agg #[I lo,I hi],.agg #[I l,I d]] w (.bool (ms lo hi l d)):=by refine dN J<|zC J (Ly _ _ _ _)<|zA J<|Tz J λ_=>rfl
theorem Im(h:Hold)(w:Z6):Rt 358 #[h.val] w (.agg #[I h.lo,I h.hi,I h.key,I8 h.mode]):=by refine dU J<|Qs J<|zA J<|Tz J λ_=>rfl
def j7(a b:Hold):Bool:=((a.key==b.key)|| !ms a.lo a.hi b.lo b.hi)||((a.mode==1)&&(b.mode==1))
theorem Q8(a b:Hold)(w:Z6):Rt 359 #[.agg #[I a.lo,I a.hi,I a.key,I8 a.mode],.agg #[I b.lo,I b.hi,I b.key,I8 b.mode]] w (.bool (j7 a b)):=by refine dN J<|zC J (Ly _ _ _ _)<|zA J<|Tz J λ_=>rfl
theorem Ol(a b:Hold)(w:Z6):Rt 355 #[a.val,b.val] w (.bool (j7 a b)):=by refine dN J<|ez mixed kr<|Dm 1 J<|zQ J (Im a)<|Dm 1 J<|zQ J (Im b)<|zQ J (Q8 a b)<|Dm 1 J<|zD J<|Tz J λ_=>rfl
def kT(blocks lo hi:Int):Bool:=(!decide (hi<lo)&&decide (0<=lo))&&decide (hi<blocks)
theorem Q7(g:Geo)(lo hi:Int)(w:Z6):Rt 334 #[g.val,.agg #[I lo,I hi]] w (.bool (kT g.blocks lo hi)):=by refine dN J<|zC J (Bo _ _)<|zA J<|Tz J λ_=>rfl
def mL(blocks:Int)(h:Hold):Bool:=(decide (0<h.key)&&kT blocks h.lo h.hi)&&((h.mode==1)||(h.mode==2))
theorem S8(g:Geo)(h:Hold)(w:Z6):Rt 314 #[g.val,h.val] w (.bool (mL g.blocks h)):=by refine dN J<|zC J (Q7 g _ _)<|zA J<|Tz J λ_=>rfl
def fU{α:Type}(pr:α->Bool)(l:Z8 α):Int:=match l.findIdx? pr with
 |some k=>k
 |none=> -1
def lT(V:Vw)(fv:Z7)(pr:Hold->Bool):Prop:=
 ∀x w',V.le (vw w')->qo bJ fv [x.val] w' λe w''=>e=.returned (.bool (pr x))/\Below w'.heap.size w' w''
theorem zX(V:Vw)(B u:Z7)(t:Hold->Bool)(l:Z8 Hold)(w:Z6)(hV:V.le (vw w))(hs:SlOf V Hold.cells 4 u l)(O:l.length<=eg)(N:lT V B t): Rt 317 #[u,B] w (I (fU t l)):=by
 unfold eg at O;have m:=hs.mono hV
 refine dN J<|QY J (yN J m)<|zA J<|ql (σ:=Nat) (λk=>[(0,.a (.v u)),(1,.a (.v B)),(7,.a (.v (I l.length))),(8,.a (.v (I k)))]) (λ_=>[]) 0 (λ_=>vw w)
  (λk=>k<=l.length/\ ∀j x,j<k->l[j]? =some x->t x=false) (λk=>l.length - k) 0 ⟨om,sm⟩ ⟨J,J,J,J,ZY⟩ ZY J lr ?_
 rintro k ⟨T,d⟩;refine FT J ?_ ?_<;>intro h;{(have p:k<l.length:=by simp at h;exact h);(have y:l[k]? =some l[k]:=by simp[p]);refine QY J (yI J m)<|QY J (dy aJ (k) 0 (l[k]) J (λL=>m) (λL=>y) J J)<|qJ (.a (.v _)) J J J J J (λL E M z=>by exact N l[k] M (hV.trans z.leV))<|cS J ?_ ?_<;>intro h;{refine Tz J λE=>?_;rw[fU,findIdx?_at y h d];rfl};rw[cx om om];exact Qr (k+1) ⟨om,nH y d h⟩ (hμ:=om) (hs:=⟨J,J,J,J,ZY⟩) (hO:=trivial)};refine cL aJ J ?_;(have o:k=l.length:=by simp at h;omega);intro E R z _;refine⟨?_,z.below lr⟩;rw[fU,findIdx?_no (o▸d)];rfl
theorem MI(V:Vw)(o m:Z7)(d:Hold->Bool)(l:Z8 Hold)(w:Z6)(hV:V.le (vw w))(hs:SlOf V Hold.cells 4 m l)(u:l.length<=eg)(t:lT V o d): Rt 351 #[m,o] w (.bool (l.any d)):=by
 refine dN J<|dq J (λz E y p=>zX V o m d l _ (hV.trans p.leV) hs u t)<|zA J<|Tz J λE=>?_
 have:decide (0<=fU d l)=l.any d:=by
  rw[<-LM,fU]
  grind
 rw[<-this];rfl
theorem SR(V:Vw)(d:Z7)(l:Hold->Bool)(b:Nat)(u:V.get b=some (.cells #[d] 435 (0,0)))(p:lT V d l)(x:Hold)(w:Z6)(hV:V.le (vw w)): Rt 352 #[x.val,.pointer (some ⟨b,0,none⟩)] w (.bool (!l x)):=by refine dN J<|QY J (fp (cs:=[d]) aJ J (λt=>hV.get _ _ u) J)<|zA J<|qJ (.a (.v _)) J J J J J (λt E o m=>p x o (hV.trans m.leV))<|zA J<|Tz J λ_=>rfl
theorem Hh(V:Vw)(k:Nat)(d:Array Z7)(y:Z7)(m:Hold->Bool)(l:Z8 Hold)(w:Z6)(hV:V.le (vw w))(hs:SlOf V Hold.cells 4 y l)(M:l.length<=eg) (B:lT V (.func (.func k) #[] d) m): Rt 335 #[.func (.func k) #[] d,y] w (.bool (l.all m)):=by
 refine dN J<|Qc (.a (.v (.bool (l.any λx=> !m x)))) J (FN 351) (λN E t z=>?_) ?_;{have o:=z.leV;have L:=z.lit 0 _ _ J;refine MI (vw t) _ y (λx=> !m x) l t lr (hs.mono (hV.trans o)) M ?_;intro x u p;exact⟨352,_,J,(FN 352),SR (vw t) _ m (E.ρ 0) L (λx u h=>B x u ((hV.trans o).trans h)) x u p⟩};refine zA J<|Tz J λE=>?_;show Ending.returned (.bool (!(l.any λx=> !m x)))=_
 grind
theorem U2(V:Vw)(h:Hold)(b:Nat)(d:V.get b=some (.cells h.cells.toArray 189 (0,0)))(x:Hold)(w:Z6)(hV:V.le (vw w)): Rt 354 #[x.val,.pointer (some ⟨b,0,none⟩)] w (.bool (j7 h x)):=by refine dN J<|QY J (fp (cs:=h.cells) aJ J (λl=>hV.get _ _ d) J)<|zA J<|zC J (Ol h x)<|zA J<|Tz J λ_=>rfl
def gJ(h:Hold)(l:Z8 Hold):Bool:=l.all (j7 h)
theorem Io(V:Vw)(h:Hold)(o:Z7)(l:Z8 Hold)(w:Z6)(hV:V.le (vw w))(hs:SlOf V Hold.cells 4 o l)(u:l.length<=eg): Rt 338 #[h.val,o] w (.bool (gJ h l)):=by refine dN J<|Qc (.a (.v (.bool (gJ h l)))) J (FN 335) (λy E m p=>?_) ?_;{refine Hh (vw m) 354 _ o (j7 h) l m lr (hs.mono (hV.trans p.leV)) u ?_;intro x t d;exact⟨354,_,J,(FN 354),U2 (vw m) h (E.ρ 0) (p.lit 0 _ _ J) x t d⟩};refine zA J<|Tz J λ_=>rfl
def uo(key block mode:Int)(o:Hold):Bool:=((o.key==key)&&rY o.lo o.hi block)&&((o.mode==mode)||(o.mode==2))
def Dt(l:Z8 Hold)(key block mode:Int):Bool:=l.any (uo key block mode)
def nq(key lo hi:Int)(o:Hold):Bool:=(o.key==key)&&ms o.lo o.hi lo hi
theorem UW(V:Vw)(key lo hi:Int)(d l:Nat)(p:V.get d=some (.cells #[I key] 3 (0,0)))(m:V.get l=some (.cells #[I lo,I hi] 101 (0,0))) (o:Hold) (w:Z6) (hV:V.le (vw w)): Rt 336 #[o.val,.pointer (some ⟨d,0,none⟩),.pointer (some ⟨l,0,none⟩)] w (.bool (!nq key lo hi o)):=by refine jC J<|QY J (fp (cs:=[I key]) aJ J (λt=>hV.get _ _ p) J)<|zA J<|QY J (fp (cs:=[I lo,I hi]) aJ J (λt=>hV.get _ _ m) J)<|zC J (Mr _ _ _ _)<|zA J<|Tz J λE=>?_;congr 2;unfold nq bne;cases (o.key==key)<;>cases ms o.lo o.hi lo hi<;>rfl
def kX(l:Z8 Hold)(key lo hi:Int):Bool:=l.any (nq key lo hi)
theorem Mn(V:Vw)(t:Z7)(l:Z8 Hold)(key lo hi:Int)(w:Z6)(hV:V.le (vw w))(hs:SlOf V Hold.cells 4 t l)(y:l.length<=eg): Rt 315 #[t,I key,.agg #[I lo,I hi]] w (.bool (kX l key lo hi)):=by refine jC J<|Qc (.a (.v (.bool (l.all λo=> !nq key lo hi o)))) J (FN 335) (λz E p m=>?_) ?_;{refine Hh (vw p) 336 _ t (λo=> !nq key lo hi o) l p lr (hs.mono (hV.trans m.leV)) y ?_;intro x u d;exact⟨336,_,J,(FN 336),UW (vw p) key lo hi (E.ρ 0) (E.ρ 1) (m.lit 0 _ _ J) (m.lit 1 _ _ J) x u d⟩};refine zA J<|Tz J λE=>?_;show Ending.returned (.bool (!(l.all λo=> !nq key lo hi o)))=_;rw[kX,List.any_eq_not_all_not]
def ve:Z8 Hold->Nat->Z8 Hold->Bool
 |_,_,[]=>true
 |l,i,h::r=>gJ h (l.take i)&&ve l (i+1) r
def i5(l:Z8 Hold):Bool:=ve l 0 l
theorem U7(b lo hi:Int):((decide (0<=lo)&&decide (lo<=hi))&&decide (hi<b))=kT b lo hi:=by unfold kT;rw[Ze];simp;omega
theorem D7(g:Geo)(lo hi:Int)(w:Z6):Rt 119 #[g.val,.agg #[I lo,I hi]] w (.bool (kT g.blocks lo hi)):=by refine dN J<|Qb J λE l d=>?_;exact⟨by rw[<-U7];rfl,d.below lr⟩
theorem GT(g:Geo)(h:Hold)(w:Z6):Rt 76 #[g.val,h.val] w (.bool (mL g.blocks h)):=by refine dN J<|zC J (D7 g _ _)<|zA J<|Tz J λE=>?_;show Ending.returned (.bool ((decide (1<=h.key)&&kT g.blocks h.lo h.hi)&&((h.mode==1)||(h.mode==2))))=_;rw[show decide (1<=h.key)=decide (0<h.key) by rw[Ze];simp;omega];rfl
theorem LD(lo hi l d:Int):(((decide (lo<=hi)&&decide (l<=d))&&decide (lo<=d))&&decide (l<=hi))=ms lo hi l d:=by unfold ms rY;rw[Ze];simp;omega
theorem Lz(lo hi d l:Int)(w:Z6):Rt 120 #[.agg #[I lo,I hi],.agg #[I d,I l]] w (.bool (ms lo hi d l)):=by refine dN J<|Qb J λE o m=>?_;exact⟨by rw[<-LD];rfl,m.below lr⟩
theorem Wl(a b:Hold)(w:Z6):Rt 188 #[a.val,b.val] w (.bool (j7 a b)):=by refine dN J<|zC J (Lz _ _ _ _)<|zA J<|Tz J λ_=>rfl
theorem IR(V:Vw)(a:Hold)(u:Z7)(l:Z8 Hold)(w:Z6)(hV:V.le (vw w))(hs:SlOf V Hold.cells 4 u l)(M:l.length<=eg): Rt 121 #[a.val,u] w (.bool (gJ a l)):=by
 unfold eg at M;have m:=hs.mono hV
 refine dN J<|ql (σ:=Nat) (λk=>[(1,.a (.v u)),(2,.a (.ptr 0 0)),(5,.a (.v (I k)))]) (λ_=>[(0,.lit [.v (I a.key),.v (I a.lo),.v (I a.hi),.v (I8 a.mode)] 189)]) 1 (λ_=>vw w)
  (λk=>k<=l.length/\ ∀j y,j<k->l[j]? =some y->j7 a y=true) (λk=>l.length - k) 0 ⟨om,sm⟩ ⟨J,J,J,ZY⟩ ⟨J,ZY⟩ J lr ?_
 rintro k ⟨N,d⟩;refine zU J<|QY J (yN J m)<|cS J ?_ ?_<;>intro h;{refine ez mixed kr<|Dm 3 J ?_;(have t:k<l.length:=by simp at h;exact h);(have z:l[k]? =some l[k]:=by simp[t]);refine Qd J (yI J m)<|Qd J (dy aJ (k) 0 (l[k]) J (λB=>m) (λB=>z) J J)<|Tq J (FN 188) (λB E O o=>by exact Wl a l[k] _)<|Dm 1 J<|k6 J ?_ ?_<;>intro h;{refine cL aJ J ?_;simp only[ZJ]at h;intro E L o _;refine⟨?_,o.below lr⟩;rw[gJ,Lg z h];rfl};simp only[Z_]at h;rw[cx om om];exact Qr (k+1) ⟨om,nH z d h⟩ (hμ:=om) (hs:=⟨J,J,J,ZY⟩) (hO:=⟨J,ZY⟩)};refine cL aJ J ?_;(have p:k=l.length:=by simp at h;omega);intro E L o _;refine⟨?_,o.below lr⟩;rw[gJ,Ko (p▸d)];rfl
theorem Tv(V:Vw)(u:Z7)(l:Z8 Hold)(key block mode:Int)(w:Z6)(hV:V.le (vw w))(hs:SlOf V Hold.cells 4 u l)(M:l.length<=eg): Rt 232 #[u,I key,I block,I8 mode] w (.bool (Dt l key block mode)):=by
 unfold eg at M;have m:=hs.mono hV
 refine tH J<|ql (σ:=Nat) (λk=>[(0,.a (.v u)),(1,.a (.v (I key))),(2,.a (.v (I block))),(3,.a (.v (I8 mode))),(9,.a (.v (I k)))]) (λ_=>[]) 0 (λ_=>vw w)
  (λk=>k<=l.length/\ ∀j y,j<k->l[j]? =some y->uo key block mode y=false) (λk=>l.length - k) 0 ⟨om,sm⟩ ⟨J,J,J,J,J,ZY⟩ ZY J lr ?_
 rintro k ⟨N,d⟩;refine zU J<|QY J (yN J m)<|cS J ?_ ?_<;>intro h;{(have t:k<l.length:=by simp at h;exact h);(have z:l[k]? =some l[k]:=by simp[t]);refine QY J (yI J m)<|QY J (dy aJ (k) 0 (l[k]) J (λL=>m) (λL=>z) J J)<|zA J<|Qs J<|cS J ?_ ?_<;>intro h;{refine Tz J λE=>?_;(have p:uo key block mode l[k]=true:=by rw[<-h];simp only[uo,rY,Bool.and_assoc]);rw[Dt,IP z p];rfl};(have p:uo key block mode l[k]=false:=by rw[<-h];simp only[uo,rY,Bool.and_assoc]);rw[cx om om];exact Qr (k+1) ⟨om,nH z d p⟩ (hμ:=om) (hs:=⟨J,J,J,J,J,ZY⟩) (hO:=trivial)};refine cL aJ J ?_;(have o:k=l.length:=by simp at h;omega);intro E O B _;refine⟨?_,B.below lr⟩;rw[Dt,Hw (o▸d)];rfl
theorem Jm(V:Vw)(z:Z7)(l:Z8 Hold)(key lo hi:Int)(w:Z6)(hV:V.le (vw w))(hs:SlOf V Hold.cells 4 z l)(M:l.length<=eg): Rt 77 #[z,I key,.agg #[I lo,I hi]] w (.bool (kX l key lo hi)):=by
 unfold eg at M;have d:=hs.mono hV
 refine jC J<|ql (σ:=Nat) (λk=>[(0,.a (.v z)),(1,.a (.v (I key))),(5,.a (.ptr 0 0)),(7,.a (.v (I k)))]) (λ_=>[(0,.lit [.v (I lo),.v (I hi)] 101)]) 1 (λ_=>vw w)
  (λk=>k<=l.length/\ ∀j y,j<k->l[j]? =some y->nq key lo hi y=false) (λk=>l.length - k) 0 ⟨om,sm⟩ ⟨J,J,J,J,ZY⟩ ⟨J,ZY⟩ J lr ?_
 rintro k ⟨N,m⟩;refine zU J<|QY J (yN J d)<|cS J ?_ ?_<;>intro h;{refine ez mixed kr<|Dm 2 J ?_;(have u:k<l.length:=by simp at h;exact h);(have o:l[k]? =some l[k]:=by simp[u]);refine Qd J (yI J d)<|Qd J (yF J d)<|Qd J (dy aJ (k) 0 (l[k]) J (λB=>d) (λB=>o) J J)<|Dm 5 J<|Qd J (yI J d)<|Qd J (yF J d)<|Qd J (dy aJ (k) 1 (l[k]) J (λB=>d) (λB=>o) J J)<|Dm 1 J<|zQ J (Lz _ _ _ _)<|Dm 1 J<|k6 J ?_ ?_<;>intro h;{refine Tz J λE=>?_;have t:nq key lo hi l[k]=true:=h;rw[kX,IP o t];rfl};have t:nq key lo hi l[k]=false:=h;rw[cx om om];exact Qr (k+1) ⟨om,nH o m t⟩ (hμ:=om) (hs:=⟨J,J,J,J,ZY⟩) (hO:=⟨J,ZY⟩)};refine cL aJ J ?_;(have p:k=l.length:=by simp at h;omega);intro E O L _;refine⟨?_,L.below lr⟩;rw[kX,Hw (p▸m)];rfl
theorem Ez(lo hi l d:Int):ms lo hi l d=ms l d lo hi:=by simp only[ms];rw[Bool.and_comm (!decide (hi<lo)),Bool.or_comm]
theorem FC(a b:Hold):j7 a b=j7 b a:=by simp only[j7];rw[Ez,show(a.key==b.key)=(b.key==a.key) by rw[Ze];simp;exact eq_comm,Bool.and_comm (a.mode==1)]
theorem H3(l:Z8 Hold):∀(r:Z8 Hold) (i:Nat),l.drop i=r->(ve l i r=true↔ ∀j x,i<=j->l[j]? =some x->gJ x (l.take j)=true)
 |[],i,hd=>by
  have:l.length<=i:=cU hd
  simp only[ve,true_iff]
  intro j x m d
  have:=(List.getElem?_eq_some_iff.1 d).1
  omega
 |y::r,i,hd=>by
  have p:i<l.length:=by
   rcases YM i l.length with h|h
   . exact h
   . rw[Yo h]at hd;cases hd
  have o:l[i]? =some y:=by
   have:=Y5 (λq:Z8 Hold=>q[0]?) hd
   simpa using this
  have w:l.drop (i+1)=r:=by
   have:=Y5 List.tail hd
   simpa using this
  have t:=H3 l r (i+1) w
  simp only[ve,Z1,t]
  constructor
  ·
   rintro⟨z,u⟩ j x m d
   by_cases e:j=i
   . subst e;rw[o]at d;cases d;exact z
   . exact u j x om d
  ·
   intro h
   exact⟨h i y (ZS _) o,λj x m d=>h j x om d⟩
theorem qj(l:Z8 Hold):i5 l=true↔ ∀j x,l[j]? =some x->gJ x (l.take j)=true:=by rw[i5,H3 l l 0 J];exact⟨λh j x d=>h j x (Zz _) d,λh j x _ d=>h j x d⟩
theorem R9{l:Z8 Hold}(h:i5 l=true){i j:Nat}{x y:Hold}(o:l[i]? =some x)(m:l[j]? =some y):j7 x y=true:=by rw[qj]at h;(have key:∀{i j:Nat} {x y:Hold},i<j->l[i]? =some x->l[j]? =some y->j7 y x=true:=by intro i j x y d o m;have:=h j y m;rw[gJ,YV]at this;exact this x<|ZZ (by rw[List.getElem?_take_of_lt d];exact o));(rcases Nat.lt_trichotomy i j with d|d|d);{rw[FC];exact key d o m};{subst d;rw[o]at m;cases m;simp[j7]};exact key d m o
theorem OA(l:Z8 Hold)(x:Hold)(h:i5 l=true):i5 (l++[x])=gJ x l:=by rw[Ze,qj];rw[qj]at h;constructor;{intro m;have:=m l.length x sm;simpa using this};intro m j y d;(rcases YM j l.length with hj|hj);{rw[List.getElem?_append_left hj]at d;rw[Y1 om];exact h j y d};rw[List.getElem?_append_right hj]at d;(have:j=l.length:=by have:=(List.getElem?_eq_some_iff.1 d).1;simp at this;omega);subst this;simp at d;subst d;simpa using m
theorem em(l:Z8 Hold):∀u∈l.flatMap Hold.cells,u.oneCell'=true:=by intro u d;have ⟨x,_,hx⟩:=YW.1 d;simp only[Hold.cells,Zg,YH,w_]at hx;rcases hx with rfl|rfl|rfl|rfl<;>rfl
def kS:Z8 Block->Int->Z5×Bool
 |[],_=>(ByteArray.empty,false)
 |b::r,k=>if b.n=k then(b.text,true)else kS r k
theorem cD{V:Vw}{v:Z7}{sz m:Nat}{xs:Z8 Z7}(h:eL V v sz m xs):∃a n c,v=.slice a n c:=by (rcases h.2 with⟨a,c,rfl,_⟩|⟨g,o,l,d,e,f,rfl,_⟩);{exact⟨_,_,_,J⟩};simp
theorem Kn(V:Vw)(u:Z7)(l:Z8 Block)(k:Int)(w:Z6)(hV:V.le (vw w))(p:SlOf V Block.cells 2 u l)(B:l.length<=4398046511104): Rt 297 #[u,I k] w (.tuple #[S (kS l k).1,.bool (kS l k).2]):=by have m:=p.mono hV;refine dN J<|zL [0,1] [] J J (σ:=Nat) (λi=>[(6,.a (.v (I i)))]) (λi=>[]) (λi=>i<=l.length/\kS l k=kS (l.drop i) k) (λi=>l.length - i) (0) (⟨om,J⟩) ?_;rintro i ⟨hi,d⟩;refine zB J<|QY J (yN J m)<|cJ J ?_ ?_<;>intro h;{have ⟨x,h_x⟩:=m.at (k:=i) om;have o:=cC h_x;refine QY J (yI J m)<|QY J (yF J m)<|QY J (yL i 0 J m h_x J)<|cJ J ?_ ?_<;>intro h;{rw[gX h_x,kS,ZW h]at d;have o:=cC h_x;refine QY J (yI J m)<|QY J (yF J m)<|QY J (yL i 1 J m h_x J)<|zA J<|Tz J λE=>?_;rw[d];rfl};rw[gX h_x,kS,ZX h]at d;rw[cx om om];refine Qr (i+1)<|⟨om,d⟩};refine cL aJ J ?_;have t:i=l.length:=om;subst t;rw[Zp,kS]at d;intro E z y _;refine⟨?_,y.below lr⟩;rw[d];rfl
