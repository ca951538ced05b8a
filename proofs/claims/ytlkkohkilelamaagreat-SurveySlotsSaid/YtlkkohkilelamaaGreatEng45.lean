import Derived.Test.YtlkkohkilelamaaGreatEng31
import Derived.RangeFuncFrom
import Derived.RangeFuncCalls
import Derived.OrdersIn
import Derived.Lib.AppendZeros
import Derived.Scope
import Derived.Maps.RangeRun
import Derived.Lib.BufferMore
import Derived.Recover
set_option linter.unusedSimpArgs false
set_option linter.unusedVariables false
set_option linter.unusedSectionVars false
/- A part of the proof of SurveySlots. -/
namespace Go.Eng
open Go Go.RowKit
def Rd(ro:Z4 Nat):Fence:={Fence.wide with round:=ro}
abbrev kJ:=Z8 Deferred->Exit->Act->Z6->Prop
def QH(Q:kJ):Exit->Act->Z6->Prop:=λe a w=>Q a.defers e {a with defers:=[]} w
def RX(P:Z3)(ro:Z4 Nat)(m:Nat)(ds:Z8 Deferred)(c:Code)(Q:kJ):Act->Z6->Prop:=λa w=>c.wpIn (Rd ro) m P (QH Q) {a with defers:=ds} w
def RQ(ds:Z8 Deferred)(Q:kJ):Exit->Act->Z6->Prop:=λe a w=>Q (a.defers++ds) e {a with defers:=[]} w
def sB(Q:kJ):Prop:= ∀ds a w,¬Q ds .outgrown a w
def jy:Z8 Oper->Bool
 |[]=>true
 |o::r=>(match o.op with|.defer _=>false|_=>true)&&jy r
theorem Kf{o:Oper}{r:Z8 Oper}(h:jy (o::r)=true):∀c,o.op≠ .defer c:=by intro c d;simp[jy,d]at h
theorem A0{o:Oper}{r:Z8 Oper}(h:jy (o::r)=true):jy r=true:=by simp only[jy,Z1]at h;exact h.2
theorem Li:∀{l:Z8 Oper},jy l=true-> ∀o∈l,∀c,o.op≠ .defer c
 |[],_,o,ho=>by simp at ho
 |x::r,h,o,ho=>by
  rcases Zg.1 ho with rfl|ho
  . exact Kf h
  . exact Li (A0 h) o ho
def Act.more(a:Act)(ds:Z8 Deferred):Act:={a with defers:=a.defers++ds}
theorem Act.more_put(a:Act)(ds:Z8 Deferred)(d:Z4 Tmp)(v:Z7):(Act.more a ds).put d v=Act.more (a.put d v) ds:=by cases d<;>rfl
theorem Act.more_eval(a:Act)(ds:Z8 Deferred):(Act.more a ds).eval=a.eval:=by funext x;cases x<;>rfl
section
variable{P:Z3}{ops:Array Oper}{ro:Z4 Nat}{m:Nat}{Q0 Q1:Exit->Act->Z6->Prop}{ds:Z8 Deferred}
theorem Vu{row:String}{args:Array Z7}{w:Z6}{R:Z7->Z6->Prop}(h:Rows P row args w R):RowsIn (Rd ro) m P row args w R:=λc cs _=>
 let ⟨v,w',r,s⟩:=h c cs
 ⟨v,w',r,stepsIn_wide.2 s⟩
theorem VO{f:FuncId}{args:Array Z7}{w:Z6}{R:Ending->Z6->Prop}(h:Calls P f args w R):CallsIn (Rd ro) m P f args w R:=callsIn_wide (n:=m).2 h
theorem FP{o:Oper}(z:∀e a w,Q0 e a w->Q1 e (Act.more a ds) w)(u:∀a w,¬Q0 .outgrown a w)(E:∀c,o.op≠ .defer c){p l:Act->Z6->Prop} (B:∀a w,p a w->l (Act.more a ds) w) {a:Act} {w:Z6} (h:o.wp P a w p Q0):o.wpIn (Rd ro) m P (Act.more a ds) w l Q1:=by
 refine⟨λ_ _=>trivial,?_⟩;rw[Act.more_eval,Oper.semAt_eq _ _ _ E];unfold Oper.wp at h;(have t:∀v w,p (a.put o.dst v) w->l ((Act.more a ds).put o.dst v) w:=λv w h=>by rw[Act.more_put];exact B _ _ h);generalize (execOp a.eval o).run P w=r at*;cases r with
 |ok x w'=>
  cases x with
  |value v=>exact t _ _ h
  |skip=>exact t _ _ h
  |defer d=>(have:({(Act.more a ds)with defers:=d::(Act.more a ds).defers}:Act).put o.dst undef=Act.more (({a with defers:=d::a.defers}:Act).put o.dst undef) ds:=by cases o.dst<;>rfl);show l _ _;rw[this];exact B _ _ h
  |enter f args=>
   refine⟨λhd=>(by simp[Rd,Fence.wide]at hd),VO (Calls.mono h ?_)⟩;rintro e M y;cases e with
   |returned v=>exact t _ _ y
   |panicked ch=>exact z _ _ _ y
   |outgrown=>obtain⟨N,O,L⟩:=y;exact(u _ _ L).elim
  |row r args=>
   refine⟨λhd=>(by simp[Rd,Fence.wide]at hd),Vu (Rows.mono h ?_)⟩
   simp_all
  |_=>exact h.elim
 |halt x w'=>
  cases x with
  |panic v=>exact z _ _ _ h
  |_=>exact h.elim
theorem uX(hQ:∀e a w,Q0 e a w->Q1 e (Act.more a ds) w)(hno:∀a w,¬Q0 .outgrown a w):∀(l:Z8 Oper) (a:Act) (w:Z6),jy l=true->wpList P ops Q0 l a w->wpListIn (Rd ro) m P ops Q1 l (Act.more a ds) w
 |[],a,w,_,h=>hQ _ _ _ h
 |o::r,a,w,hd,h=>by
  unfold wpList at h
  show if Region.wanted o (yielded ops a.tmps)then _ else _
  by_cases hw:Region.wanted o (yielded ops a.tmps)=true
  ·
   simp only[hw,Yf]at h⊢
   rcases h with h|⟨_,a',w',hq⟩
   . exact FP hQ hno (Kf hd) (λa w h=>uX hQ hno r a w (A0 hd) h) h
   simp_all
  ·
   simp only[hw,Zt]at h⊢
   refine⟨λ_ _=>trivial,?_⟩
   rw[Act.more_put]
   exact uX hQ hno r _ w (A0 hd) h
theorem Un{i:Nat}(E:∀e a w,Q0 e a w->Q1 e (Act.more a ds) w)(t:∀a w,¬Q0 .outgrown a w)(hd:jy ops.toList=true){l d:Act->Z6->Prop} (z:∀a w,l a w->d (Act.more a ds) w) {a:Act} {w:Z6} (h:wpOp P ops Q0 i l a w):wpOpIn (Rd ro) m P ops Q1 i d (Act.more a ds) w:=by
 unfold wpOp at h;unfold wpOpIn;cases p:ops[i]? with
 |none=>simp only[p]at h⊢;exact z _ _ h
 |some o=>
  simp only[p]at h⊢
  have u:=Li hd o (by
   rw[Array.getElem?_eq_some_iff]at p
   obtain⟨B,rfl⟩:=p
   simp)
  (show if Region.wanted o (yielded ops a.tmps)=true then _ else _);by_cases y:Region.wanted o (yielded ops a.tmps)=true
  .simp only[y,Yf]at h⊢;(rcases h with h|⟨_,N,M,L⟩);{exact FP E t u z h}
   simp_all
  simp only[y,Zt]at h⊢;refine⟨λ_ _=>trivial,?_⟩;rw[Act.more_put]
  simp_all
theorem A5{md:Region.Mode}(hQ:∀e a w,Q0 e a w->Q1 e (Act.more a ds) w)(hno:∀a w,¬Q0 .outgrown a w)(hd:jy ops.toList=true):
  ∀(fuel:Nat) (listed:Array Bool) (a:Act) (w:Z6),wpAny P md ops Q0 fuel listed a w->wpAnyIn (Rd ro) m P md ops Q1 fuel listed (Act.more a ds) w
 |0,_,_,_,h=>⟨h.1,hQ _ _ _ h.2⟩
 |fuel+1,_,_,_,h=>⟨λhr=>hQ _ _ _ (h.1 hr),λi hi=>Un hQ hno hd (λa w h=>A5 hQ hno hd fuel _ a w h) (h.2 i hi)⟩
end
section
variable{P:Z3}{tt:Z8 (Nat×TI)}{ops:Array Oper}{Q:kJ}{o:Oper}{rest:Z8 Oper}{ro:Z4 Nat}{m:Nat}{ds:Z8 Deferred}
 {n:Nat} {F:cy} {C:Z8 Nat} {O:Own} {nl:Nat} {V:Vw} {K:Act->Z6->Prop}
theorem Iz(e:Exit)(a:Act)(w:Z6)(h:RQ ds Q e a w):QH Q e (Act.more a ds) w:=h
theorem IT(d:sB Q)(a:Act)(w:Z6): ¬RQ ds Q .outgrown a w:=d _ _ _
theorem rq{e:Exit}(h:KJ (Q ds e) n F C O nl V):KJ (RQ ds Q e) n F C O nl V:=
 ⟨λE a w hd m l=>by
  have:=h.out E a w hd m l
  obtain⟨t,d⟩:=a
  cases hd
  exact this⟩
theorem vW{a:Act}(hd:a.defers=[]):({a with defers:=ds}:Act)=Act.more a ds:=by obtain⟨t,d⟩:=a;cases hd;rfl
theorem Dn{e:Exit}{a:Act}{w:Z6}(hd:a.defers=[])(h:Q ds e a w):QH Q e {a with defers:=ds} w:=by obtain⟨t,d⟩:=a;cases hd;exact h
theorem ef{x y:Code}(h:KJ (RX P ro m ds x (λds=>Exit.then (RX P ro m ds y Q) (Q ds))) n F C O nl V):KJ (RX P ro m ds (Code.seq x y) Q) n F C O nl V:=
 ⟨λE a w hd l d=>wpIn_seq (wpIn_mono (h.out E a w hd l d) (λe t p o=>by cases e<;>exact o))⟩
theorem VA{id:Nat}{l:Z8 Oper}(o:sB Q)(hd:jy l=true)(h:KJ (wpList P l.toArray (RQ ds Q) l) n F C O nl V):KJ (RX P ro m ds (Code.region id l.toArray false) Q) n F C O nl V:=
 ⟨λE a w d t p=>by
  have:=uX (ro:=ro) (m:=m) (Q1:=QH Q) (ds:=ds) (Iz) (IT o) l a w hd (h.out E a w d t p)
  unfold RX
  rw[vW d]
  exact wpIn_region_lit this⟩
theorem ki{id:Nat}{c:Code}(h:KJ (RX P ro m ds c (λds=>Exit.inBlock id (Q ds))) n F C O nl V):KJ (RX P ro m ds (Code.block id c) Q) n F C O nl V:=
 ⟨λE a w hd o l=>wpIn_block (wpIn_mono (h.out E a w hd o l) (λe t p d=>by
  cases e with
  |exit i=>
   unfold QH at d⊢
   simp only[Exit.inBlock]at d⊢
   simp_all
  |_=>exact d))⟩
theorem vN{id:Nat}(h:KJ (Q ds (.exit id)) n F C O nl V):KJ (RX P ro m ds (Code.exit id) Q) n F C O nl V:=
 ⟨λE a w hd l d=>wpIn_exit (Dn hd (h.out E a w hd l d))⟩
theorem mq(h:KJ (Q ds .ret) n F C O nl V):KJ (RX P ro m ds Code.ret Q) n F C O nl V:=
 ⟨λE a w hd l d=>wpIn_ret (Dn hd (h.out E a w hd l d))⟩
theorem lj(h:KJ (Q ds .normal) n F C O nl V):KJ (RX P ro m ds Code.skip Q) n F C O nl V:=
 ⟨λE a w hd l d=>wpIn_skip (Dn hd (h.out E a w hd l d))⟩
theorem kN{c:Operand}{x y:Code}{b:Bool}(u:cV F [] c=some (.a (.v (.bool b))))(t:b=true->KJ (RX P ro m ds x Q) n F C O nl V)(o:b=false->KJ (RX P ro m ds y Q) n F C O nl V):
  KJ (RX P ro m ds (Code.cond c x y) Q) n F C O nl V:=
 ⟨λE a w hd d l=>by
  have p:=(cZ d (by rfl) u).1
  have:({a with defers:=ds}:Act).eval c=.bool b:=by rw[vW hd,Act.more_eval];exact p
  cases b with
  |true=>exact wpIn_cond_true this ((t J).out E a w hd d l)
  |false=>exact wpIn_cond_false this ((o J).out E a w hd d l)⟩
theorem O8{id:Nat}{l:Z8 Oper}(u:sB Q)(t:jy l=true)(sp:Z8 Nat)(p:Own)(d:P.follows .mixedOrders=true)(hO:dm O p)(y:eA nl p=true) (h:TJ P l.toArray (RQ ds Q) sp p l.length (List.replicate l.length false) n F C O nl V):KJ (RX P ro m ds (Code.region id l.toArray true) Q) n F C O nl V:=by constructor;intro E a w hd L B;have o:Mem E O nl V {w with drawn:=w.drawn+1}:=B.drawn _;have R:=h.out E a _ hd L o (o.weak hO y (Vw.le.refl _));have N:=tO (sp:=sp) (M:=λw=>Mem E p nl V w) _ _ _ _ R;have T:=A5 (ro:=ro) (m:=m) (Q1:=NoPanic (QH Q)) (ds:=ds) (Q0:=NoPanic (RQ ds Q)) (λe a w z=>by cases e<;>exact z) (λa w z=>u _ _ _ z) (by simpa using t) _ _ _ _ N;unfold RX;rw[vW hd];exact wpIn_mono (wpIn_region_any d (by simpa using T)) NoPanic.imp
theorem Tu{p:Nat->Prop}:∀k,p k-> ∃j,p j/\ ∀i,p i->j<=i:=by
 intro k
 induction k using Nat.strongRecOn with
 |_ k ih=>
  intro d
  grind
open Classical in
noncomputable def xK (p:Nat->Prop):Nat:=if h:∃j,p j/\ ∀i,p i->j<=i then Classical.choose h else 0
theorem Ha{p:Nat->Prop}{k:Nat}(h:p k):p (xK p)/\ ∀i,p i->xK p<=i:=by have d:=Tu k h;unfold xK;rw[dif_pos d];exact C_ d
theorem QR{y:Fence}{n:Nat}{Q:Exit->Act->Z6->Prop}{c:Code}{σ:Type}(I:σ->Act->Z6->Prop)(μ:σ->Nat){a:Act}{w:Z6}(t:σ)(E:I t a w) (l:∀x a w,I x a w->c.wpIn y n P (Exit.then (λa' w'=>∃x',I x' a' w'/\μ x'<μ x) Q) a w):(Code.loop c).wpIn y n P Q a w:=by
 refine wpIn_loop (λa w=>∃x,I x a w) (λa w=>xK λk=>∃x,I x a w/\μ x=k) ⟨t,E⟩ ?_;rintro a w ⟨x,z⟩;obtain⟨⟨L,o,B⟩,_⟩:=Ha (p:=λk=>∃x,I x a w/\μ x=k) ⟨x,z,J⟩;refine wpIn_mono (l L a w o) ?_;intro e a' w' u;cases e with
 |normal=>obtain⟨x',d,m⟩:=u;refine⟨⟨x',d⟩,?_⟩;rw[<-B];exact Nat.lt_of_le_of_lt ((Ha (p:=λk=>∃x,I x a' w'/\μ x=k) ⟨x',d,J⟩).2 _ ⟨x',d,J⟩) m
 |_=>exact u
theorem wk{c:Code}{σ:Type}(ts ls:Z8 Nat){o:Z8 (Nat×SV)}{u:Own}(hk:nR F ts []=some o)(ho:jH O ls []=some u) (Fx:σ->Z8 (Nat×SV)) (Ox:σ->Own) (Vx:σ->Vw) (I:σ->Prop) (μ:σ->Nat) (l:σ) (N:I l) (hs:dT F (Fx l++o)) (hO:dm O (Ox l++u)) (B:(iO nl (Fx l++o)&&eA nl (Ox l++u))=true) (hV:(Vx l).le V) (p:∀x,I x->KJ (RX P ro m ds c (λds'=>Exit.then (λa w=>∃x',(gM n (λx=>Fx x++o) (λx=>Ox x++u) nl Vx x' a w/\I x')/\μ x'<μ x/\ds'=ds) (Q ds'))) n (dA (Fx x++o)) [] (Ox x++u) nl (Vx x)): KJ (RX P ro m ds (Code.loop c) Q) n F C O nl V:=by
 constructor;intro E a w hd X hm;refine QR (λx a w=>a.defers=ds/\gM n (λx=>Fx x++o) (λx=>Ox x++u) nl Vx x {a with defers:=[]} w/\I x) μ l ⟨J,?_,N⟩ ?_;{have:=(wx (n:=n) (C:=C) (Fx:=λx=>Fx x++o) (Ox:=λx=>Ox x++u) (Vx:=Vx) l hs hO B hV).out E a w hd X hm;obtain⟨t,d⟩:=a;cases hd;exact this};rintro x ⟨t,d⟩ w ⟨rfl,⟨R,a6,z,y⟩,Y⟩;refine wpIn_mono ((p x Y).out R {tmps:=t,defers:=[]} w J z y) ?_;intro e a' w' L;cases e with
 |normal=>obtain⟨x',⟨W,M⟩,Z,T⟩:=L;exact⟨x',⟨T,W,M⟩,Z⟩
 |_=>exact L
theorem rW{σ:Type}{Fx:σ->Z8 (Nat×SV)}{Ox:σ->Own}{nl':Nat}{Vx:σ->Vw}{I:σ->Prop}{m:Nat}{μ:σ->Nat}(d:σ)
  (t:I d) (hμ:μ d<m) (hs:dT F (Fx d)) (hO:dm O (Ox d)) (l:(iO nl' (Fx d)&&eA nl' (Ox d))=true) (hV:(Vx d).le V):
  KJ (λa w=>∃d,(gM n Fx Ox nl' Vx d a w/\I d)/\μ d<m/\ds=ds) n F C O nl V:=
 ⟨λE a w hd p o=>⟨d,⟨(wx (n:=n) (C:=C) d hs hO l hV).out E a w hd p o,t⟩,hμ,J⟩⟩
def tK(m:Nat)(P:Z3)(fn:Func)(R:Ending->Z6->Prop):kJ:=λds e a w=>bodyPostM (Rd none) m P fn R e {a with defers:=ds} w
theorem wy(m:Nat){f:Nat}{fn:Func}{c:Code}{R:Ending->Z6->Prop}{w:Z6}{E:Env}(d:Z8 SV)(z:P.funcs[f]? =some fn)(M:fn.body=some c)(W:fn.ntmps=n) (X:Mem E O nl V w) (y:kI nl d=true) (B:Nat.ble d.length n=true) (h:KJ (RX P none m [] c (tK m P fn R)) n (k5 d 0) [] O nl V):CallsIn (Rd none) m P f (d.map (SV.den E)).toArray w R:=by refine callsIn_of_wp_marks z M ZY ?_;have T:=h.out E {tmps:=(d.map (SV.den E)).toArray++Array.replicate (fn.ntmps - (d.map (SV.den E)).toArray.size) undef,defers:=[]} w J;refine wpIn_mono (T ?_ X) λe a w N=>N;(have L:d.length<=n:=by simpa using B);subst W;refine⟨by simp;omega,?_,?_,?_⟩;{intro t e o;obtain⟨s,_,l,rfl⟩:=rL d 0 t e o;simp at l;obtain⟨u,p⟩:=List.getElem?_eq_some_iff.1 l;simp[Array.getElem?_append,u,p]};{intro t e o;obtain⟨s,_,l,rfl⟩:=rL d 0 t e o;exact⟨J,sm⟩};intro t e o _;obtain⟨s,_,l,rfl⟩:=rL d 0 t e o;exact allOk'_iff.1 y s<|ZZ l
theorem H9{tt:Z8 (Nat×TI)}{E:Env}{a:Act}{w:Z6}{fn:Func}{d:Z8 SV}(o:dl P tt)(z:jN tt F O fn.results.toList=some d)(t:Frm E n F C nl a.tmps)(p:Mem E O nl V w): (results fn a.tmps).run P w=.ok (eY (d.map (SV.den E))) w/\ ∀s∈d,s.ok nl=true:=by
 obtain⟨B,y⟩:=DG o t p z;refine⟨?_,y⟩;unfold results;rw[show fn.results=fn.results.toList.toArray by simp];have m:=B;simp only[g',ZR,Sem.run_map]
 erw [m]
 congr 1;generalize d.map (SV.den E)=l
 match l with
 |[]=>rfl
 |[v]=>rfl
 |v::u::r=>simp[eY]
theorem Hv(o:dl P tt){fn:Func}{R:Ending->Z6->Prop}{l:Z8 SV}(z:jN tt F O fn.results.toList=some l) (h:∀E w,Mem E O nl V w->(∀s∈l,s.ok nl=true)->R (.returned (eY (l.map (SV.den E)))) w) (e:Exit) (y:e=.normal\/e=.ret):KJ (tK m P fn R [] e) n F C O nl V:=by constructor;intro E a w hd u d;obtain⟨t,p⟩:=H9 o z u d;(rcases y with rfl|rfl);{exact⟨_,t,h E w d p⟩};exact⟨_,t,h E w d p⟩
theorem qQ(l:dl P tt){fn:Func}{R:Ending->Z6->Prop}{d:Z8 SV}(o:jN tt F O fn.results.toList=some d)
  (h:∀E w,Mem E O nl V w->(∀s∈d,s.ok nl=true)->R (.returned (eY (d.map (SV.den E)))) w):KJ (tK m P fn R [] .ret) n F C O nl V:=Hv l o h _ (.inr J)
theorem KE(l:dl P tt){fn:Func}{R:Ending->Z6->Prop}{d:Z8 SV}(o:jN tt F O fn.results.toList=some d)
  (h:∀E w,Mem E O nl V w->(∀s∈d,s.ok nl=true)->R (.returned (eY (d.map (SV.den E)))) w):KJ (tK m P fn R [] .normal) n F C O nl V:=Hv l o h _ (.inl J)
def sd(D:Nat):Z8 Deferred:=[{target:=.collected D,args:= #[]}]
theorem Mem.shut{E:Env}{w:Z6}(d:Mem E O nl V w){D:Nat}{o:Obj}(B:V.get D=some o)(u:Obj):Mem E O nl (V.del D) (w.putObj D u):=by
 have t:∀k,k≠D->(w.putObj D u).heap[k]? =w.heap[k]? :=λk m=>World.putObj_heap_other m
 have p:∀l c k,lk O l=some c->blk E l c=some k->k≠D:=λl c k h m z=>by
  have:=d.off l c k h m
  simp_all
 refine⟨λl cs e h=>?_,λl e sz k xs h=>?_,d.sep,λk y m=>?_,λl c k h m=>?_,d.os,d.tape,d.output,d.lab,d.labs,d.pin,λl k h=>by simpa using d.big l k h,d.kp⟩;{rw[t _ (p l _ _ h J)];exact d.lit l cs e h};{exact nt (d.row _ _ _ _ _ h) λk m=>t k (p l _ _ h m)};{simp only[Vw.del]at m;split at m;{cases m};rename_i p;rw[t k p];exact d.get k y m};have:=d.off l c k h m;simp only[Vw.del]
 simp_all
theorem M2(o:dl P tt){fn:Func}{R:Ending->Z6->Prop}{l:Z8 SV}{D:Nat}(B:jN tt F O fn.results.toList=some l)(t:V.get D=some (.deferred (some []))) (h:∀E w,Mem E O nl (V.del D) w->(∀s∈l,s.ok nl=true)->R (.returned (eY (l.map (SV.den E)))) w) (e:Exit) (z:e=.normal\/e=.ret):KJ (tK m P fn R (sd D) e) n F C O nl V:=by
 constructor;intro E a w hd u p;have d:=p.shut t (.deferred none);obtain⟨L,y⟩:=H9 o B u d
 have key:LeavesInM (Rd none) m P fn a.tmps R (sd D) .returning w:=
  ⟨sm,.inl ⟨D,_,J,run_takeDeferred (p.get D _ t),_,L,h E _ d y⟩⟩
 (rcases z with rfl|rfl);{exact key};exact key
theorem Rr{id:Nat}{l:Z8 Oper}(h:KJ (wpList P l.toArray (RQ ds Q) l) n F C O nl V)(d:sB Q:=by intro _ _ w1 h1;first|exact h1|(obtain⟨h2,_⟩:=h1;cases h2;done)|(obtain⟨⟨_,h2⟩,_⟩:=h1;cases h2;done)|(obtain⟨⟨_,h2,_⟩,_⟩:=h1;cases h2;done)|(obtain⟨_,h2,_⟩:=h1;cases h2;done)|(obtain⟨_,_,h2,_⟩:=h1;cases h2;done)|(obtain⟨_,_,_,h2,_⟩:=h1;cases h2;done)|(rcases h1 with⟨⟨_,_,h2,_⟩|⟨_,h2⟩,_⟩<;>cases h2;done)|(exact nor _ h1))(hd:jy l=true:=by rfl):KJ (RX P ro m ds (Code.region id l.toArray false) Q) n F C O nl V:=VA d hd h
end
section
variable{P:Z3}{tt:Z8 (Nat×TI)}{ops:Array Oper}{Q:kJ}{o:Oper}{rest:Z8 Oper}{ro:Z4 Nat}{m:Nat}{ds:Z8 Deferred}
 {n:Nat} {F:cy} {C:Z8 Nat} {O:Own} {nl:Nat} {V:Vw} {K:Act->Z6->Prop}
def vJ:Nat->Z8 Oper->Z8 Oper->Z4 (Z8 Oper×Oper×Z8 Oper)
 |_,_,[]=>none
 |0,acc,o::r=>some (acc.reverse,o,r)
 |k+1,acc,o::r=>vJ k (o::acc) r
theorem D6:∀(k:Nat) (acc l:Z8 Oper) {l1 l2:Z8 Oper} {o:Oper},vJ k acc l=some (l1,o,l2)->acc.reverse++l=l1++o::l2
 |_,_,[],_,_,_,h=>by cases ‹Nat›<;>simp[vJ]at h
 |0,acc,x::r,_,_,_,h=>by simp[vJ]at h;obtain⟨rfl,rfl,rfl⟩:=h;rfl
 |k+1,acc,x::r,_,_,_,h=>by
  have:=D6 k (x::acc) r h
  simp_all
theorem CZ{Q1:Exit->Act->Z6->Prop}{r:Z8 Oper}:∀(l:Z8 Oper) (a:Act) (w:Z6),wpListIn (Rd ro) m P ops (Exit.then (wpListIn (Rd ro) m P ops Q1 r) Q1) l a w->wpListIn (Rd ro) m P ops Q1 (l++r) a w
 |[],a,w,h=>h
 |o::l,a,w,h=>by
  unfold wpListIn at h
  show wpListIn (Rd ro) m P ops Q1 (o::(l++r)) a w
  unfold wpListIn
  by_cases hw:Region.wanted o (yielded ops a.tmps)=true
  ·
   simp only[hw,Yf]at h⊢
   refine⟨h.1,?_⟩
   have h2:=h.2
   have t:=λa w=>CZ (Q1:=Q1) (r:=r) l a w
   generalize (o.semAt (Rd ro).round a.eval).run P w=q at*
   cases q with
   |ok x w'=>
    cases x with
    |value v=>exact t _ _ h2
    |skip=>exact t _ _ h2
    |defer d=>exact t _ _ h2
    |enter f args=>exact⟨h2.1,CallsIn.mono h2.2 (λe u p=>by cases e<;>first|exact t _ _ p|exact p)⟩
    |row s args=>exact⟨h2.1,RowsIn.mono h2.2 (λv u p=>t _ _ p)⟩
    |round l f tmps assign body=>exact⟨h2.1,RoundIn.mono h2.2 (λe u p=>by cases e<;>first|exact t _ _ p|exact p)⟩
    |_=>exact h2
   |halt x w'=>cases x<;>exact h2
  ·
   simp only[hw,Zt]at h⊢
   exact⟨h.1,CZ l _ _ h.2⟩
def RY(P:Z3)(ro:Z4 Nat)(m:Nat)(ops:Array Oper)(ds:Z8 Deferred)(Q:kJ)(l:Z8 Oper):Exit->Act->Z6->Prop:=
 Exit.then (λa w=>wpListIn (Rd ro) m P ops (QH Q) l (Act.more a ds) w) (RQ ds Q)
theorem BJ{id:Nat}{l o p:Z8 Oper}{oy:Oper}(k:Nat)(t:sB Q)(hs:vJ k [] l=some (o,oy,p))(hd:jy o=true)
  (h:KJ (wpList P l.toArray (RY P ro m l.toArray ds Q (oy::p)) o) n F C O nl V):KJ (RX P ro m ds (Code.region id l.toArray false) Q) n F C O nl V:=
 ⟨λE a w d L B=>by
  have M:=uX (ro:=ro) (m:=m) (Q0:=RY P ro m l.toArray ds Q (oy::p)) (Q1:=Exit.then (wpListIn (Rd ro) m P l.toArray (QH Q) (oy::p)) (QH Q)) (ds:=ds) (λe a w u=>by cases e<;>exact u) (λa w u=>t _ _ _ u) o a w hd (h.out E a w d L B)
  have y:=CZ o _ _ M
  have z:=D6 k [] l hs
  simp at z
  unfold RX
  rw[vW d]
  refine wpIn_region_lit ?_
  rw[z]at y⊢
  exact y⟩
theorem ry(l:Z8 Oper)(h:KJ (λa w=>wpListIn (Rd ro) m P ops (QH Q) l (Act.more a ds) w) n F C O nl V):KJ (RY P ro m ops ds Q l .normal) n F C O nl V:=⟨h.out⟩
theorem Ds{l:Z8 Oper}(o:sB Q)(hd:jy l=true)(h:KJ (wpList P ops (RQ ds Q) l) n F C O nl V):KJ (λa w=>wpListIn (Rd ro) m P ops (QH Q) l (Act.more a ds) w) n F C O nl V:=
 ⟨λE a w d t p=>uX (ro:=ro) (m:=m) (Q1:=QH Q) (ds:=ds) Iz (IT o) l a w hd (h.out E a w d t p)⟩
theorem Gk{l2:Z8 Oper}{oy:Oper}{d N:Nat}{ss:Z8 SV}(Ψ:Bool->Vw->Prop)(hg:oy.guard=none)(hd:oy.dst=some d)(hc:Nat.blt d n=true) (t:kL F [] oy.op=some (.func (.yield N) #[] #[],ss)) (hY:∀E w,V.le (vw w)->YieldAt (Rd ro) (m - 1) P N (ss.map (SV.den E)).toArray w (λe w'=>∃b V',e=.returned (.bool b)/\V'.le (vw w')/\Ψ b V')) (M:∀b V',Ψ b V'->KJ (λa w=>wpListIn (Rd ro) m P ops (QH Q) l2 (Act.more a ds) w) n ((d,⟨[],true,.a (.v (.bool b))⟩)::F) [] [] nl V'): KJ (λa w=>wpListIn (Rd ro) m P ops (QH Q) (oy::l2) (Act.more a ds) w) n F [] [] nl V:=by
 constructor;intro E a w a0 Y hm;unfold wpListIn;(have hw:Region.wanted oy (yielded ops (Act.more a ds).tmps)=true:=by simp[Region.wanted,hg]);rw[ZW hw];obtain⟨fn,B,o,body,hy,hR⟩:=hY E w hm.leV;refine⟨λ_ _=>trivial,?_⟩;(have Z:∀c,oy.op≠ .defer c:=λc W=>by simp[W,kL]at t);rw[Act.more_eval,Oper.semAt_eq _ _ _ Z]
 have L:(execOp a.eval oy).run P w=.ok (.round N fn B o body) w:=by
  unfold execOp;cases u:oy.op with
  |call c=>
   obtain⟨l,z,ts⟩:=c;cases l with
   |value x=>simp only[u,kL]at t;split at t;{rename_i ai T hx ha;simp at t;obtain⟨rfl,rfl⟩:=t;obtain⟨h1,_⟩:=vp Y J ha;obtain⟨h3,_⟩:=cZ Y (p:=[]) J hx;(have y:z.map a.eval=(T.map (SV.den E)).toArray:=by grind);have O:a.eval x=.func (.yield N) #[] #[]:=h3;simp only[resolve,O,Deferred.ofValue,ZR,ZO,ZU,invoke,y,J'];exact hy};simp at t
   |_=>simp[u,kL]at t
  |_=>simp[u,kL]at t
 rw[L];refine⟨λhd=>(by simp[Rd,Fence.wide]at hd),hR.mono ?_⟩;rintro e w' ⟨b,V',rfl,X,hΨ⟩;show wpListIn (Rd ro) m P ops (QH Q) l2 ((Act.more a ds).put oy.dst (.bool b)) w';rw[Act.more_put,hd];have R:=Dw E nl X;refine(M b V' hΨ).out E _ w' (by simp[Act.put,a0]) ?_ R;have:=Y.put (d:=d) (p:=[]) (g:=true) (s:=.a (.v (.bool b))) (eD.1 hc) J J (λq hq=>by cases hq) (λ_=>rfl);simpa[Act.put,SV.den,A.den]using this
theorem Mem.own_cells{E:Env}{w:Z6}(p:Mem E O nl V w){l:Nat}{c:Cel}{k:Nat}(t:lk O l=some c)(d:blk E l c=some k):∃o:Obj,w.heap[k]? =some o/\o.isCells=true:=by
 cases c with
 |lit cs e=>simp only[blk,Z0]at d;subst d;exact⟨_,p.lit _ _ _ t,J⟩
 |row e sz k' xs=>have y:=p.row _ _ _ _ _ t;simp only[blk]at d;(rcases y.2 with⟨m,_⟩|⟨g,z,u,m,_,B,_⟩);{rw[m]at d;simp[Value.ownBlock]at d};rw[m]at d;simp only[Value.ownBlock,Z0]at d;subst d;exact⟨_,B,J⟩
 |gone=>simp[blk]at d
 |pin _ _=>simp[blk]at d
 |size _=>simp[blk]at d
 |keep _ _ _=>simp[blk]at d
theorem Mem.abides{E:Env}{w u:Z6}{row:Z4 Nat}(d:Mem E O nl V w)(p:w.grownBy u row)(M:∀r,row=some r->V.get r=none/\ ∃o:Obj,w.heap[r]? =some o/\o.isCells=false):Mem E O nl V u:=by
 have t:∀{k:Nat} {o:Obj},w.heap[k]? =some o->k<w.heap.size:=λh=>(Array.getElem?_eq_some_iff.1 h).1
 have m:∀{l:Nat} {c:Cel} {k:Nat},lk O l=some c->blk E l c=some k->u.heap[k]? =w.heap[k]? :=λ{l c k} hl hb=>by
  obtain⟨o,L,N⟩:=d.own_cells hl hb;refine p.block k (t L) λe=>?_
  grind
 refine⟨λl cs e h=>by rw[m h J];exact d.lit _ _ _ h,λl e sz k xs h=>nt (d.row _ _ _ _ _ h) λk y=>m h y,d.sep,λk B y=>?_,d.off,p.os.trans d.os,p.tape.trans d.tape,p.output.trans d.output,d.lab,d.labs,d.pin,
  λl k h=>ZC (d.big l k h) p.size,d.kp⟩
 have z:=d.get k B y;refine(p.block k (t z) (λe=>?_)).trans z
 simp_all
open Classical in
noncomputable def iG (E:Env) (O:Own) (w:Z6):Vw:=⟨λk=>if∃l c,lk O l=some c/\blk E l c=some k then none else w.heap[k]?,w.os,w.tape,w.output⟩
theorem Mem.full{E:Env}{w:Z6}(d:Mem E O nl V w):Mem E O nl (iG E O w) w/\V.le (iG E O w):=by refine⟨⟨d.lit,d.row,d.sep,λk o m=>?_,λl c k h m=>?_,J,J,J,d.lab,d.labs,d.pin,d.big,d.kp⟩,λk o m=>?_,d.os,d.tape,d.output⟩;{simp only[iG]at m;split at m;{cases m};exact m};{simp only[iG];rw[ZW ⟨l,c,h,m⟩]};simp only[iG];rw[ZX,d.get k o m];rintro⟨l,c,h,p⟩;rw[d.off l c k h p]at m;cases m
theorem Mem.full_rest{E:Env}{w t:Z6}(u:Mem E O nl V w)(h:(iG E O w).le (vw t)){k:Nat}{o:Obj}(p:w.heap[k]? =some o)(z:o.isCells=false):t.heap[k]? =some o:=by refine h.get k o ?_;simp only[iG];rw[ZX,p];rintro⟨l,c,h,y⟩;obtain⟨B,m,d⟩:=u.own_cells h y;rw[p]at m;cases m;rw[z]at d;cases d
theorem Mem.drop{E:Env}{w:Z6}{k:Nat}(d:Mem E ((nl,.size k)::O) (nl+1) V w)(o:eA nl O=true):Mem E O nl V w:=by
 have p:∀{l:Nat} {c:Cel},lk O l=some c->lk ((nl,Cel.size k)::O) l=some c:=λ{l c} h=>by rw[gB _ _ (λe=>by have:=(mr o h).1;omega)];exact h
 refine⟨λl cs e h=>d.lit _ _ _ (p h),λl e sz k xs h=>d.row _ _ _ _ _ (p h),λl y c u k h t=>d.sep l y c u k (p h) (p t),d.get,λl c k h z=>d.off l c k (p h) z,d.os,d.tape,d.output,
  λl c h=>(mr o h).1,λl cs e h=>(mr o h).2.1 cs e J,λl m b h=>⟨(d.pin _ _ _ (p h)).1,(mr o h).2.2.1 m b J⟩,λl k h=>d.big _ _ (p h),
  λl m b v h=>⟨(d.kp _ _ _ _ (p h)).1,(d.kp _ _ _ _ (p h)).2.1,(mr o h).2.2.2 m b v J⟩⟩
theorem Lb{f:Nat}(h:eJ P f)(args:Array Z7)(w:Z6):(callFunc f args).run P w=.ok (.enter f args) w:=by obtain⟨fn,l,m,d⟩:=h;simp only[callFunc,ZR,run_program,ZU,l,m,d,Zw,Zt,ZO]
def A.pl(E:Env)(x:A):A:=.v (x.den E)
def SV.pl(E:Env):SV->SV
 |.a x=>.a (x.pl E)
 |.agg cs=>.agg (cs.map (A.pl E))
 |.tup xs=>.tup (xs.map (A.pl E))
theorem SV.pl_den(E d:Env)(x:SV):(x.pl E).den d=x.den E:=by
 (have h:∀cs:Z8 A,(cs.map (A.pl E)).map (A.den d)=cs.map (A.den E):=λcs=>by rw[Ym];rfl);cases x with
 |a x=>rfl
 |agg cs=>simp only[SV.pl,SV.den,h]
 |tup cs=>simp only[SV.pl,SV.den,h]
theorem SV.pl_ok(E:Env)(nl:Nat)(x:SV):(x.pl E).ok nl=true:=by
 have h:∀cs:Z8 A,dH nl (cs.map (A.pl E))=true:=λcs=>gi.2 (λy d=>by
  obtain⟨z,_,rfl⟩:=Y6.1 d
  rfl)
 cases x with
 |a x=>rfl
 |agg cs=>exact h cs
 |tup cs=>exact h cs
def rN(E:Env):Z8 (Nat×SV)->Z8 (Nat×SV)
 |[]=>[]
 |(t,x)::r=>(t,x.pl E)::rN E r
theorem Frm.pl{E w:Env}{nl':Nat}{tmps:Array Z7}(l:Z8 (Nat×SV))(p:Frm E n (dA l) [] nl tmps):Frm w n (dA (rN E l)) [] nl' tmps:=by
 have key:∀(l:Z8 (Nat×SV)) {t:Nat} {e:Ent},lk (dA (rN E l)) t=some e-> ∃d,lk (dA l) t=some d/\e=⟨d.path,d.g,d.x.pl E⟩:=by
  intro l
  induction l with
  |nil=>intro t e h;simp[rN,dA,lk]at h
  |cons q r ih=>
   intro t e h;obtain⟨u,x⟩:=q;simp only[rN,dA,fm]at h⊢
   grind
 have m:∀(l:Z8 (Nat×SV)) {t:Nat} {e:Ent},lk (dA l) t=some e->e.path=[]/\e.g=true:=by
  intro l
  induction l with
  |nil=>intro t e h;simp[dA,lk]at h
  |cons q r ih=>intro t e h;obtain⟨u,x⟩:=q;simp only[dA,fm]at h;by_cases L:u=t;{grind};simp only[L,Zt]at h;exact ih h
 refine⟨p.size,λt e h=>?_,λt e h=>?_,λt e h M=>?_⟩;{obtain⟨d,o,rfl⟩:=key l h;rw[p.val t d o];simp only[SV.pl_den]};{obtain⟨d,o,rfl⟩:=key l h;obtain⟨B,z⟩:=m l o;simp only[B,z];exact⟨J,λq y=>by cases y⟩};obtain⟨d,o,rfl⟩:=key l h;exact SV.pl_ok E nl' _
def Al(E:Env)(base:Nat):Z8 Nat->Own
 |[]=>[]
 |l::ls=>(base+ls.length,.keep l (E.ρ l) (E.κ l))::Al E base ls
theorem Mem.addKeepL{E:Env}{w:Z6}(hm:Mem E O nl V w):∀ls:Z8 Nat,(∀l∈ls,l<nl)->Mem E (Al E nl ls++O) (nl+ls.length) V w
 |[],_=>hm
 |l::ls,h=>(hm.addKeepL ls (λx hx=>h x (Zr _ hx))).addKeep l (by have:=h l (Zj ..);omega)
def uY(nl:Nat):Z8 Nat->Bool
 |[]=>true
 |l::ls=>Nat.blt l nl&&uY nl ls
theorem DM:∀{ls:Z8 Nat},uY nl ls=true-> ∀l∈ls,l<nl
 |[],_,l,h=>by cases h
 |x::r,hs,l,h=>by
  simp only[uY,Z1,eD]at hs
  rcases Zg.1 h with rfl|h
  . exact hs.1
  . exact DM hs.2 l h
theorem Fy(t q l b:Nat){v:Z7}(T:cV F [] (.tmp t)=some (.a (.v v)))(o:lk O q=some (.keep l b v))(u:(Nat.blt t n&& !(dh t C))=true) (h:KJ K n ((t,⟨[],true,.a (.row l)⟩)::F) C O nl V):KJ K n F C O nl V:=by constructor;intro E a w hd B M;simp at u;obtain⟨h1,R,L⟩:=M.kp _ _ _ _ o;refine h.out E a w hd ?_ M;obtain⟨Y,_⟩:=cZ B (p:=[]) J T;(have y:t<a.tmps.size:=by rw[B.size];exact u.1);have o:=B.put (d:=t) (p:=[]) (g:=true) (s:=.a (.row l)) u.1 u.2 J (λq W=>by cases W) (λ_=>by simp[SV.ok,A.ok,eD,L]);simp at o;(have Z:(SV.a (A.row l)).den E=a.tmps.getD t undef:=by have:a.eval (.tmp t)=a.tmps.getD t undef:=rfl;rw[<-this,Y];simp[SV.den,A.den,R]);rw[Z]at o;(have m:(a.put (some t) (a.tmps.getD t undef)).tmps=a.tmps:=by simp only[Act.put];apply Array.ext;{simp};intro i N X;rw[o'];split;{rename_i z;subst z;simp[Array.getD,y]};rfl);rw[m]at o;exact o
theorem Bm{id:Nat}{l:Z8 Oper}{o:Own}(t:sB Q)(p:jy l=true)(sp:Z8 Nat)(d:P.follows .mixedOrders=true)
  (w:jH O [] []=some o) (hO:dm O o) (u:eA nl o=true)
  (h:TJ P l.toArray (RQ ds Q) sp o l.length (List.replicate l.length false) n F C O nl V):KJ (RX P ro m ds (Code.region id l.toArray true) Q) n F C O nl V:=
 O8 t p sp o d hO u h
theorem CB{f:FuncId}{args:Array Z7}{w:Z6}{R:Ending->Z6->Prop}(h:CallsIn (Rd none) m P f args w R):Calls P f args w R:=callsIn_wide.1 h
theorem yk(l:dl P tt){fn:Func}{R:Ending->Z6->Prop}{d:Z8 SV}{D:Nat}(o:jN tt F O fn.results.toList=some d)(p:V.get D=some (.deferred (some [])))
  (h:∀E w,Mem E O nl (V.del D) w->(∀s∈d,s.ok nl=true)->R (.returned (eY (d.map (SV.den E)))) w):KJ (tK m P fn R (sd D) .ret) n F C O nl V:=M2 l o p h _ (.inr J)
theorem Lp{E:Env}{w y:Z6}{V0:Vw}(hV:V0.le (vw w))(t:Mem E O nl (vw w) y){l:Nat}{cs:Z8 A}{e:Nat}(z:lk O l=some (.lit cs e)): Vext w.heap.size V0 (V0.put (E.ρ l) (.cells (cs.map (A.den E)).toArray e (0,0))) y/\(V0.put (E.ρ l) (.cells (cs.map (A.den E)).toArray e (0,0))).get (E.ρ l)=some (.cells (cs.map (A.den E)).toArray e (0,0)):=by
 have M:=t.lit _ _ _ z;have p:w.heap[E.ρ l]? =none:=t.off l _ _ z J
 have m:V0.get (E.ρ l)=none:=by
  cases h:V0.get (E.ρ l)with
  |none=>rfl
  |some o=>have B:w.heap[E.ρ l]? =some o:=hV.get _ _ h;rw[p]at B;cases B
 have u:V0.le (V0.put (E.ρ l) (.cells (cs.map (A.den E)).toArray e (0,0))):=⟨λk o d=>by
  simp only[Vw.put]
  split
  . rename_i L;subst L;rw[m]at d;cases d
  . exact d,J,J,J⟩
 refine⟨⟨u,λk o d=>?_⟩,by simp[Vw.put]⟩;simp only[Vw.put]at d;split at d;{simp_all};exact⟨t.get _ _ (hV.get _ _ d),.inl d⟩
theorem zm{W w:Z6}(h:(vw W).le (vw w)):W.grownBy w none:=by have d:=(Dw (nl:=0) ⟨λ_=>0,λ_=>.bool true⟩ h).below (Vw.le.refl _);exact⟨d.os,d.tape,d.output,d.size,λk l _=>d.block k l⟩
theorem Ch{β:Type}{B:Nat}{J9q:β->Z6->Prop}(d:AbidesFrom B J9q){s:β}{W w:Z6}(hs:J9q s W)(h:(vw W).le (vw w)):J9q s w:=
 d s W w none hs (zm h) (λr e=>by cases e)
theorem GS{t:Fence}{l:Nat}{args:Array Z7}{W:Z6}{R p:Ending->Z6->Prop}(h:YieldAt t m P l args W R)(z:∀e w,R e w->p e w):YieldAt t m P l args W p:=by obtain⟨fn,o,d,body,u,y⟩:=h;exact⟨fn,o,d,body,u,y.mono z⟩
theorem GR{id:Nat}{l:Z8 Oper}{σ:Type}{R:Own}(L:jy l=true)(sp:Z8 Nat)(Fx:σ->Z8 (Nat×SV))(Ox:σ->Own)(nl':Nat)(Vx:σ->Vw)(I:σ->Prop)(o:P.follows .mixedOrders=true) (hO:∀E w,Mem E O nl V w->Mem E R nl V w) (h:TJ P l.toArray (pO λa w=>∃x',gM n Fx Ox nl' Vx x' a w/\I x') sp R l.length (List.replicate l.length false) n F C O nl V) (hy:∀x',I x'->KJ (Q ds .normal) n (dA (Fx x')) [] (Ox x') nl' (Vx x')):KJ (RX P ro m ds (Code.region id l.toArray true) Q) n F C O nl V:=by
 constructor;intro E a w hd hf hm;have p:Mem E O nl V {w with drawn:=w.drawn+1}:=hm.drawn _;have Z:=h.out E a _ hd hf p (hO E _ p);have X:=tO (sp:=sp) (M:=λw=>Mem E R nl V w) _ _ _ _ Z
 have h3:=A5 (ro:=ro) (m:=m) (Q1:=λe T w=>e=.normal/\ ∃u,T=Act.more u ds/\ ∃x',gM n Fx Ox nl' Vx x' u w/\I x') (ds:=ds) (Q0:=NoPanic (pO λa w=>∃x',gM n Fx Ox nl' Vx x' a w/\I x'))
  (λe a w z=>by
   cases e with
   |normal=>exact⟨J,a,J,z⟩
   |_=>exact z.elim) (λa w z=>z) (by simpa using L) _ _ _ _ X
 unfold RX;rw[vW hd];refine wpIn_mono (wpIn_region_any o (by simpa using h3)) ?_;rintro e T W ⟨rfl,u,rfl,x',⟨Y,y,N,B⟩,hI⟩;have:=(hy x' hI).out Y u W y N B;obtain⟨t,d⟩:=u;cases y;exact this
theorem Vc{id:Nat}{l:Z8 Oper}{σ:Type}(o:jy l=true)(Fx:σ->Z8 (Nat×SV))(Ox:σ->Own)(nl':Nat)(Vx:σ->Vw)(I:σ->Prop)(d:P.follows .mixedOrders=true)
  (h:TJ P l.toArray (pO λa w=>∃x',gM n Fx Ox nl' Vx x' a w/\I x') [] O l.length (List.replicate l.length false) n F C O nl V)
  (p:∀x',I x'->KJ (Q ds .normal) n (dA (Fx x')) [] (Ox x') nl' (Vx x')):KJ (RX P ro m ds (Code.region id l.toArray true) Q) n F C O nl V:=
 GR o [] Fx Ox nl' Vx I d (λ_ _ h=>h) h p
theorem XY{id:Nat}{l:Z8 Oper}{σ:Type}{o:Own}(p:jy l=true)(sp:Z8 Nat)(Fx:σ->Z8 (Nat×SV))(Ox:σ->Own)(nl':Nat)(Vx:σ->Vw)(I:σ->Prop)(d:P.follows .mixedOrders=true)
  (y:jH O [] []=some o) (hO:dm O o) (t:eA nl o=true)
  (h:TJ P l.toArray (pO λa w=>∃x',gM n Fx Ox nl' Vx x' a w/\I x') sp o l.length (List.replicate l.length false) n F C O nl V)
  (u:∀x',I x'->KJ (Q ds .normal) n (dA (Fx x')) [] (Ox x') nl' (Vx x')):KJ (RX P ro m ds (Code.region id l.toArray true) Q) n F C O nl V:=
 GR p sp Fx Ox nl' Vx I d (λ_ _ h=>h.weak hO t (Vw.le.refl _)) h u
theorem ph(l q b:Nat){p:Z8 (Nat×Bool)}{g:Bool}{e sz k':Nat}{xs:Z8 Z7}{v:Z7}(s:SV)(L:lk O l=some (.row e sz k' xs))(y:lk O q=some (.keep l b v))(hs:s.ok nl=true) (h:∀V',eL V' v sz k' xs->dY P o n F C [] nl V' p g s):dY P o n F C O nl V p g s:=by intro m E a w z t u;have d:=u.row _ _ _ _ _ L;obtain⟨_,B,M⟩:=u.kp _ _ _ _ y;have:=h (vw w) (by rw[<-B];exact pg d (λk _=>rfl)) m E a w z t (jh E nl w);omega
def tC(O:Own):Z8 Nat->Own->Z4 Own
 |[],acc=>some acc
 |l::ls,acc=>match lk O l with
  |some c=>tC O ls ((l,c)::acc)
  |none=>none
theorem DQ{O:Own}:∀(ls:Z8 Nat) (acc:Own) {O1:Own},tC O ls acc=some O1-> ∀l c,lk O1 l=some c->lk acc l=some c\/(lk O l=some c/\dh l ls=true)
 |[],acc,O1,h,l,c,hl=>by simp[tC]at h;subst h;exact .inl hl
 |q::ls,acc,O1,h,l,c,hl=>by
  simp only[tC]at h
  split at h
  ·
   rename_i cq hq
   rcases DQ ls _ h l c hl with h1|⟨h1,h2⟩
   ·
    rw[fm]at h1
    by_cases e1:q=l
    ·
     subst e1
     simp at h1
     subst h1
     exact .inr ⟨hq,kR.2 (Zj ..)⟩
    simp_all
   . exact .inr ⟨h1,kR.2 (Zr _ (kR.1 h2))⟩
  . cases h
theorem Gd(ts rs:Z8 Nat){y:Z8 (Nat×SV)}{O1:Own}(p:nR F ts []=some y)(hs:dT F y)(hr:tC O rs []=some O1)(R:uY nl rs=true) (h:∀E V',V.le V'->(∀l cs e,lk O l=some (.lit cs e)->dh l rs=false->V'.get (E.ρ l)=some (.cells (cs.map (A.den E)).toArray e (0,0)))->KJ K n (dA (rN E y)) [] (Al E nl rs++O1) (nl+rs.length) V'):KJ K n F C O nl V:=by
 classical
 constructor;intro E a w T hf m;let B:Nat->Prop:=λk=>∃l cs e,lk O l=some (.lit cs e)/\E.ρ l=k/\dh l rs=false;let V':Vw:=⟨λk=>if B k then w.heap[k]? else V.get k,V.os,V.tape,V.output⟩;(have X:V.le V':=by refine⟨λk o p=>?_,J,J,J⟩;show(if _ then _ else _)=_;by_cases t:B k;{rw[ZW t];exact m.get k o p};rw[ZX t];exact p);(have u:∀l cs e,lk O l=some (.lit cs e)->dh l rs=false->V'.get (E.ρ l)=some (.cells (cs.map (A.den E)).toArray e (0,0)):=λl cs e z L=>by show(if _ then _ else _)=_;rw[ZW ⟨l,cs,e,z,J,L⟩];exact m.lit l cs e z);have d:∀l c,lk O1 l=some c->lk O l=some c/\dh l rs=true:=λl c z=>by (rcases DQ rs [] hr l c z with h1|h1);{simp[lk]at h1};exact h1
 have M:Mem E O1 nl V' w:=by
  refine⟨λl cs e h=>m.lit _ _ _ (d _ _ h).1,λl e sz k xs h=>m.row _ _ _ _ _ (d _ _ h).1,λl W c Z k h h'=>m.sep l W c Z k (d _ _ h).1 (d _ _ h').1,λk o p=>?_,λl c k h Y=>?_,m.os,m.tape,m.output,
   λl c h=>m.lab _ _ (d _ _ h).1,λl cs e h=>m.labs _ _ _ (d _ _ h).1,λl q b h=>m.pin _ _ _ (d _ _ h).1,λl k h=>m.big _ _ (d _ _ h).1,λl q b v h=>m.kp _ _ _ _ (d _ _ h).1⟩
  {change (if _ then _ else _)=_ at p;by_cases t:B k;{rw[ZW t]at p;exact p};rw[ZX t]at p;exact m.get k o p};show(if _ then _ else _)=_;rw[ZX,m.off l c k (d _ _ h).1 Y];rintro⟨W,cs,e,N,he,L⟩;have:=m.sep l W c _ k (d _ _ h).1 N Y (by simp[blk,he]);subst this;rw[(d _ _ h).2]at L;cases L
 exact(h E V' X u).out E a w T ((hf.plain hs.plain).pl y)<|M.addKeepL rs<|DM R
theorem nA(t q l b off:Nat){v:Z7}(R:cV F [] (.tmp t)=some (.a (.v (.pointer (some ⟨b,off,none⟩)))))(o:lk O q=some (.keep l b v))(u:(Nat.blt t n&& !(dh t C))=true) (h:KJ K n ((t,⟨[],true,.a (.ptr l off)⟩)::F) C O nl V):KJ K n F C O nl V:=by constructor;intro E a w hd B M;simp at u;obtain⟨X,h2,L⟩:=M.kp _ _ _ _ o;refine h.out E a w hd ?_ M;obtain⟨Y,_⟩:=cZ B (p:=[]) J R;(have y:t<a.tmps.size:=by rw[B.size];exact u.1);have o:=B.put (d:=t) (p:=[]) (g:=true) (s:=.a (.ptr l off)) u.1 u.2 J (λq T=>by cases T) (λ_=>by simp[SV.ok,A.ok,eD,L]);simp at o;(have Z:(SV.a (A.ptr l off)).den E=a.tmps.getD t undef:=by have:a.eval (.tmp t)=a.tmps.getD t undef:=rfl;rw[<-this,Y];simp[SV.den,A.den,X]);rw[Z]at o;(have m:(a.put (some t) (a.tmps.getD t undef)).tmps=a.tmps:=by simp only[Act.put];apply Array.ext;{simp};intro i N W;rw[o'];split;{rename_i z;subst z;simp[Array.getD,y]};rfl);rw[m]at o;exact o
end
theorem Bn{w:Z6}{b e sz n:Nat}{v:Z7}{xs:Z8 Z7}(h:w.ownsRow b e sz v n xs){i:Nat}(hi:i<=n):w.ownsRow b e sz (dV v 0 i sz) i (xs.take (i*sz)):=by have t:i*sz<=n*sz:=Zn _ hi;refine⟨by rw[ZL,h.1];omega,?_⟩;(rcases h.2 with⟨rfl,rfl⟩|⟨g,d,l,rfl,u,o,B,p,y,m⟩);{(have:i=0:=by omega);subst this;exact .inl ⟨J,J⟩};refine .inr ⟨g,d,l,?_,u,o,om,p,y,by rw[<-m,Yh];congr 1;omega⟩;simp only[dV];by_cases z:d=0<;>simp[z,Addr.add]
section
variable{P:Z3}{tt:Z8 (Nat×TI)}{ops:Array Oper}{Q:Exit->Act->Z6->Prop}{o:Oper}{rest:Z8 Oper}
 {n:Nat} {F:cy} {C:Z8 Nat} {O:Own} {nl:Nat} {V:Vw} {K:Act->Z6->Prop}
def uu(F:cy)(p:Z8 (Nat×Bool)):Op->Z4 (Nat×SV)
 |.call ⟨.builtin .clear,args,ts⟩=>match args.toList,ts.toList with
  |[x],[t]=>(cV F p x).map λs=>(t,s)
  |_,_=>none
 |_=>none
theorem Ux{p:Z8 (Nat×Bool)}{t:Nat}{X:SV}{σ:Type}{Φ:σ->Prop}{O':σ->Own}{nl':Nat}{W:σ->Vw}(l:uu F p o.op=some (t,X))(hd:o.dst=none) (B:∀E w,Mem E O nl V w-> ∃x E' w',(Builtin.clear_ #[t] o.type #[X.den E]).run P w=.ok (.tuple #[]) w'/\Φ x/\E.agree nl E'/\Mem E' (O' x) nl' (W x) w'): StepTo P o p n F C O nl V Φ (λ_=>.a (.v (.tuple #[]))) O' nl' W:=by
 constructor;intro E a w hf T hm K Q hK;unfold Oper.wp execOp;cases y:o.op with
 |call c=>
  obtain⟨d,u,ts⟩:=c;simp only[y]at l;cases d with
  |builtin b=>
   cases b with
   |clear=>simp only[uu]at l;split at l;{rename_i x Y m R;(have ha:u= #[x]:=by simpa using Y5 List.toArray m);(have Z:ts= #[Y]:=by simpa using Y5 List.toArray R);subst ha Z;simp only[Yl,ZN]at l;obtain⟨u1,hx,rfl,rfl⟩:=l;obtain⟨h1,_⟩:=cZ hf T hx;obtain⟨z,E',w',hr,hΦ,M,L⟩:=B E w hm;have N:a.eval x=u1.den E:=h1;simp only[resolve,invoke,builtin,ZR,ZO,ZU,B_,Zq,Yp,N,hr];have:=hK z E' w' hΦ M L J;show K (a.put o.dst (.tuple #[])) w';simpa[SV.den,A.den]using this};simp at l
   |_=>simp[uu]at l
  |_=>simp[uu]at l
 |_=>simp[y,uu]at l
theorem Vl{w:Z6}{t e ty g off m c sz:Nat}{z:Z7}{cur:Array Z7}(l:P.underlying t=some (.slice e))(M:(zeroValue e).run P w=.ok z w)(o:z.cells.size=sz)(p:∀u∈z.cells.toList,u.oneCell'=true) (L:w.heap[g]? =some (.cells cur e (0,0))) (N:0<m) (O:off+m*sz<=cur.size):∃zs:Z8 Z7,zs.length=m*sz/\(∀u∈zs,u.oneCell'=true)/\(Builtin.clear_ #[t] ty #[.slice (some ⟨g,off,none⟩) m c]).run P w=.ok (.tuple #[]) (w.setRow g (ei off zs cur.toList).toArray):=by
 refine⟨(Builtin.zeroCells z.cells m).toList,by rw[Y2,sK,o],?_,?_⟩;{intro u l;simp only[Builtin.zeroCells,Y_,Y6]at l;obtain⟨i,hi,rfl⟩:=l;(have E:0<z.cells.size:=by grind);have d:=Nat.mod_lt i E;rw[getElem!_pos z.cells _ d];exact p _ sm};have y:(Builtin.zeroCells z.cells m).toList.length=m*sz:=by rw[Y2,sK,o]
 have B:=run_storeCells_at P g off e (Builtin.zeroCells z.cells m).toList 0 cur w L (by rw[y];omega) (by
  intro u l
  simp only[Builtin.zeroCells,Y_,Y6]at l
  obtain⟨i,hi,rfl⟩:=l
  have E:0<z.cells.size:=by
   rcases n_ z.cells.size with h|h
   . simp[h]at hi
   . exact h
  have d:=Nat.mod_lt i E
  rw[getElem!_pos z.cells _ d]
  exact p _ sm)
 obtain⟨m,rfl⟩:∃k,m=k+1:=⟨m - 1,om⟩;simp[Builtin.clear_,run_underlying l,M,B,ei]
theorem Ej(ah:dl P tt){p:Z8 (Nat×Bool)}{l q b t e m lo:Nat}{d:TI}{v:Z7}{xs:Z8 Z7}(a8:uy tt t=some (e,d))(hv:uu F p o.op=some (t,.a (.v (dV v lo m d.size))))(hd:o.dst=none) (aa:d.zero.length=d.size) (a9:∀u∈d.zero,u.oneCell'=true) (hl:lk O l=some (.row e d.size m xs)) (hk:lk O q=some (.keep l b v)) (ax:lo<=m): StepTo P o p n F C O nl V (σ:=Z8 Z7) (λzs=>zs.length=(m - lo)*d.size) (λ_=>.a (.v (.tuple #[]))) (λzs=>(l,.row e d.size m (ei (lo*d.size) zs xs))::O) nl (λ_=>V):=by refine Ux hv hd λE w hm=>?_;obtain⟨hu,ad⟩:=xj ah a8;obtain⟨fi,ai,ap,al,z,hz,X⟩:=ad.info;have y:=hm.row _ _ _ _ _ hl;have R:=(hm.kp _ _ _ _ hk).2.1;by_cases ae:lo=m;{subst ae;(have he:(Builtin.clear_ #[t] o.type #[(SV.a (.v (dV v lo lo d.size))).den E]).run P w=.ok (.tuple #[]) w:=by show(Builtin.clear_ #[t] o.type #[dV v lo lo d.size]).run P w=_;rw[<-R];(rcases y.2 with⟨Z,h2⟩|⟨g,B,ab,Z,_⟩);{rw[Z];simp[dV,Builtin.clear_,run_underlying hu]};rw[Z];simp only[dV,p_];split<;>simp[Builtin.clear_,run_underlying hu]);refine⟨[],E,w,he,sm,λ_ _=>⟨J,J⟩,?_⟩;(have:ei (lo*d.size) [] xs=xs:=by simp[ei]);rw[this];exact hm.dup hl};(rcases y.2 with⟨Z,h2⟩|⟨g,B,ab,M,_,L,T,a5,ag,W⟩);{omega};(have a6:(zeroValue e).run P w=.ok z w:=by simp[zeroValue,typeInfo,ai,hz]);have ak:m*d.size<=B*d.size:=Zn _ T;(have aj:lo*d.size+(m - lo)*d.size=m*d.size:=by rw[<-Y4];congr 1;omega);obtain⟨zs,Y,ay,hr⟩:=Vl (P:=P) (w:=w) (t:=t) (ty:=o.type) (off:=lo*d.size) (m:=m - lo) (c:=B - lo) (sz:=d.size) hu a6 (by rw[<-aa,<-X];simp) (by rw[X];exact a9) L om om;(have a7:dV v lo m d.size=.slice (some ⟨g,lo*d.size,none⟩) (m - lo) (B - lo):=by rw[<-R,M];simp only[dV];rw[ZX om];simp[Addr.add_lit]);have N:=CJ (e:=e) (off:=lo*d.size) (news:=zs) y.1 M L T a5 ag W om;(have hb:(E.κ l).ownBlock=some g:=by rw[M];rfl);refine⟨zs,E,_,?_,Y,λ_ _=>⟨J,J⟩,hm.setRowO hl hb L N⟩;show(Builtin.clear_ #[t] o.type #[dV v lo m d.size]).run P w=_;rw[a7,hr];rfl
theorem PV(a0:dl P tt){p:Z8 (Nat×Bool)}{l q b t t2 e m i k:Nat}{d:TI}{v sv:Z7}{xs:Z8 Z7}(news:Z8 Z7)(a9:uy tt t=some (e,d))(hv:rQ F p o.op=some (t,t2,.a (.v (dV v 0 i d.size)),.a (.v sv))) (Y:uy tt t2=some (e,d)) (hl:lk O l=some (.row e d.size m xs)) (hk:lk O q=some (.keep l b v)) (Z:∀E w,Mem E O nl V w->Src P d.size sv k news w) (h1:∀u∈news,u.oneCell'=true) (ab:i+k<=m) (am:0<m): StepTo P o p n F C O nl V (σ:=Unit) (λ_=>True) (λ_=>.a (.v (dV v 0 (i+k) d.size))) (λ_=>(l,.row e d.size m (ei (i*d.size) news xs))::O) nl (λ_=>V):=by refine Hs hv λE w hm=>?_;obtain⟨hu,ac⟩:=xj a0 a9;obtain⟨a8,_⟩:=xj a0 Y;obtain⟨fi,ae,B,aj,z,hz,ap⟩:=ac.info;have y:=hm.row _ _ _ _ _ hl;have aa:=(hm.kp _ _ _ _ hk).2.1;have R:=Z E w hm;(rcases y.2 with⟨h1,h2⟩|⟨g,cap,cur,M,_,L,W,a7,ad,X⟩);{omega};have ah:m*d.size<=cap*d.size:=Zn _ W;(have af:i*d.size+k*d.size<=m*d.size:=by rw[<-Y4];exact Zn _ ab);have an:=R.size;(have T:∀j,dV v 0 j d.size=.slice (some ⟨g,0,none⟩) j cap:=λj=>by rw[<-aa,M];simp only[dV];by_cases hc:cap=0<;>simp[hc,Addr.add]);have hr:=J1 (P:=P) (w:=w) (t:=t) (t2:=t2) (ty:=o.type) (e:=e) (i:=fi) (g:=g) (n:=i) (cap:=cap) (cur:=cur) (x:=sv) (m:=k) (news:=news) hu a8 (.inr ⟨e,J⟩) ae L (by rw[B];exact R) h1 om (by rw[B];omega);have N:=CJ (e:=e) (off:=i*d.size) (news:=news) y.1 M L W a7 ad X om;(have hb:(E.κ l).ownBlock=some g:=by rw[M];rfl);refine⟨(),E,_,?_,ZY,λ_ _=>⟨J,J⟩,hm.setRowO hl hb L N,J⟩;show(Builtin.append_ #[t,t2] o.type #[dV v 0 i d.size,sv]).run P w=_;rw[T,hr,B];show _=Result.ok (dV v 0 (i+k) d.size) _;rw[T]
def CE:Z7->Nat->Z7
 |.slice a n _,c=>.slice a n c
 |v,_=>v
def tD(tt:Z8 (Nat×TI))(F:cy)(p:Z8 (Nat×Bool)):Op->Z4 (Z7×Int×Int×Int×Nat)
 |.slice t x (some lo) (some hi) (some mx)=>match cV F p x,cV F p lo,cV F p hi,cV F p mx,lk tt t with
  |some (.a (.v v)),some (.a (.v (.int _ l))),some (.a (.v (.int _ h))),some (.a (.v (.int _ m))),some ⟨_,_,_,_,.slice e⟩=>match lk tt e with
   |some ti=>some (v,l,h,m,ti.size)
   |none=>none
  |_,_,_,_,_=>none
 |_=>none
theorem Rn(N:dl P tt){p:Z8 (Nat×Bool)}{g:Bool}{v:Z7}{lo hi Y:Int}{sz m:Nat}{xs:Z8 Z7} (y:tD tt F p o.op=some (v,lo,hi,Y,sz)) (hs:g=true->eL V v sz m xs) (hb:g=true->0<=lo/\lo<=hi/\hi<=Y/\Y<=m): dY P o n F C O nl V p g (.a (.v (dV (CE v Y.toNat) lo.toNat hi.toNat sz))):=by
 intro T E a w Z B hm;refine⟨?_,J⟩;unfold Yv execOp;cases u:o.op with
 |slice t x lo' hi' mx'=>
  cases lo' with
  |none=>simp[u,tD]at y
  |some lo'=>
  cases hi' with
  |none=>simp[u,tD]at y
  |some hi'=>
  cases mx' with
  |none=>simp[u,tD]at y
  |some mx'=>
  simp only[u,tD]at y;split at y;{rename_i v' k0 l k1 h k2 M au by_ z fl e hx hl hh a5 a6;split at y;{rename_i ti W;simp only[Z0,ZN]at y;obtain⟨rfl,rfl,rfl,rfl,rfl⟩:=y;obtain⟨h1,_⟩:=cZ Z B hx;obtain⟨h0,_⟩:=cZ Z B hl;obtain⟨h2,_⟩:=cZ Z B hh;obtain⟨h3,_⟩:=cZ Z B a5;obtain⟨dd,R,hk,_⟩:=(N _ _ a6).und;(have a0:dd=.slice e:=by cases dd<;>simp[eM]at hk;rw[hk]);subst a0;obtain⟨b0,b1,b2,b3⟩:=hb T;(have a7:∃L d,v'=.slice L m d/\m<=d:=by (rcases(hs T).2 with⟨L,cc,rfl,rfl⟩|⟨b,off,d,cs,e',fz,rfl,_,_,_,hc⟩);{exact⟨L,cc,J,Zz _⟩};exact⟨_,d,J,hc⟩);obtain⟨L,d,rfl,aa⟩:=a7;have e1:a.eval x=.slice L m d:=h1;have e0:a.eval lo'=.int k0 l:=h0;have e2:a.eval hi'=.int k1 h:=h2;have e3:a.eval mx'=.int k2 M:=h3;have q0:(l.toNat:Int)=l:=YZ b0;have q1:(h.toNat:Int)=h:=YZ om;have q2:(M.toNat:Int)=M:=YZ om;(have X:(Instr.slice t (.slice L m d) (some (.int k0 l)) (some (.int k1 h)) (some (.int k2 M))).run P w=.ok (dV (.slice L m M.toNat) l.toNat h.toNat ti.size) w:=by simp only[Instr.slice,Instr.sliceBounds,ZR,run_underlying R,ZU,ZO,(N _ _ W).sizeOf];simp[run_sliceBound,(by omega:0<=M),(by omega:M<=(d:Int)),(by omega:0<=h),b0,b1,b2,q0,q1,q2,dV,(N _ _ W).sizeOf]);simp only[YR,e0,e1,e2,e3,Instr.sliceAt,ZR,run_underlying R,ZU,X,ZO,SV.den,A.den,CE]};simp at y};simp at y
 |_=>simp[u,tD]at y
theorem U1(W:dl P tt){p:Z8 (Nat×Bool)}{g:Bool}{v:Z7}{lo hi:Int}{j sz m:Nat}{xs:Z8 Z7} (L:mz tt F p o.op=some (dV v 0 j sz,some lo,some hi,sz)) (hs:g=true->eL V v sz m xs) (hb:g=true->0<=lo/\lo<=hi/\hi<=m): dY P o n F C O nl V p g (.a (.v (dV v lo.toNat hi.toNat sz))):=by
 intro R E a w hf M hm;refine⟨?_,J⟩;unfold Yv execOp;cases y:o.op with
 |slice t x lo' hi' mx=>
  cases mx with
  |some mx=>simp[y,mz]at L
  |none=>
  simp only[y,mz]at L;split at L;{rename_i v' l h ao by_ z fl e hx hl hh a6;split at L;{rename_i ti a0;obtain⟨rfl,rfl,rfl,rfl⟩:=L;obtain⟨h1,_⟩:=cZ hf M hx;obtain⟨dd,N,hk,_⟩:=(W _ _ a6).und;(have Y:dd=.slice e:=by cases dd<;>simp[eM]at hk;rw[hk]);subst Y;obtain⟨b0,b1,b2⟩:=hb R;(have a9:∃u d,v=.slice u m d/\m<=d:=by (rcases(hs R).2 with⟨u,cc,rfl,rfl⟩|⟨b,off,d,cs,e',fz,rfl,_,_,_,X⟩);{exact⟨u,cc,J,Zz _⟩};exact⟨_,d,J,X⟩);obtain⟨u,d,rfl,ac⟩:=a9;have e1:a.eval x=dV (.slice u m d) 0 j ti.size:=h1;(have B:dV (.slice u m d) 0 j ti.size=.slice u j d:=by simp only[dV,Nat.sub_zero,G_];by_cases X:d=0;{simp[X]};cases u<;>simp[X,Addr.add]);(rcases qz hf M hl with⟨h9,_⟩|⟨kl,il,a7,el⟩);{cases h9};(rcases qz hf M hh with⟨h9,_⟩|⟨kh,ih,Z,eh⟩);{cases h9};cases a7;cases Z;have e2:(hi.toNat:Int)=hi:=YZ om;(have T:(Instr.slice t (.slice u j d) (lo'.map a.eval) (hi'.map a.eval) none).run P w=.ok (dV (.slice u m d) lo.toNat hi.toNat ti.size) w:=by rw[el,eh];simp[Instr.slice,run_underlying N,Instr.sliceBounds,(W _ _ a0).sizeOf,dV,run_sliceBound,b0,b1,(by omega:0<=hi),(by omega:hi<=d),e2]);simp only[M',e1,B,Instr.sliceAt,ZR,run_underlying N,ZU,T,ZO,SV.den,A.den]};simp at L}
  simp_all
 |_=>simp[y,mz]at L
end
structure Rw where
 e:Nat
 sz:Nat
 n:Nat
 xs:List Value
abbrev Rw.cel(r:Rw):Cel:=.row r.e r.sz r.n r.xs
abbrev ii(e0:Nat)(gs:Z8 Z7)(R1 R2 R3:Rw):Own:=[(0,.lit (.row 1:: .row 2:: .row 3::gs.map .v) e0),(1,R1.cel),(2,R2.cel),(3,R3.cel)]
def gU(E:Env)(lo a b c:Nat):Env:=⟨λ_=>E.ρ lo,λl=>if l=1 then E.κ a else if l=2 then E.κ b else E.κ c⟩
def kY(w:Z6)(E:Env)(lo a b c:Nat):Vw:=
 ⟨λk=>if k=E.ρ lo\/(E.κ a).ownBlock=some k\/(E.κ b).ownBlock=some k\/(E.κ c).ownBlock=some k then none else w.heap[k]?,w.os,w.tape,w.output⟩
def vO(lo a b c l:Nat):Nat:=if l=0 then lo else if l=1 then a else if l=2 then b else c
theorem pY{e0 l:Nat}{gs:Z8 Z7}{R1 R2 R3:Rw}{x:Cel}(h:lk (ii e0 gs R1 R2 R3) l=some x): (l=0/\x=.lit (.row 1:: .row 2:: .row 3::gs.map .v) e0)\/(l=1/\x=R1.cel)\/(l=2/\x=R2.cel)\/(l=3/\x=R3.cel):=by simp only[fm]at h;split at h;{cases h;exact .inl ⟨om,J⟩};split at h;{cases h;exact .inr (.inl ⟨om,J⟩)};split at h;{cases h;exact .inr (.inr (.inl ⟨om,J⟩))};split at h;{cases h;exact .inr (.inr (.inr ⟨om,J⟩))};simp[lk]at h
section
variable{O:Own}{nl:Nat}{V:Vw}{E:Env}{w w':Z6}
theorem AQ(d:Mem E O nl V w){lo a b c e0:Nat}{gs:Z8 Z7}{R1 R2 R3:Rw}(p:lk O lo=some (.lit (.row a:: .row b:: .row c::gs.map .v) e0))(R:lk O a=some R1.cel)(t:lk O b=some R2.cel)(T:lk O c=some R3.cel) (d1:a≠b) (d2:a≠c) (d3:b≠c):Mem (gU E lo a b c) (ii e0 gs R1 R2 R3) 4 V w:=by (have n1:lo≠a:=λh=>by rw[h,R]at p;cases p);(have n2:lo≠b:=λh=>by rw[h,t]at p;cases p);(have n3:lo≠c:=λh=>by rw[h,T]at p;cases p);(have key:∀l x,lk (ii e0 gs R1 R2 R3) l=some x->l<4/\ ∃y,lk O (vO lo a b c l)=some y/\blk (gU E lo a b c) l x=blk E (vO lo a b c l) y:=by intro l x h;(rcases pY h with⟨rfl,rfl⟩|⟨rfl,rfl⟩|⟨rfl,rfl⟩|⟨rfl,rfl⟩);{exact⟨om,_,p,J⟩};{exact⟨om,_,R,J⟩};{exact⟨om,_,t,J⟩};exact⟨om,_,T,J⟩);(have inj:∀l o,l<4->o<4->vO lo a b c l=vO lo a b c o->l=o:=by intro l o h W;unfold vO;rcases(show l=0\/l=1\/l=2\/l=3 by omega)with rfl|rfl|rfl|rfl<;>rcases(show o=0\/o=1\/o=2\/o=3 by omega)with rfl|rfl|rfl|rfl<;>simp<;>omega);refine⟨?_,?_,?_,d.get,?_,d.os,d.tape,d.output,?_,?_,?_,?_,?_⟩;{intro l cs e h;(rcases pY h with⟨rfl,h⟩|⟨rfl,h⟩|⟨rfl,h⟩|⟨rfl,h⟩);{cases h;have:=d.lit _ _ _ p;simp only[Zq,(iC _ gs).1]at this⊢;exact this};{cases h};{cases h};cases h};{intro l e sz n xs h;(rcases pY h with⟨rfl,h⟩|⟨rfl,h⟩|⟨rfl,h⟩|⟨rfl,h⟩);{cases h};{cases h;exact d.row _ _ _ _ _ R};{cases h;exact d.row _ _ _ _ _ t};cases h;exact d.row _ _ _ _ _ T};{intro l o x x' k h W u z;obtain⟨X,y,B,N⟩:=key _ _ h;obtain⟨L,y',M,Z⟩:=key _ _ W;exact inj _ _ X L<|d.sep _ _ _ _ k B M (N▸u)<|Z▸z};{intro l x k h u;obtain⟨X,y,B,N⟩:=key _ _ h;exact d.off _ _ k B<|N▸u};{intro l x h;exact(key _ _ h).1};{intro l cs e h;(rcases pY h with⟨rfl,h⟩|⟨rfl,h⟩|⟨rfl,h⟩|⟨rfl,h⟩);{cases h;have Y:=(iC E gs).2 4;simp only[dH,A.ok,Z1];exact⟨J,J,J,Y⟩};{cases h};{cases h};cases h};{intro l m b h;rcases pY h with⟨rfl,h⟩|⟨rfl,h⟩|⟨rfl,h⟩|⟨rfl,h⟩<;>cases h};{intro l k h;rcases pY h with⟨rfl,h⟩|⟨rfl,h⟩|⟨rfl,h⟩|⟨rfl,h⟩<;>cases h};intro l m b v h;rcases pY h with⟨rfl,h⟩|⟨rfl,h⟩|⟨rfl,h⟩|⟨rfl,h⟩<;>cases h
theorem Hu(m:Mem E O nl V w){lo a b c e0:Nat}{gs:Z8 Z7}{R1 R2 R3:Rw}(u:lk O lo=some (.lit (.row a:: .row b:: .row c::gs.map .v) e0))(t:lk O a=some R1.cel)(y:lk O b=some R2.cel)(z:lk O c=some R3.cel) (N:a≠b) (B:a≠c) (L:b≠c):Mem (gU E lo a b c) (ii e0 gs R1 R2 R3) 4 (kY w E lo a b c) w/\V.le (kY w E lo a b c):=by
 have h:=AQ m u t y z N B L
 have off:∀k o,V.get k=some o-> ¬(k=E.ρ lo\/(E.κ a).ownBlock=some k\/(E.κ b).ownBlock=some k\/(E.κ c).ownBlock=some k):=by
  intro k o d p;have:V.get k=none:=by (rcases p with h1|h1|h1|h1);{exact m.off _ _ k u (by simp[blk,h1])};{exact m.off _ _ k t (by simpa[blk]using h1)};{exact m.off _ _ k y (by simpa[blk]using h1)};exact m.off _ _ k z (by simpa[blk]using h1)
  simp_all
 refine⟨⟨h.lit,h.row,h.sep,λk o d=>?_,λl x k M d=>?_,J,J,J,h.lab,h.labs,h.pin,h.big,h.kp⟩,⟨λk o d=>?_,m.os,m.tape,m.output⟩⟩
 .simp only[kY]at d
  simp_all
 {simp only[kY];rw[ZW];(rcases pY M with⟨rfl,rfl⟩|⟨rfl,rfl⟩|⟨rfl,rfl⟩|⟨rfl,rfl⟩);{exact .inl (by simpa[blk,gU]using d.symm)};{exact .inr (.inl (by simpa[blk,gU]using d))};{exact .inr (.inr (.inl (by simpa[blk,gU]using d)))};exact .inr (.inr (.inr (by simpa[blk,gU]using d)))};simp only[kY];rw[ZX (off k o d)];exact m.get k o d
abbrev nG(E E':Env)(nl:Nat):Env:=((E.setκ nl (E'.κ 1)).setκ (nl+1) (E'.κ 2)).setκ (nl+2) (E'.κ 3)
abbrev Ae(O:Own)(lo a b c nl e0:Nat)(gs:Z8 Z7)(R1 R2 R3:Rw):Own:=
 (lo,.lit (.row nl:: .row (nl+1):: .row (nl+2)::gs.map .v) e0)::(nl,R1.cel)::(nl+1,R2.cel)::(nl+2,R3.cel)::(a,.gone)::(b,.gone)::(c,.gone)::O
theorem pQ{O:Own}{lo a b c nl e0 l:Nat}{gs:Z8 Z7}{R1 R2 R3:Rw}{x:Cel}(h:lk (Ae O lo a b c nl e0 gs R1 R2 R3) l=some x): (l=lo/\x=.lit (.row nl:: .row (nl+1):: .row (nl+2)::gs.map .v) e0)\/(l=nl/\x=R1.cel)\/(l=nl+1/\x=R2.cel)\/(l=nl+2/\x=R3.cel)\/((l=a\/l=b\/l=c)/\x=.gone)\/(l≠lo/\l≠a/\l≠b/\l≠c/\lk O l=some x):=by
 simp only[fm]at h;split at h;{cases h;exact .inl ⟨om,J⟩};split at h;{cases h;exact .inr (.inl ⟨om,J⟩)};split at h;{cases h;exact .inr (.inr (.inl ⟨om,J⟩))}
 grind
theorem PZ(t:Mem E O nl V w){lo a b c e0:Nat}{gs:Z8 Z7}{R1 R2 R3 Q1 Q2 Q3:Rw}{L:Env}(h0:lk O lo=some (.lit (.row a:: .row b:: .row c::gs.map .v) e0))(ha:lk O a=some R1.cel)(hb:lk O b=some R2.cel)(hc:lk O c=some R3.cel)
  (d1:a≠b) (d2:a≠c) (d3:b≠c) (W:Mem L (ii e0 gs Q1 Q2 Q3) 4 (kY w E lo a b c) w') (hρ:L.ρ 0=E.ρ lo) (ae:w.heap.size<=w'.heap.size):
  Mem (nG E L nl) (Ae O lo a b c nl e0 gs Q1 Q2 Q3) (nl+3) V w':=by
 obtain⟨_,Y⟩:=Hu t h0 ha hb hc d1 d2 d3
 have l0:=t.lab _ _ h0
 have la:=t.lab _ _ ha
 have lb:=t.lab _ _ hb
 have lc:=t.lab _ _ hc
 -- the blocks that were handed in
 obtain⟨B,hB⟩:∃B:Nat->Prop,B=λk=>k=E.ρ lo\/(E.κ a).ownBlock=some k\/(E.κ b).ownBlock=some k\/(E.κ c).ownBlock=some k:=⟨_,J⟩
 have am:∀k,k<w.heap.size-> ¬B k->(kY w E lo a b c).get k=w.heap[k]? :=λk p hn=>by
  subst hB
  simp only[kY]
  rw[ZX hn]
 have new:∀l x k,lk (ii e0 gs Q1 Q2 Q3) l=some x->blk L l x=some k->B k\/w.heap.size<=k:=by
  intro l x k T p
  have:=W.off _ _ k T p
  simp only[kY]at this
  split at this
  . rename_i hb;exact .inl (by rw[hB];exact hb)
  . exact .inr (Array.getElem?_eq_none_iff.1 this)
 have a6:∀l x k,l≠lo->l≠a->l≠b->l≠c->lk O l=some x->blk E l x=some k->k<w.heap.size/\ ¬B k:=by
  intro l x k N n1 n2 n3 T p
  refine⟨t.lt T p,λz=>?_⟩
  rw[hB]at z
  rcases z with h|h|h|h
  . exact N (t.sep _ _ _ _ k T h0 p (by simp[blk,h]))
  . exact n1 (t.sep _ _ _ _ k T ha p (by simpa[blk]using h))
  . exact n2 (t.sep _ _ _ _ k T hb p (by simpa[blk]using h))
  . exact n3 (t.sep _ _ _ _ k T hc p (by simpa[blk]using h))
 have keep:∀k,k<w.heap.size-> ¬B k->w'.heap[k]? =w.heap[k]? :=λk p hn=>by
  have h1:=am k p hn
  have:w.heap[k]? =some w.heap[k]:=by simp[p]
  rw[this]at h1⊢
  exact W.get _ _ h1
 have ag:E.agree nl (nG E L nl):=λl T=>⟨J,by simp only[Env.setκ];rw[ZX om,ZX om,ZX om]⟩
 have k1:(nG E L nl).κ nl=L.κ 1:=by simp[Env.setκ]
 have k2:(nG E L nl).κ (nl+1)=L.κ 2:=by simp[Env.setκ]
 have k3:(nG E L nl).κ (nl+2)=L.κ 3:=by simp[Env.setκ]
 have g0:lk (ii e0 gs Q1 Q2 Q3) 0=some (.lit (.row 1:: .row 2:: .row 3::gs.map .v) e0):=rfl
 have g1:lk (ii e0 gs Q1 Q2 Q3) 1=some Q1.cel:=rfl
 have g2:lk (ii e0 gs Q1 Q2 Q3) 2=some Q2.cel:=rfl
 have g3:lk (ii e0 gs Q1 Q2 Q3) 3=some Q3.cel:=rfl
 -- each label that is in use: where its block comes from
 have a7:∀l x,lk (Ae O lo a b c nl e0 gs Q1 Q2 Q3) l=some x->
   (∃q y,q<4/\lk (ii e0 gs Q1 Q2 Q3) q=some y/\blk (nG E L nl) l x=blk L q y/\l=(if q=0 then lo else nl+(q - 1)))\/(blk (nG E L nl) l x=none)\/(l≠lo/\l≠a/\l≠b/\l≠c/\lk O l=some x/\blk (nG E L nl) l x=blk E l x):=by
  intro l x h
  rcases pQ h with⟨rfl,rfl⟩|⟨rfl,rfl⟩|⟨rfl,rfl⟩|⟨rfl,rfl⟩|⟨_,rfl⟩|⟨N,n1,n2,n3,h⟩
  . exact .inl ⟨0,_,om,g0,by simp[blk,hρ,Env.setκ],sm⟩
  . exact .inl ⟨1,_,om,g1,by simp[blk,k1],sm⟩
  . exact .inl ⟨2,_,om,g2,by simp[blk,k2],sm⟩
  . exact .inl ⟨3,_,om,g3,by simp[blk,k3],sm⟩
  . exact .inr (.inl J)
  . exact .inr (.inr ⟨N,n1,n2,n3,h,jL ag (t.lab _ _ h) _⟩)
 refine⟨?_,?_,?_,?_,?_,?_,?_,?_,?_,?_,?_,?_,?_⟩
 ·
  intro l cs e h
  rcases pQ h with⟨rfl,d⟩|⟨rfl,d⟩|⟨rfl,d⟩|⟨rfl,d⟩|⟨_,d⟩|⟨N,n1,n2,n3,d⟩
  ·
   cases d
   have:=W.lit _ _ _ g0
   rw[hρ]at this
   simp only[Zq,(iC _ gs).1]at this⊢
   rw[show(nG E L nl).ρ l=E.ρ l from J,this]
   simp only[A.den,k1,k2,k3]
  . cases d
  . cases d
  . cases d
  . cases d
  ·
   have h1:=t.lit _ _ _ d
   obtain⟨X,M⟩:=a6 l _ (E.ρ l) N n1 n2 n3 d J
   rw[(ag l (t.lab _ _ d)).1,keep _ X M,h1,A.map_agree ag (t.labs _ _ _ d)]
 ·
  intro l e sz n xs h
  rcases pQ h with⟨rfl,d⟩|⟨rfl,d⟩|⟨rfl,d⟩|⟨rfl,d⟩|⟨_,d⟩|⟨N,n1,n2,n3,d⟩
  . cases d
  . cases d;rw[k1];exact W.row _ _ _ _ _ g1
  . cases d;rw[k2];exact W.row _ _ _ _ _ g2
  . cases d;rw[k3];exact W.row _ _ _ _ _ g3
  . cases d
  ·
   rw[(ag l (t.lab _ _ d)).2]
   refine nt (t.row _ _ _ _ _ d) λk p=>?_
   obtain⟨X,M⟩:=a6 l _ k N n1 n2 n3 d (by simpa[blk]using p)
   exact keep k X M
 ·
  intro l l' x x' k h h' p u
  rcases a7 _ _ h with⟨q,y,hq,hy,R,rfl⟩|R|⟨N,n1,n2,n3,T,R⟩
  ·
   rcases a7 _ _ h' with⟨q',y',ak,aa,Z,rfl⟩|Z|⟨m0,m1,m2,m3,a9,Z⟩
   ·
    have:=W.sep q q' y y' k hy aa (R▸p) (Z▸u)
    subst this;rfl
   . rw[Z]at u;cases u
   ·
    rw[R]at p
    rw[Z]at u
    obtain⟨X,M⟩:=a6 _ _ k m0 m1 m2 m3 a9 u
    rcases new _ _ k hy p with z|z
    . exact absurd z M
    . omega
  . rw[R]at p;cases p
  ·
   rcases a7 _ _ h' with⟨q',y',ak,aa,Z,rfl⟩|Z|⟨m0,m1,m2,m3,a9,Z⟩
   ·
    rw[R]at p
    rw[Z]at u
    obtain⟨X,M⟩:=a6 _ _ k N n1 n2 n3 T p
    rcases new _ _ k aa u with z|z
    . exact absurd z M
    . omega
   . rw[Z]at u;cases u
   . exact t.sep _ _ _ _ k T a9 (R▸p) (Z▸u)
 ·
  intro k o p
  exact W.get _ _<|Y.get _ _ p
 ·
  intro l x k h p
  rcases a7 _ _ h with⟨q,y,hq,hy,R,rfl⟩|R|⟨N,n1,n2,n3,T,R⟩
  ·
   have:=W.off _ _ k hy (R▸p)
   cases hv:V.get k with
   |none=>rfl
   |some o=>rw[Y.get _ _ hv]at this;cases this
  . rw[R]at p;cases p
  . exact t.off _ _ k T (R▸p)
 . rw[W.os,Y.os]
 . rw[W.tape,Y.tape]
 . rw[W.output,Y.output]
 ·
  intro l x h
  rcases pQ h with⟨rfl,_⟩|⟨rfl,_⟩|⟨rfl,_⟩|⟨rfl,_⟩|⟨h,_⟩|⟨_,_,_,_,h⟩
  . omega
  . omega
  . omega
  . omega
  . rcases h with rfl|rfl|rfl<;>omega
  . have:=t.lab _ _ h;omega
 ·
  intro l cs e h
  rcases pQ h with⟨rfl,d⟩|⟨rfl,d⟩|⟨rfl,d⟩|⟨rfl,d⟩|⟨_,d⟩|⟨N,n1,n2,n3,d⟩
  ·
   cases d
   have hg:=(iC E gs).2 (nl+3)
   simp only[dH,A.ok,Z1,eD]
   exact⟨om,om,om,hg⟩
  . cases d
  . cases d
  . cases d
  . cases d
  . exact jn om (t.labs _ _ _ d)
 ·
  intro l m b' h
  rcases pQ h with⟨rfl,d⟩|⟨rfl,d⟩|⟨rfl,d⟩|⟨rfl,d⟩|⟨_,d⟩|⟨N,n1,n2,n3,d⟩
  . cases d
  . cases d
  . cases d
  . cases d
  . cases d
  ·
   obtain⟨h1,h3⟩:=t.pin _ _ _ d
   exact⟨h1,om⟩
 ·
  intro l k h
  rcases pQ h with⟨rfl,d⟩|⟨rfl,d⟩|⟨rfl,d⟩|⟨rfl,d⟩|⟨_,d⟩|⟨N,n1,n2,n3,d⟩
  . cases d
  . cases d
  . cases d
  . cases d
  . cases d
  . exact ZC (t.big _ _ d) ae
 ·
  intro l m b' v h
  rcases pQ h with⟨rfl,d⟩|⟨rfl,d⟩|⟨rfl,d⟩|⟨rfl,d⟩|⟨_,d⟩|⟨N,n1,n2,n3,d⟩
  . cases d
  . cases d
  . cases d
  . cases d
  . cases d
  ·
   obtain⟨h1,h3,h4⟩:=t.kp _ _ _ _ d
   exact⟨h1,by rw[(ag m h4).2];exact h3,om⟩
end
section
variable{P:Z3}{tt:Z8 (Nat×TI)}{ops:Array Oper}{Q:Exit->Act->Z6->Prop}{o:Oper}{rest:Z8 Oper}
 {n:Nat} {F:cy} {C:Z8 Nat} {O:Own} {nl:Nat} {V:Vw} {K:Act->Z6->Prop}
end
section
variable{P:Z3}{tt:Z8 (Nat×TI)}{ops:Array Oper}{Q:Exit->Act->Z6->Prop}{o:Oper}{rest:Z8 Oper}
 {n:Nat} {F:cy} {C:Z8 Nat} {O:Own} {nl:Nat} {V:Vw} {K:Act->Z6->Prop} {E:Env} {w w':Z6}
theorem Mem.leRow(d:Mem E O nl V w){l e sz m:Nat}{xs:Z8 Z7}(u:lk O l=some (.row e sz m xs)):V.le ((vw w).delO (E.κ l).ownBlock):=by
 have p:∀k o,V.get k=some o->(E.κ l).ownBlock≠some k:=λk o t h=>by
  have:=d.off l _ k u (by simpa[blk]using h)
  simp_all
 refine⟨λk o t=>?_,?_,?_,?_⟩
 .cases y:(E.κ l).ownBlock with
  |none=>exact d.get k o t
  |some b=>simp only[Vw.delO,Vw.del,vw];rw[ZX (λe=>p k o t (by rw[y,e]))];exact d.get k o t
 all_goals (cases (E.κ l).ownBlock<;>first|exact d.os|exact d.tape|exact d.output)
theorem zq{p:Z8 (Nat×Bool)}{f l e sz m:Nat}{N:Z8 SV}{xs:Z8 Z7}(R y T:Nat)(u:Z8 Z7)(hv:fL F p o.op=some (f,.a (.row l)::N))(L:eJ P f)(Z:lk O l=some (.row e sz m xs)) (d:∀E w,Mem E O nl V w->Calls P f (E.κ l::N.map (SV.den E)).toArray w λex w'=>∃v',ex=.returned v'/\w'.ownsRow 0 R y v' T u/\w.grownBy w' (E.κ l).ownBlock/\(v'.ownBlock=(E.κ l).ownBlock\/ ∀k,v'.ownBlock=some k->w.heap.size<=k)): StepTo P o p n F C O nl V (σ:=Unit) (λ_=>True) (λ_=>.a (.row nl)) (λ_=>(nl,.row R y T u)::(l,.gone)::O) (nl+1) (λ_=>V):=by constructor;intro E a w Y M W K Q X;obtain⟨hr,_⟩:=kG Y M hv L w;unfold Oper.wp;rw[hr,Oper.upon_enter];refine(d E w W).mono ?_;rintro ex w' ⟨v',rfl,t,z,B⟩;have:=X () (E.setκ nl v') w' ZY (Env.agree_setκ E v') (W.growO Z t z B) (by simp[SV.ok,A.ok,eD]);simpa[SV.den,A.den,Env.setκ]using this
theorem Vw.le.none{V l:Vw}(d:V.le l){k:Nat}(h:l.get k=Option.none):V.get k=Option.none:=by
 cases m:V.get k with
 |none=>rfl
 |some o=>rw[d.get _ _ m]at h;cases h
theorem Mem.viewDown{V0:Vw}(d:Mem E O nl V w)(m:V0.le V):Mem E O nl V0 w:=
 ⟨d.lit,d.row,d.sep,λk o p=>d.get k o (m.get _ _ p),λl c k t p=>m.none (d.off l c k t p),d.os.trans m.os,d.tape.trans m.tape,d.output.trans m.output,d.lab,d.labs,d.pin,d.big,d.kp⟩
theorem jz{V0:Vw}(l:Mem E O nl V w')(m:V0.le V){a b c e0 r k:Nat}{gs:Z8 Z7}{R1 R2 R3:Rw}(t:lk O 0=some (.lit (.row a:: .row b:: .row c::gs.map .v) e0))(p:lk O a=some R1.cel)(u:lk O b=some R2.cel)(w:lk O c=some R3.cel)
  (d:(a≠b/\a≠c)/\b≠c) (o:lk O 4=some (.pin 0 r)) (hs:lk O 5=some (.size k)):k<=w'.heap.size/\ ∃E',E'.ρ 0=r/\Mem E' (ii e0 gs R1 R2 R3) 4 V0 w':=
 ⟨l.big _ _ hs,gU E 0 a b c,(l.pin _ _ _ o).1,(AQ l t p u w d.1.1 d.1.2 d.2).viewDown m⟩
theorem nN(d:Mem E O 4 V w):Mem E ((5,.size w.heap.size)::(4,.pin 0 (E.ρ 0))::O) 6 V w:=(d.addPin 0 (E.ρ 0) J om).addSize
end
section
variable{P:Z3}{tt:Z8 (Nat×TI)}{ops:Array Oper}{Q:Exit->Act->Z6->Prop}{o:Oper}{rest:Z8 Oper}
 {n:Nat} {F:cy} {C:Z8 Nat} {O:Own} {nl:Nat} {V:Vw} {K:Act->Z6->Prop} {E:Env} {w w':Z6}
def KZ(E:Env)(lo e0:Nat)(gs:Z8 Z7)(Ψ:Z7->Prop)(Q1 Q2 Q3:Rw)(V:Vw)(w:Z6)(ex:Ending)(w':Z6):Prop:=
 ∃v,ex=.returned v/\Ψ v/\w.heap.size<=w'.heap.size/\ ∃E',E'.ρ 0=E.ρ lo/\Mem E' (ii e0 gs Q1 Q2 Q3) 4 V w'
theorem lH{p:Z8 (Nat×Bool)}{f lo a b c e0:Nat}{gs:Z8 Z7}{t:Z8 SV}{R1 R2 R3:Rw}(Ψ:Z7->Prop)(Q1 Y W:Rw)(hv:fL F p o.op=some (f,t))(M:eJ P f) (R:lk O lo=some (.lit (.row a:: .row b:: .row c::gs.map .v) e0)) (X:lk O a=some R1.cel) (T:lk O b=some R2.cel) (Z:lk O c=some R3.cel) (d:(a≠b/\a≠c)/\b≠c) (m:∀E w,Mem E O nl V w->Mem (gU E lo a b c) (ii e0 gs R1 R2 R3) 4 (kY w E lo a b c) w->V.le (kY w E lo a b c)->Calls P f (t.map (SV.den E)).toArray w (KZ (gU E lo a b c) 0 e0 gs Ψ Q1 Y W (kY w E lo a b c) w)): StepTo P o p n F C O nl V Ψ (λx=>.a (.v x)) (λ_=>Ae O lo a b c nl e0 gs Q1 Y W) (nl+3) (λ_=>V):=by constructor;intro E a' w hf y L K Q hK;obtain⟨hr,_⟩:=kG hf y hv M w;unfold Oper.wp;rw[hr,Oper.upon_enter];obtain⟨B,N⟩:=Hu L R X T Z d.1.1 d.1.2 d.2;refine(m E w L B N).mono ?_;rintro ex w' ⟨x,rfl,hΦ,z,E',hρ,u⟩;refine hK x (nG E E' nl) w' hΦ (λl hl=>⟨J,by simp only[Env.setκ];rw[ZX om,ZX om,ZX om]⟩) (PZ L R X T Z d.1.1 d.1.2 d.2 u hρ z) J
theorem Mem.bkSeen(d:Mem E O nl V w){lo a b c e0 k q:Nat}{gs:Z8 Z7}{R1 R2 R3:Rw}{x:Cel}(p:lk O lo=some (.lit (.row a:: .row b:: .row c::gs.map .v) e0))(o:lk O a=some R1.cel)(t:lk O b=some R2.cel)(u:lk O c=some R3.cel) (m:lk O q=some x) (l:blk E q x=some k) (n:((q≠lo/\q≠a)/\q≠b)/\q≠c):(kY w E lo a b c).get k=w.heap[k]? :=by simp only[kY];rw[ZX];rintro(h|h|h|h);{exact n.1.1.1 (d.sep _ _ _ _ k m p l (by simp[blk,h]))};{exact n.1.1.2 (d.sep _ _ _ _ k m o l (by simpa[blk]using h))};{exact n.1.2 (d.sep _ _ _ _ k m t l (by simpa[blk]using h))};exact n.2 (d.sep _ _ _ _ k m u l (by simpa[blk]using h))
theorem Mem.bkRow{α:Type}{enc:α->Z8 Z7}(d:Mem E O nl V w){lo a b c e0 q e sz:Nat}{gs:Z8 Z7}{R1 R2 R3:Rw}{L:Z8 α}(t:lk O lo=some (.lit (.row a:: .row b:: .row c::gs.map .v) e0))(p:lk O a=some R1.cel)(u:lk O b=some R2.cel)(y:lk O c=some R3.cel)
  (l:lk O q=some (.row e sz L.length (L.flatMap enc))) (n:((q≠lo/\q≠a)/\q≠b)/\q≠c) (o:∀x,(enc x).length=sz):SlOf (kY w E lo a b c) enc sz (E.κ q) L:=
 ⟨pg (d.row _ _ _ _ _ l) (λk m=>d.bkSeen t p u y l (by simpa[blk]using m) n),o⟩
theorem Mem.litRow(d:Mem E O nl V w){l q e t sz m:Nat}{xs:Z8 Z7}{cs:Z8 A}(y:lk O l=some (.row e sz m xs))(o:lk O q=some (.lit cs t)): ((vw w).delO (E.κ l).ownBlock).get (E.ρ q)=some (.cells (cs.map (A.den E)).toArray t (0,0)):=by
 have p:=d.lit _ _ _ o;cases u:(E.κ l).ownBlock with
 |none=>exact p
 |some b=>
  simp only[Vw.delO,Vw.del,vw];rw[ZX];{exact p};intro e;have:=d.sep _ _ _ _ b o y (by simp[blk,e]) (by simpa[blk]using u)
  simp_all
end
section
variable{P:Z3}{md:Region.Mode}{ops:Array Oper}{Q:Exit->Act->Z6->Prop}{sp:Z8 Nat}{M:Z6->Prop}
theorem Ge{i:Nat}{B:Oper}{v:Z7}(hi:ops[i]? =some B)(u:∀(j:Nat) (o:Oper) cs b,ops[j]? =some o->o.op≠ .select cs b) (hQ:∀c a w,Q (.panic c) (a.put B.dst v) w->Q (.panic c) a w) (l:i∉sp):∀(fuel:Nat) (listed:Array Bool) (a:Act) (w:Z6), (∀j oj,ops[j]? =some oj->j≠i->listed.getD j true=false->(∀e∈oj.after,Region.binds md e=true->e.on≠i)->B.apart ops oj=true)-> i∈Region.ready md ops listed->YieldsIf P ops (λ_=>True) B v a->(fF sp listed=false->M w)-> nh P md ops Q sp M fuel (listed.setIfInBounds i true) (a.put B.dst v) w->nh P md ops Q sp M (fuel+1) listed a w:=by
 intro fuel
 induction fuel with
 |zero=>intro listed a w _ E W hM H;refine⟨λh=>(by rw[h]at E;cases E),λj X=>?_⟩;by_cases d:j=i;{subst d;exact W.wpOp hi ZY ⟨λR=>hM (by rwa [oZ l]at R),H⟩};have:=ready_mono X d;rw[H.1]at this;cases this
 |succ fuel ih=>
  intro listed a w m E W hM H;refine⟨λh=>(by rw[h]at E;cases E),λj X=>?_⟩;by_cases d:j=i;{subst d;exact W.wpOp hi ZY ⟨λR=>hM (by rwa [oZ l]at R),H⟩};have z:=H.2 j (ready_mono X d);obtain⟨t,oj,y,V⟩:=mem_ready.1 X;(have N:∀e∈oj.after,Region.binds md e=true->e.on≠i:=λe he hb a5=>by have z:=V e he hb;have h0:=(mem_ready.1 E).1;rw[a5]at z;(rcases YM i listed.size with h'|h');{simp[h']at h0 z;rw[h0]at z;cases z};simp[Array.getElem?_eq_none h']at z);have h2:=wpOp_putIf y (m j oj y d t N) (λcs b=>u i B cs b hi) (λcs b=>u j oj cs b y) hQ W z
  have p:∀k ok,ops[k]? =some ok->k≠i->(listed.setIfInBounds j true).getD k true=false->
    (∀e∈ok.after,Region.binds md e=true->e.on≠i)->B.apart ops ok=true:=λk ok hk Z T Y=>by
   refine m k ok hk Z ?_ Y
   by_cases L:j=k
   . subst L;exact t
   . rw[getD_set_ne true L]at T;exact T
  refine wpOp_mono (λa' w' h3=>?_) h2
  have O:fF sp (listed.setIfInBounds j true)=false->M w':=λR=>h3.2.1 (by
   rw[Ya _ _ (Ne.symm d),oZ l];exact R)
  refine⟨O,ih (listed.setIfInBounds j true) a' w' p (ready_mono E (Ne.symm d)) h3.1 O ?_⟩;rw[Ya _ _ d];exact h3.2.2
end
def xb(ops:Array Oper)(sp:Z8 Nat)(listed:Array Bool)(i:Nat):Bool:=
 (Region.ready .any ops listed).contains i&&Region.free .any ops listed i&&Region.noSelect ops&& !(dh i sp)
section
variable{P:Z3}{ops:Array Oper}{Q:Exit->Act->Z6->Prop}{sp:Z8 Nat}{O0:Own}{nl0:Nat}{V0:Vw}{fuel:Nat}{listed:Z8 Bool}{o:Oper}{n:Nat}{F:cy}{C:Z8 Nat}{O:Own}{nl:Nat}{V:Vw}
theorem tZ(i:Nat){p:Z8 (Nat×Bool)}{g:Bool}{z:Z8 Nat}{s:SV}{d:Nat}(hi:ops[i]? =some o) (l:xb ops sp listed.toArray i=true) (Y:gd ops F C o.guard=some (p,g,z)) (hd:o.dst=some d) (R:(Nat.blt d n&& !(dh d z))=true) (hy:∀V',dY P o n F z [] nl V' p g s) (hs:s.ok nl=true) (y:TJ P ops Q sp O0 fuel (dz listed i) n ((d,⟨p,g,s⟩)::F) z O nl V):TJ P ops Q sp O0 (fuel+1) listed n F C O nl V:=by
 simp only[xb,Z1,ZJ]at l;obtain⟨⟨⟨hr,L⟩,t⟩,u⟩:=l;constructor;intro E a w M hf N m;obtain⟨W,T,X,Z⟩:=gz hf Y;simp at R;refine Ge (v:=if g then s.den E else undef) hi (Region.noSelect_spec t) (λc a w h=>h.elim) (λN=>by rw[kR.2 N]at u;cases u) fuel listed.toArray a w (Region.free_spec hi L) (by simpa using hr) ?_ (λ_=>m) ?_
 .cases g with
  |true=>refine .inl ⟨W,λB _=>?_⟩;have:=(hy (vw B) J E a B T X.symm (jh E nl B)).1;simpa[Yv]using this
  |false=>exact .inr ⟨W,sm⟩
 rw[<-qq,hd];exact y.out E _ w (by simp[Act.put,M]) (Frm.put (p:=p) (g:=g) T R.1 R.2 X Z (λ_=>hs)) N m
theorem zc(i:Nat){p:Z8 (Nat×Bool)}{g:Bool}{y:Z8 Nat}{s:SV}{d:Nat}(hi:ops[i]? =some o) (l:xb ops sp listed.toArray i=true) (Z:gd ops F C o.guard=some (p,g,y)) (hd:o.dst=some d) (R:(Nat.blt d n&& !(dh d y))=true) (hy:∀V',dY P o n F y [] nl V' p g s) (hs:s.ok nl=true) (u:HJ P ops Q sp O0 nl0 V0 fuel (dz listed i) n ((d,⟨p,g,s⟩)::F) y O nl V):HJ P ops Q sp O0 nl0 V0 (fuel+1) listed n F C O nl V:=by
 simp only[xb,Z1,ZJ]at l;obtain⟨⟨⟨hr,B⟩,m⟩,t⟩:=l;constructor;intro E0 E a w L M hf N W;obtain⟨X,T,Y,h4⟩:=gz hf Z;simp at R;refine Ge (v:=if g then s.den E else undef) hi (Region.noSelect_spec m) (λc a w h=>h.elim) (λN=>by rw[kR.2 N]at t;cases t) fuel listed.toArray a w (Region.free_spec hi B) (by simpa using hr) ?_ W ?_
 .cases g with
  |true=>refine .inl ⟨X,λz _=>?_⟩;have:=(hy (vw z) J E a z T Y.symm (jh E nl z)).1;simpa[Yv]using this
  |false=>exact .inr ⟨X,sm⟩
 rw[<-qq,hd];exact u.out E0 E _ w L (by simp[Act.put,M]) (Frm.put (p:=p) (g:=g) T R.1 R.2 Y h4 (λ_=>hs)) N λhs=>W<|jF hs
end
section
variable{P:Z3}{tt:Z8 (Nat×TI)}{ops:Array Oper}{Q:Exit->Act->Z6->Prop}{o:Oper}{rest:Z8 Oper}
 {n:Nat} {F:cy} {C:Z8 Nat} {O:Own} {nl:Nat} {V:Vw} {K:Act->Z6->Prop} {sp:Z8 Nat} {O0:Own} {nl0:Nat} {V0:Vw} {fuel:Nat} {listed:Z8 Bool}
theorem ye(i:Nat){p:Z8 (Nat×Bool)}{g:Bool}{L:Z8 Nat}{d:Nat}{fv:Z7}{Y:Z8 SV}(s:SV)(hi:ops[i]? =some o) (hg:gd ops F C o.guard=some (p,g,L)) (hv:kL F p o.op=some (fv,Y)) (hd:o.dst=some d) (B:(Nat.blt d n&& !(dh d L))=true) (hs:s.ok nl=true) (t:g=true-> ∀E w,Mem E O nl V w->qo P fv (Y.map (SV.den E)) w λe w'=>e=.returned (s.den E)/\cH w w') (m:HJ P ops Q sp O0 nl0 V0 fuel (dz listed i) n ((d,⟨p,g,s⟩)::F) L O nl V):HI P ops Q sp O0 nl0 V0 fuel listed n F C O nl V i:=by
 refine⟨λE0 E a w u y hf T N=>?_⟩;obtain⟨h1,M,R,h4⟩:=gz hf hg;simp only[Z1,eD,ZJ]at B;unfold wpOp;simp only[hi];rw[h1];cases g with
 |true=>
  left;obtain⟨f,X,z,W⟩:=EC M R.symm hv w (t J E w T);unfold Oper.wp;rw[z,Oper.upon_enter];refine W.mono ?_;rintro e w' ⟨rfl,Z⟩;have l:fF sp (dz listed i).toArray=false->Mem E0 O0 nl0 V0 w':=λhs=>(N (jF hs)).keep Z;refine⟨l,?_⟩;rw[hd];refine m.out E0 E _ w' u (by simp[Act.put,y]) ?_ (T.keep Z) l;have:=Frm.put (p:=p) (g:=true) M B.1 B.2 R h4 (λ_=>hs)
  simp_all
 |false=>simp only[Zw,Zt,hd];refine⟨λhs=>N (jF hs),?_⟩;refine m.out E0 E _ w u (by simp[Act.put,y]) ?_ T λhs=>N<|jF hs;have:=Frm.put (p:=p) (g:=false) (s:=s) M B.1 B.2 R h4 sm;simpa using this
end
section
variable{P:Z3}{tt:Z8 (Nat×TI)}{ops:Array Oper}{Q:Exit->Act->Z6->Prop}{o:Oper}{rest:Z8 Oper}
 {n:Nat} {F:cy} {C:Z8 Nat} {O:Own} {nl:Nat} {V:Vw} {K:Act->Z6->Prop}
theorem XI{p:Z8 (Nat×Bool)}{l e sz m i:Nat}{xs:Z8 Z7}(M:lk O l=some (.row e sz m xs))(hi:i<=m)(Y:∀v V',eL V' v sz m xs->dY P o n (ow l v F) C [] nl V' p true (.a (.v (dV v 0 i sz)))): StepTo P o p n F C O nl V (σ:=Unit) (λ_=>True) (λ_=>.a (.row nl)) (λ_=>(nl,.row e sz i (xs.take (i*sz)))::(l,.gone)::O) (nl+1) (λ_=>V):=by constructor;intro E a w X z N K Q T;have d:=N.row _ _ _ _ _ M;have u:=CY d;have R:=(Y (E.κ l) (vw w) (pg d (λk _=>rfl)) J E a w (X.fz J u) (by rw[Aw u];exact z) (jh E nl w)).1;have t:=Bn d hi;(have L:(dV (E.κ l) 0 i sz).ownBlock=(E.κ l).ownBlock:=by (rcases d.2 with⟨y,_⟩|⟨g,B,W,y,_⟩);{rw[y];rfl};rw[y];simp only[dV];by_cases Z:B=0<;>simp[Z,Addr.add,Value.ownBlock]);have:=T () (E.setκ nl (dV (E.κ l) 0 i sz)) w ZY (Env.agree_setκ E _) (N.growO M t (World.grownBy.refl w _) (.inl L)) (by simp[SV.ok,A.ok,eD]);unfold Oper.wp;rw[R];show K (a.put o.dst _) w;simpa[SV.den,A.den,Env.setκ]using this
theorem Qp(a6:dl P tt){p:Z8 (Nat×Bool)}{t tn e k:Nat}{l:TI}{kq kn:IntKind}(hv:rQ F p o.op=some (t,tn,.a (.v (.slice none 0 0)),.a (.v (.int kq k))))(X:uy tt t=some (e,l))(Z:l.zero.length=l.size)(W:P.underlying tn=some (.int kn)) (h0:0<k) (hs:0<l.size) (hb:k*l.bytes<=140737488355328) (M:k<=maxLen): StepTo P o p n F C O nl V (σ:=Z8 Z7) (λ_=>True) (λ_=>.a (.row nl)) (λzs=>(nl,.row e l.size k zs)::O) (nl+1) (λ_=>V):=by
 refine Hs hv λE w hm=>?_;obtain⟨hu,a0⟩:=xj a6 X;obtain⟨fi,a9,ae,T,z,hz,a5⟩:=a0.info;(have a7:z.cells.size=l.size:=by rw[<-Z,<-a5];simp);(have N:(k:Int)<=9223372036854775807:=by simp only[maxLen]at M;omega);have y:=Lib.run_append_nil_zeros (P:=P) w t tn o.type e fi z kq kn hu W a9 hz k h0 om N (by rw[T];omega);have B:=grownCap_ge w k 0 e;have Y:=grownCap_le_maxLen w k 0 e M;obtain⟨d,u⟩:∃d,d=Builtin.zeroCells z.cells k++Builtin.zeroCells z.cells (grownCap w k 0 e - k):=⟨_,J⟩;rw[<-u]at y
 have m:d.size=grownCap w k 0 e*l.size:=by
  rw[u,h_,sK,sK,a7,<-Y4]
  simp_all
 have R:Below w.heap.size w (w.drew.alloc (.cells d e)):=⟨J,J,J,sm,λk hk=>heap_alloc_old w.drew _ hk⟩;have aa:k*l.size<=grownCap w k 0 e*l.size:=Zn _ B
 have L:(w.drew.alloc (.cells d e)).ownsRow w.heap.size e l.size (.slice (some ⟨w.heap.size,0,none⟩) k (grownCap w k 0 e)) k (d.toList.take (k*l.size)):=
  ⟨by rw[ZL,Y2,m];omega,.inr ⟨w.heap.size,_,d,J,ZS _,heap_alloc_new w.drew _,B,Y,m,J⟩⟩
 refine⟨d.toList.take (k*l.size),E.setκ nl _,_,?_,ZY,Env.agree_setκ E (.slice (some ⟨w.heap.size,0,none⟩) k (grownCap w k 0 e)),hm.newRow R L,by simp[SV.ok,A.ok,eD]⟩;simpa[SV.den,A.den,Env.setκ]using y
end
section
variable{P:Z3}{tt:Z8 (Nat×TI)}{ops:Array Oper}{Q:Exit->Act->Z6->Prop}{o:Oper}{rest:Z8 Oper}
 {n:Nat} {F:cy} {C:Z8 Nat} {O:Own} {nl:Nat} {V:Vw} {K:Act->Z6->Prop}
def yK(tt:Z8 (Nat×TI))(F:cy)(O:Own)(p:Z8 (Nat×Bool)):Op->Z4 (Nat×Z8 A×Nat)
 |.buildSlice t len parts=>match lk tt t with
  |some ⟨_,_,_,_,.slice e⟩=>match lk tt e with
   |some ti=>bif Nat.ble (len*ti.size) 16777216&&Nat.beq ti.zero.length ti.size then
     (match ot F O p (pM e ti.size len 0) parts.toList ((eU len ti.zero).map .v)with
      |some cs=>some (len,cs,e)
      |none=>none)else none
   |none=>none
  |_=>none
 |_=>none
theorem Vd(L:dl P tt){E:Env}{a:Act}{w:Z6}{p:Z8 (Nat×Bool)}(hf:Frm E n F C nl a.tmps)(ae:eN F p=true)(hm:Mem E O nl V w){len e:Nat}{cs:Z8 A} (u:yK tt F O p o.op=some (len,cs,e)): (execOp a.eval o).run P w=.ok (.value (.slice (some ⟨w.heap.size,0,none⟩) len len)) (w.alloc (.cells (cs.map (A.den E)).toArray e (0,0)))/\dH nl cs=true:=by
 unfold execOp;cases Y:o.op with
 |buildSlice t len' parts=>
  simp only[Y,yK]at u;split at u
  .rename_i sz by_ z fl e' a9;split at u
   .rename_i y M;cases B:(Nat.ble (len'*y.size) 16777216&&Nat.beq y.zero.length y.size)with
    |false=>simp[B]at u
    |true=>
     simp only[B,Za]at u;simp only[Z1,Nat.ble_eq,YU]at B;split at u
     .rename_i a0 aa;simp only[Z0,ZN]at u;obtain⟨rfl,rfl,rfl⟩:=u;obtain⟨dd,T,hk,_⟩:=(L _ _ a9).und;(have a7:dd=.slice e':=by cases dd<;>simp[eM]at hk;rw[hk]);subst a7;obtain⟨zv,hz,a5⟩:=(L _ _ M).zeroValue w
      have u:∀l:Z8 Z7,(l.map A.v).map (A.den E)=l/\dH nl (l.map A.v)=true:=by
       intro l
       induction l with
       |nil=>exact⟨J,J⟩
       |cons x r ih=>exact⟨by simp[A.den,ih.1],by simp[dH,A.ok,ih.2]⟩
      obtain⟨d,ad⟩:=vU (E:=E) hf hm ae (place:=λi=>some (i*y.size,y.size)) (λi q h=>by rw[z8 _ _ _ _ _ _ h];simp) aa (u _).2;rw[(u _).1]at d;(have ab:zv.cells.size=y.size:=by rw[<-B.2,<-a5];simp);(have N:(Array.range (len'*y.size)).map (λi=>zv.cells[i%zv.cells.size]!)=(eU len' y.zero).toArray:=by rw[<-a5,<-ab];exact Bh _ _);(have a6: ¬(len'*y.size>2^24):=by have:=B.1;omega);(have m:(parts.map λ(q:Nat×Operand)=>(q.1,a.eval q.2)).toList=parts.toList.map λq=>(q.1,a.eval q.2):=by simp);(have Z:(Instr.buildSlice t len' (parts.map λ(q:Nat×Operand)=>(q.1,a.eval q.2))).run P w=.ok (.slice (some ⟨w.heap.size,0,none⟩) len' len') (w.alloc (.cells (a0.map (A.den E)).toArray e' (0,0))):=by by_cases X:len'*y.size=0;{(have W:(Array.range (len'*y.size)).map (λi=>(#[]:Array Z7)[i%(#[]:Array Z7).size]!)=(eU len' y.zero).toArray:=by (have h1:eU len' y.zero=[]:=by apply Zu;rw[sL,B.2];exact X);simp[X,h1]);simp only[Instr.buildSlice,ZR,run_underlying T,ZU,(L _ _ M).sizeOf,a6,Zt,X,Yf,ZO,Sem.run_ite];rw[X]at W;simp only[W,m,d];simp[newRow]};simp only[Instr.buildSlice,ZR,run_underlying T,ZU,(L _ _ M).sizeOf,a6,Zt,X,hz,ZO,Sem.run_ite,N,m,d];simp[newRow]);have R:(Instr.buildSlice t len' (parts.map λx=>match x with|(i,x)=>(i,a.eval x))).run P w=.ok (.slice (some ⟨w.heap.size,0,none⟩) len' len') (w.alloc (.cells (a0.map (A.den E)).toArray e' (0,0))):=Z;simp only[ZR,R,ZU,ZO];exact⟨ZY,ad⟩
     simp at u
   simp at u
  simp_all
 |_=>simp[Y,yK]at u
theorem Ml(t:dl P tt){p:Z8 (Nat×Bool)}{len e:Nat}{cs:Z8 A}(z:yK tt F O p o.op=some (len,cs,e)): StepTo P o p n F C O nl V (σ:=Nat) (λ_=>True) (λx=>.a (.v (.slice (some ⟨x,0,none⟩) len len))) (λx=>(nl+1,.pin nl x)::(nl,.lit cs e)::O) (nl+2) (λ_=>V):=by constructor;intro E a w y m u K Q L;unfold Oper.wp;obtain⟨B,d⟩:=Vd t y m u z;rw[B];have l:=u.new (cs:=cs) (e:=e) d;have:=L w.heap.size (E.setρ nl w.heap.size) _ ZY (E.agree_setρ w.heap.size) (l.addPin nl w.heap.size (by simp[Env.setρ]) om) J;show K (a.put o.dst _) _;simpa[SV.den,A.den]using this
end
abbrev Aj(O:Own)(nl e0:Nat)(gs:Z8 Z7)(R1 R2 R3:Rw):Own:=
 (nl,.lit (.row (nl+1):: .row (nl+2):: .row (nl+3)::gs.map .v) e0)::(nl+1,R1.cel)::(nl+2,R2.cel)::(nl+3,R3.cel)::O
abbrev pq(E E':Env)(nl:Nat):Env:=(((E.setρ nl (E'.ρ 0)).setκ (nl+1) (E'.κ 1)).setκ (nl+2) (E'.κ 2)).setκ (nl+3) (E'.κ 3)
theorem qk{O:Own}{nl e0 l:Nat}{gs:Z8 Z7}{R1 R2 R3:Rw}{x:Cel}(h:lk (Aj O nl e0 gs R1 R2 R3) l=some x): (l=nl/\x=.lit (.row (nl+1):: .row (nl+2):: .row (nl+3)::gs.map .v) e0)\/(l=nl+1/\x=R1.cel)\/(l=nl+2/\x=R2.cel)\/(l=nl+3/\x=R3.cel)\/lk O l=some x:=by
 simp only[fm]at h
 grind
section
variable{P:Z3}{n:Nat}{F:cy}{C:Z8 Nat}{O:Own}{nl:Nat}{V:Vw}{E E':Env}{w w':Z6}{o:Oper}
theorem Uf(p:Mem E O nl V w){e0:Nat}{gs:Z8 Z7}{R1 R2 R3:Rw}(z:Mem E' (ii e0 gs R1 R2 R3) 4 (vw w) w')(a5:w.heap.size<=w'.heap.size): Mem (pq E E' nl) (Aj O nl e0 gs R1 R2 R3) (nl+4) V w':=by
 have W:E.agree nl (pq E E' nl):=λl N=>⟨by simp only[Env.setκ,Env.setρ];rw[ZX om],by simp only[Env.setκ,Env.setρ];rw[ZX om,ZX om,ZX om]⟩;(have k0:(pq E E' nl).ρ nl=E'.ρ 0:=by simp[Env.setκ,Env.setρ]);(have k1:(pq E E' nl).κ (nl+1)=E'.κ 1:=by simp[Env.setκ]);(have k2:(pq E E' nl).κ (nl+2)=E'.κ 2:=by simp[Env.setκ]);(have k3:(pq E E' nl).κ (nl+3)=E'.κ 3:=by simp[Env.setκ]);have g0:lk (ii e0 gs R1 R2 R3) 0=some (.lit (.row 1:: .row 2:: .row 3::gs.map .v) e0):=rfl;have g1:lk (ii e0 gs R1 R2 R3) 1=some R1.cel:=rfl;have g2:lk (ii e0 gs R1 R2 R3) 2=some R2.cel:=rfl;have g3:lk (ii e0 gs R1 R2 R3) 3=some R3.cel:=rfl;(have new:∀l x k,lk (ii e0 gs R1 R2 R3) l=some x->blk E' l x=some k->w.heap.size<=k:=λl x k N t=>by have:=z.off _ _ k N t;exact Array.getElem?_eq_none_iff.1 this);have keep:∀k,k<w.heap.size->w'.heap[k]? =w.heap[k]? :=λk t=>by (have:w.heap[k]? =some w.heap[k]:=by simp[t]);rw[this];exact z.get k _ this
 have B:∀l x,lk (Aj O nl e0 gs R1 R2 R3) l=some x->
   (∃q y,q<4/\lk (ii e0 gs R1 R2 R3) q=some y/\blk (pq E E' nl) l x=blk E' q y/\l=nl+q)\/(lk O l=some x/\blk (pq E E' nl) l x=blk E l x):=by
  intro l x h
  rcases qk h with⟨rfl,rfl⟩|⟨rfl,rfl⟩|⟨rfl,rfl⟩|⟨rfl,rfl⟩|h
  . exact .inl ⟨0,_,om,g0,by simp[blk,k0],sm⟩
  . exact .inl ⟨1,_,om,g1,by simp[blk,k1],sm⟩
  . exact .inl ⟨2,_,om,g2,by simp[blk,k2],sm⟩
  . exact .inl ⟨3,_,om,g3,by simp[blk,k3],sm⟩
  . exact .inr ⟨h,jL W (p.lab _ _ h) _⟩
 refine⟨?_,?_,?_,?_,?_,?_,?_,?_,?_,?_,?_,?_,?_⟩;{intro l cs e h;(rcases qk h with⟨rfl,d⟩|⟨rfl,d⟩|⟨rfl,d⟩|⟨rfl,d⟩|d);{cases d;have:=z.lit _ _ _ g0;simp only[Zq,(iC _ gs).1]at this⊢;rw[k0,this];simp only[A.den,k1,k2,k3]};{cases d};{cases d};{cases d};have X:=p.lit _ _ _ d;have Z:=p.lt (k:=E.ρ l) d J;rw[(W l (p.lab _ _ d)).1,keep _ Z,X,A.map_agree W (p.labs _ _ _ d)]};{intro l e sz n xs h;(rcases qk h with⟨rfl,d⟩|⟨rfl,d⟩|⟨rfl,d⟩|⟨rfl,d⟩|d);{cases d};{cases d;rw[k1];exact z.row _ _ _ _ _ g1};{cases d;rw[k2];exact z.row _ _ _ _ _ g2};{cases d;rw[k3];exact z.row _ _ _ _ _ g3};rw[(W l (p.lab _ _ d)).2];exact nt (p.row _ _ _ _ _ d) λk t=>keep k (p.lt d (by simpa[blk]using t))}
 .intro l l' x x' k h h' t u;(rcases B _ _ h with⟨q,y,hq,Y,L,rfl⟩|⟨N,L⟩);{(rcases B _ _ h' with⟨q',y',a7,T,M,rfl⟩|⟨R,M⟩);{have:=z.sep q q' y y' k Y T (L▸t) (M▸u);subst this;rfl};rw[L]at t;rw[M]at u;have a:=p.lt R u;have b:=new _ _ k Y t;omega};(rcases B _ _ h' with⟨q',y',a7,T,M,rfl⟩|⟨R,M⟩);{rw[L]at t;rw[M]at u;have a:=p.lt N t;have b:=new _ _ k T u;omega};exact p.sep _ _ _ _ k N R (L▸t) (M▸u)
 {intro k o t;exact z.get _ _<|p.get _ _ t}
 .intro l x k h t;rcases B _ _ h with⟨q,y,hq,Y,L,rfl⟩|⟨N,L⟩
  .have:=z.off _ _ k Y (L▸t);cases hv:V.get k with
   |none=>rfl
   |some o=>exact absurd (this.symm.trans (p.get _ _ hv)) sm
  exact p.off _ _ k N (L▸t)
 {rw[z.os];exact p.os};{rw[z.tape];exact p.tape};{rw[z.output];exact p.output};{intro l x h;(rcases qk h with⟨rfl,_⟩|⟨rfl,_⟩|⟨rfl,_⟩|⟨rfl,_⟩|h);{omega};{omega};{omega};{omega};have:=p.lab _ _ h;omega};{intro l cs e h;(rcases qk h with⟨rfl,d⟩|⟨rfl,d⟩|⟨rfl,d⟩|⟨rfl,d⟩|d);{cases d;have hg:=(iC E gs).2 (l+4);simp only[dH,A.ok,Z1,eD];exact⟨om,om,om,hg⟩};{cases d};{cases d};{cases d};exact jn om (p.labs _ _ _ d)};{intro l m b' h;(rcases qk h with⟨rfl,d⟩|⟨rfl,d⟩|⟨rfl,d⟩|⟨rfl,d⟩|d);{cases d};{cases d};{cases d};{cases d};obtain⟨X,h3⟩:=p.pin _ _ _ d;exact⟨(W m h3).1.trans X,om⟩};{intro l k h;(rcases qk h with⟨rfl,d⟩|⟨rfl,d⟩|⟨rfl,d⟩|⟨rfl,d⟩|d);{cases d};{cases d};{cases d};{cases d};exact ZC (p.big _ _ d) a5};intro l m b' v h;(rcases qk h with⟨rfl,d⟩|⟨rfl,d⟩|⟨rfl,d⟩|⟨rfl,d⟩|d);{cases d};{cases d};{cases d};{cases d};obtain⟨X,h3,h4⟩:=p.kp _ _ _ _ d;exact⟨(W m h4).1.trans X,(W m h4).2.trans h3,om⟩
theorem ub{p:Z8 (Nat×Bool)}{f e0:Nat}{gs:Z8 Z7}{z:Z8 SV}{R1 R2 R3:Rw}(R:fL F p o.op=some (f,z))(u:eJ P f) (d:∀E w,Mem E O nl V w->Calls P f (z.map (SV.den E)).toArray w λex w'=>∃E',ex=.returned (.pointer (some ⟨E'.ρ 0,0,none⟩))/\w.heap.size<=w'.heap.size/\Mem E' (ii e0 gs R1 R2 R3) 4 (vw w) w'): StepTo P o p n F C O nl V (σ:=Unit) (λ_=>True) (λ_=>.a (.ptr nl 0)) (λ_=>Aj O nl e0 gs R1 R2 R3) (nl+4) (λ_=>V):=by constructor;intro E T w M y B K Q L;obtain⟨N,_⟩:=kG M y R u w;unfold Oper.wp;rw[N,Oper.upon_enter];refine(d E w B).mono ?_;rintro ex w' ⟨E',rfl,t,m⟩;have:=L () (pq E E' nl) w' ZY (λl W=>⟨by simp only[Env.setκ,Env.setρ];rw[ZX om],by simp only[Env.setκ,Env.setρ];rw[ZX om,ZX om,ZX om]⟩) (Uf B m t) (by simp[SV.ok,A.ok,eD]);simpa[SV.den,A.den,Env.setκ,Env.setρ]using this
def Vw.grown(V:Vw)(w w':Z6):Vw:=⟨λk=>if k<w.heap.size then V.get k else w'.heap[k]?,V.os,V.tape,V.output⟩
theorem Vw.le.lt(hV:V.le (vw w)){k:Nat}{d:Obj}(h:V.get k=some d):k<w.heap.size:=by have:=hV.get _ _ h;exact(Array.getElem?_eq_some_iff.1 this).1
theorem Vext.grown(hV:V.le (vw w))(m:cH w w'):Vext w.heap.size V (V.grown w w') w':=by
 refine⟨⟨λk l h=>?_,J,J,J⟩,λk l h=>?_⟩;{simp only[Vw.grown];rw[ZW (hV.lt h)];exact h};simp only[Vw.grown]at h;split at h;{rename_i d;exact⟨by rw[m.block k d];exact hV.get _ _ h,.inl h⟩}
 simp_all
theorem SlOf.grown{α:Type}{enc:α->Z8 Z7}{L:Z8 α}{e sz:Nat}{v:Z7}(V:Vw)(h:w'.ownsRow w.heap.size e sz v L.length (L.flatMap enc))(l:∀x,(enc x).length=sz):SlOf (V.grown w w') enc sz v L:=
 ⟨pg ⟨h.1,h.2.imp id (λ⟨g,cap,cur,a,_,c⟩=>⟨g,cap,cur,a,Zz _,c⟩)⟩ (λk d=>by
  simp only[Vw.grown]
  rw[ZX]
  have:=(h.lt k d).1
  omega),l⟩
end
section
variable{P:Z3}{tt:Z8 (Nat×TI)}{n:Nat}{F:cy}{C:Z8 Nat}{O:Own}{nl:Nat}{V:Vw}{o:Oper}
def BP(tt:Z8 (Nat×TI))(F:cy)(O:Own)(p:Z8 (Nat×Bool)):Op->Z4 (Z8 A)
 |.build t parts=>match lk tt t with
  |some ⟨_,_,z,_,.arr m e⟩=>match lk tt e with
   |some ti=>ot F O p (pM e ti.size m 0) parts.toList (z.map .v)
   |none=>none
  |_=>none
 |_=>none
theorem Pp(N:dl P tt){p:Z8 (Nat×Bool)}{g:Bool}{cs:Z8 A}(R:BP tt F O p o.op=some cs):dY P o n F C O nl V p g (.agg cs):=by
 intro a8 E a w hf hg hm;unfold Yv execOp;cases L:o.op with
 |build t parts=>
  simp only[L,BP]at R;split at R
  .rename_i sz by_ z flds m e Y;split at R;{rename_i ti X;have hT:=N _ _ Y;obtain⟨d,hd,W,_⟩:=hT.und;(have T:d=.array m e:=by cases d<;>first|(simp[eM]at W;obtain⟨rfl,rfl⟩:=W;rfl)|(simp[eM]at W));subst T;obtain⟨zv,hz,Z⟩:=hT.zeroValue w;obtain⟨l,a0⟩:=vU (E:=E) hf hm hg (place:=λi=>some (i*ti.size,ti.size)) (λi q h=>by rw[z8 _ _ _ _ _ _ h];simp) R ((iC E z).2 nl);refine⟨?_,by simpa[SV.ok]using a0⟩;(have B:zv.cells=z.toArray:=by apply YN;simpa using Z);rw[(iC E z).1]at l;(have u:(parts.map λ(q:Nat×Operand)=>(q.1,a.eval q.2)).toList=parts.toList.map λq=>(q.1,a.eval q.2):=by simp);(have M:(Instr.build t (parts.map λ(q:Nat×Operand)=>(q.1,a.eval q.2))).run P w=.ok (.agg (cs.map (A.den E)).toArray) w:=by simp only[Instr.build,ZR,hz,ZU,run_underlying hd,(N _ _ X).sizeOf,B,u,l,ZO]);have y:(Instr.build t (parts.map λx=>match x with|(i,x)=>(i,a.eval x))).run P w=.ok (.agg (cs.map (A.den E)).toArray) w:=M;simp only[ZR,y,ZU,ZO,SV.den]}
   simp_all
  simp_all
 |_=>simp[L,BP]at R
end
def A.sh(d:Nat):A->A
 |.v x=>.v x
 |.ptr l o=>.ptr (l+d) o
 |.fn f caps=>.fn f (caps.map λp=>(p.1+d,p.2))
 |.row l=>.row (l+d)
 |.el x k=>.el x k
 |.rel l k=>.rel (l+d) k
def SV.sh(d:Nat):SV->SV
 |.a x=>.a (x.sh d)
 |.agg cs=>.agg (cs.map (A.sh d))
 |.tup cs=>.tup (cs.map (A.sh d))
def Cel.sh(d:Nat):Cel->Cel
 |.lit cs e=>.lit (cs.map (A.sh d)) e
 |.row e sz n xs=>.row e sz n xs
 |.gone=>.gone
 |.pin m b=>.pin (m+d) b
 |.size k=>.size k
 |.keep m b v=>.keep (m+d) b v
def sf(d:Nat):Own->Own
 |[]=>[]
 |(l,c)::r=>(l+d,c.sh d)::sf d r
def k7(E E':Env)(nl:Nat):Env:=⟨λl=>if l<nl then E.ρ l else E'.ρ (l - nl),λl=>if l<nl then E.κ l else E'.κ (l - nl)⟩
theorem sY(E d:Env)(nl q:Nat):(k7 E d nl).ρ (q+nl)=d.ρ q:=by
 simp only[k7]
 grind
theorem uH(E d:Env)(nl q:Nat):(k7 E d nl).κ (q+nl)=d.κ q:=by
 simp only[k7]
 grind
theorem zy(E m:Env)(nl:Nat):E.agree nl (k7 E m nl):=λl d=>⟨by simp only[k7];rw[ZW d],by simp only[k7];rw[ZW d]⟩
theorem A.den_sh(E d:Env)(nl:Nat)(x:A):(x.sh nl).den (k7 E d nl)=x.den d:=by
 cases x with
 |v x=>rfl
 |ptr l o=>simp only[A.sh,A.den,sY]
 |fn f caps=>simp only[A.sh,A.den,Ym];congr 2;apply Yq;intro p m;simp only[Function.comp,sY]
 |row l=>simp only[A.sh,A.den,uH]
 |el x k=>rfl
 |rel l k=>simp only[A.sh,A.den,uH]
theorem A.map_sh(E d:Env)(nl:Nat)(cs:Z8 A):(cs.map (A.sh nl)).map (A.den (k7 E d nl))=cs.map (A.den d):=by rw[Ym];apply Yq;intro x _;exact A.den_sh E d nl x
theorem SV.den_sh(E d:Env)(nl:Nat)(s:SV):(s.sh nl).den (k7 E d nl)=s.den d:=by
 cases s with
 |a x=>exact A.den_sh E d nl x
 |agg cs=>simp only[SV.sh,SV.den,A.map_sh]
 |tup cs=>simp only[SV.sh,SV.den,A.map_sh]
theorem A.ok_sh{nl k:Nat}{x:A}(h:x.ok k=true):(x.sh nl).ok (nl+k)=true:=by
 cases x with
 |v x=>rfl
 |ptr l o=>simp only[A.ok,A.sh,eD]at h⊢;omega
 |fn f caps=>
  simp only[A.ok,A.sh,te]at h⊢
  grind
 |row l=>simp only[A.ok,A.sh,eD]at h⊢;omega
 |el x k=>rfl
 |rel l k=>simp only[A.ok,A.sh,eD]at h⊢;omega
theorem Bk{nl k:Nat}{cs:Z8 A}(h:dH k cs=true):dH (nl+k) (cs.map (A.sh nl))=true:=by rw[gi]at h⊢;intro x l;obtain⟨y,d,rfl⟩:=Y6.1 l;exact A.ok_sh<|h y d
theorem SV.ok_sh{nl k:Nat}{s:SV}(h:s.ok k=true):(s.sh nl).ok (nl+k)=true:=by
 cases s with
 |a x=>exact A.ok_sh h
 |agg cs=>exact Bk h
 |tup cs=>exact Bk h
theorem wE(E d:Env)(nl q:Nat)(y:Cel):blk (k7 E d nl) (q+nl) (y.sh nl)=blk d q y:=by cases y<;>simp only[Cel.sh,blk,sY,uH]
theorem l9{O:Own}{nl l:Nat}{x:Cel}:∀{O2:Own},lk (sf nl O2++O) l=some x->(∃q y,l=q+nl/\lk O2 q=some y/\x=y.sh nl)\/lk O l=some x
 |[],h=>.inr h
 |(k,c)::r,h=>by
  simp only[sf,YY]at h
  rw[fm]at h
  split at h
  ·
   rename_i e
   cases h
   exact .inl ⟨k,c,e.symm,dF _ _ _,J⟩
  ·
   rename_i e
   rcases l9 h with⟨q,y,h1,h2,h3⟩|h1
   . exact .inl ⟨q,y,h1,by rw[gB _ _ (λe'=>e (by rw[h1,e']))];exact h2,h3⟩
   simp_all
section
variable{P:Z3}{n:Nat}{F:cy}{C:Z8 Nat}{O O2:Own}{nl k2:Nat}{V:Vw}{E E':Env}{w w':Z6}{o:Oper}
theorem Mem.join(p:Mem E O nl V w)(B:Mem E' O2 k2 (vw w) w')(X:w.heap.size<=w'.heap.size):Mem (k7 E E' nl) (sf nl O2++O) (nl+k2) V w':=by
 have L:=zy E E' nl;have new:∀q y k,lk O2 q=some y->blk E' q y=some k->w.heap.size<=k:=λq y k hl t=>Array.getElem?_eq_none_iff.1 (B.off _ _ k hl t);(have keep:∀k,k<w.heap.size->w'.heap[k]? =w.heap[k]? :=λk t=>by (have:w.heap[k]? =some w.heap[k]:=by simp[t]);rw[this];exact B.get k _ this);refine⟨?_,?_,?_,λk o t=>B.get _ _ (p.get _ _ t),?_,B.os.trans p.os,B.tape.trans p.tape,B.output.trans p.output,?_,?_,?_,?_,?_⟩;{intro l cs e h;(rcases l9 h with⟨q,y,rfl,u,d⟩|d);{cases y<;>simp only[Cel.sh]at d<;>cases d;rename_i a5;rw[sY,A.map_sh];exact B.lit _ _ _ u};have T:=p.lt (k:=E.ρ l) d J;rw[(L l (p.lab _ _ d)).1,keep _ T,p.lit _ _ _ d,A.map_agree L (p.labs _ _ _ d)]};{intro l e sz n xs h;(rcases l9 h with⟨q,y,rfl,u,d⟩|d);{cases y<;>simp only[Cel.sh]at d<;>cases d;rw[uH];exact B.row _ _ _ _ _ u};rw[(L l (p.lab _ _ d)).2];exact nt (p.row _ _ _ _ _ d) λk t=>keep k (p.lt d (by simpa[blk]using t))}
 .intro l l' x x' k h Y t z;(rcases l9 h with⟨q,y,rfl,u,rfl⟩|d);{rw[wE]at t;(rcases l9 Y with⟨q',Z,rfl,N,rfl⟩|hx');{rw[wE]at z;rw[B.sep q q' y Z k u N t z]};rw[jL L (p.lab _ _ hx')]at z;have a:=p.lt hx' z;have b:=new _ _ k u t;omega};rw[jL L (p.lab _ _ d)]at t;(rcases l9 Y with⟨q',Z,rfl,N,rfl⟩|hx');{rw[wE]at z;have a:=p.lt d t;have b:=new _ _ k N z;omega};rw[jL L (p.lab _ _ hx')]at z;exact p.sep _ _ _ _ k d hx' t z
 .intro l x k h t;rcases l9 h with⟨q,y,rfl,u,rfl⟩|d
  .rw[wE]at t;have b:=new _ _ k u t;cases hv:V.get k with
   |none=>rfl
   |some ob=>have:=(Array.getElem?_eq_some_iff.1 (p.get _ _ hv)).1;omega
  rw[jL L (p.lab _ _ d)]at t;exact p.off _ _ k d t
 {intro l x h;(rcases l9 h with⟨q,y,rfl,u,rfl⟩|d);{have:=B.lab _ _ u;omega};have:=p.lab _ _ d;omega};{intro l cs e h;(rcases l9 h with⟨q,y,rfl,u,d⟩|d);{cases y<;>simp only[Cel.sh]at d<;>cases d;exact Bk<|B.labs _ _ _ u};exact jn om (p.labs _ _ _ d)};{intro l m b h;(rcases l9 h with⟨q,y,rfl,u,d⟩|d);{cases y<;>simp only[Cel.sh]at d<;>cases d;obtain⟨M,R⟩:=B.pin _ _ _ u;exact⟨by rw[sY];exact M,om⟩};obtain⟨M,R⟩:=p.pin _ _ _ d;exact⟨(L m R).1.trans M,om⟩};{intro l k h;(rcases l9 h with⟨q,y,rfl,u,d⟩|d);{cases y<;>simp only[Cel.sh]at d<;>cases d;exact B.big _ _ u};exact ZC (p.big _ _ d) X};intro l m b v h;(rcases l9 h with⟨q,y,rfl,u,d⟩|d);{cases y<;>simp only[Cel.sh]at d<;>cases d;obtain⟨M,R,W⟩:=B.kp _ _ _ _ u;exact⟨by rw[sY];exact M,by rw[uH];exact R,om⟩};obtain⟨M,R,W⟩:=p.kp _ _ _ _ d;exact⟨(L m W).1.trans M,(L m W).2.trans R,om⟩
def vo(w:Z6){σ:Type}(Φ:σ->Prop)(s:σ->SV)(O2:σ->Own)(k2:Nat)(ex:Ending)(w':Z6):Prop:=
 ∃x E',ex=.returned ((s x).den E')/\Φ x/\(s x).ok k2=true/\w.heap.size<=w'.heap.size/\Mem E' (O2 x) k2 (vw w) w'
theorem lJ{p:Z8 (Nat×Bool)}{f:Nat}{z:Z8 SV}{σ:Type}(Φ:σ->Prop)(s:σ->SV)(L:σ->Own)(N:Nat)(Z:fL F p o.op=some (f,z))(u:eJ P f) (d:∀E w,Mem E O nl V w->Calls P f (z.map (SV.den E)).toArray w (vo w Φ s L N)): StepTo P o p n F C O nl V Φ (λx=>(s x).sh nl) (λx=>sf nl (L x)++O) (nl+N) (λ_=>V):=by constructor;intro E a' w W y M K Q T;obtain⟨Y,_⟩:=kG W y Z u w;unfold Oper.wp;rw[Y,Oper.upon_enter];refine(d E w M).mono ?_;rintro ex R ⟨x,B,rfl,X,l,t,m⟩;have:=T x (k7 E B nl) R X (zy E B nl) (M.join m t) (SV.ok_sh l);rw[SV.den_sh]at this;exact this
end
def eT:Z8 (Int×Z7)->Nat->Z8 MapEntry
 |[],_=>[]
 |(k,v)::r,n=>⟨.int .i64 k,v,n⟩::eT r (n+1)
def ew(es:Z8 (Int×Z7)):Obj:=.map (eT es 0).toArray es.length
def ey:Z8 (Int×Z7)->Int->Z4 Z7
 |[],_=>none
 |(a,x)::r,k=>if a=k then some x else ey r k
def fq:Z8 (Int×Z7)->Int->Z7->Z8 (Int×Z7)
 |[],k,v=>[(k,v)]
 |(a,x)::r,k,v=>if a=k then(a,v)::r else(a,x)::fq r k v
theorem pT(k:Int)(v:Z7)(k':Int):∀es,ey (fq es k v) k'=if k=k' then some v else ey es k'
 |[]=>by simp[fq,ey]
 |(a,x)::r=>by
  have ih:=pT k v k' r
  simp only[fq]
  by_cases h:a=k
  ·
   subst h
   rw[ZW J]
   simp only[ey]
   simp_all
  ·
   rw[ZX h]
   simp only[ey]
   grind
theorem KV(k:Int)(v:Z7):∀es,(ey es k).isSome=true->(fq es k v).length=es.length
 |[],h=>by simp[ey]at h
 |(a,x)::r,h=>by
  simp only[fq]
  by_cases e:a=k
  . rw[ZW e];rfl
  ·
   rw[ZX e]
   simp only[ey,ZX e]at h
   simp[KV k v r h]
theorem D1(kd:IntKind)(k:Int)(v:Z7):∀(es:Z8 (Int×Z7)) (n i:Nat),ey es k=none->Instr.findNow (.int kd) (.int .i64 k) (eT es n) i=some none/\eT (fq es k v) n=eT es n++[⟨.int .i64 k,v,n+es.length⟩]/\(fq es k v).length=es.length+1
 |[],n,i,_=>by simp[eT,fq,Instr.findNow]
 |(a,x)::r,n,i,h=>by
  simp only[ey]at h
  by_cases e:a=k
  . rw[ZW e]at h;cases h
  ·
   rw[ZX e]at h
   obtain⟨h1,h2,h3⟩:=D1 kd k v r (n+1) (i+1) h
   have d:(k==a)=false:=by simp;exact λq=>e q.symm
   refine⟨?_,?_,?_⟩
   . rw[eT];simp[Instr.findNow,Instr.sameNow,d,h1]
   ·
    simp only[fq,ZX e,eT,h2,YY,Y8]
    grind
   . simp only[fq,ZX e,Y8,h3]
theorem AI(kd:IntKind)(k:Int)(v:Z7):∀(es:Z8 (Int×Z7)) (n i:Nat) (x:Z7),ey es k=some x-> ∃j e,Instr.findNow (.int kd) (.int .i64 k) (eT es n) i=some (some (i+j,x))/\(eT es n)[j]? =some e/\e.key=.int .i64 k/\
  (eT es n).modify j (λe=>{e with key:=.int .i64 k,val:=v})=eT (fq es k v) n
 |[],n,i,x,h=>by simp[ey]at h
 |(a,y)::r,n,i,x,h=>by
  simp only[ey]at h
  by_cases e:a=k
  ·
   subst e
   rw[ZW J]at h
   cases h
   refine⟨0,_,?_,J,J,?_⟩
   . simp[eT,Instr.findNow,Instr.sameNow]
   . simp[eT,fq]
  ·
   rw[ZX e]at h
   obtain⟨j,en,h1,h2,h3,h4⟩:=AI kd k v r (n+1) (i+1) x h
   have d:(k==a)=false:=by simp;exact λq=>e q.symm
   refine⟨j+1,en,?_,?_,h3,?_⟩
   ·
    rw[eT]
    simp only[Instr.findNow,Instr.sameNow,beq_self_eq_true,ZI,Yf,d,h1]
    grind
   . simpa[eT]using h2
   . simp only[eT,fq,ZX e,List.modify_succ_cons,h4]
section
variable{P:Z3}{tt:Z8 (Nat×TI)}{ops:Array Oper}{Q:Exit->Act->Z6->Prop}{o:Oper}{rest:Z8 Oper}
 {n:Nat} {F:cy} {C:Z8 Nat} {O:Own} {nl:Nat} {V:Vw} {K:Act->Z6->Prop}
theorem VJ{w:Z6}{t l L b:Nat}{kd:IntKind}{k:Int}{d:Z8 (Int×Z7)}{z:Z7}(c:Bool)(B:P.underlying t=some (.map l L))(m:P.underlying l=some (.int kd))(N:(zeroValue L).run P w=.ok z w) (M:w.heap[b]? =some (ew d)):(Instr.lookup t (.map (some b)) (.int .i64 k) c).run P w=.ok (if c=true then .tuple #[(ey d k).getD z,.bool (ey d k).isSome]else(ey d k).getD z) w:=by
 (have y:(getObj b).run P w=.ok (ew d) w:=by simp[getObj,Sem.run,M,ew]);(have E:∀e,(Instr.checkKey e 10000 l (.int .i64 k)).run P w=.ok () w:=λe=>by rw[show(10000:Nat)=9999+1 from J,Instr.checkKey];simp[run_underlying m]);cases u:ey d k with
 |some x=>obtain⟨j,e,o,_⟩:=AI kd k x d 0 0 x u;(have p:(Instr.findKey l (.int .i64 k) (eT d 0)).run P w=.ok (some (0+j,x)) w:=by simp[Instr.findKey,run_underlying m,o]);cases c<;>simp[Instr.lookup,run_underlying B,y,ew,E,p]
 |none=>have o:=(D1 kd k z d 0 0 u).1;(have p:(Instr.findKey l (.int .i64 k) (eT d 0)).run P w=.ok none w:=by simp[Instr.findKey,run_underlying m,o]);cases c<;>simp[Instr.lookup,run_underlying B,y,ew,E,p,N]
def wb(F:cy)(p:Z8 (Nat×Bool)):Op->Z4 (Nat×Nat×Int×Bool)
 |.lookup t x y c=>match cV F p x,cV F p y with
  |some (.a (.v (.map (some b)))),some (.a (.v (.int .i64 k)))=>some (t,b,k,c)
  |_,_=>none
 |_=>none
theorem Ew{p:Z8 (Nat×Bool)}{g:Bool}{t L M b:Nat}{kd:IntKind}{k:Int}{c:Bool}{z:Z7}(u:Z8 (Int×Z7))(l:wb F p o.op=some (t,b,k,c))(W:P.underlying t=some (.map L M))(Y:P.underlying L=some (.int kd))(hz:∀w,(zeroValue M).run P w=.ok z w) (X:g=true->V.get b=some (ew u)) (B:g=true) {E:Env} {a:Act} {w:Z6} (N:Frm E n F C nl a.tmps) (m:eN F p=true) (hm:Mem E O nl V w): Yv P o a w (if c=true then .tuple #[(ey u k).getD z,.bool (ey u k).isSome]else(ey u k).getD z):=by
 unfold Yv execOp;cases d:o.op with
 |lookup t' x y ok=>
  simp only[d,wb]at l;split at l;{rename_i T k' hx hy;simp only[Z0,ZN]at l;obtain⟨rfl,rfl,rfl,rfl⟩:=l;obtain⟨Z,_⟩:=cZ N m hx;obtain⟨R,_⟩:=cZ N m hy;have e1:a.eval x=.map (some T):=Z;have e2:a.eval y=.int .i64 k':=R;simp only[e1,e2,ZR,VJ ok W Y (hz w) (hm.get _ _ (X B)),ZU,ZO]}
  simp_all
 |_=>simp[d,wb]at l
theorem Kd{p:Z8 (Nat×Bool)}{g:Bool}{t u y b:Nat}{kd:IntKind}{k:Int}{z:Z7}(l:Z8 (Int×Z7))(x:Z7)(N:wb F p o.op=some (t,b,k,false))(R:P.underlying t=some (.map u y))(M:P.underlying u=some (.int kd))(X:∀w,(zeroValue y).run P w=.ok z w) (T:g=true->V.get b=some (ew l)) (W:g=true->(ey l k).getD z=x):dY P o n F C O nl V p g (.a (.v x)):=by intro d E a w L m B;refine⟨?_,J⟩;have:=Ew l N R M X T d L m B;rw[ZX sm,W d]at this;exact this
theorem K6{p:Z8 (Nat×Bool)}{g:Bool}{t u B b:Nat}{kd:IntKind}{k:Int}{z:Z7}(l:Z8 (Int×Z7))(x:Z7)(r:Bool)(R:wb F p o.op=some (t,b,k,true))(T:P.underlying t=some (.map u B))(N:P.underlying u=some (.int kd))(X:∀w,(zeroValue B).run P w=.ok z w) (W:g=true->V.get b=some (ew l)) (y:g=true->(ey l k).getD z=x/\(ey l k).isSome=r):dY P o n F C O nl V p g (.tup [.v x,.v (.bool r)]):=by intro d E a w M m L;refine⟨?_,J⟩;have:=Ew l R T N X W d M m L;rw[ZW J,(y d).1,(y d).2]at this;exact this
theorem Lj{p:Z8 (Nat×Bool)}{t:Nat}(d:ym o.op=some t):
  StepTo P o p n F C O nl V (σ:=Nat) (λb=>V.get b=none) (λb=>.a (.v (.map (some b)))) (λ_=>O) nl (λb=>V.put b (ew [])):=JD d
theorem NV{w:Z6}{t o Z b:Nat}{kd:IntKind}{k:Int}{v:Z7}{d:Z8 (Int×Z7)}(V:P.underlying t=some (.map o Z))(N:P.underlying o=some (.int kd)) (W:w.heap[b]? =some (ew d)):(Instr.mapUpdate t (.map (some b)) (.int .i64 k) v).run P w=.ok () {w with heap:=w.heap.setIfInBounds b (ew (fq d k v))}:=by
 (have y:(getObj b).run P w=.ok (ew d) w:=by simp[getObj,Sem.run,W,ew]);(have Y:∀e,(Instr.checkKey e 10000 o (.int .i64 k)).run P w=.ok () w:=λe=>by rw[show(10000:Nat)=9999+1 from J,Instr.checkKey];simp[run_underlying N]);(have X:∀O,(setObj b O).run P w=.ok () {w with heap:=w.heap.setIfInBounds b O}:=λO=>by simp[setObj,Sem.run,W,ew]);(have L:(Instr.keyThatStays (.int .i64 k) (.int .i64 k)).run P w=.ok (.int .i64 k) w:=by simp[Instr.keyThatStays,Instr.sameBits]);cases R:ey d k with
 |some x=>obtain⟨j,e,T,he,M,u⟩:=AI kd k v d 0 0 x R;(have z:(Instr.findKey o (.int .i64 k) (eT d 0)).run P w=.ok (some (0+j,x)) w:=by simp[Instr.findKey,run_underlying N,T]);rw[Zo]at z;(have p:(((eT d 0).toArray[j]?).map (·.key)).getD (.int .i64 k)=.int .i64 k:=by simp[he,M]);(have m:Obj.map ((eT d 0).toArray.modify j λe=>{e with key:=.int .i64 k,val:=v}) d.length=ew (fq d k v):=by rw[ew,KV k v d (by rw[R];rfl),<-u];congr 1;apply YN;simp);rw[<-m];simp only[ew]at y;(have l:(Instr.keyThatStays ((((eT d 0).toArray[j]?).map (·.key)).getD (.int .i64 k)) (.int .i64 k)).run P w=.ok (.int .i64 k) w:=by rw[p];exact L);unfold Instr.mapUpdate;simp only[ZR,run_underlying V,ZU,y,Y,z,l,X]
 |none=>obtain⟨T,E,B⟩:=D1 kd k v d 0 0 R;(have z:(Instr.findKey o (.int .i64 k) (eT d 0)).run P w=.ok none w:=by simp[Instr.findKey,run_underlying N,T]);(have m:Obj.map ((eT d 0).toArray.push ⟨.int .i64 k,v,d.length⟩) (d.length+1)=ew (fq d k v):=by rw[ew,E,B];simp);rw[<-m];simp only[ew]at y;unfold Instr.mapUpdate;simp only[ZR,run_underlying V,ZU,y,Y,z,X]
def CF(F:cy)(p:Z8 (Nat×Bool)):Op->Z4 (Nat×Nat×Int×Z7)
 |.mapUpdate t x y z=>match cV F p x,cV F p y,cV F p z with
  |some (.a (.v (.map (some b)))),some (.a (.v (.int .i64 k))),some (.a (.v v))=>some (t,b,k,v)
  |_,_,_=>none
 |_=>none
theorem C8{p:Z8 (Nat×Bool)}{t L et b:Nat}{kd:IntKind}{k:Int}{v:Z7}(M:Z8 (Int×Z7))(m:CF F p o.op=some (t,b,k,v))(hd:o.dst=none)(X:P.underlying t=some (.map L et))(Y:P.underlying L=some (.int kd)) (B:V.get b=some (ew M)):StepTo P o p n F C O nl V (σ:=Unit) (λ_=>True) (λ_=>.a (.v undef)) (λ_=>O) nl (λ_=>V.put b (ew (fq M k v))):=by
 constructor;intro E a w u d N K Q hK;unfold Oper.wp execOp;cases l:o.op with
 |mapUpdate t' x y z=>
  simp only[l,CF]at m;split at m;{rename_i W k' R hx hy hz;simp only[Z0,ZN]at m;obtain⟨rfl,rfl,rfl,rfl⟩:=m;obtain⟨Z,_⟩:=cZ u d hx;obtain⟨T,_⟩:=cZ u d hy;obtain⟨h3,_⟩:=cZ u d hz;have e1:a.eval x=.map (some W):=Z;have e2:a.eval y=.int .i64 k':=T;have e3:a.eval z=R:=h3;simp only[e1,e2,e3,ZR,NV X Y (N.get _ _ B),ZU,ZO];have:=hK () E _ ZY (λ_ _=>⟨J,J⟩) (N.putV B _) J;exact this}
  simp_all
 |_=>simp[l,CF]at m
end
section
variable{P:Z3}{tt:Z8 (Nat×TI)}{ops:Array Oper}{Q:Exit->Act->Z6->Prop}{o:Oper}{rest:Z8 Oper}
 {n:Nat} {F:cy} {C:Z8 Nat} {O:Own} {nl:Nat} {V:Vw} {K:Act->Z6->Prop}
end
section
variable{P:Z3}{tt:Z8 (Nat×TI)}{ops:Array Oper}{Q:Exit->Act->Z6->Prop}{o:Oper}{rest:Z8 Oper}{n:Nat}{F:cy}{C:Z8 Nat}{O:Go.Eng.Own}{nl:Nat}{V:Vw}
theorem Hg{c:Code}(h:KJ (c.wp P (Exit.noGoto Q)) n F C O nl V):KJ ((Code.scope c).wp P Q) n F C O nl V:=
 ⟨λE a w hd l d=>wp_scope_straight (h.out E a w hd l d)⟩
theorem EU{l:Nat}(h:KJ (Q .normal) n F C O nl V):KJ ((Code.label l).wp P Q) n F C O nl V:=
 ⟨λE a w hd m d=>wp_label (h.out E a w hd m d)⟩
theorem uC(h:KJ (Q .ret) n F C O nl V):KJ (Exit.noGoto Q .ret) n F C O nl V:=⟨h.out⟩
end
section
variable{P:Z3}{m:Nat}{Q:kJ}{n:Nat}{F:cy}{C:Z8 Nat}{O:Go.Eng.Own}{nl:Nat}{V:Vw}
theorem Mem.reSize{E:Env}{w:Z6}(d:Mem E O nl V w){l k k':Nat}(M:lk O l=some (.size k))(B:k'<=w.heap.size):Mem E ((l,.size k')::O) nl V w:=by
 (have u:∀{q:Nat} {c:Cel},lk ((l,Cel.size k')::O) q=some c->(q=l/\c=.size k')\/(q≠l/\lk O q=some c):=λ{q c} h=>by by_cases e:q=l;{subst e;rw[dF]at h;cases h;exact .inl ⟨J,J⟩};rw[gB _ _ (λx=>e x.symm)]at h;exact .inr ⟨e,h⟩);(have p:∀{q:Nat} {c:Cel},lk ((l,Cel.size k')::O) q=some c->c≠ .size k'->lk O q=some c:=λ{q c} h hc=>by grind);have y:∀{q:Nat} {c:Cel} {b:Nat},lk ((l,Cel.size k')::O) q=some c->blk E q c=some b->lk O q=some c:=λ{q c b} h o=>by (rcases u h with⟨_,e⟩|⟨_,e⟩);{subst e;simp[blk]at o};exact e
 refine⟨λq cs e h=>d.lit _ _ _ (p h sm),λq e sz k xs h=>d.row _ _ _ _ _ (p h sm),λq N c z b h L o t=>d.sep q N c z b (y h o) (y L t) o t,d.get,
  λq c b h o=>d.off q c b (y h o) o,d.os,d.tape,d.output,λq c h=>?_,λq cs e h=>d.labs _ _ _ (p h sm),λq m b h=>d.pin _ _ _ (p h sm),λq j h=>?_,λq m b v h=>d.kp _ _ _ _ (p h sm)⟩
 {(rcases u h with⟨e,_⟩|⟨_,e⟩);{subst e;exact d.lab _ _ M};exact d.lab _ _ e};(rcases u h with⟨_,e⟩|⟨_,e⟩);{cases e;exact B};exact d.big _ _ e
theorem wg{E:Env}{w:Z6}{k:Nat}{d:Obj}(m:w.heap[k]? =some d)(l:∀q c,lk O q=some c->blk E q c=some k->False):(iG E O w).get k=some d:=by
 simp only[iG]
 simp_all
theorem BR{K:Act->Z6->Prop}(ts rs:Z8 Nat){y:Z8 (Nat×SV)}{O1:Go.Eng.Own}(p:nR F ts []=some y)(hs:dT F y)(hr:tC O rs []=some O1)(R:uY nl rs=true) (h:∀E V',V.le V'->(∀l cs e,lk O l=some (.lit cs e)->dh l rs=false->V'.get (E.ρ l)=some (.cells (cs.map (A.den E)).toArray e (0,0)))->(∀q l' b',lk O q=some (.pin l' b')->E.ρ l'=b')->KJ K n (dA (rN E y)) [] (Al E nl rs++O1) (nl+rs.length) V'):KJ K n F C O nl V:=by
 classical
 constructor;intro E a w T hf m;let B:Nat->Prop:=λk=>∃l cs e,lk O l=some (.lit cs e)/\E.ρ l=k/\dh l rs=false;let V':Vw:=⟨λk=>if B k then w.heap[k]? else V.get k,V.os,V.tape,V.output⟩;(have W:V.le V':=by refine⟨λk o p=>?_,J,J,J⟩;show(if _ then _ else _)=_;by_cases t:B k;{rw[ZW t];exact m.get k o p};rw[ZX t];exact p);(have u:∀l cs e,lk O l=some (.lit cs e)->dh l rs=false->V'.get (E.ρ l)=some (.cells (cs.map (A.den E)).toArray e (0,0)):=λl cs e z L=>by show(if _ then _ else _)=_;rw[ZW ⟨l,cs,e,z,J,L⟩];exact m.lit l cs e z);have d:∀l c,lk O1 l=some c->lk O l=some c/\dh l rs=true:=λl c z=>by (rcases DQ rs [] hr l c z with h1|h1);{simp[lk]at h1};exact h1
 have M:Mem E O1 nl V' w:=by
  refine⟨λl cs e h=>m.lit _ _ _ (d _ _ h).1,λl e sz k xs h=>m.row _ _ _ _ _ (d _ _ h).1,λl l' c Y k h Z=>m.sep l l' c Y k (d _ _ h).1 (d _ _ Z).1,λk o p=>?_,λl c k h X=>?_,m.os,m.tape,m.output,
   λl c h=>m.lab _ _ (d _ _ h).1,λl cs e h=>m.labs _ _ _ (d _ _ h).1,λl q b h=>m.pin _ _ _ (d _ _ h).1,λl k h=>m.big _ _ (d _ _ h).1,λl q b v h=>m.kp _ _ _ _ (d _ _ h).1⟩
  {change (if _ then _ else _)=_ at p;by_cases t:B k;{rw[ZW t]at p;exact p};rw[ZX t]at p;exact m.get k o p};show(if _ then _ else _)=_;rw[ZX,m.off l c k (d _ _ h).1 X];rintro⟨l',cs,e,N,he,L⟩;have:=m.sep l l' c _ k (d _ _ h).1 N X (by simp[blk,he]);subst this;rw[(d _ _ h).2]at L;cases L
 exact(h E V' W u (λq l' b' t=>(m.pin _ _ _ t).1)).out E a w T ((hf.plain hs.plain).pl y)<|M.addKeepL rs<|DM R
def RC{α σ τ:Type}(nl:Nat)(Vf:Vw)(sz:Nat)(Ox:σ->Go.Eng.Own)(Inv:Z8 α->σ->Prop)(Oy:τ->Go.Eng.Own)(InvX:Z8 α->τ->Prop)(jx:Code)(pre:Z8 α):kJ:=λ_ e _ w=>
 match e with
 |.normal=>∃s E,Inv pre s/\Mem E ((nl,.size sz)::Ox s) (nl+1) Vf w
 |.ret=>jx=.ret/\ ∃y E,InvX pre y/\Mem E ((nl,.size sz)::Oy y) (nl+1) Vf w
 |.exit id=>jx=.exit id/\ ∃y E,InvX pre y/\Mem E ((nl,.size sz)::Oy y) (nl+1) Vf w
 |_=>False
theorem Cw{α σ τ:Type}{ds:Z8 Deferred}{t:Vw}{d sz:Nat}{Ox:σ->Go.Eng.Own}{l:Z8 α->σ->Prop}{z:τ->Go.Eng.Own}{o:Z8 α->τ->Prop}{B:Code}{m:Z8 α}(s:σ)
  (y:l m s) (hO:dm O ((d,.size sz)::Ox s)) (p:eA (d+1) ((d,.size sz)::Ox s)=true) (hV:t.le V):KJ (RC d t sz Ox l z o B m ds .normal) n F C O nl V:=
 ⟨λE a w hd L u=>⟨s,E,y,u.weak hO p hV⟩⟩
theorem XS{α σ τ:Type}{ds:Z8 Deferred}{u:Vw}{d sz:Nat}{Ox:σ->Go.Eng.Own}{p:Z8 α->σ->Prop}{t:τ->Go.Eng.Own}{l:Z8 α->τ->Prop}{m:Z8 α}(y:τ)
  (B:l m y) (hO:dm O ((d,.size sz)::t y)) (o:eA (d+1) ((d,.size sz)::t y)=true) (hV:u.le V):KJ (RC d u sz Ox p t l .ret m ds .ret) n F C O nl V:=
 ⟨λE a w hd L z=>⟨J,y,E,B,z.weak hO o hV⟩⟩
def Lr{α:Type}(m:Nat)(P:Z3)(g:Nat)(lb:Array Z7)(encs:α->Array Z7)(V:Vw)(S Sp:Z8 α->Prop)(N:Nat)(w:Z6):Prop:=
 ∀(l:Nat) (J9q:(Nat->Prop)->Z8 α->Z6->Prop) (Jx:Z8 α->Z6->Prop) (W:Z6),cH w W->
  (∀R pre A B row,J9q R pre A->A.grownBy B row->(∀r,row=some r->W.heap.size<=r/\ ∃o:Obj,A.heap[r]? =some o/\o.isWalk=true)->J9q (λk=>R k\/(A.heap.size<=k/\k<B.heap.size)) pre B)->
  (∀R R' pre A,J9q R pre A->(∀k,R' k->R k)->J9q R' pre A)->AbidesFrom W.heap.size Jx->
  (∀R pre x W1,J9q R pre W1->pre.length<N->YieldAt (Rd none) (m - 1) P l (encs x) W1 λe W'=>
   (e=.returned (.bool true)/\J9q R (pre++[x]) W'/\(V.le (vw W1)->V.le (vw W'))/\ ∀k o,R k->W1.heap[k]? =some o->W'.heap[k]? =some o)\/(e=.returned (.bool false)/\Jx (pre++[x]) W'))->
  J9q (λ_=>False) [] W->
  CallsIn (Rd none) m P g (#[.func (.yield l) #[] #[]]++lb) W λe W'=>(∃v,e=.returned v)/\((∃xs,S xs/\ ∃R,J9q R xs W')\/(∃pre,Sp pre/\Jx pre W'))
def RA(P:Z3)(l m:Nat)(body:Code)(V Vf:Vw)(nl sz:Nat)(QB:Vw->Nat->kJ):kJ:=λds e a w=>
 ds=[]/\e=.normal/\ ∃E n F C O nl' V',Frm E n F C nl' a.tmps/\Mem E O nl' V' w/\lk O nl=some (.size sz)/\Vf.le V'/\
  ∀Vg k,V.le Vg->KJ (RX P (some l) m [] body (QB Vg k)) n F C ((nl,.size k)::O) nl' Vg
theorem AX{l:Nat}{body:Code}{V0 p:Vw}{d sz:Nat}{o:Vw->Nat->kJ}(y:lk O d=some (.size sz))(hV:p.le V)
  (h:∀Vg k,V0.le Vg->KJ (RX P (some l) m [] body (o Vg k)) n F C ((d,.size k)::O) nl Vg):KJ (RA P l m body V0 p d sz o [] .normal) n F C O nl V:=
 ⟨λE a w hd u t=>⟨J,J,E,n,F,C,O,nl,V,u,t,y,hV,h⟩⟩
theorem Vi{α σ τ:Type}{g:Operand}{p:Nat}{aE body:Code}{gf:Nat}{lb:Array Z7}(bO:1<=m)
  (hg:cV F [] g=some (.a (.v (.func (.func gf) #[] lb)))) (bH:eJ P gf) (enc:α->Z7) (S Sp:Z8 α->Prop) (N:Nat) (Fl:Z8 (Nat×SV)) (Ox:σ->Go.Eng.Own) (ax:Z8 α->σ->Prop) (Oy:τ->Go.Eng.Own) (ap:Z8 α->τ->Prop) (jx:Code) (s0:σ)
  (hs:dT F Fl) (bp:iO 0 Fl=true) (h0:ax [] s0) (hO:dm O (Ox s0)) (aQ:∀s,eA nl (Ox s)=true) (b8:∀y,eA nl (Oy y)=true) (hp:Nat.blt p n=true)
  (bc:∀w,V.le (vw w)->Lr (m - 1) P gf lb (λx=> #[enc x]) V S Sp N w)
  (aP:∀l pre x s Vf sz,ax pre s->pre.length<N->V.le Vf->
   KJ (RX P (some l) (m - 1 - 1) [] aE (RA P l (m - 1 - 1) body V Vf nl sz λVg k=>RC nl Vg k Ox ax Oy ap jx (pre++[x]))) n (dA ((p,.a (.v (enc x)))::Fl)) [] ((nl,.size sz)::Ox s) (nl+1) Vf)
  (aZ:∀D V' s xs,S xs->ax xs s->V.le V'->V'.get D=some (.deferred (some []))->V.le (V'.del D)->KJ (Q (sd D) .normal) n (dA Fl) [] (Ox s) nl V')
  (b6:∀D V' y pre,Sp pre->ap pre y->V.le V'->V'.get D=some (.deferred (some []))->V.le (V'.del D)->KJ (RX P none m (sd D) jx Q) n (dA Fl) [] (Oy y) nl V'):
  KJ (RX P none m [] (Code.rangeFunc g #[p] aE body) Q) n F C O nl V:=by
 constructor
 intro E a w az hf hm
 have bn:p<n:=by simpa using hp
 have b4:Frm E n (dA Fl) [] 0 a.tmps:=hf.weak hs bp
 have b1:∀L,Frm L n (dA Fl) [] nl a.tmps:=λL=>Frm.env (nl:=0) (λl hl=>om) (Zz _) b4
 have bm:∀k o,V.get k=some o->k<w.heap.size:=λk o u=>(Array.getElem?_eq_some_iff.1 (hm.get k o u)).1
 have aR:∀k,w.heap.size<=k->V.get k=none:=λk u=>by
  cases hv:V.get k with
  |none=>rfl
  |some o=>have:=bm k o hv;omega
 have ah:∀{O':Go.Eng.Own} {q:Nat} {V2:Vw} {L:Env} {W W':Z6} {row:Z4 Nat},Mem L O' q V2 W->W.grownBy W' row->(∀r,row=some r->V2.get r=none/\ ∃o:Obj,W.heap[r]? =some o/\o.isCells=false)->Mem L O' q V2 W':=λX hG hR=>X.abides hG hR
 have be:a.eval g=.func (.func gf) #[] lb:=(cZ hf (p:=[]) J hg).1
 have aw:∀{O':Go.Eng.Own} {L:Env} {W:Z6} {D:Nat},Mem L O' nl V W->w.heap.size<=D->W.heap[D]? =some (.deferred (some []))->
   ∃V',Mem L O' nl V' W/\V.le V'/\V'.get D=some (.deferred (some []))/\V.le (V'.del D):=λ{O' L W D} X hD hW=>by
  have b5:=aR D hD
  refine⟨V.put D (.deferred (some [])),⟨X.lit,X.row,X.sep,λk o u=>?_,λl c k h hb=>?_,X.os,X.tape,X.output,X.lab,X.labs,X.pin,X.big,X.kp⟩,⟨λk o u=>?_,J,J,J⟩,by simp[Vw.put],⟨λk o u=>?_,J,J,J⟩⟩
  ·
   simp only[Vw.put]at u
   split at u
   . rename_i he;subst he;cases u;exact hW
   . exact X.get k o u
  ·
   simp only[Vw.put]
   split
   ·
    rename_i he
    subst he
    obtain⟨o,ho,hc⟩:=X.own_cells h hb
    rw[hW]at ho;cases ho;cases hc
   . exact X.off l c k h hb
  ·
   simp only[Vw.put]
   split
   . rename_i he;subst he;rw[b5]at u;cases u
   . exact u
  ·
   simp only[Vw.put,Vw.del]
   split
   . rename_i he;subst he;rw[b5]at u;cases u
   . exact u
 unfold RX
 rw[show({a with defers:=[]}:Act)=a by obtain⟨t,dd⟩:=a;cases az;rfl]
 refine wpIn_rangeFunc λfn b3=>?_
 -- the loop's record, by its state
 obtain⟨R,hR⟩:∃R:LoopState->Z4 Code->Loop,R=λst pe=>{state:=st,pending:=pe,fn,tmps:=a.tmps,params:= #[p],assign:=aE,body,defers:=w.heap.size}:=⟨_,J⟩
 obtain⟨D,hD⟩:∃D,D=w.heap.size:=⟨_,J⟩
 obtain⟨W0,ai⟩:∃W0,W0=(w.alloc (.deferred (some []))).alloc (.loop (R .ready none)):=⟨_,J⟩
 have c0:W0.heap.size=w.heap.size+2:=by rw[ai];simp
 have bu:W0.heap[D+1]? =some (.loop (R .ready none)):=by
  rw[ai,hD]
  have:=World.alloc_heap_new (w.alloc (.deferred (some []))) (.loop (R .ready none))
  rwa [World.size_alloc]at this
 have bE:W0.heap[D]? =some (.deferred (some [])):=by
  rw[ai,hD]
  exact(Below.heap_alloc _ _ _ sm).trans<|World.alloc_heap_new w _
 have bx:Mem E (Ox s0) nl V W0:=by
  have Y:=hm.weak hO (aQ s0) (Vw.le.refl V)
  have h2:=ah Y (World.grownBy_alloc w (.deferred (some [])) none) (λr e=>by cases e)
  rw[ai]
  exact ah h2 (World.grownBy_alloc _ (.loop (R .ready none)) none) λr e=>by cases e
 have bF:cH w W0:=by
  rw[ai]
  exact((Below.refl _ w).alloc (ZS _) _).alloc sm _
 have bo:V.get (D+1)=none:=aR _ om
 refine⟨D+1,[{target:=.collected D,args:= #[]}],W0,{target:=.fn (.func gf) lb,args:= #[.func (.yield (D+1)) #[] #[]]},W0,gf, #[.func (.yield (D+1)) #[] #[]]++lb,W0,?_,?_,?_,?_,λ_=>bO,?_⟩
 . rw[ai,hR,hD];exact run_enterLoop_outer _ _ _ _ _
 ·
  simp only[resolve,be]
  simp[go_sem]
 ·
  intro f' bY
  trivial
 . simp[invoke,go_sem,Lb bH]
 -- the iterator's promise
 have a6:∀{W:Z6} {r:Loop} (ob:Obj),W.heap[D+1]? =some (.loop r)-> ∀{q:Nat} {L:Env} {O':Go.Eng.Own},Mem L O' q V W->Mem L O' q V (W.putObj (D+1) ob):=λ{W r} ob hl {q L O'} X=>
  ah X (grownBy_putObj' W (D+1) ob) (λk e=>by cases e;exact⟨bo,_,hl,J⟩)
 have T:∀{W:Z6} (ob:Obj),W.heap[D]? =some (.deferred (some []))->(W.putObj (D+1) ob).heap[D]? =some (.deferred (some [])):=λob h=>(World.putObj_heap_other om).trans h
 have a9:∀{W:Z6} {r:Loop} (ob:Obj),W.heap[D+1]? =some (.loop r)->(W.putObj (D+1) ob).heap[D+1]? =some ob:=λob h=>World.putObj_heap_same (Array.getElem?_eq_some_iff.1 h).1
 have ay:∀{O':Go.Eng.Own} {L:Env} {A B:Z6} {row:Z4 Nat},Mem L O' nl V A->A.grownBy B row->(∀r,row=some r->W0.heap.size<=r/\ ∃o:Obj,A.heap[r]? =some o/\o.isWalk=true)->Mem L O' nl V B:=λX hG hr=>
  ah X hG (λr e=>⟨aR _ (by have:=(hr r e).1;omega),by obtain⟨_,o,ho,hw⟩:=hr r e;exact⟨o,ho,Obj.not_cells_of_walk hw⟩⟩)
 refine(bc w hm.leV (D+1)
  (λZ pre W=>((∀k,Z k->D+2<=k/\k<W.heap.size)/\ ∃s L,ax pre s/\Mem L (Ox s) nl V W/\ ∀q c k,lk (Ox s) q=some c->blk L q c=some k-> ¬Z k)/\W.heap[D+1]? =some (.loop (R .ready none))/\W.heap[D]? =some (.deferred (some [])))
  (λpre W=>(∃y L,ap pre y/\Mem L (Oy y) nl V W)/\W.heap[D+1]? =some (.loop (R .done (some jx)))/\W.heap[D]? =some (.deferred (some [])))
  W0 bF
  (λZ pre A B row ar ac hr=>by
   obtain⟨⟨hz,s,L,Y,h2,aS⟩,h3,h4⟩:=ar
   have bZ:D+1<A.heap.size:=(Array.getElem?_eq_some_iff.1 h3).1
   have cc:=ac.size
   refine⟨⟨λk u=>?_,s,L,Y,ay h2 ac hr,λq c k hq hb u=>?_⟩,(grownBy_keeps ac (λr e=>(hr r e).2) h3 J).trans h3,(grownBy_keeps ac (λr e=>(hr r e).2) h4 J).trans h4⟩
   ·
    rcases u with u|u
    . have:=hz k u;omega
    . omega
   ·
    rcases u with u|u
    . exact aS q c k hq hb u
    . have:=h2.lt hq hb;omega)
  (λZ Z' pre A ar aL=>by
   obtain⟨⟨hz,s,L,Y,h2,aS⟩,h3⟩:=ar
   exact⟨⟨λk u=>hz k (aL k u),s,L,Y,h2,λq c k hq hb u=>aS q c k hq hb (aL k u)⟩,h3⟩)
  (λpre A B row ar ac hr=>by
   obtain⟨⟨s,L,Y,h2⟩,h3,h4⟩:=ar
   exact⟨⟨s,L,Y,ay h2 ac hr⟩,(grownBy_keeps ac (λr e=>(hr r e).2) h3 J).trans h3,(grownBy_keeps ac (λr e=>(hr r e).2) h4 J).trans h4⟩)
  ?_ ⟨⟨λk u=>u.elim,s0,E,h0,bx,λq c k hq hb u=>u⟩,bu,bE⟩).mono ?_
 ·
  rintro Z pre x W ⟨⟨hZ,s,L,hI,X,b9⟩,hl,u⟩ hlen
  have hy:=run_yield (P:=P) (args:= #[enc x]) hl (by rw[hR];rfl)
  rw[hR]at hy
  refine⟨fn,_,aE,body,hy,roundIn_of_wpIn b3 ?_⟩
  obtain⟨bs,aW⟩:=X.full
  have bK:Frm L n (dA ((p,.a (.v (enc x)))::Fl)) [] (nl+1) (a.tmps.setIfInBounds p (enc x)):=by
   have Y:Frm L n (dA Fl) [] (nl+1) a.tmps:=Frm.env (nl:=0) (λl hl=>om) (Zz _) b4
   have h2:=Frm.put (a:=a) (d:=p) (p:=[]) (g:=true) (s:=.a (.v (enc x))) Y bn J J (λq hq=>by cases hq) (λ_=>rfl)
   simp only[Yf,SV.den,A.den]at h2
   exact h2
  have hb:=aP (D+1) pre x s (iG L (Ox s) W) W.heap.size hI hlen aW
  have bI:((#[p].zip #[enc x]).foldl (λtmps (t,v)=>tmps.setIfInBounds t v) a.tmps)=a.tmps.setIfInBounds p (enc x):=by simp
  rw[bI]
  refine wpIn_mono (hb.out L {tmps:=a.tmps.setIfInBounds p (enc x),defers:=[]} W J bK bs.addSize) ?_
  rintro e a1 Wa ⟨bC,he,E2,n2,F2,C2,O2,bS,V2,bA,M,aK,am,bN⟩
  subst he
  have ae:KeepsOthers W Wa:=⟨M.big nl _ aK,λk o u hc=>X.full_rest (am.trans M.leV) u hc⟩
  have aO:=ae.same _ _ hl J
  have bL:=ae.same _ _ u J
  have ab:=aW.trans am
  have b0:∀q c k,lk O2 q=some c->blk E2 q c=some k->V.get k=none:=λq c k h hb=>by
   cases hv:V.get k with
   |none=>rfl
   |some o=>
    have Y:=ab.get _ _ hv
    rw[M.off q c k h hb]at Y
    cases Y
  have aD:∀k o,Z k->W.heap[k]? =some o->(iG L (Ox s) W).get k=some o:=λk o hz u=>wg u (λq c hq hb=>b9 q c k hq hb hz)
  have bM:Mem E2 O2 bS V Wa:=⟨M.lit,M.row,M.sep,(ab.trans M.leV).get,b0,M.os.trans ab.os,M.tape.trans ab.tape,M.output.trans ab.output,M.lab,M.labs,M.pin,M.big,M.kp⟩
  refine⟨_,run_beginRound aO (by rw[hR]),?_⟩
  have aN:=a6 (.loop {R .ready none with state:=.busy}) aO bM
  obtain⟨bq,b2⟩:=aN.full
  have bB:=bq.reSize aK (k':=(Wa.putObj (D+1) (.loop {R .ready none with state:=.busy})).heap.size) (ZS _)
  have bD:=a9 (.loop {R .ready none with state:=.busy}) aO
  have bQ:=T (.loop {R .ready none with state:=.busy}) bL
  have ao:=(bN _ ((Wa.putObj (D+1) (.loop {R .ready none with state:=.busy})).heap.size) b2).out E2 {a1 with defers:=[]} _ J bA bB
  have bk:({a1 with defers:=[]}:Act)=a1:=by obtain⟨t,dd⟩:=a1;cases bC;rfl
  unfold RX at ao
  rw[bk]at ao
  refine wpIn_mono ao ?_
  have an:V.le (iG E2 O2 (Wa.putObj (D+1) (.loop {R .ready none with state:=.busy}))):=b2
  have kp:∀{W3:Z6} {q:Nat} {E3:Env} {O3:Go.Eng.Own},Mem E3 O3 q (iG E2 O2 (Wa.putObj (D+1) (.loop {R .ready none with state:=.busy}))) W3->
    W3.heap[D+1]? =some (.loop {R .ready none with state:=.busy})/\W3.heap[D]? =some (.deferred (some [])):=λz=>⟨aN.full_rest z.leV bD J,aN.full_rest z.leV bQ J⟩
  have kz:∀k o,Z k->W.heap[k]? =some o->(iG E2 O2 (Wa.putObj (D+1) (.loop {R .ready none with state:=.busy}))).get k=some o:=λk o hz aT=>by
   have bl:k≠D+1:=by have:=hZ k hz;omega
   have Y:=am.get _ _ (aD k o hz aT)
   refine wg ((World.putObj_heap_other om).trans (M.get _ _ Y)) λq c hq hb=>?_
   rw[M.off q c k hq hb]at Y
   cases Y
  have aa:∀{W3:Z6} {E3:Env} {O3:Go.Eng.Own} {q:Nat},Mem E3 O3 q (iG E2 O2 (Wa.putObj (D+1) (.loop {R .ready none with state:=.busy}))) W3->Mem E3 O3 q V W3:=λz=>
   ⟨z.lit,z.row,z.sep,(an.trans z.leV).get,λq c k h hb=>(by
    cases hv:V.get k with
    |none=>rfl
    |some o=>
     have Y:=an.get _ _ hv
     rw[z.off q c k h hb]at Y
     cases Y),z.os.trans an.os,z.tape.trans an.tape,z.output.trans an.output,z.lab,z.labs,z.pin,z.big,z.kp⟩
  intro e a3 W3 hq
  cases e with
  |normal=>
   obtain⟨s',E3,aq,a0⟩:=hq
   obtain⟨a5,au⟩:=kp a0
   have bW:W.heap.size<=W3.heap.size:=ZC ae.size (ZC (by simp[World.putObj]) (a0.big nl _ (dF _ _ _)))
   refine⟨_,_,run_endRound none a5,.inl ⟨J,⟨⟨λk hz=>?_,s',E3,aq,a6 _ a5 ((aa a0).drop (aQ s')),λq c k hq hb hz=>?_⟩,?_,T _ au⟩,λ_=>(a6 _ a5 (aa a0)).leV,λk o hz aT=>?_⟩⟩
   ·
    have:=hZ k hz
    simp only[World.putObj,P_]
    omega
   ·
    have bw:=(hZ k hz).2
    have Y:=kz k _ hz (Array.getElem?_eq_getElem bw)
    have bG:lk ((nl,Cel.size (Wa.putObj (D+1) (.loop {R .ready none with state:=.busy})).heap.size)::Ox s') q=some c:=by
     rw[gB _ _ (λe=>by have:=(mr (aQ s') hq).1;omega)];exact hq
    rw[a0.off q c k bG hb]at Y
    cases Y
   ·
    rw[a9 _ a5,hR]
    rfl
   ·
    have bl:k≠D+1:=by have:=hZ k hz;omega
    exact(World.putObj_heap_other om).trans<|a0.get _ _<|kz k o hz aT
  |ret=>
   obtain⟨hj,y,E3,aq,a0⟩:=hq
   obtain⟨a5,au⟩:=kp a0
   refine⟨_,_,run_endRound (some .ret) a5,.inr ⟨J,⟨⟨y,E3,aq,a6 _ a5 ((aa a0).drop (b8 y))⟩,?_,T _ au⟩⟩⟩
   rw[a9 _ a5,hR,hj]
   rfl
  |exit id=>
   obtain⟨hj,y,E3,aq,a0⟩:=hq
   obtain⟨a5,au⟩:=kp a0
   refine⟨_,_,run_endRound (some (.exit id)) a5,.inr ⟨J,⟨⟨y,E3,aq,a6 _ a5 ((aa a0).drop (b8 y))⟩,?_,T _ au⟩⟩⟩
   rw[a9 _ a5,hR,hj]
   rfl
  |goto _=>exact hq.elim
  |panic _=>exact hq.elim
  |outgrown=>exact hq.elim
 ·
  rintro e W2 ⟨⟨v,rfl⟩,⟨xs,hS,Z,⟨hZ,s,L,hI,X,b9⟩,hl,u⟩|⟨pre,bP,⟨y,L,hI,X⟩,hl,u⟩⟩
  ·
   refine⟨none,_,by have:=run_endLoop (P:=P) hl (by rw[hR];simp);rw[hR]at this;exact this,?_⟩
   obtain⟨V',z,Y,h2,h3⟩:=aw (D:=D) (a6 (.loop {R .ready none with state:=.exhausted}) hl X) om (T _ u)
   have:=(aZ D V' s xs hS hI Y h2 h3).out L a _ az (b1 L) z
   rw[hR]at this
   obtain⟨t,dd⟩:=a
   cases az
   exact this
  ·
   refine⟨some jx,_,by have:=run_endLoop (P:=P) hl (by rw[hR];simp);rw[hR]at this;exact this,?_⟩
   obtain⟨V',z,Y,h2,h3⟩:=aw (D:=D) (a6 (.loop {R .done (some jx)with state:=.exhausted}) hl X) om (T _ u)
   have:=(b6 D V' y pre bP hI Y h2 h3).out L a _ az (b1 L) z
   rw[hR]at this
   obtain⟨t,dd⟩:=a
   cases az
   exact this
end
section
variable{P:Z3}{tt:Z8 (Nat×TI)}{o:Oper}{n:Nat}{F:cy}{C:Z8 Nat}{O:Go.Eng.Own}{nl:Nat}{V:Vw}
abbrev kQ(b m:Nat)(seen:Array Nat)(c:Nat):Obj:=.mapIter (some b) m seen c
def Dj(F:cy)(p:Z8 (Nat×Bool)):Op->Z4 (Nat×Nat)
 |.range t x=>match cV F p x with
  |some (.a (.v (.map (some b))))=>some (t,b)
  |_=>none
 |_=>none
theorem LY{p:Z8 (Nat×Bool)}{t R Y b:Nat}(d:Z8 (Int×Z7))(m:Dj F p o.op=some (t,b))(M:P.underlying t=some (.map R Y))(N:V.get b=some (ew d)): StepTo P o p n F C O nl V (σ:=Nat) (λr=>V.get r=none) (λr=>.a (.v (.pointer (some ⟨r,0,none⟩)))) (λ_=>O) nl (λr=>V.put r (kQ b d.length #[] d.length)):=by
 constructor;intro E a w Z B y K Q X;unfold Oper.wp execOp;cases l:o.op with
 |range t' x=>
  simp only[l,Dj]at m;split at m
  .rename_i u hx;simp only[Z0,ZN]at m;obtain⟨rfl,rfl⟩:=m;obtain⟨W,_⟩:=cZ Z B hx;have e1:a.eval x=.map (some u):=W
   have z:V.get w.heap.size=none:=by
    cases T:V.get w.heap.size with
    |none=>rfl
    |some ob=>have:=(Array.getElem?_eq_some_iff.1 (y.get _ _ T)).1;omega
   (have L:(getObj u).run P w=.ok (ew d) w:=by simp[getObj,Sem.run,y.get _ _ N,ew]);simp only[ew]at L;(have hr:(Instr.range t' (.map (some u))).run P w=.ok (.pointer (some ⟨w.heap.size,0,none⟩)) (w.alloc (kQ u d.length #[] d.length)):=by unfold Instr.range;simp only[ZR,run_underlying M,ZU,L,ZO,run_newObj_alloc,Result.andThen]);simp only[e1,ZR,hr,ZU,ZO];exact X w.heap.size E _ z (λ_ _=>⟨J,J⟩) (y.ext (mh w _) (y.vext _)) J
  simp_all
 |_=>simp[l,Dj]at m
theorem Au:∀(es:Z8 (Int×Z7)) (m j:Nat) (e:MapEntry),(eT es m)[j]? =some e↔ ∃k v,es[j]? =some (k,v)/\e=⟨.int .i64 k,v,m+j⟩
 |[],m,j,e=>by simp[eT]
 |(k,v)::r,m,0,e=>by
  simp only[eT,List.getElem?_cons_zero,Z0]
  constructor
  . intro h;exact⟨k,v,J,h.symm⟩
  . rintro⟨k',v',h,rfl⟩;cases h;rfl
 |(k,v)::r,m,j+1,e=>by
  simp only[eT,List.getElem?_cons_succ]
  rw[Au r (m+1) j e]
  constructor
  . rintro⟨k',v',h,rfl⟩;exact⟨k',v',h,by congr 1;omega⟩
  . rintro⟨k',v',h,rfl⟩;exact⟨k',v',h,by congr 1;omega⟩
theorem JB{d:Z8 (Int×Z7)}{e:MapEntry}(h:e∈eT d 0):∃i k v,d[i]? =some (k,v)/\e=⟨.int .i64 k,v,i⟩:=by
 obtain⟨i,hi⟩:=List.getElem?_of_mem h;obtain⟨k,v,m,l⟩:=(Au d 0 i e).1 hi
 grind
def yP(F:cy)(p:Z8 (Nat×Bool)):Op->Z4 Nat
 |.next x false=>match cV F p x with
  |some (.a (.v (.pointer (some ⟨r,0,none⟩))))=>some r
  |_=>none
 |_=>none
theorem R6{p:Z8 (Nat×Bool)}{r b:Nat}{seen:Array Nat}{c:Nat}(d:Z8 (Int×Z7))(L:yP F p o.op=some r)(hr:V.get r=some (kQ b d.length seen c))(hc:d.length<=c)(hb:V.get b=some (ew d)): StepTo P o p n F C O nl V (σ:=Z4 (Nat×Int×Z7)) (λq=>match q with|none=>∀i,i<d.length->i∈seen|some (i,k,v)=>d[i]? =some (k,v)/\ ¬i∈seen) (λq=>match q with|none=>.tup [.v (.bool false)]|some (i,k,v)=>.tup [.v (.bool true),.v (.int .i64 k),.v v]) (λ_=>O) nl (λq=>match q with|none=>V|some (i,k,v)=>V.put r (kQ b d.length (seen.push i) d.length)):=by
 constructor;intro E a w hf T l K Q hK;unfold Oper.wp execOp;cases z:o.op with
 |next x st=>
  cases st with
  |true=>simp[z,yP]at L
  |false=>
  simp only[z,yP]at L;split at L;{rename_i M Z;simp only[Z0]at L;subst L;obtain⟨h1,_⟩:=cZ hf T Z;have e1:a.eval x=.pointer (some ⟨M,0,none⟩):=h1;have a0:=l.get _ _ hr;have W:=l.get _ _ hb;(have B:∀x∈(eT d 0).toArray.toList,x.born<d.length:=λx Z=>by obtain⟨i,k,v,h,rfl⟩:=JB (by simpa using Z);exact(List.getElem?_eq_some_iff.1 h).1);(rcases run_next_at w 0 M b d.length c seen (eT d 0).toArray d.length a0 W B hc with⟨h0,u⟩|⟨e,N,R,Y,u⟩);{have m:(Instr.next (.pointer (some ⟨M,0,none⟩)) false o.type).run P w=.ok (.tuple #[.bool false]) w:=u;simp only[e1,ZR,m,ZU,ZO];refine hK none E w ?_ (λ_ _=>⟨J,J⟩) l J;intro i hi;(have t:(⟨.int .i64 (d[i]).1,(d[i]).2,i⟩:MapEntry)∈(eT d 0).toArray:=by have:=(Au d 0 i ⟨.int .i64 (d[i]).1,(d[i]).2,i⟩).2 ⟨(d[i]).1,(d[i]).2,by rw[List.getElem?_eq_getElem hi],sm⟩;simpa using ZZ this);have y:=Array.eq_empty_of_size_eq_zero h0;unfold leftOf at y;rw[Array.filter_eq_empty_iff]at y;have:=y _ t;simpa using this};have m:(Instr.next (.pointer (some ⟨M,0,none⟩)) false o.type).run P w=.ok (.tuple #[.bool true,e.key,e.val]) {R with heap:=R.heap.setIfInBounds M (.mapIter (some b) d.length (seen.push e.born) d.length)}:=u;simp only[e1,ZR,m,ZU,ZO];(have t:e∈eT d 0/\ ¬e.born∈seen:=by unfold leftOf at N;simp at N;exact⟨N.1,by simpa using N.2⟩);obtain⟨i,k,v,h,rfl⟩:=JB t.1;(have X:Mem E O nl V R:=by (rcases Y with rfl|rfl);{exact l};exact⟨l.lit,l.row,l.sep,l.get,l.off,l.os,l.tape,l.output,l.lab,l.labs,l.pin,l.big,l.kp⟩);exact hK (some (i,k,v)) E _ ⟨h,t.2⟩ (λ_ _=>⟨J,J⟩) (X.putV hr _) J};simp at L
 |_=>simp[z,yP]at L
def Dz(F:cy)(p:Z8 (Nat×Bool)):Op->Z4 Nat
 |.entry x=>match cV F p x with
  |some (.a (.v (.pointer (some ⟨r,0,none⟩))))=>some r
  |_=>none
 |_=>none
theorem Mc{p:Z8 (Nat×Bool)}{g:Bool}{r b i c:Nat}{seen:Array Nat}{k:Int}{v:Z7}(d:Z8 (Int×Z7))(z:Dz F p o.op=some r)(X:g=true->V.get r=some (kQ b c (seen.push i) d.length))(R:g=true->V.get b=some (ew d))(hi:g=true->d[i]? =some (k,v)): dY P o n F C O nl V p g (.tup [.v (.int .i64 k),.v v]):=by
 intro l E a w W L N;refine⟨?_,J⟩;unfold Yv execOp;cases u:o.op with
 |entry x=>
  simp only[u,Dz]at z;split at z
  .rename_i M Y;simp only[Z0]at z;subst z;obtain⟨T,_⟩:=cZ W L Y;have Z:a.eval x=.pointer (some ⟨M,0,none⟩):=T;have y:(⟨.int .i64 k,v,i⟩:MapEntry)∈(eT d 0).toArray.toList:=by have:=(Au d 0 i ⟨.int .i64 k,v,i⟩).2 ⟨k,v,hi l,sm⟩;simpa using ZZ this
   have B:((eT d 0).toArray.toList.map (·.born)).Nodup:=by
    have key:∀(d:Z8 (Int×Z7)) (m:Nat),(eT d m).map (·.born)=List.range' m d.length:=by
     intro d
     induction d with
     |nil=>intro m;rfl
     |cons x t ih=>intro m;obtain⟨a,b⟩:=x;simp[eT,ih,List.range'_succ]
    rw[show(eT d 0).toArray.toList=eT d 0 by simp,key];exact List.nodup_range'
   have:=run_entry_at (P:=P) w M b c seen (eT d 0).toArray d.length ⟨.int .i64 k,v,i⟩ (N.get _ _ (X l)) (N.get _ _ (R l)) y B;simp only[Z,ZR,this,ZU,ZO];rfl
  simp_all
 |_=>simp[u,Dz]at z
end
section
variable{P:Z3}{ops:Array Oper}{ro:Z4 Nat}{m:Nat}{Q:kJ}{ds:Z8 Deferred}{n:Nat}{F:cy}{nl:Nat}{V:Vw}
theorem TN{Q0:Exit->Act->Z6->Prop}{C:Z8 Nat}{O:Go.Eng.Own}(h:KJ (Q0 .normal) n F C O nl V):KJ (wpList P ops Q0 []) n F C O nl V:=⟨h.out⟩
theorem RG{K:Act->Z6->Prop}{C:Z8 Nat}{O:Go.Eng.Own}(h:KJ K n F C [] nl V):KJ K n F C O nl V:=
 ⟨λE a w d m l=>h.out E a w d m ((jh E nl w).weak dm.nil J l.leV)⟩
theorem PF{l2:Z8 Oper}{oy:Oper}{d N:Nat}{ss:Z8 SV}{p:Z8 (Nat×Bool)}{C R:Z8 Nat}{g:Bool}(Ψ:Bool->Vw->Prop)(hg:gd ops F C oy.guard=some (p,g,R))(W:g=true)(hd:oy.dst=some d)(hc:(Nat.blt d n&& !(dh d R))=true) (t:kL F p oy.op=some (.func (.yield N) #[] #[],ss)) (hY:∀E w,V.le (vw w)->YieldAt (Rd ro) (m - 1) P N (ss.map (SV.den E)).toArray w (λe w'=>∃b V',e=.returned (.bool b)/\V'.le (vw w')/\Ψ b V')) (M:∀b V',Ψ b V'->KJ (λa w=>wpListIn (Rd ro) m P ops (QH Q) l2 (Act.more a ds) w) n ((d,⟨p,true,.a (.v (.bool b))⟩)::F) R [] nl V'): KJ (λa w=>wpListIn (Rd ro) m P ops (QH Q) (oy::l2) (Act.more a ds) w) n F C [] nl V:=by
 subst W;constructor;intro E a w a5 hf hm;obtain⟨g1,g2,g3,g4⟩:=gz hf hg;simp at hc;unfold wpListIn;have hw:Region.wanted oy (yielded ops (Act.more a ds).tmps)=true:=g1;rw[ZW hw];obtain⟨fn,B,o,body,hy,hR⟩:=hY E w hm.leV;refine⟨λ_ _=>trivial,?_⟩;(have a0:∀c,oy.op≠ .defer c:=λc Y=>by simp[Y,kL]at t);rw[Act.more_eval,Oper.semAt_eq _ _ _ a0]
 have L:(execOp a.eval oy).run P w=.ok (.round N fn B o body) w:=by
  unfold execOp;cases u:oy.op with
  |call c=>
   obtain⟨l,z,ts⟩:=c;cases l with
   |value x=>simp only[u,kL]at t;split at t;{rename_i am X hx ha;simp at t;obtain⟨rfl,rfl⟩:=t;obtain⟨h1,_⟩:=vp g2 g3.symm ha;obtain⟨h3,_⟩:=cZ g2 g3.symm hx;(have y:z.map a.eval=(X.map (SV.den E)).toArray:=by grind);have O:a.eval x=.func (.yield N) #[] #[]:=h3;simp only[resolve,O,Deferred.ofValue,ZR,ZO,ZU,invoke,y,J'];exact hy};simp at t
   |_=>simp[u,kL]at t
  |_=>simp[u,kL]at t
 rw[L];refine⟨λhd=>(by simp[Rd,Fence.wide]at hd),hR.mono ?_⟩;rintro e w' ⟨b,V',rfl,Z,hΨ⟩;show wpListIn (Rd ro) m P ops (QH Q) l2 ((Act.more a ds).put oy.dst (.bool b)) w';rw[Act.more_put,hd];have T:=Dw E nl Z;refine(M b V' hΨ).out E _ w' (by simp[Act.put,a5]) ?_ T;have:=Frm.put (d:=d) (p:=p) (g:=true) (s:=.a (.v (.bool b))) g2 hc.1 hc.2 g3 g4 (λ_=>rfl);simpa[Act.put,SV.den,A.den]using this
end
theorem Wj{P:Z3}{t e:TypeId}{ox oy:Operand}(a:Addr)(n c:Nat)(d:P.underlying t=some (.slice e))(w:Z6): (do eqGuard .eql t ox oy (.slice (some a) n c) (.slice none 0 0);binOp .eql t (.slice (some a) n c) (.slice none 0 0):Sem Z7).run P w=.ok (.bool false) w:=by exact Go.Lib.run_eql_slice_some_nil w a n c d
theorem SQ{P:Z3}{t e:TypeId}{ox oy:Operand}(n c:Nat)(d:P.underlying t=some (.slice e))(w:Z6): (do eqGuard .eql t ox oy (.slice none n c) (.slice none 0 0);binOp .eql t (.slice none n c) (.slice none 0 0):Sem Z7).run P w=.ok (.bool true) w:=by exact Go.Lib.run_eql_slice_nil_nil w n c d
section
variable{P:Z3}{tt:Z8 (Nat×TI)}{o:Oper}{n:Nat}{F:cy}{C:Z8 Nat}{O:Go.Eng.Own}{nl:Nat}{V:Vw}
theorem OH(L:dl P tt){p:Z8 (Nat×Bool)}{e sz by_:Nat}{z:Z8 Z7}{li ci:Int}(len cap:Nat)(m:uA tt F p o.op=some (e,sz,by_,z,li,ci)) (hl:li=len) (hc:ci=cap) (aw:len<=cap) (hb:by_*cap<=281474976710656) (a0:cap<=maxLen): StepTo P o p n F C O nl V (σ:=Nat) (λb=>V.get b=none) (λb=>.a (.v (.slice (some ⟨b,0,none⟩) len cap))) (λ_=>O) nl (λb=>V.put b (.cells (eU cap z).toArray e (0,0))):=by
 constructor;intro E a w hf y hm K Q hK;unfold Oper.wp execOp;cases u:o.op with
 |makeSlice t xl xc=>
  simp only[u,uA]at m;split at m
  .rename_i kl l' kc c' al az z2 ak e' h1 h2 h3;split at m
   .rename_i M Z;cases d:Nat.beq M.zero.length M.size with
    |false=>simp[d]at m
    |true=>
     simp only[d,Za,Z0,ZN]at m;obtain⟨rfl,rfl,rfl,rfl,rfl,rfl⟩:=m;obtain⟨e1,_⟩:=cZ hf y h1;obtain⟨e2,_⟩:=cZ hf y h2;obtain⟨dd,T,B,_⟩:=(L _ _ h3).und;(have e3:dd=.slice e':=by cases dd<;>simp[eM]at B;rw[B]);subst e3;obtain⟨fi,a9,Y,W,zv,hz,a5⟩:=(L _ _ Z).info;subst hl hc;simp only[maxLen]at a0;(have X:(fi.bytes:Int)*(cap:Int)<=281474976710656:=by rw[W,<-Int.natCast_mul];omega);have hr:=run_make (P:=P) w t e' fi zv T a9 hz kl kc (len:Int) (cap:Int) om om X om;simp only[ZH]at hr;have aa:a.eval xl=.int kl len:=e1;have R:a.eval xc=.int kc cap:=e2;simp only[aa,R,ZR,hr,ZU,ZO];rw[YU]at d;(have a6:zv.cells=M.zero.toArray:=by apply YN;simpa using a5);(have l:madeCells zv.cells (cap*fi.size)=(eU cap M.zero).toArray:=by apply YN;rw[a6,Y,<-d,I6]);rw[l]
     have N:V.get w.heap.size=none:=by
      cases hq:V.get w.heap.size with
      |none=>rfl
      |some ob=>have:=(Array.getElem?_eq_some_iff.1 (hm.get _ _ hq)).1;omega
     exact hK w.heap.size E _ N (λ_ _=>⟨J,J⟩) (hm.ext (mh w _) (hm.vext _)) J
   simp at m
  simp_all
 |_=>simp[u,uA]at m
end
theorem Vw.put_self{V:Vw}{b:Nat}{d:Obj}(h:V.get b=some d):V.put b d=V:=by
 obtain⟨m,os,tp,l⟩:=V;simp only[Vw.put,Vw.mk.injEq,x_]
 grind
theorem Vw.put4(A:Vw){r m:Nat}(x y e d:Obj)(h:r≠m):(((A.put r x).put m e).put r y).put m d=(A.put r y).put m d:=by
 simp only[Vw.put,Vw.mk.injEq,x_]
 simp_all
theorem BT:∀{es:Z8 (Int×Z7)} {i:Nat} {k:Int} {v:Z7},(es.map (·.1)).Nodup->es[i]? =some (k,v)->ey es k=some v
 |(a,x)::r,0,k,v,_,h=>by cases h;simp[ey]
 |(a,x)::r,i+1,k,v,hn,h=>by
  rw[Zq,N']at hn
  have hk:k∈r.map (·.1):=Y6.2 ⟨(k,v),ZZ h,J⟩
  rw[ey,ZX (λe=>hn.1 (by rw[show a=k from e];exact hk))]
  exact BT hn.2 h
theorem Jt:∀{es:Z8 (Int×Z7)} {k:Int} {v:Z7},ey es k=some v-> ∃i:Nat,es[i]? =some (k,v)
 |(a,x)::r,k,v,h=>by
  rw[ey]at h
  split at h
  . rename_i e;subst e;cases h;exact⟨0,J⟩
  . obtain⟨i,hi⟩:=Jt h;exact⟨i+1,hi⟩
theorem EW(k:Int)(v:Z7):∀(es:Z8 (Int×Z7)) (a:Int),a∈(fq es k v).map (·.1)->a=k\/a∈es.map (·.1)
 |[],a,h=>by simp[fq]at h;exact .inl h
 |(b,x)::r,a,h=>by
  rw[fq]at h
  split at h
  . exact .inr h
  ·
   rw[Zq,Zg]at h
   rcases h with h|h
   . exact .inr (by simp[h])
   ·
    rcases EW k v r a h with h2|h2
    . exact .inl h2
    simp_all
theorem Gf(k:Int)(v:Z7):∀(es:Z8 (Int×Z7)),(es.map (·.1)).Nodup->((fq es k v).map (·.1)).Nodup
 |[],_=>by simp[fq]
 |(a,x)::r,h=>by
  rw[Zq,N']at h
  rw[fq]
  split
  . rw[Zq,N'];exact h
  ·
   rename_i hne
   rw[Zq,N']
   refine⟨λhm=>?_,Gf k v r h.2⟩
   rcases EW k v r a hm with h2|h2
   . exact hne h2
   simp_all
abbrev iA(b:Nat):Z7:=.slice (some ⟨b,0,none⟩) 8 8
abbrev ld(ty:Nat)(p:Z8 Z5):Obj:=.cells (p.map Value.string).toArray ty (0,0)
structure MpR(ty:Nat)(V:Vw)(es:List (Int×Value))(T:Int->Option (List ByteArray)):Prop where
 none_:∀n,T n=none->ey es n=none
 some_:∀n p,T n=some p-> ∃b,ey es n=some (iA b)/\V.get b=some (ld ty p)/\p.length=8
theorem MpR.mono{ty:Nat}{V l:Vw}{m:Z8 (Int×Z7)}{T:Int->Z4 (Z8 Z5)}(h:MpR ty V m T)(d:V.le l):MpR ty l m T:=
 ⟨h.none_,λn p o=>by obtain⟨b,u,t,w⟩:=h.some_ n p o;exact⟨b,u,d.get _ _ t,w⟩⟩
structure MpF(ty:Nat)(V0 V:Vw)(es:List (Int×Value))(T:Int->Option (List ByteArray)):Prop where
 r:MpR ty V es T
 fresh:∀n b,ey es n=some (iA b)->V0.get b=none
 inj:∀n m b,ey es n=some (iA b)->ey es m=some (iA b)->n=m
 nodup:(es.map (·.1)).Nodup
def lw:Z8 Z5:=List.replicate 8 ByteArray.empty
def pS(f:Int->Z4 (Z8 Z5))(blk k:Int)(t:Z5):Int->Z4 (Z8 Z5):=λn=>if n=blk then some (((f n).getD lw).set k.toNat t)else f n
theorem Vw.put_other(V:Vw){a k:Nat}(d:Obj)(h:k≠a):(V.put a d).get k=V.get k:=by simp[Vw.put,h]
theorem Fe{ty:Nat}{V0 V N:Vw}{E:Z8 (Int×Z7)}{T:Int->Z4 (Z8 Z5)}{z b:Nat}{q:Z8 Z5}{blk k:Int}{t:Z5}(h:MpF ty V0 V E T)(B:V0.le V)(w:V.le N)(W:V.get z=some (ew E))(a8:V0.get z=none)(hb:N.get b=some (ld ty q))(hq:q.length=8)(h0:V0.get b=none) (hc:(T blk=some q/\ey E blk=some (iA b))\/(T blk=none/\q=lw/\V.get b=none)): MpF ty V0 ((N.put b (ld ty (q.set k.toNat t))).put z (ew (fq E blk (iA b)))) (fq E blk (iA b)) (pS T blk k t)/\V0.le ((N.put b (ld ty (q.set k.toNat t))).put z (ew (fq E blk (iA b)))):=by
 (have a7:b≠z:=λe=>by have O:=w.get _ _ W;rw[<-e,hb]at O;cases O);(have Y:(T blk).getD lw=q:=by grind);(have L:∀j,j≠b->j≠z->((N.put b (ld ty (q.set k.toNat t))).put z (ew (fq E blk (iA b)))).get j=N.get j:=λj O M=>by rw[Vw.put_other _ _ M,Vw.put_other _ _ O]);have ab:((N.put b (ld ty (q.set k.toNat t))).put z (ew (fq E blk (iA b)))).get b=some (ld ty (q.set k.toNat t)):=by rw[Vw.put_other _ _ a7,Vw.put_get]
 have y:∀n u,ey E n=some (iA u)->n≠blk->u≠b:=λn u d l e=>by
  subst e;(rcases hc with⟨_,M⟩|⟨_,_,h3⟩);{exact l (h.inj n blk u d M)};cases hT:T n with
  |none=>rw[h.r.none_ n hT]at d;cases d
  |some p=>obtain⟨b2,g1,g2,_⟩:=h.r.some_ n p hT;rw[g1]at d;cases d;rw[h3]at g2;cases g2
 refine⟨⟨⟨λn d=>?_,λn p hp=>?_⟩,λn u d=>?_,λn m u d R=>?_,Gf _ _ _ h.nodup⟩,⟨λj o Z=>?_,(B.trans w).os,(B.trans w).tape,(B.trans w).output⟩⟩;{rw[pS]at d;split at d;{cases d};rename_i l;rw[pT,ZX (λe=>l e.symm)];exact h.r.none_ n d};{rw[pS]at hp;split at hp;{rename_i he;subst he;cases hp;refine⟨b,by rw[pT,ZW J],?_,by rw[ZT,Y];exact hq⟩;rw[Y];exact ab};rename_i l;obtain⟨u,O,M,h3⟩:=h.r.some_ n p hp;refine⟨u,by rw[pT,ZX (λe=>l e.symm)];exact O,?_,h3⟩;(have X:u≠z:=λe=>by rw[e,W]at M;cases M);rw[L u (y n u O l) X];exact w.get _ _ M};{rw[pT]at d;split at d;{cases d;exact h0};exact h.fresh n u d}
 .rw[pT]at d R;split at d;{rename_i e1;cases d;split at R;{rename_i e2;exact e1.symm.trans e2};rename_i e2;exact absurd J (y m _ R (λe=>e2 e.symm))};rename_i e1;split at R;{rename_i e2;cases R;exact absurd J<|y n _ d λe=>e1 e.symm};exact h.inj n m u d R
 (have a6:j≠b:=λe=>by rw[e,h0]at Z;cases Z);(have aa:j≠z:=λe=>by rw[e,a8]at Z;cases Z);rw[L j a6 aa];exact(B.trans w).get _ _ Z
section
variable{P:Z3}{ops:Array Oper}{Q0 Q1:Exit->Act->Z6->Prop}{ds:Z8 Deferred}
end
section
variable{P:Z3}{tt:Z8 (Nat×TI)}{ops:Array Oper}{Q:kJ}{o:Oper}{rest:Z8 Oper}{ds:Z8 Deferred}
 {n:Nat} {F:cy} {C:Z8 Nat} {O:Go.Eng.Own} {nl:Nat} {V:Vw}
end
def rz(base:Nat)(v:Z7):Prop:= ∀k,v.ownBlock=some k->base<=k
def i4(base:Nat)(W V:Vw):Prop:= ∀k o,base<=k->W.get k=some o->V.get k=some o
theorem eL.newIn{base:Nat}{W V:Vw}{v:Z7}{sz n:Nat}{xs:Z8 Z7}(h:eL W v sz n xs)(u:rz base v)(hV:i4 base W V):eL V v sz n xs:=by refine⟨h.1,?_⟩;(rcases h.2 with d|⟨b,off,l,cs,e,m,d,o,t,p⟩);{exact .inl d};exact .inr ⟨b,off,l,cs,e,m,d,hV _ _ (u b (by rw[d];rfl)) o,t,p⟩
theorem SlOf.newIn{α:Type}{base:Nat}{W V:Vw}{enc:α->Z8 Z7}{sz:Nat}{v:Z7}{l:Z8 α}(h:SlOf W enc sz v l)(d:rz base v)(hV:i4 base W V):SlOf V enc sz v l:=
 ⟨h.sl.newIn d hV,h.len⟩
theorem PC{w:Z6}{W:Vw}{v:Z7}(l:(vw w).le W)(h:∀k,v.ownBlock=some k->W.get k=none):rz w.heap.size v:=by
 intro k o;by_cases d:k<w.heap.size
 ·(have m:w.heap[k]? =some w.heap[k]:=by simp[d]);have:=l.get k _ m
  simp_all
 omega
theorem i4.grown{w d:Z6}{V W:Vw}{E:Env}{O:Own}{nl:Nat}(l:Mem E O nl W d):i4 w.heap.size W (V.grown w d):=by intro k o m h;simp only[Vw.grown];rw[ZX om];exact l.get _ _ h
section
variable{P:Z3}{tt:Z8 (Nat×TI)}{n:Nat}{F:cy}{C:Z8 Nat}{O:Own}{nl:Nat}{V:Vw}{o:Oper}
theorem Mem.seen{E:Env}{w:Z6}{u:Vw}(d:Mem E O nl V w)(m:V.le u)(t:∀k o,u.get k=some o->w.heap[k]? =some o)(p:∀l c k,lk O l=some c->blk E l c=some k->u.get k=none):Mem E O nl u w:=
 ⟨d.lit,d.row,d.sep,t,p,d.os.trans m.os.symm,d.tape.trans m.tape.symm,d.output.trans m.output.symm,d.lab,d.labs,d.pin,d.big,d.kp⟩
def Vw.over(V:Vw)(base:Nat)(W:Vw):Vw:=⟨λk=>if k<base then V.get k else W.get k,V.os,V.tape,V.output⟩
def Jo(w:Z6){σ:Type}(Φ:σ->Vw->Prop)(s:σ->SV)(O2:σ->Own)(k2:Nat)(ex:Ending)(w':Z6):Prop:=
 ∃x W E',ex=.returned ((s x).den E')/\(s x).ok k2=true/\w.heap.size<=w'.heap.size/\Mem E' (O2 x) k2 W w'/\(vw w).le W/\ ∀V',i4 w.heap.size W V'->Φ x V'
theorem pN{p:Z8 (Nat×Bool)}{f:Nat}{ss:Z8 SV}{σ:Type}(Φ:σ->Vw->Prop)(s:σ->SV)(Z:σ->Own)(k2:Nat)(hv:fL F p o.op=some (f,ss))(a9:eJ P f) (B:∀E w,Mem E O nl V w->Calls P f (ss.map (SV.den E)).toArray w (Jo w Φ s Z k2)): StepTo P o p n F C O nl V (σ:=σ×Vw) (λx=>V.le x.2/\Φ x.1 x.2) (λx=>(s x.1).sh nl) (λx=>sf nl (Z x.1)++O) (nl+k2) (λx=>x.2):=by
 constructor;intro E a' w hf ab T K Q hK;obtain⟨hr,_⟩:=kG hf ab hv a9 w;unfold Oper.wp;rw[hr,Oper.upon_enter];refine(B E w T).mono ?_;rintro ex w' ⟨x,W,M,rfl,R,a8,d,t,hΦ⟩
 have a6:Mem M (Z x) k2 (vw w) w':=by
  refine⟨d.lit,d.row,d.sep,λk o m=>d.get k o (t.get _ _ m),λl c k hl z=>?_,d.os.trans t.os,d.tape.trans t.tape,d.output.trans t.output,d.lab,d.labs,d.pin,d.big,d.kp⟩;cases hq:(vw w).get k with
  |none=>rfl
  |some ob=>have h1:=t.get _ _ hq;rw[d.off l c k hl z]at h1;cases h1
 have hj:=T.join a6 a8;(have L:∀k o,V.get k=some o->k<w.heap.size:=λk o m=>by have:=T.get k o m;exact(Array.getElem?_eq_some_iff.1 this).1);(have u:V.le (V.over w.heap.size W):=by refine⟨λk o m=>?_,J,J,J⟩;show(if _ then _ else _)=_;rw[ZW (L k o m)];exact m);(have X:Mem (k7 E M nl) (sf nl (Z x)++O) (nl+k2) (V.over w.heap.size W) w':=by refine hj.seen u (λk o m=>?_) λl c k hl z=>?_;{change (if _ then _ else _)=_ at m;split at m;{exact hj.get k o m};exact d.get k o m};show(if _ then _ else _)=_;split;{exact hj.off l c k hl z};rename_i Y;(rcases l9 hl with⟨q,y,rfl,hy,rfl⟩|hx);{rw[wE]at z;exact d.off q y k hy z};rw[jL (zy E M nl) (T.lab _ _ hx)]at z;exact absurd (T.lt hx z) Y);(have N:i4 w.heap.size W (V.over w.heap.size W):=λk o m h=>by show(if _ then _ else _)=_;rw[ZX om];exact h);have:=hK (x,V.over w.heap.size W) (k7 E M nl) w' ⟨u,hΦ _ N⟩ (zy E M nl) X (SV.ok_sh R);rw[SV.den_sh]at this;exact this
end
def iM(V:Vw)(v:Z7)(e sz m:Nat)(xs:Z8 Z7):Prop:=
 xs.length=m*sz/\((v=.slice none 0 0/\m=0)\/ ∃g cap cur,v=.slice (some ⟨g,0,none⟩) m cap/\V.get g=some (.cells cur e (0,0))/\m<=cap/\cap<=maxLen/\cur.size=cap*sz/\cur.toList.take (m*sz)=xs)
theorem iM.mono{V d:Vw}(h:V.le d){v:Z7}{e sz m:Nat}{xs:Z8 Z7}(hs:iM V v e sz m xs):iM d v e sz m xs:=
 ⟨hs.1,hs.2.imp id λ⟨g,cap,cur,h1,h2,h3⟩=>⟨g,cap,cur,h1,h.get _ _ h2,h3⟩⟩
theorem iM.newIn{base:Nat}{W V:Vw}{v:Z7}{e sz m:Nat}{xs:Z8 Z7}(h:iM W v e sz m xs)(d:rz base v)(hV:i4 base W V):iM V v e sz m xs:=
 ⟨h.1,h.2.imp id λ⟨g,cap,cur,h1,h2,h3⟩=>⟨g,cap,cur,h1,hV _ _ (d g (by rw[h1];rfl)) h2,h3⟩⟩
theorem iM.del{V:Vw}{v:Z7}{e sz m:Nat}{xs:Z8 Z7}{u:Z4 Nat}(h:iM V v e sz m xs)(hd:∀k,v.ownBlock=some k->u≠some k):iM (V.delO u) v e sz m xs:=by
 refine⟨h.1,h.2.imp id λ⟨g,cap,cur,h1,h2,h3⟩=>⟨g,cap,cur,h1,?_,h3⟩⟩;have:=hd g (by rw[h1];rfl);cases u with
 |none=>exact h2
 |some b=>
  show(if _ then _ else _)=_
  grind
theorem iM.own{V:Vw}{v:Z7}{e sz m:Nat}{xs:Z8 Z7}{w:Z6}(h:iM V v e sz m xs)(hV:∀k o,V.get k=some o->w.heap[k]? =some o):w.ownsRow 0 e sz v m xs:=
 ⟨h.1,h.2.imp id λ⟨g,cap,cur,h1,h2,h3⟩=>⟨g,cap,cur,h1,Zz _,hV _ _ h2,h3⟩⟩
theorem iM.sl{V:Vw}{v:Z7}{e sz m:Nat}{xs:Z8 Z7}(h:iM V v e sz m xs):eL V v sz m xs:=by
 refine⟨h.1,?_⟩;(rcases h.2 with⟨rfl,t⟩|⟨g,p,l,rfl,u,d,_,w,o⟩);{exact .inl ⟨none,0,J,t⟩};refine .inr ⟨g,0,p,l,e,(0,0),J,u,?_,?_,d⟩;{have:=Zn sz d;omega}
 simp_all
theorem iM.seen{V:Vw}{v:Z7}{e sz m k:Nat}{xs:Z8 Z7}(h:iM V v e sz m xs)(d:v.ownBlock=some k):(V.get k).isSome=true:=by
 (rcases h.2 with⟨rfl,p⟩|⟨g,o,l,rfl,t,_⟩);{cases d};have:g=k:=by simpa[Value.ownBlock]using d
 simp_all
theorem P1{w:Z6}{b e sz m:Nat}{v:Z7}{xs:Z8 Z7}{d:Vw}(h:w.ownsRow b e sz v m xs)(hV:∀k,v.ownBlock=some k->d.get k=w.heap[k]?):iM d v e sz m xs:=
 ⟨h.1,h.2.imp id λ⟨g,cap,cur,h1,_,h2,h3⟩=>⟨g,cap,cur,h1,by rw[hV g (by rw[h1];rfl)];exact h2,h3⟩⟩
section
variable{P:Z3}{tt:Z8 (Nat×TI)}{n:Nat}{F:cy}{C:Z8 Nat}{O:Own}{nl:Nat}{V:Vw}{o:Oper}
theorem Wp{K:Act->Z6->Prop}(l q b:Nat){v:Z7}{e sz m:Nat}{xs:Z8 Z7}(W:lk O l=some (.row e sz m xs))(T:lk O q=some (.keep l b v)) (h:∀V',V.le V'->iM V' v e sz m xs->(∀k,v.ownBlock=some k->V.get k=none)->KJ K n F C ((l,.gone)::O) nl V'):KJ K n F C O nl V:=by constructor;intro E a w a5 hf t;have hv:=(t.kp _ _ _ _ T).2.1;have B:=t.row _ _ _ _ _ W;rw[hv]at B;have L:∀k,v.ownBlock=some k->V.get k=none:=λk z=>t.off l _ k W (by simpa[blk,hv]using z);let V':Vw:=⟨λk=>if v.ownBlock=some k then w.heap[k]? else V.get k,V.os,V.tape,V.output⟩;(have a7:V.le V':=by refine⟨λk ob z=>?_,J,J,J⟩;show(if _ then _ else _)=_;by_cases T:v.ownBlock=some k;{rw[L k T]at z;cases z};rw[ZX T];exact z);have a0:iM V' v e sz m xs:=P1 B (λk z=>by show(if _ then _ else _)=_;rw[ZW z]);refine(h V' a7 a0 L).out E a w a5 hf ?_;(have p:∀y c,lk ((l,Cel.gone)::O) y=some c->c=.gone\/(y≠l/\lk O y=some c):=by intro y c h;by_cases M:y=l;{subst M;rw[dF]at h;cases h;exact .inl J};rw[gB _ _ (λx=>M x.symm)]at h;exact .inr ⟨M,h⟩);refine⟨?_,?_,?_,λk o z=>?_,λy c k u Z=>?_,t.os,t.tape,t.output,?_,?_,?_,?_,?_⟩;{intro y cs q u;(rcases p _ _ u with d|⟨_,d⟩);{cases d};exact t.lit _ _ _ d};{intro y q s n' ys u;(rcases p _ _ u with d|⟨_,d⟩);{cases d};exact t.row _ _ _ _ _ d};{intro l1 l2 c1 c2 k d h2 R N;(rcases p _ _ d with rfl|⟨_,X⟩);{simp[blk]at R};(rcases p _ _ h2 with rfl|⟨_,h4⟩);{simp[blk]at N};exact t.sep _ _ _ _ _ X h4 R N};{change (if _ then _ else _)=_ at z;split at z;{exact z};exact t.get k o z};{(rcases p _ _ u with rfl|⟨Y,X⟩);{simp[blk]at Z};show(if _ then _ else _)=_;rw[ZX,t.off y c k X Z];intro z;exact Y<|t.sep _ _ _ _ _ X W Z (by simpa[blk,hv]using z)};{intro y c u;by_cases M:y=l;{subst M;exact t.lab _ _ W};rw[gB _ _ (λx=>M x.symm)]at u;exact t.lab _ _ u};{intro y cs q u;(rcases p _ _ u with d|⟨_,d⟩);{cases d};exact t.labs _ _ _ d};{intro y q b' u;(rcases p _ _ u with d|⟨_,d⟩);{cases d};exact t.pin _ _ _ d};{intro y k u;(rcases p _ _ u with d|⟨_,d⟩);{cases d};exact t.big _ _ d};intro y q b' v' u;(rcases p _ _ u with d|⟨_,d⟩);{cases d};exact t.kp _ _ _ _ d
theorem J0{K:Act->Z6->Prop}{v:Z7}{e sz m:Nat}{xs:Z8 Z7}(o:iM V v e sz m xs) (h:∀b,KJ K n F C ((nl+1,.keep nl b v)::(nl,.row e sz m xs)::O) (nl+2) (V.delO v.ownBlock)):KJ K n F C O nl V:=by constructor;intro E a w d t l;have p:=(l.addRow (o.own l.get) (λk u=>o.seen u)).addKeep nl om;(have y:(E.setκ nl v).κ nl=v:=by simp[Env.setκ]);rw[y]at p;exact(h _).out (E.setκ nl v) a w d (Frm.env (Env.agree_setκ E v) om t) p
theorem StepTo.named{p:Z8 (Nat×Bool)}{σ:Type}{Φ:σ->Prop}{l:Nat}{L:σ->Own}{z:Nat}{Y:σ->Vw}(h:StepTo P o p n F C O nl V Φ (λ_=>.a (.row l)) L z Y)(hl:Nat.blt l z=true)(hr:∀x,∃e sz m xs,lk (L x) l=some (.row e sz m xs)): StepTo P o p n F C O nl V (σ:=σ×Nat×Z4 Addr×Nat×Nat) (λx=>Φ x.1) (λx=>.a (.v (.slice x.2.2.1 x.2.2.2.1 x.2.2.2.2))) (λx=>(z,.keep l x.2.1 (.slice x.2.2.1 x.2.2.2.1 x.2.2.2.2))::L x.1) (z+1) (λx=>Y x.1):=by
 constructor;intro E a w hf M hm K Q hK;refine h.out E a w hf M hm K Q λx u Z hΦ B d ad=>?_;obtain⟨e,sz,m,xs,t⟩:=hr x;have ho:=d.row _ _ _ _ _ t
 have y:∃a n c,u.κ l=.slice a n c:=by
  (rcases ho.2 with⟨X,_⟩|⟨g,a0,a6,X,_⟩);{exact⟨_,_,_,X⟩}
  simp_all
 obtain⟨W,N,R,y⟩:=y;have T:=d.addKeep l (by simpa[eD]using hl);rw[y]at T;have:=hK (x,u.ρ l,W,N,R) u Z hΦ B T J;have hd:(SV.a (A.row l)).den u=.slice W N R:=y;rw[hd];exact this
end
section
variable{P:Z3}{tt:Z8 (Nat×TI)}{n:Nat}{F:cy}{C:Z8 Nat}{O:Own}{nl:Nat}{V:Vw}{o:Oper}
end
section
variable{P:Z3}{tt:Z8 (Nat×TI)}{n:Nat}{F:cy}{C:Z8 Nat}{O:Own}{nl:Nat}{V:Vw}{o:Oper}
end
section
variable{P:Z3}{m:Nat}{Q:kJ}{n:Nat}{F:cy}{C:Z8 Nat}{O:Go.Eng.Own}{nl:Nat}{V:Vw}
def ID{α:Type}(m:Nat)(P:Z3)(g:Nat)(lb:Array Z7)(encs:α->Array Z7)(PE:α->Vw->Prop)(V:Vw)(S Sp:Z8 α->Prop)(N:Nat)(w:Z6):Prop:=
 ∀(l:Nat) (J9q:(Nat->Prop)->Z8 α->Z6->Prop) (Jx:Z8 α->Z6->Prop) (W:Z6),cH w W->
  (∀R pre A B row,J9q R pre A->A.grownBy B row->(∀r,row=some r->W.heap.size<=r/\ ∃o:Obj,A.heap[r]? =some o/\o.isWalk=true)->J9q (λk=>R k\/(A.heap.size<=k/\k<B.heap.size)) pre B)->
  (∀R R' pre A,J9q R pre A->(∀k,R' k->R k)->J9q R' pre A)->AbidesFrom W.heap.size Jx->
  (∀R pre x W1 Vx,J9q R pre W1->pre.length<N->V.le Vx->PE x Vx->(∀k o,Vx.get k=some o->W1.heap[k]? =some o/\(R k\/V.get k=some o))->YieldAt (Rd none) (m - 1) P l (encs x) W1 λe W'=>
   (e=.returned (.bool true)/\J9q R (pre++[x]) W'/\(V.le (vw W1)->V.le (vw W'))/\ ∀k o,R k->W1.heap[k]? =some o->W'.heap[k]? =some o)\/(e=.returned (.bool false)/\Jx (pre++[x]) W'))->
  J9q (λ_=>False) [] W->
  CallsIn (Rd none) m P g (#[.func (.yield l) #[] #[]]++lb) W λe W'=>(∃v,e=.returned v)/\((∃xs,S xs/\ ∃R,J9q R xs W')\/(∃pre,Sp pre/\Jx pre W'))
theorem KS{α σ τ:Type}{g:Operand}{p p2:Nat}{aI body:Code}{gf:Nat}{lb:Array Z7}(bU:1<=m)
  (hg:cV F [] g=some (.a (.v (.func (.func gf) #[] lb)))) (bO:eJ P gf) (enc X:α->Z7) (PE:α->Vw->Prop) (S Sp:Z8 α->Prop) (N:Nat) (Fl:Z8 (Nat×SV)) (Ox:σ->Go.Eng.Own) (az:Z8 α->σ->Prop) (Oy:τ->Go.Eng.Own) (ar:Z8 α->τ->Prop) (jx:Code) (s0:σ)
  (hs:dT F Fl) (bu:iO 0 Fl=true) (h0:az [] s0) (hO:dm O (Ox s0)) (aV:∀s,eA nl (Ox s)=true) (bh:∀y,eA nl (Oy y)=true) (hp:Nat.blt p n=true) (bI:Nat.blt p2 n=true)
  (bj:∀w,V.le (vw w)->ID (m - 1) P gf lb (λx=> #[enc x,X x]) PE V S Sp N w)
  (aS:∀l pre x s Vx Vf sz,az pre s->pre.length<N->V.le Vx->Vx.le Vf->PE x Vx->
   KJ (RX P (some l) (m - 1 - 1) [] aI (RA P l (m - 1 - 1) body Vx Vf nl sz λVg k=>RC nl Vg k Ox az Oy ar jx (pre++[x]))) n (dA ((p2,.a (.v (X x)))::(p,.a (.v (enc x)))::Fl)) [] ((nl,.size sz)::Ox s) (nl+1) Vf)
  (b5:∀D V' s xs,S xs->az xs s->V.le V'->V'.get D=some (.deferred (some []))->V.le (V'.del D)->KJ (Q (sd D) .normal) n (dA Fl) [] (Ox s) nl V')
  (bd:∀D V' y pre,Sp pre->ar pre y->V.le V'->V'.get D=some (.deferred (some []))->V.le (V'.del D)->KJ (RX P none m (sd D) jx Q) n (dA Fl) [] (Oy y) nl V'):
  KJ (RX P none m [] (Code.rangeFunc g #[p,p2] aI body) Q) n F C O nl V:=by
 constructor
 intro E a w aB hf hm
 have bt:p<n:=by simpa using hp
 have be:p2<n:=by simpa using bI
 have ba:Frm E n (dA Fl) [] 0 a.tmps:=hf.weak hs bu
 have b7:∀L,Frm L n (dA Fl) [] nl a.tmps:=λL=>Frm.env (nl:=0) (λl hl=>om) (Zz _) ba
 have bs:∀k o,V.get k=some o->k<w.heap.size:=λk o u=>(Array.getElem?_eq_some_iff.1 (hm.get k o u)).1
 have aW:∀k,w.heap.size<=k->V.get k=none:=λk u=>by
  cases hv:V.get k with
  |none=>rfl
  |some o=>have:=bs k o hv;omega
 have af:∀{O':Go.Eng.Own} {q:Nat} {V2:Vw} {L:Env} {W W':Z6} {row:Z4 Nat},Mem L O' q V2 W->W.grownBy W' row->(∀r,row=some r->V2.get r=none/\ ∃o:Obj,W.heap[r]? =some o/\o.isCells=false)->Mem L O' q V2 W':=λhM hG hR=>hM.abides hG hR
 have bl:a.eval g=.func (.func gf) #[] lb:=(cZ hf (p:=[]) J hg).1
 have ay:∀{O':Go.Eng.Own} {L:Env} {W:Z6} {D:Nat},Mem L O' nl V W->w.heap.size<=D->W.heap[D]? =some (.deferred (some []))->
   ∃V',Mem L O' nl V' W/\V.le V'/\V'.get D=some (.deferred (some []))/\V.le (V'.del D):=λ{O' L W D} hM hD hW=>by
  have bb:=aW D hD
  refine⟨V.put D (.deferred (some [])),⟨hM.lit,hM.row,hM.sep,λk o u=>?_,λl c k h hb=>?_,hM.os,hM.tape,hM.output,hM.lab,hM.labs,hM.pin,hM.big,hM.kp⟩,⟨λk o u=>?_,J,J,J⟩,by simp[Vw.put],⟨λk o u=>?_,J,J,J⟩⟩
  ·
   simp only[Vw.put]at u
   split at u
   . rename_i he;subst he;cases u;exact hW
   . exact hM.get k o u
  ·
   simp only[Vw.put]
   split
   ·
    rename_i he
    subst he
    obtain⟨o,ho,hc⟩:=hM.own_cells h hb
    rw[hW]at ho;cases ho;cases hc
   . exact hM.off l c k h hb
  ·
   simp only[Vw.put]
   split
   . rename_i he;subst he;rw[bb]at u;cases u
   . exact u
  ·
   simp only[Vw.put,Vw.del]
   split
   . rename_i he;subst he;rw[bb]at u;cases u
   . exact u
 unfold RX
 rw[show({a with defers:=[]}:Act)=a by obtain⟨t,dd⟩:=a;cases aB;rfl]
 refine wpIn_rangeFunc λfn b9=>?_
 -- the loop's record, by its state
 obtain⟨R,hR⟩:∃R:LoopState->Z4 Code->Loop,R=λst pe=>{state:=st,pending:=pe,fn,tmps:=a.tmps,params:= #[p,p2],assign:=aI,body,defers:=w.heap.size}:=⟨_,J⟩
 obtain⟨D,hD⟩:∃D,D=w.heap.size:=⟨_,J⟩
 obtain⟨W0,ak⟩:∃W0,W0=(w.alloc (.deferred (some []))).alloc (.loop (R .ready none)):=⟨_,J⟩
 have cc:W0.heap.size=w.heap.size+2:=by rw[ak];simp
 have bA:W0.heap[D+1]? =some (.loop (R .ready none)):=by
  rw[ak,hD]
  have:=World.alloc_heap_new (w.alloc (.deferred (some []))) (.loop (R .ready none))
  rwa [World.size_alloc]at this
 have bL:W0.heap[D]? =some (.deferred (some [])):=by
  rw[ak,hD]
  exact(Below.heap_alloc _ _ _ sm).trans<|World.alloc_heap_new w _
 have bD:Mem E (Ox s0) nl V W0:=by
  have T:=hm.weak hO (aV s0) (Vw.le.refl V)
  have h2:=af T (World.grownBy_alloc w (.deferred (some [])) none) (λr e=>by cases e)
  rw[ak]
  exact af h2 (World.grownBy_alloc _ (.loop (R .ready none)) none) λr e=>by cases e
 have bM:cH w W0:=by
  rw[ak]
  exact((Below.refl _ w).alloc (ZS _) _).alloc sm _
 have b4:V.get (D+1)=none:=aW _ om
 refine⟨D+1,[{target:=.collected D,args:= #[]}],W0,{target:=.fn (.func gf) lb,args:= #[.func (.yield (D+1)) #[] #[]]},W0,gf, #[.func (.yield (D+1)) #[] #[]]++lb,W0,?_,?_,?_,?_,λ_=>bU,?_⟩
 . rw[ak,hR,hD];exact run_enterLoop_outer _ _ _ _ _
 ·
  simp only[resolve,bl]
  simp[go_sem]
 ·
  intro f' c9
  trivial
 . simp[invoke,go_sem,Lb bO]
 -- the iterator's promise
 have aa:∀{W:Z6} {r:Loop} (ob:Obj),W.heap[D+1]? =some (.loop r)-> ∀{q:Nat} {L:Env} {O':Go.Eng.Own},Mem L O' q V W->Mem L O' q V (W.putObj (D+1) ob):=λ{W r} ob hl {q L O'} hM=>
  af hM (grownBy_putObj' W (D+1) ob) (λk e=>by cases e;exact⟨b4,_,hl,J⟩)
 have Y:∀{W:Z6} (ob:Obj),W.heap[D]? =some (.deferred (some []))->(W.putObj (D+1) ob).heap[D]? =some (.deferred (some [])):=λob h=>(World.putObj_heap_other om).trans h
 have ab:∀{W:Z6} {r:Loop} (ob:Obj),W.heap[D+1]? =some (.loop r)->(W.putObj (D+1) ob).heap[D+1]? =some ob:=λob h=>World.putObj_heap_same (Array.getElem?_eq_some_iff.1 h).1
 have aA:∀{O':Go.Eng.Own} {L:Env} {A B:Z6} {row:Z4 Nat},Mem L O' nl V A->A.grownBy B row->(∀r,row=some r->W0.heap.size<=r/\ ∃o:Obj,A.heap[r]? =some o/\o.isWalk=true)->Mem L O' nl V B:=λhM hG hr=>
  af hM hG (λr e=>⟨aW _ (by have:=(hr r e).1;omega),by obtain⟨_,o,ho,hw⟩:=hr r e;exact⟨o,ho,Obj.not_cells_of_walk hw⟩⟩)
 refine(bj w hm.leV (D+1)
  (λZ pre W=>((∀k,Z k->D+2<=k/\k<W.heap.size)/\ ∃s L,az pre s/\Mem L (Ox s) nl V W/\ ∀q c k,lk (Ox s) q=some c->blk L q c=some k-> ¬Z k)/\W.heap[D+1]? =some (.loop (R .ready none))/\W.heap[D]? =some (.deferred (some [])))
  (λpre W=>(∃y L,ar pre y/\Mem L (Oy y) nl V W)/\W.heap[D+1]? =some (.loop (R .done (some jx)))/\W.heap[D]? =some (.deferred (some [])))
  W0 bM
  (λZ pre A B row aw ae hr=>by
   obtain⟨⟨hz,s,L,T,h2,aX⟩,h3,h4⟩:=aw
   have cb:D+1<A.heap.size:=(Array.getElem?_eq_some_iff.1 h3).1
   have cj:=ae.size
   refine⟨⟨λk u=>?_,s,L,T,aA h2 ae hr,λq c k hq hb u=>?_⟩,(grownBy_keeps ae (λr e=>(hr r e).2) h3 J).trans h3,(grownBy_keeps ae (λr e=>(hr r e).2) h4 J).trans h4⟩
   ·
    rcases u with u|u
    . have:=hz k u;omega
    . omega
   ·
    rcases u with u|u
    . exact aX q c k hq hb u
    . have:=h2.lt hq hb;omega)
  (λZ Z' pre A aw aO=>by
   obtain⟨⟨hz,s,L,T,h2,aX⟩,h3⟩:=aw
   exact⟨⟨λk u=>hz k (aO k u),s,L,T,h2,λq c k hq hb u=>aX q c k hq hb (aO k u)⟩,h3⟩)
  (λpre A B row aw ae hr=>by
   obtain⟨⟨s,L,T,h2⟩,h3,h4⟩:=aw
   exact⟨⟨s,L,T,aA h2 ae hr⟩,(grownBy_keeps ae (λr e=>(hr r e).2) h3 J).trans h3,(grownBy_keeps ae (λr e=>(hr r e).2) h4 J).trans h4⟩)
  ?_ ⟨⟨λk u=>u.elim,s0,E,h0,bD,λq c k hq hb u=>u⟩,bA,bL⟩).mono ?_
 ·
  rintro Z pre x W Vx ⟨⟨hZ,s,L,hI,hM,aT⟩,hl,u⟩ hlen hVx hPE hVxW
  have hy:=run_yield (P:=P) (args:= #[enc x,X x]) hl (by rw[hR];rfl)
  rw[hR]at hy
  refine⟨fn,_,aI,body,hy,roundIn_of_wpIn b9 ?_⟩
  obtain⟨bx,aG⟩:=hM.full
  have bf:Vx.le (iG L (Ox s) W):=by
   refine⟨λk o u=>?_,aG.os.trans hVx.os.symm,aG.tape.trans hVx.tape.symm,aG.output.trans hVx.output.symm⟩
   obtain⟨T,h2⟩:=hVxW k o u
   rcases h2 with h2|h2
   . exact wg T (λq c hq hb=>aT q c k hq hb h2)
   . exact aG.get _ _ h2
  have bQ:Frm L n (dA ((p2,.a (.v (X x)))::(p,.a (.v (enc x)))::Fl)) [] (nl+1) ((a.tmps.setIfInBounds p (enc x)).setIfInBounds p2 (X x)):=by
   have T:Frm L n (dA Fl) [] (nl+1) a.tmps:=Frm.env (nl:=0) (λl hl=>om) (Zz _) ba
   have h2:=Frm.put (a:=a) (d:=p) (p:=[]) (g:=true) (s:=.a (.v (enc x))) T bt J J (λq hq=>by cases hq) (λ_=>rfl)
   simp only[Yf,SV.den,A.den]at h2
   have h3:=Frm.put (a:={a with tmps:=a.tmps.setIfInBounds p (enc x)}) (d:=p2) (p:=[]) (g:=true) (s:=.a (.v (X x))) h2 be J J (λq hq=>by cases hq) (λ_=>rfl)
   simp only[Yf,SV.den,A.den]at h3
   exact h3
  have hb:=aS (D+1) pre x s Vx (iG L (Ox s) W) W.heap.size hI hlen hVx bf hPE
  have bP:((#[p,p2].zip #[enc x,X x]).foldl (λtmps (t,v)=>tmps.setIfInBounds t v) a.tmps)=(a.tmps.setIfInBounds p (enc x)).setIfInBounds p2 (X x):=by simp
  rw[bP]
  refine wpIn_mono (hb.out L {tmps:=(a.tmps.setIfInBounds p (enc x)).setIfInBounds p2 (X x),defers:=[]} W J bQ bx.addSize) ?_
  rintro e a1 Wa ⟨bH,he,E2,n2,F2,C2,O2,bY,V2,bF,M,aN,ao,bT⟩
  subst he
  have ai:KeepsOthers W Wa:=⟨M.big nl _ aN,λk o u hc=>hM.full_rest (ao.trans M.leV) u hc⟩
  have aR:=ai.same _ _ hl J
  have bR:=ai.same _ _ u J
  have ad:=bf.trans ao
  have b6:∀q c k,lk O2 q=some c->blk E2 q c=some k->Vx.get k=none:=λq c k h hb=>by
   cases hv:Vx.get k with
   |none=>rfl
   |some o=>
    have T:=ad.get _ _ hv
    rw[M.off q c k h hb]at T
    cases T
  have aH:∀k o,Z k->W.heap[k]? =some o->(iG L (Ox s) W).get k=some o:=λk o hz u=>wg u (λq c hq hb=>aT q c k hq hb hz)
  have bS:Mem E2 O2 bY Vx Wa:=⟨M.lit,M.row,M.sep,(ad.trans M.leV).get,b6,M.os.trans ad.os,M.tape.trans ad.tape,M.output.trans ad.output,M.lab,M.labs,M.pin,M.big,M.kp⟩
  refine⟨_,run_beginRound aR (by rw[hR]),?_⟩
  have bc:Vx.get (D+1)=none:=by
   cases hv:Vx.get (D+1)with
   |none=>rfl
   |some o=>
    rcases(hVxW _ o hv).2 with T|T
    . have:=hZ _ T;omega
    . rw[b4]at T;cases T
  have aQ:=af bS (grownBy_putObj' Wa (D+1) (.loop {R .ready none with state:=.busy})) (λk e=>by cases e;exact⟨bc,_,aR,J⟩)
  obtain⟨bv,b8⟩:=aQ.full
  have bG:=bv.reSize aN (k':=(Wa.putObj (D+1) (.loop {R .ready none with state:=.busy})).heap.size) (ZS _)
  have bK:=ab (.loop {R .ready none with state:=.busy}) aR
  have bW:=Y (.loop {R .ready none with state:=.busy}) bR
  have aq:=(bT _ ((Wa.putObj (D+1) (.loop {R .ready none with state:=.busy})).heap.size) b8).out E2 {a1 with defers:=[]} _ J bF bG
  have bq:({a1 with defers:=[]}:Act)=a1:=by obtain⟨t,dd⟩:=a1;cases bH;rfl
  unfold RX at aq
  rw[bq]at aq
  refine wpIn_mono aq ?_
  have ap:V.le (iG E2 O2 (Wa.putObj (D+1) (.loop {R .ready none with state:=.busy}))):=hVx.trans b8
  have kp:∀{W3:Z6} {q:Nat} {E3:Env} {O3:Go.Eng.Own},Mem E3 O3 q (iG E2 O2 (Wa.putObj (D+1) (.loop {R .ready none with state:=.busy}))) W3->
    W3.heap[D+1]? =some (.loop {R .ready none with state:=.busy})/\W3.heap[D]? =some (.deferred (some [])):=λz=>⟨aQ.full_rest z.leV bK J,aQ.full_rest z.leV bW J⟩
  have kz:∀k o,Z k->W.heap[k]? =some o->(iG E2 O2 (Wa.putObj (D+1) (.loop {R .ready none with state:=.busy}))).get k=some o:=λk o hz aY=>by
   have br:k≠D+1:=by have:=hZ k hz;omega
   have T:=ao.get _ _ (aH k o hz aY)
   refine wg ((World.putObj_heap_other om).trans (M.get _ _ T)) λq c hq hb=>?_
   rw[M.off q c k hq hb]at T
   cases T
  have ac:∀{W3:Z6} {E3:Env} {O3:Go.Eng.Own} {q:Nat},Mem E3 O3 q (iG E2 O2 (Wa.putObj (D+1) (.loop {R .ready none with state:=.busy}))) W3->Mem E3 O3 q V W3:=λz=>
   ⟨z.lit,z.row,z.sep,(ap.trans z.leV).get,λq c k h hb=>(by
    cases hv:V.get k with
    |none=>rfl
    |some o=>
     have T:=ap.get _ _ hv
     rw[z.off q c k h hb]at T
     cases T),z.os.trans ap.os,z.tape.trans ap.tape,z.output.trans ap.output,z.lab,z.labs,z.pin,z.big,z.kp⟩
  intro e a3 W3 hq
  cases e with
  |normal=>
   obtain⟨s',E3,au,a5⟩:=hq
   obtain⟨a6,ax⟩:=kp a5
   have c7:W.heap.size<=W3.heap.size:=ZC ai.size (ZC (by simp[World.putObj]) (a5.big nl _ (dF _ _ _)))
   refine⟨_,_,run_endRound none a6,.inl ⟨J,⟨⟨λk hz=>?_,s',E3,au,aa _ a6 ((ac a5).drop (aV s')),λq c k hq hb hz=>?_⟩,?_,Y _ ax⟩,λ_=>(aa _ a6 (ac a5)).leV,λk o hz aY=>?_⟩⟩
   ·
    have:=hZ k hz
    simp only[World.putObj,P_]
    omega
   ·
    have bC:=(hZ k hz).2
    have T:=kz k _ hz (Array.getElem?_eq_getElem bC)
    have bN:lk ((nl,Cel.size (Wa.putObj (D+1) (.loop {R .ready none with state:=.busy})).heap.size)::Ox s') q=some c:=by
     rw[gB _ _ (λe=>by have:=(mr (aV s') hq).1;omega)];exact hq
    rw[a5.off q c k bN hb]at T
    cases T
   ·
    rw[ab _ a6,hR]
    rfl
   ·
    have br:k≠D+1:=by have:=hZ k hz;omega
    exact(World.putObj_heap_other om).trans<|a5.get _ _<|kz k o hz aY
  |ret=>
   obtain⟨hj,y,E3,au,a5⟩:=hq
   obtain⟨a6,ax⟩:=kp a5
   refine⟨_,_,run_endRound (some .ret) a6,.inr ⟨J,⟨⟨y,E3,au,aa _ a6 ((ac a5).drop (bh y))⟩,?_,Y _ ax⟩⟩⟩
   rw[ab _ a6,hR,hj]
   rfl
  |exit id=>
   obtain⟨hj,y,E3,au,a5⟩:=hq
   obtain⟨a6,ax⟩:=kp a5
   refine⟨_,_,run_endRound (some (.exit id)) a6,.inr ⟨J,⟨⟨y,E3,au,aa _ a6 ((ac a5).drop (bh y))⟩,?_,Y _ ax⟩⟩⟩
   rw[ab _ a6,hR,hj]
   rfl
  |goto _=>exact hq.elim
  |panic _=>exact hq.elim
  |outgrown=>exact hq.elim
 ·
  rintro e W2 ⟨⟨v,rfl⟩,⟨xs,hS,Z,⟨hZ,s,L,hI,hM,aT⟩,hl,u⟩|⟨pre,bV,⟨y,L,hI,hM⟩,hl,u⟩⟩
  ·
   refine⟨none,_,by have:=run_endLoop (P:=P) hl (by rw[hR];simp);rw[hR]at this;exact this,?_⟩
   obtain⟨V',z,T,h2,h3⟩:=ay (D:=D) (aa (.loop {R .ready none with state:=.exhausted}) hl hM) om (Y _ u)
   have:=(b5 D V' s xs hS hI T h2 h3).out L a _ aB (b7 L) z
   rw[hR]at this
   obtain⟨t,dd⟩:=a
   cases aB
   exact this
  ·
   refine⟨some jx,_,by have:=run_endLoop (P:=P) hl (by rw[hR];simp);rw[hR]at this;exact this,?_⟩
   obtain⟨V',z,T,h2,h3⟩:=ay (D:=D) (aa (.loop {R .done (some jx)with state:=.exhausted}) hl hM) om (Y _ u)
   have:=(bd D V' y pre bV hI T h2 h3).out L a _ aB (b7 L) z
   rw[hR]at this
   obtain⟨t,dd⟩:=a
   cases aB
   exact this
