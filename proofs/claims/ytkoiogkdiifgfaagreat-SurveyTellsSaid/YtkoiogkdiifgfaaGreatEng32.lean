/-
 Ranges over functions. Code in a round's frame, or z5r such a range (a mark among the deferred calls): the forms of code in that mode; regions go over from the plain walk.
-/
import Derived.Test.YtkoiogkdiifgfaaGreatEng31
import Derived.RangeFuncFrom
import Derived.RangeFuncCalls
import Derived.OrdersIn
set_option linter.unusedSimpArgs false
set_option linter.unusedVariables false
namespace Go.Eng
open Go Go.RowKit
def Rd(ro:Option Nat):Fence:={Fence.wide with round:=ro}
abbrev z8j:=List Deferred→Exit→Act→World→Prop
def QH(Q:z8j):Exit→Act→World→Prop:=fun e a w=>Q a.defers e {a with defers:=[]} w
def RX(P:Program)(ro:Option Nat)(m:Nat)(ds:List Deferred)(c:Code)(Q:z8j):Act→World→Prop:=fun a w=>c.wpIn (Rd ro) m P (QH Q) {a with defers:=ds} w
def RQ(ds:List Deferred)(Q:z8j):Exit→Act→World→Prop:=fun e a w=>Q (a.defers++ds) e {a with defers:=[]} w
def zlm(Q:z8j):Prop:= ∀ds a w,¬Q ds .outgrown a w
def z6w:List Oper→Bool
 |[]=>true
 |o::r=>(match o.op with| .defer _=>false|_=>true)&&z6w r
theorem zfn{o:Oper}{r:List Oper}(h:z6w (o::r)=true): ∀c,o.op≠ .defer c:=by
 intro c hc
 simp[z6w,hc]at h
theorem zaf{o:Oper}{r:List Oper}(h:z6w (o::r)=true):z6w r=true:=by
 simp only[z6w,Bool.and_eq_true]at h
 exact h.2
theorem zjg: ∀{l:List Oper},z6w l=true→ ∀o∈l,∀c,o.op≠ .defer c
 |[],_,o,ho=>by simp at ho
 |x::r,h,o,ho=>by
  rcases List.mem_cons.1 ho with rfl|ho
  · exact zfn h
  · exact zjg (zaf h) o ho
def Act.more(a:Act)(ds:List Deferred):Act:={a with defers:=a.defers++ds}
theorem Act.more_put(a:Act)(ds:List Deferred)(d:Option Tmp)(v:Value):(Act.more a ds).put d v=Act.more (a.put d v) ds:=by cases d<;>rfl
theorem Act.more_eval(a:Act)(ds:List Deferred):(Act.more a ds).eval=a.eval:=by
 funext x
 cases x<;>rfl
section
variable{P:Program}{ops:Array Oper}{ro:Option Nat}{m:Nat}{Q0 Q1:Exit→Act→World→Prop}{ds:List Deferred}
theorem j0i{row:String}{args:Array Value}{w:World}{R:Value→World→Prop}(h:Rows P row args w R):RowsIn (Rd ro) m P row args w R:=fun c cs _=>
 let ⟨v,w',r,s⟩:=h c cs
 ⟨v,w',r,stepsIn_wide.2 s⟩
theorem zvw{f:FuncId}{args:Array Value}{w:World}{R:Ending→World→Prop}(h:Calls P f args w R):CallsIn (Rd ro) m P f args w R:=callsIn_wide (n:=m).2 h
theorem zqh{o:Oper}(hQ: ∀e a w,Q0 e a w→Q1 e (Act.more a ds) w)(hno: ∀a w,¬Q0 .outgrown a w)(ho: ∀c,o.op≠ .defer c){next next':Act→World→Prop}
  (hn: ∀a w,next a w→next' (Act.more a ds) w) {a:Act} {w:World} (h:o.wp P a w next Q0):o.wpIn (Rd ro) m P (Act.more a ds) w next' Q1:=by
 refine⟨fun _ _=>trivial, ?_⟩
 rw[Act.more_eval,Oper.semAt_eq _ _ _ ho]
 unfold Oper.wp at h
 have hp: ∀v w,next (a.put o.dst v) w→next' ((Act.more a ds).put o.dst v) w:=fun v w h=>by rw[Act.more_put];exact hn _ _ h
 generalize (execOp a.eval o).run P w=r at*
 cases r with
 |ok x w'=>
  cases x with
  |value v=>exact hp _ _ h
  |skip=>exact hp _ _ h
  |defer d=>
   have:({(Act.more a ds)with defers:=d::(Act.more a ds).defers}:Act).put o.dst undef=Act.more (({a with defers:=d::a.defers}:Act).put o.dst undef) ds:=by cases o.dst<;>rfl
   show next' _ _
   rw[this]
   exact hn _ _ h
  |enter f args=>
   refine⟨fun hd=>(by simp[Rd,Fence.wide]at hd),zvw (Calls.mono h ?_)⟩
   rintro e w'' he
   cases e with
   |returned v=>exact hp _ _ he
   |panicked ch=>exact hQ _ _ _ he
   |outgrown=>obtain⟨a',w3,hq⟩:=he;exact(hno _ _ hq).elim
  |row r args=>
   refine⟨fun hd=>(by simp[Rd,Fence.wide]at hd),j0i (Rows.mono h ?_)⟩
   intro v w'' he
   exact hp _ _ he
  |_=>exact h.elim
 |halt x w'=>
  cases x with
  |panic v=>exact hQ _ _ _ h
  |_=>exact h.elim
theorem zd8(hQ: ∀e a w,Q0 e a w→Q1 e (Act.more a ds) w)(hno: ∀a w,¬Q0 .outgrown a w): ∀(l:List Oper) (a:Act) (w:World),z6w l=true→wpList P ops Q0 l a w→wpListIn (Rd ro) m P ops Q1 l (Act.more a ds) w
 |[],a,w,_,h=>hQ _ _ _ h
 |o::r,a,w,hd,h=>by
  unfold wpList at h
  unfold wpListIn
  show if Region.wanted o (yielded ops a.tmps)then _ else _
  by_cases hw:Region.wanted o (yielded ops a.tmps)=true
  ·
   simp only[hw,if_true]at h⊢
   rcases h with h|⟨_,a',w',hq⟩
   · exact zqh hQ hno (zfn hd) (fun a w h=>zd8 hQ hno r a w (zaf hd) h) h
   · exact(hno _ _ hq).elim
  ·
   simp only[hw,if_false]at h⊢
   refine⟨fun _ _=>trivial, ?_⟩
   rw[Act.more_put]
   exact zd8 hQ hno r _ w (zaf hd) h
theorem j3d{i:Nat}(hQ: ∀e a w,Q0 e a w→Q1 e (Act.more a ds) w)(hno: ∀a w,¬Q0 .outgrown a w)(hd:z6w ops.toList=true){next next':Act→World→Prop}
  (hn: ∀a w,next a w→next' (Act.more a ds) w) {a:Act} {w:World} (h:wpOp P ops Q0 i next a w):wpOpIn (Rd ro) m P ops Q1 i next' (Act.more a ds) w:=by
 unfold wpOp at h
 unfold wpOpIn
 cases ho:ops[i]? with
 |none=>simp only[ho]at h⊢;exact hn _ _ h
 |some o=>
  simp only[ho]at h⊢
  have hdo: ∀c,o.op≠ .defer c:=zjg hd o (by
   rw[Array.getElem?_eq_some_iff]at ho
   obtain⟨hlt,rfl⟩:=ho
   simp)
  show if Region.wanted o (yielded ops a.tmps)=true then _ else _
  by_cases hw:Region.wanted o (yielded ops a.tmps)=true
  ·
   simp only[hw,if_true]at h⊢
   rcases h with h|⟨_,a',w',hq⟩
   · exact zqh hQ hno hdo hn h
   · exact(hno _ _ hq).elim
  ·
   simp only[hw,if_false]at h⊢
   refine⟨fun _ _=>trivial, ?_⟩
   rw[Act.more_put]
   exact hn _ _ h
theorem zrq{md:Region.Mode}(hQ: ∀e a w,Q0 e a w→Q1 e (Act.more a ds) w)(hno: ∀a w,¬Q0 .outgrown a w)(hd:z6w ops.toList=true):
  ∀(fuel:Nat) (listed:Array Bool) (a:Act) (w:World),wpAny P md ops Q0 fuel listed a w→wpAnyIn (Rd ro) m P md ops Q1 fuel listed (Act.more a ds) w
 |0,_,_,_,h=>⟨h.1,hQ _ _ _ h.2⟩
 |fuel+1,_,_,_,h=>⟨fun hr=>hQ _ _ _ (h.1 hr),fun i hi=>j3d hQ hno hd (fun a w h=>zrq hQ hno hd fuel _ a w h) (h.2 i hi)⟩
end
section
variable{P:Program}{tt:List (Nat×TI)}{ops:Array Oper}{Q:z8j}{o:Oper}{rest:List Oper}{ro:Option Nat}{m:Nat}{ds:List Deferred}
 {n:Nat} {F:z05} {C:List Nat} {O:Own} {nl:Nat} {V:Vw} {K:Act→World→Prop}
theorem j64(e:Exit)(a:Act)(w:World)(h:RQ ds Q e a w):QH Q e (Act.more a ds) w:=h
theorem zo2(hno:zlm Q)(a:Act)(w:World): ¬RQ ds Q .outgrown a w:=hno _ _ _
theorem rq{e:Exit}(h:KJ (Q ds e) n F C O nl V):KJ (RQ ds Q e) n F C O nl V:=
 ⟨fun E a w hd hf hm=>by
  have:=h.out E a w hd hf hm
  obtain⟨t,d⟩:=a
  cases hd
  exact this⟩
theorem zdn{a:Act}(hd:a.defers=[]):({a with defers:=ds}:Act)=Act.more a ds:=by
 obtain⟨t,d⟩:=a
 cases hd
 rfl
theorem zuc{e:Exit}{a:Act}{w:World}(hd:a.defers=[])(h:Q ds e a w):QH Q e {a with defers:=ds} w:=by
 obtain⟨t,d⟩:=a
 cases hd
 exact h
theorem z1j{x y:Code}(h:KJ (RX P ro m ds x (fun ds=>Exit.then (RX P ro m ds y Q) (Q ds))) n F C O nl V):KJ (RX P ro m ds (Code.seq x y) Q) n F C O nl V:=
 ⟨fun E a w hd hf hm=>wpIn_seq (wpIn_mono (h.out E a w hd hf hm) (fun e a' w' hq=>by cases e<;>exact hq))⟩
theorem zxj{id:Nat}{l:List Oper}(hno:zlm Q)(hd:z6w l=true)(h:KJ (wpList P l.toArray (RQ ds Q) l) n F C O nl V):KJ (RX P ro m ds (Code.region id l.toArray false) Q) n F C O nl V:=
 ⟨fun E a w hda hf hm=>by
  have:=zd8 (ro:=ro) (m:=m) (Q1:=QH Q) (ds:=ds) (j64) (zo2 hno) l a w hd (h.out E a w hda hf hm)
  unfold RX
  rw[zdn hda]
  exact wpIn_region_lit this⟩
theorem z3c{id:Nat}{c:Code}(h:KJ (RX P ro m ds c (fun ds=>Exit.inBlock id (Q ds))) n F C O nl V):KJ (RX P ro m ds (Code.block id c) Q) n F C O nl V:=
 ⟨fun E a w hd hf hm=>wpIn_block (wpIn_mono (h.out E a w hd hf hm) (fun e a' w' hq=>by
  cases e with
  |exit i=>
   unfold QH at hq⊢
   simp only[Exit.inBlock]at hq⊢
   split at hq
   · rename_i he;rw[if_pos he];exact hq
   · rename_i he;rw[if_neg he];exact hq
  |_=>exact hq))⟩
theorem zin{id:Nat}(h:KJ (Q ds (.exit id)) n F C O nl V):KJ (RX P ro m ds (Code.exit id) Q) n F C O nl V:=
 ⟨fun E a w hd hf hm=>wpIn_exit (zuc hd (h.out E a w hd hf hm))⟩
theorem zbx(h:KJ (Q ds .ret) n F C O nl V):KJ (RX P ro m ds Code.ret Q) n F C O nl V:=
 ⟨fun E a w hd hf hm=>wpIn_ret (zuc hd (h.out E a w hd hf hm))⟩
theorem z5i(h:KJ (Q ds .normal) n F C O nl V):KJ (RX P ro m ds Code.skip Q) n F C O nl V:=
 ⟨fun E a w hd hf hm=>wpIn_skip (zuc hd (h.out E a w hd hf hm))⟩
theorem z50{c:Operand}{x y:Code}{b:Bool}(hc:opv F [] c=some (.a (.v (.bool b))))(ht:b=true→KJ (RX P ro m ds x Q) n F C O nl V)(hf:b=false→KJ (RX P ro m ds y Q) n F C O nl V):
  KJ (RX P ro m ds (Code.cond c x y) Q) n F C O nl V:=
 ⟨fun E a w hd hfr hm=>by
  have h1:=(z03 hfr (by rfl) hc).1
  have:({a with defers:=ds}:Act).eval c= .bool b:=by rw[zdn hd,Act.more_eval];exact h1
  cases b with
  |true=>exact wpIn_cond_true this ((ht rfl).out E a w hd hfr hm)
  |false=>exact wpIn_cond_false this ((hf rfl).out E a w hd hfr hm)⟩
theorem j76{id:Nat}{l:List Oper}(hno:zlm Q)(hdf:z6w l=true)(sp:List Nat)(O0:Own)(hmix:P.follows .mixedOrders=true)(hO:z3b O O0)(hok:z0u nl O0=true)
  (h:TJ P l.toArray (RQ ds Q) sp O0 l.length (List.replicate l.length false) n F C O nl V):KJ (RX P ro m ds (Code.region id l.toArray true) Q) n F C O nl V:=by
 constructor
 intro E a w hd hf hm
 have hm1:Mem E O nl V {w with drawn:=w.drawn+1}:=hm.drawn _
 have h1:=h.out E a _ hd hf hm1 (hm1.weak hO hok (Vw.le.refl _))
 have h2:=z5c (sp:=sp) (M:=fun w=>Mem E O0 nl V w) _ _ _ _ h1
 have h3:=zrq (ro:=ro) (m:=m) (Q1:=NoPanic (QH Q)) (ds:=ds) (Q0:=NoPanic (RQ ds Q)) (fun e a w hq=>by cases e<;>exact hq) (fun a w hq=>hno _ _ _ hq) (by simpa using hdf) _ _ _ _ h2
 unfold RX
 rw[zdn hd]
 exact wpIn_mono (wpIn_region_any hmix (by simpa using h3)) NoPanic.imp
/-! A loop in this mode. -/
theorem zwn{p:Nat→Prop}: ∀k,p k→ ∃j,p j∧ ∀i,p i→j≤i:=by
 intro k
 induction k using Nat.strongRecOn with
 |_ k ih=>
  intro hk
  by_cases h: ∃i,i<k∧p i
  ·
   obtain⟨i,hi,hp⟩:=h
   exact ih i hi hp
  · exact⟨k,hk,fun i hp=>Nat.le_of_not_lt fun hlt=>h ⟨i,hlt,hp⟩⟩
open Classical in
noncomputable def leastM (p:Nat→Prop):Nat:=if h: ∃j,p j∧ ∀i,p i→j≤i then Classical.choose h else 0
theorem zel{p:Nat→Prop}{k:Nat}(h:p k):p (leastM p)∧ ∀i,p i→leastM p≤i:=by
 have h1:=zwn k h
 unfold leastM
 rw[dif_pos h1]
 exact Classical.choose_spec h1
theorem zma{Fc:Fence}{n:Nat}{Q:Exit→Act→World→Prop}{c:Code}{σ:Type}(I:σ→Act→World→Prop)(μ:σ→Nat){a:Act}{w:World}(x0:σ)(h₀:I x0 a w)
  (round: ∀x a w,I x a w→c.wpIn Fc n P (Exit.then (fun a' w'=> ∃x',I x' a' w'∧μ x'<μ x) Q) a w):(Code.loop c).wpIn Fc n P Q a w:=by
 refine wpIn_loop (fun a w=> ∃x,I x a w) (fun a w=>leastM fun k=> ∃x,I x a w∧μ x=k) ⟨x0,h₀⟩ ?_
 rintro a w ⟨x,hx⟩
 obtain⟨⟨x1,hx1,hm⟩,_⟩:=zel (p:=fun k=> ∃x,I x a w∧μ x=k) ⟨x,hx,rfl⟩
 refine wpIn_mono (round x1 a w hx1) ?_
 intro e a' w' hq
 cases e with
 |normal=>
  obtain⟨x',hx',hlt⟩:=hq
  refine⟨⟨x',hx'⟩, ?_⟩
  rw[←hm]
  exact Nat.lt_of_le_of_lt ((zel (p:=fun k=> ∃x,I x a' w'∧μ x=k) ⟨x',hx',rfl⟩).2 _ ⟨x',hx',rfl⟩) hlt
 |_=>exact hq
theorem ze8{c:Code}{σ:Type}(ts ls:List Nat){K0:List (Nat×SV)}{O0:Own}(hk:zj4 F ts []=some K0)(ho:z8l O ls []=some O0)
  (Fx:σ→List (Nat×SV)) (Ox:σ→Own) (Vx:σ→Vw) (I:σ→Prop) (μ:σ→Nat) (x0:σ)
  (h0:I x0) (hs:z52 F (Fx x0++K0)) (hO:z3b O (Ox x0++O0)) (hok:(z2f nl (Fx x0++K0)&&z0u nl (Ox x0++O0))=true) (hV:(Vx x0).le V)
  (round: ∀x,I x→KJ (RX P ro m ds c (fun ds'=>Exit.then (fun a w=> ∃x',(AtX n (fun x=>Fx x++K0) (fun x=>Ox x++O0) nl Vx x' a w∧I x')∧μ x'<μ x∧ds'=ds) (Q ds'))) n (mkF (Fx x++K0)) [] (Ox x++O0) nl (Vx x)):
  KJ (RX P ro m ds (Code.loop c) Q) n F C O nl V:=by
 constructor
 intro E a w hd hf hm
 refine zma (fun x a w=>a.defers=ds∧AtX n (fun x=>Fx x++K0) (fun x=>Ox x++O0) nl Vx x {a with defers:=[]} w∧I x) μ x0 ⟨rfl, ?_,h0⟩ ?_
 ·
  have:=(atX (n:=n) (C:=C) (Fx:=fun x=>Fx x++K0) (Ox:=fun x=>Ox x++O0) (Vx:=Vx) x0 hs hO hok hV).out E a w hd hf hm
  obtain⟨t,d⟩:=a
  cases hd
  exact this
 ·
  rintro x ⟨t,d⟩ w ⟨rfl,⟨E',hd',hf',hm'⟩,hI⟩
  refine wpIn_mono ((round x hI).out E' {tmps:=t,defers:=[]} w rfl hf' hm') ?_
  intro e a' w' hq
  cases e with
  |normal=>
   obtain⟨x',⟨h1,h2⟩,h3,h4⟩:=hq
   exact⟨x',⟨h4,h1,h2⟩,h3⟩
  |_=>exact hq
theorem z6y{σ:Type}{Fx:σ→List (Nat×SV)}{Ox:σ→Own}{nl':Nat}{Vx:σ→Vw}{I:σ→Prop}{mm:Nat}{μ:σ→Nat}(x':σ)
  (hI:I x') (hμ:μ x'<mm) (hs:z52 F (Fx x')) (hO:z3b O (Ox x')) (hok:(z2f nl' (Fx x')&&z0u nl' (Ox x'))=true) (hV:(Vx x').le V):
  KJ (fun a w=> ∃x',(AtX n Fx Ox nl' Vx x' a w∧I x')∧μ x'<mm∧ds=ds) n F C O nl V:=
 ⟨fun E a w hd hf hm=>⟨x',⟨(atX (n:=n) (C:=C) x' hs hO hok hV).out E a w hd hf hm,hI⟩,hμ,rfl⟩⟩
/-! Entering and leaving. -/
def zpg(m:Nat)(P:Program)(fn:Func)(R:Ending→World→Prop):z8j:=fun ds e a w=>bodyPostM (Rd none) m P fn R e {a with defers:=ds} w
theorem zkc(m:Nat){f:Nat}{fn:Func}{c:Code}{R:Ending→World→Prop}{w:World}{E:Env}(ss:List SV)(hfn:P.funcs[f]? =some fn)(hb:fn.body=some c)(hn:fn.ntmps=n)
  (hm:Mem E O nl V w) (hok:z5u nl ss=true) (hle:Nat.ble ss.length n=true)
  (h:KJ (RX P none m [] c (zpg m P fn R)) n (zvh ss 0) [] O nl V):CallsIn (Rd none) m P f (ss.map (SV.den E)).toArray w R:=by
 refine callsIn_of_wp_marks hfn hb trivial ?_
 have h1:=h.out E {tmps:=(ss.map (SV.den E)).toArray++Array.replicate (fn.ntmps - (ss.map (SV.den E)).toArray.size) undef,defers:=[]} w rfl
 refine wpIn_mono (h1 ?_ hm) fun e a w hq=>hq
 have hle':ss.length≤n:=by simpa using hle
 subst hn
 refine⟨by simp;omega, ?_, ?_, ?_⟩
 ·
  intro t e ht
  obtain⟨s,_,h2,rfl⟩:=z93 ss 0 t e ht
  simp only[Nat.sub_zero]at h2
  obtain⟨hlt,hge⟩:=List.getElem?_eq_some_iff.1 h2
  simp[Array.getElem?_append,hlt,hge]
 ·
  intro t e ht
  obtain⟨s,_,h2,rfl⟩:=z93 ss 0 t e ht
  exact⟨rfl,by simp⟩
 ·
  intro t e ht _
  obtain⟨s,_,h2,rfl⟩:=z93 ss 0 t e ht
  exact allOk'_iff.1 hok s<|List.mem_of_getElem? h2
theorem zck{tt:List (Nat×TI)}{E:Env}{a:Act}{w:World}{fn:Func}{ss:List SV}(htt:z0s P tt)(hr:z44 tt F O fn.results.toList=some ss)(hf:Frm E n F C nl a.tmps)(hm:Mem E O nl V w):
  (results fn a.tmps).run P w= .ok (zku (ss.map (SV.den E))) w∧ ∀s∈ss,s.ok nl=true:=by
 obtain⟨h1,h2⟩:=z75 htt hf hm hr
 refine⟨?_,h2⟩
 unfold results
 rw[show fn.results=fn.results.toList.toArray by simp]
 have h1':=h1
 unfold zir at h1'
 simp only[List.mapM_toArray,Sem.run_bind,Sem.run_map]
 erw [h1']
 simp only[Result.andThen_ok,Sem.run_pure]
 congr 1
 generalize ss.map (SV.den E)=l
 match l with
 |[]=>rfl
 |[v]=>rfl
 |v::u::r=>simp[zku]
theorem zoj(htt:z0s P tt){fn:Func}{R:Ending→World→Prop}{ss:List SV}(hr:z44 tt F O fn.results.toList=some ss)
  (h: ∀E w,Mem E O nl V w→(∀s∈ss,s.ok nl=true)→R (.returned (zku (ss.map (SV.den E)))) w) (e:Exit) (he:e= .normal∨e= .ret):KJ (zpg m P fn R [] e) n F C O nl V:=by
 constructor
 intro E a w hd hf hm
 obtain⟨h3,h2⟩:=zck htt hr hf hm
 rcases he with rfl|rfl
 · exact⟨_,h3,h E w hm h2⟩
 · exact⟨_,h3,h E w hm h2⟩
theorem zei(htt:z0s P tt){fn:Func}{R:Ending→World→Prop}{ss:List SV}(hr:z44 tt F O fn.results.toList=some ss)
  (h: ∀E w,Mem E O nl V w→(∀s∈ss,s.ok nl=true)→R (.returned (zku (ss.map (SV.den E)))) w):KJ (zpg m P fn R [] .ret) n F C O nl V:=zoj htt hr h _ (.inr rfl)
theorem zzk(htt:z0s P tt){fn:Func}{R:Ending→World→Prop}{ss:List SV}(hr:z44 tt F O fn.results.toList=some ss)
  (h: ∀E w,Mem E O nl V w→(∀s∈ss,s.ok nl=true)→R (.returned (zku (ss.map (SV.den E)))) w):KJ (zpg m P fn R [] .normal) n F C O nl V:=zoj htt hr h _ (.inl rfl)
def zkm(D:Nat):List Deferred:=[{target:= .collected D,args:= #[]}]
theorem Mem.shut{E:Env}{w:World}(hm:Mem E O nl V w){D:Nat}{o:Obj}(hD:V.get D=some o)(o':Obj):Mem E O nl (V.del D) (w.putObj D o'):=by
 have hot: ∀k,k≠D→(w.putObj D o').heap[k]? =w.heap[k]? :=fun k hk=>World.putObj_heap_other hk
 have hne: ∀l c k,lk O l=some c→blk E l c=some k→k≠D:=fun l c k h hk he=>by
  have:=hm.off l c k h hk
  rw[he,hD]at this
  cases this
 refine⟨fun l cs e h=> ?_,fun l e sz k xs h=> ?_,hm.sep,fun k ob hk=> ?_,fun l c k h hk=> ?_,hm.os,hm.tape,hm.output,hm.lab,hm.labs,hm.pin,fun l k h=>by simpa using hm.big l k h,hm.kp⟩
 ·
  rw[hot _ (hne l _ _ h rfl)]
  exact hm.lit l cs e h
 · exact z1n (hm.row _ _ _ _ _ h) fun k hk=>hot k (hne l _ _ h hk)
 ·
  simp only[Vw.del]at hk
  split at hk
  · cases hk
  · rename_i hne;rw[hot k hne];exact hm.get k ob hk
 ·
  have:=hm.off l c k h hk
  simp only[Vw.del]
  split
  · rfl
  · exact this
theorem zrv(htt:z0s P tt){fn:Func}{R:Ending→World→Prop}{ss:List SV}{D:Nat}(hr:z44 tt F O fn.results.toList=some ss)(hD:V.get D=some (.deferred (some [])))
  (h: ∀E w,Mem E O nl (V.del D) w→(∀s∈ss,s.ok nl=true)→R (.returned (zku (ss.map (SV.den E)))) w) (e:Exit) (he:e= .normal∨e= .ret):KJ (zpg m P fn R (zkm D) e) n F C O nl V:=by
 constructor
 intro E a w hd hf hm
 have hm':=hm.shut hD (.deferred none)
 obtain⟨h3,h2⟩:=zck htt hr hf hm'
 have key:LeavesInM (Rd none) m P fn a.tmps R (zkm D) .returning w:=
  ⟨by simp, .inl ⟨D,_,rfl,run_takeDeferred (hm.get D _ hD),_,h3,h E _ hm' h2⟩⟩
 rcases he with rfl|rfl
 · exact key
 · exact key
theorem Rr{id:Nat}{l:List Oper}(h:KJ (wpList P l.toArray (RQ ds Q) l) n F C O nl V)(hno:zlm Q:=by intro _ _ w1 h1;first|exact h1|(obtain⟨h2,_⟩:=h1;cases h2;done)|(obtain⟨⟨_,h2⟩,_⟩:=h1;cases h2;done)|(obtain⟨⟨_,h2,_⟩,_⟩:=h1;cases h2;done)|(obtain⟨_,h2,_⟩:=h1;cases h2;done)|(obtain⟨_,_,h2,_⟩:=h1;cases h2;done)|(obtain⟨_,_,_,h2,_⟩:=h1;cases h2;done)|(rcases h1 with⟨⟨_,_,h2,_⟩|⟨_,h2⟩,_⟩<;>cases h2;done)|(exact nor _ h1))(hd:z6w l=true:=by rfl):KJ (RX P ro m ds (Code.region id l.toArray false) Q) n F C O nl V:=zxj hno hd h
end
end Go.Eng
