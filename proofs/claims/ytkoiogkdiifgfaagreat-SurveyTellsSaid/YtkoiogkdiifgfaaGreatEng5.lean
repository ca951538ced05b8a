/-
 Weakening, loops, calls.
-/
import Derived.Test.YtkoiogkdiifgfaaGreatEng4
set_option linter.unusedSimpArgs false
set_option linter.unusedVariables false
namespace Go.Eng
open Go Go.RowKit
theorem zsn{P:Program}{Q:Exit→Act→World→Prop}{c:Code}{σ:Type}(I:σ→Act→World→Prop)(μ:σ→Nat){a:Act}{w:World}(x0:σ)(h₀:I x0 a w)
  (round: ∀x a w,I x a w→c.wp P (Exit.then (fun a' w'=> ∃x',I x' a' w'∧μ x'<μ x) Q) a w):(Code.loop c).wp P Q a w:=by
 intro b k cs
 have key: ∀m x a w,μ x=m→I x a w→
   ∃e a' w',Q e a' w'∧Arrives P (lone (b.at a (.code c:: .inLoop c::k)) cs w) b k cs e a' w':=by
  intro m
  induction m using Nat.strongRecOn with
  |_ m ih=>
   intro x a w hn hI
   obtain⟨e,a₁,w₁,hq,harr⟩:=round x a w hI b (.inLoop c::k) cs
   cases e with
   |normal=>
    obtain⟨x',hI₁,hlt⟩:=hq
    obtain⟨e₂,a₂,w₂,hq₂,harr₂⟩:=ih (μ x') (hn▸hlt) x' a₁ w₁ rfl hI₁
    exact⟨e₂,a₂,w₂,hq₂, .of_steps (Steps.trans harr (.one step_inLoop)) harr₂⟩
   |exit id=>exact⟨_,a₁,w₁,hq, .pass (x:= .inLoop c) rfl (fun _ _=> .inl (by simp)) harr⟩
   |goto l=>exact⟨_,a₁,w₁,hq, .pass (x:= .inLoop c) rfl (fun _ _=> .inl (by simp)) harr⟩
   |ret=>exact⟨_,a₁,w₁,hq, .pass (x:= .inLoop c) rfl (fun _ _=> .inl (by simp)) harr⟩
   |panic ch=>exact⟨_,a₁,w₁,hq, .pass (x:= .inLoop c) rfl (fun _ _=> .inl (by simp)) harr⟩
   |outgrown=>exact⟨_,a₁,w₁,hq, .pass (x:= .inLoop c) rfl (fun _ _=> .inl (by simp)) harr⟩
 obtain⟨e,a',w',hq,harr⟩:=key _ x0 a w rfl h₀
 exact⟨e,a',w',hq, .of_steps (.one step_loop) harr⟩
section
variable{P:Program}{tt:List (Nat×TI)}{ops:Array Oper}{Q:Exit→Act→World→Prop}{o:Oper}{rest:List Oper}
 {n:Nat} {F:z05} {C:List Nat} {O:Own} {nl:Nat} {V:Vw} {K:Act→World→Prop}
def mkF:List (Nat×SV)→z05
 |[]=>[]
 |(t,x)::r=>(t,⟨[],true,x⟩)::mkF r
def z52(F:z05):List (Nat×SV)→Prop
 |[]=>True
 |(t,x)::r=>opv F [] (.tmp t)=some x∧z52 F r
theorem z52.plain: ∀{l:List (Nat×SV)},z52 F l→zq3 F (mkF l)
 |[],_,t,e,h=>by simp[mkF,lk]at h
 |(u,x)::r,hs,t,e,h=>by
  simp only[mkF,z1l]at h
  by_cases he:u=t
  ·
   subst he
   simp only[if_true,Option.some.injEq]at h
   exact⟨x,h.symm,hs.1⟩
  ·
   simp only[he,if_false]at h
   exact z52.plain hs.2 t e h
def z3b(O:Own):Own→Prop
 |[]=>True
 |(l,c)::r=>lk O l=some c∧z3b O r
theorem z3b.lk: ∀{O':Own},z3b O O'→ ∀{l:Nat} {c:Cel},Eng.lk O' l=some c→Eng.lk O l=some c
 |[],_,l,c,h=>by simp[Eng.lk]at h
 |(u,x)::r,hs,l,c,h=>by
  simp only[z1l]at h
  by_cases he:u=l
  ·
   subst he
   simp only[if_true,Option.some.injEq]at h
   subst h
   exact hs.1
  ·
   simp only[he,if_false]at h
   exact z3b.lk hs.2 h
def z0u(nl:Nat):Own→Bool
 |[]=>true
 |(l,c)::r=>Nat.blt l nl&&(match c with| .lit cs _=>z0z nl cs| .pin m _=>Nat.blt m nl| .keep m _ _=>Nat.blt m nl|_=>true)&&z0u nl r
theorem z1s: ∀{O:Own},z0u nl O=true→ ∀{l:Nat} {c:Cel},Eng.lk O l=some c→l<nl∧(∀cs e,c= .lit cs e→z0z nl cs=true)∧(∀m b,c= .pin m b→m<nl)∧ ∀m b v,c= .keep m b v→m<nl
 |[],_,l,c,h=>by simp[Eng.lk]at h
 |(u,x)::r,hs,l,c,h=>by
  simp only[z0u,Bool.and_eq_true,z0e]at hs
  simp only[z1l]at h
  by_cases he:u=l
  ·
   subst he
   simp only[if_true,Option.some.injEq]at h
   subst h
   refine⟨hs.1.1,fun cs e hx=> ?_,fun m b hx=> ?_,fun m b v hx=> ?_⟩
   ·
    have:=hs.1.2
    rw[hx]at this
    exact this
   ·
    have:=hs.1.2
    rw[hx]at this
    exact z0e.1 this
   ·
    have:=hs.1.2
    rw[hx]at this
    exact z0e.1 this
  ·
   simp only[he,if_false]at h
   exact z1s hs.2 h
def z2f(nl:Nat):List (Nat×SV)→Bool
 |[]=>true
 |(_,x)::r=>x.ok nl&&z2f nl r
theorem zbe: ∀{l:List (Nat×SV)},z2f nl l=true→ ∀{t:Nat} {e:Ent},Eng.lk (mkF l) t=some e→e.x.ok nl=true
 |[],_,t,e,h=>by simp[mkF,Eng.lk]at h
 |(u,x)::r,hs,t,e,h=>by
  simp only[z2f,Bool.and_eq_true]at hs
  simp only[mkF,z1l]at h
  by_cases he:u=t
  ·
   subst he
   simp only[if_true,Option.some.injEq]at h
   subst h
   exact hs.1
  ·
   simp only[he,if_false]at h
   exact zbe hs.2 h
theorem Mem.weak{E:Env}{w:World}{O':Own}{nl':Nat}{V':Vw}(hm:Mem E O nl V w)(hO:z3b O O')(hok:z0u nl' O'=true)(hV:V'.le V):Mem E O' nl' V' w:=by
 refine⟨fun l cs e h=>hm.lit _ _ _ (hO.lk h),fun l e sz m xs h=>hm.row _ _ _ _ _ (hO.lk h),fun l l' c c' k h h'=>hm.sep l l' c c' k (hO.lk h) (hO.lk h'),
  fun k ob h=>hm.get k ob (hV.get k ob h), ?_,hm.os.trans hV.os,hm.tape.trans hV.tape,hm.output.trans hV.output,
  fun l c h=>(z1s hok h).1,fun l cs e h=>(z1s hok h).2.1 cs e rfl,fun l m b h=>⟨(hm.pin _ _ _ (hO.lk h)).1,(z1s hok h).2.2.1 m b rfl⟩,fun l k h=>hm.big _ _ (hO.lk h),
  fun l m b v h=>⟨(hm.kp _ _ _ _ (hO.lk h)).1,(hm.kp _ _ _ _ (hO.lk h)).2.1,(z1s hok h).2.2.2 m b v rfl⟩⟩
 intro l c k h hb
 have:=hm.off l c k (hO.lk h) hb
 cases hv:V'.get k with
 |none=>rfl
 |some ob=>rw[hV.get k ob hv]at this;cases this
theorem Frm.weak{E:Env}{tmps:Array Value}{l:List (Nat×SV)}{nl':Nat}(hf:Frm E n F C nl tmps)(hs:z52 F l)(hok:z2f nl' l=true):Frm E n (mkF l) [] nl' tmps:=by
 have h:=hf.plain hs.plain
 exact⟨h.size,h.val,h.wf,fun t e ht _=>zbe hok ht⟩
theorem zdg{l:List (Nat×SV)}{O':Own}{nl':Nat}{V':Vw}(h:KJ K n (mkF l) [] O' nl' V')(hs:z52 F l)(hO:z3b O O')(hok:(z2f nl' l&&z0u nl' O')=true)(hV:V'.le V):
  KJ K n F C O nl V:=by
 simp only[Bool.and_eq_true]at hok
 exact⟨fun E a w hd hf hm=>h.out E a w hd (hf.weak hs hok.1) (hm.weak hO hok.2 hV)⟩
def AtX{σ:Type}(n:Nat)(Fx:σ→List (Nat×SV))(Ox:σ→Own)(nl:Nat)(Vx:σ→Vw)(x:σ)(a:Act)(w:World):Prop:=
 ∃E,a.defers=[]∧Frm E n (mkF (Fx x)) [] nl a.tmps∧Mem E (Ox x) nl (Vx x) w
theorem atX{σ:Type}{Fx:σ→List (Nat×SV)}{Ox:σ→Own}{nl':Nat}{Vx:σ→Vw}(x:σ)(hs:z52 F (Fx x))(hO:z3b O (Ox x))(hok:(z2f nl' (Fx x)&&z0u nl' (Ox x))=true)(hV:(Vx x).le V):
  KJ (AtX n Fx Ox nl' Vx x) n F C O nl V:=by
 simp only[Bool.and_eq_true]at hok
 exact⟨fun E a w hd hf hm=>⟨E,hd,hf.weak hs hok.1,hm.weak hO hok.2 hV⟩⟩
theorem zcp{c:Code}{σ:Type}(Fx:σ→List (Nat×SV))(Ox:σ→Own)(nl':Nat)(Vx:σ→Vw)(I:σ→Prop)(μ:σ→Nat)(x0:σ)
  (h0:I x0) (hs:z52 F (Fx x0)) (hO:z3b O (Ox x0)) (hok:(z2f nl' (Fx x0)&&z0u nl' (Ox x0))=true) (hV:(Vx x0).le V)
  (round: ∀x,I x→KJ (c.wp P (Exit.then (fun a w=> ∃x',(AtX n Fx Ox nl' Vx x' a w∧I x')∧μ x'<μ x) Q)) n (mkF (Fx x)) [] (Ox x) nl' (Vx x)):
  KJ ((Code.loop c).wp P Q) n F C O nl V:=by
 constructor
 intro E a w hd hf hm
 refine zsn (fun x a w=>AtX n Fx Ox nl' Vx x a w∧I x) μ x0 ⟨(atX (n:=n) (C:=C) x0 hs hO hok hV).out E a w hd hf hm,h0⟩ ?_
 rintro x a w ⟨⟨E',hd',hf',hm'⟩,hI⟩
 exact(round x hI).out E' a w hd' hf' hm'
theorem j1m{σ:Type}{Fx:σ→List (Nat×SV)}{Ox:σ→Own}{nl':Nat}{Vx:σ→Vw}{I:σ→Prop}{m:Nat}{μ:σ→Nat}(x':σ)
  (hI:I x') (hμ:μ x'<m) (hs:z52 F (Fx x')) (hO:z3b O (Ox x')) (hok:(z2f nl' (Fx x')&&z0u nl' (Ox x'))=true) (hV:(Vx x').le V):
  KJ (fun a w=> ∃x',(AtX n Fx Ox nl' Vx x' a w∧I x')∧μ x'<m) n F C O nl V:=
 ⟨fun E a w hd hf hm=>⟨x',⟨(atX (n:=n) (C:=C) x' hs hO hok hV).out E a w hd hf hm,hI⟩,hμ⟩⟩
theorem j5k{σ:Type}{Fx:σ→List (Nat×SV)}{Ox:σ→Own}{nl':Nat}{Vx:σ→Vw}{I:σ→Prop}(x':σ)
  (hI:I x') (hs:z52 F (Fx x')) (hO:z3b O (Ox x')) (hok:(z2f nl' (Fx x')&&z0u nl' (Ox x'))=true) (hV:(Vx x').le V):
  KJ (fun a w=> ∃x',AtX n Fx Ox nl' Vx x' a w∧I x') n F C O nl V:=
 ⟨fun E a w hd hf hm=>⟨x',(atX (n:=n) (C:=C) x' hs hO hok hV).out E a w hd hf hm,hI⟩⟩
/-! Calls. -/
def z0j (P : Program) (f : Nat) : Prop := ∃ fn, P.funcs[f]? = some fn ∧ (fn.name == "runtime.NumGoroutine") = false ∧ fn.body.isNone = false
def z85(F:z05)(p:List (Nat×Bool)):List Operand→Option (List SV)
 |[]=>some []
 |x::r=>match opv F p x with
  |some s=>match z85 F p r with
   |some l=>some (s::l)
   |none=>none
  |none=>none
theorem z3h{E:Env}{a:Act}{p:List (Nat×Bool)}(hf:Frm E n F C nl a.tmps)(hg:z61 F p=true): ∀{xs:List Operand} {ss:List SV},z85 F p xs=some ss→
  xs.map a.eval=ss.map (SV.den E)∧z5u nl ss=true
 |[],ss,h=>by simp[z85]at h;subst h;exact⟨rfl,rfl⟩
 |x::r,ss,h=>by
  simp only[z85]at h
  split at h
  ·
   rename_i s hs
   split at h
   ·
    rename_i l hl
    simp only[Option.some.injEq]at h
    subst h
    obtain⟨h1,h2⟩:=z03 hf hg hs
    obtain⟨h3,h4⟩:=z3h hf hg hl
    exact⟨by simp[h1,h3],by simp[z5u,h2,h4]⟩
   · simp at h
  · simp at h
def znr(F:z05)(p:List (Nat×Bool))(x:Operand):Option (Nat×List SV):=
 match opv F p x with
 |some (.a (.fn f caps))=>some (f,caps.map fun q=> .a (.ptr q.1 q.2))
 |some (.a (.v (.func (.func f) first caps)))=>match first.toList with
  |[]=>some (f,caps.toList.map fun v=> .a (.v v))
  |_=>none
 |_=>none
def z4i(F:z05)(p:List (Nat×Bool)):Op→Option (Nat×List SV)
 | .call ⟨.value x,args,_⟩=>match znr F p x,z85 F p args.toList with
  |some (f,caps),some ss=>some (f,ss++caps)
  |_,_=>none
 |_=>none
theorem z1b{E:Env}{a:Act}{p:List (Nat×Bool)}{f:Nat}{ss:List SV}(hf:Frm E n F C nl a.tmps)(hg:z61 F p=true)(h:z4i F p o.op=some (f,ss))(hok:z0j P f)(w:World):
  (execOp a.eval o).run P w= .ok (.enter f (ss.map (SV.den E)).toArray) w∧z5u nl ss=true:=by
 unfold execOp
 cases hop:o.op with
 |call c=>
  obtain⟨callee,args,ts⟩:=c
  cases callee with
  |value x=>
   simp only[hop,z4i]at h
   split at h
   ·
    rename_i f' caps ss' hc ha
    simp only[Option.some.injEq,Prod.mk.injEq]at h
    obtain⟨rfl,rfl⟩:=h
    obtain⟨h1,h2⟩:=z3h hf hg ha
    obtain⟨fn,hfn,hnm,hbody⟩:=hok
    have key: ∃cv:Array Value,a.eval x= .func (.func f') #[] cv∧cv.toList=caps.map (SV.den E)∧z5u nl caps=true:=by
     unfold znr at hc
     split at hc
     ·
      rename_i f'' caps' hx
      simp only[Option.some.injEq,Prod.mk.injEq]at hc
      obtain⟨rfl,rfl⟩:=hc
      obtain⟨h3,h4⟩:=z03 hf hg hx
      refine⟨_,h3,by simp[SV.den,A.den], ?_⟩
      apply allOk'_iff.2
      intro s hs
      simp only[List.mem_map]at hs
      obtain⟨q,hq,rfl⟩:=hs
      simp only[SV.ok,A.ok,z5b]at h4
      simpa[SV.ok,A.ok,z0e]using h4 q hq
     ·
      rename_i f'' first caps' hx
      split at hc
      ·
       rename_i hfi
       have hfi':first= #[]:=by simpa using congrArg List.toArray hfi
       subst hfi'
       simp only[Option.some.injEq,Prod.mk.injEq]at hc
       obtain⟨rfl,rfl⟩:=hc
       obtain⟨h3,h4⟩:=z03 hf hg hx
       refine⟨_,h3, ?_, ?_⟩
       ·
        simp only[List.map_map]
        exact(List.map_id'' (fun _=>rfl) _).symm
       ·
        apply allOk'_iff.2
        intro s hs
        simp only[List.mem_map]at hs
        obtain⟨q,hq,rfl⟩:=hs
        rfl
      · simp at hc
     · simp at hc
    obtain⟨cv,hx,hcv,hcok⟩:=key
    refine⟨?_, ?_⟩
    ·
     have hargs:args.map a.eval++cv=((ss'++caps).map (SV.den E)).toArray:=by
      apply Array.ext'
      simp only[Array.toList_append,Array.toList_map,List.map_append,h1,hcv]
     have hnone:fn.body.isNone=false:=hbody
     simp only[resolve,hx,Deferred.ofValue,Sem.run_bind,Sem.run_pure,Result.andThen_ok,invoke,callFunc,run_program,hfn,hnm,hnone,Bool.false_eq_true,if_false,Array.empty_append,hargs]
    ·
     apply allOk'_iff.2
     intro s hs
     rcases List.mem_append.1 hs with hs|hs
     · exact allOk'_iff.1 h2 s hs
     · exact allOk'_iff.1 hcok s hs
   · simp at h
  |_=>simp[hop,z4i]at h
 |_=>simp[hop,z4i]at h
theorem j6n{p:List (Nat×Bool)}{g:Bool}{C':List Nat}{d f:Nat}{ss:List SV}(s:SV)
  (hg:gd ops F C o.guard=some (p,g,C')) (hv:z4i F p o.op=some (f,ss)) (hok:z0j P f) (hd:o.dst=some d) (hc:(Nat.blt d n&& !(z2w d C'))=true) (hs:s.ok nl=true)
  (hcall:g=true→ ∀E w,Mem E O nl V w→Calls P f (ss.map (SV.den E)).toArray w fun e w'=>e= .returned (s.den E)∧Below w.heap.size w w')
  (next:KJ (wpList P ops Q rest) n ((d,⟨p,g,s⟩)::F) C' O nl V):KJ (wpList P ops Q (o::rest)) n F C O nl V:=by
 constructor
 intro E a w hdf hf hm
 obtain⟨h1,h2,h3,h4⟩:=z18 hf hg
 simp only[Bool.and_eq_true,z0e,Bool.not_eq_true']at hc
 unfold wpList
 rw[h1]
 cases g with
 |true=>
  simp only[if_true]
  left
  obtain⟨hr,_⟩:=z1b h2 h3.symm hv hok w
  unfold Oper.wp
  rw[hr,Oper.upon_enter]
  refine(hcall rfl E w hm).mono ?_
  rintro e w' ⟨rfl,hb⟩
  show wpList P ops Q rest (a.put o.dst _) w'
  rw[hd]
  refine next.out E _ w' (by simp[Act.put,hdf]) ?_<|hm.keep hb
  have:=Frm.put (p:=p) (g:=true) h2 hc.1 hc.2 h3 h4 (fun _=>hs)
  simpa using this
 |false=>
  simp only[Bool.false_eq_true,if_false,hd]
  refine next.out E _ w (by simp[Act.put,hdf]) ?_ hm
  have:=Frm.put (p:=p) (g:=false) (s:=s) h2 hc.1 hc.2 h3 h4 (by simp)
  simpa using this
structure Vext(sz:Nat)(V V':Vw)(w:World):Prop where
 le:V.le V'
 get: ∀k o,V'.get k=some o→w.heap[k]? =some o∧(V.get k=some o∨sz≤k)
theorem Mem.ext{E:Env}{w w':World}{V':Vw}(hm:Mem E O nl V w)(h:Below w.heap.size w w')(hv:Vext w.heap.size V V' w'):Mem E O nl V' w':=by
 have hk:=hm.keep h
 refine⟨hk.lit,hk.row,hk.sep,fun k ob hh=>(hv.get k ob hh).1, ?_,hk.os.trans hv.le.os.symm,hk.tape.trans hv.le.tape.symm,hk.output.trans hv.le.output.symm,hk.lab,hk.labs,hk.pin,hk.big,hk.kp⟩
 intro l c k hl hb
 cases hq:V'.get k with
 |none=>rfl
 |some ob=>
  rcases(hv.get k ob hq).2 with h'|h'
  ·
   have:=hm.off l c k hl hb
   rw[h']at this
   cases this
  ·
   have:=hm.lt hl hb
   omega
theorem j3l{p:List (Nat×Bool)}{g:Bool}{C':List Nat}{d f:Nat}{ss:List SV}(Φ:Value→Vw→Prop)
  (hg:gd ops F C o.guard=some (p,g,C')) (hv:z4i F p o.op=some (f,ss)) (hok:z0j P f) (hd:o.dst=some d) (hc:(Nat.blt d n&& !(z2w d C'))=true)
  (hcall:g=true→ ∀E w,Mem E O nl V w→Calls P f (ss.map (SV.den E)).toArray w fun e w'=> ∃v V',e= .returned v∧Below w.heap.size w w'∧Vext w.heap.size V V' w'∧Φ v V')
  (next: ∀v V',V.le V'→(g=true→Φ v V')→KJ (wpList P ops Q rest) n ((d,⟨p,g, .a (.v v)⟩)::F) C' O nl V'):KJ (wpList P ops Q (o::rest)) n F C O nl V:=by
 constructor
 intro E a w hdf hf hm
 obtain⟨h1,h2,h3,h4⟩:=z18 hf hg
 simp only[Bool.and_eq_true,z0e,Bool.not_eq_true']at hc
 unfold wpList
 rw[h1]
 cases g with
 |true=>
  simp only[if_true]
  left
  obtain⟨hr,_⟩:=z1b h2 h3.symm hv hok w
  unfold Oper.wp
  rw[hr,Oper.upon_enter]
  refine(hcall rfl E w hm).mono ?_
  rintro e w' ⟨v,V',rfl,hb,hx,hΦ⟩
  show wpList P ops Q rest (a.put o.dst _) w'
  rw[hd]
  refine(next v V' hx.le (fun _=>hΦ)).out E _ w' (by simp[Act.put,hdf]) ?_<|hm.ext hb hx
  have:=Frm.put (p:=p) (g:=true) (s:= .a (.v v)) h2 hc.1 hc.2 h3 h4 (fun _=>rfl)
  simpa[SV.den,A.den]using this
 |false=>
  simp only[Bool.false_eq_true,if_false,hd]
  refine(next undef V (Vw.le.refl _) (by simp)).out E _ w (by simp[Act.put,hdf]) ?_ hm
  have:=Frm.put (p:=p) (g:=false) (s:= .a (.v undef)) h2 hc.1 hc.2 h3 h4 (by simp)
  simpa using this
end
end Go.Eng
