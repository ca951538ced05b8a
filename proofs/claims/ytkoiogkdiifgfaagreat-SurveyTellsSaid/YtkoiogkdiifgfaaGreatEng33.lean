/-
 Ranges over functions, further: an iterator's call of what it is handed; the range itself.
-/
import Derived.Test.YtkoiogkdiifgfaaGreatEng32
import Derived.RangeFuncFrom
set_option linter.unusedSimpArgs false
set_option linter.unusedVariables false
namespace Go.Eng
open Go Go.RowKit
section
variable{P:Program}{tt:List (Nat×TI)}{ops:Array Oper}{Q:z8j}{o:Oper}{rest:List Oper}{ro:Option Nat}{m:Nat}{ds:List Deferred}
 {n:Nat} {F:z05} {C:List Nat} {O:Own} {nl:Nat} {V:Vw} {K:Act→World→Prop}
def spl:Nat→List Oper→List Oper→Option (List Oper×Oper×List Oper)
 |_,_,[]=>none
 |0,acc,o::r=>some (acc.reverse,o,r)
 |k+1,acc,o::r=>spl k (o::acc) r
theorem zz8: ∀(k:Nat) (acc l:List Oper) {l1 l2:List Oper} {o:Oper},spl k acc l=some (l1,o,l2)→acc.reverse++l=l1++o::l2
 |_,_,[],_,_,_,h=>by cases ‹Nat›<;>simp[spl]at h
 |0,acc,x::r,_,_,_,h=>by simp[spl]at h;obtain⟨rfl,rfl,rfl⟩:=h;rfl
 |k+1,acc,x::r,_,_,_,h=>by
  have:=zz8 k (x::acc) r h
  simpa using this
theorem zb2{Q1:Exit→Act→World→Prop}{r:List Oper}: ∀(l:List Oper) (a:Act) (w:World),wpListIn (Rd ro) m P ops (Exit.then (wpListIn (Rd ro) m P ops Q1 r) Q1) l a w→wpListIn (Rd ro) m P ops Q1 (l++r) a w
 |[],a,w,h=>h
 |o::l,a,w,h=>by
  unfold wpListIn at h
  show wpListIn (Rd ro) m P ops Q1 (o::(l++r)) a w
  unfold wpListIn
  by_cases hw:Region.wanted o (yielded ops a.tmps)=true
  ·
   simp only[hw,if_true]at h⊢
   refine⟨h.1, ?_⟩
   have h2:=h.2
   have ih:=fun a w=>zb2 (Q1:=Q1) (r:=r) l a w
   generalize (o.semAt (Rd ro).round a.eval).run P w=q at*
   cases q with
   |ok x w'=>
    cases x with
    |value v=>exact ih _ _ h2
    |skip=>exact ih _ _ h2
    |defer d=>exact ih _ _ h2
    |enter f args=>exact⟨h2.1,CallsIn.mono h2.2 (fun e w'' he=>by cases e<;>first|exact ih _ _ he|exact he)⟩
    |row s args=>exact⟨h2.1,RowsIn.mono h2.2 (fun v w'' he=>ih _ _ he)⟩
    |round l f tmps assign body=>exact⟨h2.1,RoundIn.mono h2.2 (fun e w'' he=>by cases e<;>first|exact ih _ _ he|exact he)⟩
    |_=>exact h2
   |halt x w'=>cases x<;>exact h2
  ·
   simp only[hw,if_false]at h⊢
   exact⟨h.1,zb2 l _ _ h.2⟩
def RY(P:Program)(ro:Option Nat)(m:Nat)(ops:Array Oper)(ds:List Deferred)(Q:z8j)(l:List Oper):Exit→Act→World→Prop:=
 Exit.then (fun a w=>wpListIn (Rd ro) m P ops (QH Q) l (Act.more a ds) w) (RQ ds Q)
theorem zeb{id:Nat}{l l1 l2:List Oper}{oy:Oper}(k:Nat)(hno:zlm Q)(hs:spl k [] l=some (l1,oy,l2))(hd:z6w l1=true)
  (h:KJ (wpList P l.toArray (RY P ro m l.toArray ds Q (oy::l2)) l1) n F C O nl V):KJ (RX P ro m ds (Code.region id l.toArray false) Q) n F C O nl V:=
 ⟨fun E a w hda hf hm=>by
  have h1:=zd8 (ro:=ro) (m:=m) (Q0:=RY P ro m l.toArray ds Q (oy::l2)) (Q1:=Exit.then (wpListIn (Rd ro) m P l.toArray (QH Q) (oy::l2)) (QH Q)) (ds:=ds) (fun e a w hq=>by cases e<;>exact hq) (fun a w hq=>hno _ _ _ hq) l1 a w hd (h.out E a w hda hf hm)
  have h2:=zb2 l1 _ _ h1
  have h3:=zz8 k [] l hs
  simp only[List.reverse_nil,List.nil_append]at h3
  unfold RX
  rw[zdn hda]
  refine wpIn_region_lit ?_
  rw[h3]at h2⊢
  exact h2⟩
theorem ry(l:List Oper)(h:KJ (fun a w=>wpListIn (Rd ro) m P ops (QH Q) l (Act.more a ds) w) n F C O nl V):KJ (RY P ro m ops ds Q l .normal) n F C O nl V:=⟨h.out⟩
theorem zsc{l:List Oper}(hno:zlm Q)(hd:z6w l=true)(h:KJ (wpList P ops (RQ ds Q) l) n F C O nl V):KJ (fun a w=>wpListIn (Rd ro) m P ops (QH Q) l (Act.more a ds) w) n F C O nl V:=
 ⟨fun E a w hda hf hm=>zd8 (ro:=ro) (m:=m) (Q1:=QH Q) (ds:=ds) j64 (zo2 hno) l a w hd (h.out E a w hda hf hm)⟩
theorem zu8{l2:List Oper}{oy:Oper}{d lq:Nat}{ss:List SV}(Ψ:Bool→Vw→Prop)(hg:oy.guard=none)(hd:oy.dst=some d)(hc:Nat.blt d n=true)
  (hv:z51 F [] oy.op=some (.func (.yield lq) #[] #[],ss))
  (hY: ∀E w,V.le (vw w)→YieldAt (Rd ro) (m - 1) P lq (ss.map (SV.den E)).toArray w (fun e w'=> ∃b V',e= .returned (.bool b)∧V'.le (vw w')∧Ψ b V'))
  (next: ∀b V',Ψ b V'→KJ (fun a w=>wpListIn (Rd ro) m P ops (QH Q) l2 (Act.more a ds) w) n ((d,⟨[],true, .a (.v (.bool b))⟩)::F) [] [] nl V'):
  KJ (fun a w=>wpListIn (Rd ro) m P ops (QH Q) (oy::l2) (Act.more a ds) w) n F [] [] nl V:=by
 constructor
 intro E a w hda hf hm
 unfold wpListIn
 have hw:Region.wanted oy (yielded ops (Act.more a ds).tmps)=true:=by simp[Region.wanted,hg]
 rw[if_pos hw]
 obtain⟨fn,tmps,assign,body,hy,hR⟩:=hY E w hm.leV
 refine⟨fun _ _=>trivial, ?_⟩
 have hnd: ∀c,oy.op≠ .defer c:=fun c hc'=>by simp[hc',z51]at hv
 rw[Act.more_eval,Oper.semAt_eq _ _ _ hnd]
 have hrun:(execOp a.eval oy).run P w= .ok (.round lq fn tmps assign body) w:=by
  unfold execOp
  cases hop:oy.op with
  |call c=>
   obtain⟨callee,args,ts⟩:=c
   cases callee with
   |value x=>
    simp only[hop,z51]at hv
    split at hv
    ·
     rename_i fv' ss' hx ha
     simp only[Option.some.injEq,Prod.mk.injEq]at hv
     obtain⟨rfl,rfl⟩:=hv
     obtain⟨h1,_⟩:=z3h hf rfl ha
     obtain⟨h3,_⟩:=z03 hf (p:=[]) rfl hx
     have hargs:args.map a.eval=(ss'.map (SV.den E)).toArray:=by
      apply Array.ext'
      simp only[Array.toList_map,h1]
     have hx':a.eval x= .func (.yield lq) #[] #[]:=h3
     simp only[resolve,hx',Deferred.ofValue,Sem.run_bind,Sem.run_pure,Result.andThen_ok,invoke,hargs,Array.empty_append]
     exact hy
    · simp at hv
   |_=>simp[hop,z51]at hv
  |_=>simp[hop,z51]at hv
 rw[hrun]
 refine⟨fun hd=>(by simp[Rd,Fence.wide]at hd),hR.mono ?_⟩
 rintro e w' ⟨b,V',rfl,hV',hΨ⟩
 show wpListIn (Rd ro) m P ops (QH Q) l2 ((Act.more a ds).put oy.dst (.bool b)) w'
 rw[Act.more_put,hd]
 have hm':Mem E [] nl V' w':=j42 E nl hV'
 refine(next b V' hΨ).out E _ w' (by simp[Act.put,hda]) ?_ hm'
 have:=hf.put (d:=d) (p:=[]) (g:=true) (s:= .a (.v (.bool b))) (z0e.1 hc) rfl rfl (fun q hq=>by cases hq) (fun _=>rfl)
 simpa[Act.put,SV.den,A.den]using this
/-! The range. -/
theorem Mem.own_cells{E:Env}{w:World}(hm:Mem E O nl V w){l:Nat}{c:Cel}{k:Nat}(hl:lk O l=some c)(hb:blk E l c=some k): ∃o:Obj,w.heap[k]? =some o∧o.isCells=true:=by
 cases c with
 |lit cs e=>
  simp only[blk,Option.some.injEq]at hb
  subst hb
  exact⟨_,hm.lit _ _ _ hl,rfl⟩
 |row e sz k' xs=>
  have hr:=hm.row _ _ _ _ _ hl
  simp only[blk]at hb
  rcases hr.2 with⟨hv,_⟩|⟨g,cap,cur,hv,_,hg,_⟩
  · rw[hv]at hb;simp[Value.ownBlock]at hb
  ·
   rw[hv]at hb
   simp only[Value.ownBlock,Option.some.injEq]at hb
   subst hb
   exact⟨_,hg,rfl⟩
 |gone=>simp[blk]at hb
 |pin _ _=>simp[blk]at hb
 |size _=>simp[blk]at hb
 |keep _ _ _=>simp[blk]at hb
theorem Mem.abides{E:Env}{w w':World}{row:Option Nat}(hm:Mem E O nl V w)(hg:w.grownBy w' row)(hr: ∀r,row=some r→V.get r=none∧ ∃o:Obj,w.heap[r]? =some o∧o.isCells=false):Mem E O nl V w':=by
 have hlt: ∀{k:Nat} {o:Obj},w.heap[k]? =some o→k<w.heap.size:=fun h=>(Array.getElem?_eq_some_iff.1 h).1
 have hown: ∀{l:Nat} {c:Cel} {k:Nat},lk O l=some c→blk E l c=some k→w'.heap[k]? =w.heap[k]? :=fun{l c k} hl hb=>by
  obtain⟨o,ho,hc⟩:=hm.own_cells hl hb
  refine hg.block k (hlt ho) fun e=> ?_
  obtain⟨_,o',ho',hc'⟩:=hr k e.symm
  rw[ho]at ho';cases ho';rw[hc]at hc';cases hc'
 refine⟨fun l cs e h=>by rw[hown h rfl];exact hm.lit _ _ _ h,fun l e sz k xs h=>z1n (hm.row _ _ _ _ _ h) fun k hk=>hown h hk,hm.sep,fun k ob hk=> ?_,hm.off,hg.os.trans hm.os,hg.tape.trans hm.tape,hg.output.trans hm.output,hm.lab,hm.labs,hm.pin,
  fun l k h=>Nat.le_trans (hm.big l k h) hg.size,hm.kp⟩
 have h1:=hm.get k ob hk
 refine(hg.block k (hlt h1) (fun e=> ?_)).trans h1
 rw[(hr k e.symm).1]at hk
 cases hk
open Classical in
noncomputable def fullV (E:Env) (O:Own) (w:World):Vw:=⟨fun k=>if∃l c,lk O l=some c∧blk E l c=some k then none else w.heap[k]?,w.os,w.tape,w.output⟩
theorem Mem.full{E:Env}{w:World}(hm:Mem E O nl V w):Mem E O nl (fullV E O w) w∧V.le (fullV E O w):=by
 refine⟨⟨hm.lit,hm.row,hm.sep,fun k o hk=> ?_,fun l c k h hk=> ?_,rfl,rfl,rfl,hm.lab,hm.labs,hm.pin,hm.big,hm.kp⟩,fun k o hk=> ?_,hm.os,hm.tape,hm.output⟩
 ·
  simp only[fullV]at hk
  split at hk
  · cases hk
  · exact hk
 ·
  simp only[fullV]
  rw[if_pos ⟨l,c,h,hk⟩]
 ·
  simp only[fullV]
  rw[if_neg,hm.get k o hk]
  rintro⟨l,c,h,hb⟩
  rw[hm.off l c k h hb]at hk
  cases hk
theorem Mem.full_rest{E:Env}{w w':World}(hm:Mem E O nl V w)(h:(fullV E O w).le (vw w')){k:Nat}{o:Obj}(hk:w.heap[k]? =some o)(hc:o.isCells=false):w'.heap[k]? =some o:=by
 refine h.get k o ?_
 simp only[fullV]
 rw[if_neg,hk]
 rintro⟨l,c,h,hb⟩
 obtain⟨o',ho',hc'⟩:=hm.own_cells h hb
 rw[hk]at ho';cases ho';rw[hc]at hc';cases hc'
theorem Mem.drop{E:Env}{w:World}{k:Nat}(hm:Mem E ((nl, .size k)::O) (nl+1) V w)(hok:z0u nl O=true):Mem E O nl V w:=by
 have h1: ∀{l:Nat} {c:Cel},lk O l=some c→lk ((nl,Cel.size k)::O) l=some c:=fun{l c} h=>by
  rw[z22 _ _ (fun e=>by have:=(z1s hok h).1;omega)]
  exact h
 refine⟨fun l cs e h=>hm.lit _ _ _ (h1 h),fun l e sz k xs h=>hm.row _ _ _ _ _ (h1 h),fun l l' c c' k h h'=>hm.sep l l' c c' k (h1 h) (h1 h'),hm.get,fun l c k h hb=>hm.off l c k (h1 h) hb,hm.os,hm.tape,hm.output,
  fun l c h=>(z1s hok h).1,fun l cs e h=>(z1s hok h).2.1 cs e rfl,fun l m b h=>⟨(hm.pin _ _ _ (h1 h)).1,(z1s hok h).2.2.1 m b rfl⟩,fun l k h=>hm.big _ _ (h1 h),
  fun l m b v h=>⟨(hm.kp _ _ _ _ (h1 h)).1,(hm.kp _ _ _ _ (h1 h)).2.1,(z1s hok h).2.2.2 m b v rfl⟩⟩
theorem zci{f:Nat}(h:z0j P f)(args:Array Value)(w:World):(callFunc f args).run P w= .ok (.enter f args) w:=by
 obtain⟨fn,hfn,hnm,hbody⟩:=h
 simp only[callFunc,Sem.run_bind,run_program,Result.andThen_ok,hfn,hnm,hbody,Bool.false_eq_true,if_false,Sem.run_pure]
/-! What one has written out in plain values: blocks of known cells go over into the view, rows stay one's own. -/
def A.pl(E:Env)(x:A):A:= .v (x.den E)
def SV.pl(E:Env):SV→SV
 | .a x=> .a (x.pl E)
 | .agg cs=> .agg (cs.map (A.pl E))
 | .tup xs=> .tup (xs.map (A.pl E))
theorem SV.pl_den(E E':Env)(x:SV):(x.pl E).den E'=x.den E:=by
 have h: ∀cs:List A,(cs.map (A.pl E)).map (A.den E')=cs.map (A.den E):=fun cs=>by
  rw[List.map_map];rfl
 cases x with
 |a x=>rfl
 |agg cs=>simp only[SV.pl,SV.den,h]
 |tup cs=>simp only[SV.pl,SV.den,h]
theorem SV.pl_ok(E:Env)(nl:Nat)(x:SV):(x.pl E).ok nl=true:=by
 have h: ∀cs:List A,z0z nl (cs.map (A.pl E))=true:=fun cs=>z0o.2 (fun y hy=>by
  obtain⟨z,_,rfl⟩:=List.mem_map.1 hy
  rfl)
 cases x with
 |a x=>rfl
 |agg cs=>exact h cs
 |tup cs=>exact h cs
def plF(E:Env):List (Nat×SV)→List (Nat×SV)
 |[]=>[]
 |(t,x)::r=>(t,x.pl E)::plF E r
theorem Frm.pl{E E':Env}{nl':Nat}{tmps:Array Value}(l:List (Nat×SV))(hf:Frm E n (mkF l) [] nl tmps):Frm E' n (mkF (plF E l)) [] nl' tmps:=by
 have key: ∀(l:List (Nat×SV)) {t:Nat} {e:Ent},lk (mkF (plF E l)) t=some e→ ∃e0,lk (mkF l) t=some e0∧e=⟨e0.path,e0.g,e0.x.pl E⟩:=by
  intro l
  induction l with
  |nil=>intro t e h;simp[plF,mkF,lk]at h
  |cons q r ih=>
   intro t e h
   obtain⟨u,x⟩:=q
   simp only[plF,mkF,z1l]at h⊢
   by_cases hu:u=t
   ·
    simp only[hu,if_true,Option.some.injEq]at h⊢
    exact⟨_,rfl,h.symm⟩
   ·
    simp only[hu,if_false]at h⊢
    exact ih h
 have plain: ∀(l:List (Nat×SV)) {t:Nat} {e:Ent},lk (mkF l) t=some e→e.path=[]∧e.g=true:=by
  intro l
  induction l with
  |nil=>intro t e h;simp[mkF,lk]at h
  |cons q r ih=>
   intro t e h
   obtain⟨u,x⟩:=q
   simp only[mkF,z1l]at h
   by_cases hu:u=t
   ·
    simp only[hu,if_true,Option.some.injEq]at h
    subst h
    exact⟨rfl,rfl⟩
   ·
    simp only[hu,if_false]at h
    exact ih h
 refine⟨hf.size,fun t e h=> ?_,fun t e h=> ?_,fun t e h hg=> ?_⟩
 ·
  obtain⟨e0,h0,rfl⟩:=key l h
  rw[hf.val t e0 h0]
  simp only[SV.pl_den]
 ·
  obtain⟨e0,h0,rfl⟩:=key l h
  obtain⟨h1,h2⟩:=plain l h0
  simp only[h1,h2]
  exact⟨rfl,fun q hq=>by cases hq⟩
 ·
  obtain⟨e0,h0,rfl⟩:=key l h
  exact SV.pl_ok E nl' _
def jau(O:Own):List Nat→Own→Option Own
 |[],acc=>some acc
 |l::ls,acc=>match lk O l with
  |some (.row e sz m xs)=>jau O ls ((l, .row e sz m xs)::acc)
  |_=>none
def znk(E:Env)(base:Nat):List Nat→Own
 |[]=>[]
 |l::ls=>(base+ls.length, .keep l (E.ρ l) (E.κ l))::znk E base ls
theorem Mem.addKeepL{E:Env}{w:World}(hm:Mem E O nl V w): ∀ls:List Nat,(∀l∈ls,l<nl)→Mem E (znk E nl ls++O) (nl+ls.length) V w
 |[],_=>hm
 |l::ls,h=>(hm.addKeepL ls (fun x hx=>h x (List.mem_cons_of_mem _ hx))).addKeep l (by have:=h l (List.mem_cons_self ..);omega)
def ztf(nl:Nat):List Nat→Bool
 |[]=>true
 |l::ls=>Nat.blt l nl&&ztf nl ls
theorem zb8: ∀{ls:List Nat},ztf nl ls=true→ ∀l∈ls,l<nl
 |[],_,l,h=>by cases h
 |x::r,hs,l,h=>by
  simp only[ztf,Bool.and_eq_true,z0e]at hs
  rcases List.mem_cons.1 h with rfl|h
  · exact hs.1
  · exact zb8 hs.2 l h
theorem zkx{id:Nat}{l:List Oper}{O0:Own}(hno:zlm Q)(hdf:z6w l=true)(sp:List Nat)(hmix:P.follows .mixedOrders=true)
  (ho:z8l O [] []=some O0) (hO:z3b O O0) (hok:z0u nl O0=true)
  (h:TJ P l.toArray (RQ ds Q) sp O0 l.length (List.replicate l.length false) n F C O nl V):KJ (RX P ro m ds (Code.region id l.toArray true) Q) n F C O nl V:=
 j76 hno hdf sp O0 hmix hO hok h
theorem zrh{f:FuncId}{args:Array Value}{w:World}{R:Ending→World→Prop}(h:CallsIn (Rd none) m P f args w R):Calls P f args w R:=callsIn_wide.1 h
theorem zgt(htt:z0s P tt){fn:Func}{R:Ending→World→Prop}{ss:List SV}{D:Nat}(hr:z44 tt F O fn.results.toList=some ss)(hD:V.get D=some (.deferred (some [])))
  (h: ∀E w,Mem E O nl (V.del D) w→(∀s∈ss,s.ok nl=true)→R (.returned (zku (ss.map (SV.den E)))) w):KJ (zpg m P fn R (zkm D) .ret) n F C O nl V:=zrv htt hr hD h _ (.inr rfl)
theorem zmz{E:Env}{w w':World}{V0:Vw}(hV:V0.le (vw w))(hm:Mem E O nl (vw w) w'){l:Nat}{cs:List A}{e:Nat}(hl:lk O l=some (.lit cs e)):
  Vext w.heap.size V0 (V0.put (E.ρ l) (.cells (cs.map (A.den E)).toArray e (0,0))) w'∧(V0.put (E.ρ l) (.cells (cs.map (A.den E)).toArray e (0,0))).get (E.ρ l)=some (.cells (cs.map (A.den E)).toArray e (0,0)):=by
 have hb:=hm.lit _ _ _ hl
 have hno:w.heap[E.ρ l]? =none:=hm.off l _ _ hl rfl
 have hno2:V0.get (E.ρ l)=none:=by
  cases h:V0.get (E.ρ l)with
  |none=>rfl
  |some o=>have h1:w.heap[E.ρ l]? =some o:=hV.get _ _ h;rw[hno]at h1;cases h1
 have hle:V0.le (V0.put (E.ρ l) (.cells (cs.map (A.den E)).toArray e (0,0))):=⟨fun k o hk=>by
  simp only[Vw.put]
  split
  · rename_i he;subst he;rw[hno2]at hk;cases hk
  · exact hk,rfl,rfl,rfl⟩
 refine⟨⟨hle,fun k o hk=> ?_⟩,by simp[Vw.put]⟩
 simp only[Vw.put]at hk
 split at hk
 ·
  rename_i he
  subst he
  cases hk
  exact⟨hb, .inr (Array.getElem?_eq_none_iff.1 hno)⟩
 · exact⟨hm.get _ _ (hV.get _ _ hk), .inl hk⟩
theorem z6v{W w:World}(h:(vw W).le (vw w)):W.grownBy w none:=by
 have hb:=(j42 (nl:=0) ⟨fun _=>0,fun _=> .bool true⟩ h).below (Vw.le.refl _)
 exact⟨hb.os,hb.tape,hb.output,hb.size,fun k hk _=>hb.block k hk⟩
theorem zcw{β:Type}{B:Nat}{J:β→World→Prop}(hJ:AbidesFrom B J){s:β}{W w:World}(hs:J s W)(h:(vw W).le (vw w)):J s w:=
 hJ s W w none hs (z6v h) (fun r e=>by cases e)
theorem zfl{Fc:Fence}{l:Nat}{args:Array Value}{W:World}{R R':Ending→World→Prop}(h:YieldAt Fc m P l args W R)(hr: ∀e w,R e w→R' e w):YieldAt Fc m P l args W R':=by
 obtain⟨fn,tmps,assign,body,hy,hR⟩:=h
 exact⟨fn,tmps,assign,body,hy,hR.mono hr⟩
theorem zyw{id:Nat}{l:List Oper}{σ:Type}{O0:Own}(hdf:z6w l=true)(sp:List Nat)(Fx:σ→List (Nat×SV))(Ox:σ→Own)(nl':Nat)(Vx:σ→Vw)(I:σ→Prop)(hmix:P.follows .mixedOrders=true)
  (hO: ∀E w,Mem E O nl V w→Mem E O0 nl V w)
  (h:TJ P l.toArray (z5w fun a w=> ∃x',AtX n Fx Ox nl' Vx x' a w∧I x') sp O0 l.length (List.replicate l.length false) n F C O nl V)
  (hy: ∀x',I x'→KJ (Q ds .normal) n (mkF (Fx x')) [] (Ox x') nl' (Vx x')):KJ (RX P ro m ds (Code.region id l.toArray true) Q) n F C O nl V:=by
 constructor
 intro E a w hd hf hm
 have hm1:Mem E O nl V {w with drawn:=w.drawn+1}:=hm.drawn _
 have h1:=h.out E a _ hd hf hm1 (hO E _ hm1)
 have h2:=z5c (sp:=sp) (M:=fun w=>Mem E O0 nl V w) _ _ _ _ h1
 have h3:=zrq (ro:=ro) (m:=m) (Q1:=fun e a' w=>e= .normal∧ ∃a0,a'=Act.more a0 ds∧ ∃x',AtX n Fx Ox nl' Vx x' a0 w∧I x') (ds:=ds) (Q0:=NoPanic (z5w fun a w=> ∃x',AtX n Fx Ox nl' Vx x' a w∧I x'))
  (fun e a w hq=>by
   cases e with
   |normal=>exact⟨rfl,a,rfl,hq⟩
   |_=>exact hq.elim) (fun a w hq=>hq) (by simpa using hdf) _ _ _ _ h2
 unfold RX
 rw[zdn hd]
 refine wpIn_mono (wpIn_region_any hmix (by simpa using h3)) ?_
 rintro e a' w' ⟨rfl,a0,rfl,x',⟨E',hd',hf',hm'⟩,hI⟩
 have:=(hy x' hI).out E' a0 w' hd' hf' hm'
 obtain⟨t,d⟩:=a0
 cases hd'
 exact this
theorem j19{id:Nat}{l:List Oper}{σ:Type}(hdf:z6w l=true)(Fx:σ→List (Nat×SV))(Ox:σ→Own)(nl':Nat)(Vx:σ→Vw)(I:σ→Prop)(hmix:P.follows .mixedOrders=true)
  (h:TJ P l.toArray (z5w fun a w=> ∃x',AtX n Fx Ox nl' Vx x' a w∧I x') [] O l.length (List.replicate l.length false) n F C O nl V)
  (hy: ∀x',I x'→KJ (Q ds .normal) n (mkF (Fx x')) [] (Ox x') nl' (Vx x')):KJ (RX P ro m ds (Code.region id l.toArray true) Q) n F C O nl V:=
 zyw hdf [] Fx Ox nl' Vx I hmix (fun _ _ h=>h) h hy
theorem zvu{id:Nat}{l:List Oper}{σ:Type}{O0:Own}(hdf:z6w l=true)(sp:List Nat)(Fx:σ→List (Nat×SV))(Ox:σ→Own)(nl':Nat)(Vx:σ→Vw)(I:σ→Prop)(hmix:P.follows .mixedOrders=true)
  (ho:z8l O [] []=some O0) (hO:z3b O O0) (hok:z0u nl O0=true)
  (h:TJ P l.toArray (z5w fun a w=> ∃x',AtX n Fx Ox nl' Vx x' a w∧I x') sp O0 l.length (List.replicate l.length false) n F C O nl V)
  (hy: ∀x',I x'→KJ (Q ds .normal) n (mkF (Fx x')) [] (Ox x') nl' (Vx x')):KJ (RX P ro m ds (Code.region id l.toArray true) Q) n F C O nl V:=
 zyw hdf sp Fx Ox nl' Vx I hmix (fun _ _ h=>h.weak hO hok (Vw.le.refl _)) h hy
theorem z74(l q b:Nat){p:List (Nat×Bool)}{g:Bool}{e sz k':Nat}{xs:List Value}{v:Value}(s:SV)(hl:lk O l=some (.row e sz k' xs))(hk:lk O q=some (.keep l b v))(hs:s.ok nl=true)
  (h: ∀V',z7i V' v sz k' xs→Yld P o n F C [] nl V' p g s):Yld P o n F C O nl V p g s:=by
 intro hgt E a w hf hgv hm
 have hrow:=hm.row _ _ _ _ _ hl
 obtain⟨_,h2,h3⟩:=hm.kp _ _ _ _ hk
 have:=h (vw w) (by rw[←h2];exact z38 hrow (fun k _=>rfl)) hgt E a w hf hgv (zhn E nl w)
 exact⟨this.1,hs⟩
/-! The same, where some blocks of known cells stay one's own. -/
def j4j(O:Own):List Nat→Own→Option Own
 |[],acc=>some acc
 |l::ls,acc=>match lk O l with
  |some c=>j4j O ls ((l,c)::acc)
  |none=>none
theorem zl0{O:Own}: ∀(ls:List Nat) (acc:Own) {O1:Own},j4j O ls acc=some O1→ ∀l c,lk O1 l=some c→lk acc l=some c∨(lk O l=some c∧z2w l ls=true)
 |[],acc,O1,h,l,c,hl=>by simp[j4j]at h;subst h;exact .inl hl
 |q::ls,acc,O1,h,l,c,hl=>by
  simp only[j4j]at h
  split at h
  ·
   rename_i cq hq
   rcases zl0 ls _ h l c hl with h1|⟨h1,h2⟩
   ·
    rw[z1l]at h1
    by_cases e1:q=l
    ·
     subst e1
     simp only[if_true,Option.some.injEq]at h1
     subst h1
     exact .inr ⟨hq,z3i.2 (List.mem_cons_self ..)⟩
    · simp only[e1,if_false]at h1;exact .inl h1
   · exact .inr ⟨h1,z3i.2 (List.mem_cons_of_mem _ (z3i.1 h2))⟩
  · cases h
theorem znb(ts rs:List Nat){K0:List (Nat×SV)}{O1:Own}(hk:zj4 F ts []=some K0)(hs:z52 F K0)(hr:j4j O rs []=some O1)(hrl:ztf nl rs=true)
  (h: ∀E V',V.le V'→(∀l cs e,lk O l=some (.lit cs e)→z2w l rs=false→V'.get (E.ρ l)=some (.cells (cs.map (A.den E)).toArray e (0,0)))→KJ K n (mkF (plF E K0)) [] (znk E nl rs++O1) (nl+rs.length) V'):KJ K n F C O nl V:=by
 classical
 constructor
 intro E a w hda hf hm
 let B:Nat→Prop:=fun k=> ∃l cs e,lk O l=some (.lit cs e)∧E.ρ l=k∧z2w l rs=false
 let V':Vw:=⟨fun k=>if B k then w.heap[k]? else V.get k,V.os,V.tape,V.output⟩
 have hle:V.le V':=by
  refine⟨fun k o hk=> ?_,rfl,rfl,rfl⟩
  show(if _ then _ else _)=_
  by_cases hq:B k
  · rw[if_pos hq];exact hm.get k o hk
  · rw[if_neg hq];exact hk
 have hget: ∀l cs e,lk O l=some (.lit cs e)→z2w l rs=false→V'.get (E.ρ l)=some (.cells (cs.map (A.den E)).toArray e (0,0)):=fun l cs e hl hn=>by
  show(if _ then _ else _)=_
  rw[if_pos ⟨l,cs,e,hl,rfl,hn⟩]
  exact hm.lit l cs e hl
 have hO1: ∀l c,lk O1 l=some c→lk O l=some c∧z2w l rs=true:=fun l c hl=>by
  rcases zl0 rs [] hr l c hl with h1|h1
  · simp[lk]at h1
  · exact h1
 have hm1:Mem E O1 nl V' w:=by
  refine⟨fun l cs e h=>hm.lit _ _ _ (hO1 _ _ h).1,fun l e sz k xs h=>hm.row _ _ _ _ _ (hO1 _ _ h).1,fun l l' c c' k h h'=>hm.sep l l' c c' k (hO1 _ _ h).1 (hO1 _ _ h').1,fun k o hk=> ?_,fun l c k h hb=> ?_,hm.os,hm.tape,hm.output,
   fun l c h=>hm.lab _ _ (hO1 _ _ h).1,fun l cs e h=>hm.labs _ _ _ (hO1 _ _ h).1,fun l q b h=>hm.pin _ _ _ (hO1 _ _ h).1,fun l k h=>hm.big _ _ (hO1 _ _ h).1,fun l q b v h=>hm.kp _ _ _ _ (hO1 _ _ h).1⟩
  ·
   change (if _ then _ else _)=_ at hk
   by_cases hq:B k
   · rw[if_pos hq]at hk;exact hk
   · rw[if_neg hq]at hk;exact hm.get k o hk
  ·
   show(if _ then _ else _)=_
   rw[if_neg,hm.off l c k (hO1 _ _ h).1 hb]
   rintro⟨l',cs,e,hl',he,hn⟩
   have:=hm.sep l l' c _ k (hO1 _ _ h).1 hl' hb (by simp[blk,he])
   subst this
   rw[(hO1 _ _ h).2]at hn
   cases hn
 exact(h E V' hle hget).out E a w hda ((hf.plain hs.plain).pl K0)<|hm1.addKeepL rs<|zb8 hrl
theorem z4k(t q l b off:Nat){v:Value}(ht:opv F [] (.tmp t)=some (.a (.v (.pointer (some ⟨b,off,none⟩)))))(hp:lk O q=some (.keep l b v))(hc:(Nat.blt t n&& !(z2w t C))=true)
  (h:KJ K n ((t,⟨[],true, .a (.ptr l off)⟩)::F) C O nl V):KJ K n F C O nl V:=by
 constructor
 intro E a w hd hf hm
 simp only[Bool.and_eq_true,z0e,Bool.not_eq_true']at hc
 obtain⟨h1,h2,h2'⟩:=hm.kp _ _ _ _ hp
 refine h.out E a w hd ?_ hm
 obtain⟨h3,_⟩:=z03 hf (p:=[]) rfl ht
 have hlt:t<a.tmps.size:=by rw[hf.size];exact hc.1
 have hp:=hf.put (d:=t) (p:=[]) (g:=true) (s:= .a (.ptr l off)) hc.1 hc.2 rfl (fun q hq=>by cases hq) (fun _=>by simp[SV.ok,A.ok,z0e,h2'])
 simp only[if_true]at hp
 have hv:(SV.a (A.ptr l off)).den E=a.tmps.getD t undef:=by
  have:a.eval (.tmp t)=a.tmps.getD t undef:=rfl
  rw[←this,h3]
  simp[SV.den,A.den,h1]
 rw[hv]at hp
 have hsame:(a.put (some t) (a.tmps.getD t undef)).tmps=a.tmps:=by
  simp only[Act.put]
  apply Array.ext
  · simp
  ·
   intro i hi1 hi2
   rw[Array.getElem_setIfInBounds]
   split
   · rename_i hit;subst hit;simp[Array.getD,hlt]
   · rfl
 rw[hsame]at hp
 exact hp
end
end Go.Eng
