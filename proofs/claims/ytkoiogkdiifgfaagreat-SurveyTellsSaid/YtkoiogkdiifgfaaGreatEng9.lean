import Derived.Test.YtkoiogkdiifgfaaGreatEng6
import Derived.Deep.Quiet
/-
 Regions whose order is open, where each operation has one value whatever the order.
-/
set_option linter.unusedSimpArgs false
set_option linter.unusedVariables false
namespace Go.Eng
open Go Go.RowKit
structure DJ(P:Program)(ops:Array Oper)(Q:Exit→Act→World→Prop)(l:List Oper)(n:Nat)(F:z05)(C:List Nat)(O:Own)(nl:Nat)(V:Vw):Prop where
 out: ∀E a,a.defers=[]→Frm E n F C nl a.tmps→wpQuiet P ops (fun w=>Mem E O nl V w) (fun a'=> ∀w',Mem E O nl V w'→Q .normal a' w') l a
section
variable{P:Program}{tt:List (Nat×TI)}{ops:Array Oper}{Q:Exit→Act→World→Prop}{o:Oper}{rest:List Oper}
 {n:Nat} {F:z05} {C:List Nat} {O:Own} {nl:Nat} {V:Vw} {K:Act→World→Prop}
theorem Mem.drawn{E:Env}{w:World}(hm:Mem E O nl V w)(m:Nat):Mem E O nl V {w with drawn:=m}:=
 hm.keep ⟨rfl,rfl,rfl,Nat.le_refl _,fun _ _=>rfl⟩
theorem z11{id:Nat}{l:List Oper}(hm:P.follows .mixedOrders=true)(hB:Region.lexB .any l.toArray=true)(h:DJ P l.toArray Q l n F C O nl V):
  KJ ((Code.region id l.toArray true).wp P Q) n F C O nl V:=
 ⟨fun E a w hd hf hmem=>wp_region_quiet (C:=fun w=>Mem E O nl V w) hm hB (hmem.drawn _) (by simpa using h.out E a hd hf)⟩
theorem z1z(ts:List Nat){F':z05}(hk:zi2 F ts []=some F')(h:KJ (Q .normal) n F' [] O nl V):DJ P ops Q [] n F C O nl V:=
 ⟨fun E a hd hf=>fun w' hm=>h.out E a w' hd (hf.plain (z6t ts [] F' (fun t e h=>by simp[lk]at h) hk)) hm⟩
theorem zsx{p:List (Nat×Bool)}{g:Bool}{C':List Nat}{s:SV}{d:Nat}
  (hg:gd ops F C o.guard=some (p,g,C')) (hd:o.dst=some d) (hc:(Nat.blt d n&& !(z2w d C'))=true)
  (hy:Yld P o n F C' O nl V p g s) (hs:s.ok nl=true)
  (next:DJ P ops Q rest n ((d,⟨p,g,s⟩)::F) C' O nl V):DJ P ops Q (o::rest) n F C O nl V:=by
 constructor
 intro E a hdf hf
 obtain⟨h1,h2,h3,h4⟩:=z18 hf hg
 simp only[Bool.and_eq_true,z0e,Bool.not_eq_true']at hc
 unfold wpQuiet
 rw[h1]
 cases g with
 |true=>
  simp only[if_true]
  refine⟨s.den E,fun w hm=> ?_, ?_⟩
  ·
   unfold Oper.quietAt
   rw[(hy rfl E a w h2 h3.symm hm).1]
   exact⟨rfl,rfl⟩
  ·
   rw[hd]
   refine next.out E _ (by simp[Act.put,hdf]) ?_
   have:=Frm.put (p:=p) (g:=true) h2 hc.1 hc.2 h3 h4 (fun _=>hs)
   simpa using this
 |false=>
  simp only[Bool.false_eq_true,if_false,hd]
  refine next.out E _ (by simp[Act.put,hdf]) ?_
  have:=Frm.put (p:=p) (g:=false) (s:=s) h2 hc.1 hc.2 h3 h4 (by simp)
  simpa using this
theorem j53{p:List (Nat×Bool)}{g:Bool}{C':List Nat}{d f:Nat}{ss:List SV}(s:SV)
  (hg:gd ops F C o.guard=some (p,g,C')) (hv:z4i F p o.op=some (f,ss)) (hok:z0j P f) (hd:o.dst=some d) (hc:(Nat.blt d n&& !(z2w d C'))=true) (hs:s.ok nl=true)
  (hcall:g=true→ ∀E w,Mem E O nl V w→Calls P f (ss.map (SV.den E)).toArray w fun e w'=>e= .returned (s.den E)∧Below w.heap.size w w')
  (next:DJ P ops Q rest n ((d,⟨p,g,s⟩)::F) C' O nl V):DJ P ops Q (o::rest) n F C O nl V:=by
 constructor
 intro E a hdf hf
 obtain⟨h1,h2,h3,h4⟩:=z18 hf hg
 simp only[Bool.and_eq_true,z0e,Bool.not_eq_true']at hc
 unfold wpQuiet
 rw[h1]
 cases g with
 |true=>
  simp only[if_true]
  refine⟨s.den E,fun w hm=> ?_, ?_⟩
  ·
   unfold Oper.quietAt
   rw[(z1b h2 h3.symm hv hok w).1]
   refine⟨rfl,(hcall rfl E w hm).mono ?_⟩
   rintro e w' ⟨rfl,hb⟩
   exact⟨rfl,hm.keep hb⟩
  ·
   rw[hd]
   refine next.out E _ (by simp[Act.put,hdf]) ?_
   have:=Frm.put (p:=p) (g:=true) h2 hc.1 hc.2 h3 h4 (fun _=>hs)
   simpa using this
 |false=>
  simp only[Bool.false_eq_true,if_false,hd]
  refine next.out E _ (by simp[Act.put,hdf]) ?_
  have:=Frm.put (p:=p) (g:=false) (s:=s) h2 hc.1 hc.2 h3 h4 (by simp)
  simpa using this
end
end Go.Eng

/-
 Function values; pointers to memory that nobody writes; slices written out in place.
-/
set_option linter.unusedSimpArgs false
set_option linter.unusedVariables false
namespace Go.Eng
open Go Go.RowKit
abbrev I(n:Int):Value:= .int .i64 n
abbrev I8(n:Int):Value:= .int .i8 n
theorem z06{n:Int}(h0: -9223372036854775808≤n)(h1:n≤9223372036854775807):IntKind.i64.wrap n=n:=IntWalk.i64_in n ⟨h0,h1⟩
def z7r(P:Program)(fv:Value)(args:List Value)(w:World)(R:Ending→World→Prop):Prop:=
 ∃f caps,fv= .func (.func f) #[] caps∧z0j P f∧Calls P f (args++caps.toList).toArray w R
section
variable{P:Program}{tt:List (Nat×TI)}{ops:Array Oper}{Q:Exit→Act→World→Prop}{o:Oper}{rest:List Oper}
 {n:Nat} {F:z05} {C:List Nat} {O:Own} {nl:Nat} {V:Vw} {K:Act→World→Prop}
def z51(F:z05)(p:List (Nat×Bool)):Op→Option (Value×List SV)
 | .call ⟨.value x,args,_⟩=>match opv F p x,z85 F p args.toList with
  |some (.a (.v fv)),some ss=>some (fv,ss)
  |_,_=>none
 |_=>none
theorem zbh{E:Env}{a:Act}{p:List (Nat×Bool)}{fv:Value}{ss:List SV}(hf:Frm E n F C nl a.tmps)(hg:z61 F p=true)(h:z51 F p o.op=some (fv,ss))(w:World)
  {R:Ending→World→Prop} (hc:z7r P fv (ss.map (SV.den E)) w R):
  ∃f args,(execOp a.eval o).run P w= .ok (.enter f args) w∧Calls P f args w R:=by
 unfold execOp
 cases hop:o.op with
 |call c=>
  obtain⟨callee,args,ts⟩:=c
  cases callee with
  |value x=>
   simp only[hop,z51]at h
   split at h
   ·
    rename_i fv' ss' hx ha
    simp only[Option.some.injEq,Prod.mk.injEq]at h
    obtain⟨rfl,rfl⟩:=h
    obtain⟨h1,_⟩:=z3h hf hg ha
    obtain⟨h3,_⟩:=z03 hf hg hx
    obtain⟨f,caps,rfl,⟨fn,hfn,hnm,hbody⟩,hcalls⟩:=hc
    have hargs:args.map a.eval++caps=(ss'.map (SV.den E)++caps.toList).toArray:=by
     apply Array.ext'
     simp only[Array.toList_append,Array.toList_map,h1]
    have hx':a.eval x= .func (.func f) #[] caps:=h3
    exact⟨f,_,by simp only[resolve,hx',Deferred.ofValue,Sem.run_bind,Sem.run_pure,Result.andThen_ok,invoke,callFunc,run_program,hfn,hnm,hbody,Bool.false_eq_true,if_false,Array.empty_append,hargs],hcalls⟩
   · simp at h
  |_=>simp[hop,z51]at h
 |_=>simp[hop,z51]at h
theorem z7w{p:List (Nat×Bool)}{g:Bool}{C':List Nat}{d:Nat}{fv:Value}{ss:List SV}(s:SV)
  (hg:gd ops F C o.guard=some (p,g,C')) (hv:z51 F p o.op=some (fv,ss)) (hd:o.dst=some d) (hc:(Nat.blt d n&& !(z2w d C'))=true) (hs:s.ok nl=true)
  (hcall:g=true→ ∀E w,Mem E O nl V w→z7r P fv (ss.map (SV.den E)) w fun e w'=>e= .returned (s.den E)∧Below w.heap.size w w')
  (next:KJ (wpList P ops Q rest) n ((d,⟨p,g,s⟩)::F) C' O nl V):KJ (wpList P ops Q (o::rest)) n F C O nl V:=by
 constructor
 intro E a w hdf hf hm
 obtain⟨h1,h2,h3,h4⟩:=z18 hf hg
 simp only[Bool.and_eq_true,z0e,Bool.not_eq_true']at hc
 unfold wpList
 rw[h1]
 cases g with
 |true=>
  simp only[if_true]
  left
  obtain⟨f,args,hr,hcl⟩:=zbh h2 h3.symm hv w (hcall rfl E w hm)
  unfold Oper.wp
  rw[hr,Oper.upon_enter]
  refine hcl.mono ?_
  rintro e w' ⟨rfl,hb⟩
  show wpList P ops Q rest (a.put o.dst _) w'
  rw[hd]
  refine next.out E _ w' (by simp[Act.put,hdf]) ?_<|hm.keep hb
  have:=Frm.put (p:=p) (g:=true) h2 hc.1 hc.2 h3 h4 (fun _=>hs)
  simpa using this
 |false=>
  simp only[Bool.false_eq_true,if_false,hd]
  refine next.out E _ w (by simp[Act.put,hdf]) ?_ hm
  have:=Frm.put (p:=p) (g:=false) (s:=s) h2 hc.1 hc.2 h3 h4 (by simp)
  simpa using this
def zqj(tt:List (Nat×TI))(F:z05)(p:List (Nat×Bool)):Op→Option (Nat×Nat×Nat×Bool)
 | .load t x=>match opv F p x,lk tt t with
  |some (.a (.v (.pointer (some ⟨b,off,none⟩)))),some ti=>some (b,off,ti.size,ti.agg)
  |_,_=>none
 |_=>none
theorem zqz{P:Program}{tt:List (Nat×TI)}{t:Nat}{ti:TI}(hT:TIok P t ti){E:Env}{w:World}{b off:Nat}{cs:List Value}{e:Nat}{fz:Nat×Nat}{s:SV}{nl:Nat}
  (hw:w.heap[b]? =some (.cells cs.toArray e fz)) (hp:zjy ti.agg off ti.size cs=some s):
  (Instr.loadAt t (.pointer (some ⟨b,off,none⟩))).run P w= .ok (s.den E) w∧s.ok nl=true:=by
 unfold zjy at hp
 cases hcut:j69 off ti.size cs with
 |none=>simp[hcut]at hp
 |some q=>
  obtain⟨hq1,hq2⟩:=zk1 hcut
  simp only[hcut]at hp
  have hqa: ∀l:List Value,(l.map A.v).map (A.den E)=l∧z0z nl (l.map A.v)=true:=by
   intro l
   induction l with
   |nil=>exact⟨rfl,rfl⟩
   |cons x r ih=>exact⟨by simp[A.den,ih.1],by simp[z0z,A.ok,ih.2]⟩
  cases hagg:ti.agg with
  |true=>
   simp only[hagg,zy7,Option.some.injEq]at hp
   subst hp
   have hload:=z5d (P:=P) hT hw (by simpa using hq2) (.agg ((cs.drop off).take ti.size).toArray) (by rw[hagg]) (by rw[hagg];simp)
   refine⟨?_, ?_⟩
   · rw[hload];simp only[SV.den,hq1,(hqa _).1]
   · simp only[SV.ok,hq1,(hqa _).2]
  |false=>
   have hq: ∃c,q=[c]∧s= .a c:=by
    simp only[hagg]at hp
    match q,hp with
    |[c],hp=>simp only[zy7,Option.some.injEq]at hp;exact⟨c,rfl,hp.symm⟩
    |[],hp=>simp[zy7]at hp
    |_::_::_,hp=>simp[zy7]at hp
   obtain⟨c,rfl,rfl⟩:=hq
   have hlen1:(List.take ti.size (List.drop off cs)).length=1:=by
    have:=congrArg List.length hq1;simpa using this.symm
   obtain⟨y0,hy0⟩:=List.length_eq_one_iff.1 hlen1
   rw[hy0]at hq1
   simp only[List.map_cons,List.map_nil,List.cons.injEq,and_true]at hq1
   subst hq1
   have hlt:off<cs.length:=by
    have:=congrArg List.length hy0
    simp at this;omega
   have hcc:cs[off]? =some y0:=by
    have h1:(List.take ti.size (List.drop off cs))[0]? =some y0:=by rw[hy0];rfl
    rw[List.getElem?_take]at h1
    split at h1
    · simpa using h1
    · cases h1
   have hload:=z5d (P:=P) hT hw (by simpa using hq2) y0 (by rw[hagg];simp[hcc]) (by rw[hagg];exact fun _=>by simpa using hlt)
   exact⟨by rw[hload];rfl,rfl⟩
theorem z2p(htt:z0s P tt){p:List (Nat×Bool)}{g:Bool}{b off m:Nat}{agg:Bool}{cs:List Value}{e:Nat}{fz:Nat×Nat}{s:SV}
  (hv:zqj tt F p o.op=some (b,off,m,agg)) (hs:g=true→V.get b=some (.cells cs.toArray e fz)) (hp:zjy agg off m cs=some s):Yld P o n F C O nl V p g s:=by
 intro hgt E a w hf hgv hm
 unfold Yv execOp
 cases hop:o.op with
 |load t y=>
  simp only[hop,zqj]at hv
  split at hv
  ·
   rename_i b' off' ti hy hti
   simp only[Option.some.injEq,Prod.mk.injEq]at hv
   obtain⟨rfl,rfl,rfl,rfl⟩:=hv
   obtain⟨h1,_⟩:=z03 hf hgv hy
   obtain⟨hl,hok⟩:=zqz (tt:=tt) (E:=E) (nl:=nl) (htt _ _ hti) (hm.get _ _ (hs hgt)) hp
   have e1:a.eval y= .pointer (some ⟨b',off',none⟩):=h1
   exact⟨by simp only[e1,Sem.run_bind,hl,Result.andThen_ok,Sem.run_pure],hok⟩
  · simp at hv
 |_=>simp[hop,zqj]at hv
end
end Go.Eng

/-
 zq3 zwc on lists.
-/
set_option linter.unusedSimpArgs false
set_option linter.unusedVariables false
namespace Go.Eng
theorem findIdx?_at{α:Type}{pr:α→Bool}{l:List α}{k:Nat}{x:α}(hx:l[k]? =some x)(hp:pr x=true)(h: ∀j y,j<k→l[j]? =some y→pr y=false):l.findIdx? pr=some k:=by
 obtain⟨hlt,hge⟩:=List.getElem?_eq_some_iff.1 hx
 rw[List.findIdx?_eq_some_iff_getElem]
 refine⟨hlt,by rw[hge];exact hp,fun j hj=> ?_⟩
 have:=h j l[j] hj (by simp)
 simp[this]
theorem findIdx?_no{α:Type}{pr:α→Bool}{l:List α}(h: ∀j y,j<l.length→l[j]? =some y→pr y=false):l.findIdx? pr=none:=by
 rw[List.findIdx?_eq_none_iff]
 intro x hx
 obtain⟨j,hj,rfl⟩:=List.getElem_of_mem hx
 exact h j _ hj (by simp)
theorem zkr{α:Type}(pr:α→Bool)(l:List α):(l.findIdx? pr).isSome=l.any pr:=by
 rw[Bool.eq_iff_iff,List.findIdx?_isSome]
theorem z3q{α:Type}{l:List α}{k:Nat}{R:α→Prop}{x:α}(hx:l[k]? =some x)(h: ∀j y,j<k→l[j]? =some y→R y)(hr:R x): ∀j y,j<k+1→l[j]? =some y→R y:=by
 intro j y hj hy
 by_cases e:j=k
 · subst e;rw[hx]at hy;cases hy;exact hr
 · exact h j y (by omega) hy
theorem zbv{α:Type}{pr:α→Bool}{l:List α}(h: ∀j y,j<l.length→l[j]? =some y→pr y=true):l.all pr=true:=by
 rw[List.all_eq_true]
 intro x hx
 obtain⟨j,hj,rfl⟩:=List.getElem_of_mem hx
 exact h j _ hj (by simp)
theorem zyp{α:Type}{pr:α→Bool}{l:List α}{k:Nat}{x:α}(hx:l[k]? =some x)(hp:pr x=false):l.all pr=false:=by
 rw[←Bool.not_eq_true,List.all_eq_true]
 intro h
 have:=h x (List.mem_of_getElem? hx)
 rw[hp]at this
 cases this
theorem zry{α:Type}{pr:α→Bool}{l:List α}{k:Nat}{x:α}(hx:l[k]? =some x)(hp:pr x=true):l.any pr=true:=by
 rw[List.any_eq_true]
 exact⟨x,List.mem_of_getElem? hx,hp⟩
theorem j62{α:Type}{pr:α→Bool}{l:List α}(h: ∀j y,j<l.length→l[j]? =some y→pr y=false):l.any pr=false:=by
 rw[←Bool.not_eq_true,List.any_eq_true]
 rintro⟨x,hx,hp⟩
 obtain⟨j,hj,rfl⟩:=List.getElem_of_mem hx
 have h':=h j _ hj (List.getElem?_eq_getElem hj)
 rw[hp]at h'
 cases h'
theorem z5x{α:Type}{l:List α}{k:Nat}{x:α}(hx:l[k]? =some x):l.take (k+1)=l.take k++[x]:=by
 obtain⟨hlt,rfl⟩:=List.getElem?_eq_some_iff.1 hx
 exact List.take_succ_eq_append_getElem hlt
end Go.Eng
