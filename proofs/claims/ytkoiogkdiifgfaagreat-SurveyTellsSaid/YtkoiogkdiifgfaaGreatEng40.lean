/-
 Ranges over maps from int: the walk's record lies in the view; the order is whichever.
-/
import Derived.Test.YtkoiogkdiifgfaaGreatEng39
import Derived.Test.YtkoiogkdiifgfaaGreatEng37
import Derived.Maps.RangeRun
import Derived.Lib.BufferMore
set_option linter.unusedSimpArgs false
set_option linter.unusedVariables false
set_option linter.unusedSectionVars false
namespace Go.Eng
open Go Go.RowKit
section
variable{P:Program}{tt:List (Nat×TI)}{o:Oper}{n:Nat}{F:z05}{C:List Nat}{O:Go.Eng.Own}{nl:Nat}{V:Vw}
abbrev zlr(b m:Nat)(seen:Array Nat)(c:Nat):Obj:= .mapIter (some b) m seen c
def zsz(F:z05)(p:List (Nat×Bool)):Op→Option (Nat×Nat)
 | .range t x=>match opv F p x with
  |some (.a (.v (.map (some b))))=>some (t,b)
  |_=>none
 |_=>none
theorem ja6{p:List (Nat×Bool)}{t kt et b:Nat}(es:List (Int×Value))(hv:zsz F p o.op=some (t,b))(ht:P.underlying t=some (.map kt et))(hb:V.get b=some (z4z es)):
  StepTo P o p n F C O nl V (σ:=Nat) (fun r=>V.get r=none) (fun r=> .a (.v (.pointer (some ⟨r,0,none⟩)))) (fun _=>O) nl (fun r=>V.put r (zlr b es.length #[] es.length)):=by
 constructor
 intro E a w hf hgv hm K Q hK
 unfold Oper.wp execOp
 cases hop:o.op with
 |range t' x=>
  simp only[hop,zsz]at hv
  split at hv
  ·
   rename_i b' hx
   simp only[Option.some.injEq,Prod.mk.injEq]at hv
   obtain⟨rfl,rfl⟩:=hv
   obtain⟨h1,_⟩:=z03 hf hgv hx
   have e1:a.eval x= .map (some b'):=h1
   have hno:V.get w.heap.size=none:=by
    cases hq:V.get w.heap.size with
    |none=>rfl
    |some ob=>
     have:=(Array.getElem?_eq_some_iff.1 (hm.get _ _ hq)).1
     omega
   have hg:(getObj b').run P w= .ok (z4z es) w:=by simp[getObj,Sem.run,hm.get _ _ hb,z4z]
   simp only[z4z]at hg
   have hr:(Instr.range t' (.map (some b'))).run P w= .ok (.pointer (some ⟨w.heap.size,0,none⟩)) (w.alloc (zlr b' es.length #[] es.length)):=by
    unfold Instr.range
    simp only[Sem.run_bind,run_underlying ht,Result.andThen_ok,hg,Sem.run_pure,run_newObj_alloc,Result.andThen]
   simp only[e1,Sem.run_bind,hr,Result.andThen_ok,Sem.run_pure]
   exact hK w.heap.size E _ hno (fun _ _=>⟨rfl,rfl⟩) (hm.ext (z29 w _) (hm.vext _)) rfl
  · simp at hv
 |_=>simp[hop,zsz]at hv
theorem zc9: ∀(es:List (Int×Value)) (m j:Nat) (e:MapEntry),(z6o es m)[j]? =some e↔ ∃k v,es[j]? =some (k,v)∧e=⟨.int .i64 k,v,m+j⟩
 |[],m,j,e=>by simp[z6o]
 |(k,v)::r,m,0,e=>by
  simp only[z6o,List.getElem?_cons_zero,Option.some.injEq]
  constructor
  · intro h;exact⟨k,v,rfl,h.symm⟩
  · rintro⟨k',v',h,rfl⟩;cases h;rfl
 |(k,v)::r,m,j+1,e=>by
  simp only[z6o,List.getElem?_cons_succ]
  rw[zc9 r (m+1) j e]
  constructor
  · rintro⟨k',v',h,rfl⟩;exact⟨k',v',h,by congr 1;omega⟩
  · rintro⟨k',v',h,rfl⟩;exact⟨k',v',h,by congr 1;omega⟩
theorem zny{es:List (Int×Value)}{e:MapEntry}(h:e∈z6o es 0): ∃i k v,es[i]? =some (k,v)∧e=⟨.int .i64 k,v,i⟩:=by
 obtain⟨i,hi⟩:=List.getElem?_of_mem h
 obtain⟨k,v,h1,h2⟩:=(zc9 es 0 i e).1 hi
 exact⟨i,k,v,h1,by rw[h2];simp⟩
def zna(F:z05)(p:List (Nat×Bool)):Op→Option Nat
 | .next x false=>match opv F p x with
  |some (.a (.v (.pointer (some ⟨r,0,none⟩))))=>some r
  |_=>none
 |_=>none
theorem j98{p:List (Nat×Bool)}{r b:Nat}{seen:Array Nat}{c:Nat}(es:List (Int×Value))(hv:zna F p o.op=some r)(hr:V.get r=some (zlr b es.length seen c))(hc:es.length≤c)(hb:V.get b=some (z4z es)):
  StepTo P o p n F C O nl V (σ:=Option (Nat×Int×Value)) (fun q=>match q with|none=> ∀i,i<es.length→i∈seen|some (i,k,v)=>es[i]? =some (k,v)∧ ¬i∈seen)
   (fun q=>match q with|none=> .tup [.v (.bool false)]|some (i,k,v)=> .tup [.v (.bool true), .v (.int .i64 k), .v v]) (fun _=>O) nl
   (fun q=>match q with|none=>V|some (i,k,v)=>V.put r (zlr b es.length (seen.push i) es.length)):=by
 constructor
 intro E a w hf hgv hm K Q hK
 unfold Oper.wp execOp
 cases hop:o.op with
 |next x st=>
  cases st with
  |true=>simp[hop,zna]at hv
  |false=>
  simp only[hop,zna]at hv
  split at hv
  ·
   rename_i r' hx
   simp only[Option.some.injEq]at hv
   subst hv
   obtain⟨h1,_⟩:=z03 hf hgv hx
   have e1:a.eval x= .pointer (some ⟨r',0,none⟩):=h1
   have hwr:=hm.get _ _ hr
   have hwb:=hm.get _ _ hb
   have hborn: ∀x∈(z6o es 0).toArray.toList,x.born<es.length:=fun x hx=>by
    obtain⟨i,k,v,h,rfl⟩:=zny (by simpa using hx)
    exact(List.getElem?_eq_some_iff.1 h).1
   rcases run_next_at w 0 r' b es.length c seen (z6o es 0).toArray es.length hwr hwb hborn hc with⟨h0,hrun⟩|⟨e,he,w1,hw1,hrun⟩
   ·
    have hrun':(Instr.next (.pointer (some ⟨r',0,none⟩)) false o.type).run P w= .ok (.tuple #[.bool false]) w:=hrun
    simp only[e1,Sem.run_bind,hrun',Result.andThen_ok,Sem.run_pure]
    refine hK none E w ?_ (fun _ _=>⟨rfl,rfl⟩) hm rfl
    intro i hi
    have hmem:(⟨.int .i64 (es[i]).1,(es[i]).2,i⟩:MapEntry)∈(z6o es 0).toArray:=by
     have:=(zc9 es 0 i ⟨.int .i64 (es[i]).1,(es[i]).2,i⟩).2 ⟨(es[i]).1,(es[i]).2,by rw[List.getElem?_eq_getElem hi],by simp⟩
     simpa using List.mem_of_getElem? this
    have hno:=Array.eq_empty_of_size_eq_zero h0
    unfold leftOf at hno
    rw[Array.filter_eq_empty_iff]at hno
    have:=hno _ hmem
    simpa using this
   ·
    have hrun':(Instr.next (.pointer (some ⟨r',0,none⟩)) false o.type).run P w= .ok (.tuple #[.bool true,e.key,e.val]) {w1 with heap:=w1.heap.setIfInBounds r' (.mapIter (some b) es.length (seen.push e.born) es.length)}:=hrun
    simp only[e1,Sem.run_bind,hrun',Result.andThen_ok,Sem.run_pure]
    have hmem:e∈z6o es 0∧ ¬e.born∈seen:=by
     unfold leftOf at he
     simp at he
     exact⟨he.1,by simpa using he.2⟩
    obtain⟨i,k,v,h,rfl⟩:=zny hmem.1
    have hm1:Mem E O nl V w1:=by
     rcases hw1 with rfl|rfl
     · exact hm
     · exact⟨hm.lit,hm.row,hm.sep,hm.get,hm.off,hm.os,hm.tape,hm.output,hm.lab,hm.labs,hm.pin,hm.big,hm.kp⟩
    exact hK (some (i,k,v)) E _ ⟨h,hmem.2⟩ (fun _ _=>⟨rfl,rfl⟩) (hm1.putV hr _) rfl
  · simp at hv
 |_=>simp[hop,zna]at hv
def zq9(F:z05)(p:List (Nat×Bool)):Op→Option Nat
 | .entry x=>match opv F p x with
  |some (.a (.v (.pointer (some ⟨r,0,none⟩))))=>some r
  |_=>none
 |_=>none
theorem j87{p:List (Nat×Bool)}{g:Bool}{r b i c:Nat}{seen:Array Nat}{k:Int}{v:Value}(es:List (Int×Value))(hv:zq9 F p o.op=some r)(hr:g=true→V.get r=some (zlr b c (seen.push i) es.length))(hb:g=true→V.get b=some (z4z es))(hi:g=true→es[i]? =some (k,v)):
  Yld P o n F C O nl V p g (.tup [.v (.int .i64 k), .v v]):=by
 intro hgt E a w hf hgv hm
 refine⟨?_,rfl⟩
 unfold Yv execOp
 cases hop:o.op with
 |entry x=>
  simp only[hop,zq9]at hv
  split at hv
  ·
   rename_i r' hx
   simp only[Option.some.injEq]at hv
   subst hv
   obtain⟨h1,_⟩:=z03 hf hgv hx
   have e1:a.eval x= .pointer (some ⟨r',0,none⟩):=h1
   have hmem:(⟨.int .i64 k,v,i⟩:MapEntry)∈(z6o es 0).toArray.toList:=by
    have:=(zc9 es 0 i ⟨.int .i64 k,v,i⟩).2 ⟨k,v,hi hgt,by simp⟩
    simpa using List.mem_of_getElem? this
   have hnd:((z6o es 0).toArray.toList.map (·.born)).Nodup:=by
    have key: ∀(es:List (Int×Value)) (m:Nat),(z6o es m).map (·.born)=List.range' m es.length:=by
     intro es
     induction es with
     |nil=>intro m;rfl
     |cons x t ih=>intro m;obtain⟨a,b⟩:=x;simp[z6o,ih,List.range'_succ]
    rw[show(z6o es 0).toArray.toList=z6o es 0 by simp,key]
    exact List.nodup_range'
   have:=run_entry_at (P:=P) w r' b c seen (z6o es 0).toArray es.length ⟨.int .i64 k,v,i⟩ (hm.get _ _ (hr hgt)) (hm.get _ _ (hb hgt)) hmem hnd
   simp only[e1,Sem.run_bind,this,Result.andThen_ok,Sem.run_pure]
   rfl
  · simp at hv
 |_=>simp[hop,zq9]at hv
end
section
variable{P:Program}{ops:Array Oper}{ro:Option Nat}{m:Nat}{Q:z8j}{ds:List Deferred}{n:Nat}{F:z05}{nl:Nat}{V:Vw}
theorem j57{Q0:Exit→Act→World→Prop}{C:List Nat}{O:Go.Eng.Own}(h:KJ (Q0 .normal) n F C O nl V):KJ (wpList P ops Q0 []) n F C O nl V:=⟨h.out⟩
theorem j9g{K:Act→World→Prop}{C:List Nat}{O:Go.Eng.Own}(h:KJ K n F C [] nl V):KJ K n F C O nl V:=
 ⟨fun E a w hda hf hm=>h.out E a w hda hf ((zhn E nl w).weak z3b.nil rfl hm.leV)⟩
theorem zwm{l2:List Oper}{oy:Oper}{d lq:Nat}{ss:List SV}{p:List (Nat×Bool)}{C C':List Nat}{g:Bool}(Ψ:Bool→Vw→Prop)(hg:gd ops F C oy.guard=some (p,g,C'))(hgt:g=true)(hd:oy.dst=some d)(hc:(Nat.blt d n&& !(z2w d C'))=true)
  (hv:z51 F p oy.op=some (.func (.yield lq) #[] #[],ss))
  (hY: ∀E w,V.le (vw w)→YieldAt (Rd ro) (m - 1) P lq (ss.map (SV.den E)).toArray w (fun e w'=> ∃b V',e= .returned (.bool b)∧V'.le (vw w')∧Ψ b V'))
  (next: ∀b V',Ψ b V'→KJ (fun a w=>wpListIn (Rd ro) m P ops (QH Q) l2 (Act.more a ds) w) n ((d,⟨p,true, .a (.v (.bool b))⟩)::F) C' [] nl V'):
  KJ (fun a w=>wpListIn (Rd ro) m P ops (QH Q) (oy::l2) (Act.more a ds) w) n F C [] nl V:=by
 subst hgt
 constructor
 intro E a w hda hf hm
 obtain⟨g1,g2,g3,g4⟩:=z18 hf hg
 simp only[Bool.and_eq_true,z0e,Bool.not_eq_true']at hc
 unfold wpListIn
 have hw:Region.wanted oy (yielded ops (Act.more a ds).tmps)=true:=g1
 rw[if_pos hw]
 obtain⟨fn,tmps,assign,body,hy,hR⟩:=hY E w hm.leV
 refine⟨fun _ _=>trivial, ?_⟩
 have hnd: ∀c,oy.op≠ .defer c:=fun c hc'=>by simp[hc',z51]at hv
 rw[Act.more_eval,Oper.semAt_eq _ _ _ hnd]
 have hrun:(execOp a.eval oy).run P w= .ok (.round lq fn tmps assign body) w:=by
  unfold execOp
  cases hop:oy.op with
  |call c=>
   obtain⟨callee,args,ts⟩:=c
   cases callee with
   |value x=>
    simp only[hop,z51]at hv
    split at hv
    ·
     rename_i fv' ss' hx ha
     simp only[Option.some.injEq,Prod.mk.injEq]at hv
     obtain⟨rfl,rfl⟩:=hv
     obtain⟨h1,_⟩:=z3h g2 g3.symm ha
     obtain⟨h3,_⟩:=z03 g2 g3.symm hx
     have hargs:args.map a.eval=(ss'.map (SV.den E)).toArray:=by
      apply Array.ext'
      simp only[Array.toList_map,h1]
     have hx':a.eval x= .func (.yield lq) #[] #[]:=h3
     simp only[resolve,hx',Deferred.ofValue,Sem.run_bind,Sem.run_pure,Result.andThen_ok,invoke,hargs,Array.empty_append]
     exact hy
    · simp at hv
   |_=>simp[hop,z51]at hv
  |_=>simp[hop,z51]at hv
 rw[hrun]
 refine⟨fun hd=>(by simp[Rd,Fence.wide]at hd),hR.mono ?_⟩
 rintro e w' ⟨b,V',rfl,hV',hΨ⟩
 show wpListIn (Rd ro) m P ops (QH Q) l2 ((Act.more a ds).put oy.dst (.bool b)) w'
 rw[Act.more_put,hd]
 have hm':Mem E [] nl V' w':=j42 E nl hV'
 refine(next b V' hΨ).out E _ w' (by simp[Act.put,hda]) ?_ hm'
 have:=Frm.put (a:=a) (d:=d) (p:=p) (g:=true) (s:= .a (.v (.bool b))) g2 hc.1 hc.2 g3 g4 (fun _=>rfl)
 simpa[Act.put,SV.den,A.den]using this
end
theorem zuk{P:Program}{t e:TypeId}{ox oy:Operand}(a:Addr)(n c:Nat)(ht:P.underlying t=some (.slice e))(w:World):
  (do eqGuard .eql t ox oy (.slice (some a) n c) (.slice none 0 0);binOp .eql t (.slice (some a) n c) (.slice none 0 0):Sem Value).run P w= .ok (.bool false) w:=by
 rw[Sem.run_bind,show(eqGuard .eql t ox oy (.slice (some a) n c) (.slice none 0 0)).run P w= .ok () w by simp[eqGuard],Result.andThen_ok]
 exact Go.Lib.run_eql_slice_some_nil w a n c ht
theorem zqf{P:Program}{t e:TypeId}{ox oy:Operand}(n c:Nat)(ht:P.underlying t=some (.slice e))(w:World):
  (do eqGuard .eql t ox oy (.slice none n c) (.slice none 0 0);binOp .eql t (.slice none n c) (.slice none 0 0):Sem Value).run P w= .ok (.bool true) w:=by
 rw[Sem.run_bind,show(eqGuard .eql t ox oy (.slice none n c) (.slice none 0 0)).run P w= .ok () w by simp[eqGuard],Result.andThen_ok]
 exact Go.Lib.run_eql_slice_nil_nil w n c ht
section
variable{P:Program}{tt:List (Nat×TI)}{o:Oper}{n:Nat}{F:z05}{C:List Nat}{O:Go.Eng.Own}{nl:Nat}{V:Vw}
theorem ja1(htt:z0s P tt){p:List (Nat×Bool)}{e sz by_:Nat}{z:List Value}{li ci:Int}(len cap:Nat)(hv:zfr tt F p o.op=some (e,sz,by_,z,li,ci))
  (hl:li=len) (hc:ci=cap) (hlc:len≤cap) (hb:by_*cap≤281474976710656) (hmx:cap≤maxLen):
  StepTo P o p n F C O nl V (σ:=Nat) (fun b=>V.get b=none) (fun b=> .a (.v (.slice (some ⟨b,0,none⟩) len cap))) (fun _=>O) nl (fun b=>V.put b (.cells (z6z cap z).toArray e (0,0))):=by
 constructor
 intro E a w hf hgv hm K Q hK
 unfold Oper.wp execOp
 cases hop:o.op with
 |makeSlice t xl xc=>
  simp only[hop,zfr]at hv
  split at hv
  ·
   rename_i kl l' kc c' sz2 by2 z2 fl2 e' h1 h2 h3
   split at hv
   ·
    rename_i ti hte
    cases hzl:Nat.beq ti.zero.length ti.size with
    |false=>simp[hzl]at hv
    |true=>
     simp only[hzl,cond_true,Option.some.injEq,Prod.mk.injEq]at hv
     obtain⟨rfl,rfl,rfl,rfl,rfl,rfl⟩:=hv
     obtain⟨e1,_⟩:=z03 hf hgv h1
     obtain⟨e2,_⟩:=z03 hf hgv h2
     obtain⟨dd,hdd,hkd,_⟩:=(htt _ _ h3).und
     have e3:dd= .slice e':=by cases dd<;>simp[z19]at hkd;rw[hkd]
     subst e3
     obtain⟨fi,hfi,hfs,hfb,zv,hz,hzc⟩:=(htt _ _ hte).info
     subst hl hc
     simp only[maxLen]at hmx
     have hbi:(fi.bytes:Int)*(cap:Int)≤281474976710656:=by rw[hfb,←Int.natCast_mul];omega
     have hr:=run_make (P:=P) w t e' fi zv hdd hfi hz kl kc (len:Int) (cap:Int) (by omega) (by omega) hbi (by omega)
     simp only[Int.toNat_natCast]at hr
     have e1':a.eval xl= .int kl len:=e1
     have e2':a.eval xc= .int kc cap:=e2
     simp only[e1',e2',Sem.run_bind,hr,Result.andThen_ok,Sem.run_pure]
     rw[Nat.beq_eq]at hzl
     have hzs:zv.cells=ti.zero.toArray:=by apply Array.ext';simpa using hzc
     have hcells:madeCells zv.cells (cap*fi.size)=(z6z cap ti.zero).toArray:=by
      apply Array.ext'
      rw[hzs,hfs,←hzl,z9o]
     rw[hcells]
     have hno:V.get w.heap.size=none:=by
      cases hq:V.get w.heap.size with
      |none=>rfl
      |some ob=>
       have:=(Array.getElem?_eq_some_iff.1 (hm.get _ _ hq)).1
       omega
     exact hK w.heap.size E _ hno (fun _ _=>⟨rfl,rfl⟩) (hm.ext (z29 w _) (hm.vext _)) rfl
   · simp at hv
  · simp at hv
 |_=>simp[hop,zfr]at hv
end
theorem Vw.put_self{V:Vw}{b:Nat}{ob:Obj}(h:V.get b=some ob):V.put b ob=V:=by
 obtain⟨gt,os,tp,op⟩:=V
 simp only[Vw.put,Vw.mk.injEq,and_true]
 funext k
 split
 · rename_i e;subst e;exact h.symm
 · rfl
theorem Vw.put4(A:Vw){r m:Nat}(x y e e':Obj)(h:r≠m):(((A.put r x).put m e).put r y).put m e'=(A.put r y).put m e':=by
 simp only[Vw.put,Vw.mk.injEq,and_true]
 funext k
 by_cases h1:k=m<;>by_cases h2:k=r<;>simp[h1,h2]
/-! Maps whose values are slices of zur strings, each in a block of its own. -/
theorem zgs: ∀{es:List (Int×Value)} {i:Nat} {k:Int} {v:Value},(es.map (·.1)).Nodup→es[i]? =some (k,v)→z1u es k=some v
 |(a,x)::r,0,k,v,_,h=>by cases h;simp[z1u]
 |(a,x)::r,i+1,k,v,hn,h=>by
  rw[List.map_cons,List.nodup_cons]at hn
  have hk:k∈r.map (·.1):=List.mem_map.2 ⟨(k,v),List.mem_of_getElem? h,rfl⟩
  rw[z1u,if_neg (fun e=>hn.1 (by rw[show a=k from e];exact hk))]
  exact zgs hn.2 h
theorem zmr: ∀{es:List (Int×Value)} {k:Int} {v:Value},z1u es k=some v→ ∃i:Nat,es[i]? =some (k,v)
 |(a,x)::r,k,v,h=>by
  rw[z1u]at h
  split at h
  · rename_i e;subst e;cases h;exact⟨0,rfl⟩
  · obtain⟨i,hi⟩:=zmr h;exact⟨i+1,hi⟩
theorem zfv(k:Int)(v:Value): ∀(es:List (Int×Value)) (a:Int),a∈(z2x es k v).map (·.1)→a=k∨a∈es.map (·.1)
 |[],a,h=>by simp[z2x]at h;exact .inl h
 |(b,x)::r,a,h=>by
  rw[z2x]at h
  split at h
  · exact .inr h
  ·
   rw[List.map_cons,List.mem_cons]at h
   rcases h with h|h
   · exact .inr (by simp[h])
   ·
    rcases zfv k v r a h with h2|h2
    · exact .inl h2
    · exact .inr (by rw[List.map_cons,List.mem_cons];exact .inr h2)
theorem zcn(k:Int)(v:Value): ∀(es:List (Int×Value)),(es.map (·.1)).Nodup→((z2x es k v).map (·.1)).Nodup
 |[],_=>by simp[z2x]
 |(a,x)::r,h=>by
  rw[List.map_cons,List.nodup_cons]at h
  rw[z2x]
  split
  · rw[List.map_cons,List.nodup_cons];exact h
  ·
   rename_i hne
   rw[List.map_cons,List.nodup_cons]
   refine⟨fun hm=> ?_,zcn k v r h.2⟩
   rcases zfv k v r a hm with h2|h2
   · exact hne h2
   · exact h.1 h2
abbrev slV(b:Nat):Value:= .slice (some ⟨b,0,none⟩) 8 8
abbrev zl9(ty:Nat)(p:List ByteArray):Obj:= .cells (p.map Value.string).toArray ty (0,0)
structure MpR(ty:Nat)(V:Vw)(es:List (Int×Value))(T:Int→Option (List ByteArray)):Prop where
 none_: ∀n,T n=none→z1u es n=none
 some_: ∀n p,T n=some p→ ∃b,z1u es n=some (slV b)∧V.get b=some (zl9 ty p)∧p.length=8
theorem MpR.mono{ty:Nat}{V V':Vw}{es:List (Int×Value)}{T:Int→Option (List ByteArray)}(h:MpR ty V es T)(hle:V.le V'):MpR ty V' es T:=
 ⟨h.none_,fun n p hp=>by obtain⟨b,h1,h2,h3⟩:=h.some_ n p hp;exact⟨b,h1,hle.get _ _ h2,h3⟩⟩
structure MpF(ty:Nat)(V0 V:Vw)(es:List (Int×Value))(T:Int→Option (List ByteArray)):Prop where
 r:MpR ty V es T
 fresh: ∀n b,z1u es n=some (slV b)→V0.get b=none
 inj: ∀n m b,z1u es n=some (slV b)→z1u es m=some (slV b)→n=m
 nodup:(es.map (·.1)).Nodup
def no8:List ByteArray:=List.replicate 8 ByteArray.empty
def pcS(f:Int→Option (List ByteArray))(blk k:Int)(t:ByteArray):Int→Option (List ByteArray):=fun n=>if n=blk then some (((f n).getD no8).set k.toNat t)else f n
theorem Vw.put_other(V:Vw){a k:Nat}(ob:Obj)(h:k≠a):(V.put a ob).get k=V.get k:=by simp[Vw.put,h]
theorem zqa{ty:Nat}{V0 V Vp:Vw}{es:List (Int×Value)}{T:Int→Option (List ByteArray)}{mf b:Nat}{q:List ByteArray}{blk k:Int}{t:ByteArray}(h:MpF ty V0 V es T)(h0V:V0.le V)(hle:V.le Vp)(hmf:V.get mf=some (z4z es))(hm0:V0.get mf=none)(hb:Vp.get b=some (zl9 ty q))(hq:q.length=8)(h0:V0.get b=none)
  (hc:(T blk=some q∧z1u es blk=some (slV b))∨(T blk=none∧q=no8∧V.get b=none)):
  MpF ty V0 ((Vp.put b (zl9 ty (q.set k.toNat t))).put mf (z4z (z2x es blk (slV b)))) (z2x es blk (slV b)) (pcS T blk k t)∧V0.le ((Vp.put b (zl9 ty (q.set k.toNat t))).put mf (z4z (z2x es blk (slV b)))):=by
 have hbm:b≠mf:=fun e=>by
  have h1:=hle.get _ _ hmf
  rw[←e,hb]at h1
  cases h1
 have hqd:(T blk).getD no8=q:=by
  rcases hc with⟨h1,_⟩|⟨h1,h2,_⟩
  · rw[h1];rfl
  · rw[h1,h2];rfl
 have hget: ∀j,j≠b→j≠mf→((Vp.put b (zl9 ty (q.set k.toNat t))).put mf (z4z (z2x es blk (slV b)))).get j=Vp.get j:=fun j h1 h2=>by
  rw[Vw.put_other _ _ h2,Vw.put_other _ _ h1]
 have hgb:((Vp.put b (zl9 ty (q.set k.toNat t))).put mf (z4z (z2x es blk (slV b)))).get b=some (zl9 ty (q.set k.toNat t)):=by
  rw[Vw.put_other _ _ hbm,Vw.put_get]
 have hoth: ∀n b',z1u es n=some (slV b')→n≠blk→b'≠b:=fun n b' hn hne e=>by
  subst e
  rcases hc with⟨_,h2⟩|⟨_,_,h3⟩
  · exact hne (h.inj n blk b' hn h2)
  ·
   cases hT:T n with
   |none=>rw[h.r.none_ n hT]at hn;cases hn
   |some p=>
    obtain⟨b2,g1,g2,_⟩:=h.r.some_ n p hT
    rw[g1]at hn
    cases hn
    rw[h3]at g2
    cases g2
 refine⟨⟨⟨fun n hn=> ?_,fun n p hp=> ?_⟩,fun n b' hn=> ?_,fun n m b' hn hm=> ?_,zcn _ _ _ h.nodup⟩,⟨fun j o hj=> ?_,(h0V.trans hle).os,(h0V.trans hle).tape,(h0V.trans hle).output⟩⟩
 ·
  rw[pcS]at hn
  split at hn
  · cases hn
  ·
   rename_i hne
   rw[z4q,if_neg (fun e=>hne e.symm)]
   exact h.r.none_ n hn
 ·
  rw[pcS]at hp
  split at hp
  ·
   rename_i he
   subst he
   cases hp
   refine⟨b,by rw[z4q,if_pos rfl], ?_,by rw[List.length_set,hqd];exact hq⟩
   rw[hqd]
   exact hgb
  ·
   rename_i hne
   obtain⟨b',h1,h2,h3⟩:=h.r.some_ n p hp
   refine⟨b',by rw[z4q,if_neg (fun e=>hne e.symm)];exact h1, ?_,h3⟩
   have hb'm:b'≠mf:=fun e=>by rw[e,hmf]at h2;cases h2
   rw[hget b' (hoth n b' h1 hne) hb'm]
   exact hle.get _ _ h2
 ·
  rw[z4q]at hn
  split at hn
  · cases hn;exact h0
  · exact h.fresh n b' hn
 ·
  rw[z4q]at hn hm
  split at hn
  ·
   rename_i e1
   cases hn
   split at hm
   · rename_i e2;exact e1.symm.trans e2
   · rename_i e2;exact absurd rfl (hoth m _ hm (fun e=>e2 e.symm))
  ·
   rename_i e1
   split at hm
   ·
    rename_i e2
    cases hm
    exact absurd rfl<|hoth n _ hn fun e=>e1 e.symm
   · exact h.inj n m b' hn hm
 ·
  have hjb:j≠b:=fun e=>by rw[e,h0]at hj;cases hj
  have hjm:j≠mf:=fun e=>by rw[e,hm0]at hj;cases hj
  rw[hget j hjb hjm]
  exact(h0V.trans hle).get _ _ hj
end Go.Eng
