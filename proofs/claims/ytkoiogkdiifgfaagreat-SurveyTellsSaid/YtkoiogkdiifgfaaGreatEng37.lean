/-
 Maps from numbers to values of one cell, seen as memory that is told anew at each write.
-/
import Derived.Test.YtkoiogkdiifgfaaGreatEng36
set_option linter.unusedSimpArgs false
set_option linter.unusedVariables false
namespace Go.Eng
open Go Go.RowKit
def z6o:List (Int×Value)→Nat→List MapEntry
 |[],_=>[]
 |(k,v)::r,n=>⟨.int .i64 k,v,n⟩::z6o r (n+1)
def z4z(es:List (Int×Value)):Obj:= .map (z6o es 0).toArray es.length
def z1u:List (Int×Value)→Int→Option Value
 |[],_=>none
 |(a,x)::r,k=>if a=k then some x else z1u r k
def z2x:List (Int×Value)→Int→Value→List (Int×Value)
 |[],k,v=>[(k,v)]
 |(a,x)::r,k,v=>if a=k then(a,v)::r else(a,x)::z2x r k v
theorem z4q(k:Int)(v:Value)(k':Int): ∀es,z1u (z2x es k v) k'=if k=k' then some v else z1u es k'
 |[]=>by simp[z2x,z1u]
 |(a,x)::r=>by
  have ih:=z4q k v k' r
  simp only[z2x]
  by_cases h:a=k
  ·
   subst h
   rw[if_pos rfl]
   simp only[z1u]
   by_cases h2:a=k'<;>simp[h2]
  ·
   rw[if_neg h]
   simp only[z1u]
   by_cases h2:a=k'
   ·
    subst h2
    rw[if_pos rfl,if_neg (fun e=>h e.symm),if_pos rfl]
   · rw[if_neg h2,ih,if_neg h2]
theorem zjx(k:Int)(v:Value): ∀es,(z1u es k).isSome=true→(z2x es k v).length=es.length
 |[],h=>by simp[z1u]at h
 |(a,x)::r,h=>by
  simp only[z2x]
  by_cases e:a=k
  · rw[if_pos e];rfl
  ·
   rw[if_neg e]
   simp only[z1u,if_neg e]at h
   simp[zjx k v r h]
theorem zlt(kd:IntKind)(k:Int)(v:Value): ∀(es:List (Int×Value)) (n i:Nat),z1u es k=none→Instr.findNow (.int kd) (.int .i64 k) (z6o es n) i=some none∧z6o (z2x es k v) n=z6o es n++[⟨.int .i64 k,v,n+es.length⟩]∧(z2x es k v).length=es.length+1
 |[],n,i,_=>by simp[z6o,z2x,Instr.findNow]
 |(a,x)::r,n,i,h=>by
  simp only[z1u]at h
  by_cases e:a=k
  · rw[if_pos e]at h;cases h
  ·
   rw[if_neg e]at h
   obtain⟨h1,h2,h3⟩:=zlt kd k v r (n+1) (i+1) h
   have hb:(k==a)=false:=by simp;exact fun q=>e q.symm
   refine⟨?_, ?_, ?_⟩
   · rw[z6o];simp[Instr.findNow,Instr.sameNow,hb,h1]
   ·
    simp only[z2x,if_neg e,z6o,h2,List.cons_append,List.length_cons]
    congr 3
    simp;omega
   · simp only[z2x,if_neg e,List.length_cons,h3]
theorem zlb(kd:IntKind)(k:Int)(v:Value): ∀(es:List (Int×Value)) (n i:Nat) (x:Value),z1u es k=some x→ ∃j e,Instr.findNow (.int kd) (.int .i64 k) (z6o es n) i=some (some (i+j,x))∧(z6o es n)[j]? =some e∧e.key= .int .i64 k∧
  (z6o es n).modify j (fun e=>{e with key:= .int .i64 k,val:=v})=z6o (z2x es k v) n
 |[],n,i,x,h=>by simp[z1u]at h
 |(a,y)::r,n,i,x,h=>by
  simp only[z1u]at h
  by_cases e:a=k
  ·
   subst e
   rw[if_pos rfl]at h
   cases h
   refine⟨0,_, ?_,rfl,rfl, ?_⟩
   · simp[z6o,Instr.findNow,Instr.sameNow]
   · simp[z6o,z2x]
  ·
   rw[if_neg e]at h
   obtain⟨j,en,h1,h2,h3,h4⟩:=zlb kd k v r (n+1) (i+1) x h
   have hb:(k==a)=false:=by simp;exact fun q=>e q.symm
   refine⟨j+1,en, ?_, ?_,h3, ?_⟩
   ·
    rw[z6o]
    simp only[Instr.findNow,Instr.sameNow,beq_self_eq_true,Bool.true_and,if_true,hb,h1]
    rw[show i+1+j=i+(j+1) by omega]
   · simpa[z6o]using h2
   · simp only[z6o,z2x,if_neg e,List.modify_succ_cons,h4]
section
variable{P:Program}{tt:List (Nat×TI)}{ops:Array Oper}{Q:Exit→Act→World→Prop}{o:Oper}{rest:List Oper}
 {n:Nat} {F:z05} {C:List Nat} {O:Own} {nl:Nat} {V:Vw} {K:Act→World→Prop}
theorem zhm{w:World}{t kt et b:Nat}{kd:IntKind}{k:Int}{es:List (Int×Value)}{z:Value}(c:Bool)(ht:P.underlying t=some (.map kt et))(hk:P.underlying kt=some (.int kd))(hz:(zeroValue et).run P w= .ok z w)
  (hb:w.heap[b]? =some (z4z es)):(Instr.lookup t (.map (some b)) (.int .i64 k) c).run P w= .ok (if c=true then .tuple #[(z1u es k).getD z, .bool (z1u es k).isSome]else(z1u es k).getD z) w:=by
 have hg:(getObj b).run P w= .ok (z4z es) w:=by simp[getObj,Sem.run,hb,z4z]
 have hc: ∀e,(Instr.checkKey e 10000 kt (.int .i64 k)).run P w= .ok () w:=fun e=>by rw[show(10000:Nat)=9999+1 from rfl,Instr.checkKey];simp[run_underlying hk]
 cases hm:z1u es k with
 |some x=>
  obtain⟨j,e,hj,_⟩:=zlb kd k x es 0 0 x hm
  have h1:(Instr.findKey kt (.int .i64 k) (z6o es 0)).run P w= .ok (some (0+j,x)) w:=by simp[Instr.findKey,run_underlying hk,hj]
  cases c<;>simp[Instr.lookup,run_underlying ht,hg,z4z,hc,h1]
 |none=>
  have hj:=(zlt kd k z es 0 0 hm).1
  have h1:(Instr.findKey kt (.int .i64 k) (z6o es 0)).run P w= .ok none w:=by simp[Instr.findKey,run_underlying hk,hj]
  cases c<;>simp[Instr.lookup,run_underlying ht,hg,z4z,hc,h1,hz]
def ze2(F:z05)(p:List (Nat×Bool)):Op→Option (Nat×Nat×Int×Bool)
 | .lookup t x y c=>match opv F p x,opv F p y with
  |some (.a (.v (.map (some b)))),some (.a (.v (.int .i64 k)))=>some (t,b,k,c)
  |_,_=>none
 |_=>none
theorem zv5{p:List (Nat×Bool)}{g:Bool}{t kt et b:Nat}{kd:IntKind}{k:Int}{c:Bool}{z:Value}(es:List (Int×Value))(hv:ze2 F p o.op=some (t,b,k,c))(ht:P.underlying t=some (.map kt et))(hk:P.underlying kt=some (.int kd))(hz: ∀w,(zeroValue et).run P w= .ok z w)
  (hb:g=true→V.get b=some (z4z es)) (hgt:g=true) {E:Env} {a:Act} {w:World} (hf:Frm E n F C nl a.tmps) (hgv:z61 F p=true) (hm:Mem E O nl V w):
  Yv P o a w (if c=true then .tuple #[(z1u es k).getD z, .bool (z1u es k).isSome]else(z1u es k).getD z):=by
 unfold Yv execOp
 cases hop:o.op with
 |lookup t' x y ok=>
  simp only[hop,ze2]at hv
  split at hv
  ·
   rename_i b' k' hx hy
   simp only[Option.some.injEq,Prod.mk.injEq]at hv
   obtain⟨rfl,rfl,rfl,rfl⟩:=hv
   obtain⟨h1,_⟩:=z03 hf hgv hx
   obtain⟨h2,_⟩:=z03 hf hgv hy
   have e1:a.eval x= .map (some b'):=h1
   have e2:a.eval y= .int .i64 k':=h2
   simp only[e1,e2,Sem.run_bind,zhm ok ht hk (hz w) (hm.get _ _ (hb hgt)),Result.andThen_ok,Sem.run_pure]
  · simp at hv
 |_=>simp[hop,ze2]at hv
theorem zyt{p:List (Nat×Bool)}{g:Bool}{t kt et b:Nat}{kd:IntKind}{k:Int}{z:Value}(es:List (Int×Value))(x:Value)(hv:ze2 F p o.op=some (t,b,k,false))(ht:P.underlying t=some (.map kt et))(hk:P.underlying kt=some (.int kd))(hz: ∀w,(zeroValue et).run P w= .ok z w)
  (hb:g=true→V.get b=some (z4z es)) (hx:g=true→(z1u es k).getD z=x):Yld P o n F C O nl V p g (.a (.v x)):=by
 intro hgt E a w hf hgv hm
 refine⟨?_,rfl⟩
 have:=zv5 es hv ht hk hz hb hgt hf hgv hm
 rw[if_neg (by simp),hx hgt]at this
 exact this
theorem zu9{p:List (Nat×Bool)}{g:Bool}{t kt et b:Nat}{kd:IntKind}{k:Int}{z:Value}(es:List (Int×Value))(x:Value)(r:Bool)(hv:ze2 F p o.op=some (t,b,k,true))(ht:P.underlying t=some (.map kt et))(hk:P.underlying kt=some (.int kd))(hz: ∀w,(zeroValue et).run P w= .ok z w)
  (hb:g=true→V.get b=some (z4z es)) (hx:g=true→(z1u es k).getD z=x∧(z1u es k).isSome=r):Yld P o n F C O nl V p g (.tup [.v x, .v (.bool r)]):=by
 intro hgt E a w hf hgv hm
 refine⟨?_,rfl⟩
 have:=zv5 es hv ht hk hz hb hgt hf hgv hm
 rw[if_pos rfl,(hx hgt).1,(hx hgt).2]at this
 exact this
theorem zn6{p:List (Nat×Bool)}{t:Nat}(hv:z9m o.op=some t):
  StepTo P o p n F C O nl V (σ:=Nat) (fun b=>V.get b=none) (fun b=> .a (.v (.map (some b)))) (fun _=>O) nl (fun b=>V.put b (z4z [])):=zv9 hv
theorem zc1{w:World}{t kt et b:Nat}{kd:IntKind}{k:Int}{v:Value}{es:List (Int×Value)}(ht:P.underlying t=some (.map kt et))(hk:P.underlying kt=some (.int kd))
  (hb:w.heap[b]? =some (z4z es)):(Instr.mapUpdate t (.map (some b)) (.int .i64 k) v).run P w= .ok () {w with heap:=w.heap.setIfInBounds b (z4z (z2x es k v))}:=by
 have hg:(getObj b).run P w= .ok (z4z es) w:=by simp[getObj,Sem.run,hb,z4z]
 have hc: ∀e,(Instr.checkKey e 10000 kt (.int .i64 k)).run P w= .ok () w:=fun e=>by rw[show(10000:Nat)=9999+1 from rfl,Instr.checkKey];simp[run_underlying hk]
 have hs: ∀ob,(setObj b ob).run P w= .ok () {w with heap:=w.heap.setIfInBounds b ob}:=fun ob=>by simp[setObj,Sem.run,hb,z4z]
 have hst:(Instr.keyThatStays (.int .i64 k) (.int .i64 k)).run P w= .ok (.int .i64 k) w:=by simp[Instr.keyThatStays,Instr.sameBits]
 cases hm:z1u es k with
 |some x=>
  obtain⟨j,e,hj,he,hek,hmod⟩:=zlb kd k v es 0 0 x hm
  have h1:(Instr.findKey kt (.int .i64 k) (z6o es 0)).run P w= .ok (some (0+j,x)) w:=by simp[Instr.findKey,run_underlying hk,hj]
  rw[Nat.zero_add]at h1
  have hkey:(((z6o es 0).toArray[j]?).map (·.key)).getD (.int .i64 k)= .int .i64 k:=by simp[he,hek]
  have hob:Obj.map ((z6o es 0).toArray.modify j fun e=>{e with key:= .int .i64 k,val:=v}) es.length=z4z (z2x es k v):=by
   rw[z4z,zjx k v es (by rw[hm];rfl),←hmod]
   congr 1
   apply Array.ext'
   simp
  rw[←hob]
  simp only[z4z]at hg
  have hstays:(Instr.keyThatStays ((((z6o es 0).toArray[j]?).map (·.key)).getD (.int .i64 k)) (.int .i64 k)).run P w= .ok (.int .i64 k) w:=by rw[hkey];exact hst
  unfold Instr.mapUpdate
  simp only[Sem.run_bind,run_underlying ht,Result.andThen_ok,hg,hc,h1,hstays,hs]
 |none=>
  obtain⟨hj,hpe,hpl⟩:=zlt kd k v es 0 0 hm
  have h1:(Instr.findKey kt (.int .i64 k) (z6o es 0)).run P w= .ok none w:=by simp[Instr.findKey,run_underlying hk,hj]
  have hob:Obj.map ((z6o es 0).toArray.push ⟨.int .i64 k,v,es.length⟩) (es.length+1)=z4z (z2x es k v):=by
   rw[z4z,hpe,hpl]
   simp
  rw[←hob]
  simp only[z4z]at hg
  unfold Instr.mapUpdate
  simp only[Sem.run_bind,run_underlying ht,Result.andThen_ok,hg,hc,h1,hs]
def zlg(F:z05)(p:List (Nat×Bool)):Op→Option (Nat×Nat×Int×Value)
 | .mapUpdate t x y z=>match opv F p x,opv F p y,opv F p z with
  |some (.a (.v (.map (some b)))),some (.a (.v (.int .i64 k))),some (.a (.v v))=>some (t,b,k,v)
  |_,_,_=>none
 |_=>none
theorem zgy{p:List (Nat×Bool)}{t kt et b:Nat}{kd:IntKind}{k:Int}{v:Value}(es:List (Int×Value))(hv:zlg F p o.op=some (t,b,k,v))(hd:o.dst=none)(ht:P.underlying t=some (.map kt et))(hk:P.underlying kt=some (.int kd))
  (hb:V.get b=some (z4z es)):StepTo P o p n F C O nl V (σ:=Unit) (fun _=>True) (fun _=> .a (.v undef)) (fun _=>O) nl (fun _=>V.put b (z4z (z2x es k v))):=by
 constructor
 intro E a w hf hgv hm K Q hK
 unfold Oper.wp execOp
 cases hop:o.op with
 |mapUpdate t' x y z=>
  simp only[hop,zlg]at hv
  split at hv
  ·
   rename_i b' k' v' hx hy hz
   simp only[Option.some.injEq,Prod.mk.injEq]at hv
   obtain⟨rfl,rfl,rfl,rfl⟩:=hv
   obtain⟨h1,_⟩:=z03 hf hgv hx
   obtain⟨h2,_⟩:=z03 hf hgv hy
   obtain⟨h3,_⟩:=z03 hf hgv hz
   have e1:a.eval x= .map (some b'):=h1
   have e2:a.eval y= .int .i64 k':=h2
   have e3:a.eval z=v':=h3
   simp only[e1,e2,e3,Sem.run_bind,zc1 ht hk (hm.get _ _ hb),Result.andThen_ok,Sem.run_pure]
   have:=hK () E _ trivial (fun _ _=>⟨rfl,rfl⟩) (hm.putV hb _) rfl
   show K (a.put o.dst undef) _
   exact this
  · simp at hv
 |_=>simp[hop,zlg]at hv
end
end Go.Eng
