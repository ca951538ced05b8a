/-
 Symbolic states: what is known of a frame's slots, of memory that a function owns, and of memory that nobody writes.
-/
import Derived.WalkKit
set_option linter.unusedSimpArgs false
namespace Go.Eng
open Go Go.RowKit
structure Vw where
 get:Nat→Option Obj
 os:Os
 tape:Nat→Question→Nat
 output:Array (Nat×ByteArray)
def vw(w:World):Vw:=⟨fun k=>w.heap[k]?,w.os,w.tape,w.output⟩
structure Vw.le(V V':Vw):Prop where
 get: ∀k o,V.get k=some o→V'.get k=some o
 os:V'.os=V.os
 tape:V'.tape=V.tape
 output:V'.output=V.output
theorem Vw.le.refl(V:Vw):V.le V:=⟨fun _ _ h=>h,rfl,rfl,rfl⟩
theorem Vw.le.trans{A B C:Vw}(h:A.le B)(k:B.le C):A.le C:=
 ⟨fun i o e=>k.get i o (h.get i o e),k.os.trans h.os,k.tape.trans h.tape,k.output.trans h.output⟩
inductive A where
 |v (x:Value)
 |ptr (l off:Nat)
 |fn (f:Nat) (caps:List (Nat×Nat))
 |row (l:Nat)
 |el (x:Value) (k:Nat)
 |rel (l k:Nat)
inductive SV where
 |a (x:A)
 |agg (cs:List A)
 |tup (xs:List A)
structure Env where
 ρ:Nat→Nat
 κ:Nat→Value
def z9k:Value→Nat→Value
 | .slice (some a) _ _,k=> .pointer (some (a.add k))
 |_,_=>undef
def A.den(E:Env):A→Value
 | .v x=>x
 | .ptr l off=> .pointer (some ⟨E.ρ l,off,none⟩)
 | .fn f caps=> .func (.func f) #[] (caps.map fun p=>Value.pointer (some ⟨E.ρ p.1,p.2,none⟩)).toArray
 | .row l=>E.κ l
 | .el x k=>z9k x k
 | .rel l k=>z9k (E.κ l) k
def SV.den(E:Env):SV→Value
 | .a x=>x.den E
 | .agg cs=> .agg (cs.map (A.den E)).toArray
 | .tup xs=> .tuple (xs.map (A.den E)).toArray
def zej(nl:Nat):List (Nat×Nat)→Bool
 |[]=>true
 |p::r=>Nat.blt p.1 nl&&zej nl r
def A.ok(nl:Nat):A→Bool
 | .v _=>true
 | .ptr l _=>Nat.blt l nl
 | .fn _ caps=>zej nl caps
 | .row l=>Nat.blt l nl
 | .el _ _=>true
 | .rel l _=>Nat.blt l nl
def z0z(nl:Nat):List A→Bool
 |[]=>true
 |x::r=>x.ok nl&&z0z nl r
def SV.ok(nl:Nat):SV→Bool
 | .a x=>x.ok nl
 | .agg cs=>z0z nl cs
 | .tup xs=>z0z nl xs
theorem z0e{a b:Nat}:Nat.blt a b=true↔a<b:=by simp[Nat.blt_eq]
theorem z0o{nl:Nat}: ∀{l:List A},z0z nl l=true↔ ∀x∈l,x.ok nl=true
 |[]=>by simp[z0z]
 |x::r=>by simp[z0z,z0o (l:=r)]
theorem z5b{nl:Nat}: ∀{l:List (Nat×Nat)},zej nl l=true↔ ∀p∈l,p.1<nl
 |[]=>by simp[zej]
 |x::r=>by simp[zej,z5b (l:=r),z0e]
def z5u(nl:Nat):List SV→Bool
 |[]=>true
 |x::r=>x.ok nl&&z5u nl r
theorem allOk'_iff{nl:Nat}: ∀{l:List SV},z5u nl l=true↔ ∀x∈l,x.ok nl=true
 |[]=>by simp[z5u]
 |x::r=>by simp[z5u,allOk'_iff (l:=r)]
def Env.agree(nl:Nat)(E E':Env):Prop:= ∀l,l<nl→E'.ρ l=E.ρ l∧E'.κ l=E.κ l
theorem A.den_agree{nl:Nat}{E E':Env}(h:E.agree nl E'){x:A}(hx:x.ok nl=true):x.den E'=x.den E:=by
 cases x with
 |v x=>rfl
 |el x k=>rfl
 |ptr l off=>simp only[A.ok,z0e]at hx;simp only[A.den,(h l hx).1]
 |row l=>simp only[A.ok,z0e]at hx;simp only[A.den,(h l hx).2]
 |rel l k=>simp only[A.ok,z0e]at hx;simp only[A.den,(h l hx).2]
 |fn f caps=>
  simp only[A.ok,z5b]at hx
  simp only[A.den]
  congr 2
  apply List.map_congr_left
  intro p hp
  rw[(h p.1 (hx p hp)).1]
theorem A.map_agree{nl:Nat}{E E':Env}(h:E.agree nl E'){l:List A}(hx:z0z nl l=true):l.map (A.den E')=l.map (A.den E):=by
 apply List.map_congr_left
 intro x hm
 exact A.den_agree h<|z0o.1 hx x hm
theorem SV.den_agree{nl:Nat}{E E':Env}(h:E.agree nl E'){x:SV}(hx:x.ok nl=true):x.den E'=x.den E:=by
 cases x with
 |a x=>exact A.den_agree h hx
 |agg cs=>simp only[SV.den,A.map_agree h hx]
 |tup cs=>simp only[SV.den,A.map_agree h hx]
theorem A.ok_mono{nl nl':Nat}(h:nl≤nl'){x:A}(hx:x.ok nl=true):x.ok nl'=true:=by
 cases x with
 |v x=>rfl
 |el x k=>rfl
 |ptr l off=>simp only[A.ok,z0e]at hx⊢;omega
 |row l=>simp only[A.ok,z0e]at hx⊢;omega
 |rel l k=>simp only[A.ok,z0e]at hx⊢;omega
 |fn f caps=>simp only[A.ok,z5b]at hx⊢;intro p hp;have:=hx p hp;omega
theorem z15{nl nl':Nat}(h:nl≤nl'){l:List A}(hx:z0z nl l=true):z0z nl' l=true:=
 z0o.2 fun x hm=>A.ok_mono h (z0o.1 hx x hm)
theorem SV.ok_mono{nl nl':Nat}(h:nl≤nl'){x:SV}(hx:x.ok nl=true):x.ok nl'=true:=by
 cases x with
 |a x=>exact A.ok_mono h hx
 |agg cs=>exact z15 h hx
 |tup cs=>exact z15 h hx
def lk{α:Type}:List (Nat×α)→Nat→Option α
 |[],_=>none
 |(k,a)::r,t=>bif Nat.beq k t then some a else lk r t
theorem z1l{α:Type}(k:Nat)(a:α)(r:List (Nat×α))(t:Nat):lk ((k,a)::r) t=if k=t then some a else lk r t:=by
 show(bif Nat.beq k t then some a else lk r t)=_
 by_cases h:k=t
 · subst h;simp
 ·
  have:Nat.beq k t=false:=by rw[←Bool.not_eq_true,Nat.beq_eq];exact h
  simp[this,h]
theorem z0f{α:Type}(k:Nat)(a:α)(r:List (Nat×α)):lk ((k,a)::r) k=some a:=by simp[z1l]
theorem z22{α:Type}{k t:Nat}(a:α)(r:List (Nat×α))(h:k≠t):lk ((k,a)::r) t=lk r t:=by simp[z1l,h]
inductive Cel where
 |lit (cs:List A) (e:Nat)
 |row (e sz n:Nat) (xs:List Value)
 |gone
 |pin (m b:Nat)
 |size (k:Nat)
 |keep (m b:Nat) (v:Value)
def blk(E:Env)(l:Nat):Cel→Option Nat
 | .lit _ _=>some (E.ρ l)
 | .row _ _ _ _=>(E.κ l).ownBlock
 | .gone=>none
 | .pin _ _=>none
 | .size _=>none
 | .keep _ _ _=>none
abbrev Own:=List (Nat×Cel)
structure Mem(E:Env)(O:Own)(nl:Nat)(V:Vw)(w:World):Prop where
 lit: ∀l cs e,lk O l=some (.lit cs e)→w.heap[E.ρ l]? =some (.cells (cs.map (A.den E)).toArray e (0,0))
 row: ∀l e sz n xs,lk O l=some (.row e sz n xs)→w.ownsRow 0 e sz (E.κ l) n xs
 sep: ∀l l' c c' k,lk O l=some c→lk O l'=some c'→blk E l c=some k→blk E l' c'=some k→l=l'
 get: ∀k o,V.get k=some o→w.heap[k]? =some o
 off: ∀l c k,lk O l=some c→blk E l c=some k→V.get k=none
 os:w.os=V.os
 tape:w.tape=V.tape
 output:w.output=V.output
 lab: ∀l c,lk O l=some c→l<nl
 labs: ∀l cs e,lk O l=some (.lit cs e)→z0z nl cs=true
 pin: ∀l m b,lk O l=some (.pin m b)→E.ρ m=b∧m<nl
 big: ∀l k,lk O l=some (.size k)→k≤w.heap.size
 kp: ∀l m b v,lk O l=some (.keep m b v)→E.ρ m=b∧E.κ m=v∧m<nl
structure Ent where
 path:List (Nat×Bool)
 g:Bool
 x:SV
abbrev z05:=List (Nat×Ent)
def z5t(F:z05)(s:Nat)(b:Bool):Bool:=
 match lk F s with
 |some ⟨_,_, .a (.v (.bool x))⟩=>x==b
 |_=>false
def z61(F:z05):List (Nat×Bool)→Bool
 |[]=>true
 |(s,b)::r=>z61 F r&&z5t F s b
def z2w(s:Nat):List Nat→Bool
 |[]=>false
 |t::r=>bif Nat.beq s t then true else z2w s r
theorem z3i{s:Nat}: ∀{l:List Nat},z2w s l=true↔s∈l
 |[]=>by simp[z2w]
 |t::r=>by
  have ih:=z3i (s:=s) (l:=r)
  by_cases h:s=t
  · subst h;simp[z2w]
  ·
   have:Nat.beq s t=false:=by rw[←Bool.not_eq_true,Nat.beq_eq];exact h
   simp[z2w,this,ih,h]
structure Frm(E:Env)(n:Nat)(F:z05)(C:List Nat)(nl:Nat)(tmps:Array Value):Prop where
 size:tmps.size=n
 val: ∀t e,lk F t=some e→tmps[t]? =some (if e.g then e.x.den E else undef)
 wf: ∀t e,lk F t=some e→e.g=z61 F e.path∧ ∀q∈e.path,z2w q.1 C=true
 labs: ∀t e,lk F t=some e→e.g=true→e.x.ok nl=true
structure KJ(K:Act→World→Prop)(n:Nat)(F:z05)(C:List Nat)(O:Own)(nl:Nat)(V:Vw):Prop where
 out: ∀E a w,a.defers=[]→Frm E n F C nl a.tmps→Mem E O nl V w→K a w
def j66:Bool→Bool→Bool
 |true,true=>true
 |false,false=>true
 |_,_=>false
theorem zxl{a b:Bool}:j66 a b=true↔a=b:=by cases a<;>cases b<;>simp[j66]
def zyv(s:Nat)(b:Bool):List (Nat×Bool)→Bool
 |[]=>false
 |(t,c)::r=>bif Nat.beq s t&&j66 b c then true else zyv s b r
theorem zn3{s:Nat}{b:Bool}: ∀{l:List (Nat×Bool)},zyv s b l=true↔(s,b)∈l
 |[]=>by simp[zyv]
 |(t,c)::r=>by
  have ih:=zn3 (s:=s) (b:=b) (l:=r)
  by_cases h:s=t∧b=c
  ·
   obtain⟨rfl,rfl⟩:=h
   have:j66 b b=true:=by cases b<;>rfl
   simp[zyv,this]
  ·
   have:(Nat.beq s t&&j66 b c)=false:=by
    rw[←Bool.not_eq_true,Bool.and_eq_true,Nat.beq_eq,zxl];exact h
   simp only[zyv,this,cond_false,ih,List.mem_cons,Prod.mk.injEq]
   exact⟨Or.inr,fun h'=>h'.resolve_left h⟩
def zzl:List (Nat×Bool)→List (Nat×Bool)→Bool
 |[],_=>true
 |(s,b)::r,p=>bif zyv s b p then zzl r p else false
theorem zng{F:z05}{s:Nat}{b:Bool}: ∀{p:List (Nat×Bool)},(s,b)∈p→z61 F p=true→z5t F s b=true
 |(t,c)::r,h,hg=>by
  simp only[z61,Bool.and_eq_true]at hg
  rcases List.mem_cons.1 h with h|h
  · cases h;exact hg.2
  · exact zng h hg.1
theorem zn5{F:z05}: ∀{q p:List (Nat×Bool)},zzl q p=true→z61 F p=true→z61 F q=true
 |[],_,_,_=>rfl
 |(s,b)::r,p,h,hg=>by
  simp only[zzl]at h
  cases hm:zyv s b p with
  |false=>simp[hm]at h
  |true=>
   simp only[hm,cond_true]at h
   simp only[z61,zn5 h hg,zng (zn3.1 hm) hg,Bool.and_self]
def opv(F:z05)(p:List (Nat×Bool)):Operand→Option SV
 | .tmp t=>match lk F t with
  |some e=>bif zzl e.path p then some e.x else none
  |none=>none
 | .const v=>some (.a (.v v))
 | .func f=>some (.a (.fn f []))
 | .global g=>some (.a (.v (.pointer (some ⟨g,0,none⟩))))
theorem z03{E:Env}{n:Nat}{F:z05}{C:List Nat}{nl:Nat}{a:Act}{p:List (Nat×Bool)}{o:Operand}{s:SV}
  (hf:Frm E n F C nl a.tmps) (hg:z61 F p=true) (h:opv F p o=some s):a.eval o=s.den E∧s.ok nl=true:=by
 cases o with
 |tmp t=>
  simp only[opv]at h
  cases hl:lk F t with
  |none=>simp[hl]at h
  |some e=>
   simp only[hl]at h
   cases hs:zzl e.path p with
   |false=>simp[hs]at h
   |true=>
    simp only[hs,cond_true,Option.some.injEq]at h
    subst h
    have hgt:e.g=true:=by rw[(hf.wf t e hl).1];exact zn5 hs hg
    have hv:=hf.val t e hl
    rw[hgt]at hv
    refine⟨?_,hf.labs t e hl hgt⟩
    simp only[if_true]at hv
    simp[Act.eval,hv]
 |const v=>simp only[opv,Option.some.injEq]at h;subst h;exact⟨rfl,rfl⟩
 |func f=>simp only[opv,Option.some.injEq]at h;subst h;exact⟨rfl,rfl⟩
 |global g=>simp only[opv,Option.some.injEq]at h;subst h;exact⟨rfl,rfl⟩
theorem zgo{F:z05}{d:Nat}{e:Ent}: ∀{p:List (Nat×Bool)},(∀q∈p,q.1≠d)→z61 ((d,e)::F) p=z61 F p
 |[],_=>rfl
 |(s,b)::r,h=>by
  have hs:s≠d:=h (s,b) (by simp)
  have ih:=zgo (F:=F) (e:=e) (p:=r) (fun q hq=>h q (by simp[hq]))
  simp only[z61,ih,z5t,z22 (k:=d) (t:=s) e F (fun x=>hs x.symm)]
theorem Frm.put{E:Env}{n:Nat}{F:z05}{C:List Nat}{nl:Nat}{a:Act}{d:Nat}{p:List (Nat×Bool)}{g:Bool}{s:SV}
  (hf:Frm E n F C nl a.tmps) (hd:d<n) (hC:z2w d C=false) (hg:g=z61 F p) (hp: ∀q∈p,z2w q.1 C=true) (hs:g=true→s.ok nl=true):
  Frm E n ((d,⟨p,g,s⟩)::F) C nl (a.put (some d) (if g then s.den E else undef)).tmps:=by
 have hne: ∀{q:List (Nat×Bool)},(∀x∈q,z2w x.1 C=true)→ ∀x∈q,x.1≠d:=by
  intro q hq x hx e
  have:=hq x hx
  rw[e,hC]at this
  cases this
 constructor
 · simp[Act.put,hf.size]
 ·
  intro t e ht
  rw[z1l]at ht
  by_cases h:d=t
  ·
   subst h
   simp only[if_true,Option.some.injEq]at ht
   subst ht
   have hd':d<a.tmps.size:=by rw[hf.size];exact hd
   simp[Act.put,hd']
  ·
   simp only[h,if_false]at ht
   simp only[Act.put,Array.getElem?_setIfInBounds,h,if_false]
   exact hf.val t e ht
 ·
  intro t e ht
  rw[z1l]at ht
  by_cases h:d=t
  ·
   subst h
   simp only[if_true,Option.some.injEq]at ht
   subst ht
   exact⟨by rw[zgo (hne hp)];exact hg,hp⟩
  ·
   simp only[h,if_false]at ht
   obtain⟨h1,h2⟩:=hf.wf t e ht
   exact⟨by rw[zgo (hne h2)];exact h1,h2⟩
 ·
  intro t e ht
  rw[z1l]at ht
  by_cases h:d=t
  ·
   subst h
   simp only[if_true,Option.some.injEq]at ht
   subst ht
   exact hs
  ·
   simp only[h,if_false]at ht
   exact hf.labs t e ht
def gd(ops:Array Oper)(F:z05)(C:List Nat):Option (Nat×Bool)→Option (List (Nat×Bool)×Bool×List Nat)
 |none=>some ([],true,C)
 |some (j,want)=>match ops[j]? with
  |some oj=>match oj.dst with
   |some s=>match lk F s with
    |some ⟨pj,gj, .a (.v (.bool x))⟩=>match pj,want with
     |[],true=>some ((s,true)::[],x,s::C)
     |[],false=>some ((s,false)::[], !x,s::C)
     |q::r,true=>some ((s,true)::q::r,gj&&x,s::C)
     |q::r,false=>some ((s,false)::q::r,gj&& !x,s::C)
    |_=>none
   |none=>none
  |none=>none
theorem Frm.weakC{E:Env}{n:Nat}{F:z05}{C C':List Nat}{nl:Nat}{tmps:Array Value}(h: ∀s,z2w s C=true→z2w s C'=true)
  (hf:Frm E n F C nl tmps):Frm E n F C' nl tmps:=
 ⟨hf.size,hf.val,fun t e ht=>⟨(hf.wf t e ht).1,fun q hq=>h _ ((hf.wf t e ht).2 q hq)⟩,hf.labs⟩
theorem z18{E:Env}{n:Nat}{F:z05}{C C':List Nat}{nl:Nat}{a:Act}{ops:Array Oper}{o:Oper}{p:List (Nat×Bool)}{g:Bool}
  (hf:Frm E n F C nl a.tmps) (h:gd ops F C o.guard=some (p,g,C')):
  Region.wanted o (yielded ops a.tmps)=g∧Frm E n F C' nl a.tmps∧g=z61 F p∧ ∀q∈p,z2w q.1 C'=true:=by
 unfold Region.wanted
 cases hgd:o.guard with
 |none=>
  simp only[hgd,gd,Option.some.injEq,Prod.mk.injEq]at h
  obtain⟨rfl,rfl,rfl⟩:=h
  exact⟨rfl,hf,rfl,by simp⟩
 |some jw=>
  obtain⟨j,want⟩:=jw
  simp only[hgd,gd]at h
  cases hj:ops[j]? with
  |none=>simp[hj]at h
  |some oj=>
   simp only[hj]at h
   cases hs:oj.dst with
   |none=>simp[hs]at h
   |some s=>
    simp only[hs]at h
    cases hl:lk F s with
    |none=>simp[hl]at h
    |some e=>
     simp only[hl]at h
     obtain⟨pj,gj,xj⟩:=e
     have key: ∀x:Bool,xj= .a (.v (.bool x))→
       ((yielded ops a.tmps j==some want)=(z61 F pj&&z5t F s want))∧gj=z61 F pj∧(∀q∈pj,z2w q.1 C=true)∧z5t F s want=(x==want):=by
      intro x hx
      subst hx
      have hv:=hf.val s _ hl
      obtain⟨h1,h2⟩:=hf.wf s _ hl
      have hc:z5t F s want=(x==want):=by simp only[z5t,hl]
      refine⟨?_,h1,h2,hc⟩
      dsimp only at h1 hv
      rw[hc,←h1]
      unfold yielded
      simp only[hj,hs,Option.bind_some,hv]
      cases gj with
      |false=>simp[undef]
      |true=>simp[SV.den,A.den]
     have fin: ∀x:Bool,xj= .a (.v (.bool x))→p=(s,want)::pj→g=(gj&&(x==want))→C'=s::C→
       (yielded ops a.tmps j==some want)=g∧Frm E n F C' nl a.tmps∧g=z61 F p∧ ∀q∈p,z2w q.1 C'=true:=by
      intro x hx hp hg hC
      obtain⟨k1,k2,k3,k4⟩:=key x hx
      subst hp hC
      have hm: ∀t,z2w t C=true→z2w t (s::C)=true:=fun t ht=>z3i.2 (List.mem_cons_of_mem _ (z3i.1 ht))
      refine⟨?_,hf.weakC hm, ?_, ?_⟩
      · rw[k1,hg,k2,k4]
      · rw[hg,z61,k4,k2]
      ·
       intro q hq
       rcases List.mem_cons.1 hq with rfl|hq
       · exact z3i.2 (List.mem_cons_self ..)
       · exact hm _ (k3 q hq)
     cases xj with
     |agg cs=>simp at h
     |tup cs=>simp at h
     |a x=>
      cases x with
      |v x=>
       cases x with
       |bool x=>
        cases pj with
        |nil=>
         have hgj:gj=true:=(key x rfl).2.1
         subst hgj
         cases want with
         |true=>
          simp only[Option.some.injEq,Prod.mk.injEq]at h
          obtain⟨rfl,rfl,rfl⟩:=h
          exact fin _ rfl rfl (by simp) rfl
         |false=>
          simp only[Option.some.injEq,Prod.mk.injEq]at h
          obtain⟨rfl,rfl,rfl⟩:=h
          exact fin x rfl rfl (by cases x<;>rfl) rfl
        |cons q r=>
         cases want with
         |true=>
          simp only[Option.some.injEq,Prod.mk.injEq]at h
          obtain⟨rfl,rfl,rfl⟩:=h
          exact fin x rfl rfl (by simp) rfl
         |false=>
          simp only[Option.some.injEq,Prod.mk.injEq]at h
          obtain⟨rfl,rfl,rfl⟩:=h
          exact fin x rfl rfl (by cases x<;>simp) rfl
       |_=>simp at h
      |_=>simp at h
#print axioms z18
end Go.Eng
