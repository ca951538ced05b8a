import Derived.Test.YtkoiogkdiifgfaaGreatEng33
import Derived.Lib.AppendZeros
/-
 Rows of one's own made shorter: pieces put in within their room, cells cleared.
-/
set_option linter.unusedSimpArgs false
set_option linter.unusedVariables false
namespace Go.Eng
open Go Go.RowKit
theorem z9d{w:World}{b e sz n:Nat}{v:Value}{xs:List Value}(h:w.ownsRow b e sz v n xs){i:Nat}(hi:i≤n):w.ownsRow b e sz (z0n v 0 i sz) i (xs.take (i*sz)):=by
 have hle:i*sz≤n*sz:=Nat.mul_le_mul_right _ hi
 refine⟨by rw[List.length_take,h.1];omega, ?_⟩
 rcases h.2 with⟨rfl,rfl⟩|⟨g,cap,cur,rfl,h1,h2,h3,h4,h5,h6⟩
 ·
  have:i=0:=by omega
  subst this
  exact .inl ⟨rfl,rfl⟩
 ·
  refine .inr ⟨g,cap,cur, ?_,h1,h2,by omega,h4,h5,by rw[←h6,List.take_take];congr 1;omega⟩
  simp only[z0n]
  by_cases hc:cap=0<;>simp[hc,Addr.add]
section
variable{P:Program}{tt:List (Nat×TI)}{ops:Array Oper}{Q:Exit→Act→World→Prop}{o:Oper}{rest:List Oper}
 {n:Nat} {F:z05} {C:List Nat} {O:Own} {nl:Nat} {V:Vw} {K:Act→World→Prop}
def zay(F:z05)(p:List (Nat×Bool)):Op→Option (Nat×SV)
 | .call ⟨.builtin .clear,args,ts⟩=>match args.toList,ts.toList with
  |[x],[t]=>(opv F p x).map fun s=>(t,s)
  |_,_=>none
 |_=>none
theorem jas{p:List (Nat×Bool)}{t:Nat}{s1:SV}{σ:Type}{Φ:σ→Prop}{O':σ→Own}{nl':Nat}{V':σ→Vw}(hv:zay F p o.op=some (t,s1))(hd:o.dst=none)
  (hrun: ∀E w,Mem E O nl V w→ ∃x E' w',(Builtin.clear_ #[t] o.type #[s1.den E]).run P w= .ok (.tuple #[]) w'∧Φ x∧E.agree nl E'∧Mem E' (O' x) nl' (V' x) w'):
  StepTo P o p n F C O nl V Φ (fun _=> .a (.v (.tuple #[]))) O' nl' V':=by
 constructor
 intro E a w hf hgv hm K Q hK
 unfold Oper.wp execOp
 cases hop:o.op with
 |call c=>
  obtain⟨callee,args,ts⟩:=c
  simp only[hop]at hv
  cases callee with
  |builtin b=>
   cases b with
   |clear=>
    simp only[zay]at hv
    split at hv
    ·
     rename_i x t' hargs hts
     have ha:args= #[x]:=by simpa using congrArg List.toArray hargs
     have ht:ts= #[t']:=by simpa using congrArg List.toArray hts
     subst ha ht
     simp only[Option.map_eq_some_iff,Prod.mk.injEq]at hv
     obtain⟨u1,hx,rfl,rfl⟩:=hv
     obtain⟨h1,_⟩:=z03 hf hgv hx
     obtain⟨z,E',w',hr,hΦ,hag,hm'⟩:=hrun E w hm
     have h1':a.eval x=u1.den E:=h1
     simp only[resolve,invoke,builtin,Sem.run_bind,Sem.run_pure,Result.andThen_ok,List.map_toArray,List.map_cons,List.map_nil,h1',hr]
     have:=hK z E' w' hΦ hag hm' rfl
     show K (a.put o.dst (.tuple #[])) w'
     simpa[SV.den,A.den]using this
    · simp at hv
   |_=>simp[zay]at hv
  |_=>simp[zay]at hv
 |_=>simp[hop,zay]at hv
theorem zhq{w:World}{t e ty g off m c sz:Nat}{z:Value}{cur:Array Value}(hu:P.underlying t=some (.slice e))(hz:(zeroValue e).run P w= .ok z w)(hzs:z.cells.size=sz)(hz1: ∀u∈z.cells.toList,u.oneCell'=true)
  (hg:w.heap[g]? =some (.cells cur e (0,0))) (hm:0<m) (hb:off+m*sz≤cur.size):
  ∃zs:List Value,zs.length=m*sz∧(∀u∈zs,u.oneCell'=true)∧(Builtin.clear_ #[t] ty #[.slice (some ⟨g,off,none⟩) m c]).run P w= .ok (.tuple #[]) (w.setRow g (z25 off zs cur.toList).toArray):=by
 refine⟨(Builtin.zeroCells z.cells m).toList,by rw[Array.length_toList,z2n,hzs], ?_, ?_⟩
 ·
  intro u hu
  simp only[Builtin.zeroCells,Array.toList_map,List.mem_map]at hu
  obtain⟨i,hi,rfl⟩:=hu
  have h0:0<z.cells.size:=by
   rcases Nat.eq_zero_or_pos z.cells.size with h|h
   · simp[h]at hi
   · exact h
  have hlt:=Nat.mod_lt i h0
  rw[getElem!_pos z.cells _ hlt]
  exact hz1 _ (by simp)
 ·
  have hlen:(Builtin.zeroCells z.cells m).toList.length=m*sz:=by rw[Array.length_toList,z2n,hzs]
  have hst:=run_storeCells_at P g off e (Builtin.zeroCells z.cells m).toList 0 cur w hg (by rw[hlen];omega) (by
   intro u hu
   simp only[Builtin.zeroCells,Array.toList_map,List.mem_map]at hu
   obtain⟨i,hi,rfl⟩:=hu
   have h0:0<z.cells.size:=by
    rcases Nat.eq_zero_or_pos z.cells.size with h|h
    · simp[h]at hi
    · exact h
   have hlt:=Nat.mod_lt i h0
   rw[getElem!_pos z.cells _ hlt]
   exact hz1 _ (by simp))
  simp only[Nat.add_zero]at hst
  obtain⟨m,rfl⟩: ∃k,m=k+1:=⟨m - 1,by omega⟩
  simp[Builtin.clear_,run_underlying hu,hz,hst,z25]
theorem znv(htt:z0s P tt){p:List (Nat×Bool)}{l q b t e m lo:Nat}{ti:TI}{v:Value}{xs:List Value}(hte:zb6 tt t=some (e,ti))(hv:zay F p o.op=some (t, .a (.v (z0n v lo m ti.size))))(hd:o.dst=none)
  (hzl:ti.zero.length=ti.size) (hz1: ∀u∈ti.zero,u.oneCell'=true) (hl:lk O l=some (.row e ti.size m xs)) (hk:lk O q=some (.keep l b v)) (hlo:lo≤m):
  StepTo P o p n F C O nl V (σ:=List Value) (fun zs=>zs.length=(m - lo)*ti.size) (fun _=> .a (.v (.tuple #[]))) (fun zs=>(l, .row e ti.size m (z25 (lo*ti.size) zs xs))::O) nl (fun _=>V):=by
 refine jas hv hd fun E w hm=> ?_
 obtain⟨hu,hti⟩:=z53 htt hte
 obtain⟨fi,hfi,hfs,hfb,z,hz,hzc⟩:=hti.info
 have hrow:=hm.row _ _ _ _ _ hl
 have hkp:=(hm.kp _ _ _ _ hk).2.1
 by_cases hlm:lo=m
 ·
  subst hlm
  have he:(Builtin.clear_ #[t] o.type #[(SV.a (.v (z0n v lo lo ti.size))).den E]).run P w= .ok (.tuple #[]) w:=by
   show(Builtin.clear_ #[t] o.type #[z0n v lo lo ti.size]).run P w=_
   rw[←hkp]
   rcases hrow.2 with⟨h1,h2⟩|⟨g,cap,cur,h1,_⟩
   ·
    rw[h1]
    simp[z0n,Builtin.clear_,run_underlying hu]
   ·
    rw[h1]
    simp only[z0n,Nat.sub_self]
    split<;>simp[Builtin.clear_,run_underlying hu]
  refine⟨[],E,w,he,by simp,fun _ _=>⟨rfl,rfl⟩, ?_⟩
  have:z25 (lo*ti.size) [] xs=xs:=by simp[z25]
  rw[this]
  exact hm.dup hl
 ·
  rcases hrow.2 with⟨h1,h2⟩|⟨g,cap,cur,hvv,_,hgg,hmc,hcm,hcs,hcur⟩
  · omega
  ·
   have hz0:(zeroValue e).run P w= .ok z w:=by simp[zeroValue,typeInfo,hfi,hz]
   have hle2:m*ti.size≤cap*ti.size:=Nat.mul_le_mul_right _ hmc
   have hsum:lo*ti.size+(m - lo)*ti.size=m*ti.size:=by rw[←Nat.add_mul];congr 1;omega
   obtain⟨zs,hzl2,hzo,hr⟩:=zhq (P:=P) (w:=w) (t:=t) (ty:=o.type) (off:=lo*ti.size) (m:=m - lo) (c:=cap - lo) (sz:=ti.size) hu hz0 (by rw[←hzl,←hzc];simp) (by rw[hzc];exact hz1) hgg (by omega) (by omega)
   have hsl:z0n v lo m ti.size= .slice (some ⟨g,lo*ti.size,none⟩) (m - lo) (cap - lo):=by
    rw[←hkp,hvv]
    simp only[z0n]
    rw[if_neg (by omega)]
    simp[Addr.add_lit]
   have hown:=z7z (e:=e) (off:=lo*ti.size) (news:=zs) hrow.1 hvv hgg hmc hcm hcs hcur (by omega)
   have hb:(E.κ l).ownBlock=some g:=by rw[hvv];rfl
   refine⟨zs,E,_, ?_,hzl2,fun _ _=>⟨rfl,rfl⟩,hm.setRowO hl hb hgg hown⟩
   show(Builtin.clear_ #[t] o.type #[z0n v lo m ti.size]).run P w=_
   rw[hsl,hr]
   rfl
theorem j86(htt:z0s P tt){p:List (Nat×Bool)}{l q b t t2 e m i k:Nat}{ti:TI}{v sv:Value}{xs:List Value}(news:List Value)(hte:zb6 tt t=some (e,ti))(hv:z8v F p o.op=some (t,t2, .a (.v (z0n v 0 i ti.size)), .a (.v sv)))
  (hte2:zb6 tt t2=some (e,ti)) (hl:lk O l=some (.row e ti.size m xs)) (hk:lk O q=some (.keep l b v)) (hsrc: ∀E w,Mem E O nl V w→Src P ti.size sv k news w) (h1: ∀u∈news,u.oneCell'=true)
  (hik:i+k≤m) (hm0:0<m):
  StepTo P o p n F C O nl V (σ:=Unit) (fun _=>True) (fun _=> .a (.v (z0n v 0 (i+k) ti.size))) (fun _=>(l, .row e ti.size m (z25 (i*ti.size) news xs))::O) nl (fun _=>V):=by
 refine j4x hv fun E w hm=> ?_
 obtain⟨hu,hti⟩:=z53 htt hte
 obtain⟨hu2,_⟩:=z53 htt hte2
 obtain⟨fi,hfi,hfs,hfb,z,hz,hzc⟩:=hti.info
 have hrow:=hm.row _ _ _ _ _ hl
 have hkp:=(hm.kp _ _ _ _ hk).2.1
 have hsr:=hsrc E w hm
 rcases hrow.2 with⟨h1,h2⟩|⟨g,cap,cur,hvv,_,hgg,hmc,hcm,hcs,hcur⟩
 · omega
 ·
  have hle2:m*ti.size≤cap*ti.size:=Nat.mul_le_mul_right _ hmc
  have hsum:i*ti.size+k*ti.size≤m*ti.size:=by rw[←Nat.add_mul];exact Nat.mul_le_mul_right _ hik
  have hns:=hsr.size
  have hsl: ∀j,z0n v 0 j ti.size= .slice (some ⟨g,0,none⟩) j cap:=fun j=>by
   rw[←hkp,hvv]
   simp only[z0n]
   by_cases hc:cap=0<;>simp[hc,Addr.add]
  have hr:=zbp (P:=P) (w:=w) (t:=t) (t2:=t2) (ty:=o.type) (e:=e) (i:=fi) (g:=g) (n:=i) (cap:=cap) (cur:=cur) (x:=sv) (m:=k) (news:=news) hu hu2 (.inr ⟨e,rfl⟩) hfi hgg (by rw[hfs];exact hsr) h1 (by omega) (by rw[hfs];omega)
  have hown:=z7z (e:=e) (off:=i*ti.size) (news:=news) hrow.1 hvv hgg hmc hcm hcs hcur (by omega)
  have hb:(E.κ l).ownBlock=some g:=by rw[hvv];rfl
  refine⟨(),E,_, ?_,trivial,fun _ _=>⟨rfl,rfl⟩,hm.setRowO hl hb hgg hown,rfl⟩
  show(Builtin.append_ #[t,t2] o.type #[z0n v 0 i ti.size,sv]).run P w=_
  rw[hsl,hr,hfs]
  show _=Result.ok (z0n v 0 (i+k) ti.size) _
  rw[hsl]
def j06:Value→Nat→Value
 | .slice a n _,c=> .slice a n c
 |v,_=>v
def zan(tt:List (Nat×TI))(F:z05)(p:List (Nat×Bool)):Op→Option (Value×Int×Int×Int×Nat)
 | .slice t x (some lo) (some hi) (some mx)=>match opv F p x,opv F p lo,opv F p hi,opv F p mx,lk tt t with
  |some (.a (.v v)),some (.a (.v (.int _ l))),some (.a (.v (.int _ h))),some (.a (.v (.int _ m))),some ⟨_,_,_,_, .slice e⟩=>match lk tt e with
   |some ti=>some (v,l,h,m,ti.size)
   |none=>none
  |_,_,_,_,_=>none
 |_=>none
theorem jay(htt:z0s P tt){p:List (Nat×Bool)}{g:Bool}{v:Value}{lo hi mx:Int}{sz m:Nat}{xs:List Value}
  (hv:zan tt F p o.op=some (v,lo,hi,mx,sz)) (hs:g=true→z7i V v sz m xs) (hb:g=true→0≤lo∧lo≤hi∧hi≤mx∧mx≤m):
  Yld P o n F C O nl V p g (.a (.v (z0n (j06 v mx.toNat) lo.toNat hi.toNat sz))):=by
 intro hgt E a w hf hgv hm
 refine⟨?_,rfl⟩
 unfold Yv execOp
 cases hop:o.op with
 |slice t x lo' hi' mx'=>
  cases lo' with
  |none=>simp[hop,zan]at hv
  |some lo'=>
  cases hi' with
  |none=>simp[hop,zan]at hv
  |some hi'=>
  cases mx' with
  |none=>simp[hop,zan]at hv
  |some mx'=>
  simp only[hop,zan]at hv
  split at hv
  ·
   rename_i v' k0 l k1 h k2 m' sz' by_ z fl e hx hl hh hm2 hti
   split at hv
   ·
    rename_i ti hte
    simp only[Option.some.injEq,Prod.mk.injEq]at hv
    obtain⟨rfl,rfl,rfl,rfl,rfl⟩:=hv
    obtain⟨h1,_⟩:=z03 hf hgv hx
    obtain⟨h0,_⟩:=z03 hf hgv hl
    obtain⟨h2,_⟩:=z03 hf hgv hh
    obtain⟨h3,_⟩:=z03 hf hgv hm2
    obtain⟨dd,hdd,hk,_⟩:=(htt _ _ hti).und
    have hdb:dd= .slice e:=by cases dd<;>simp[z19]at hk;rw[hk]
    subst hdb
    obtain⟨b0,b1,b2,b3⟩:=hb hgt
    have hsh: ∃ad cap,v'= .slice ad m cap∧m≤cap:=by
     rcases(hs hgt).2 with⟨ad,cc,rfl,rfl⟩|⟨b,off,cap,cs,e',fz,rfl,_,_,_,hc⟩
     · exact⟨ad,cc,rfl,Nat.zero_le _⟩
     · exact⟨_,cap,rfl,hc⟩
    obtain⟨ad,cap,rfl,hcap⟩:=hsh
    have e1:a.eval x= .slice ad m cap:=h1
    have e0:a.eval lo'= .int k0 l:=h0
    have e2:a.eval hi'= .int k1 h:=h2
    have e3:a.eval mx'= .int k2 m':=h3
    have q0:(l.toNat:Int)=l:=Int.toNat_of_nonneg b0
    have q1:(h.toNat:Int)=h:=Int.toNat_of_nonneg (by omega)
    have q2:(m'.toNat:Int)=m':=Int.toNat_of_nonneg (by omega)
    have hrun:(Instr.slice t (.slice ad m cap) (some (.int k0 l)) (some (.int k1 h)) (some (.int k2 m'))).run P w= .ok (z0n (.slice ad m m'.toNat) l.toNat h.toNat ti.size) w:=by
     simp only[Instr.slice,Instr.sliceBounds,Sem.run_bind,run_underlying hdd,Result.andThen_ok,Sem.run_pure,(htt _ _ hte).sizeOf]
     simp[run_sliceBound,(by omega:0≤m'),(by omega:m'≤(cap:Int)),(by omega:0≤h),b0,b1,b2,q0,q1,q2,z0n,(htt _ _ hte).sizeOf]
    simp only[Option.map_some,e0,e1,e2,e3,Instr.sliceAt,Sem.run_bind,run_underlying hdd,Result.andThen_ok,hrun,Sem.run_pure,SV.den,A.den,j06]
   · simp at hv
  · simp at hv
 |_=>simp[hop,zan]at hv
theorem j8h(htt:z0s P tt){p:List (Nat×Bool)}{g:Bool}{v:Value}{lo hi:Int}{j sz m:Nat}{xs:List Value}
  (hv:z77 tt F p o.op=some (z0n v 0 j sz,some lo,some hi,sz)) (hs:g=true→z7i V v sz m xs) (hb:g=true→0≤lo∧lo≤hi∧hi≤m):
  Yld P o n F C O nl V p g (.a (.v (z0n v lo.toNat hi.toNat sz))):=by
 intro hgt E a w hf hgv hm
 refine⟨?_,rfl⟩
 unfold Yv execOp
 cases hop:o.op with
 |slice t x lo' hi' mx=>
  cases mx with
  |some mx=>simp[hop,z77]at hv
  |none=>
  simp only[hop,z77]at hv
  split at hv
  ·
   rename_i v' l h sz' by_ z fl e hx hl hh hti
   split at hv
   ·
    rename_i ti hte
    simp only[Option.some.injEq,Prod.mk.injEq]at hv
    obtain⟨rfl,rfl,rfl,rfl⟩:=hv
    obtain⟨h1,_⟩:=z03 hf hgv hx
    obtain⟨dd,hdd,hk,_⟩:=(htt _ _ hti).und
    have hdb:dd= .slice e:=by cases dd<;>simp[z19]at hk;rw[hk]
    subst hdb
    obtain⟨b0,b1,b2⟩:=hb hgt
    have hsh: ∃ad cap,v= .slice ad m cap∧m≤cap:=by
     rcases(hs hgt).2 with⟨ad,cc,rfl,rfl⟩|⟨b,off,cap,cs,e',fz,rfl,_,_,_,hc⟩
     · exact⟨ad,cc,rfl,Nat.zero_le _⟩
     · exact⟨_,cap,rfl,hc⟩
    obtain⟨ad,cap,rfl,hcap⟩:=hsh
    have e1:a.eval x=z0n (.slice ad m cap) 0 j ti.size:=h1
    have hform:z0n (.slice ad m cap) 0 j ti.size= .slice ad j cap:=by
     simp only[z0n,Nat.sub_zero,Nat.zero_mul]
     by_cases hc:cap=0
     · simp[hc]
     · cases ad<;>simp[hc,Addr.add]
    rcases z3p hf hgv hl with⟨h9,_⟩|⟨kl,il,hil,el⟩
    · cases h9
    rcases z3p hf hgv hh with⟨h9,_⟩|⟨kh,ih,hih,eh⟩
    · cases h9
    cases hil
    cases hih
    have e0:(lo.toNat:Int)=lo:=Int.toNat_of_nonneg (by omega)
    have e2:(hi.toNat:Int)=hi:=Int.toNat_of_nonneg (by omega)
    have hrun:(Instr.slice t (.slice ad j cap) (lo'.map a.eval) (hi'.map a.eval) none).run P w= .ok (z0n (.slice ad m cap) lo.toNat hi.toNat ti.size) w:=by
     rw[el,eh]
     simp[Instr.slice,run_underlying hdd,Instr.sliceBounds,(htt _ _ hte).sizeOf,z0n,run_sliceBound,b0,b1,(by omega:0≤hi),(by omega:hi≤cap),e2]
    simp only[Option.map_none,e1,hform,Instr.sliceAt,Sem.run_bind,run_underlying hdd,Result.andThen_ok,hrun,Sem.run_pure,SV.den,A.den]
   · simp at hv
  · simp at hv
 |_=>simp[hop,z77]at hv
end
end Go.Eng

/-
 Methods of a record of one's own that has three rows: what such a method is handed, and what it leaves, in the caller's labels.
-/
set_option linter.unusedSimpArgs false
set_option linter.unusedVariables false
namespace Go.Eng
open Go Go.RowKit
structure Rw where
 e:Nat
 sz:Nat
 n:Nat
 xs:List Value
abbrev Rw.cel(r:Rw):Cel:= .row r.e r.sz r.n r.xs
abbrev bkO(e0:Nat)(gs:List Value)(R1 R2 R3:Rw):Own:=[(0, .lit (.row 1:: .row 2:: .row 3::gs.map .v) e0),(1,R1.cel),(2,R2.cel),(3,R3.cel)]
def bkE(E:Env)(lo a b c:Nat):Env:=⟨fun _=>E.ρ lo,fun l=>if l=1 then E.κ a else if l=2 then E.κ b else E.κ c⟩
def bkV(w:World)(E:Env)(lo a b c:Nat):Vw:=
 ⟨fun k=>if k=E.ρ lo∨(E.κ a).ownBlock=some k∨(E.κ b).ownBlock=some k∨(E.κ c).ownBlock=some k then none else w.heap[k]?,w.os,w.tape,w.output⟩
def bkL(lo a b c l:Nat):Nat:=if l=0 then lo else if l=1 then a else if l=2 then b else c
theorem zja{e0 l:Nat}{gs:List Value}{R1 R2 R3:Rw}{x:Cel}(h:lk (bkO e0 gs R1 R2 R3) l=some x):
  (l=0∧x= .lit (.row 1:: .row 2:: .row 3::gs.map .v) e0)∨(l=1∧x=R1.cel)∨(l=2∧x=R2.cel)∨(l=3∧x=R3.cel):=by
 simp only[z1l]at h
 split at h
 · cases h;exact .inl ⟨by omega,rfl⟩
 ·
  split at h
  · cases h;exact .inr (.inl ⟨by omega,rfl⟩)
  ·
   split at h
   · cases h;exact .inr (.inr (.inl ⟨by omega,rfl⟩))
   ·
    split at h
    · cases h;exact .inr (.inr (.inr ⟨by omega,rfl⟩))
    · simp[lk]at h
section
variable{O:Own}{nl:Nat}{V:Vw}{E:Env}{w w':World}
theorem zm1(hm:Mem E O nl V w){lo a b c e0:Nat}{gs:List Value}{R1 R2 R3:Rw}(h0:lk O lo=some (.lit (.row a:: .row b:: .row c::gs.map .v) e0))(ha:lk O a=some R1.cel)(hb:lk O b=some R2.cel)(hc:lk O c=some R3.cel)
  (d1:a≠b) (d2:a≠c) (d3:b≠c):Mem (bkE E lo a b c) (bkO e0 gs R1 R2 R3) 4 V w:=by
 have n1:lo≠a:=fun h=>by rw[h,ha]at h0;cases h0
 have n2:lo≠b:=fun h=>by rw[h,hb]at h0;cases h0
 have n3:lo≠c:=fun h=>by rw[h,hc]at h0;cases h0
 have key: ∀l x,lk (bkO e0 gs R1 R2 R3) l=some x→l<4∧ ∃y,lk O (bkL lo a b c l)=some y∧blk (bkE E lo a b c) l x=blk E (bkL lo a b c l) y:=by
  intro l x h
  rcases zja h with⟨rfl,rfl⟩|⟨rfl,rfl⟩|⟨rfl,rfl⟩|⟨rfl,rfl⟩
  · exact⟨by omega,_,h0,rfl⟩
  · exact⟨by omega,_,ha,rfl⟩
  · exact⟨by omega,_,hb,rfl⟩
  · exact⟨by omega,_,hc,rfl⟩
 have inj: ∀l l',l<4→l'<4→bkL lo a b c l=bkL lo a b c l'→l=l':=by
  intro l l' h h'
  unfold bkL
  rcases(show l=0∨l=1∨l=2∨l=3 by omega)with rfl|rfl|rfl|rfl<;>rcases(show l'=0∨l'=1∨l'=2∨l'=3 by omega)with rfl|rfl|rfl|rfl<;>simp<;>omega
 refine⟨?_, ?_, ?_,hm.get, ?_,hm.os,hm.tape,hm.output, ?_, ?_, ?_, ?_, ?_⟩
 ·
  intro l cs e h
  rcases zja h with⟨rfl,h⟩|⟨rfl,h⟩|⟨rfl,h⟩|⟨rfl,h⟩
  ·
   cases h
   have:=hm.lit _ _ _ h0
   simp only[List.map_cons,(z13 _ gs).1]at this⊢
   exact this
  · cases h
  · cases h
  · cases h
 ·
  intro l e sz n xs h
  rcases zja h with⟨rfl,h⟩|⟨rfl,h⟩|⟨rfl,h⟩|⟨rfl,h⟩
  · cases h
  · cases h;exact hm.row _ _ _ _ _ ha
  · cases h;exact hm.row _ _ _ _ _ hb
  · cases h;exact hm.row _ _ _ _ _ hc
 ·
  intro l l' x x' k h h' hk hk'
  obtain⟨hl,y,hy,e1⟩:=key _ _ h
  obtain⟨hl',y',hy',e2⟩:=key _ _ h'
  exact inj _ _ hl hl'<|hm.sep _ _ _ _ k hy hy' (e1▸hk)<|e2▸hk'
 ·
  intro l x k h hk
  obtain⟨hl,y,hy,e1⟩:=key _ _ h
  exact hm.off _ _ k hy<|e1▸hk
 ·
  intro l x h
  exact(key _ _ h).1
 ·
  intro l cs e h
  rcases zja h with⟨rfl,h⟩|⟨rfl,h⟩|⟨rfl,h⟩|⟨rfl,h⟩
  ·
   cases h
   have hg:=(z13 E gs).2 4
   simp only[z0z,A.ok,Bool.and_eq_true]
   exact⟨rfl,rfl,rfl,hg⟩
  · cases h
  · cases h
  · cases h
 ·
  intro l m b h
  rcases zja h with⟨rfl,h⟩|⟨rfl,h⟩|⟨rfl,h⟩|⟨rfl,h⟩<;>cases h
 ·
  intro l k h
  rcases zja h with⟨rfl,h⟩|⟨rfl,h⟩|⟨rfl,h⟩|⟨rfl,h⟩<;>cases h
 ·
  intro l m b v h
  rcases zja h with⟨rfl,h⟩|⟨rfl,h⟩|⟨rfl,h⟩|⟨rfl,h⟩<;>cases h
theorem zym(hm:Mem E O nl V w){lo a b c e0:Nat}{gs:List Value}{R1 R2 R3:Rw}(h0:lk O lo=some (.lit (.row a:: .row b:: .row c::gs.map .v) e0))(ha:lk O a=some R1.cel)(hb:lk O b=some R2.cel)(hc:lk O c=some R3.cel)
  (d1:a≠b) (d2:a≠c) (d3:b≠c):Mem (bkE E lo a b c) (bkO e0 gs R1 R2 R3) 4 (bkV w E lo a b c) w∧V.le (bkV w E lo a b c):=by
 have h:=zm1 hm h0 ha hb hc d1 d2 d3
 have off: ∀k o,V.get k=some o→ ¬(k=E.ρ lo∨(E.κ a).ownBlock=some k∨(E.κ b).ownBlock=some k∨(E.κ c).ownBlock=some k):=by
  intro k o hk hc'
  have:V.get k=none:=by
   rcases hc' with h1|h1|h1|h1
   · exact hm.off _ _ k h0 (by simp[blk,h1])
   · exact hm.off _ _ k ha (by simpa[blk]using h1)
   · exact hm.off _ _ k hb (by simpa[blk]using h1)
   · exact hm.off _ _ k hc (by simpa[blk]using h1)
  rw[hk]at this
  cases this
 refine⟨⟨h.lit,h.row,h.sep,fun k o hk=> ?_,fun l x k hl hk=> ?_,rfl,rfl,rfl,h.lab,h.labs,h.pin,h.big,h.kp⟩,⟨fun k o hk=> ?_,hm.os,hm.tape,hm.output⟩⟩
 ·
  simp only[bkV]at hk
  split at hk
  · cases hk
  · exact hk
 ·
  simp only[bkV]
  rw[if_pos]
  rcases zja hl with⟨rfl,rfl⟩|⟨rfl,rfl⟩|⟨rfl,rfl⟩|⟨rfl,rfl⟩
  · exact .inl (by simpa[blk,bkE]using hk.symm)
  · exact .inr (.inl (by simpa[blk,bkE]using hk))
  · exact .inr (.inr (.inl (by simpa[blk,bkE]using hk)))
  · exact .inr (.inr (.inr (by simpa[blk,bkE]using hk)))
 ·
  simp only[bkV]
  rw[if_neg (off k o hk)]
  exact hm.get k o hk
abbrev zvg(E E':Env)(nl:Nat):Env:=((E.setκ nl (E'.κ 1)).setκ (nl+1) (E'.κ 2)).setκ (nl+2) (E'.κ 3)
abbrev j81(O:Own)(lo a b c nl e0:Nat)(gs:List Value)(R1 R2 R3:Rw):Own:=
 (lo, .lit (.row nl:: .row (nl+1):: .row (nl+2)::gs.map .v) e0)::(nl,R1.cel)::(nl+1,R2.cel)::(nl+2,R3.cel)::(a, .gone)::(b, .gone)::(c, .gone)::O
theorem zba{O:Own}{lo a b c nl e0 l:Nat}{gs:List Value}{R1 R2 R3:Rw}{x:Cel}(h:lk (j81 O lo a b c nl e0 gs R1 R2 R3) l=some x):
  (l=lo∧x= .lit (.row nl:: .row (nl+1):: .row (nl+2)::gs.map .v) e0)∨(l=nl∧x=R1.cel)∨(l=nl+1∧x=R2.cel)∨(l=nl+2∧x=R3.cel)∨((l=a∨l=b∨l=c)∧x= .gone)∨(l≠lo∧l≠a∧l≠b∧l≠c∧lk O l=some x):=by
 simp only[z1l]at h
 split at h
 · cases h;exact .inl ⟨by omega,rfl⟩
 ·
  split at h
  · cases h;exact .inr (.inl ⟨by omega,rfl⟩)
  ·
   split at h
   · cases h;exact .inr (.inr (.inl ⟨by omega,rfl⟩))
   ·
    split at h
    · cases h;exact .inr (.inr (.inr (.inl ⟨by omega,rfl⟩)))
    ·
     split at h
     · cases h;exact .inr (.inr (.inr (.inr (.inl ⟨.inl (by omega),rfl⟩))))
     ·
      split at h
      · cases h;exact .inr (.inr (.inr (.inr (.inl ⟨.inr (.inl (by omega)),rfl⟩))))
      ·
       split at h
       · cases h;exact .inr (.inr (.inr (.inr (.inl ⟨.inr (.inr (by omega)),rfl⟩))))
       · exact .inr (.inr (.inr (.inr (.inr ⟨by omega,by omega,by omega,by omega,h⟩))))
theorem zvz(hm:Mem E O nl V w){lo a b c e0:Nat}{gs:List Value}{R1 R2 R3 Q1 Q2 Q3:Rw}{E':Env}(h0:lk O lo=some (.lit (.row a:: .row b:: .row c::gs.map .v) e0))(ha:lk O a=some R1.cel)(hb:lk O b=some R2.cel)(hc:lk O c=some R3.cel)
  (d1:a≠b) (d2:a≠c) (d3:b≠c) (h2:Mem E' (bkO e0 gs Q1 Q2 Q3) 4 (bkV w E lo a b c) w') (hρ:E'.ρ 0=E.ρ lo) (hsz:w.heap.size≤w'.heap.size):
  Mem (zvg E E' nl) (j81 O lo a b c nl e0 gs Q1 Q2 Q3) (nl+3) V w':=by
 obtain⟨_,hle⟩:=zym hm h0 ha hb hc d1 d2 d3
 have l0:=hm.lab _ _ h0
 have la:=hm.lab _ _ ha
 have lb:=hm.lab _ _ hb
 have lc:=hm.lab _ _ hc
 -- the blocks that were handed in
 obtain⟨B,hB⟩: ∃B:Nat→Prop,B=fun k=>k=E.ρ lo∨(E.κ a).ownBlock=some k∨(E.κ b).ownBlock=some k∨(E.κ c).ownBlock=some k:=⟨_,rfl⟩
 have hV1: ∀k,k<w.heap.size→ ¬B k→(bkV w E lo a b c).get k=w.heap[k]? :=fun k hk hn=>by
  subst hB
  simp only[bkV]
  rw[if_neg hn]
 have new: ∀l x k,lk (bkO e0 gs Q1 Q2 Q3) l=some x→blk E' l x=some k→B k∨w.heap.size≤k:=by
  intro l x k hl hk
  have:=h2.off _ _ k hl hk
  simp only[bkV]at this
  split at this
  · rename_i hb;exact .inl (by rw[hB];exact hb)
  · exact .inr (Array.getElem?_eq_none_iff.1 this)
 have old: ∀l x k,l≠lo→l≠a→l≠b→l≠c→lk O l=some x→blk E l x=some k→k<w.heap.size∧ ¬B k:=by
  intro l x k n0 n1 n2 n3 hl hk
  refine⟨hm.lt hl hk,fun hb'=> ?_⟩
  rw[hB]at hb'
  rcases hb' with h|h|h|h
  · exact n0 (hm.sep _ _ _ _ k hl h0 hk (by simp[blk,h]))
  · exact n1 (hm.sep _ _ _ _ k hl ha hk (by simpa[blk]using h))
  · exact n2 (hm.sep _ _ _ _ k hl hb hk (by simpa[blk]using h))
  · exact n3 (hm.sep _ _ _ _ k hl hc hk (by simpa[blk]using h))
 have keep: ∀k,k<w.heap.size→ ¬B k→w'.heap[k]? =w.heap[k]? :=fun k hk hn=>by
  have h1:=hV1 k hk hn
  have:w.heap[k]? =some w.heap[k]:=by simp[hk]
  rw[this]at h1⊢
  exact h2.get _ _ h1
 have ag:E.agree nl (zvg E E' nl):=fun l hl=>⟨rfl,by simp only[Env.setκ];rw[if_neg (by omega),if_neg (by omega),if_neg (by omega)]⟩
 have k1:(zvg E E' nl).κ nl=E'.κ 1:=by simp[Env.setκ]
 have k2:(zvg E E' nl).κ (nl+1)=E'.κ 2:=by simp[Env.setκ]
 have k3:(zvg E E' nl).κ (nl+2)=E'.κ 3:=by simp[Env.setκ]
 have g0:lk (bkO e0 gs Q1 Q2 Q3) 0=some (.lit (.row 1:: .row 2:: .row 3::gs.map .v) e0):=rfl
 have g1:lk (bkO e0 gs Q1 Q2 Q3) 1=some Q1.cel:=rfl
 have g2:lk (bkO e0 gs Q1 Q2 Q3) 2=some Q2.cel:=rfl
 have g3:lk (bkO e0 gs Q1 Q2 Q3) 3=some Q3.cel:=rfl
 -- each label that is in use: where its block comes from
 have cls: ∀l x,lk (j81 O lo a b c nl e0 gs Q1 Q2 Q3) l=some x→
   (∃q y,q<4∧lk (bkO e0 gs Q1 Q2 Q3) q=some y∧blk (zvg E E' nl) l x=blk E' q y∧l=(if q=0 then lo else nl+(q - 1)))∨(blk (zvg E E' nl) l x=none)∨(l≠lo∧l≠a∧l≠b∧l≠c∧lk O l=some x∧blk (zvg E E' nl) l x=blk E l x):=by
  intro l x h
  rcases zba h with⟨rfl,rfl⟩|⟨rfl,rfl⟩|⟨rfl,rfl⟩|⟨rfl,rfl⟩|⟨_,rfl⟩|⟨n0,n1,n2,n3,h⟩
  · exact .inl ⟨0,_,by omega,g0,by simp[blk,hρ,Env.setκ],by simp⟩
  · exact .inl ⟨1,_,by omega,g1,by simp[blk,k1],by simp⟩
  · exact .inl ⟨2,_,by omega,g2,by simp[blk,k2],by simp⟩
  · exact .inl ⟨3,_,by omega,g3,by simp[blk,k3],by simp⟩
  · exact .inr (.inl rfl)
  · exact .inr (.inr ⟨n0,n1,n2,n3,h,z1p ag (hm.lab _ _ h) _⟩)
 refine⟨?_, ?_, ?_, ?_, ?_, ?_, ?_, ?_, ?_, ?_, ?_, ?_, ?_⟩
 ·
  intro l cs e h
  rcases zba h with⟨rfl,hx⟩|⟨rfl,hx⟩|⟨rfl,hx⟩|⟨rfl,hx⟩|⟨_,hx⟩|⟨n0,n1,n2,n3,hx⟩
  ·
   cases hx
   have:=h2.lit _ _ _ g0
   rw[hρ]at this
   simp only[List.map_cons,(z13 _ gs).1]at this⊢
   rw[show(zvg E E' nl).ρ l=E.ρ l from rfl,this]
   simp only[A.den,k1,k2,k3]
  · cases hx
  · cases hx
  · cases hx
  · cases hx
  ·
   have h1:=hm.lit _ _ _ hx
   obtain⟨hlt,hnb⟩:=old l _ (E.ρ l) n0 n1 n2 n3 hx rfl
   rw[(ag l (hm.lab _ _ hx)).1,keep _ hlt hnb,h1,A.map_agree ag (hm.labs _ _ _ hx)]
 ·
  intro l e sz n xs h
  rcases zba h with⟨rfl,hx⟩|⟨rfl,hx⟩|⟨rfl,hx⟩|⟨rfl,hx⟩|⟨_,hx⟩|⟨n0,n1,n2,n3,hx⟩
  · cases hx
  · cases hx;rw[k1];exact h2.row _ _ _ _ _ g1
  · cases hx;rw[k2];exact h2.row _ _ _ _ _ g2
  · cases hx;rw[k3];exact h2.row _ _ _ _ _ g3
  · cases hx
  ·
   rw[(ag l (hm.lab _ _ hx)).2]
   refine z1n (hm.row _ _ _ _ _ hx) fun k hk=> ?_
   obtain⟨hlt,hnb⟩:=old l _ k n0 n1 n2 n3 hx (by simpa[blk]using hk)
   exact keep k hlt hnb
 ·
  intro l l' x x' k h h' hk hk'
  rcases cls _ _ h with⟨q,y,hq,hy,e1,rfl⟩|e1|⟨n0,n1,n2,n3,hl,e1⟩
  ·
   rcases cls _ _ h' with⟨q',y',hq',hy',e2,rfl⟩|e2|⟨m0,m1,m2,m3,hl',e2⟩
   ·
    have:=h2.sep q q' y y' k hy hy' (e1▸hk) (e2▸hk')
    subst this;rfl
   · rw[e2]at hk';cases hk'
   ·
    rw[e1]at hk
    rw[e2]at hk'
    obtain⟨hlt,hnb⟩:=old _ _ k m0 m1 m2 m3 hl' hk'
    rcases new _ _ k hy hk with hb'|hb'
    · exact absurd hb' hnb
    · omega
  · rw[e1]at hk;cases hk
  ·
   rcases cls _ _ h' with⟨q',y',hq',hy',e2,rfl⟩|e2|⟨m0,m1,m2,m3,hl',e2⟩
   ·
    rw[e1]at hk
    rw[e2]at hk'
    obtain⟨hlt,hnb⟩:=old _ _ k n0 n1 n2 n3 hl hk
    rcases new _ _ k hy' hk' with hb'|hb'
    · exact absurd hb' hnb
    · omega
   · rw[e2]at hk';cases hk'
   · exact hm.sep _ _ _ _ k hl hl' (e1▸hk) (e2▸hk')
 ·
  intro k o hk
  exact h2.get _ _<|hle.get _ _ hk
 ·
  intro l x k h hk
  rcases cls _ _ h with⟨q,y,hq,hy,e1,rfl⟩|e1|⟨n0,n1,n2,n3,hl,e1⟩
  ·
   have:=h2.off _ _ k hy (e1▸hk)
   cases hv:V.get k with
   |none=>rfl
   |some o=>rw[hle.get _ _ hv]at this;cases this
  · rw[e1]at hk;cases hk
  · exact hm.off _ _ k hl (e1▸hk)
 · rw[h2.os,hle.os]
 · rw[h2.tape,hle.tape]
 · rw[h2.output,hle.output]
 ·
  intro l x h
  rcases zba h with⟨rfl,_⟩|⟨rfl,_⟩|⟨rfl,_⟩|⟨rfl,_⟩|⟨h,_⟩|⟨_,_,_,_,h⟩
  · omega
  · omega
  · omega
  · omega
  · rcases h with rfl|rfl|rfl<;>omega
  · have:=hm.lab _ _ h;omega
 ·
  intro l cs e h
  rcases zba h with⟨rfl,hx⟩|⟨rfl,hx⟩|⟨rfl,hx⟩|⟨rfl,hx⟩|⟨_,hx⟩|⟨n0,n1,n2,n3,hx⟩
  ·
   cases hx
   have hg:=(z13 E gs).2 (nl+3)
   simp only[z0z,A.ok,Bool.and_eq_true,z0e]
   exact⟨by omega,by omega,by omega,hg⟩
  · cases hx
  · cases hx
  · cases hx
  · cases hx
  · exact z15 (by omega) (hm.labs _ _ _ hx)
 ·
  intro l m b' h
  rcases zba h with⟨rfl,hx⟩|⟨rfl,hx⟩|⟨rfl,hx⟩|⟨rfl,hx⟩|⟨_,hx⟩|⟨n0,n1,n2,n3,hx⟩
  · cases hx
  · cases hx
  · cases hx
  · cases hx
  · cases hx
  ·
   obtain⟨h1,h3⟩:=hm.pin _ _ _ hx
   exact⟨h1,by omega⟩
 ·
  intro l k h
  rcases zba h with⟨rfl,hx⟩|⟨rfl,hx⟩|⟨rfl,hx⟩|⟨rfl,hx⟩|⟨_,hx⟩|⟨n0,n1,n2,n3,hx⟩
  · cases hx
  · cases hx
  · cases hx
  · cases hx
  · cases hx
  · exact Nat.le_trans (hm.big _ _ hx) hsz
 ·
  intro l m b' v h
  rcases zba h with⟨rfl,hx⟩|⟨rfl,hx⟩|⟨rfl,hx⟩|⟨rfl,hx⟩|⟨_,hx⟩|⟨n0,n1,n2,n3,hx⟩
  · cases hx
  · cases hx
  · cases hx
  · cases hx
  · cases hx
  ·
   obtain⟨h1,h3,h4⟩:=hm.kp _ _ _ _ hx
   exact⟨h1,by rw[(ag m h4).2];exact h3,by omega⟩
end
section
variable{P:Program}{tt:List (Nat×TI)}{ops:Array Oper}{Q:Exit→Act→World→Prop}{o:Oper}{rest:List Oper}
 {n:Nat} {F:z05} {C:List Nat} {O:Own} {nl:Nat} {V:Vw} {K:Act→World→Prop}
end
section
variable{P:Program}{tt:List (Nat×TI)}{ops:Array Oper}{Q:Exit→Act→World→Prop}{o:Oper}{rest:List Oper}
 {n:Nat} {F:z05} {C:List Nat} {O:Own} {nl:Nat} {V:Vw} {K:Act→World→Prop} {E:Env} {w w':World}
theorem Mem.leRow(hm:Mem E O nl V w){l e sz m:Nat}{xs:List Value}(hl:lk O l=some (.row e sz m xs)):V.le ((vw w).delO (E.κ l).ownBlock):=by
 have hoff: ∀k o,V.get k=some o→(E.κ l).ownBlock≠some k:=fun k o hk h=>by
  have:=hm.off l _ k hl (by simpa[blk]using h)
  rw[hk]at this
  cases this
 refine⟨fun k o hk=> ?_, ?_, ?_, ?_⟩
 ·
  cases hv:(E.κ l).ownBlock with
  |none=>exact hm.get k o hk
  |some b=>
   simp only[Vw.delO,Vw.del,vw]
   rw[if_neg (fun e=>hoff k o hk (by rw[hv,e]))]
   exact hm.get k o hk
 all_goals (cases (E.κ l).ownBlock<;>first|exact hm.os|exact hm.tape|exact hm.output)
theorem zhz{p:List (Nat×Bool)}{f l e sz m:Nat}{ss:List SV}{xs:List Value}(e' sz' m':Nat)(xs':List Value)(hv:z4i F p o.op=some (f, .a (.row l)::ss))(hok:z0j P f)(hl:lk O l=some (.row e sz m xs))
  (hcall: ∀E w,Mem E O nl V w→Calls P f (E.κ l::ss.map (SV.den E)).toArray w fun ex w'=> ∃v',ex= .returned v'∧w'.ownsRow 0 e' sz' v' m' xs'∧w.grownBy w' (E.κ l).ownBlock∧(v'.ownBlock=(E.κ l).ownBlock∨ ∀k,v'.ownBlock=some k→w.heap.size≤k)):
  StepTo P o p n F C O nl V (σ:=Unit) (fun _=>True) (fun _=> .a (.row nl)) (fun _=>(nl, .row e' sz' m' xs')::(l, .gone)::O) (nl+1) (fun _=>V):=by
 constructor
 intro E a w hf hgv hm K Q hK
 obtain⟨hr,_⟩:=z1b hf hgv hv hok w
 unfold Oper.wp
 rw[hr,Oper.upon_enter]
 refine(hcall E w hm).mono ?_
 rintro ex w' ⟨v',rfl,hown,hgr,hbk⟩
 have:=hK () (E.setκ nl v') w' trivial (Env.agree_setκ E v') (hm.growO hl hown hgr hbk) (by simp[SV.ok,A.ok,z0e])
 simpa[SV.den,A.den,Env.setκ]using this
theorem Vw.le.none{V V':Vw}(hle:V.le V'){k:Nat}(h:V'.get k=Option.none):V.get k=Option.none:=by
 cases hv:V.get k with
 |none=>rfl
 |some o=>rw[hle.get _ _ hv]at h;cases h
theorem Mem.viewDown{V0:Vw}(hm:Mem E O nl V w)(hle:V0.le V):Mem E O nl V0 w:=
 ⟨hm.lit,hm.row,hm.sep,fun k o hk=>hm.get k o (hle.get _ _ hk),fun l c k hl hk=>hle.none (hm.off l c k hl hk),hm.os.trans hle.os,hm.tape.trans hle.tape,hm.output.trans hle.output,hm.lab,hm.labs,hm.pin,hm.big,hm.kp⟩
theorem z2i{V0:Vw}(hm:Mem E O nl V w')(hle:V0.le V){a b c e0 r k:Nat}{gs:List Value}{R1 R2 R3:Rw}(h0:lk O 0=some (.lit (.row a:: .row b:: .row c::gs.map .v) e0))(ha:lk O a=some R1.cel)(hb:lk O b=some R2.cel)(hc:lk O c=some R3.cel)
  (d:(a≠b∧a≠c)∧b≠c) (hp:lk O 4=some (.pin 0 r)) (hs:lk O 5=some (.size k)):k≤w'.heap.size∧ ∃E',E'.ρ 0=r∧Mem E' (bkO e0 gs R1 R2 R3) 4 V0 w':=
 ⟨hm.big _ _ hs,bkE E 0 a b c,(hm.pin _ _ _ hp).1,(zm1 hm h0 ha hb hc d.1.1 d.1.2 d.2).viewDown hle⟩
theorem z64(hm:Mem E O 4 V w):Mem E ((5, .size w.heap.size)::(4, .pin 0 (E.ρ 0))::O) 6 V w:=(hm.addPin 0 (E.ρ 0) rfl (by omega)).addSize
end
section
variable{P:Program}{tt:List (Nat×TI)}{ops:Array Oper}{Q:Exit→Act→World→Prop}{o:Oper}{rest:List Oper}
 {n:Nat} {F:z05} {C:List Nat} {O:Own} {nl:Nat} {V:Vw} {K:Act→World→Prop} {E:Env} {w w':World}
def zze(E:Env)(lo e0:Nat)(gs:List Value)(Ψ:Value→Prop)(Q1 Q2 Q3:Rw)(V:Vw)(w:World)(ex:Ending)(w':World):Prop:=
 ∃v,ex= .returned v∧Ψ v∧w.heap.size≤w'.heap.size∧ ∃E',E'.ρ 0=E.ρ lo∧Mem E' (bkO e0 gs Q1 Q2 Q3) 4 V w'
theorem z3y{p:List (Nat×Bool)}{f lo a b c e0:Nat}{gs:List Value}{ss':List SV}{R1 R2 R3:Rw}(Ψ:Value→Prop)(Q1 Q2 Q3:Rw)(hv:z4i F p o.op=some (f,ss'))(hok:z0j P f)
  (h0:lk O lo=some (.lit (.row a:: .row b:: .row c::gs.map .v) e0)) (ha:lk O a=some R1.cel) (hb:lk O b=some R2.cel) (hc:lk O c=some R3.cel) (d:(a≠b∧a≠c)∧b≠c)
  (hspec: ∀E w,Mem E O nl V w→Mem (bkE E lo a b c) (bkO e0 gs R1 R2 R3) 4 (bkV w E lo a b c) w→V.le (bkV w E lo a b c)→Calls P f (ss'.map (SV.den E)).toArray w (zze (bkE E lo a b c) 0 e0 gs Ψ Q1 Q2 Q3 (bkV w E lo a b c) w)):
  StepTo P o p n F C O nl V Ψ (fun x=> .a (.v x)) (fun _=>j81 O lo a b c nl e0 gs Q1 Q2 Q3) (nl+3) (fun _=>V):=by
 constructor
 intro E a' w hf hgv hm K Q hK
 obtain⟨hr,_⟩:=z1b hf hgv hv hok w
 unfold Oper.wp
 rw[hr,Oper.upon_enter]
 obtain⟨hin,hle⟩:=zym hm h0 ha hb hc d.1.1 d.1.2 d.2
 refine(hspec E w hm hin hle).mono ?_
 rintro ex w' ⟨x,rfl,hΦ,hsz,E',hρ,hm'⟩
 refine hK x (zvg E E' nl) w' hΦ (fun l hl=>⟨rfl,by simp only[Env.setκ];rw[if_neg (by omega),if_neg (by omega),if_neg (by omega)]⟩) (zvz hm h0 ha hb hc d.1.1 d.1.2 d.2 hm' hρ hsz) rfl
theorem Mem.bkSeen(hm:Mem E O nl V w){lo a b c e0 k q:Nat}{gs:List Value}{R1 R2 R3:Rw}{x:Cel}(h0:lk O lo=some (.lit (.row a:: .row b:: .row c::gs.map .v) e0))(ha:lk O a=some R1.cel)(hb:lk O b=some R2.cel)(hc:lk O c=some R3.cel)
  (hq:lk O q=some x) (hk:blk E q x=some k) (n:((q≠lo∧q≠a)∧q≠b)∧q≠c):(bkV w E lo a b c).get k=w.heap[k]? :=by
 simp only[bkV]
 rw[if_neg]
 rintro(h|h|h|h)
 · exact n.1.1.1 (hm.sep _ _ _ _ k hq h0 hk (by simp[blk,h]))
 · exact n.1.1.2 (hm.sep _ _ _ _ k hq ha hk (by simpa[blk]using h))
 · exact n.1.2 (hm.sep _ _ _ _ k hq hb hk (by simpa[blk]using h))
 · exact n.2 (hm.sep _ _ _ _ k hq hc hk (by simpa[blk]using h))
theorem Mem.bkRow{α:Type}{enc:α→List Value}(hm:Mem E O nl V w){lo a b c e0 q e sz:Nat}{gs:List Value}{R1 R2 R3:Rw}{L:List α}(h0:lk O lo=some (.lit (.row a:: .row b:: .row c::gs.map .v) e0))(ha:lk O a=some R1.cel)(hb:lk O b=some R2.cel)(hc:lk O c=some R3.cel)
  (hq:lk O q=some (.row e sz L.length (L.flatMap enc))) (n:((q≠lo∧q≠a)∧q≠b)∧q≠c) (he: ∀x,(enc x).length=sz):SlOf (bkV w E lo a b c) enc sz (E.κ q) L:=
 ⟨z38 (hm.row _ _ _ _ _ hq) (fun k hk=>hm.bkSeen h0 ha hb hc hq (by simpa[blk]using hk) n),he⟩
theorem Mem.litRow(hm:Mem E O nl V w){l q e e' sz m:Nat}{xs:List Value}{cs:List A}(hl:lk O l=some (.row e sz m xs))(hq:lk O q=some (.lit cs e')):
  ((vw w).delO (E.κ l).ownBlock).get (E.ρ q)=some (.cells (cs.map (A.den E)).toArray e' (0,0)):=by
 have h1:=hm.lit _ _ _ hq
 cases hv:(E.κ l).ownBlock with
 |none=>exact h1
 |some b=>
  simp only[Vw.delO,Vw.del,vw]
  rw[if_neg]
  · exact h1
  ·
   intro e
   have:=hm.sep _ _ _ _ b hq hl (by simp[blk,e]) (by simpa[blk]using hv)
   subst this
   rw[hl]at hq
   cases hq
end
/-! Drawn regions: operations that look at no memory are taken at any time. -/
section
variable{P:Program}{md:Region.Mode}{ops:Array Oper}{Q:Exit→Act→World→Prop}{sp:List Nat}{M:World→Prop}
theorem z9p{i:Nat}{oi:Oper}{v:Value}(hi:ops[i]? =some oi)(hsel: ∀(j:Nat) (o:Oper) cs b,ops[j]? =some o→o.op≠ .select cs b)
  (hQ: ∀c a w,Q (.panic c) (a.put oi.dst v) w→Q (.panic c) a w) (hisp:i∉sp):
  ∀(fuel:Nat) (listed:Array Bool) (a:Act) (w:World),
   (∀j oj,ops[j]? =some oj→j≠i→listed.getD j true=false→(∀e∈oj.after,Region.binds md e=true→e.on≠i)→oi.apart ops oj=true)→
   i∈Region.ready md ops listed→YieldsIf P ops (fun _=>True) oi v a→(z0r sp listed=false→M w)→
   z7d P md ops Q sp M fuel (listed.setIfInBounds i true) (a.put oi.dst v) w→z7d P md ops Q sp M (fuel+1) listed a w:=by
 intro fuel
 induction fuel with
 |zero=>
  intro listed a w _ hr hy hM H
  refine⟨fun h=>(by rw[h]at hr;cases hr),fun j hj=> ?_⟩
  by_cases hji:j=i
  · subst hji;exact hy.wpOp hi trivial ⟨fun hs=>hM (by rwa [z2e hisp]at hs),H⟩
  ·
   have:=ready_mono hj hji
   rw[H.1]at this
   cases this
 |succ fuel ih=>
  intro listed a w hfree hr hy hM H
  refine⟨fun h=>(by rw[h]at hr;cases hr),fun j hj=> ?_⟩
  by_cases hji:j=i
  · subst hji;exact hy.wpOp hi trivial ⟨fun hs=>hM (by rwa [z2e hisp]at hs),H⟩
  ·
   have h1:=H.2 j (ready_mono hj hji)
   obtain⟨hjun,oj,hoj,hall⟩:=mem_ready.1 hj
   have hnot: ∀e∈oj.after,Region.binds md e=true→e.on≠i:=fun e he hb heq=>by
    have h1:=hall e he hb
    have h0:=(mem_ready.1 hr).1
    rw[heq]at h1
    rcases Nat.lt_or_ge i listed.size with h'|h'
    · simp[h']at h0 h1;rw[h0]at h1;cases h1
    · simp[Array.getElem?_eq_none h']at h1
   have h2:=wpOp_putIf hoj (hfree j oj hoj hji hjun hnot) (fun cs b=>hsel i oi cs b hi) (fun cs b=>hsel j oj cs b hoj) hQ hy h1
   have hfree': ∀k ok,ops[k]? =some ok→k≠i→(listed.setIfInBounds j true).getD k true=false→
     (∀e∈ok.after,Region.binds md e=true→e.on≠i)→oi.apart ops ok=true:=fun k ok hk hki hun hno=>by
    refine hfree k ok hk hki ?_ hno
    by_cases hjk:j=k
    · subst hjk;exact hjun
    · rw[getD_set_ne true hjk]at hun;exact hun
   refine wpOp_mono (fun a' w' h3=> ?_) h2
   have hM':z0r sp (listed.setIfInBounds j true)=false→M w':=fun hs=>h3.2.1 (by
    rw[Array.setIfInBounds_comm _ _ (Ne.symm hji),z2e hisp];exact hs)
   refine⟨hM',ih (listed.setIfInBounds j true) a' w' hfree' (ready_mono hr (Ne.symm hji)) h3.1 hM' ?_⟩
   rw[Array.setIfInBounds_comm _ _ hji]
   exact h3.2.2
end
def zxh(ops:Array Oper)(sp:List Nat)(listed:Array Bool)(i:Nat):Bool:=
 (Region.ready .any ops listed).contains i&&Region.free .any ops listed i&&Region.noSelect ops&& !(z2w i sp)
section
variable{P:Program}{ops:Array Oper}{Q:Exit→Act→World→Prop}{sp:List Nat}{O0:Own}{nl0:Nat}{V0:Vw}{fuel:Nat}{listed:List Bool}{o:Oper}{n:Nat}{F:z05}{C:List Nat}{O:Own}{nl:Nat}{V:Vw}
theorem zaq(i:Nat){p:List (Nat×Bool)}{g:Bool}{C':List Nat}{s:SV}{d:Nat}(hi:ops[i]? =some o)
  (htk:zxh ops sp listed.toArray i=true)
  (hg:gd ops F C o.guard=some (p,g,C')) (hd:o.dst=some d) (hc:(Nat.blt d n&& !(z2w d C'))=true)
  (hy: ∀V',Yld P o n F C' [] nl V' p g s) (hs:s.ok nl=true)
  (next:TJ P ops Q sp O0 fuel (z4w listed i) n ((d,⟨p,g,s⟩)::F) C' O nl V):TJ P ops Q sp O0 (fuel+1) listed n F C O nl V:=by
 simp only[zxh,Bool.and_eq_true,Bool.not_eq_true']at htk
 obtain⟨⟨⟨hr,hfr⟩,hsel⟩,hns⟩:=htk
 constructor
 intro E a w hdf hf hm hm0
 obtain⟨h1,h2,h3,h4⟩:=z18 hf hg
 simp only[Bool.and_eq_true,z0e,Bool.not_eq_true']at hc
 refine z9p (v:=if g then s.den E else undef) hi (Region.noSelect_spec hsel) (fun c a w h=>h.elim) (fun hm=>by rw[z3i.2 hm]at hns;cases hns) fuel listed.toArray a w (Region.free_spec hi hfr) (by simpa using hr) ?_ (fun _=>hm0) ?_
 ·
  cases g with
  |true=>
   refine .inl ⟨h1,fun w' _=> ?_⟩
   have:=(hy (vw w') rfl E a w' h2 h3.symm (zhn E nl w')).1
   simpa[Yv]using this
  |false=>exact .inr ⟨h1,by simp⟩
 ·
  rw[←z7p,hd]
  exact next.out E _ w (by simp[Act.put,hdf]) (Frm.put (p:=p) (g:=g) h2 hc.1 hc.2 h3 h4 (fun _=>hs)) hm hm0
theorem zee(i:Nat){p:List (Nat×Bool)}{g:Bool}{C':List Nat}{s:SV}{d:Nat}(hi:ops[i]? =some o)
  (htk:zxh ops sp listed.toArray i=true)
  (hg:gd ops F C o.guard=some (p,g,C')) (hd:o.dst=some d) (hc:(Nat.blt d n&& !(z2w d C'))=true)
  (hy: ∀V',Yld P o n F C' [] nl V' p g s) (hs:s.ok nl=true)
  (next:HJ P ops Q sp O0 nl0 V0 fuel (z4w listed i) n ((d,⟨p,g,s⟩)::F) C' O nl V):HJ P ops Q sp O0 nl0 V0 (fuel+1) listed n F C O nl V:=by
 simp only[zxh,Bool.and_eq_true,Bool.not_eq_true']at htk
 obtain⟨⟨⟨hr,hfr⟩,hsel⟩,hns⟩:=htk
 constructor
 intro E0 E a w hag hdf hf hm hM
 obtain⟨h1,h2,h3,h4⟩:=z18 hf hg
 simp only[Bool.and_eq_true,z0e,Bool.not_eq_true']at hc
 refine z9p (v:=if g then s.den E else undef) hi (Region.noSelect_spec hsel) (fun c a w h=>h.elim) (fun hm=>by rw[z3i.2 hm]at hns;cases hns) fuel listed.toArray a w (Region.free_spec hi hfr) (by simpa using hr) ?_ hM ?_
 ·
  cases g with
  |true=>
   refine .inl ⟨h1,fun w' _=> ?_⟩
   have:=(hy (vw w') rfl E a w' h2 h3.symm (zhn E nl w')).1
   simpa[Yv]using this
  |false=>exact .inr ⟨h1,by simp⟩
 ·
  rw[←z7p,hd]
  exact next.out E0 E _ w hag (by simp[Act.put,hdf]) (Frm.put (p:=p) (g:=g) h2 hc.1 hc.2 h3 h4 (fun _=>hs)) hm fun hs=>hM<|z0x hs
end
section
variable{P:Program}{tt:List (Nat×TI)}{ops:Array Oper}{Q:Exit→Act→World→Prop}{o:Oper}{rest:List Oper}
 {n:Nat} {F:z05} {C:List Nat} {O:Own} {nl:Nat} {V:Vw} {K:Act→World→Prop} {sp:List Nat} {O0:Own} {nl0:Nat} {V0:Vw} {fuel:Nat} {listed:List Bool}
theorem zib(i:Nat){p:List (Nat×Bool)}{g:Bool}{C':List Nat}{d:Nat}{fv:Value}{ss:List SV}(s:SV)(hi:ops[i]? =some o)
  (hg:gd ops F C o.guard=some (p,g,C')) (hv:z51 F p o.op=some (fv,ss)) (hd:o.dst=some d) (hc:(Nat.blt d n&& !(z2w d C'))=true) (hs:s.ok nl=true)
  (hcall:g=true→ ∀E w,Mem E O nl V w→z7r P fv (ss.map (SV.den E)) w fun e w'=>e= .returned (s.den E)∧Below w.heap.size w w')
  (next:HJ P ops Q sp O0 nl0 V0 fuel (z4w listed i) n ((d,⟨p,g,s⟩)::F) C' O nl V):HI P ops Q sp O0 nl0 V0 fuel listed n F C O nl V i:=by
 refine⟨fun E0 E a w hag hdf hf hm hM=> ?_⟩
 obtain⟨h1,h2,h3,h4⟩:=z18 hf hg
 simp only[Bool.and_eq_true,z0e,Bool.not_eq_true']at hc
 unfold wpOp
 simp only[hi]
 rw[h1]
 cases g with
 |true=>
  simp only[if_true]
  left
  obtain⟨f,args,hrun,hcl⟩:=zbh h2 h3.symm hv w (hcall rfl E w hm)
  unfold Oper.wp
  rw[hrun,Oper.upon_enter]
  refine hcl.mono ?_
  rintro e w' ⟨rfl,hb⟩
  have hkeep:z0r sp (z4w listed i).toArray=false→Mem E0 O0 nl0 V0 w':=fun hs=>(hM (z0x hs)).keep hb
  refine⟨hkeep, ?_⟩
  rw[hd]
  refine next.out E0 E _ w' hag (by simp[Act.put,hdf]) ?_ (hm.keep hb) hkeep
  have:=Frm.put (p:=p) (g:=true) h2 hc.1 hc.2 h3 h4 (fun _=>hs)
  simpa using this
 |false=>
  simp only[Bool.false_eq_true,if_false,hd]
  refine⟨fun hs=>hM (z0x hs), ?_⟩
  refine next.out E0 E _ w hag (by simp[Act.put,hdf]) ?_ hm fun hs=>hM<|z0x hs
  have:=Frm.put (p:=p) (g:=false) (s:=s) h2 hc.1 hc.2 h3 h4 (by simp)
  simpa using this
end
section
variable{P:Program}{tt:List (Nat×TI)}{ops:Array Oper}{Q:Exit→Act→World→Prop}{o:Oper}{rest:List Oper}
 {n:Nat} {F:z05} {C:List Nat} {O:Own} {nl:Nat} {V:Vw} {K:Act→World→Prop}
theorem j90{p:List (Nat×Bool)}{l e sz m i:Nat}{xs:List Value}(hl:lk O l=some (.row e sz m xs))(hi:i≤m)(hy: ∀v V',z7i V' v sz m xs→Yld P o n (fzF l v F) C [] nl V' p true (.a (.v (z0n v 0 i sz)))):
  StepTo P o p n F C O nl V (σ:=Unit) (fun _=>True) (fun _=> .a (.row nl)) (fun _=>(nl, .row e sz i (xs.take (i*sz)))::(l, .gone)::O) (nl+1) (fun _=>V):=by
 constructor
 intro E a w hf hgv hm K Q hK
 have hrow:=hm.row _ _ _ _ _ hl
 have hnb:=z5h hrow
 have h1:=(hy (E.κ l) (vw w) (z38 hrow (fun k _=>rfl)) rfl E a w (hf.fz rfl hnb) (by rw[zca hnb];exact hgv) (zhn E nl w)).1
 have hown:=z9d hrow hi
 have hbk:(z0n (E.κ l) 0 i sz).ownBlock=(E.κ l).ownBlock:=by
  rcases hrow.2 with⟨h2,_⟩|⟨g,cap,cur,h2,_⟩
  · rw[h2];rfl
  ·
   rw[h2]
   simp only[z0n]
   by_cases hc:cap=0<;>simp[hc,Addr.add,Value.ownBlock]
 have:=hK () (E.setκ nl (z0n (E.κ l) 0 i sz)) w trivial (Env.agree_setκ E _) (hm.growO hl hown (World.grownBy.refl w _) (.inl hbk)) (by simp[SV.ok,A.ok,z0e])
 unfold Oper.wp
 rw[h1]
 show K (a.put o.dst _) w
 simpa[SV.den,A.den,Env.setκ]using this
theorem jbj(htt:z0s P tt){p:List (Nat×Bool)}{t tn e k:Nat}{ti:TI}{kq kn:IntKind}(hv:z8v F p o.op=some (t,tn, .a (.v (.slice none 0 0)), .a (.v (.int kq k))))(hte:zb6 tt t=some (e,ti))(hzl:ti.zero.length=ti.size)(htn:P.underlying tn=some (.int kn))
  (h0:0<k) (hs:0<ti.size) (hb:k*ti.bytes≤140737488355328) (hm0:k≤maxLen):
  StepTo P o p n F C O nl V (σ:=List Value) (fun _=>True) (fun _=> .a (.row nl)) (fun zs=>(nl, .row e ti.size k zs)::O) (nl+1) (fun _=>V):=by
 refine j4x hv fun E w hm=> ?_
 obtain⟨hu,hti⟩:=z53 htt hte
 obtain⟨fi,hfi,hfs,hfb,z,hz,hzc⟩:=hti.info
 have hzs:z.cells.size=ti.size:=by rw[←hzl,←hzc];simp
 have hm63:(k:Int)≤9223372036854775807:=by simp only[maxLen]at hm0;omega
 have hrun:=Lib.run_append_nil_zeros (P:=P) w t tn o.type e fi z kq kn hu htn hfi hz k h0 (by omega) hm63 (by rw[hfb];omega)
 have hge:=grownCap_ge w k 0 e
 have hmx:=grownCap_le_maxLen w k 0 e hm0
 obtain⟨cur,hcur⟩: ∃cur,cur=Builtin.zeroCells z.cells k++Builtin.zeroCells z.cells (grownCap w k 0 e - k):=⟨_,rfl⟩
 rw[←hcur]at hrun
 have hlen:cur.size=grownCap w k 0 e*ti.size:=by
  rw[hcur,Array.size_append,z2n,z2n,hzs,←Nat.add_mul]
  congr 1
  omega
 have hbel:Below w.heap.size w (w.drew.alloc (.cells cur e)):=⟨rfl,rfl,rfl,by simp,fun k hk=>heap_alloc_old w.drew _ hk⟩
 have hle2:k*ti.size≤grownCap w k 0 e*ti.size:=Nat.mul_le_mul_right _ hge
 have hown:(w.drew.alloc (.cells cur e)).ownsRow w.heap.size e ti.size (.slice (some ⟨w.heap.size,0,none⟩) k (grownCap w k 0 e)) k (cur.toList.take (k*ti.size)):=
  ⟨by rw[List.length_take,Array.length_toList,hlen];omega, .inr ⟨w.heap.size,_,cur,rfl,Nat.le_refl _,heap_alloc_new w.drew _,hge,hmx,hlen,rfl⟩⟩
 refine⟨cur.toList.take (k*ti.size),E.setκ nl _,_, ?_,trivial,Env.agree_setκ E (.slice (some ⟨w.heap.size,0,none⟩) k (grownCap w k 0 e)),hm.newRow hbel hown,by simp[SV.ok,A.ok,z0e]⟩
 simpa[SV.den,A.den,Env.setκ]using hrun
end
section
variable{P:Program}{tt:List (Nat×TI)}{ops:Array Oper}{Q:Exit→Act→World→Prop}{o:Oper}{rest:List Oper}
 {n:Nat} {F:z05} {C:List Nat} {O:Own} {nl:Nat} {V:Vw} {K:Act→World→Prop}
def zhi(tt:List (Nat×TI))(F:z05)(O:Own)(p:List (Nat×Bool)):Op→Option (Nat×List A×Nat)
 | .buildSlice t len parts=>match lk tt t with
  |some ⟨_,_,_,_, .slice e⟩=>match lk tt e with
   |some ti=>bif Nat.ble (len*ti.size) 16777216&&Nat.beq ti.zero.length ti.size then
     (match zbl F O p (zbr e ti.size len 0) parts.toList ((z6z len ti.zero).map .v)with
      |some cs=>some (len,cs,e)
      |none=>none)else none
   |none=>none
  |_=>none
 |_=>none
theorem zgm(htt:z0s P tt){E:Env}{a:Act}{w:World}{p:List (Nat×Bool)}(hf:Frm E n F C nl a.tmps)(hgv:z61 F p=true)(hm:Mem E O nl V w){len e:Nat}{cs:List A}
  (hv:zhi tt F O p o.op=some (len,cs,e)):
  (execOp a.eval o).run P w= .ok (.value (.slice (some ⟨w.heap.size,0,none⟩) len len)) (w.alloc (.cells (cs.map (A.den E)).toArray e (0,0)))∧z0z nl cs=true:=by
 unfold execOp
 cases hop:o.op with
 |buildSlice t len' parts=>
  simp only[hop,zhi]at hv
  split at hv
  ·
   rename_i sz by_ z fl e' hti
   split at hv
   ·
    rename_i ti hte
    cases hcd:(Nat.ble (len'*ti.size) 16777216&&Nat.beq ti.zero.length ti.size)with
    |false=>simp[hcd]at hv
    |true=>
     simp only[hcd,cond_true]at hv
     simp only[Bool.and_eq_true,Nat.ble_eq,Nat.beq_eq]at hcd
     split at hv
     ·
      rename_i cs' hcs
      ·
       simp only[Option.some.injEq,Prod.mk.injEq]at hv
       obtain⟨rfl,rfl,rfl⟩:=hv
       obtain⟨dd,hdd,hk,_⟩:=(htt _ _ hti).und
       have hdb:dd= .slice e':=by cases dd<;>simp[z19]at hk;rw[hk]
       subst hdb
       obtain⟨zv,hz,hzc⟩:=(htt _ _ hte).zeroValue w
       have hv: ∀l:List Value,(l.map A.v).map (A.den E)=l∧z0z nl (l.map A.v)=true:=by
        intro l
        induction l with
        |nil=>exact⟨rfl,rfl⟩
        |cons x r ih=>exact⟨by simp[A.den,ih.1],by simp[z0z,A.ok,ih.2]⟩
       obtain⟨hfill,hok⟩:=z6i (E:=E) hf hm hgv (place:=fun i=>some (i*ti.size,ti.size)) (fun i q h=>by rw[z82 _ _ _ _ _ _ h];simp) hcs (hv _).2
       rw[(hv _).1]at hfill
       have hzs:zv.cells.size=ti.size:=by rw[←hcd.2,←hzc];simp
       have hzero:(Array.range (len'*ti.size)).map (fun i=>zv.cells[i%zv.cells.size]!)=(z6z len' ti.zero).toArray:=by
        rw[←hzc,←hzs];exact zgq _ _
       have hle: ¬(len'*ti.size>2^24):=by have:=hcd.1;omega
       have hparts:(parts.map fun(q:Nat×Operand)=>(q.1,a.eval q.2)).toList=parts.toList.map fun q=>(q.1,a.eval q.2):=by simp
       have hrun:(Instr.buildSlice t len' (parts.map fun(q:Nat×Operand)=>(q.1,a.eval q.2))).run P w= .ok (.slice (some ⟨w.heap.size,0,none⟩) len' len') (w.alloc (.cells (cs'.map (A.den E)).toArray e' (0,0))):=by
        by_cases h0:len'*ti.size=0
        ·
         have hz0:(Array.range (len'*ti.size)).map (fun i=>(#[]:Array Value)[i%(#[]:Array Value).size]!)=(z6z len' ti.zero).toArray:=by
          have h1:z6z len' ti.zero=[]:=by
           apply List.eq_nil_of_length_eq_zero
           rw[z4d,hcd.2];exact h0
          simp[h0,h1]
         simp only[Instr.buildSlice,Sem.run_bind,run_underlying hdd,Result.andThen_ok,(htt _ _ hte).sizeOf,hle,if_false,h0,if_true,Sem.run_pure,Sem.run_ite]
         rw[h0]at hz0
         simp only[hz0,hparts,hfill]
         simp[newRow]
        ·
         simp only[Instr.buildSlice,Sem.run_bind,run_underlying hdd,Result.andThen_ok,(htt _ _ hte).sizeOf,hle,if_false,h0,hz,Sem.run_pure,Sem.run_ite,hzero,hparts,hfill]
         simp[newRow]
       have hrun':(Instr.buildSlice t len' (parts.map fun x=>match x with|(i,x)=>(i,a.eval x))).run P w= .ok (.slice (some ⟨w.heap.size,0,none⟩) len' len') (w.alloc (.cells (cs'.map (A.den E)).toArray e' (0,0))):=hrun
       simp only[Sem.run_bind,hrun',Result.andThen_ok,Sem.run_pure]
       exact⟨trivial,hok⟩
     · simp at hv
   · simp at hv
  · simp at hv
 |_=>simp[hop,zhi]at hv
theorem j8y(htt:z0s P tt){p:List (Nat×Bool)}{len e:Nat}{cs:List A}(hv:zhi tt F O p o.op=some (len,cs,e)):
  StepTo P o p n F C O nl V (σ:=Nat) (fun _=>True) (fun x=> .a (.v (.slice (some ⟨x,0,none⟩) len len))) (fun x=>(nl+1, .pin nl x)::(nl, .lit cs e)::O) (nl+2) (fun _=>V):=by
 constructor
 intro E a w hf hgv hm K Q hK
 unfold Oper.wp
 obtain⟨h1,hok⟩:=zgm htt hf hgv hm hv
 rw[h1]
 have hnb:=hm.new (cs:=cs) (e:=e) hok
 have:=hK w.heap.size (E.setρ nl w.heap.size) _ trivial (E.agree_setρ w.heap.size) (hnb.addPin nl w.heap.size (by simp[Env.setρ]) (by omega)) rfl
 show K (a.put o.dst _) _
 simpa[SV.den,A.den]using this
end
/-! A record made by a call, in the caller's labels. -/
abbrev bkN(O:Own)(nl e0:Nat)(gs:List Value)(R1 R2 R3:Rw):Own:=
 (nl, .lit (.row (nl+1):: .row (nl+2):: .row (nl+3)::gs.map .v) e0)::(nl+1,R1.cel)::(nl+2,R2.cel)::(nl+3,R3.cel)::O
abbrev zw3(E E':Env)(nl:Nat):Env:=(((E.setρ nl (E'.ρ 0)).setκ (nl+1) (E'.κ 1)).setκ (nl+2) (E'.κ 2)).setκ (nl+3) (E'.κ 3)
theorem zbf{O:Own}{nl e0 l:Nat}{gs:List Value}{R1 R2 R3:Rw}{x:Cel}(h:lk (bkN O nl e0 gs R1 R2 R3) l=some x):
  (l=nl∧x= .lit (.row (nl+1):: .row (nl+2):: .row (nl+3)::gs.map .v) e0)∨(l=nl+1∧x=R1.cel)∨(l=nl+2∧x=R2.cel)∨(l=nl+3∧x=R3.cel)∨lk O l=some x:=by
 simp only[z1l]at h
 split at h
 · cases h;exact .inl ⟨by omega,rfl⟩
 ·
  split at h
  · cases h;exact .inr (.inl ⟨by omega,rfl⟩)
  ·
   split at h
   · cases h;exact .inr (.inr (.inl ⟨by omega,rfl⟩))
   ·
    split at h
    · cases h;exact .inr (.inr (.inr (.inl ⟨by omega,rfl⟩)))
    · exact .inr (.inr (.inr (.inr h)))
section
variable{P:Program}{n:Nat}{F:z05}{C:List Nat}{O:Own}{nl:Nat}{V:Vw}{E E':Env}{w w':World}{o:Oper}
theorem j0q(hm:Mem E O nl V w){e0:Nat}{gs:List Value}{R1 R2 R3:Rw}(h2:Mem E' (bkO e0 gs R1 R2 R3) 4 (vw w) w')(hsz:w.heap.size≤w'.heap.size):
  Mem (zw3 E E' nl) (bkN O nl e0 gs R1 R2 R3) (nl+4) V w':=by
 have ag:E.agree nl (zw3 E E' nl):=fun l hl=>⟨by simp only[Env.setκ,Env.setρ];rw[if_neg (by omega)],by simp only[Env.setκ,Env.setρ];rw[if_neg (by omega),if_neg (by omega),if_neg (by omega)]⟩
 have k0:(zw3 E E' nl).ρ nl=E'.ρ 0:=by simp[Env.setκ,Env.setρ]
 have k1:(zw3 E E' nl).κ (nl+1)=E'.κ 1:=by simp[Env.setκ]
 have k2:(zw3 E E' nl).κ (nl+2)=E'.κ 2:=by simp[Env.setκ]
 have k3:(zw3 E E' nl).κ (nl+3)=E'.κ 3:=by simp[Env.setκ]
 have g0:lk (bkO e0 gs R1 R2 R3) 0=some (.lit (.row 1:: .row 2:: .row 3::gs.map .v) e0):=rfl
 have g1:lk (bkO e0 gs R1 R2 R3) 1=some R1.cel:=rfl
 have g2:lk (bkO e0 gs R1 R2 R3) 2=some R2.cel:=rfl
 have g3:lk (bkO e0 gs R1 R2 R3) 3=some R3.cel:=rfl
 have new: ∀l x k,lk (bkO e0 gs R1 R2 R3) l=some x→blk E' l x=some k→w.heap.size≤k:=fun l x k hl hk=>by
  have:=h2.off _ _ k hl hk
  exact Array.getElem?_eq_none_iff.1 this
 have keep: ∀k,k<w.heap.size→w'.heap[k]? =w.heap[k]? :=fun k hk=>by
  have:w.heap[k]? =some w.heap[k]:=by simp[hk]
  rw[this]
  exact h2.get k _ this
 have cls: ∀l x,lk (bkN O nl e0 gs R1 R2 R3) l=some x→
   (∃q y,q<4∧lk (bkO e0 gs R1 R2 R3) q=some y∧blk (zw3 E E' nl) l x=blk E' q y∧l=nl+q)∨(lk O l=some x∧blk (zw3 E E' nl) l x=blk E l x):=by
  intro l x h
  rcases zbf h with⟨rfl,rfl⟩|⟨rfl,rfl⟩|⟨rfl,rfl⟩|⟨rfl,rfl⟩|h
  · exact .inl ⟨0,_,by omega,g0,by simp[blk,k0],by simp⟩
  · exact .inl ⟨1,_,by omega,g1,by simp[blk,k1],by simp⟩
  · exact .inl ⟨2,_,by omega,g2,by simp[blk,k2],by simp⟩
  · exact .inl ⟨3,_,by omega,g3,by simp[blk,k3],by simp⟩
  · exact .inr ⟨h,z1p ag (hm.lab _ _ h) _⟩
 refine⟨?_, ?_, ?_, ?_, ?_, ?_, ?_, ?_, ?_, ?_, ?_, ?_, ?_⟩
 ·
  intro l cs e h
  rcases zbf h with⟨rfl,hx⟩|⟨rfl,hx⟩|⟨rfl,hx⟩|⟨rfl,hx⟩|hx
  ·
   cases hx
   have:=h2.lit _ _ _ g0
   simp only[List.map_cons,(z13 _ gs).1]at this⊢
   rw[k0,this]
   simp only[A.den,k1,k2,k3]
  · cases hx
  · cases hx
  · cases hx
  ·
   have h1:=hm.lit _ _ _ hx
   have hlt:=hm.lt (k:=E.ρ l) hx rfl
   rw[(ag l (hm.lab _ _ hx)).1,keep _ hlt,h1,A.map_agree ag (hm.labs _ _ _ hx)]
 ·
  intro l e sz n xs h
  rcases zbf h with⟨rfl,hx⟩|⟨rfl,hx⟩|⟨rfl,hx⟩|⟨rfl,hx⟩|hx
  · cases hx
  · cases hx;rw[k1];exact h2.row _ _ _ _ _ g1
  · cases hx;rw[k2];exact h2.row _ _ _ _ _ g2
  · cases hx;rw[k3];exact h2.row _ _ _ _ _ g3
  ·
   rw[(ag l (hm.lab _ _ hx)).2]
   exact z1n (hm.row _ _ _ _ _ hx) fun k hk=>keep k (hm.lt hx (by simpa[blk]using hk))
 ·
  intro l l' x x' k h h' hk hk'
  rcases cls _ _ h with⟨q,y,hq,hy,e1,rfl⟩|⟨hl,e1⟩
  ·
   rcases cls _ _ h' with⟨q',y',hq',hy',e2,rfl⟩|⟨hl',e2⟩
   ·
    have:=h2.sep q q' y y' k hy hy' (e1▸hk) (e2▸hk')
    subst this;rfl
   ·
    rw[e1]at hk
    rw[e2]at hk'
    have a:=hm.lt hl' hk'
    have b:=new _ _ k hy hk
    omega
  ·
   rcases cls _ _ h' with⟨q',y',hq',hy',e2,rfl⟩|⟨hl',e2⟩
   ·
    rw[e1]at hk
    rw[e2]at hk'
    have a:=hm.lt hl hk
    have b:=new _ _ k hy' hk'
    omega
   · exact hm.sep _ _ _ _ k hl hl' (e1▸hk) (e2▸hk')
 ·
  intro k o hk
  exact h2.get _ _<|hm.get _ _ hk
 ·
  intro l x k h hk
  rcases cls _ _ h with⟨q,y,hq,hy,e1,rfl⟩|⟨hl,e1⟩
  ·
   have:=h2.off _ _ k hy (e1▸hk)
   cases hv:V.get k with
   |none=>rfl
   |some o=>
    exact absurd (this.symm.trans (hm.get _ _ hv)) (by simp)
  · exact hm.off _ _ k hl (e1▸hk)
 · rw[h2.os];exact hm.os
 · rw[h2.tape];exact hm.tape
 · rw[h2.output];exact hm.output
 ·
  intro l x h
  rcases zbf h with⟨rfl,_⟩|⟨rfl,_⟩|⟨rfl,_⟩|⟨rfl,_⟩|h
  · omega
  · omega
  · omega
  · omega
  · have:=hm.lab _ _ h;omega
 ·
  intro l cs e h
  rcases zbf h with⟨rfl,hx⟩|⟨rfl,hx⟩|⟨rfl,hx⟩|⟨rfl,hx⟩|hx
  ·
   cases hx
   have hg:=(z13 E gs).2 (l+4)
   simp only[z0z,A.ok,Bool.and_eq_true,z0e]
   exact⟨by omega,by omega,by omega,hg⟩
  · cases hx
  · cases hx
  · cases hx
  · exact z15 (by omega) (hm.labs _ _ _ hx)
 ·
  intro l m b' h
  rcases zbf h with⟨rfl,hx⟩|⟨rfl,hx⟩|⟨rfl,hx⟩|⟨rfl,hx⟩|hx
  · cases hx
  · cases hx
  · cases hx
  · cases hx
  ·
   obtain⟨h1,h3⟩:=hm.pin _ _ _ hx
   exact⟨(ag m h3).1.trans h1,by omega⟩
 ·
  intro l k h
  rcases zbf h with⟨rfl,hx⟩|⟨rfl,hx⟩|⟨rfl,hx⟩|⟨rfl,hx⟩|hx
  · cases hx
  · cases hx
  · cases hx
  · cases hx
  · exact Nat.le_trans (hm.big _ _ hx) hsz
 ·
  intro l m b' v h
  rcases zbf h with⟨rfl,hx⟩|⟨rfl,hx⟩|⟨rfl,hx⟩|⟨rfl,hx⟩|hx
  · cases hx
  · cases hx
  · cases hx
  · cases hx
  ·
   obtain⟨h1,h3,h4⟩:=hm.kp _ _ _ _ hx
   exact⟨(ag m h4).1.trans h1,(ag m h4).2.trans h3,by omega⟩
theorem z6m{p:List (Nat×Bool)}{f e0:Nat}{gs:List Value}{ss:List SV}{R1 R2 R3:Rw}(hv:z4i F p o.op=some (f,ss))(hok:z0j P f)
  (hspec: ∀E w,Mem E O nl V w→Calls P f (ss.map (SV.den E)).toArray w fun ex w'=> ∃E',ex= .returned (.pointer (some ⟨E'.ρ 0,0,none⟩))∧w.heap.size≤w'.heap.size∧Mem E' (bkO e0 gs R1 R2 R3) 4 (vw w) w'):
  StepTo P o p n F C O nl V (σ:=Unit) (fun _=>True) (fun _=> .a (.ptr nl 0)) (fun _=>bkN O nl e0 gs R1 R2 R3) (nl+4) (fun _=>V):=by
 constructor
 intro E a' w hf hgv hm K Q hK
 obtain⟨hr,_⟩:=z1b hf hgv hv hok w
 unfold Oper.wp
 rw[hr,Oper.upon_enter]
 refine(hspec E w hm).mono ?_
 rintro ex w' ⟨E',rfl,hsz,hm'⟩
 have:=hK () (zw3 E E' nl) w' trivial (fun l hl=>⟨by simp only[Env.setκ,Env.setρ];rw[if_neg (by omega)],by simp only[Env.setκ,Env.setρ];rw[if_neg (by omega),if_neg (by omega),if_neg (by omega)]⟩) (j0q hm hm' hsz) (by simp[SV.ok,A.ok,z0e])
 simpa[SV.den,A.den,Env.setκ,Env.setρ]using this
/-! All new memory seen. -/
def Vw.grown(V:Vw)(w w':World):Vw:=⟨fun k=>if k<w.heap.size then V.get k else w'.heap[k]?,V.os,V.tape,V.output⟩
theorem Vw.le.lt(hV:V.le (vw w)){k:Nat}{ob:Obj}(h:V.get k=some ob):k<w.heap.size:=by
 have:=hV.get _ _ h
 exact(Array.getElem?_eq_some_iff.1 this).1
theorem Vext.grown(hV:V.le (vw w))(hb:Below w.heap.size w w'):Vext w.heap.size V (V.grown w w') w':=by
 refine⟨⟨fun k ob h=> ?_,rfl,rfl,rfl⟩,fun k ob h=> ?_⟩
 ·
  simp only[Vw.grown]
  rw[if_pos (hV.lt h)];exact h
 ·
  simp only[Vw.grown]at h
  split at h
  ·
   rename_i hlt
   exact⟨by rw[hb.block k hlt];exact hV.get _ _ h, .inl h⟩
  · exact⟨h, .inr (by omega)⟩
theorem SlOf.grown{α:Type}{enc:α→List Value}{L:List α}{e sz:Nat}{v:Value}(V:Vw)(h:w'.ownsRow w.heap.size e sz v L.length (L.flatMap enc))(he: ∀x,(enc x).length=sz):SlOf (V.grown w w') enc sz v L:=
 ⟨z38 ⟨h.1,h.2.imp id (fun⟨g,cap,cur,a,_,c⟩=>⟨g,cap,cur,a,Nat.zero_le _,c⟩)⟩ (fun k hk=>by
  simp only[Vw.grown]
  rw[if_neg]
  have:=(h.lt k hk).1
  omega),he⟩
end
section
variable{P:Program}{tt:List (Nat×TI)}{n:Nat}{F:z05}{C:List Nat}{O:Own}{nl:Nat}{V:Vw}{o:Oper}
def zmf(tt:List (Nat×TI))(F:z05)(O:Own)(p:List (Nat×Bool)):Op→Option (List A)
 | .build t parts=>match lk tt t with
  |some ⟨_,_,z,_, .arr m e⟩=>match lk tt e with
   |some ti=>zbl F O p (zbr e ti.size m 0) parts.toList (z.map .v)
   |none=>none
  |_=>none
 |_=>none
theorem j89(htt:z0s P tt){p:List (Nat×Bool)}{g:Bool}{cs:List A}(hv:zmf tt F O p o.op=some cs):Yld P o n F C O nl V p g (.agg cs):=by
 intro hgt E a w hf hg hm
 unfold Yv execOp
 cases hop:o.op with
 |build t parts=>
  simp only[hop,zmf]at hv
  split at hv
  ·
   rename_i sz by_ z flds m e hti
   split at hv
   ·
    rename_i ti hte
    have hT:=htt _ _ hti
    obtain⟨d,hd,hk,_⟩:=hT.und
    have hst:d= .array m e:=by
     cases d<;>first|(simp[z19]at hk;obtain⟨rfl,rfl⟩:=hk;rfl)|(simp[z19]at hk)
    subst hst
    obtain⟨zv,hz,hzc⟩:=hT.zeroValue w
    obtain⟨hfill,hok⟩:=z6i (E:=E) hf hm hg (place:=fun i=>some (i*ti.size,ti.size)) (fun i q h=>by rw[z82 _ _ _ _ _ _ h];simp) hv ((z13 E z).2 nl)
    refine⟨?_,by simpa[SV.ok]using hok⟩
    have hzc':zv.cells=z.toArray:=by apply Array.ext';simpa using hzc
    rw[(z13 E z).1]at hfill
    have hparts:(parts.map fun(q:Nat×Operand)=>(q.1,a.eval q.2)).toList=parts.toList.map fun q=>(q.1,a.eval q.2):=by simp
    have hrun:(Instr.build t (parts.map fun(q:Nat×Operand)=>(q.1,a.eval q.2))).run P w= .ok (.agg (cs.map (A.den E)).toArray) w:=by
     simp only[Instr.build,Sem.run_bind,hz,Result.andThen_ok,run_underlying hd,(htt _ _ hte).sizeOf,hzc',hparts,hfill,Sem.run_pure]
    have hrun':(Instr.build t (parts.map fun x=>match x with|(i,x)=>(i,a.eval x))).run P w= .ok (.agg (cs.map (A.den E)).toArray) w:=hrun
    simp only[Sem.run_bind,hrun',Result.andThen_ok,Sem.run_pure,SV.den]
   · simp at hv
  · simp at hv
 |_=>simp[hop,zmf]at hv
end
end Go.Eng

/-
 What a call has made, taken over whole: its own memory in the caller's labels.
-/
set_option linter.unusedSimpArgs false
set_option linter.unusedVariables false
namespace Go.Eng
open Go Go.RowKit
def A.sh(d:Nat):A→A
 | .v x=> .v x
 | .ptr l o=> .ptr (l+d) o
 | .fn f caps=> .fn f (caps.map fun p=>(p.1+d,p.2))
 | .row l=> .row (l+d)
 | .el x k=> .el x k
 | .rel l k=> .rel (l+d) k
def SV.sh(d:Nat):SV→SV
 | .a x=> .a (x.sh d)
 | .agg cs=> .agg (cs.map (A.sh d))
 | .tup cs=> .tup (cs.map (A.sh d))
def Cel.sh(d:Nat):Cel→Cel
 | .lit cs e=> .lit (cs.map (A.sh d)) e
 | .row e sz n xs=> .row e sz n xs
 | .gone=> .gone
 | .pin m b=> .pin (m+d) b
 | .size k=> .size k
 | .keep m b v=> .keep (m+d) b v
def shO(d:Nat):Own→Own
 |[]=>[]
 |(l,c)::r=>(l+d,c.sh d)::shO d r
def zb1(E E':Env)(nl:Nat):Env:=⟨fun l=>if l<nl then E.ρ l else E'.ρ (l - nl),fun l=>if l<nl then E.κ l else E'.κ (l - nl)⟩
theorem zau(E E':Env)(nl q:Nat):(zb1 E E' nl).ρ (q+nl)=E'.ρ q:=by
 simp only[zb1]
 rw[if_neg (by omega),Nat.add_sub_cancel]
theorem zdc(E E':Env)(nl q:Nat):(zb1 E E' nl).κ (q+nl)=E'.κ q:=by
 simp only[zb1]
 rw[if_neg (by omega),Nat.add_sub_cancel]
theorem ze6(E E':Env)(nl:Nat):E.agree nl (zb1 E E' nl):=fun l hl=>⟨by simp only[zb1];rw[if_pos hl],by simp only[zb1];rw[if_pos hl]⟩
theorem A.den_sh(E E':Env)(nl:Nat)(x:A):(x.sh nl).den (zb1 E E' nl)=x.den E':=by
 cases x with
 |v x=>rfl
 |ptr l o=>simp only[A.sh,A.den,zau]
 |fn f caps=>
  simp only[A.sh,A.den,List.map_map]
  congr 2
  apply List.map_congr_left
  intro p hp
  simp only[Function.comp,zau]
 |row l=>simp only[A.sh,A.den,zdc]
 |el x k=>rfl
 |rel l k=>simp only[A.sh,A.den,zdc]
theorem A.map_sh(E E':Env)(nl:Nat)(cs:List A):(cs.map (A.sh nl)).map (A.den (zb1 E E' nl))=cs.map (A.den E'):=by
 rw[List.map_map]
 apply List.map_congr_left
 intro x _
 exact A.den_sh E E' nl x
theorem SV.den_sh(E E':Env)(nl:Nat)(s:SV):(s.sh nl).den (zb1 E E' nl)=s.den E':=by
 cases s with
 |a x=>exact A.den_sh E E' nl x
 |agg cs=>simp only[SV.sh,SV.den,A.map_sh]
 |tup cs=>simp only[SV.sh,SV.den,A.map_sh]
theorem A.ok_sh{nl k:Nat}{x:A}(h:x.ok k=true):(x.sh nl).ok (nl+k)=true:=by
 cases x with
 |v x=>rfl
 |ptr l o=>simp only[A.ok,A.sh,z0e]at h⊢;omega
 |fn f caps=>
  simp only[A.ok,A.sh,z5b]at h⊢
  intro p hp
  obtain⟨q,hq,rfl⟩:=List.mem_map.1 hp
  have:=h q hq
  dsimp only
  omega
 |row l=>simp only[A.ok,A.sh,z0e]at h⊢;omega
 |el x k=>rfl
 |rel l k=>simp only[A.ok,A.sh,z0e]at h⊢;omega
theorem zhx{nl k:Nat}{cs:List A}(h:z0z k cs=true):z0z (nl+k) (cs.map (A.sh nl))=true:=by
 rw[z0o]at h⊢
 intro x hx
 obtain⟨y,hy,rfl⟩:=List.mem_map.1 hx
 exact A.ok_sh<|h y hy
theorem SV.ok_sh{nl k:Nat}{s:SV}(h:s.ok k=true):(s.sh nl).ok (nl+k)=true:=by
 cases s with
 |a x=>exact A.ok_sh h
 |agg cs=>exact zhx h
 |tup cs=>exact zhx h
theorem zml(E E':Env)(nl q:Nat)(y:Cel):blk (zb1 E E' nl) (q+nl) (y.sh nl)=blk E' q y:=by
 cases y<;>simp only[Cel.sh,blk,zau,zdc]
theorem z4v{O:Own}{nl l:Nat}{x:Cel}: ∀{O2:Own},lk (shO nl O2++O) l=some x→(∃q y,l=q+nl∧lk O2 q=some y∧x=y.sh nl)∨lk O l=some x
 |[],h=> .inr h
 |(k,c)::r,h=>by
  simp only[shO,List.cons_append]at h
  rw[z1l]at h
  split at h
  ·
   rename_i e
   cases h
   exact .inl ⟨k,c,e.symm,z0f _ _ _,rfl⟩
  ·
   rename_i e
   rcases z4v h with⟨q,y,h1,h2,h3⟩|h1
   · exact .inl ⟨q,y,h1,by rw[z22 _ _ (fun e'=>e (by rw[h1,e']))];exact h2,h3⟩
   · exact .inr h1
section
variable{P:Program}{n:Nat}{F:z05}{C:List Nat}{O O2:Own}{nl k2:Nat}{V:Vw}{E E':Env}{w w':World}{o:Oper}
theorem Mem.join(hm:Mem E O nl V w)(h2:Mem E' O2 k2 (vw w) w')(hsz:w.heap.size≤w'.heap.size):Mem (zb1 E E' nl) (shO nl O2++O) (nl+k2) V w':=by
 have ag:=ze6 E E' nl
 have new: ∀q y k,lk O2 q=some y→blk E' q y=some k→w.heap.size≤k:=fun q y k hl hk=>Array.getElem?_eq_none_iff.1 (h2.off _ _ k hl hk)
 have keep: ∀k,k<w.heap.size→w'.heap[k]? =w.heap[k]? :=fun k hk=>by
  have:w.heap[k]? =some w.heap[k]:=by simp[hk]
  rw[this]
  exact h2.get k _ this
 refine⟨?_, ?_, ?_,fun k o hk=>h2.get _ _ (hm.get _ _ hk), ?_,h2.os.trans hm.os,h2.tape.trans hm.tape,h2.output.trans hm.output, ?_, ?_, ?_, ?_, ?_⟩
 ·
  intro l cs e h
  rcases z4v h with⟨q,y,rfl,hy,hx⟩|hx
  ·
   cases y<;>simp only[Cel.sh]at hx<;>cases hx
   rename_i cs0
   rw[zau,A.map_sh]
   exact h2.lit _ _ _ hy
  ·
   have hlt:=hm.lt (k:=E.ρ l) hx rfl
   rw[(ag l (hm.lab _ _ hx)).1,keep _ hlt,hm.lit _ _ _ hx,A.map_agree ag (hm.labs _ _ _ hx)]
 ·
  intro l e sz n xs h
  rcases z4v h with⟨q,y,rfl,hy,hx⟩|hx
  ·
   cases y<;>simp only[Cel.sh]at hx<;>cases hx
   rw[zdc]
   exact h2.row _ _ _ _ _ hy
  ·
   rw[(ag l (hm.lab _ _ hx)).2]
   exact z1n (hm.row _ _ _ _ _ hx) fun k hk=>keep k (hm.lt hx (by simpa[blk]using hk))
 ·
  intro l l' x x' k h h' hk hk'
  rcases z4v h with⟨q,y,rfl,hy,rfl⟩|hx
  ·
   rw[zml]at hk
   rcases z4v h' with⟨q',y',rfl,hy',rfl⟩|hx'
   ·
    rw[zml]at hk'
    rw[h2.sep q q' y y' k hy hy' hk hk']
   ·
    rw[z1p ag (hm.lab _ _ hx')]at hk'
    have a:=hm.lt hx' hk'
    have b:=new _ _ k hy hk
    omega
  ·
   rw[z1p ag (hm.lab _ _ hx)]at hk
   rcases z4v h' with⟨q',y',rfl,hy',rfl⟩|hx'
   ·
    rw[zml]at hk'
    have a:=hm.lt hx hk
    have b:=new _ _ k hy' hk'
    omega
   ·
    rw[z1p ag (hm.lab _ _ hx')]at hk'
    exact hm.sep _ _ _ _ k hx hx' hk hk'
 ·
  intro l x k h hk
  rcases z4v h with⟨q,y,rfl,hy,rfl⟩|hx
  ·
   rw[zml]at hk
   have b:=new _ _ k hy hk
   cases hv:V.get k with
   |none=>rfl
   |some ob=>
    have:=(Array.getElem?_eq_some_iff.1 (hm.get _ _ hv)).1
    omega
  ·
   rw[z1p ag (hm.lab _ _ hx)]at hk
   exact hm.off _ _ k hx hk
 ·
  intro l x h
  rcases z4v h with⟨q,y,rfl,hy,rfl⟩|hx
  · have:=h2.lab _ _ hy;omega
  · have:=hm.lab _ _ hx;omega
 ·
  intro l cs e h
  rcases z4v h with⟨q,y,rfl,hy,hx⟩|hx
  ·
   cases y<;>simp only[Cel.sh]at hx<;>cases hx
   exact zhx<|h2.labs _ _ _ hy
  · exact z15 (by omega) (hm.labs _ _ _ hx)
 ·
  intro l m b h
  rcases z4v h with⟨q,y,rfl,hy,hx⟩|hx
  ·
   cases y<;>simp only[Cel.sh]at hx<;>cases hx
   obtain⟨h1,h3⟩:=h2.pin _ _ _ hy
   exact⟨by rw[zau];exact h1,by omega⟩
  ·
   obtain⟨h1,h3⟩:=hm.pin _ _ _ hx
   exact⟨(ag m h3).1.trans h1,by omega⟩
 ·
  intro l k h
  rcases z4v h with⟨q,y,rfl,hy,hx⟩|hx
  ·
   cases y<;>simp only[Cel.sh]at hx<;>cases hx
   exact h2.big _ _ hy
  · exact Nat.le_trans (hm.big _ _ hx) hsz
 ·
  intro l m b v h
  rcases z4v h with⟨q,y,rfl,hy,hx⟩|hx
  ·
   cases y<;>simp only[Cel.sh]at hx<;>cases hx
   obtain⟨h1,h3,h4⟩:=h2.kp _ _ _ _ hy
   exact⟨by rw[zau];exact h1,by rw[zdc];exact h3,by omega⟩
  ·
   obtain⟨h1,h3,h4⟩:=hm.kp _ _ _ _ hx
   exact⟨(ag m h4).1.trans h1,(ag m h4).2.trans h3,by omega⟩
def zq1(w:World){σ:Type}(Φ:σ→Prop)(s:σ→SV)(O2:σ→Own)(k2:Nat)(ex:Ending)(w':World):Prop:=
 ∃x E',ex= .returned ((s x).den E')∧Φ x∧(s x).ok k2=true∧w.heap.size≤w'.heap.size∧Mem E' (O2 x) k2 (vw w) w'
theorem z3x{p:List (Nat×Bool)}{f:Nat}{ss:List SV}{σ:Type}(Φ:σ→Prop)(s:σ→SV)(O2:σ→Own)(k2:Nat)(hv:z4i F p o.op=some (f,ss))(hok:z0j P f)
  (hspec: ∀E w,Mem E O nl V w→Calls P f (ss.map (SV.den E)).toArray w (zq1 w Φ s O2 k2)):
  StepTo P o p n F C O nl V Φ (fun x=>(s x).sh nl) (fun x=>shO nl (O2 x)++O) (nl+k2) (fun _=>V):=by
 constructor
 intro E a' w hf hgv hm K Q hK
 obtain⟨hr,_⟩:=z1b hf hgv hv hok w
 unfold Oper.wp
 rw[hr,Oper.upon_enter]
 refine(hspec E w hm).mono ?_
 rintro ex w' ⟨x,E',rfl,hΦ,hsok,hsz,hm'⟩
 have:=hK x (zb1 E E' nl) w' hΦ (ze6 E E' nl) (hm.join hm' hsz) (SV.ok_sh hsok)
 rw[SV.den_sh]at this
 exact this
end
end Go.Eng
