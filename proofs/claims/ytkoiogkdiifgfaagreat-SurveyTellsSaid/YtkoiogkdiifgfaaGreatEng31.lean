import Derived.Test.YtkoiogkdiifgfaaGreatEng27
import Derived.Lib.AppendZerosOnto
import Derived.Lib.Overlaps
/-
 Rows of one's own, element by element: plain zwc.
-/
set_option linter.unusedSimpArgs false
set_option linter.unusedVariables false
namespace Go.Eng
open Go Go.RowKit
theorem z6d{α:Type}{enc:α→List Value}{sz:Nat}(hl: ∀x,(enc x).length=sz): ∀(l:List α) (k:Nat) (x:α),k<l.length→z25 (k*sz) (enc x) (l.flatMap enc)=(l.set k x).flatMap enc
 |[],k,x,h=>by simp at h
 |y::r,0,x,h=>by
  simp only[z25,Nat.zero_mul,List.take_zero,List.nil_append,Nat.zero_add,hl,List.set_cons_zero,List.flatMap_cons]
  rw[List.drop_append_of_le_length (by rw[hl];exact Nat.le_refl _),List.drop_of_length_le (by rw[hl];exact Nat.le_refl _),List.nil_append]
 |y::r,k+1,x,h=>by
  have ih:=z6d hl r k x (by simpa using h)
  simp only[z25,hl]at ih⊢
  simp only[List.set_cons_succ,List.flatMap_cons,←ih]
  rw[Nat.add_mul,Nat.one_mul,Nat.add_comm (k*sz) sz,List.take_append,List.drop_append,hl,List.take_of_length_le (by rw[hl];omega),List.drop_of_length_le (by rw[hl];omega)]
  rw[show sz+k*sz - sz=k*sz by omega,show sz+k*sz+sz - sz=k*sz+sz by omega]
  simp[List.append_assoc,Nat.add_comm]
theorem za9{α:Type}{enc:α→List Value}(x:α): ∀n,z6z n (enc x)=(List.replicate n x).flatMap enc
 |0=>rfl
 |n+1=>by rw[z6z,List.replicate_succ,List.flatMap_cons,za9 x n]
section
variable{n:Nat}{F:z05}{C:List Nat}{O:Own}{nl:Nat}{V:Vw}{K:Act→World→Prop}
theorem jb9(l:Nat)(hl:Nat.blt l nl=true)(h: ∀b,KJ K n F C ((nl, .pin l b)::O) (nl+1) V):KJ K n F C O nl V:=by
 constructor
 intro E a w hd hf hm
 exact(h (E.ρ l)).out E a w hd (hf.env (fun _ _=>⟨rfl,rfl⟩) (Nat.le_succ nl))<|hm.addPin l (E.ρ l) rfl (by simpa using hl)
theorem j0g(t p l b off:Nat)(ht:opv F [] (.tmp t)=some (.a (.v (.pointer (some ⟨b,off,none⟩)))))(hp:lk O p=some (.pin l b))(hc:(Nat.blt t n&& !(z2w t C))=true)
  (h:KJ K n ((t,⟨[],true, .a (.ptr l off)⟩)::F) C O nl V):KJ K n F C O nl V:=by
 constructor
 intro E a w hd hf hm
 simp only[Bool.and_eq_true,z0e,Bool.not_eq_true']at hc
 obtain⟨h1,h2⟩:=hm.pin _ _ _ hp
 refine h.out E a w hd ?_ hm
 obtain⟨h3,_⟩:=z03 hf (p:=[]) rfl ht
 have hlt:t<a.tmps.size:=by rw[hf.size];exact hc.1
 have hp:=hf.put (d:=t) (p:=[]) (g:=true) (s:= .a (.ptr l off)) hc.1 hc.2 rfl (fun q hq=>by cases hq) (fun _=>by simp[SV.ok,A.ok,z0e,h2])
 simp only[if_true]at hp
 have hv:(SV.a (A.ptr l off)).den E=a.tmps.getD t undef:=by
  have:a.eval (.tmp t)=a.tmps.getD t undef:=rfl
  rw[←this,h3,SV.den,A.den,SV.den,A.den,h1]
 have hsame:(a.put (some t) ((SV.a (A.ptr l off)).den E)).tmps=a.tmps:=by
  have hv2:a.tmps[t]? =some (a.tmps.getD t undef):=by simp[hlt]
  rw[hv]
  simp only[Act.put]
  apply Array.ext_getElem?
  intro i
  rw[Array.getElem?_setIfInBounds]
  by_cases hi:t=i
  · subst hi;rw[if_pos rfl,if_pos hlt,hv2]
  · simp[hi]
 rw[hsame]at hp
 exact hp
end
end Go.Eng

/-
 A slice that is read, cut off at its length, and what is appended to it; a slice compared with nil.
-/
set_option linter.unusedSimpArgs false
set_option linter.unusedVariables false
namespace Go.Eng
open Go Go.RowKit
section
variable{P:Program}{tt:List (Nat×TI)}{ops:Array Oper}{Q:Exit→Act→World→Prop}{o:Oper}{rest:List Oper}
 {n:Nat} {F:z05} {C:List Nat} {O:Own} {nl:Nat} {V:Vw} {K:Act→World→Prop}
def zb9(tt:List (Nat×TI))(F:z05)(p:List (Nat×Bool)):Op→Option (Value×Int×Int×Nat)
 | .slice t x none (some hi) (some mx)=>match opv F p x,opv F p hi,opv F p mx,lk tt t with
  |some (.a (.v v)),some (.a (.v (.int _ h))),some (.a (.v (.int _ m))),some ⟨_,_,_,_, .slice e⟩=>match lk tt e with
   |some ti=>some (v,h,m,ti.size)
   |none=>none
  |_,_,_,_=>none
 |_=>none
theorem j5x(htt:z0s P tt){p:List (Nat×Bool)}{g:Bool}{ad:Option Addr}{len cap:Nat}{hi mx:Int}{sz:Nat}
  (hv:zb9 tt F p o.op=some (.slice ad len cap,hi,mx,sz)) (hb:g=true→0≤hi∧hi≤mx∧mx≤cap):
  Yld P o n F C O nl V p g (.a (.v (.slice ad hi.toNat mx.toNat))):=by
 intro hgt E a w hf hgv hm
 refine⟨?_,rfl⟩
 unfold Yv execOp
 cases hop:o.op with
 |slice t x lo' hi' mx'=>
  cases lo' with
  |some lo'=>simp[hop,zb9]at hv
  |none=>
  cases hi' with
  |none=>simp[hop,zb9]at hv
  |some hi'=>
  cases mx' with
  |none=>simp[hop,zb9]at hv
  |some mx'=>
  simp only[hop,zb9]at hv
  split at hv
  ·
   rename_i v' k1 h k2 m sz' by_ z fl e hx hh hm2 hti
   split at hv
   ·
    rename_i ti hte
    simp only[Option.some.injEq,Prod.mk.injEq]at hv
    obtain⟨rfl,rfl,rfl,rfl⟩:=hv
    obtain⟨h1,_⟩:=z03 hf hgv hx
    obtain⟨h2,_⟩:=z03 hf hgv hh
    obtain⟨h3,_⟩:=z03 hf hgv hm2
    obtain⟨dd,hdd,hk,_⟩:=(htt _ _ hti).und
    have hdb:dd= .slice e:=by cases dd<;>simp[z19]at hk;rw[hk]
    subst hdb
    obtain⟨b0,b1,b2⟩:=hb hgt
    have e1:a.eval x= .slice ad len cap:=h1
    have e2:a.eval hi'= .int k1 h:=h2
    have e3:a.eval mx'= .int k2 m:=h3
    have q1:(h.toNat:Int)=h:=Int.toNat_of_nonneg b0
    have q2:(m.toNat:Int)=m:=Int.toNat_of_nonneg (by omega)
    have hrun:(Instr.slice t (.slice ad len cap) none (some (.int k1 h)) (some (.int k2 m))).run P w= .ok (.slice ad h.toNat m.toNat) w:=by
     simp only[Instr.slice,Instr.sliceBounds,Sem.run_bind,run_underlying hdd,Result.andThen_ok,Sem.run_pure,(htt _ _ hte).sizeOf]
     simp[run_sliceBound,(by omega:0≤m),(by omega:m≤(cap:Int)),b0,q2,b1,Addr.add,(htt _ _ hte).sizeOf]
    simp only[Option.map_some,Option.map_none,e1,e2,e3,Instr.sliceAt,Sem.run_bind,run_underlying hdd,Result.andThen_ok,hrun,Sem.run_pure,SV.den,A.den]
   · simp at hv
  · simp at hv
 |_=>simp[hop,zb9]at hv
def z9j(tt:List (Nat×TI))(F:z05)(p:List (Nat×Bool)):Op→Option (Value×SV×Nat×Nat×Nat)
 | .call ⟨.builtin .append,args,ts⟩=>match args.toList,ts.toList with
  |[s,x],[t,t2]=>match opv F p s,opv F p x,lk tt t,lk tt t2 with
   |some (.a (.v v)),some xs,some ⟨_,_,_,_, .slice e⟩,some t2i=>match lk tt e with
    |some ti=>bif z5a t2i.kind&&Nat.blt 0 ti.bytes&&Nat.beq ti.zero.length ti.size then some (v,xs,e,ti.size,ti.bytes)else none
    |_=>none
   |_,_,_,_=>none
  |_,_=>none
 |_=>none
theorem j6a(htt:z0s P tt){p:List (Nat×Bool)}{e sz by_ m k:Nat}{ad:Option Addr}{x:SV}{olds:List Value}(news:List Value)(hv:z9j tt F p o.op=some (.slice ad m m,x,e,sz,by_))
  (hold:z7i V (.slice ad m m) sz m olds) (hsrc: ∀E w,Mem E O nl V w→Src P sz (x.den E) k news w) (hk:0<k) (hb:(m+k)*by_≤140737488355328):
  StepTo P o p n F C O nl V (σ:=Unit) (fun _=>True) (fun _=> .a (.row nl)) (fun _=>(nl, .row e sz (m+k) (olds++news))::O) (nl+1) (fun _=>V):=by
 constructor
 intro E a w hf hgv hm K Q hK
 unfold Oper.wp execOp
 cases hop:o.op with
 |call c=>
  obtain⟨callee,args,ts⟩:=c
  simp only[hop]at hv
  cases callee with
  |builtin b=>
   cases b with
   |append=>
    simp only[z9j]at hv
    split at hv
    ·
     rename_i s y t t2 hargs hts
     have ha:args= #[s,y]:=by simpa using congrArg List.toArray hargs
     have ht:ts= #[t,t2]:=by simpa using congrArg List.toArray hts
     subst ha ht
     split at hv
     ·
      rename_i v' x' sz' by' z' fl' e' t2i hs hy hti ht2
      split at hv
      ·
       rename_i ti hte
       cases hcd:(z5a t2i.kind&&Nat.blt 0 ti.bytes&&Nat.beq ti.zero.length ti.size)with
       |false=>simp[hcd]at hv
       |true=>
        simp only[hcd,cond_true,Option.some.injEq,Prod.mk.injEq]at hv
        obtain⟨rfl,rfl,rfl,rfl,rfl⟩:=hv
        simp only[Bool.and_eq_true,Nat.beq_eq,z0e]at hcd
        obtain⟨⟨hk2,hbp⟩,hzl⟩:=hcd
        obtain⟨h2,_⟩:=z03 hf hgv hs
        obtain⟨h3,_⟩:=z03 hf hgv hy
        obtain⟨dd,hdd,hkd,_⟩:=(htt _ _ hti).und
        have hdb:dd= .slice e':=by cases dd<;>simp[z19]at hkd;rw[hkd]
        subst hdb
        obtain⟨d2,hd2,hk2',_⟩:=(htt _ _ ht2).und
        have hd2':d2= .string∨ ∃e,d2= .slice e:=by
         cases d2<;>simp[z19]at hk2'<;>(first|exact .inl rfl|exact .inr ⟨_,rfl⟩|(rw[←hk2']at hk2;simp[z5a]at hk2))
        obtain⟨fi,hfi,hfs,hfb,z,hz,hzc⟩:=(htt _ _ hte).info
        have hmx:m+k≤maxLen:=by
         have:m+k≤(m+k)*ti.bytes:=Nat.le_mul_of_pos_right _ hbp
         simp only[maxLen];omega
        have hzs:z.cells.size=fi.size:=by rw[hfs,←hzl,←hzc];simp
        have hsrc':=hsrc E w hm
        have hold':=hold.src (P:=P) hm.get
        rw[←hfs]at hsrc' hold'
        have h63':((m+k:Nat):Int)≤9223372036854775807:=by simp only[maxLen]at hmx;omega
        have hgr:=zbn (P:=P) (w:=w) (ty:=o.type) hdd hd2 hd2' hfi hz hold' hsrc' (by omega) h63' (growslice_fits (by omega) (by rw[hfb];exact hb))
        have hlen:(olds++news).length=(m+k)*fi.size:=by rw[List.length_append,hold'.size,hsrc'.size,Nat.add_mul]
        have hge:=grownCap_ge w (m+k) m e'
        have e2:a.eval s= .slice ad m m:=h2
        simp only[resolve,invoke,builtin,Sem.run_bind,Sem.run_pure,Result.andThen_ok,List.map_toArray,List.map_cons,List.map_nil,e2,h3,hgr]
        have hown:(w.drew.alloc (.cells (olds.toArray++news.toArray++Builtin.zeroCells z.cells (grownCap w (m+k) m e' - (m+k))) e')).ownsRow w.heap.size e' fi.size (.slice (some ⟨w.heap.size,0,none⟩) (m+k) (grownCap w (m+k) m e')) (m+k) (olds++news):=by
         refine⟨hlen, .inr ⟨w.heap.size,_,_,rfl,Nat.le_refl _,heap_alloc_new w.drew _,hge,grownCap_le_maxLen w (m+k) m e' hmx, ?_, ?_⟩⟩
         ·
          simp only[Array.size_append,List.size_toArray,z2n,hzs,hold'.size,hsrc'.size,←Nat.add_mul]
          congr 1
          omega
         ·
          simp only[Array.toList_append]
          rw[←hlen]
          exact List.take_left
        have hbel:Below w.heap.size w (w.drew.alloc (.cells (olds.toArray++news.toArray++Builtin.zeroCells z.cells (grownCap w (m+k) m e' - (m+k))) e')):=
         ⟨rfl,rfl,rfl,by simp,fun k hk=>heap_alloc_old w.drew _ hk⟩
        rw[hfs]at hown
        have hm':=hm.newRow hbel hown
        have:=hK () (E.setκ nl _) _ trivial (Env.agree_setκ E _) hm' (by simp[SV.ok,A.ok,z0e])
        show K (a.put o.dst _) _
        simpa[SV.den,A.den,Env.setκ]using this
      · simp at hv
     · simp at hv
    · simp at hv
   |_=>simp[z9j]at hv
  |_=>simp[z9j]at hv
 |_=>simp[hop,z9j]at hv
theorem zy4{id:Nat}{l:List Oper}{σ:Type}{O0:Own}(sp:List Nat)(Fx:σ→List (Nat×SV))(Ox:σ→Own)(nl':Nat)(Vx:σ→Vw)(I:σ→Prop)(hmix:P.follows .mixedOrders=true)
  (ho:z8l O [] []=some O0) (hO:z3b O O0) (hok:z0u nl O0=true)
  (h:TJ P l.toArray (z5w fun a w=> ∃x',AtX n Fx Ox nl' Vx x' a w∧I x') sp O0 l.length (List.replicate l.length false) n F C O nl V)
  (hy: ∀x',I x'→KJ (Q .normal) n (mkF (Fx x')) [] (Ox x') nl' (Vx x')):KJ ((Code.region id l.toArray true).wp P Q) n F C O nl V:=by
 constructor
 intro E a w hd hf hm
 have hm1:Mem E O nl V {w with drawn:=w.drawn+1}:=hm.drawn _
 have h0:=h.out E a _ hd hf hm1 (hm1.weak hO hok (Vw.le.refl _))
 have h1:(Code.region id l.toArray true).wp P (NoPanic (z5w fun a w=> ∃x',AtX n Fx Ox nl' Vx x' a w∧I x')) a w:=
  wp_region_any hmix (z5c (sp:=sp) (M:=fun w=>Mem E O0 nl V w) _ _ _ _ (by simpa using h0))
 refine wp_mono h1 ?_
 intro e a' w' hq
 cases e with
 |normal=>
  obtain⟨x',⟨E',hd',hf',hm'⟩,hI⟩:=hq
  exact(hy x' hI).out E' a' w' hd' hf' hm'
 |_=>exact hq.elim
end
end Go.Eng

/-
 Builtins on slices whose blocks are one's own and known by number: copies, appends; a library function without a body.
-/
set_option linter.unusedSimpArgs false
set_option linter.unusedVariables false
namespace Go.Eng
open Go Go.RowKit
section
variable{P:Program}{tt:List (Nat×TI)}{ops:Array Oper}{Q:Exit→Act→World→Prop}{o:Oper}{rest:List Oper}
 {n:Nat} {F:z05} {C:List Nat} {O:Own} {nl:Nat} {V:Vw} {K:Act→World→Prop}
theorem z26(nl:Nat)(l:List Value):z0z nl (l.map A.v)=true:=(z13 E0 l).2 nl
def jaz(F:z05)(p:List (Nat×Bool)):Op→Option (Nat×Nat×SV×SV)
 | .call ⟨.builtin .copy,args,ts⟩=>match args.toList,ts.toList with
  |[x,y],[t,t2]=>match opv F p x,opv F p y with
   |some s,some s2=>some (t,t2,s,s2)
   |_,_=>none
  |_,_=>none
 |_=>none
def z8v(F:z05)(p:List (Nat×Bool)):Op→Option (Nat×Nat×SV×SV)
 | .call ⟨.builtin .append,args,ts⟩=>match args.toList,ts.toList with
  |[x,y],[t,t2]=>match opv F p x,opv F p y with
   |some s,some s2=>some (t,t2,s,s2)
   |_,_=>none
  |_,_=>none
 |_=>none
theorem j4x{p:List (Nat×Bool)}{t t2:Nat}{s1 s2:SV}{σ:Type}{Φ:σ→Prop}{s:σ→SV}{O':σ→Own}{nl':Nat}{V':σ→Vw}(hv:z8v F p o.op=some (t,t2,s1,s2))
  (hrun: ∀E w,Mem E O nl V w→ ∃x E' w',(Builtin.append_ #[t,t2] o.type #[s1.den E,s2.den E]).run P w= .ok ((s x).den E') w'∧Φ x∧E.agree nl E'∧Mem E' (O' x) nl' (V' x) w'∧(s x).ok nl'=true):
  StepTo P o p n F C O nl V Φ s O' nl' V':=by
 constructor
 intro E a w hf hgv hm K Q hK
 unfold Oper.wp execOp
 cases hop:o.op with
 |call c=>
  obtain⟨callee,args,ts⟩:=c
  simp only[hop]at hv
  cases callee with
  |builtin b=>
   cases b with
   |append=>
    simp only[z8v]at hv
    split at hv
    ·
     rename_i x y t' t2' hargs hts
     have ha:args= #[x,y]:=by simpa using congrArg List.toArray hargs
     have ht:ts= #[t',t2']:=by simpa using congrArg List.toArray hts
     subst ha ht
     split at hv
     ·
      rename_i u1 u2 hx hy
      simp only[Option.some.injEq,Prod.mk.injEq]at hv
      obtain⟨rfl,rfl,rfl,rfl⟩:=hv
      obtain⟨h1,_⟩:=z03 hf hgv hx
      obtain⟨h2,_⟩:=z03 hf hgv hy
      obtain⟨z,E',w',hr,hΦ,hag,hm',hok⟩:=hrun E w hm
      simp only[resolve,invoke,builtin,Sem.run_bind,Sem.run_pure,Result.andThen_ok,List.map_toArray,List.map_cons,List.map_nil,h1,h2,hr]
      exact hK z E' w' hΦ hag hm' hok
     · simp at hv
    · simp at hv
   |_=>simp[z8v]at hv
  |_=>simp[z8v]at hv
 |_=>simp[hop,z8v]at hv
def zb6(tt:List (Nat×TI))(t:Nat):Option (Nat×TI):=
 match lk tt t with
 |some ⟨_,_,_,_, .slice e⟩=>(lk tt e).map fun ti=>(e,ti)
 |_=>none
theorem z53(htt:z0s P tt){t e:Nat}{ti:TI}(h:zb6 tt t=some (e,ti)):P.underlying t=some (.slice e)∧TIok P e ti:=by
 simp only[zb6]at h
 split at h
 ·
  rename_i z by' zz fl' e' hti
  simp only[Option.map_eq_some_iff,Prod.mk.injEq]at h
  obtain⟨ti',h1,rfl,rfl⟩:=h
  obtain⟨dd,hdd,hkd,_⟩:=(htt _ _ hti).und
  have hdb:dd= .slice e':=by cases dd<;>simp[z19]at hkd;rw[hkd]
  subst hdb
  exact⟨hdd,htt _ _ h1⟩
 · simp at h
theorem j8s(htt:z0s P tt){p:List (Nat×Bool)}{g:Bool}{ad:Option Addr}{m cap:Nat}{lo hi:Option Int}{sz:Nat}(v':Value)
  (hv:z77 tt F p o.op=some (.slice ad m cap,lo,hi,sz)) (hb:g=true→0≤lo.getD 0∧lo.getD 0≤hi.getD m∧hi.getD m≤cap) (he:g=true→z0n (.slice ad m cap) (lo.getD 0).toNat (hi.getD m).toNat sz=v'):
  Yld P o n F C O nl V p g (.a (.v v')):=by
 intro hgt E a w hf hgv hm
 refine⟨?_,rfl⟩
 rw[←he hgt]
 unfold Yv execOp
 cases hop:o.op with
 |slice t x lo' hi' mx=>
  cases mx with
  |some mx=>simp[hop,z77]at hv
  |none=>
  simp only[hop,z77]at hv
  split at hv
  ·
   rename_i v' l h sz' by_ z fl e hx hl hh hti
   split at hv
   ·
    rename_i ti hte
    simp only[Option.some.injEq,Prod.mk.injEq]at hv
    obtain⟨rfl,rfl,rfl,rfl⟩:=hv
    obtain⟨h1,_⟩:=z03 hf hgv hx
    obtain⟨dd,hdd,hk,_⟩:=(htt _ _ hti).und
    have hdb:dd= .slice e:=by cases dd<;>simp[z19]at hk;rw[hk]
    subst hdb
    obtain⟨b0,b1,b2⟩:=hb hgt
    have hrun:(Instr.slice t (.slice ad m cap) (lo'.map a.eval) (hi'.map a.eval) none).run P w= .ok (z0n (.slice ad m cap) (l.getD 0).toNat (h.getD m).toNat ti.size) w:=by
     rcases z3p hf hgv hl with⟨rfl,el⟩|⟨kl,il,rfl,el⟩<;>rcases z3p hf hgv hh with⟨rfl,eh⟩|⟨kh,ih,rfl,eh⟩<;>rw[el,eh]<;>simp only[Option.getD_some,Option.getD_none]at b0 b1 b2⊢
     · simp[Instr.slice,run_underlying hdd,Instr.sliceBounds,(htt _ _ hte).sizeOf,z0n]
     ·
      have e2:(ih.toNat:Int)=ih:=Int.toNat_of_nonneg (by omega)
      simp[Instr.slice,run_underlying hdd,Instr.sliceBounds,(htt _ _ hte).sizeOf,z0n,run_sliceBound,(by omega:0≤ih),(by omega:ih≤cap)]
     ·
      have e2:(il.toNat:Int)=il:=Int.toNat_of_nonneg (by omega)
      simp[Instr.slice,run_underlying hdd,Instr.sliceBounds,(htt _ _ hte).sizeOf,z0n,run_sliceBound,b0,b1]
     ·
      have e2:(ih.toNat:Int)=ih:=Int.toNat_of_nonneg (by omega)
      simp[Instr.slice,run_underlying hdd,Instr.sliceBounds,(htt _ _ hte).sizeOf,z0n,run_sliceBound,b0,b1,(by omega:0≤ih),(by omega:ih≤cap),e2]
    have e1:a.eval x= .slice ad m cap:=h1
    simp only[Option.map_none,e1,Instr.sliceAt,Sem.run_bind,run_underlying hdd,Result.andThen_ok,hrun,Sem.run_pure,SV.den,A.den]
   · simp at hv
  · simp at hv
 |_=>simp[hop,z77]at hv
def zds(tt:List (Nat×TI))(F:z05)(p:List (Nat×Bool)):Op→Option Nat
 | .call ⟨.builtin .cap,args,ts⟩=>match args.toList,ts.toList with
  |[x],[t]=>match opv F p x,lk tt t with
   |some (.a (.v (.slice _ _ c))),some ⟨_,_,_,_, .slice _⟩=>some c
   |_,_=>none
  |_,_=>none
 |_=>none
theorem j5i(htt:z0s P tt){p:List (Nat×Bool)}{g:Bool}{c:Nat}(hv:zds tt F p o.op=some c):Yld P o n F C O nl V p g (.a (.v (.int .i64 c))):=by
 intro hgt E a w hf hgv hm
 refine⟨?_,rfl⟩
 unfold Yv execOp
 cases hop:o.op with
 |call cl=>
  obtain⟨callee,args,ts⟩:=cl
  simp only[hop]at hv
  cases callee with
  |builtin b=>
   cases b with
   |cap=>
    simp only[zds]at hv
    split at hv
    ·
     rename_i x t hargs hts
     have ha:args= #[x]:=by simpa using congrArg List.toArray hargs
     have ht:ts= #[t]:=by simpa using congrArg List.toArray hts
     subst ha ht
     split at hv
     ·
      rename_i a1 n1 c1 sz by' z fl e hx hti
      simp only[Option.some.injEq]at hv
      subst hv
      obtain⟨h1,_⟩:=z03 hf hgv hx
      obtain⟨dd,hdd,hk,_⟩:=(htt _ _ hti).und
      have hdb:dd= .slice e:=by cases dd<;>simp[z19]at hk;rw[hk]
      subst hdb
      have e1:a.eval x= .slice a1 n1 c1:=h1
      simp[resolve,invoke,builtin,Builtin.cap_,e1,run_underlying hdd,SV.den,A.den,goInt]
     · simp at hv
    · simp at hv
   |_=>simp[zds]at hv
  |_=>simp[zds]at hv
 |_=>simp[hop,zds]at hv
def z9z(tt:List (Nat×TI))(F:z05)(p:List (Nat×Bool)):Op→Option Nat
 | .call ⟨.builtin .len,args,ts⟩=>match args.toList,ts.toList with
  |[x],[t]=>match opv F p x,lk tt t with
   |some (.a (.v (.slice _ c _))),some ⟨_,_,_,_, .slice _⟩=>some c
   |_,_=>none
  |_,_=>none
 |_=>none
theorem z8n(htt:z0s P tt){p:List (Nat×Bool)}{g:Bool}{c:Nat}(hv:z9z tt F p o.op=some c):Yld P o n F C O nl V p g (.a (.v (.int .i64 c))):=by
 intro hgt E a w hf hgv hm
 refine⟨?_,rfl⟩
 unfold Yv execOp
 cases hop:o.op with
 |call cl=>
  obtain⟨callee,args,ts⟩:=cl
  simp only[hop]at hv
  cases callee with
  |builtin b=>
   cases b with
   |len=>
    simp only[z9z]at hv
    split at hv
    ·
     rename_i x t hargs hts
     have ha:args= #[x]:=by simpa using congrArg List.toArray hargs
     have ht:ts= #[t]:=by simpa using congrArg List.toArray hts
     subst ha ht
     split at hv
     ·
      rename_i a1 c1 n1 sz by' z fl e hx hti
      simp only[Option.some.injEq]at hv
      subst hv
      obtain⟨h1,_⟩:=z03 hf hgv hx
      obtain⟨dd,hdd,hk,_⟩:=(htt _ _ hti).und
      have hdb:dd= .slice e:=by cases dd<;>simp[z19]at hk;rw[hk]
      subst hdb
      have e1:a.eval x= .slice a1 c1 n1:=h1
      simp[resolve,invoke,builtin,Builtin.len_,Builtin.lenOf,e1,run_underlying hdd,SV.den,A.den,goInt]
     · simp at hv
    · simp at hv
   |_=>simp[z9z]at hv
  |_=>simp[z9z]at hv
 |_=>simp[hop,z9z]at hv
end
end Go.Eng

/-
 Maps from numbers to truth, seen as memory that is told anew at each write: a set of numbers.
-/
set_option linter.unusedSimpArgs false
set_option linter.unusedVariables false
namespace Go.Eng
open Go Go.RowKit
theorem Vw.put_le{V V':Vw}{b:Nat}{ob:Obj}(h:V.le V')(hb:V.get b=none):V.le (V'.put b ob):=
 ⟨fun k o hk=>by
  show(if _ then _ else _)=_
  rw[if_neg (fun e=>by rw[e,hb]at hk;cases hk)]
  exact h.get k o hk,h.os,h.tape,h.output⟩
theorem Vw.put_mono{V W:Vw}{b:Nat}{o1 o2:Obj}(h:(V.put b o1).le W):(V.put b o2).le (W.put b o2):=
 ⟨fun k o hk=>by
  simp only[Vw.put]at hk
  show(if _ then _ else _)=_
  by_cases hkb:k=b
  · rw[if_pos hkb]at hk⊢;exact hk
  ·
   rw[if_neg hkb]at hk⊢
   exact h.get k o (by show(if _ then _ else _)=_;rw[if_neg hkb];exact hk),h.os,h.tape,h.output⟩
theorem Vw.put_get(V:Vw)(b:Nat)(ob:Obj):(V.put b ob).get b=some ob:=by show(if _ then _ else _)=_;rw[if_pos rfl]
def z6g:List Int→Nat→List MapEntry
 |[],_=>[]
 |k::r,n=>⟨.int .i64 k, .bool true,n⟩::z6g r (n+1)
def z5n(ks:List Int):Obj:= .map (z6g ks 0).toArray ks.length
theorem zfp(k:Int): ∀(ks:List Int) (n:Nat),z6g (ks++[k]) n=z6g ks n++[⟨.int .i64 k, .bool true,n+ks.length⟩]
 |[],n=>by simp[z6g]
 |a::r,n=>by
  rw[List.cons_append,z6g,zfp k r (n+1),z6g,List.cons_append,List.length_cons,show n+1+r.length=n+(r.length+1) by omega]
theorem z8u(kd:IntKind)(k:Int): ∀(ks:List Int) (n i:Nat),(k∈ks→ ∃j,Instr.findNow (.int kd) (.int .i64 k) (z6g ks n) i=some (some (j, .bool true)))∧(¬k∈ks→Instr.findNow (.int kd) (.int .i64 k) (z6g ks n) i=some none)
 |[],n,i=>⟨fun h=>(by simp at h),fun _=>rfl⟩
 |a::r,n,i=>by
  have ih:=z8u kd k r (n+1) (i+1)
  by_cases h:k=a
  ·
   subst h
   refine⟨fun _=>⟨i, ?_⟩,fun hn=>absurd (by simp) hn⟩
   simp[z6g,Instr.findNow,Instr.sameNow]
  ·
   have hs:Instr.findNow (.int kd) (.int .i64 k) (z6g (a::r) n) i=Instr.findNow (.int kd) (.int .i64 k) (z6g r (n+1)) (i+1):=by
    rw[z6g]
    have hb:(k==a)=false:=by simp[h]
    simp[Instr.findNow,Instr.sameNow,hb]
   rw[hs]
   exact⟨fun hm=>ih.1 (by simpa[h]using hm),fun hm=>ih.2 (by simpa[h]using hm)⟩
section
variable{P:Program}{tt:List (Nat×TI)}{ops:Array Oper}{Q:Exit→Act→World→Prop}{o:Oper}{rest:List Oper}
 {n:Nat} {F:z05} {C:List Nat} {O:Own} {nl:Nat} {V:Vw} {K:Act→World→Prop}
theorem zet{w:World}{t kt et b:Nat}{kd:IntKind}{k:Int}{ks:List Int}(ht:P.underlying t=some (.map kt et))(hk:P.underlying kt=some (.int kd))(hz:(zeroValue et).run P w= .ok (.bool false) w)
  (hb:w.heap[b]? =some (z5n ks)):(Instr.lookup t (.map (some b)) (.int .i64 k) false).run P w= .ok (.bool (decide (k∈ks))) w:=by
 have hg:(getObj b).run P w= .ok (z5n ks) w:=by simp[getObj,Sem.run,hb,z5n]
 have hf:=z8u kd k ks 0 0
 have hc: ∀e,(Instr.checkKey e 10000 kt (.int .i64 k)).run P w= .ok () w:=fun e=>by rw[show(10000:Nat)=9999+1 from rfl,Instr.checkKey];simp[run_underlying hk]
 by_cases hm:k∈ks
 ·
  obtain⟨j,hj⟩:=hf.1 hm
  have h1:(Instr.findKey kt (.int .i64 k) (z6g ks 0)).run P w= .ok (some (j, .bool true)) w:=by simp[Instr.findKey,run_underlying hk,hj]
  simp[Instr.lookup,run_underlying ht,hg,z5n,hc,h1,hm]
 ·
  have h1:(Instr.findKey kt (.int .i64 k) (z6g ks 0)).run P w= .ok none w:=by simp[Instr.findKey,run_underlying hk,hf.2 hm]
  simp[Instr.lookup,run_underlying ht,hg,z5n,hc,h1,hm,hz]
def zns(F:z05)(p:List (Nat×Bool)):Op→Option (Nat×Nat×Int)
 | .lookup t x y false=>match opv F p x,opv F p y with
  |some (.a (.v (.map (some b)))),some (.a (.v (.int .i64 k)))=>some (t,b,k)
  |_,_=>none
 |_=>none
theorem jag{p:List (Nat×Bool)}{g:Bool}{t kt et b:Nat}{kd:IntKind}{k:Int}(ks:List Int)(hv:zns F p o.op=some (t,b,k))(ht:P.underlying t=some (.map kt et))(hk:P.underlying kt=some (.int kd))(hz: ∀w,(zeroValue et).run P w= .ok (.bool false) w)
  (hb:g=true→V.get b=some (z5n ks)):Yld P o n F C O nl V p g (.a (.v (.bool (decide (k∈ks))))):=by
 intro hgt E a w hf hgv hm
 refine⟨?_,rfl⟩
 unfold Yv execOp
 cases hop:o.op with
 |lookup t' x y ok=>
  cases ok with
  |true=>simp[hop,zns]at hv
  |false=>
   simp only[hop,zns]at hv
   split at hv
   ·
    rename_i b' k' hx hy
    simp only[Option.some.injEq,Prod.mk.injEq]at hv
    obtain⟨rfl,rfl,rfl⟩:=hv
    obtain⟨h1,_⟩:=z03 hf hgv hx
    obtain⟨h2,_⟩:=z03 hf hgv hy
    have e1:a.eval x= .map (some b'):=h1
    have e2:a.eval y= .int .i64 k':=h2
    simp only[e1,e2,Sem.run_bind,zet ht hk (hz w) (hm.get _ _ (hb hgt)),Result.andThen_ok,Sem.run_pure,SV.den,A.den]
   · simp at hv
 |_=>simp[hop,zns]at hv
def z9m:Op→Option Nat
 | .makeMap t none=>some t
 |_=>none
theorem zv9{p:List (Nat×Bool)}{t:Nat}(hv:z9m o.op=some t):
  StepTo P o p n F C O nl V (σ:=Nat) (fun b=>V.get b=none) (fun b=> .a (.v (.map (some b)))) (fun _=>O) nl (fun b=>V.put b (z5n [])):=by
 constructor
 intro E a w hf hgv hm K Q hK
 unfold Oper.wp execOp
 cases hop:o.op with
 |makeMap t' r=>
  cases r with
  |some r=>simp[hop,z9m]at hv
  |none=>
   have hno:V.get w.heap.size=none:=by
    cases hq:V.get w.heap.size with
    |none=>rfl
    |some ob=>
     have:=(Array.getElem?_eq_some_iff.1 (hm.get _ _ hq)).1
     omega
   have hr:(Instr.makeMap t' none).run P w= .ok (.map (some w.heap.size)) (w.alloc (z5n [])):=by
    simp[Instr.makeMap,z5n,z6g]
   simp only[Option.map_none,Sem.run_bind,hr,Result.andThen_ok,Sem.run_pure]
   exact hK w.heap.size E _ hno (fun _ _=>⟨rfl,rfl⟩) (hm.ext (z29 w _) (hm.vext _)) rfl
 |_=>simp[hop,z9m]at hv
theorem Mem.putV{E:Env}{w:World}(hm:Mem E O nl V w){b:Nat}{o0:Obj}(hb:V.get b=some o0)(ob:Obj):Mem E O nl (V.put b ob) {w with heap:=w.heap.setIfInBounds b ob}:=by
 have hlt:b<w.heap.size:=(Array.getElem?_eq_some_iff.1 (hm.get _ _ hb)).1
 have hoth: ∀k,k≠b→(w.heap.setIfInBounds b ob)[k]? =w.heap[k]? :=fun k h=>by rw[Array.getElem?_setIfInBounds_ne (Ne.symm h)]
 have hnb: ∀{l c k},lk O l=some c→blk E l c=some k→k≠b:=fun{l c k} hl hk e=>by
  have:=hm.off l c k hl hk
  rw[e,hb]at this
  cases this
 refine⟨?_, ?_,hm.sep, ?_, ?_,hm.os,hm.tape,hm.output,hm.lab,hm.labs,hm.pin, ?_,hm.kp⟩
 ·
  intro l cs e hl
  show(w.heap.setIfInBounds b ob)[E.ρ l]? =_
  rw[hoth _ (hnb hl rfl)]
  exact hm.lit l cs e hl
 ·
  intro l e sz m xs hl
  have hr:=hm.row l e sz m xs hl
  refine⟨hr.1, ?_⟩
  rcases hr.2 with h|⟨g,cap,cur,h1,h2,h3,h4⟩
  · exact .inl h
  ·
   refine .inr ⟨g,cap,cur,h1,h2, ?_,h4⟩
   show(w.heap.setIfInBounds b ob)[g]? =_
   rw[hoth _ (hnb hl (by simp[blk,h1,Value.ownBlock]))]
   exact h3
 ·
  intro k ob' hk
  show(w.heap.setIfInBounds b ob)[k]? =_
  simp only[Vw.put]at hk
  by_cases h:k=b
  ·
   rw[if_pos h]at hk
   subst h
   rw[←hk]
   simp[hlt]
  ·
   rw[if_neg h]at hk
   rw[hoth _ h]
   exact hm.get k ob' hk
 ·
  intro l c k hl hk
  have:=hnb hl hk
  show(if _ then _ else _)=_
  rw[if_neg this]
  exact hm.off l c k hl hk
 ·
  intro l k hl
  show k≤(w.heap.setIfInBounds b ob).size
  rw[Array.size_setIfInBounds]
  exact hm.big l k hl
theorem zb7{w:World}{t kt et b:Nat}{kd:IntKind}{k:Int}{ks:List Int}(ht:P.underlying t=some (.map kt et))(hk:P.underlying kt=some (.int kd))(hn: ¬k∈ks)
  (hb:w.heap[b]? =some (z5n ks)):(Instr.mapUpdate t (.map (some b)) (.int .i64 k) (.bool true)).run P w= .ok () {w with heap:=w.heap.setIfInBounds b (z5n (ks++[k]))}:=by
 have hg:(getObj b).run P w= .ok (z5n ks) w:=by simp[getObj,Sem.run,hb,z5n]
 have hf:=z8u kd k ks 0 0
 have hc: ∀e,(Instr.checkKey e 10000 kt (.int .i64 k)).run P w= .ok () w:=fun e=>by rw[show(10000:Nat)=9999+1 from rfl,Instr.checkKey];simp[run_underlying hk]
 have h1:(Instr.findKey kt (.int .i64 k) (z6g ks 0)).run P w= .ok none w:=by simp[Instr.findKey,run_underlying hk,hf.2 hn]
 have hs: ∀ob,(setObj b ob).run P w= .ok () {w with heap:=w.heap.setIfInBounds b ob}:=fun ob=>by simp[setObj,Sem.run,hb,z5n]
 have he:((z6g ks 0).toArray.push ⟨.int .i64 k, .bool true,ks.length⟩)=(z6g (ks++[k]) 0).toArray:=by rw[zfp];simp
 have hob:Obj.map ((z6g ks 0).toArray.push ⟨.int .i64 k, .bool true,ks.length⟩) (ks.length+1)=z5n (ks++[k]):=by rw[he];simp[z5n]
 rw[←hob]
 simp only[z5n]at hg
 simp[Instr.mapUpdate,run_underlying ht,hg,hc,h1,hs]
def zs4(F:z05)(p:List (Nat×Bool)):Op→Option (Nat×Nat×Int)
 | .mapUpdate t x y z=>match opv F p x,opv F p y,opv F p z with
  |some (.a (.v (.map (some b)))),some (.a (.v (.int .i64 k))),some (.a (.v (.bool true)))=>some (t,b,k)
  |_,_,_=>none
 |_=>none
theorem zxd{p:List (Nat×Bool)}{t kt et b:Nat}{kd:IntKind}{k:Int}(ks:List Int)(hv:zs4 F p o.op=some (t,b,k))(hd:o.dst=none)(ht:P.underlying t=some (.map kt et))(hk:P.underlying kt=some (.int kd))(hn: ¬k∈ks)
  (hb:V.get b=some (z5n ks)):StepTo P o p n F C O nl V (σ:=Unit) (fun _=>True) (fun _=> .a (.v undef)) (fun _=>O) nl (fun _=>V.put b (z5n (ks++[k]))):=by
 constructor
 intro E a w hf hgv hm K Q hK
 unfold Oper.wp execOp
 cases hop:o.op with
 |mapUpdate t' x y z=>
  simp only[hop,zs4]at hv
  split at hv
  ·
   rename_i b' k' hx hy hz
   simp only[Option.some.injEq,Prod.mk.injEq]at hv
   obtain⟨rfl,rfl,rfl⟩:=hv
   obtain⟨h1,_⟩:=z03 hf hgv hx
   obtain⟨h2,_⟩:=z03 hf hgv hy
   obtain⟨h3,_⟩:=z03 hf hgv hz
   have e1:a.eval x= .map (some b'):=h1
   have e2:a.eval y= .int .i64 k':=h2
   have e3:a.eval z= .bool true:=h3
   simp only[e1,e2,e3,Sem.run_bind,zb7 ht hk hn (hm.get _ _ hb),Result.andThen_ok,Sem.run_pure]
   have:=hK () E _ trivial (fun _ _=>⟨rfl,rfl⟩) (hm.putV hb _) rfl
   show K (a.put o.dst undef) _
   exact this
  · simp at hv
 |_=>simp[hop,zs4]at hv
end
section
variable{P:Program}{ops:Array Oper}{Q:Exit→Act→World→Prop}{n:Nat}{F:z05}{C:List Nat}{O:Own}{nl:Nat}{V:Vw}{sp:List Nat}{O0:Own}{nl0:Nat}{V0:Vw}{fuel:Nat}{listed:List Bool}
theorem z3m(i j k:Nat)(hr:Region.ready .any ops listed.toArray=[i,j,k])(h1:HI P ops Q sp O0 nl0 V0 fuel listed n F C O nl V i)(h2:HI P ops Q sp O0 nl0 V0 fuel listed n F C O nl V j)(h3:HI P ops Q sp O0 nl0 V0 fuel listed n F C O nl V k):HJ P ops Q sp O0 nl0 V0 (fuel+1) listed n F C O nl V:=
 zhf [i,j,k] hr rfl (fun q hq=>by
  simp only[List.mem_cons,List.not_mem_nil,or_false]at hq
  rcases hq with rfl|rfl|rfl
  · exact h1
  · exact h2
  · exact h3)
theorem zzm(i j k l:Nat)(hr:Region.ready .any ops listed.toArray=[i,j,k,l])(h1:HI P ops Q sp O0 nl0 V0 fuel listed n F C O nl V i)(h2:HI P ops Q sp O0 nl0 V0 fuel listed n F C O nl V j)(h3:HI P ops Q sp O0 nl0 V0 fuel listed n F C O nl V k)(h4:HI P ops Q sp O0 nl0 V0 fuel listed n F C O nl V l):HJ P ops Q sp O0 nl0 V0 (fuel+1) listed n F C O nl V:=
 zhf [i,j,k,l] hr rfl (fun q hq=>by
  simp only[List.mem_cons,List.not_mem_nil,or_false]at hq
  rcases hq with rfl|rfl|rfl|rfl
  · exact h1
  · exact h2
  · exact h3
  · exact h4)
end
end Go.Eng
