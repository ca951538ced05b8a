import Derived.WalkKit
import Derived.Deep.Quiet
set_option linter.unusedSimpArgs false
set_option linter.unusedVariables false
/- A part of the proof of SurveySlots. -/
namespace Go.Eng
abbrev Z1:=@Bool.and_eq_true
abbrev Z0:=@Option.some.injEq
abbrev ZZ:=@List.mem_of_getElem?
abbrev ZY:=@trivial
abbrev ZX:=@if_neg
abbrev ZW:=@if_pos
abbrev ZV:=@decide_eq_true_eq
abbrev ZU:=@Result.andThen_ok
abbrev ZT:=@List.length_set
abbrev ZS:=@Nat.le_refl
abbrev ZR:=@Sem.run_bind
abbrev ZQ:=@List.length_append
abbrev ZP:=@List.length_singleton
abbrev ZO:=@Sem.run_pure
abbrev ZN:=@Prod.mk.injEq
abbrev ZM:=@Nat.eq_of_beq_eq_true
abbrev ZL:=@List.length_take
abbrev ZK:=@List.length_map
abbrev ZJ:=@Bool.not_eq_true'
abbrev ZI:=@Bool.true_and
abbrev ZH:=@Int.toNat_natCast
abbrev ZG:=@List.take_of_length_le
abbrev ZF:=@List.flatMap_append
abbrev ZE:=@List.mem_singleton
abbrev ZD:=@decide_eq_true
abbrev ZC:=@Nat.le_trans
abbrev ZB:=@List.nil_append
abbrev ZA:=@List.mem_or_eq_of_mem_set
abbrev Zz:=@Nat.zero_le
abbrev Zy:=@List.flatMap_cons
abbrev Zx:=@List.take_length
abbrev Zw:=@Bool.false_eq_true
abbrev Zv:=@Bool.or_eq_true
abbrev Zu:=@List.eq_nil_of_length_eq_zero
abbrev Zt:=@if_false
abbrev Zs:=@List.mem_iff_getElem?
abbrev Zr:=@List.mem_cons_of_mem
abbrev Zq:=@List.map_cons
abbrev Zp:=@List.drop_length
abbrev Zo:=@Nat.zero_add
abbrev Zn:=@Nat.mul_le_mul_right
abbrev Zm:=@List.mem_map_of_mem
abbrev Zl:=@decide_eq_false_iff_not
abbrev Zk:=@List.length_drop
abbrev Zj:=@List.mem_cons_self
abbrev Zi:=@Bool.eq_false_iff
abbrev Zh:=@List.mem_append
abbrev Zg:=@List.mem_cons
abbrev Zf:=@Bool.or_eq_false_iff
abbrev Ze:=@Bool.eq_iff_iff
abbrev Zd:=@List.length_filter_le
abbrev Zc:=@List.append_assoc
abbrev Zb:=@List.append_nil
abbrev Za:=@cond_true
abbrev Z_:=@Bool.not_eq_false'
abbrev Y9:=@Nat.lt_succ_of_lt
abbrev Y8:=@List.length_cons
abbrev Y7:=@List.mem_of_mem_take
abbrev Y6:=@List.mem_map
abbrev Y5:=@congrArg
abbrev Y4:=@Nat.add_mul
abbrev Y3:=@Int.mul_le_mul_of_nonneg_right
abbrev Y2:=@Array.length_toList
abbrev Y1:=@List.take_append_of_le_length
abbrev Y0:=@List.range_succ
abbrev YZ:=@Int.toNat_of_nonneg
abbrev YY:=@List.cons_append
abbrev YX:=@List.extract_eq_take_drop
abbrev YW:=@List.mem_flatMap
abbrev YV:=@List.all_eq_true
abbrev YU:=@Nat.beq_eq
abbrev YT:=@List.mem_of_mem_drop
abbrev YS:=@ByteArray.size_extract
abbrev YR:=@Option.map_some
abbrev YQ:=@List.take_append_drop
abbrev YP:=@ByteArray.size_append
abbrev YO:=@And.intro
abbrev YN:=@Array.ext'
abbrev YM:=@Nat.lt_or_ge
abbrev YL:=@ByteArray.data_extract
abbrev YK:=@Option.getD_some
abbrev YJ:=@List.any_eq_true
abbrev YI:=@Nat.add_comm
abbrev YH:=@List.not_mem_nil
abbrev YG:=@Array.toList_extract
abbrev YF:=@Nat.le_succ
abbrev YE:=@Bool.and_true
abbrev YD:=@Bool.and_false
abbrev YC:=@List.mem_range
abbrev YB:=@List.drop_eq_getElem_cons
abbrev YA:=@List.pairwise_iff_getElem
abbrev Yz:=@Nat.le_of_ble_eq_true
abbrev Yx:=@Nat.xor_lt_two_pow
abbrev Yw:=@List.filter_append
abbrev Yu:=@List.drop_drop
abbrev Yt:=@List.cons.injEq
abbrev Ys:=@List.length_nil
abbrev Yr:=@List.replicate_succ
abbrev Yq:=@List.map_congr_left
abbrev Yp:=@List.map_nil
abbrev Yo:=@List.drop_eq_nil_of_le
abbrev Yn:=@List.drop_of_length_le
abbrev Ym:=@List.map_map
abbrev Yl:=@Option.map_eq_some_iff
abbrev Yk:=@Nat.one_mul
abbrev Yj:=@Bool.not_eq_true
abbrev Yi:=@UInt8.toNat_lt
abbrev Yh:=@List.take_take
abbrev Yg:=@List.set_cons_succ
abbrev Yf:=@if_true
abbrev Ye:=@UInt8.toNat_inj
abbrev Yd:=@decide_eq_false
abbrev Yc:=@List.ext_getElem?
abbrev Yb:=@List.size_toArray
abbrev Ya:=@Array.setIfInBounds_comm
abbrev Y':=@Int.mul_nonneg
abbrev Y_:=@Array.toList_map
abbrev X9:=@UInt8.toNat_ofNat'
abbrev X8:=@Int.emod_lt_of_pos
abbrev X7:=@List.map_append
abbrev X':=@Nat.add_mul_div_right
abbrev X_:=@List.foldl_append
abbrev W_:=@not_true_eq_false
abbrev V_:=@Nat.add_mul_mod_self_right
abbrev U':=@Int.tmod_eq_emod_of_nonneg
abbrev U_:=@List.take_zero
abbrev T':=@Nat.mod_eq_of_lt
abbrev T_:=@List.take_append
abbrev S_:=@ByteArray.toList_eq
abbrev R_:=@List.take_succ_cons
abbrev Q':=@Array.toList_append
abbrev Q_:=@List.getElem_of_mem
abbrev P':=@List.eq_of_mem_replicate
abbrev P_:=@Array.size_setIfInBounds
abbrev O_:=@Int.emod_nonneg
abbrev N':=@List.nodup_cons
abbrev N_:=@Option.some.inj
abbrev M':=@Option.map_none
abbrev M_:=@Bool.true_eq_false
abbrev L':=@List.countP_append
abbrev L_:=@List.mem_replicate
abbrev K_:=@Array.ext_getElem?
abbrev J':=@Array.empty_append
abbrev J_:=@Nat.le_mul_of_pos_right
abbrev I':=@Nat.add_sub_cancel_left
abbrev I_:=@List.length_eq_zero_iff
abbrev H':=@List.set_eq_take_append_cons_drop
abbrev H_:=@List.any_eq_false
abbrev G_:=@Nat.zero_mul
abbrev F_:=@List.all_eq_false
abbrev E_:=@Nat.mul_le_mul
abbrev D':=@Array.all_eq_true_iff_forall_mem
abbrev D_:=@List.length_replicate
abbrev C_:=@Classical.choose_spec
abbrev B_:=@List.map_toArray
abbrev A':=@List.filter_cons
abbrev A_:=@Bool.false_or
abbrev z_:=@List.map_take
abbrev y_:=@List.map_drop
abbrev x_:=@and_true
abbrev w_:=@or_false
abbrev v_:=@Int.mul_le_mul_of_nonneg_left
abbrev u':=@Int.add_mul
abbrev u_:=@List.drop_append_of_le_length
abbrev t_:=@List.foldl_cons
abbrev s_:=@List.dropLast_concat_getLast
abbrev r_:=@Nat.mul_comm
abbrev q_:=@Nat.add_zero
abbrev p_:=@Nat.sub_self
abbrev o':=@Array.getElem_setIfInBounds
abbrev o_:=@Nat.mod_two_eq_zero_or_one
abbrev n_:=@Nat.eq_zero_or_pos
abbrev m_:=@List.drop_take
abbrev l_:=@Option.isNone_iff_eq_none
abbrev k_:=@List.take_add_one
abbrev j_:=@List.Sublist.refl
abbrev i_:=@Nat.mul_one
abbrev h_:=@Array.size_append
abbrev g':=@List.mapM_toArray
abbrev g_:=@List.all_cons
abbrev f_:=@List.any_cons
abbrev e_:=@Bool.or_false
abbrev d_:=@Nat.div_eq_of_lt
abbrev c_:=@List.drop_append
abbrev b_:=@decide_eq_decide
theorem J{a:Sort _}{x:a}:x=x:=rfl
theorem om{p:Prop}(h:p:=by omega):p:=h
theorem dc{p:Prop}(h:p:=by decide):p:=h
theorem sm{p:Prop}(h:p:=by simp):p:=h
theorem kr{p:Prop}(h:p:=by kernel_rfl):p:=h
open Go Go.RowKit
abbrev Z8:=@List
abbrev Z7:=@Value
abbrev Z6:=@World
abbrev Z5:=@ByteArray
abbrev Z4:=@Option
abbrev Z3:=@Program
abbrev cH(w w':Z6):Prop:=Below w.heap.size w w'
structure Vw where
 get:Nat->Option Obj
 os:Os
 tape:Nat->Question->Nat
 output:Array (Nat×ByteArray)
def vw(w:Z6):Vw:=⟨λk=>w.heap[k]?,w.os,w.tape,w.output⟩
structure Vw.le(V V':Vw):Prop where
 get:∀k o,V.get k=some o->V'.get k=some o
 os:V'.os=V.os
 tape:V'.tape=V.tape
 output:V'.output=V.output
theorem Vw.le.refl(V:Vw):V.le V:=⟨λ_ _ h=>h,J,J,J⟩
theorem Vw.le.trans{A B C:Vw}(h:A.le B)(k:B.le C):A.le C:=
 ⟨λi o e=>k.get i o (h.get i o e),k.os.trans h.os,k.tape.trans h.tape,k.output.trans h.output⟩
inductive A where
 |v (x:Value)
 |ptr (l off:Nat)
 |fn (f:Nat) (caps:List (Nat×Nat))
 |row (l:Nat)
 |el (x:Value) (k:Nat)
 |rel (l k:Nat)
inductive SV where
 |a (x:A)
 |agg (cs:List A)
 |tup (xs:List A)
structure Env where
 ρ:Nat->Nat
 κ:Nat->Value
def oU:Z7->Nat->Z7
 |.slice (some a) _ _,k=>.pointer (some (a.add k))
 |_,_=>undef
def A.den(E:Env):A->Z7
 |.v x=>x
 |.ptr l off=>.pointer (some ⟨E.ρ l,off,none⟩)
 |.fn f caps=>.func (.func f) #[] (caps.map λp=>Value.pointer (some ⟨E.ρ p.1,p.2,none⟩)).toArray
 |.row l=>E.κ l
 |.el x k=>oU x k
 |.rel l k=>oU (E.κ l) k
def SV.den(E:Env):SV->Z7
 |.a x=>x.den E
 |.agg cs=>.agg (cs.map (A.den E)).toArray
 |.tup xs=>.tuple (xs.map (A.den E)).toArray
def qO(nl:Nat):Z8 (Nat×Nat)->Bool
 |[]=>true
 |p::r=>Nat.blt p.1 nl&&qO nl r
def A.ok(nl:Nat):A->Bool
 |.v _=>true
 |.ptr l _=>Nat.blt l nl
 |.fn _ caps=>qO nl caps
 |.row l=>Nat.blt l nl
 |.el _ _=>true
 |.rel l _=>Nat.blt l nl
def dH(nl:Nat):Z8 A->Bool
 |[]=>true
 |x::r=>x.ok nl&&dH nl r
def SV.ok(nl:Nat):SV->Bool
 |.a x=>x.ok nl
 |.agg cs=>dH nl cs
 |.tup xs=>dH nl xs
theorem eD{a b:Nat}:Nat.blt a b=true↔a<b:=by simp
theorem gi{nl:Nat}:∀{l:Z8 A},dH nl l=true↔ ∀x∈l,x.ok nl=true
 |[]=>by simp[dH]
 |x::r=>by simp[dH,gi (l:=r)]
theorem te{nl:Nat}:∀{l:Z8 (Nat×Nat)},qO nl l=true↔ ∀p∈l,p.1<nl
 |[]=>by simp[qO]
 |x::r=>by simp[qO,te (l:=r),eD]
def kI(nl:Nat):Z8 SV->Bool
 |[]=>true
 |x::r=>x.ok nl&&kI nl r
theorem allOk'_iff{nl:Nat}:∀{l:Z8 SV},kI nl l=true↔ ∀x∈l,x.ok nl=true
 |[]=>by simp[kI]
 |x::r=>by simp[kI,allOk'_iff (l:=r)]
def Env.agree(nl:Nat)(E E':Env):Prop:= ∀l,l<nl->E'.ρ l=E.ρ l/\E'.κ l=E.κ l
theorem A.den_agree{nl:Nat}{E m:Env}(h:E.agree nl m){x:A}(d:x.ok nl=true):x.den m=x.den E:=by
 cases x with
 |v x=>rfl
 |el x k=>rfl
 |ptr l off=>simp only[A.ok,eD]at d;simp only[A.den,(h l d).1]
 |row l=>simp only[A.ok,eD]at d;simp only[A.den,(h l d).2]
 |rel l k=>simp only[A.ok,eD]at d;simp only[A.den,(h l d).2]
 |fn f caps=>simp only[A.ok,te]at d;simp only[A.den];congr 2;apply Yq;intro p o;rw[(h p.1 (d p o)).1]
theorem A.map_agree{nl:Nat}{E d:Env}(h:E.agree nl d){l:Z8 A}(o:dH nl l=true):l.map (A.den d)=l.map (A.den E):=by apply Yq;intro x m;exact A.den_agree h<|gi.1 o x m
theorem SV.den_agree{nl:Nat}{E l:Env}(h:E.agree nl l){x:SV}(d:x.ok nl=true):x.den l=x.den E:=by
 cases x with
 |a x=>exact A.den_agree h d
 |agg cs=>simp only[SV.den,A.map_agree h d]
 |tup cs=>simp only[SV.den,A.map_agree h d]
theorem A.ok_mono{nl nl':Nat}(h:nl<=nl'){x:A}(d:x.ok nl=true):x.ok nl'=true:=by
 cases x with
 |v x=>rfl
 |el x k=>rfl
 |ptr l off=>simp only[A.ok,eD]at d⊢;omega
 |row l=>simp only[A.ok,eD]at d⊢;omega
 |rel l k=>simp only[A.ok,eD]at d⊢;omega
 |fn f caps=>simp only[A.ok,te]at d⊢;intro p m;have:=d p m;omega
theorem jn{nl nl':Nat}(h:nl<=nl'){l:Z8 A}(m:dH nl l=true):dH nl' l=true:=
 gi.2 λx d=>A.ok_mono h (gi.1 m x d)
theorem SV.ok_mono{nl nl':Nat}(h:nl<=nl'){x:SV}(d:x.ok nl=true):x.ok nl'=true:=by
 cases x with
 |a x=>exact A.ok_mono h d
 |agg cs=>exact jn h d
 |tup cs=>exact jn h d
def lk{α:Type}:Z8 (Nat×α)->Nat->Z4 α
 |[],_=>none
 |(k,a)::r,t=>bif Nat.beq k t then some a else lk r t
theorem fm{α:Type}(k:Nat)(a:α)(r:Z8 (Nat×α))(t:Nat):lk ((k,a)::r) t=if k=t then some a else lk r t:=by
 show(bif Nat.beq k t then some a else lk r t)=_
 simp_all
theorem dF{α:Type}(k:Nat)(a:α)(r:Z8 (Nat×α)):lk ((k,a)::r) k=some a:=by simp[fm]
theorem gB{α:Type}{k t:Nat}(a:α)(r:Z8 (Nat×α))(h:k≠t):lk ((k,a)::r) t=lk r t:=by simp[fm,h]
inductive Cel where
 |lit (cs:List A) (e:Nat)
 |row (e sz n:Nat) (xs:List Value)
 |gone
 |pin (m b:Nat)
 |size (k:Nat)
 |keep (m b:Nat) (v:Value)
def blk(E:Env)(l:Nat):Cel->Z4 Nat
 |.lit _ _=>some (E.ρ l)
 |.row _ _ _ _=>(E.κ l).ownBlock
 |.gone=>none
 |.pin _ _=>none
 |.size _=>none
 |.keep _ _ _=>none
abbrev Own:=Z8 (Nat×Cel)
structure Mem(E:Env)(O:Own)(nl:Nat)(V:Vw)(w:World):Prop where
 lit:∀l cs e,lk O l=some (.lit cs e)->w.heap[E.ρ l]? =some (.cells (cs.map (A.den E)).toArray e (0,0))
 row:∀l e sz n xs,lk O l=some (.row e sz n xs)->w.ownsRow 0 e sz (E.κ l) n xs
 sep:∀l l' c c' k,lk O l=some c->lk O l'=some c'->blk E l c=some k->blk E l' c'=some k->l=l'
 get:∀k o,V.get k=some o->w.heap[k]? =some o
 off:∀l c k,lk O l=some c->blk E l c=some k->V.get k=none
 os:w.os=V.os
 tape:w.tape=V.tape
 output:w.output=V.output
 lab:∀l c,lk O l=some c->l<nl
 labs:∀l cs e,lk O l=some (.lit cs e)->dH nl cs=true
 pin:∀l m b,lk O l=some (.pin m b)->E.ρ m=b/\m<nl
 big:∀l k,lk O l=some (.size k)->k<=w.heap.size
 kp:∀l m b v,lk O l=some (.keep m b v)->E.ρ m=b/\E.κ m=v/\m<nl
structure Ent where
 path:List (Nat×Bool)
 g:Bool
 x:SV
abbrev cy:=Z8 (Nat×Ent)
def ly(F:cy)(s:Nat)(b:Bool):Bool:=
 match lk F s with
 |some ⟨_,_,.a (.v (.bool x))⟩=>x==b
 |_=>false
def eN(F:cy):Z8 (Nat×Bool)->Bool
 |[]=>true
 |(s,b)::r=>eN F r&&ly F s b
def dh(s:Nat):Z8 Nat->Bool
 |[]=>false
 |t::r=>bif Nat.beq s t then true else dh s r
theorem kR{s:Nat}:∀{l:Z8 Nat},dh s l=true↔s∈l
 |[]=>by simp[dh]
 |t::r=>by
  have ih:=kR (s:=s) (l:=r)
  by_cases h:s=t
  . subst h;simp[dh]
  ·
   have:Nat.beq s t=false:=by rw[<-Yj,YU];exact h
   simp[dh,this,ih,h]
structure Frm(E:Env)(n:Nat)(F:cy)(C:List Nat)(nl:Nat)(tmps:Array Value):Prop where
 size:tmps.size=n
 val:∀t e,lk F t=some e->tmps[t]? =some (if e.g then e.x.den E else undef)
 wf:∀t e,lk F t=some e->e.g=eN F e.path/\ ∀q∈e.path,dh q.1 C=true
 labs:∀t e,lk F t=some e->e.g=true->e.x.ok nl=true
structure KJ(K:Act->World->Prop)(n:Nat)(F:cy)(C:List Nat)(O:Own)(nl:Nat)(V:Vw):Prop where
 out:∀E a w,a.defers=[]->Frm E n F C nl a.tmps->Mem E O nl V w->K a w
def wC:Bool->Bool->Bool
 |true,true=>true
 |false,false=>true
 |_,_=>false
theorem Wo{a b:Bool}:wC a b=true↔a=b:=by cases a<;>cases b<;>simp[wC]
def qu(s:Nat)(b:Bool):Z8 (Nat×Bool)->Bool
 |[]=>false
 |(t,c)::r=>bif Nat.beq s t&&wC b c then true else qu s b r
theorem GX{s:Nat}{b:Bool}:∀{l:Z8 (Nat×Bool)},qu s b l=true↔(s,b)∈l
 |[]=>by simp[qu]
 |(t,c)::r=>by
  have ih:=GX (s:=s) (b:=b) (l:=r)
  by_cases h:s=t/\b=c
  ·
   obtain⟨rfl,rfl⟩:=h
   have:wC b b=true:=by cases b<;>rfl
   simp[qu,this]
  ·
   have:(Nat.beq s t&&wC b c)=false:=by
    rw[<-Yj,Z1,YU,Wo];exact h
   simp only[qu,this,cond_false,ih,Zg,ZN]
   simp_all
def ni:Z8 (Nat×Bool)->Z8 (Nat×Bool)->Bool
 |[],_=>true
 |(s,b)::r,p=>bif qu s b p then ni r p else false
theorem F5{F:cy}{s:Nat}{b:Bool}:∀{p:Z8 (Nat×Bool)},(s,b)∈p->eN F p=true->ly F s b=true
 |(t,c)::r,h,hg=>by
  simp only[eN,Z1]at hg
  rcases Zg.1 h with h|h
  . cases h;exact hg.2
  . exact F5 h hg.1
theorem Lt{F:cy}:∀{q p:Z8 (Nat×Bool)},ni q p=true->eN F p=true->eN F q=true
 |[],_,_,_=>rfl
 |(s,b)::r,p,h,hg=>by
  simp only[ni]at h
  cases hm:qu s b p with
  |false=>simp[hm]at h
  |true=>
   simp only[hm,Za]at h
   simp only[eN,Lt h hg,F5 (GX.1 hm) hg,Bool.and_self]
def cV(F:cy)(p:Z8 (Nat×Bool)):Operand->Z4 SV
 |.tmp t=>match lk F t with
  |some e=>bif ni e.path p then some e.x else none
  |none=>none
 |.const v=>some (.a (.v v))
 |.func f=>some (.a (.fn f []))
 |.global g=>some (.a (.v (.pointer (some ⟨g,0,none⟩))))
theorem cZ{E:Env}{n:Nat}{F:cy}{C:Z8 Nat}{nl:Nat}{a:Act}{p:Z8 (Nat×Bool)}{o:Operand}{s:SV} (m:Frm E n F C nl a.tmps) (y:eN F p=true) (h:cV F p o=some s):a.eval o=s.den E/\s.ok nl=true:=by
 cases o with
 |tmp t=>
  simp only[cV]at h;cases l:lk F t with
  |none=>simp[l]at h
  |some e=>
   simp only[l]at h;cases u:ni e.path p with
   |false=>simp[u]at h
   |true=>simp only[u,Za,Z0]at h;subst h;(have d:e.g=true:=by rw[(m.wf t e l).1];exact Lt u y);have w:=m.val t e l;rw[d]at w;refine⟨?_,m.labs t e l d⟩;simp[Act.eval,w]
 |const v=>simp only[cV,Z0]at h;subst h;exact⟨J,J⟩
 |func f=>simp only[cV,Z0]at h;subst h;exact⟨J,J⟩
 |global g=>simp only[cV,Z0]at h;subst h;exact⟨J,J⟩
theorem Dl{F:cy}{d:Nat}{e:Ent}:∀{p:Z8 (Nat×Bool)},(∀q∈p,q.1≠d)->eN ((d,e)::F) p=eN F p
 |[],_=>rfl
 |(s,b)::r,h=>by
  have hs:=h (s,b) (by simp)
  have l:=Dl (F:=F) (e:=e) (p:=r) (λq m=>h q (by simp[m]))
  simp only[eN,l,ly,gB (t:=s) e F (λx=>hs x.symm)]
theorem Frm.put{E:Env}{n:Nat}{F:cy}{C:Z8 Nat}{nl:Nat}{a:Act}{d:Nat}{p:Z8 (Nat×Bool)}{g:Bool}{s:SV} (m:Frm E n F C nl a.tmps) (hd:d<n) (L:dh d C=false) (B:g=eN F p) (w:∀q∈p,dh q.1 C=true) (hs:g=true->s.ok nl=true): Frm E n ((d,⟨p,g,s⟩)::F) C nl (a.put (some d) (if g then s.den E else undef)).tmps:=by (have o:∀{q:Z8 (Nat×Bool)},(∀x∈q,dh x.1 C=true)-> ∀x∈q,x.1≠d:=by grind);constructor;{simp[Act.put,m.size]};{intro t e l;rw[fm]at l;by_cases h:d=t;{subst h;simp only[Yf,Z0]at l;subst l;(have u:d<a.tmps.size:=by rw[m.size];exact hd);simp[Act.put,u]};simp only[h,Zt]at l;simp only[Act.put,Array.getElem?_setIfInBounds,h,Zt];exact m.val t e l};{intro t e l;rw[fm]at l;by_cases h:d=t;{subst h;simp only[Yf,Z0]at l;subst l;exact⟨by rw[Dl (o w)];exact B,w⟩};simp only[h,Zt]at l;obtain⟨z,y⟩:=m.wf t e l;exact⟨by rw[Dl (o y)];exact z,y⟩};intro t e l;rw[fm]at l;by_cases h:d=t;{subst h;simp only[Yf,Z0]at l;subst l;exact hs};simp only[h,Zt]at l;exact m.labs t e l
def gd(ops:Array Oper)(F:cy)(C:Z8 Nat):Z4 (Nat×Bool)->Z4 (Z8 (Nat×Bool)×Bool×Z8 Nat)
 |none=>some ([],true,C)
 |some (j,want)=>match ops[j]? with
  |some oj=>match oj.dst with
   |some s=>match lk F s with
    |some ⟨pj,gj,.a (.v (.bool x))⟩=>match pj,want with
     |[],true=>some ((s,true)::[],x,s::C)
     |[],false=>some ((s,false)::[], !x,s::C)
     |q::r,true=>some ((s,true)::q::r,gj&&x,s::C)
     |q::r,false=>some ((s,false)::q::r,gj&& !x,s::C)
    |_=>none
   |none=>none
  |none=>none
theorem Frm.weakC{E:Env}{n:Nat}{F:cy}{C l:Z8 Nat}{nl:Nat}{tmps:Array Z7}(h:∀s,dh s C=true->dh s l=true)
  (d:Frm E n F C nl tmps):Frm E n F l nl tmps:=
 ⟨d.size,d.val,λt e m=>⟨(d.wf t e m).1,λq o=>h _ ((d.wf t e m).2 q o)⟩,d.labs⟩
theorem gz{E:Env}{n:Nat}{F:cy}{C m:Z8 Nat}{nl:Nat}{a:Act}{ops:Array Oper}{o:Oper}{p:Z8 (Nat×Bool)}{g:Bool} (B:Frm E n F C nl a.tmps) (h:gd ops F C o.guard=some (p,g,m)): Region.wanted o (yielded ops a.tmps)=g/\Frm E n F m nl a.tmps/\g=eN F p/\ ∀q∈p,dh q.1 m=true:=by
 unfold Region.wanted;cases u:o.guard with
 |none=>simp only[u,gd,Z0,ZN]at h;obtain⟨rfl,rfl,rfl⟩:=h;exact⟨J,B,J,by simp⟩
 |some jw=>
  obtain⟨j,d⟩:=jw;simp only[u,gd]at h;cases V:ops[j]? with
  |none=>simp[V]at h
  |some oj=>
   simp only[V]at h;cases R:oj.dst with
   |none=>simp[R]at h
   |some s=>
    simp only[R]at h;cases w:lk F s with
    |none=>simp[w]at h
    |some e=>
     simp only[w]at h;obtain⟨y,z,L⟩:=e
     have key:∀x:Bool,L=.a (.v (.bool x))->
       ((yielded ops a.tmps j==some d)=(eN F y&&ly F s d))/\z=eN F y/\(∀q∈y,dh q.1 C=true)/\ly F s d=(x==d):=by
      intro x T
      subst T
      have Z:=B.val s _ w
      obtain⟨N,h2⟩:=B.wf s _ w
      have hc:ly F s d=(x==d):=by simp only[ly,w]
      refine⟨?_,N,h2,hc⟩
      dsimp only at N Z
      rw[hc,<-N]
      unfold yielded
      simp only[V,R,Option.bind_some,Z]
      cases z with
      |false=>simp[undef]
      |true=>simp[SV.den,A.den]
     have l:∀x:Bool,L=.a (.v (.bool x))->p=(s,d)::y->g=(z&&(x==d))->m=s::C->
       (yielded ops a.tmps j==some d)=g/\Frm E n F m nl a.tmps/\g=eN F p/\ ∀q∈p,dh q.1 m=true:=by
      intro x T hp W hC
      obtain⟨k1,Y,k3,k4⟩:=key x T
      subst hp hC
      have X:∀t,dh t C=true->dh t (s::C)=true:=λt ht=>kR.2 (Zr _ (kR.1 ht))
      refine⟨?_,B.weakC X,?_,?_⟩
      . rw[k1,W,Y,k4]
      . rw[W,eN,k4,Y]
      ·
       intro q M
       rcases Zg.1 M with rfl|M
       . exact kR.2 (Zj ..)
       . exact X _ (k3 q M)
     cases L with
     |agg cs=>simp at h
     |tup cs=>simp at h
     |a x=>
      cases x with
      |v x=>
       cases x with
       |bool x=>
        cases y with
        |nil=>
         have O:z=true:=(key x J).2.1;subst O;cases d with
         |true=>obtain⟨rfl,rfl,rfl⟩:=h;exact l _ J J (by simp) J
         |false=>obtain⟨rfl,rfl,rfl⟩:=h;exact l x J J (by cases x<;>rfl) J
        |cons q r=>
         cases d with
         |true=>obtain⟨rfl,rfl,rfl⟩:=h;exact l x J J (by simp) J
         |false=>obtain⟨rfl,rfl,rfl⟩:=h;exact l x J J (by cases x<;>simp) J
       |_=>simp at h
      |_=>simp at h
#print axioms gz
inductive TK where
 |int (k:IntKind)
 |bool
 |str
 |slice (e:Nat)
 |arr (n e:Nat)
 |struct
 |other
structure TI where
 size:Nat
 bytes:Nat
 zero:List Value
 flds:List (Nat×Nat×Nat)
 kind:TK
def TI.agg(i:TI):Bool:=match i.kind with
 |.struct=>true
 |.arr _ _=>true
 |_=>false
def eM:TypeDesc->TK
 |.int k=>.int k
 |.bool=>.bool
 |.string=>.str
 |.slice e=>.slice e
 |.array n e=>.arr n e
 |.struct _=>.struct
 |_=>.other
def fieldsOf(P:Z3):TypeDesc->Z8 (Nat×Nat×Nat)
 |.struct fs=>fs.toList.map λf=>(f.offset,f.type,((P.info? f.type).map (·.size)).getD 0)
 |_=>[]
structure TIok(P:Program)(t:Nat)(i:TI):Prop where
 size:(P.info? t).map (λf=>(f.size,f.bytes))=some (i.size,i.bytes)
 zero:(P.info? t).bind (λf=>f.zero.map (λz=>z.cells.toList))=some i.zero
 kind:(P.underlying t).map eM=some i.kind
 flds:(P.underlying t).map (fieldsOf P)=some i.flds
def dl(P:Z3)(tt:Z8 (Nat×TI)):Prop:= ∀t i,lk tt t=some i->TIok P t i
theorem dl.nil(P:Z3):dl P []:=λ_ _ h=>by simp[lk]at h
theorem dl.cons{P:Z3}{t:Nat}{i:TI}{tt:Z8 (Nat×TI)}(h:TIok P t i)(r:dl P tt):dl P ((t,i)::tt):=λu j d=>by rw[fm]at d;by_cases e:t=u;{subst e;simp at d;subst d;exact h};simp[e]at d;exact r u j d
theorem TIok.info{P:Z3}{t:Nat}{i:TI}(h:TIok P t i):∃f,P.info? t=some f/\f.size=i.size/\f.bytes=i.bytes/\ ∃z,f.zero=some z/\z.cells.toList=i.zero:=by
 have d:=h.size;have m:=h.zero;cases l:P.info? t with
 |none=>simp[l]at d
 |some f=>
  simp at d
  simp_all
theorem TIok.und{P:Z3}{t:Nat}{i:TI}(h:TIok P t i):∃d,P.underlying t=some d/\eM d=i.kind/\fieldsOf P d=i.flds:=by
 have l:=h.kind;have m:=h.flds;cases o:P.underlying t with
 |none=>simp[o]at l
 |some d=>
  simp at l m
  simp_all
theorem TIok.isAgg{P:Z3}{t:Nat}{i:TI}(h:TIok P t i)(w:Z6):(isAgg t).run P w=.ok i.agg w:=by obtain⟨d,hd,l,_⟩:=h.und;unfold Go.isAgg;rw[ZR,run_underlying hd w];unfold TI.agg;rw[<-l];cases d<;>rfl
theorem TIok.sizeOf{P:Z3}{t:Nat}{i:TI}(h:TIok P t i)(w:Z6):(sizeOf t).run P w=.ok i.size w:=by obtain⟨f,d,l,_⟩:=h.info;simp[Go.sizeOf,typeInfo,d,l]
theorem TIok.zeroValue{P:Z3}{t:Nat}{i:TI}(h:TIok P t i)(w:Z6):∃z,(zeroValue t).run P w=.ok z w/\z.cells.toList=i.zero:=by obtain⟨f,d,_,_,z,m,l⟩:=h.info;exact⟨z,by simp[Go.zeroValue,typeInfo,d,m],l⟩
def nY:Nat->Z8 A->Z4 (Z8 A)
 |0,l=>some l
 |n+1,_::r=>nY n r
 |_+1,[]=>none
def kC:Nat->Z8 A->Z4 (Z8 A)
 |0,_=>some []
 |n+1,x::r=>match kC n r with
  |some l=>some (x::l)
  |none=>none
 |_+1,[]=>none
def nf(off n:Nat)(l:Z8 A):Z4 (Z8 A):=
 match nY off l with
 |some r=>kC n r
 |none=>none
theorem Jh:∀{n:Nat} {l r:Z8 A},nY n l=some r->r=l.drop n/\n<=l.length
 |0,l,r,h=>by simp[nY]at h;simp[h]
 |n+1,x::l,r,h=>by
  have:=Jh (l:=l) (by simpa[nY]using h)
  exact⟨by simpa using this.1,by simp;exact this.2⟩
 |n+1,[],r,h=>by simp[nY]at h
theorem KB:∀{n:Nat} {l r:Z8 A},kC n l=some r->r=l.take n/\n<=l.length
 |0,l,r,h=>by simp[kC]at h;simp[<-h]
 |n+1,x::l,r,h=>by
  simp only[kC]at h
  cases h':kC n l with
  |none=>simp[h']at h
  |some q=>
   simp only[h',Z0]at h
   have:=KB h'
   subst h
   exact⟨by simp[this.1],by simp;exact this.2⟩
 |n+1,[],r,h=>by simp[kC]at h
theorem G9{off n:Nat}{l r:Z8 A}(h:nf off n l=some r):r=(l.drop off).take n/\off+n<=l.length:=by
 unfold nf at h;cases hd:nY off l with
 |none=>simp[hd]at h
 |some q=>
  simp only[hd]at h;obtain⟨o,d⟩:=Jh hd;obtain⟨p,m⟩:=KB h
  grind
def jB:Nat->Z8 A->Z8 A->Z4 (Z8 A)
 |0,[],l=>some l
 |0,x::xs,_::l=>match jB 0 xs l with
  |some r=>some (x::r)
  |none=>none
 |0,_::_,[]=>none
 |n+1,xs,y::l=>match jB n xs l with
  |some r=>some (y::r)
  |none=>none
 |_+1,_,[]=>none
theorem wI:∀{off:Nat} {xs l r:Z8 A},jB off xs l=some r->r=l.take off++xs++l.drop (off+xs.length)/\off+xs.length<=l.length
 |0,[],l,r,h=>by simp[jB]at h;simp[h]
 |0,x::xs,y::l,r,h=>by
  simp only[jB]at h
  cases h':jB 0 xs l with
  |none=>simp[h']at h
  |some q=>
   simp only[h',Z0]at h
   have:=wI h'
   subst h
   refine⟨?_,by simp at this⊢;omega⟩
   have d:=this.1
   simp at d⊢
   simp[d]
 |0,x::xs,[],r,h=>by simp[jB]at h
 |n+1,xs,y::l,r,h=>by
  simp only[jB]at h
  cases h':jB n xs l with
  |none=>simp[h']at h
  |some q=>
   simp only[h',Z0]at h
   have:=wI h'
   subst h
   refine⟨?_,by simp;omega⟩
   rw[this.1,show n+1+xs.length=(n+xs.length)+1 by omega]
   simp
 |n+1,xs,[],r,h=>by simp[jB]at h
def cellsOf:SV->Z8 A
 |.a (.v (.agg cs))=>cs.toList.map .v
 |.a x=>[x]
 |.agg cs=>cs
 |.tup _=>[]
def j9:IntKind->IntKind->Bool
 |.i8,.i8=>true|.i16,.i16=>true|.i32,.i32=>true|.i64,.i64=>true
 |.u8,.u8=>true|.u16,.u16=>true|.u32,.u32=>true|.u64,.u64=>true
 |_,_=>false
theorem mZ{a b:IntKind}:j9 a b=true↔a=b:=by cases a<;>cases b<;>simp[j9]
def qx(op:BinOp)(x y:Z7):Z4 Z7:=
 match x,y with
 |.int k a,.int k' b=>bif j9 k k' then(match op with
  |.add=>some (.int k (k.wrap (a+b)))
  |.sub=>some (.int k (k.wrap (a - b)))
  |.mul=>some (.int k (k.wrap (a*b)))
  |.eql=>some (.bool (a==b))
  |.neq=>some (.bool (a !=b))
  |.lss=>some (.bool (decide (a<b)))
  |.leq=>some (.bool (decide (a<=b)))
  |.gtr=>some (.bool (decide (b<a)))
  |.geq=>some (.bool (decide (b<=a)))
  |.and=>some (.int k (bits .and k a b))
  |.or=>some (.int k (bits .or k a b))
  |.xor=>some (.int k (bits .xor k a b))
  |.andNot=>some (.int k (bits .andNot k a b))
  |_=>none)else none
 |.string a,.string b=>match op with
  |.eql=>some (.bool (a.toList==b.toList))
  |.neq=>some (.bool (!(a.toList==b.toList)))
  |_=>none
 |_,_=>none
theorem UO{P:Z3}{d:BinOp}{x y v:Z7}{t:TypeId}{ox oy:Operand}(h:qx d x y=some v)(w:Z6): (do eqGuard d t ox oy x y;binOp d t x y:Sem Z7).run P w=.ok v w:=by
 cases x with
 |int k a=>
  cases y with
  |int k' b=>
   simp only[qx]at h;cases l:j9 k k' with
   |false=>simp[l]at h
   |true=>
    have:=mZ.1 l;subst this;simp only[l,Za]at h;rw[eqGuard_at_int]
    cases d<;>simp at h<;>subst h<;>first
     |(simp[binOp,Op.intArith];done)
     |(simp[binOp,Op.intCmp];done)
     |(simp[binOp,intBits_and,intBits_or,intBits_xor,intBits_andNot];done)
  |_=>simp[qx]at h
 |string a=>
  cases y with
  |string b=>simp only[qx]at h;rw[eqGuard_at_string];cases d<;>simp at h<;>subst h<;>simp[binOp,Op.stringOp]
  |_=>simp[qx]at h
 |_=>cases y<;>simp[qx]at h
def uW(op:BinOp)(x y:Bool):Z4 Z7:=
 match op with
 |.eql=>some (.bool (x==y))
 |.neq=>some (.bool (x !=y))
 |_=>none
theorem Uj{P:Z3}{t:TypeId}{x y:Bool}(l:P.underlying t=some .bool)(d:Nat)(w:Z6):(Op.equalIn (d+1) t (.bool x) (.bool y)).run P w=.ok (x==y) w:=by simp only[Op.equalIn,ZR,run_underlying l,ZU,ZO]
theorem TC{P:Z3}{d:BinOp}{x y:Bool}{v:Z7}{t:TypeId}{ox oy:Operand}(m:P.underlying t=some .bool)(h:uW d x y=some v)(w:Z6): (do eqGuard d t ox oy (.bool x) (.bool y);binOp d t (.bool x) (.bool y):Sem Z7).run P w=.ok v w:=by
 have l:(Op.equal t (.bool x) (.bool y)).run P w=.ok (x==y) w:=Uj m 9999 w;cases d<;>simp[uW]at h<;>subst h
 .show((Op.equal t (.bool x) (.bool y))>>=λb=>Pure.pure (Value.bool b)).run P w=_
  simp_all
 show((Op.equal t (.bool x) (.bool y))>>=λb=>Pure.pure (Value.bool !b)).run P w=_;rw[ZR,l];rfl
def qH(tt:Z8 (Nat×TI))(op:BinOp)(t:Nat)(a b:Z7):Z4 Z7:=
 match a,b with
 |.bool a,.bool b=>match lk tt t with
  |some ⟨_,_,_,_,.bool⟩=>uW op a b
  |_=>none
 |a,b=>qx op a b
theorem Mu{P:Z3}{tt:Z8 (Nat×TI)}(p:dl P tt){l:BinOp}{x y v:Z7}{t:TypeId}{ox oy:Operand}(h:qH tt l t x y=some v)(w:Z6): (do eqGuard l t ox oy x y;binOp l t x y:Sem Z7).run P w=.ok v w:=by unfold qH at h;split at h;{split at h;{rename_i m;obtain⟨d,hd,u,_⟩:=(p _ _ m).und;(have o:d=.bool:=by cases d<;>simp[eM]at u<;>rfl);subst o;exact TC hd h w};simp at h};exact UO h w
def un(op:UnOp)(x:Z7):Z4 Z7:=
 match x with
 |.bool b=>match op with
  |.not=>some (.bool (!b))
  |_=>none
 |.int k n=>match op with
  |.neg=>some (.int k (k.wrap (0 - n)))
  |.xor=>some (.int k (bits .xor k (match k.signed with|true=> -1|false=>k.max) n))
  |_=>none
 |_=>none
theorem LN{P:Z3}{d:UnOp}{x v:Z7}(h:un d x=some v)(w:Z6):(Op.unary d x).run P w=.ok v w:=by
 cases x with
 |bool b=>cases d<;>simp[un]at h<;>subst h<;>rfl
 |int k n=>cases d<;>simp[un]at h<;>subst h;{simp[Op.unary,Op.intArith]};simp only[Op.unary];cases l:k.signed<;>simp[intBits_xor,l]
 |_=>simp[un]at h
def se(F:cy)(p:Z8 (Nat×Bool)):Z8 Operand->Z4 (Z8 (Nat×Nat))
 |[]=>some []
 |o::r=>match cV F p o with
  |some (.a (.ptr l off))=>match se F p r with
   |some q=>some ((l,off)::q)
   |none=>none
  |_=>none
def qm:Z8 A->Z4 SV
 |[c]=>some (.a c)
 |_=>none
theorem JN{r:Z8 A}{s:SV}(h:qm r=some s):∃c,r=[c]/\s=.a c:=by
 match r,h with
 |[c],h=>simp[qm]at h;exact⟨c,J,h.symm⟩
 |[],h=>simp[qm]at h
 |_::_::_,h=>simp[qm]at h
section
variable{n:Nat}{F:cy}{C:Z8 Nat}{O:Own}{nl:Nat}{V:Vw}
def mv(O:Own):SV->Z4 (Z8 A)
 |.a (.v x)=>match x with
  |.agg cs=>some (cs.toList.map .v)
  |x=>some [.v x]
 |.a (.row l)=>match lk O l with
  |some (.row _ _ _ _)=>some [.row l]
  |_=>none
 |.a (.ptr l k)=>some [.ptr l k]
 |.a (.fn f c)=>some [.fn f c]
 |.agg cs=>some cs
 |_=>none
theorem uL{E:Env}{w:Z6}(p:Mem E O nl V w){s:SV}{cs:Z8 A}(h:mv O s=some cs)(hs:s.ok nl=true): (s.den E).cells=(cs.map (A.den E)).toArray/\dH nl cs=true:=by
 have d:∀l:Z8 Z7,(l.map A.v).map (A.den E)=l/\dH nl (l.map A.v)=true:=by
  intro l
  induction l with
  |nil=>exact⟨J,J⟩
  |cons x r ih=>exact⟨by simp[A.den,ih.1],by simp[dH,A.ok,ih.2]⟩
 unfold mv at h;split at h;{split at h;{rename_i arr;simp only[Z0]at h;subst h;refine⟨?_,(d _).2⟩;simp only[SV.den,A.den,Value.cells,(d _).1]};rename_i x z;simp only[Z0]at h;subst h;refine⟨?_,J⟩;simp only[SV.den,A.den,Zq,Yp];unfold Value.cells;split;{rename_i cs;exact absurd J (z cs)};rfl};{rename_i l;split at h;{rename_i e sz m xs t;simp only[Z0]at h;subst h;refine⟨?_,by simpa[dH,SV.ok]using hs⟩;have u:=(p.row _ _ _ _ _ t).2;rcases u with⟨d,_⟩|⟨g,y,o,d,_⟩<;>simp[SV.den,A.den,d,Value.cells]};simp at h};{simp only[Z0]at h;subst h;exact⟨by simp[SV.den,A.den,Value.cells],by simpa[dH,SV.ok]using hs⟩};{simp only[Z0]at h;subst h;exact⟨by simp[SV.den,A.den,Value.cells],by simpa[dH,SV.ok]using hs⟩};{simp only[Z0]at h;subst h;exact⟨by simp[SV.den,Value.cells],by simpa[SV.ok]using hs⟩};simp at h
end
def ri:Z8 (Nat×Nat×Nat)->Bool
 |[]=>true
 |(_,_,_+1)::r=>ri r
 |_=>false
def ot(F:cy)(O:Own)(p:Z8 (Nat×Bool))(flds:Z8 (Nat×Nat×Nat)):Z8 (Nat×Operand)->Z8 A->Z4 (Z8 A)
 |[],cs=>some cs
 |(i,x)::r,cs=>match flds[i]?,cV F p x with
  |some (off,_,sz),some s=>match mv O s with
   |some vs=>bif Nat.beq vs.length sz then(match jB off vs cs with
    |some cs'=>ot F O p flds r cs'
    |none=>none)else none
   |none=>none
  |_,_=>none
theorem Hf(off:Nat):∀(vs:Z8 Z7) (k:Nat) (cs:Array Z7),off+k+vs.length<=cs.size->
  ((vs.zipIdx k).foldl (λcs (x:Z7×Nat)=>cs.setIfInBounds (off+x.2) x.1) cs).toList=cs.toList.take (off+k)++vs++cs.toList.drop (off+k+vs.length)
 |[],k,cs,h=>by simp
 |v::vs,k,cs,h=>by
  simp only[Y8]at h
  simp only[List.zipIdx_cons,t_]
  rw[Hf off vs (k+1) _ (by simp;omega)]
  simp only[Array.toList_setIfInBounds,Y8]
  have hlt:off+k<cs.toList.length:=by simp;omega
  rw[show off+(k+1)=off+k+1 by omega,List.take_succ_eq_append_getElem (by simpa using hlt)]
  simp only[List.getElem_set_self]
  rw[List.take_set_of_le om,List.drop_set_of_lt om]
  simp only[Zc,YY,ZB]
  congr 4
  omega
theorem vU{E:Env}{n:Nat}{F:cy}{C:Z8 Nat}{O:Own}{nl:Nat}{V:Vw}{a:Act}{w:Z6}{p:Z8 (Nat×Bool)}{flds:Z8 (Nat×Nat×Nat)}
  (Y:Frm E n F C nl a.tmps) (Z:Mem E O nl V w) (W:eN F p=true) {place:Nat->Z4 (Nat×Nat)} (u:∀i q,flds[i]? =some q->place i=some (q.1,q.2.2)):
  ∀{parts:Z8 (Nat×Operand)} {cs cs':Z8 A},ot F O p flds parts cs=some cs'->dH nl cs=true->
   Instr.fill place (cs.map (A.den E)).toArray (parts.map λq=>(q.1,a.eval q.2))=some (cs'.map (A.den E)).toArray/\dH nl cs'=true
 |[],cs,cs',h,hok=>by simp[ot]at h;subst h;exact⟨J,hok⟩
 |(i,x)::r,cs,cs',h,hok=>by
  simp only[ot]at h
  split at h
  ·
   rename_i off ft sz s hfl hx
   obtain⟨e1,ok1⟩:=cZ Y W hx
   split at h
   ·
    rename_i m T
    obtain⟨h3,h4⟩:=uL Z T ok1
    cases o:Nat.beq m.length sz with
    |false=>simp[o]at h
    |true=>
     simp only[o,Za]at h
     have z:m.length=sz:=by simpa using o
     split at h
     ·
      rename_i B R
      obtain⟨X,h6⟩:=wI R
      have L:dH nl B=true:=by
       rw[X]
       apply gi.2
       intro y l
       simp only[Zc,Zh]at l
       rcases l with l|l|l
       . exact gi.1 hok y (Y7 l)
       . exact gi.1 h4 y l
       . exact gi.1 hok y (YT l)
      have d:(a.eval x).cells=(m.map (A.den E)).toArray:=by rw[e1,h3]
      have t:(Array.zipIdx (m.map (A.den E)).toArray).foldl (λcs (q:Z7×Nat)=>cs.setIfInBounds (off+q.2) q.1) (cs.map (A.den E)).toArray=(B.map (A.den E)).toArray:=by
       apply YN
       rw[<-Array.foldl_toList]
       have:=Hf off (m.map (A.den E)) 0 (cs.map (A.den E)).toArray (by simpa using h6)
       simp only[q_]at this
       rw[show(Array.zipIdx (m.map (A.den E)).toArray).toList=(m.map (A.den E)).zipIdx 0 by simp,this,X]
       simp[z_,y_]
      obtain⟨M,N⟩:=vU Y Z W u h L
      refine⟨?_,N⟩
      simp only[Zq,Instr.fill,u _ _ hfl,d]
      rw[ZX (by simp[z];omega)]
      have:(λ(cs:Array Z7) (x:Z7×Nat)=>match x with|(c,j)=>cs.setIfInBounds (off+j) c)=λcs q=>cs.setIfInBounds (off+q.2) q.1:=rfl
      rw[this,t]
      exact M
     grind
   grind
  . simp at h
theorem I3{P:Z3}{w:Z6}:∀{fs:Z8 Field} {flds:Z8 (Nat×Nat×Nat)},fs.map (λf=>(f.offset,f.type,((P.info? f.type).map (·.size)).getD 0))=flds->ri flds=true->
  (fs.mapM λf=>do pure (f.offset,<-Go.sizeOf f.type):Sem (Z8 (Nat×Nat))).run P w=.ok (flds.map λq=>(q.1,q.2.2)) w
 |[],flds,h,_=>by simp at h;subst h;simp
 |f::fs,flds,h,hp=>by
  cases flds with
  |nil=>simp at h
  |cons q flds=>
   simp at h
   obtain⟨h1,h2⟩:=h
   obtain⟨o,t,sz⟩:=q
   cases sz with
   |zero=>simp[ri]at hp
   |succ sz=>
    simp at h1
    obtain⟨rfl,rfl,d⟩:=h1
    have p:(Go.sizeOf f.type).run P w=.ok (sz+1) w:=by
     cases l:P.info? f.type with
     |none=>simp[l]at d
     |some i=>simp[l]at d;simp[Go.sizeOf,typeInfo,l,d]
    have m:=I3 (P:=P) (w:=w) h2 hp
    simp_all
def tG:SV->Z4 (Z8 A)
 |.agg cs=>some cs
 |.a (.v (.agg cs))=>some (cs.toList.map .v)
 |_=>none
theorem MP{E:Env}{nl:Nat}{s:SV}{cs:Z8 A}(h:tG s=some cs)(hs:s.ok nl=true):s.den E=.agg (cs.map (A.den E)).toArray/\dH nl cs=true:=by
 have d:∀l:Z8 Z7,(l.map A.v).map (A.den E)=l/\dH nl (l.map A.v)=true:=by
  intro l
  induction l with
  |nil=>exact⟨J,J⟩
  |cons x r ih=>exact⟨by simp[A.den,ih.1],by simp[dH,A.ok,ih.2]⟩
 unfold tG at h;split at h;{simp at h;subst h;exact⟨J,by simpa[SV.ok]using hs⟩};{simp at h;subst h;exact⟨by simp only[SV.den,A.den,(d _).1],(d _).2⟩};simp at h
def eI(tt:Z8 (Nat×TI))(F:cy)(O:Own)(p:Z8 (Nat×Bool)):Op->Z4 SV
 |.move x=>cV F p x
 |.assign x=>cV F p x
 |.nilCheck x=>match cV F p x with
  |some (.a (.ptr l off))=>some (.a (.ptr l off))
  |some (.a (.v (.pointer (some b))))=>some (.a (.v (.pointer (some b))))
  |_=>none
 |.pick (.tmp tc) a (.const (.bool false))=>match cV F p (.tmp tc)with
  |some (.a (.v (.bool x)))=>match cV F ((tc,true)::p) a with
   |some (.a (.v (.bool y)))=>some (.a (.v (.bool (x&&y))))
   |_=>none
  |_=>none
 |.pick (.tmp tc) (.const (.bool true)) b=>match cV F p (.tmp tc)with
  |some (.a (.v (.bool x)))=>match cV F ((tc,false)::p) b with
   |some (.a (.v (.bool y)))=>some (.a (.v (.bool (x||y))))
   |_=>none
  |_=>none
 |.load t x=>match cV F p x with
  |some (.a (.ptr l off))=>match lk O l,lk tt t with
   |some (.lit cs _),some ti=>match nf off ti.size cs with
    |some r=>match ti.agg with
     |true=>some (.agg r)
     |false=>qm r
    |none=>none
   |_,_=>none
  |_=>none
 |.fieldAddr s x f=>match cV F p x,lk tt s with
  |some (.a y),some ti=>match ti.flds[f]? with
   |some (fo,_,_+1)=>match y with
    |.ptr l off=>some (.a (.ptr l (off+fo)))
    |.v (.pointer (some ⟨b,off,none⟩))=>some (.a (.v (.pointer (some ⟨b,off+fo,none⟩))))
    |_=>none
   |_=>none
  |_,_=>none
 |.field s x f=>match cV F p x,lk tt s with
  |some v,some ti=>match ti.flds[f]? with
   |some (fo,ft,fs)=>match lk tt ft,v with
    |some fi,v=>match tG v with
     |some cs=>match nf fo fi.size cs with
      |some r=>match fi.agg with
       |true=>some (.agg r)
       |false=>qm r
      |none=>none
     |none=>none
    |_,_=>none
   |none=>none
  |_,_=>none
 |.binOp op t x y _=>match cV F p x,cV F p y with
  |some (.a (.v a)),some (.a (.v b))=>match qH tt op t a b with
   |some v=>some (.a (.v v))
   |none=>none
  |_,_=>none
 |.unOp op _ x=>match cV F p x with
  |some (.a (.v a))=>match un op a with
   |some v=>some (.a (.v v))
   |none=>none
  |_=>none
 |.convert s d x=>match cV F p x,lk tt s,lk tt d with
  |some (.a (.v (.int _ n))),some _,some ⟨_,_,_,_,.int k⟩=>some (.a (.v (.int k (k.wrap n))))
  |_,_,_=>none
 |.makeFunc (.func f) first caps=>match first.toList with
  |[]=>match se F p caps.toList with
   |some l=>some (.a (.fn f l))
   |none=>none
  |_=>none
 |.extract x i=>match cV F p x with
  |some (.tup xs)=>match xs[i]? with
   |some c=>some (.a c)
   |none=>none
  |some (.a (.v (.tuple vs)))=>match vs.toList[i]? with
   |some c=>some (.a (.v c))
   |none=>none
  |_=>none
 |.build t parts=>match lk tt t with
  |some ⟨_,_,z,flds,.struct⟩=>bif ri flds then(match ot F O p flds parts.toList (z.map .v)with
   |some cs=>some (.agg cs)
   |none=>none)else none
  |_=>none
 |.call ⟨.builtin .len,args,ts⟩=>match args.toList,ts.toList with
  |[x],[t]=>match cV F p x,lk tt t with
   |some (.a (.v (.string s))),some ⟨_,_,_,_,.str⟩=>some (.a (.v (.int .i64 s.size)))
   |some (.a (.row l)),some ⟨_,_,_,_,.slice _⟩=>match lk O l with
    |some (.row _ _ n _)=>some (.a (.v (.int .i64 n)))
    |_=>none
   |_,_=>none
  |_,_=>none
 |_=>none
theorem IK{E:Env}{n:Nat}{F:cy}{C:Z8 Nat}{nl:Nat}{a:Act}{p:Z8 (Nat×Bool)}(m:Frm E n F C nl a.tmps)(d:eN F p=true):
  ∀{os:Z8 Operand} {l:Z8 (Nat×Nat)},se F p os=some l->
   os.map a.eval=l.map (λp=>Value.pointer (some ⟨E.ρ p.1,p.2,none⟩))/\qO nl l=true
 |[],l,h=>by simp[se]at h;subst h;exact⟨J,J⟩
 |o::r,l,h=>by
  simp only[se]at h
  cases ho:cV F p o with
  |none=>simp[ho]at h
  |some s=>
   cases s with
   |agg cs=>simp[ho]at h
   |tup cs=>simp[ho]at h
   |a x=>
    cases x with
    |ptr b off=>
     simp only[ho]at h
     cases hr:se F p r with
     |none=>simp[hr]at h
     |some q=>
      simp only[hr,Z0]at h
      subst h
      obtain⟨h1,h2⟩:=IK m d hr
      obtain⟨u,t⟩:=cZ m d ho
      refine⟨by simp[h1,u,SV.den,A.den],?_⟩
      simp only[SV.ok,A.ok]at t
      simp[qO,h2,t]
    |_=>simp[ho]at h
def Yv(P:Z3)(o:Oper)(a:Act)(w:Z6)(v:Z7):Prop:=(execOp a.eval o).run P w=.ok (.value v) w
theorem Gg{P:Z3}{w:Z6}{b:Nat}{cs:Array Z7}{e:Nat}{o:Nat×Nat}(m:w.heap[b]? =some (.cells cs e o))(off n:Nat)(h:off+n<=cs.size): (loadCells ⟨b,off,none⟩ n).run P w=.ok ((cs.toList.drop off).take n).toArray w:=by
 have p:((cs.toList.drop off).take n).length=n:=by simp;omega
 have:=run_loadCells_list (P:=P) w ⟨b,off,none⟩ ((cs.toList.drop off).take n) (λj v l=>by
  have d:(⟨b,off,none⟩:Addr).add j=⟨b,off+j,none⟩:=by unfold Addr.add;split<;>simp_all
  rw[d]
  simp only[World.cell?,m,Option.isSome_none,Zw,Zt]
  rw[List.getElem?_take]at l
  split at l
  . simpa using l
  . cases l)
 simp_all
theorem ut{P:Z3}{t:Nat}{l:TI}(m:TIok P t l){w:Z6}{b off:Nat}{cs:Array Z7}{e:Nat}{z:Nat×Nat} (u:w.heap[b]? =some (.cells cs e z)) (h:off+l.size<=cs.size) (v:Z7) (o:v=match l.agg with|true=>.agg ((cs.toList.drop off).take l.size).toArray|false=>cs[off]?.getD undef) (y:l.agg=false->off<cs.size): (Instr.loadAt t (.pointer (some ⟨b,off,none⟩))).run P w=.ok v w:=by
 simp only[Instr.loadAt,Instr.sureAddr,loadVar,ZR,ZO,ZU,m.isAgg];cases d:l.agg with
 |true=>simp only[d]at o;subst o;simp[ZR,m.sizeOf,Gg (P:=P) u off l.size h]
 |false=>simp only[d]at o;subst o;have p:=y d;simp[World.cell?,u,p]
theorem CU{P:Z3}{tt:Z8 (Nat×TI)}(a0:dl P tt){E:Env}{n:Nat}{F:cy}{C:Z8 Nat}{O:Own}{nl:Nat}{V:Vw}{a:Act}{w:Z6} {p:Z8 (Nat×Bool)} {o:Oper} {s:SV} (hf:Frm E n F C nl a.tmps) (hm:Mem E O nl V w) (hg:eN F p=true) (h:eI tt F O p o.op=some s): Yv P o a w (s.den E)/\s.ok nl=true:=by
 unfold Yv execOp;cases W:o.op with
 |move x=>simp only[W,eI]at h;obtain⟨L,h2⟩:=cZ hf hg h;exact⟨by simp[L],h2⟩
 |assign x=>simp only[W,eI]at h;obtain⟨L,h2⟩:=cZ hf hg h;exact⟨by simp[L],h2⟩
 |nilCheck x=>simp only[W,eI]at h;split at h;{rename_i l off T;simp only[Z0]at h;subst h;obtain⟨L,h2⟩:=cZ hf hg T;exact⟨by simp[L,SV.den,A.den],h2⟩};{rename_i b T;simp only[Z0]at h;subst h;obtain⟨L,h2⟩:=cZ hf hg T;exact⟨by simp[L,SV.den,A.den],h2⟩};cases h
 |pick c x y=>
  simp only[W]at h
  have ak:∀tc xc,cV F p (.tmp tc)=some (.a (.v (.bool xc)))->eN F ((tc,xc)::p)=true:=by
   intro tc xc M;simp only[cV]at M;cases hl:lk F tc with
   |none=>simp[hl]at M
   |some e=>
    simp only[hl]at M;cases hs:ni e.path p with
    |false=>simp[hs]at M
    |true=>simp only[hs,Za,Z0]at M;obtain⟨pe,ge,xe⟩:=e;simp only at M;subst M;simp[eN,hg,ly,hl]
  unfold eI at h;split at h
  all_goals first
   |(cases ‹Op.pick _ _ _=Op.move _›;done)
   |skip
  all_goals try (rename_i a9;cases a9;done)
  .rename_i tc z a9;cases a9;cases M:cV F p (.tmp tc)with
   |none=>simp[M]at h
   |some sc=>
    simp only[M]at h;split at h
    .rename_i xc aD;split at h
     .rename_i yc hy;simp only[Z0]at h;subst h;cases aD;obtain⟨L,_⟩:=cZ hf hg M;refine⟨?_,J⟩;simp only[L,SV.den,A.den,asBool];cases xc with
      |false=>simp[Act.eval]
      |true=>obtain⟨h3,_⟩:=cZ hf (ak tc true M) hy;simp[h3,SV.den,A.den]
     simp at h
    simp at h
  .rename_i tc z _ a9;cases a9;cases M:cV F p (.tmp tc)with
   |none=>simp[M]at h
   |some sc=>
    simp only[M]at h;split at h
    .rename_i xc aD;split at h
     .rename_i yc hy;simp only[Z0]at h;subst h;cases aD;obtain⟨L,_⟩:=cZ hf hg M;refine⟨?_,J⟩;simp only[L,SV.den,A.den,asBool];cases xc with
      |true=>simp[Act.eval]
      |false=>obtain⟨h3,_⟩:=cZ hf (ak tc false M) hy;simp[h3,SV.den,A.den]
     simp at h
    simp at h
  simp at h
 |load t x=>
  simp only[W,eI]at h;cases T:cV F p x with
  |none=>simp[T]at h
  |some sx=>
   simp only[T]at h;split at h
   .rename_i l off a9;cases a9;obtain⟨L,h2⟩:=cZ hf hg T;split at h
    .rename_i cs e ti aq X;have hT:=a0 _ _ X;have hb:=hm.lit _ _ _ aq;have aC:=hm.labs _ _ _ aq;cases M:nf off ti.size cs with
     |none=>simp[M]at h
     |some rr=>
      obtain⟨hr,au⟩:=G9 M;have a8:dH nl rr=true:=gi.2 λx T=>gi.1 aC x (by rw[hr]at T;exact YT (Y7 T));simp only[M]at h;have e1:a.eval x=.pointer (some ⟨E.ρ l,off,none⟩):=L;simp only[e1]
      have R:∀v,(v=match ti.agg with|true=>.agg (((cs.map (A.den E)).drop off).take ti.size).toArray|false=>(cs.map (A.den E)).toArray[off]?.getD undef)->(ti.agg=false->off<cs.length)->
        (Instr.loadAt t (.pointer (some ⟨E.ρ l,off,none⟩))).run P w=.ok v w:=λv hv h0=>ut hT hb (by simpa using au) v (by simpa using hv) (by simpa using h0)
      (have af:(((cs.map (A.den E)).drop off).take ti.size)=rr.map (A.den E):=by rw[hr,z_,y_]);cases N:ti.agg with
      |true=>simp only[N,Z0]at h;subst h;refine⟨?_,a8⟩;have:=R (.agg (rr.map (A.den E)).toArray) (by rw[N];simp only[af]) (by rw[N];simp);simp[this,SV.den]
      |false=>simp only[N]at h;obtain⟨c,aI,rfl⟩:=JN h;subst aI;refine⟨?_,by simpa[dH,SV.ok]using a8⟩;(have b2:off<cs.length:=by (have:(List.take ti.size (List.drop off cs)).length=1:=by rw[<-hr];rfl);simp at this;omega);(have aL:cs[off]? =some c:=by (have L:(List.take ti.size (List.drop off cs))[0]? =some c:=by rw[<-hr];rfl);rw[List.getElem?_take]at L;split at L;{simpa using L};cases L);have:=R (c.den E) (by rw[N];simp[aL]) (λ_=>b2);simp[this,SV.den]
    simp at h
   simp at h
 |fieldAddr s x f=>
  simp only[W,eI]at h;split at h
  .rename_i y ti T X;have hT:=a0 _ _ X;obtain⟨L,h2⟩:=cZ hf hg T;split at h
   .rename_i fo ft fs Z;obtain⟨d,hd,hk,Y⟩:=hT.und;(have ac:∃B,d=.struct B:=by cases d<;>first|exact⟨_,J⟩|(simp only[fieldsOf]at Y;rw[<-Y]at Z;simp at Z));obtain⟨B,rfl⟩:=ac;simp only[fieldsOf]at Y;rw[<-Y]at Z;simp only[List.getElem?_map,Yl,ZN]at Z;obtain⟨fd,ah,aa,aA,ap⟩:=Z
    have aH:∀w':Z6,(Go.sizeOf fd.type).run P w'=.ok (fs+1) w':=by
     intro w';cases hq:P.info? fd.type with
     |none=>simp[hq]at ap
     |some q=>simp[hq]at ap;simp[Go.sizeOf,typeInfo,hq,ap]
    (have aj:B[f]? =some fd:=by simpa using ah);(have R:∀ad:Addr,(Instr.fieldAt s (.pointer (some ad)) f).run P w=.ok (.pointer (some (ad.add fo))) w:=by intro ad;simp[Instr.fieldAt,run_underlying hd,aj,Instr.sureAddr,fieldPlace,aH,aa]);split at h;{rename_i l off;simp only[Z0]at h;subst h;refine⟨?_,by simpa[SV.ok,A.ok]using h2⟩;simp[L,SV.den,A.den,R,Addr.add_lit]};{rename_i b off;simp only[Z0]at h;subst h;refine⟨?_,J⟩;simp[L,SV.den,A.den,R,Addr.add_lit]};simp at h
   simp at h
  simp at h
 |field t x f=>
  simp only[W,eI]at h;split at h
  .rename_i v ti T X;have hT:=a0 _ _ X;obtain⟨L,h2⟩:=cZ hf hg T;split at h
   .rename_i fo ft fs Z;split at h
    .rename_i fi ag;have hF:=a0 _ _ ag;split at h
     case h_2=>simp at h
     rename_i cs aG;obtain⟨e1,aU⟩:=MP (E:=E) aG h2;rw[e1]at L;obtain⟨d,hd,hk,Y⟩:=hT.und;(have ac:∃B,d=.struct B:=by cases d<;>first|exact⟨_,J⟩|(simp only[fieldsOf]at Y;rw[<-Y]at Z;simp at Z));obtain⟨B,rfl⟩:=ac;simp only[fieldsOf]at Y;rw[<-Y]at Z;simp only[List.getElem?_map,Yl,ZN]at Z;obtain⟨fd,ah,aa,aA,ap⟩:=Z;(have aj:B[f]? =some fd:=by simpa using ah);cases M:nf fo fi.size cs with
     |none=>simp[M]at h
     |some rr=>
      obtain⟨hr,au⟩:=G9 M;have a8:dH nl rr=true:=gi.2 λx T=>gi.1 aU x (by rw[hr]at T;exact YT (Y7 T));simp only[M]at h;(have R:∀q,(part fd.type (cs.map (A.den E)).toArray fd.offset).run P w=.ok q w->(Instr.field t (a.eval x) f).run P w=.ok q w:=by intro q hq;simp[Instr.field,run_underlying hd,aj,L,asAgg,hq]);(have af:((((cs.map (A.den E)).drop fo).take fi.size))=rr.map (A.den E):=by rw[hr,z_,y_]);cases N:fi.agg with
      |true=>
       simp only[N,Z0]at h;subst h;refine⟨?_,a8⟩
       have:=R (.agg (rr.map (A.den E)).toArray) (by
        rw[aA,aa]
        have he:(cs.map (A.den E)).toArray.extract fo (fo+fi.size)=(rr.map (A.den E)).toArray:=by
         apply YN
         rw[<-af]
         simp[YX]
        simp only[part,ZR,hF.isAgg,N,ZU,Yf,hF.sizeOf,ZO,he])
       simp[this,SV.den]
      |false=>
       simp only[N]at h;obtain⟨c,aI,rfl⟩:=JN h;subst aI;refine⟨?_,by simpa[dH,SV.ok]using a8⟩;have aL:cs[fo]? =some c:=by (have L:(List.take fi.size (List.drop fo cs))[0]? =some c:=by rw[<-hr];rfl);rw[List.getElem?_take]at L;split at L;{simpa using L};cases L
       have:=R (c.den E) (by
        rw[aA,aa]
        simp[part,ZR,hF.isAgg,N,aL])
       simp[this,SV.den]
    simp at h
   simp at h
  simp at h
 |binOp op t x y u=>
  simp only[W,eI]at h;split at h
  .rename_i va vb T hy;obtain⟨L,_⟩:=cZ hf hg T;obtain⟨h3,_⟩:=cZ hf hg hy;cases hb:qH tt op t va vb with
   |none=>simp[hb]at h
   |some v=>simp only[hb,Z0]at h;subst h;have:=Mu (ox:=x) (oy:=y) a0 hb w;refine⟨?_,J⟩;simp only[L,h3,SV.den,A.den];rw[ZR,this];rfl
  simp at h
 |unOp op t x=>
  simp only[W,eI]at h;split at h
  .rename_i va T;obtain⟨L,_⟩:=cZ hf hg T;cases hb:un op va with
   |none=>simp[hb]at h
   |some v=>simp only[hb,Z0]at h;subst h;refine⟨?_,J⟩;simp only[L,SV.den,A.den,ZR,LN (P:=P) hb w,ZU,ZO]
  simp at h
 |convert t u x=>simp only[W,eI]at h;split at h;{rename_i k0 m si sz by_ z fl k T hs X;obtain⟨L,_⟩:=cZ hf hg T;obtain⟨d,hd,hk,_⟩:=(a0 _ _ X).und;obtain⟨d',b1,_,_⟩:=(a0 _ _ hs).und;(have ab:d=.int k:=by cases d<;>simp[eM]at hk;rw[hk]);subst ab;simp only[Z0]at h;subst h;refine⟨?_,J⟩;simp[L,SV.den,A.den,convert,run_underlying hd,run_underlying b1,Conv.intToInt]};simp at h
 |makeFunc fn first caps=>
  simp only[W]at h;cases fn with
  |func f=>
   simp only[eI]at h;cases ag:first.toList with
   |cons q r=>simp[ag]at h
   |nil=>
    (have aT:first= #[]:=by simpa using Y5 List.toArray ag);simp only[ag]at h;cases M:se F p caps.toList with
    |none=>simp[M]at h
    |some l=>simp only[M,Z0]at h;subst h;obtain⟨L,h2⟩:=IK hf hg M;refine⟨?_,by simpa[SV.ok,A.ok]using h2⟩;subst aT;(have:caps.map a.eval=(l.map (λp=>Value.pointer (some ⟨E.ρ p.1,p.2,none⟩))).toArray:=by apply YN;simpa using L);simp[Instr.makeFunc,this,SV.den,A.den]
  |_=>simp[eI]at h
 |extract x i=>simp only[W,eI]at h;split at h;{rename_i xs T;obtain⟨L,h2⟩:=cZ hf hg T;split at h;{rename_i c M;simp only[Z0]at h;subst h;refine⟨?_,?_⟩;{simp[L,SV.den,Instr.extract,M]};exact gi.1 (by simpa[SV.ok]using h2) c (ZZ M)};simp at h};{rename_i vs T;obtain⟨L,h2⟩:=cZ hf hg T;split at h;{rename_i c M;simp only[Z0]at h;subst h;refine⟨?_,J⟩;(have b3:vs[i]? =some c:=by simpa using M);simp[L,SV.den,A.den,Instr.extract,b3]};simp at h};simp at h
 |build t parts=>
  simp only[W,eI]at h;split at h
  .rename_i sz by_ z flds X;have hT:=a0 _ _ X;cases aK:ri flds with
   |false=>simp[aK]at h
   |true=>
    simp only[aK,Za]at h;split at h
    .rename_i cs aG;simp only[Z0]at h;subst h;obtain⟨d,hd,hk,Y⟩:=hT.und;(have ac:∃B,d=.struct B:=by cases d<;>first|exact⟨_,J⟩|(simp[eM]at hk));obtain⟨B,rfl⟩:=ac;obtain⟨zv,hz,b8⟩:=hT.zeroValue w
     have hv:∀l:Z8 Z7,(l.map A.v).map (A.den E)=l/\dH nl (l.map A.v)=true:=by
      intro l
      induction l with
      |nil=>exact⟨J,J⟩
      |cons x r ih=>exact⟨by simp[A.den,ih.1],by simp[dH,A.ok,ih.2]⟩
     have b5:=I3 (P:=P) (w:=w) Y aK;(have aQ:(B.mapM λf=>do pure (f.offset,<-Go.sizeOf f.type):Sem (Array (Nat×Nat))).run P w=.ok (flds.map λq=>(q.1,q.2.2)).toArray w:=by rw[show B=B.toList.toArray by simp];simp only[g',Sem.run_map,b5,ZU]);obtain⟨ai,aC⟩:=vU (E:=E) hf hm hg (place:=λi=>(flds.map λq=>(q.1,q.2.2)).toArray[i]?) (λi q h=>by simp[h]) aG (hv z).2;refine⟨?_,by simpa[SV.ok]using aC⟩;(have aS:zv.cells=z.toArray:=by apply YN;simpa using b8);rw[(hv z).1]at ai;(have ar:(parts.map λ(q:Nat×Operand)=>(q.1,a.eval q.2)).toList=parts.toList.map λq=>(q.1,a.eval q.2):=by simp);(have R:(Instr.build t (parts.map λ(q:Nat×Operand)=>(q.1,a.eval q.2))).run P w=.ok (.agg (cs.map (A.den E)).toArray) w:=by simp only[Instr.build,ZR,hz,ZU,run_underlying hd,aQ,aS,ar,ai,ZO]);have aB:(Instr.build t (parts.map λx=>match x with|(i,x)=>(i,a.eval x))).run P w=.ok (.agg (cs.map (A.den E)).toArray) w:=R;simp only[ZR,aB,ZU,ZO,SV.den]
    simp at h
  simp at h
 |call c=>
  simp only[W]at h;obtain⟨ao,aO,ts⟩:=c;cases ao with
  |builtin b=>
   cases b with
   |len=>simp only[eI]at h;split at h;{rename_i x t aF b9;(have ha:aO= #[x]:=by simpa using Y5 List.toArray aF);(have ht:ts= #[t]:=by simpa using Y5 List.toArray b9);subst ha ht;split at h;{rename_i sv sz by_ z fl T X;obtain⟨L,_⟩:=cZ hf hg T;obtain⟨d,hd,hk,_⟩:=(a0 _ _ X).und;(have ab:d=.string:=by cases d<;>simp[eM]at hk<;>rfl);subst ab;simp only[Z0]at h;subst h;refine⟨?_,J⟩;simp[resolve,invoke,builtin,Builtin.len_,L,SV.den,A.den,run_underlying hd,goInt]};{rename_i l sz by_ z fl e T X;obtain⟨L,_⟩:=cZ hf hg T;obtain⟨d,hd,hk,_⟩:=(a0 _ _ X).und;(have ab:d=.slice e:=by cases d<;>simp[eM]at hk;rw[hk]);subst ab;split at h;{rename_i e' bh m xs aq;simp only[Z0]at h;subst h;refine⟨?_,J⟩;have aV:=hm.row _ _ _ _ _ aq;(rcases aV.2 with⟨hv,h0⟩|⟨g,bp,bg,hv,_⟩);{simp[resolve,invoke,builtin,Builtin.len_,L,SV.den,A.den,run_underlying hd,goInt,hv,h0]};simp[resolve,invoke,builtin,Builtin.len_,L,SV.den,A.den,run_underlying hd,goInt,hv]};simp at h};simp at h};simp at h
   |_=>simp[eI]at h
  |_=>simp[eI]at h
 |_=>simp[W,eI]at h
#print axioms CU
section
variable{P:Z3}{tt:Z8 (Nat×TI)}{ops:Array Oper}{Q:Exit->Act->Z6->Prop}{o:Oper}{rest:Z8 Oper}
 {n:Nat} {F:cy} {C:Z8 Nat} {O:Own} {nl:Nat} {V:Vw}
theorem Frm.env{E o:Env}{nl':Nat}{tmps:Array Z7}(h:E.agree nl o)(p:nl<=nl')(d:Frm E n F C nl tmps):Frm o n F C nl' tmps:=by
 refine⟨d.size,?_,d.wf,λt e l m=>SV.ok_mono p (d.labs t e l m)⟩;intro t e l;rw[d.val t e l];cases m:e.g with
 |false=>rfl
 |true=>simp;rw[SV.den_agree h (d.labs t e l m)]
theorem jL{E m:Env}(h:E.agree nl m){l:Nat}(d:l<nl)(c:Cel):blk m l c=blk E l c:=by cases c<;>simp[blk,(h l d).1,(h l d).2]
theorem nt{w p:Z6}{b e sz:Nat}{v:Z7}{m:Nat}{xs:Z8 Z7}(h:w.ownsRow b e sz v m xs)(t:∀k,v.ownBlock=some k->p.heap[k]? =w.heap[k]?):p.ownsRow b e sz v m xs:=by refine⟨h.1,?_⟩;(rcases h.2 with hn|⟨g,l,d,rfl,u,o,r⟩);{exact .inl hn};exact .inr ⟨g,l,d,J,u,by rw[t g J];exact o,r⟩
theorem Mem.lt{E:Env}{w:Z6}(o:Mem E O nl V w){l:Nat}{c:Cel}{k:Nat}(p:lk O l=some c)(d:blk E l c=some k):k<w.heap.size:=by
 cases c with
 |lit cs e=>
  have:=o.lit _ _ _ p;simp only[blk,Z0]at d
  grind
 |row e sz m xs=>exact(World.ownsRow.lt (o.row _ _ _ _ _ p) k d).2
 |gone=>simp[blk]at d
 |pin m b=>simp[blk]at d
 |size k=>simp[blk]at d
 |keep m b v=>simp[blk]at d
theorem Mem.keep{E:Env}{w u:Z6}(d:Mem E O nl V w)(h:cH w u):Mem E O nl V u:=by
 have y:∀k,k<w.heap.size->u.heap[k]? =w.heap[k]? :=h.block;refine⟨?_,?_,d.sep,?_,d.off,h.os.trans d.os,h.tape.trans d.tape,h.output.trans d.output,d.lab,d.labs,d.pin,λl k p=>ZC (d.big l k p) h.size,d.kp⟩;{intro l cs e p;rw[y _ (d.lt p J)];exact d.lit l cs e p};{intro l e sz m xs p;exact nt (d.row _ _ _ _ _ p) λk t=>y k (d.lt p t)};intro k o t;have:=d.get k o t
 grind
def Env.setρ(E:Env)(l b:Nat):Env:=⟨λx=>if x=l then b else E.ρ x,E.κ⟩
def Env.setκ(E:Env)(l:Nat)(v:Z7):Env:=⟨E.ρ,λx=>if x=l then v else E.κ x⟩
theorem Env.agree_setρ(E:Env)(b:Nat):E.agree nl (E.setρ nl b):=λl d=>⟨by simp[Env.setρ,Nat.ne_of_lt d],J⟩
theorem Env.agree_setκ(E:Env)(v:Z7):E.agree nl (E.setκ nl v):=λl d=>⟨J,by simp[Env.setκ,Nat.ne_of_lt d]⟩
theorem mh(w:Z6)(o:Obj):Below w.heap.size w (w.alloc o):=(Below.refl _ _).alloc (ZS _) o
theorem Mem.new{E:Env}{w:Z6}(L:Mem E O nl V w){cs:Z8 A}{e:Nat}(X:dH nl cs=true): Mem (E.setρ nl w.heap.size) ((nl,.lit cs e)::O) (nl+1) V (w.alloc (.cells (cs.map (A.den E)).toArray e (0,0))):=by
 have B:E.agree nl (E.setρ nl w.heap.size):=E.agree_setρ _;have N:=L.keep (mh w (.cells (cs.map (A.den E)).toArray e (0,0)))
 have d:∀{l c},lk ((nl,Cel.lit cs e)::O) l=some c->l≠nl->lk O l=some c:=by
  intro l c p Z
  rwa [gB _ _ (λx=>Z x.symm)]at p
 (have t:∀{c},lk ((nl,Cel.lit cs e)::O) nl=some c->c=.lit cs e:=by intro c p;rw[dF]at p;exact(N_ p).symm);have z:(E.setρ nl w.heap.size).ρ nl=w.heap.size:=by simp[Env.setρ]
 have y:∀{l c k},lk O l=some c->blk (E.setρ nl w.heap.size) l c=some k->blk E l c=some k:=by
  intro l c k p M
  rwa [jL B (L.lab _ _ p)]at M
 refine⟨?_,?_,?_,N.get,?_,N.os,N.tape,N.output,?_,?_,?_,?_,?_⟩;{intro l W e' p;by_cases h:l=nl;{subst h;cases t p;rw[z,A.map_agree B X];exact heap_alloc_new w _};have u:=d p h;have:=N.lit l W e' u;rw[(B l (L.lab _ _ u)).1,A.map_agree B (L.labs _ _ _ u)];exact this};{intro l e' sz m xs p;by_cases h:l=nl;{subst h;cases t p};have u:=d p h;exact N.row _ _ _ _ _ u}
 .intro l l' c c' k p u M T;by_cases h:l=nl;{by_cases R:l'=nl;{rw[h,R]};exfalso;subst h;cases t p;have Y:=L.lt (d u R) (y (d u R) T);simp only[blk,z,Z0]at M;omega};by_cases R:l'=nl;{exfalso;subst R;cases t u;have Y:=L.lt (d p h) (y (d p h) M);simp only[blk,z,Z0]at T;omega};exact L.sep l l' c c' k (d p h) (d u R) (y (d p h) M) (y (d u R) T)
 .intro l c k p M;by_cases h:l=nl
  .subst h;cases t p;simp only[blk,z,Z0]at M;subst M;cases hv:V.get w.heap.size with
   |none=>rfl
   |some o=>have:=(Array.getElem?_eq_some_iff.1 (L.get _ _ hv)).1;omega
  exact L.off l c k (d p h) (y (d p h) M)
 {intro l c p;by_cases h:l=nl;{omega};have:=L.lab _ _ (d p h);omega};{intro l W e' p;by_cases h:l=nl;{subst h;cases t p;exact jn om X};exact jn om (L.labs _ _ _ (d p h))};{intro l m b p;by_cases h:l=nl;{subst h;cases t p};obtain⟨h1,h2⟩:=L.pin _ _ _ (d p h);exact⟨(B m h2).1.trans h1,om⟩};{intro l k p;by_cases h:l=nl;{subst h;cases t p};exact N.big _ _ (d p h)};intro l m b v p;by_cases h:l=nl;{subst h;cases t p};obtain⟨h1,h2,h3⟩:=L.kp _ _ _ _ (d p h);exact⟨(B m h3).1.trans h1,(B m h3).2.trans h2,om⟩
def m5(tt:Z8 (Nat×TI))(F:cy)(O:Own):Op->Z4 (Z8 A×Nat)
 |.alloc e=>match lk tt e with
  |some ti=>some (ti.zero.map .v,e)
  |none=>none
 |.box e x=>match cV F [] x with
  |some s=>match mv O s with
   |some cs=>some (cs,e)
   |none=>none
  |none=>none
 |_=>none
theorem HC(y:dl P tt){E:Env}{a:Act}{w:Z6}(W:Frm E n F C nl a.tmps)(hm:Mem E O nl V w){cs:Z8 A}{e:Nat}(h:m5 tt F O o.op=some (cs,e)): (execOp a.eval o).run P w=.ok (.value (.pointer (some ⟨w.heap.size,0,none⟩))) (w.alloc (.cells (cs.map (A.den E)).toArray e (0,0)))/\dH nl cs=true:=by
 unfold execOp;cases d:o.op with
 |alloc t=>
  simp only[d,m5]at h;split at h
  .rename_i ti p;obtain⟨rfl,rfl⟩:=h;obtain⟨z,T,hc⟩:=(y _ _ p).zeroValue w
   have L:∀l:Z8 Z7,(l.map A.v).map (A.den E)=l/\dH nl (l.map A.v)=true:=by
    intro l
    induction l with
    |nil=>exact⟨J,J⟩
    |cons x r ih=>exact⟨by simp[A.den,ih.1],by simp[dH,A.ok,ih.2]⟩
   refine⟨?_,(L _).2⟩;(have B:z.cells=ti.zero.toArray:=by apply YN;simpa using hc);(have m:∀l:Z8 Z7,List.map (A.den E ∘ A.v) l=l:=λl=>by have:=(L l).1;rwa [Ym]at this);simp[Instr.alloc,T,newVar,newRow,B,m]
  simp at h
 |box t x=>simp only[d,m5]at h;split at h;{rename_i s Z;split at h;{rename_i X u;obtain⟨rfl,rfl⟩:=h;obtain⟨R,M⟩:=cZ W (by rfl) Z;obtain⟨Y,N⟩:=uL hm u M;refine⟨?_,N⟩;simp[Instr.box,newVar,newRow,R,Y]};simp at h};simp at h
 |_=>simp[d,m5]at h
theorem ED(B:dl P tt){d:Nat}{cs:Z8 A}{e:Nat}(T:o.guard=none)(N:m5 tt F O o.op=some (cs,e))(hd:o.dst=some d)(z:(Nat.blt d n&& !(dh d C))=true) (l:KJ (wpList P ops Q rest) n ((d,⟨[],true,.a (.ptr nl 0)⟩)::F) C ((nl,.lit cs e)::O) (nl+1) V):KJ (wpList P ops Q (o::rest)) n F C O nl V:=by constructor;intro E a w m M L;simp at z;obtain⟨R,t⟩:=HC B M L N;unfold wpList;rw[show Region.wanted o (yielded ops a.tmps)=true by simp[Region.wanted,T]];simp;left;unfold Oper.wp;rw[R];show wpList P ops Q rest (a.put o.dst _) _;rw[hd];have u:=L.new (cs:=cs) (e:=e) t;refine l.out (E.setρ nl w.heap.size) _ _ (by simp[Act.put,m]) ?_ u;have y:=M.env (E.agree_setρ w.heap.size) (YF nl);have:=Frm.put (p:=[]) (g:=true) (s:=.a (.ptr nl 0)) y z.1 z.2 J sm (λ_=>by simp[SV.ok,A.ok,eD]);simpa[SV.den,A.den,Env.setρ]using this
end
section
variable{P:Z3}{tt:Z8 (Nat×TI)}{ops:Array Oper}{Q:Exit->Act->Z6->Prop}{o:Oper}{rest:Z8 Oper}
 {n:Nat} {F:cy} {C:Z8 Nat} {O:Own} {nl:Nat} {V:Vw} {K:Act->Z6->Prop}
def jG(O:Own):A->Prop
 |.v x=>x.oneCell'=true
 |.ptr _ _=>True
 |.fn _ _=>True
 |.row l=>match lk O l with
  |some (.row _ _ _ _)=>True
  |_=>False
 |.el _ _=>False
 |.rel _ _=>False
def gg(O:Own):Z8 A->Prop
 |[]=>True
 |x::r=>jG O x/\gg O r
theorem RE{E:Env}{w:Z6}(p:Mem E O nl V w){x:A}(h:jG O x):(x.den E).oneCell'=true:=by
 cases x with
 |v x=>exact h
 |ptr l k=>rfl
 |fn f c=>rfl
 |row l=>
  simp only[jG]at h;split at h;{rename_i e sz m xs t;have u:=(p.row _ _ _ _ _ t).2;rcases u with⟨d,_⟩|⟨g,y,o,d,_⟩<;>simp[A.den,d,Value.oneCell']}
  simp_all
 |el x k=>exact h.elim
 |rel l k=>exact h.elim
theorem BQ{E:Env}{w:Z6}(hm:Mem E O nl V w):∀{l:Z8 A},gg O l-> ∀v∈l.map (A.den E),v.oneCell'=true
 |[],_,v,hv=>by simp at hv
 |x::r,h,v,hv=>by
  simp only[Zq,Zg]at hv
  rcases hv with rfl|hv
  . exact RE hm h.1
  . exact BQ hm h.2 v hv
theorem Mem.set{E:Env}{w:Z6}(u:Mem E O nl V w){l:Nat}{cs cs':Z8 A}{e:Nat}(T:lk O l=some (.lit cs e))(a9:dH nl cs'=true): Mem E ((l,.lit cs' e)::O) nl V (w.setRow (E.ρ l) (cs'.map (A.den E)).toArray):=by
 have hb:=u.lit _ _ _ T;have M:∀k,k≠E.ρ l->(w.setRow (E.ρ l) (cs'.map (A.den E)).toArray).heap[k]? =w.heap[k]? :=λk y=>setRow_other w _ k _ y
 have p:∀{d c},lk ((l,Cel.lit cs' e)::O) d=some c->d≠l->lk O d=some c:=by
  intro d c h B
  rwa [gB _ _ (λx=>B x.symm)]at h
 (have t:∀{c},lk ((l,Cel.lit cs' e)::O) l=some c->c=.lit cs' e:=by intro c h;rw[dF]at h;exact(N_ h).symm);(have z:∀{d c k},lk ((l,Cel.lit cs' e)::O) d=some c->blk E d c=some k-> ∃X,lk O d=some X/\blk E d X=some k:=by intro d c k h y;by_cases o:d=l;{subst o;cases t h;exact⟨_,T,y⟩};exact⟨c,p h o,y⟩);(have B:∀{d c k},lk O d=some c->blk E d c=some k->d≠l->k≠E.ρ l:=by intro d c k h y o he;exact o<|u.sep d l c _ k h T y (by simp[blk,he]));refine⟨?_,?_,?_,?_,?_,u.os,u.tape,u.output,?_,?_,?_,?_,?_⟩;{intro d R e' h;by_cases o:d=l;{subst o;cases t h;exact setRow_heap w _ _ _ _ _ hb};have L:=p h o;rw[M _ (B L J o)];exact u.lit _ _ _ L};{intro d e' sz m xs h;by_cases o:d=l;{subst o;cases t h};have L:=p h o;exact nt (u.row _ _ _ _ _ L) λk y=>M k (B L y o)};{intro l1 l2 c1 c2 k h1 h2 Z Y;obtain⟨a0,a8,N⟩:=z h1 Z;obtain⟨a6,a7,W⟩:=z h2 Y;exact u.sep l1 l2 a0 a6 k a8 a7 N W};{intro k ob y;rw[M k ?_];{exact u.get k ob y};intro he;have:=u.off l _ k T (by simp[blk,he]);rw[y]at this;cases this};{intro d c k h y;obtain⟨X,L,a5⟩:=z h y;exact u.off d X k L a5};{intro d c h;by_cases o:d=l;{subst o;exact u.lab _ _ T};exact u.lab _ _ (p h o)};{intro d R e' h;by_cases o:d=l;{subst o;cases t h;exact a9};exact u.labs _ _ _ (p h o)};{intro d m b h;by_cases o:d=l;{subst o;cases t h};exact u.pin _ _ _ (p h o)};{intro d k h;by_cases o:d=l;{subst o;cases t h};simpa using u.big _ _ (p h o)};intro d m b v h;by_cases o:d=l;{subst o;cases t h};exact u.kp _ _ _ _ (p h o)
def m8(tt:Z8 (Nat×TI))(F:cy)(O:Own):Op->Z4 (Nat×Z8 A×Nat×Z8 A)
 |.store t y x=>match cV F [] y,cV F [] x,lk tt t with
  |some (.a (.ptr l off)),some s,some ti=>match lk O l,mv O s with
   |some (.lit cs e),some vs=>bif Nat.beq vs.length ti.size then(match jB off vs cs with
    |some r=>some (l,r,e,vs)
    |none=>none)else none
   |_,_=>none
  |_,_,_=>none
 |_=>none
theorem fw(a6:dl P tt){l:Nat}{cs':Z8 A}{e:Nat}{vs:Z8 A}(hg:o.guard=none)(hd:o.dst=none)(d:m8 tt F O o.op=some (l,cs',e,vs))(h1:gg O vs) (T:KJ (wpList P ops Q rest) n F C ((l,.lit cs' e)::O) nl V):KJ (wpList P ops Q (o::rest)) n F C O nl V:=by
 constructor;intro E a w Y Z W
 have key:∃cs,lk O l=some (.lit cs e)/\dH nl cs'=true/\(execOp a.eval o).run P w=.ok .skip (w.setRow (E.ρ l) (cs'.map (A.den E)).toArray):=by
  unfold execOp;cases M:o.op with
  |store t y x=>
   simp only[M,m8]at d;split at d
   .rename_i l' off s ti hy u a5;obtain⟨e1,_⟩:=cZ Z (by rfl) hy;obtain⟨e2,X⟩:=cZ Z (by rfl) u;split at d
    .rename_i cs e' m p a7;cases B:Nat.beq m.length ti.size with
     |false=>simp[B]at d
     |true=>simp only[B,Za]at d;split at d;{rename_i r hr;simp at d;obtain⟨rfl,rfl,rfl,rfl⟩:=d;obtain⟨h3,h4⟩:=uL W a7 X;obtain⟨h5,h6⟩:=wI hr;have z:=W.labs _ _ _ p;refine⟨cs,p,?_,?_⟩;{rw[h5];apply gi.2;intro x u;simp at u;(rcases u with u|u|u);{exact gi.1 z x (Y7 u)};{exact gi.1 h4 x u};exact gi.1 z x (YT u)};have N:=run_storeCells_at P (E.ρ l') off e' (m.map (A.den E)) 0 (cs.map (A.den E)).toArray w (W.lit _ _ _ p) (by simpa using h6) (BQ W h1);have a9:a.eval y=.pointer (some ⟨E.ρ l',off,none⟩):=e1;(have L:(s.den E).cells.size=ti.size:=by rw[h3];simpa using(YU▸B));(have a8:(s.den E).cells.toList=m.map (A.den E):=by rw[h3]);(have R:((cs.map (A.den E)).toArray.toList.take (off+0)++m.map (A.den E)++(cs.map (A.den E)).toArray.toList.drop (off+0+(m.map (A.den E)).length)).toArray=(r.map (A.den E)).toArray:=by simp_all);rw[R]at N;simp only[a9,e2,Instr.storeAt,Instr.sureAddr,storeVar,ZR,ZO,ZU,(a6 _ _ a5).sizeOf,L,ne_eq,W_,Zt,a8,N]};simp at d
    simp at d
   simp at d
  |_=>simp[M,m8]at d
 obtain⟨cs,p,z,hr⟩:=key;unfold wpList;rw[show Region.wanted o (yielded ops a.tmps)=true by simp[Region.wanted,hg]];simp;left;unfold Oper.wp;rw[hr];show wpList P ops Q rest (a.put o.dst undef) _;rw[hd];exact T.out E a _ Y Z<|W.set p z
theorem Ir{x y:Code}(h:KJ (x.wp P (Exit.then (y.wp P Q) Q)) n F C O nl V):KJ ((Code.seq x y).wp P Q) n F C O nl V:=
 ⟨λE a w hd l d=>wp_seq (h.out E a w hd l d)⟩
theorem Gj{id:Nat}{l:Z8 Oper}(h:KJ (wpList P l.toArray Q l) n F C O nl V):KJ ((Code.region id l.toArray false).wp P Q) n F C O nl V:=
 ⟨λE a w hd m d=>wp_region_lit (h.out E a w hd m d)⟩
theorem KX{id:Nat}{c:Code}(h:KJ (c.wp P (Exit.inBlock id Q)) n F C O nl V):KJ ((Code.block id c).wp P Q) n F C O nl V:=
 ⟨λE a w hd l d=>wp_block (h.out E a w hd l d)⟩
theorem Gu{id:Nat}(h:KJ (Q (.exit id)) n F C O nl V):KJ ((Code.exit id).wp P Q) n F C O nl V:=
 ⟨λE a w hd l d=>wp_exit (h.out E a w hd l d)⟩
theorem G2(h:KJ (Q .ret) n F C O nl V):KJ (Code.ret.wp P Q) n F C O nl V:=
 ⟨λE a w hd l d=>wp_ret (h.out E a w hd l d)⟩
theorem KA(h:KJ (Q .normal) n F C O nl V):KJ (Code.skip.wp P Q) n F C O nl V:=
 ⟨λE a w hd l d=>wp_skip (h.out E a w hd l d)⟩
theorem C6{c:Operand}{x y:Code}{b:Bool}(p:cV F [] c=some (.a (.v (.bool b))))(o:b=true->KJ (x.wp P Q) n F C O nl V)(m:b=false->KJ (y.wp P Q) n F C O nl V):
  KJ ((Code.cond c x y).wp P Q) n F C O nl V:=
 ⟨λE a w hd d l=>by
  have:=(cZ d (by rfl) p).1
  cases b with
  |true=>exact wp_cond_true this ((o J).out E a w hd d l)
  |false=>exact wp_cond_false this ((m J).out E a w hd d l)⟩
theorem Fj(h:KJ K n F C O nl V):KJ (Exit.then K Q .normal) n F C O nl V:=⟨h.out⟩
theorem FQ(h:KJ (Q .ret) n F C O nl V):KJ (Exit.then K Q .ret) n F C O nl V:=⟨h.out⟩
theorem Fm{i:Nat}(h:KJ (Q (.exit i)) n F C O nl V):KJ (Exit.then K Q (.exit i)) n F C O nl V:=⟨h.out⟩
theorem E5{id:Nat}(h:KJ (Q .normal) n F C O nl V):KJ (Exit.inBlock id Q .normal) n F C O nl V:=⟨h.out⟩
theorem F4{id:Nat}(h:KJ (Q .ret) n F C O nl V):KJ (Exit.inBlock id Q .ret) n F C O nl V:=⟨h.out⟩
theorem Ax{id:Nat}(h:KJ (Q .normal) n F C O nl V):KJ (Exit.inBlock id Q (.exit id)) n F C O nl V:=
 ⟨λE a w hd l d=>by simp only[Exit.inBlock,Yf];exact h.out E a w hd l d⟩
theorem sO{id i:Nat}(d:Nat.beq i id=false)(h:KJ (Q (.exit i)) n F C O nl V):KJ (Exit.inBlock id Q (.exit i)) n F C O nl V:=
 ⟨λE a w hd m l=>by
  have:i≠id:=λe=>by rw[e]at d;simp at d
  simp only[Exit.inBlock,this,Zt];exact h.out E a w hd m l⟩
def oi(F:cy):Z8 Nat->cy->Z4 cy
 |[],acc=>some acc
 |t::ts,acc=>match cV F [] (.tmp t)with
  |some x=>oi F ts ((t,⟨[],true,x⟩)::acc)
  |none=>none
theorem Fh{t:Nat}{x:SV}(h:cV F [] (.tmp t)=some x):∃g,lk F t=some ⟨[],g,x⟩:=by
 simp only[cV]at h;split at h
 .rename_i e d;obtain⟨p,g,y⟩:=e;cases p with
  |nil=>
   simp only[ni,Za,Z0]at h
   simp_all
  |cons q r=>simp[ni,qu]at h
 simp at h
def vy(F F':cy):Prop:= ∀t e,lk F' t=some e-> ∃x,e=⟨[],true,x⟩/\cV F [] (.tmp t)=some x
theorem yJ:∀(ts:Z8 Nat) (acc F':cy),vy F acc->oi F ts acc=some F'->vy F F'
 |[],acc,F',ha,h=>by simp only[oi,Z0]at h;subst h;exact ha
 |t::ts,acc,F',ha,h=>by
  simp only[oi]at h
  split at h
  ·
   rename_i x hx
   refine yJ ts _ F' ?_ h
   intro u e hu
   rw[fm]at hu
   by_cases he:t=u
   ·
    simp_all
   ·
    simp only[he,Zt]at hu
    exact ha u e hu
  . simp at h
theorem Frm.plain{E:Env}{w:cy}{tmps:Array Z7}(d:Frm E n F C nl tmps)(u:vy F w):Frm E n w [] nl tmps:=by
 refine⟨d.size,?_,?_,?_⟩
 .intro t e m;obtain⟨x,rfl,p⟩:=u t e m;obtain⟨g,l⟩:=Fh p;have:=d.val t _ l;have o:=(d.wf t _ l).1;simp only[eN]at o
  simp_all
 {intro t e m;obtain⟨x,rfl,p⟩:=u t e m;exact⟨J,sm⟩};intro t e m _;obtain⟨x,rfl,p⟩:=u t e m;obtain⟨g,l⟩:=Fh p;have o:=(d.wf t _ l).1;simp at o;subst o;exact d.labs t _ l J
theorem du(l:Z8 Nat){d:cy}(p:oi F l []=some d)(h:KJ (Q .normal) n d [] O nl V):KJ (wpList P ops Q []) n F C O nl V:=
 ⟨λE a w hd o m=>h.out E a w hd (o.plain (yJ l [] d (λt e h=>by simp[lk]at h) p)) m⟩
def eY:Z8 Z7->Z7
 |[v]=>v
 |l=>.tuple l.toArray
def jN(tt:Z8 (Nat×TI))(F:cy)(O:Own):Z8 ResultVar->Z4 (Z8 SV)
 |[]=>some []
 |r::rs=>match(match r with
   |.tmp t=>cV F [] (.tmp t)
   |.cell t ty=>eI tt F O [] (.load ty (.tmp t)))with
  |some s=>match jN tt F O rs with
   |some l=>some (s::l)
   |none=>none
  |none=>none
theorem Wu{E:Env}{a:Act}{w:Z6}(m:dl P tt){t ty:Nat}{s:SV}(p:Frm E n F C nl a.tmps)(z:Mem E O nl V w)(h:eI tt F O [] (.load ty (.tmp t))=some s):
  (do loadVar ty (<-asAddr (a.tmps.getD t undef)):Sem Z7).run P w=.ok (s.den E) w/\s.ok nl=true:=by
 obtain ⟨d, L⟩ := CU (o := ⟨none, .load ty (.tmp t), 0, "", #[], none⟩) m p z (by rfl) h
 refine⟨?_,L⟩
 simp only[eI]at h
 split at h
 ·
  rename_i l off N
  have u:=(cZ p (by rfl) N).1
  unfold Yv execOp at d
  have M:a.tmps.getD t undef=.pointer (some ⟨E.ρ l,off,none⟩):=u
  have B:a.eval (.tmp t)=.pointer (some ⟨E.ρ l,off,none⟩):=u
  simp only[B,Instr.loadAt,Instr.sureAddr,ZR,ZO,ZU]at d
  simp only[M,asAddr,ZR,ZO,ZU]
  cases y:(loadVar ty ⟨E.ρ l,off,none⟩).run P w with
  |halt x w'=>simp[y]at d
  |ok x w'=>
   simp only[y,ZU]at d
   simp_all
 . simp at h
def za(tmps:Array Z7):ResultVar->Sem Z7
 |.tmp t=>pure (tmps.getD t undef)
 |.cell a t=>do loadVar t (<-asAddr (tmps.getD a undef))
theorem DG{E:Env}{a:Act}{w:Z6}(d:dl P tt)(m:Frm E n F C nl a.tmps)(o:Mem E O nl V w):
  ∀{rs:Z8 ResultVar} {ss:Z8 SV},jN tt F O rs=some ss->
   (rs.mapM (za a.tmps)).run P w=.ok (ss.map (SV.den E)) w/\ ∀s∈ss,s.ok nl=true
 |[],ss,h=>by simp[jN]at h;subst h;simp
 |r::rs,ss,h=>by
  simp only[jN]at h
  split at h
  ·
   rename_i s hs
   split at h
   ·
    rename_i l hl
    simp at h
    subst h
    obtain⟨ih1,ih2⟩:=DG d m o hl
    have u:(za a.tmps r).run P w=.ok (s.den E) w/\s.ok nl=true:=by
     cases r with
     |tmp t=>
      obtain⟨y,p⟩:=cZ m (by rfl) hs
      exact⟨by simp only[za,ZO];congr 1,p⟩
     |cell t ty=>exact Wu d m o hs
    simp_all
   grind
  . simp at h
theorem Cj(p:dl P tt){fn:Func}{R:Ending->Z6->Prop}{d:Z8 SV}(L:jN tt F O fn.results.toList=some d) (h:∀E w,Mem E O nl V w->(∀s∈d,s.ok nl=true)->R (.returned (eY (d.map (SV.den E)))) w) (e:Exit) (B:e=.normal\/e=.ret):KJ (bodyPost P fn R e) n F C O nl V:=by
 constructor;intro E a w hd z o;obtain⟨M,t⟩:=DG p z o L
 have y:(results fn a.tmps).run P w=.ok (eY (d.map (SV.den E))) w:=by
  unfold results;rw[show fn.results=fn.results.toList.toArray by simp];have m:=M;unfold za at m;simp only[g',ZR,Sem.run_map]
  erw [m]
  simp only[ZU,ZO];congr 1;generalize d.map (SV.den E)=l
  match l with
  |[]=>rfl
  |[v]=>rfl
  |v::u::r=>simp[eY]
 (rcases B with rfl|rfl);{exact⟨hd,_,y,h E w o t⟩};exact⟨hd,_,y,h E w o t⟩
theorem cL(l:dl P tt){fn:Func}{R:Ending->Z6->Prop}{d:Z8 SV}(m:jN tt F O fn.results.toList=some d)
  (h:∀E w,Mem E O nl V w->(∀s∈d,s.ok nl=true)->R (.returned (eY (d.map (SV.den E)))) w):KJ (bodyPost P fn R .ret) n F C O nl V:=Cj l m h _ (.inr J)
theorem g6(l:dl P tt){fn:Func}{R:Ending->Z6->Prop}{d:Z8 SV}(m:jN tt F O fn.results.toList=some d)
  (h:∀E w,Mem E O nl V w->(∀s∈d,s.ok nl=true)->R (.returned (eY (d.map (SV.den E)))) w):KJ (bodyPost P fn R .normal) n F C O nl V:=Cj l m h _ (.inl J)
def k5:Z8 SV->Nat->cy
 |[],_=>[]
 |s::r,i=>(i,⟨[],true,s⟩)::k5 r (i+1)
theorem rL:∀(ss:Z8 SV) (i t:Nat) (e:Ent),lk (k5 ss i) t=some e-> ∃s,i<=t/\ss[t - i]? =some s/\e=⟨[],true,s⟩
 |[],i,t,e,h=>by simp[k5,lk]at h
 |s::r,i,t,e,h=>by
  simp only[k5,fm]at h
  by_cases hi:i=t
  ·
   simp_all
  ·
   simp only[hi,Zt]at h
   obtain⟨s',h1,h2,h3⟩:=rL r (i+1) t e h
   grind
theorem enter{f:Nat}{fn:Func}{c:Code}{R:Ending->Z6->Prop}{w:Z6}{E:Env}(d:Z8 SV)(y:P.funcs[f]? =some fn)(M:fn.body=some c)(N:fn.ntmps=n) (L:Mem E O nl V w) (p:kI nl d=true) (z:Nat.ble d.length n=true) (h:KJ (c.wp P (bodyPost P fn R)) n (k5 d 0) [] O nl V):Calls P f (d.map (SV.den E)).toArray w R:=by refine calls_of_wp y M<|h.out E _ w J ?_ L;(have B:d.length<=n:=by simpa using z);subst N;refine⟨by simp;omega,?_,?_,?_⟩;{intro t e m;obtain⟨s,_,l,rfl⟩:=rL d 0 t e m;simp at l;obtain⟨u,o⟩:=List.getElem?_eq_some_iff.1 l;simp[Array.getElem?_append,u,o]};{intro t e m;obtain⟨s,_,l,rfl⟩:=rL d 0 t e m;exact⟨J,sm⟩};intro t e m _;obtain⟨s,_,l,rfl⟩:=rL d 0 t e m;exact allOk'_iff.1 p s<|ZZ l
end
theorem PW{P:Z3}{Q:Exit->Act->Z6->Prop}{c:Code}{σ:Type}(I:σ->Act->Z6->Prop)(μ:σ->Nat){a:Act}{w:Z6}(L:σ)(T:I L a w) (p:∀x a w,I x a w->c.wp P (Exit.then (λa' w'=>∃x',I x' a' w'/\μ x'<μ x) Q) a w):(Code.loop c).wp P Q a w:=by
 intro b k cs
 have key:∀m x a w,μ x=m->I x a w->
   ∃e a' w',Q e a' w'/\Arrives P (lone (b.at a (.code c:: .inLoop c::k)) cs w) b k cs e a' w':=by
  intro m
  induction m using Nat.strongRecOn with
  |_ m ih=>
   intro x a w R N
   obtain⟨e,y,u,o,d⟩:=p x a w N b (.inLoop c::k) cs
   cases e with
   |normal=>
    obtain⟨x',E,B⟩:=o
    obtain⟨M,O,V,z,t⟩:=ih (μ x') (R▸B) x' y u J E
    exact⟨M,O,V,z,.of_steps (Steps.trans d (.one step_inLoop)) t⟩
   |exit id=>exact⟨_,y,u,o,.pass J (λ_ _=>.inl sm) d⟩
   |goto l=>exact⟨_,y,u,o,.pass J (λ_ _=>.inl sm) d⟩
   |ret=>exact⟨_,y,u,o,.pass J (λ_ _=>.inl sm) d⟩
   |panic ch=>exact⟨_,y,u,o,.pass J (λ_ _=>.inl sm) d⟩
   |outgrown=>exact⟨_,y,u,o,.pass J (λ_ _=>.inl sm) d⟩
 obtain⟨e,a',w',o,d⟩:=key _ L a w J T;exact⟨e,a',w',o,.of_steps (.one step_loop) d⟩
section
variable{P:Z3}{tt:Z8 (Nat×TI)}{ops:Array Oper}{Q:Exit->Act->Z6->Prop}{o:Oper}{rest:Z8 Oper}
 {n:Nat} {F:cy} {C:Z8 Nat} {O:Own} {nl:Nat} {V:Vw} {K:Act->Z6->Prop}
def dA:Z8 (Nat×SV)->cy
 |[]=>[]
 |(t,x)::r=>(t,⟨[],true,x⟩)::dA r
def dT(F:cy):Z8 (Nat×SV)->Prop
 |[]=>True
 |(t,x)::r=>cV F [] (.tmp t)=some x/\dT F r
theorem dT.plain:∀{l:Z8 (Nat×SV)},dT F l->vy F (dA l)
 |[],_,t,e,h=>by simp[dA,lk]at h
 |(u,x)::r,hs,t,e,h=>by
  simp only[dA,fm]at h
  by_cases he:u=t
  ·
   subst he
   simp at h
   exact⟨x,h.symm,hs.1⟩
  ·
   simp only[he,Zt]at h
   exact dT.plain hs.2 t e h
def dm(O:Own):Own->Prop
 |[]=>True
 |(l,c)::r=>lk O l=some c/\dm O r
theorem dm.lk:∀{O':Own},dm O O'-> ∀{l:Nat} {c:Cel},Eng.lk O' l=some c->Eng.lk O l=some c
 |[],_,l,c,h=>by simp[Eng.lk]at h
 |(u,x)::r,hs,l,c,h=>by
  simp only[fm]at h
  by_cases he:u=l
  ·
   subst he
   simp at h
   subst h
   exact hs.1
  ·
   simp only[he,Zt]at h
   exact dm.lk hs.2 h
def eA(nl:Nat):Own->Bool
 |[]=>true
 |(l,c)::r=>Nat.blt l nl&&(match c with|.lit cs _=>dH nl cs|.pin m _=>Nat.blt m nl|.keep m _ _=>Nat.blt m nl|_=>true)&&eA nl r
theorem mr:∀{O:Own},eA nl O=true-> ∀{l:Nat} {c:Cel},Eng.lk O l=some c->l<nl/\(∀cs e,c=.lit cs e->dH nl cs=true)/\(∀m b,c=.pin m b->m<nl)/\ ∀m b v,c=.keep m b v->m<nl
 |[],_,l,c,h=>by simp[Eng.lk]at h
 |(u,x)::r,hs,l,c,h=>by
  simp only[eA,Z1,eD]at hs
  simp only[fm]at h
  by_cases he:u=l
  ·
   subst he
   simp only[Yf,Z0]at h
   subst h
   refine⟨hs.1.1,λcs e hx=>?_,λm b hx=>?_,λm b v hx=>?_⟩
   ·
    simp_all
   ·
    simp_all
   simp_all
  ·
   simp only[he,Zt]at h
   exact mr hs.2 h
def iO(nl:Nat):Z8 (Nat×SV)->Bool
 |[]=>true
 |(_,x)::r=>x.ok nl&&iO nl r
theorem Ey:∀{l:Z8 (Nat×SV)},iO nl l=true-> ∀{t:Nat} {e:Ent},Eng.lk (dA l) t=some e->e.x.ok nl=true
 |[],_,t,e,h=>by simp[dA,Eng.lk]at h
 |(u,x)::r,hs,t,e,h=>by
  simp only[iO,Z1]at hs
  simp only[dA,fm]at h
  by_cases he:u=t
  ·
   grind
  ·
   simp only[he,Zt]at h
   exact Ey hs.2 h
theorem Mem.weak{E:Env}{w:Z6}{O':Own}{nl':Nat}{t:Vw}(d:Mem E O nl V w)(hO:dm O O')(o:eA nl' O'=true)(hV:t.le V):Mem E O' nl' t w:=by
 refine⟨λl cs e h=>d.lit _ _ _ (hO.lk h),λl e sz m xs h=>d.row _ _ _ _ _ (hO.lk h),λl L c u k h z=>d.sep l L c u k (hO.lk h) (hO.lk z),
  λk p h=>d.get k p (hV.get k p h),?_,d.os.trans hV.os,d.tape.trans hV.tape,d.output.trans hV.output,
  λl c h=>(mr o h).1,λl cs e h=>(mr o h).2.1 cs e J,λl m b h=>⟨(d.pin _ _ _ (hO.lk h)).1,(mr o h).2.2.1 m b J⟩,λl k h=>d.big _ _ (hO.lk h),
  λl m b v h=>⟨(d.kp _ _ _ _ (hO.lk h)).1,(d.kp _ _ _ _ (hO.lk h)).2.1,(mr o h).2.2.2 m b v J⟩⟩
 intro l c k h y;have:=d.off l c k (hO.lk h) y;cases B:t.get k with
 |none=>rfl
 |some p=>rw[hV.get k p B]at this;cases this
theorem Frm.weak{E:Env}{tmps:Array Z7}{l:Z8 (Nat×SV)}{nl':Nat}(m:Frm E n F C nl tmps)(hs:dT F l)(d:iO nl' l=true):Frm E n (dA l) [] nl' tmps:=by have h:=m.plain hs.plain;exact⟨h.size,h.val,h.wf,λt e o _=>Ey d o⟩
theorem rE{l:Z8 (Nat×SV)}{O':Own}{nl':Nat}{m:Vw}(h:KJ K n (dA l) [] O' nl' m)(hs:dT F l)(hO:dm O O')(d:(iO nl' l&&eA nl' O')=true)(hV:m.le V): KJ K n F C O nl V:=by simp at d;exact⟨λE a w hd p o=>h.out E a w hd (p.weak hs d.1) (o.weak hO d.2 hV)⟩
def gM{σ:Type}(n:Nat)(Fx:σ->Z8 (Nat×SV))(Ox:σ->Own)(nl:Nat)(Vx:σ->Vw)(x:σ)(a:Act)(w:Z6):Prop:=
 ∃E,a.defers=[]/\Frm E n (dA (Fx x)) [] nl a.tmps/\Mem E (Ox x) nl (Vx x) w
theorem wx{σ:Type}{Fx:σ->Z8 (Nat×SV)}{Ox:σ->Own}{nl':Nat}{Vx:σ->Vw}(x:σ)(hs:dT F (Fx x))(hO:dm O (Ox x))(d:(iO nl' (Fx x)&&eA nl' (Ox x))=true)(hV:(Vx x).le V): KJ (gM n Fx Ox nl' Vx x) n F C O nl V:=by simp at d;exact⟨λE a w hd m l=>⟨E,hd,m.weak hs d.1,l.weak hO d.2 hV⟩⟩
theorem ql{c:Code}{σ:Type}(Fx:σ->Z8 (Nat×SV))(Ox:σ->Own)(nl':Nat)(Vx:σ->Vw)(I:σ->Prop)(μ:σ->Nat)(d:σ) (L:I d) (hs:dT F (Fx d)) (hO:dm O (Ox d)) (o:(iO nl' (Fx d)&&eA nl' (Ox d))=true) (hV:(Vx d).le V) (l:∀x,I x->KJ (c.wp P (Exit.then (λa w=>∃x',(gM n Fx Ox nl' Vx x' a w/\I x')/\μ x'<μ x) Q)) n (dA (Fx x)) [] (Ox x) nl' (Vx x)): KJ ((Code.loop c).wp P Q) n F C O nl V:=by constructor;intro E a w hd y u;refine PW (λx a w=>gM n Fx Ox nl' Vx x a w/\I x) μ d ⟨(wx (C:=C) d hs hO o hV).out E a w hd y u,L⟩ ?_;rintro x a w ⟨⟨z,p,t,m⟩,B⟩;exact(l x B).out z a w p t m
theorem PR{σ:Type}{Fx:σ->Z8 (Nat×SV)}{Ox:σ->Own}{nl':Nat}{Vx:σ->Vw}{I:σ->Prop}{m:Nat}{μ:σ->Nat}(d:σ)
  (t:I d) (hμ:μ d<m) (hs:dT F (Fx d)) (hO:dm O (Ox d)) (l:(iO nl' (Fx d)&&eA nl' (Ox d))=true) (hV:(Vx d).le V):
  KJ (λa w=>∃d,(gM n Fx Ox nl' Vx d a w/\I d)/\μ d<m) n F C O nl V:=
 ⟨λE a w hd p o=>⟨d,⟨(wx (n:=n) (C:=C) d hs hO l hV).out E a w hd p o,t⟩,hμ⟩⟩
theorem LU{x y:Code}{σ:Type}(Fx:σ->Z8 (Nat×SV))(Ox:σ->Own)(nl':Nat)(Vx:σ->Vw)(I:σ->Prop) (N:KJ (x.wp P (Exit.then (λa w=>∃x',gM n Fx Ox nl' Vx x' a w/\I x') Q)) n F C O nl V) (L:∀x',I x'->KJ (y.wp P Q) n (dA (Fx x')) [] (Ox x') nl' (Vx x')):KJ ((Code.seq x y).wp P Q) n F C O nl V:=by
 constructor;intro E a w hd t p;refine wp_seq<|wp_mono (N.out E a w hd t p) ?_;intro e M B o;cases e with
 |normal=>obtain⟨x',⟨u,l,m,d⟩,z⟩:=o;exact(L x' z).out u M B l m d
 |_=>exact o
theorem DO{σ:Type}{Fx:σ->Z8 (Nat×SV)}{Ox:σ->Own}{nl':Nat}{Vx:σ->Vw}{I:σ->Prop}(d:σ)
  (p:I d) (hs:dT F (Fx d)) (hO:dm O (Ox d)) (l:(iO nl' (Fx d)&&eA nl' (Ox d))=true) (hV:(Vx d).le V):
  KJ (λa w=>∃d,gM n Fx Ox nl' Vx d a w/\I d) n F C O nl V:=
 ⟨λE a w hd o m=>⟨d,(wx (n:=n) (C:=C) d hs hO l hV).out E a w hd o m,p⟩⟩
def eJ (P : Z3) (f : Nat) : Prop := ∃ fn, P.funcs[f]? = some fn ∧ (fn.name == "runtime.NumGoroutine") = false ∧ fn.body.isNone = false
def qC(F:cy)(p:Z8 (Nat×Bool)):Z8 Operand->Z4 (Z8 SV)
 |[]=>some []
 |x::r=>match cV F p x with
  |some s=>match qC F p r with
   |some l=>some (s::l)
   |none=>none
  |none=>none
theorem vp{E:Env}{a:Act}{p:Z8 (Nat×Bool)}(m:Frm E n F C nl a.tmps)(d:eN F p=true):∀{xs:Z8 Operand} {ss:Z8 SV},qC F p xs=some ss->
  xs.map a.eval=ss.map (SV.den E)/\kI nl ss=true
 |[],ss,h=>by simp[qC]at h;subst h;exact⟨J,J⟩
 |x::r,ss,h=>by
  simp only[qC]at h
  split at h
  ·
   rename_i s hs
   split at h
   ·
    rename_i l hl
    simp at h
    subst h
    obtain⟨h1,h2⟩:=cZ m d hs
    obtain⟨t,o⟩:=vp m d hl
    exact⟨by simp[h1,t],by simp[kI,h2,o]⟩
   grind
  . simp at h
def w9(F:cy)(p:Z8 (Nat×Bool))(x:Operand):Z4 (Nat×Z8 SV):=
 match cV F p x with
 |some (.a (.fn f caps))=>some (f,caps.map λq=>.a (.ptr q.1 q.2))
 |some (.a (.v (.func (.func f) first caps)))=>match first.toList with
  |[]=>some (f,caps.toList.map λv=>.a (.v v))
  |_=>none
 |_=>none
def fL(F:cy)(p:Z8 (Nat×Bool)):Op->Z4 (Nat×Z8 SV)
 |.call ⟨.value x,args,_⟩=>match w9 F p x,qC F p args.toList with
  |some (f,caps),some ss=>some (f,ss++caps)
  |_,_=>none
 |_=>none
theorem kG{E:Env}{a:Act}{p:Z8 (Nat×Bool)}{f:Nat}{V:Z8 SV}(Z:Frm E n F C nl a.tmps)(W:eN F p=true)(h:fL F p o.op=some (f,V))(a5:eJ P f)(w:Z6): (execOp a.eval o).run P w=.ok (.enter f (V.map (SV.den E)).toArray) w/\kI nl V=true:=by
 unfold execOp;cases u:o.op with
 |call c=>
  obtain⟨m,M,ts⟩:=c;cases m with
  |value x=>
   simp only[u,fL]at h;split at h;{rename_i f' l X t ha;simp only[Z0,ZN]at h;obtain⟨rfl,rfl⟩:=h;obtain⟨h1,h2⟩:=vp Z W ha;obtain⟨fn,a7,a9,L⟩:=a5;(have key:∃T:Array Z7,a.eval x=.func (.func f') #[] T/\T.toList=l.map (SV.den E)/\kI nl l=true:=by unfold w9 at t;split at t;{rename_i a6 B R;simp only[Z0,ZN]at t;obtain⟨rfl,rfl⟩:=t;obtain⟨h3,Y⟩:=cZ Z W R;refine⟨_,h3,by simp[SV.den,A.den],?_⟩;apply allOk'_iff.2;intro s d;simp only[Y6]at d;obtain⟨q,hq,rfl⟩:=d;simp only[SV.ok,A.ok,te]at Y;simpa[SV.ok,A.ok,eD]using Y q hq};{(rename_i a6 first B R);split at t;{rename_i aa;(have N:first= #[]:=by simpa using Y5 List.toArray aa);subst N;simp only[Z0,ZN]at t;obtain⟨rfl,rfl⟩:=t;obtain⟨h3,Y⟩:=cZ Z W R;refine⟨_,h3,?_,?_⟩;{simp only[Ym];exact(List.map_id'' (λ_=>rfl) _).symm};apply allOk'_iff.2;intro s d;simp only[Y6]at d;obtain⟨q,hq,rfl⟩:=d;rfl};simp at t};simp at t);obtain⟨T,R,a8,O⟩:=key;refine⟨?_,?_⟩;{(have z:M.map a.eval++T=((X++l).map (SV.den E)).toArray:=by apply YN;simp only[Q',Y_,X7,h1,a8]);have y:fn.body.isNone=false:=L;simp only[resolve,R,Deferred.ofValue,ZR,ZO,ZU,invoke,callFunc,run_program,a7,a9,y,Zw,Zt,J',z]};apply allOk'_iff.2;intro s d;(rcases Zh.1 d with d|d);{exact allOk'_iff.1 h2 s d};exact allOk'_iff.1 O s d}
   grind
  |_=>simp[u,fL]at h
 |_=>simp[u,fL]at h
theorem Ua{p:Z8 (Nat×Bool)}{g:Bool}{y:Z8 Nat}{d f:Nat}{N:Z8 SV}(s:SV) (W:gd ops F C o.guard=some (p,g,y)) (hv:fL F p o.op=some (f,N)) (M:eJ P f) (hd:o.dst=some d) (u:(Nat.blt d n&& !(dh d y))=true) (hs:s.ok nl=true) (m:g=true-> ∀E w,Mem E O nl V w->Calls P f (N.map (SV.den E)).toArray w λe w'=>e=.returned (s.den E)/\cH w w') (l:KJ (wpList P ops Q rest) n ((d,⟨p,g,s⟩)::F) y O nl V):KJ (wpList P ops Q (o::rest)) n F C O nl V:=by
 constructor;intro E a w t Y L;obtain⟨X,z,B,R⟩:=gz Y W;simp at u;unfold wpList;rw[X];cases g with
 |true=>simp;left;obtain⟨Z,_⟩:=kG z B.symm hv M w;unfold Oper.wp;rw[Z,Oper.upon_enter];refine(m J E w L).mono ?_;rintro e w' ⟨rfl,T⟩;show wpList P ops Q rest (a.put o.dst _) w';rw[hd];refine l.out E _ w' (by simp[Act.put,t]) ?_<|L.keep T;have:=Frm.put (p:=p) (g:=true) z u.1 u.2 B R (λ_=>hs);simpa using this
 |false=>simp only[Zw,Zt,hd];refine l.out E _ w (by simp[Act.put,t]) ?_ L;have:=Frm.put (p:=p) (g:=false) (s:=s) z u.1 u.2 B R sm;simpa using this
structure Vext(sz:Nat)(V V':Vw)(w:World):Prop where
 le:V.le V'
 get:∀k o,V'.get k=some o->w.heap[k]? =some o/\(V.get k=some o\/sz<=k)
theorem Mem.ext{E:Env}{w t:Z6}{p:Vw}(o:Mem E O nl V w)(h:cH w t)(m:Vext w.heap.size V p t):Mem E O nl p t:=by
 have d:=o.keep h;refine⟨d.lit,d.row,d.sep,λk u L=>(m.get k u L).1,?_,d.os.trans m.le.os.symm,d.tape.trans m.le.tape.symm,d.output.trans m.le.output.symm,d.lab,d.labs,d.pin,d.big,d.kp⟩;intro l c k y z;cases B:p.get k with
 |none=>rfl
 |some u=>
  rcases(m.get k u B).2 with h'|h'
  .have:=o.off l c k y z
   simp_all
  have:=o.lt y z;omega
theorem K8{p:Z8 (Nat×Bool)}{g:Bool}{y:Z8 Nat}{d f:Nat}{N:Z8 SV}(Φ:Z7->Vw->Prop) (X:gd ops F C o.guard=some (p,g,y)) (hv:fL F p o.op=some (f,N)) (M:eJ P f) (hd:o.dst=some d) (u:(Nat.blt d n&& !(dh d y))=true) (m:g=true-> ∀E w,Mem E O nl V w->Calls P f (N.map (SV.den E)).toArray w λe w'=>∃v V',e=.returned v/\cH w w'/\Vext w.heap.size V V' w'/\Φ v V') (l:∀v V',V.le V'->(g=true->Φ v V')->KJ (wpList P ops Q rest) n ((d,⟨p,g,.a (.v v)⟩)::F) y O nl V'):KJ (wpList P ops Q (o::rest)) n F C O nl V:=by
 constructor;intro E a w t Z L;obtain⟨Y,z,B,R⟩:=gz Z X;simp at u;unfold wpList;rw[Y];cases g with
 |true=>simp;left;obtain⟨hr,_⟩:=kG z B.symm hv M w;unfold Oper.wp;rw[hr,Oper.upon_enter];refine(m J E w L).mono ?_;rintro e w' ⟨v,V',rfl,W,T,hΦ⟩;show wpList P ops Q rest (a.put o.dst _) w';rw[hd];refine(l v V' T.le (λ_=>hΦ)).out E _ w' (by simp[Act.put,t]) ?_<|L.ext W T;have:=Frm.put (p:=p) (g:=true) (s:=.a (.v v)) z u.1 u.2 B R (λ_=>rfl);simpa[SV.den,A.den]using this
 |false=>simp only[Zw,Zt,hd];refine(l undef V (Vw.le.refl _) sm).out E _ w (by simp[Act.put,t]) ?_ L;have:=Frm.put (p:=p) (g:=false) (s:=.a (.v undef)) z u.1 u.2 B R sm;simpa using this
end
def E0:Env:=⟨λ_=>0,λ_=>undef⟩
theorem jh(E:Env)(nl:Nat)(w:Z6):Mem E [] nl (vw w) w:=
 ⟨λ_ _ _ h=>by simp[lk]at h,λ_ _ _ _ _ h=>by simp[lk]at h,λ_ _ _ _ _ h=>by simp[lk]at h,λ_ _ h=>h,λ_ _ _ h=>by simp[lk]at h,J,J,J,
  λ_ _ h=>by simp[lk]at h,λ_ _ _ h=>by simp[lk]at h,λ_ _ _ h=>by simp[lk]at h,λ_ _ h=>by simp[lk]at h,λ_ _ _ _ h=>by simp[lk]at h⟩
theorem Dw(E:Env)(nl:Nat){V:Vw}{w:Z6}(h:V.le (vw w)):Mem E [] nl V w:=
 ⟨λ_ _ _ h=>by simp[lk]at h,λ_ _ _ _ _ h=>by simp[lk]at h,λ_ _ _ _ _ h=>by simp[lk]at h,λk o d=>h.get k o d,λ_ _ _ h=>by simp[lk]at h,h.os,h.tape,h.output,
  λ_ _ h=>by simp[lk]at h,λ_ _ _ h=>by simp[lk]at h,λ_ _ _ h=>by simp[lk]at h,λ_ _ h=>by simp[lk]at h,λ_ _ _ _ h=>by simp[lk]at h⟩
section
variable{P:Z3}{tt:Z8 (Nat×TI)}{ops:Array Oper}{Q:Exit->Act->Z6->Prop}{o:Oper}{rest:Z8 Oper}
 {n:Nat} {F:cy} {C:Z8 Nat} {O:Own} {nl:Nat} {V:Vw} {K:Act->Z6->Prop}
theorem Mem.below{E:Env}{w m:Z6}(d:Mem E O nl V m)(h:(vw w).le V):cH w m:=by
 have l:∀k,k<w.heap.size->m.heap[k]? =w.heap[k]? :=by
  intro k l;(have o:(vw w).get k=some w.heap[k]:=by simp[vw,l]);have p:=d.get k _ (h.get k _ o)
  simp_all
 refine⟨d.os.trans h.os,d.tape.trans h.tape,d.output.trans h.output,?_,l⟩
 grind
theorem Mem.leV{E:Env}{w:Z6}(d:Mem E O nl V w):V.le (vw w):=⟨d.get,d.os,d.tape,d.output⟩
def eL(V:Vw)(v:Z7)(sz n:Nat)(xs:Z8 Z7):Prop:=
 xs.length=n*sz/\((∃a c,v=.slice a 0 c/\n=0)\/
  ∃b off cap cs e fz,v=.slice (some ⟨b,off,none⟩) n cap/\V.get b=some (.cells cs e fz)/\off+n*sz<=cs.size/\xs=(cs.toList.drop off).take (n*sz)/\n<=cap)
theorem eL.mono{V m:Vw}(h:V.le m){v:Z7}{sz n:Nat}{xs:Z8 Z7}(hs:eL V v sz n xs):eL m v sz n xs:=by refine⟨hs.1,?_⟩;(rcases hs.2 with d|⟨b,off,l,cs,e,o,d,p,u,t⟩);{exact .inl d};exact .inr ⟨b,off,l,cs,e,o,d,h.get _ _ p,u,t⟩
structure SlOf{α:Type}(V:Vw)(enc:α->List Value)(sz:Nat)(v:Value)(l:List α):Prop where
 sl:eL V v sz l.length (l.flatMap enc)
 len:∀x,(enc x).length=sz
theorem SlOf.mono{α:Type}{V d:Vw}{enc:α->Z8 Z7}{sz:Nat}{v:Z7}{l:Z8 α}(h:V.le d)(hs:SlOf V enc sz v l):SlOf d enc sz v l:=⟨hs.sl.mono h,hs.len⟩
theorem CW{α:Type}{enc:α->Z8 Z7}{sz:Nat}(hl:∀x,(enc x).length=sz):∀(l:Z8 α) (i:Nat),(l.flatMap enc).drop (i*sz)=(l.drop i).flatMap enc
 |l,0=>by simp
 |[],i+1=>by simp
 |x::r,i+1=>by
  rw[Zy,Y4,Yk,YI,<-Yu,<-hl x,List.drop_left,hl x,CW hl r i]
  simp
theorem M5{α:Type}{enc:α->Z8 Z7}{sz:Nat}(u:∀x,(enc x).length=sz){l:Z8 α}{i:Nat}{x:α}(t:l[i]? =some x)(p m:Nat)(h:p+m<=sz): ((l.flatMap enc).drop (i*sz+p)).take m=((enc x).drop p).take m:=by
 rw[<-Yu,CW u];have o:=(List.getElem?_eq_some_iff.1 t).1;have d:=(List.getElem?_eq_some_iff.1 t).2;rw[YB o,d,Zy,c_]
 grind
def qR:Nat->Z8 Z7->Z4 (Z8 Z7)
 |0,l=>some l
 |n+1,_::r=>qR n r
 |_+1,[]=>none
def rR:Nat->Z8 Z7->Z4 (Z8 A)
 |0,_=>some []
 |n+1,x::r=>match rR n r with
  |some l=>some (.v x::l)
  |none=>none
 |_+1,[]=>none
def vg(off n:Nat)(l:Z8 Z7):Z4 (Z8 A):=
 match qR off l with
 |some r=>rR n r
 |none=>none
theorem EX:∀{n:Nat} {l r:Z8 Z7},qR n l=some r->r=l.drop n/\n<=l.length
 |0,l,r,h=>by simp[qR]at h;simp[h]
 |n+1,x::l,r,h=>by
  have:=EX (l:=l) (by simpa[qR]using h)
  exact⟨by simpa using this.1,by simp;exact this.2⟩
 |n+1,[],r,h=>by simp[qR]at h
theorem Eg:∀{n:Nat} {l:Z8 Z7} {r:Z8 A},rR n l=some r->r=(l.take n).map .v/\n<=l.length
 |0,l,r,h=>by simp[rR]at h;simp[<-h]
 |n+1,x::l,r,h=>by
  simp only[rR]at h
  cases h':rR n l with
  |none=>simp[h']at h
  |some q=>
   simp only[h',Z0]at h
   have:=Eg h'
   subst h
   exact⟨by simp[this.1],by simp;exact this.2⟩
 |n+1,[],r,h=>by simp[rR]at h
theorem Gq{off n:Nat}{l:Z8 Z7}{r:Z8 A}(h:vg off n l=some r):r=((l.drop off).take n).map .v/\off+n<=l.length:=by
 unfold vg at h;cases hd:qR off l with
 |none=>simp[hd]at h
 |some q=>
  simp only[hd]at h;obtain⟨o,d⟩:=EX hd;obtain⟨p,m⟩:=Eg h
  grind
def dY(P:Z3)(o:Oper)(n:Nat)(F:cy)(C:Z8 Nat)(O:Own)(nl:Nat)(V:Vw)(p:Z8 (Nat×Bool))(g:Bool)(s:SV):Prop:=
 g=true-> ∀E a w,Frm E n F C nl a.tmps->eN F p=true->Mem E O nl V w->Yv P o a w (s.den E)/\s.ok nl=true
theorem jr(d:dl P tt){p:Z8 (Nat×Bool)}{g:Bool}{s:SV}(t:eI tt F O p o.op=some s):dY P o n F C O nl V p g s:=
 λ_ E a w m u l=>CU d m l u t
theorem ua{p:Z8 (Nat×Bool)}{g:Bool}{u:Z8 Nat}{s:SV}{d:Nat} (N:gd ops F C o.guard=some (p,g,u)) (hd:o.dst=some d) (t:(Nat.blt d n&& !(dh d u))=true) (W:dY P o n F u O nl V p g s) (l:KJ (wpList P ops Q rest) n ((d,⟨p,g,s⟩)::F) u O nl V):KJ (wpList P ops Q (o::rest)) n F C O nl V:=by
 constructor;intro E a w m T L;obtain⟨R,y,z,M⟩:=gz T N;simp at t;unfold wpList;rw[R];cases g with
 |true=>simp;left;obtain⟨X,B⟩:=W J E a w y z.symm L;unfold Oper.wp;rw[X];show wpList P ops Q rest (a.put o.dst _) w;rw[hd];refine l.out E _ w (by simp[Act.put,m]) ?_ L;have:=Frm.put (p:=p) (g:=true) y t.1 t.2 z M (λ_=>B);simpa using this
 |false=>simp only[Zw,Zt,hd];refine l.out E _ w (by simp[Act.put,m]) ?_ L;have:=Frm.put (p:=p) (g:=false) (s:=s) y t.1 t.2 z M sm;simpa using this
def ww(tt:Z8 (Nat×TI))(F:cy)(p:Z8 (Nat×Bool)):Op->Z4 (Z7×Int×Nat)
 |.indexAddr t x i=>match cV F p x,cV F p i,lk tt t with
  |some (.a (.v v)),some (.a (.v (.int _ k))),some ⟨_,_,_,_,.slice e⟩=>match lk tt e with
   |some ti=>some (v,k,ti.size)
   |none=>none
  |_,_,_=>none
 |_=>none
theorem gZ(B:dl P tt){p:Z8 (Nat×Bool)}{g:Bool}{v:Z7}{i:Int}{sz m:Nat}{xs:Z8 Z7} (d:ww tt F p o.op=some (v,i,sz)) (hs:g=true->eL V v sz m xs) (hi:g=true->0<=i/\i<m):dY P o n F C O nl V p g (.a (.el v (i.toNat*sz))):=by
 intro y E a w Z u hm;refine⟨?_,J⟩;unfold Yv execOp;cases l:o.op with
 |indexAddr t x ix=>
  simp only[l,ww]at d;split at d;{rename_i v' kk k a8 by_ z fl e hx L W;split at d;{rename_i ti T;obtain⟨rfl,rfl,rfl⟩:=d;obtain⟨h1,_⟩:=cZ Z u hx;obtain⟨h2,_⟩:=cZ Z u L;obtain⟨dd,N,Y,_⟩:=(B _ _ W).und;(have R:dd=.slice e:=by cases dd<;>simp[eM]at Y;rw[Y]);subst R;obtain⟨X,M⟩:=hi y;(rcases(hs y).2 with⟨_,_,_,h0⟩|⟨b,off,a7,cs,e',fz,rfl,_⟩);{omega};simp[h1,h2,SV.den,A.den,Instr.indexAt,asIntOf,run_underlying N,X,M,(B _ _ T).sizeOf,oU]};simp at d}
  simp_all
 |_=>simp[l,ww]at d
def yE(tt:Z8 (Nat×TI))(F:cy)(p:Z8 (Nat×Bool)):Op->Z4 (Z7×Nat)
 |.fieldAddr s x f=>match cV F p x,lk tt s with
  |some (.a (.el v k)),some ti=>match ti.flds[f]? with
   |some (fo,_,_+1)=>some (v,k+fo)
   |_=>none
  |_,_=>none
 |_=>none
theorem Addr.add_add'(a:Addr)(h:a.spot=none)(n m:Nat):(a.add n).add m=a.add (n+m):=by obtain⟨b,o,s⟩:=a;subst h;simp[Addr.add_lit,Nat.add_assoc]
theorem gS(a5:dl P tt){p:Z8 (Nat×Bool)}{g:Bool}{v:Z7}{k sz m:Nat}{xs:Z8 Z7} (z:yE tt F p o.op=some (v,k)) (hs:g=true->eL V v sz m xs) (hi:g=true->0<m):dY P o n F C O nl V p g (.a (.el v k)):=by
 intro M E a w hf a6 hm;refine⟨?_,J⟩;unfold Yv execOp;cases B:o.op with
 |fieldAddr s x f=>
  simp only[B,yE]at z;split at z
  .rename_i v' k' ti hx a0;have hT:=a5 _ _ a0;obtain⟨h1,_⟩:=cZ hf a6 hx;split at z
   .rename_i fo ft fs l;obtain⟨rfl,rfl⟩:=z;obtain⟨dd,W,hk,t⟩:=hT.und;(have Y:∃d,dd=.struct d:=by cases dd<;>first|exact⟨_,J⟩|(simp only[fieldsOf]at t;rw[<-t]at l;simp at l));obtain⟨d,rfl⟩:=Y;simp only[fieldsOf]at t;rw[<-t]at l;simp only[List.getElem?_map,Yl,ZN]at l;obtain⟨T,L,R,ad,y⟩:=l
    have u:∀X:Z6,(Go.sizeOf T.type).run P X=.ok (fs+1) X:=by
     intro X;cases Z:P.info? T.type with
     |none=>simp[Z]at y
     |some q=>simp[Z]at y;simp[Go.sizeOf,typeInfo,Z,y]
    (have N:d[f]? =some T:=by simpa using L);have h0:=hi M;(rcases(hs M).2 with⟨_,_,_,ab⟩|⟨b,off,aa,cs,e',fz,rfl,_⟩);{omega};simp[h1,SV.den,A.den,oU,Instr.fieldAt,run_underlying W,N,Instr.sureAddr,fieldPlace,u,R,Addr.add_add']
   simp at z
  simp_all
 |_=>simp[B,yE]at z
def zo(tt:Z8 (Nat×TI))(F:cy)(p:Z8 (Nat×Bool)):Op->Z4 (Z7×Nat×Nat×Bool)
 |.load t x=>match cV F p x,lk tt t with
  |some (.a (.el v k)),some ti=>some (v,k,ti.size,ti.agg)
  |_,_=>none
 |_=>none
def pb:Bool->Z8 A->Z4 SV
 |true,l=>some (.agg l)
 |false,[x]=>some (.a x)
 |false,_=>none
def sU(agg:Bool)(fo m:Nat)(cells:Z8 Z7):Z4 SV:=
 match vg fo m cells with
 |some l=>pb agg l
 |none=>none
theorem dy{α:Type}(a8:dl P tt){p:Z8 (Nat×Bool)}{g:Bool}{v:Z7}{k m sz:Nat}{agg:Bool}{enc:α->Z8 Z7}{l:Z8 α}{s:SV}(i Y:Nat)(x:α) (Z:zo tt F p o.op=some (v,k,m,agg)) (hs:g=true->SlOf V enc sz v l) (hx:g=true->l[i]? =some x) (hk:k=i*sz+Y) (B:sU agg Y m (enc x)=some s):dY P o n F C O nl V p g (s):=by
 intro a5 E a w hf ah hm;unfold Yv execOp;cases a0:o.op with
 |load t y=>
  simp only[a0,zo]at Z;split at Z
  .rename_i v' W R hy a7;simp only[Z0,ZN]at Z;obtain⟨rfl,rfl,rfl,rfl⟩:=Z;obtain⟨X,_⟩:=cZ hf ah hy;have hS:=hs a5;have hX:=hx a5;have aw:=(List.getElem?_eq_some_iff.1 hX).1;unfold sU at B;cases N:vg Y R.size (enc x)with
   |none=>simp[N]at B
   |some q=>
    obtain⟨M,a9⟩:=Gq N;rw[hS.len x]at a9;simp only[N]at B;have ad:=M5 hS.len hX Y R.size a9;(rcases hS.sl.2 with⟨_,_,_,h0⟩|⟨b,off,ap,cs,e',fz,rfl,hb,aq,ab,_⟩);{omega};have hw:=hm.get _ _ hb
    have ak:i*sz+sz<=l.length*sz:=by
     have:=Zn sz (show i+1<=l.length by omega)
     rwa [Y4,Yk]at this
    (have d:(((cs.toList.drop (off+W)).take R.size))=((enc x).drop Y).take R.size:=by rw[<-ad,ab,hk,m_,Yh,Yu];congr 1;omega);have L:off+W+R.size<=cs.size:=by omega
    have a6:∀l:Z8 Z7,(l.map A.v).map (A.den E)=l/\dH nl (l.map A.v)=true:=by
     intro l
     induction l with
     |nil=>exact⟨J,J⟩
     |cons x r ih=>exact⟨by simp[A.den,ih.1],by simp[dH,A.ok,ih.2]⟩
    (have e1:a.eval y=.pointer (some ⟨b,off+W,none⟩):=by rw[X];simp[SV.den,A.den,oU,Addr.add_lit]);cases u:R.agg with
    |true=>simp only[u,pb,Z0]at B;subst B;have z:=ut (P:=P) (a8 _ _ a7) hw L (.agg (((cs.toList.drop (off+W)).take R.size)).toArray) (by rw[u]) (by rw[u];simp);refine⟨?_,?_⟩;{simp only[e1,ZR,z,ZU,ZO,d,SV.den,M,(a6 _).1]};simp only[SV.ok,M,(a6 _).2]
    |false=>
     have hq:∃c,q=[c]/\s=.a c:=by
      simp only[u]at B
      match q,B with
      |[c],B=>simp only[pb,Z0]at B;exact⟨c,J,B.symm⟩
      |[],B=>simp[pb]at B
      |_::_::_,B=>simp[pb]at B
     obtain⟨c,rfl,rfl⟩:=hq;(have T:(List.take R.size (List.drop Y (enc x))).length=1:=by have:=Y5 List.length M;simpa using this.symm);obtain⟨y0,ag⟩:=List.length_eq_one_iff.1 T;rw[ag]at M d;simp only[Zq,Yp,Yt,x_]at M;subst M;(have aa:off+W<cs.size:=by have:=Y5 List.length d;simp at this;omega);(have ac:cs[off+W]? =some y0:=by (have X:(List.take R.size (List.drop (off+W) cs.toList))[0]? =some y0:=by rw[d];rfl);rw[List.getElem?_take]at X;split at X;{simpa using X};cases X);have z:=ut (P:=P) (a8 _ _ a7) hw L y0 (by rw[u];simp[ac]) (by rw[u];exact λ_=>aa);exact⟨by simp only[e1,ZR,z,ZU,ZO,SV.den,A.den],J⟩
  simp at Z
 |_=>simp[a0,zo]at Z
def qs(tt:Z8 (Nat×TI))(F:cy)(p:Z8 (Nat×Bool)):Op->Z4 Z7
 |.call ⟨.builtin .len,args,ts⟩=>match args.toList,ts.toList with
  |[x],[t]=>match cV F p x,lk tt t with
   |some (.a (.v v)),some ⟨_,_,_,_,.slice _⟩=>some v
   |_,_=>none
  |_,_=>none
 |_=>none
theorem ic(T:dl P tt){p:Z8 (Nat×Bool)}{g:Bool}{v:Z7}{sz m:Nat}{xs:Z8 Z7} (d:qs tt F p o.op=some v) (hs:g=true->eL V v sz m xs):dY P o n F C O nl V p g (.a (.v (.int .i64 m))):=by
 intro N E a w hf X hm;refine⟨?_,J⟩;unfold Yv execOp;cases L:o.op with
 |call c=>
  obtain⟨l,B,ts⟩:=c;simp only[L]at d;cases l with
  |builtin b=>
   cases b with
   |len=>simp only[qs]at d;split at d;{rename_i x t u W;(have ha:B= #[x]:=by simpa using Y5 List.toArray u);(have ht:ts= #[t]:=by simpa using Y5 List.toArray W);subst ha ht;split at d;{rename_i v' a9 by_ z fl e hx R;simp only[Z0]at d;subst d;obtain⟨Z,_⟩:=cZ hf X hx;obtain⟨dd,y,Y,_⟩:=(T _ _ R).und;(have M:dd=.slice e:=by cases dd<;>simp[eM]at Y;rw[Y]);subst M;(rcases(hs N).2 with⟨ad,cc,rfl,h0⟩|⟨b,off,a7,cs,e',fz,rfl,_⟩);{simp[resolve,invoke,builtin,Builtin.len_,Z,SV.den,A.den,run_underlying y,goInt,h0]};simp[resolve,invoke,builtin,Builtin.len_,Z,SV.den,A.den,run_underlying y,goInt]};simp at d};simp at d
   |_=>simp[qs]at d
  |_=>simp[qs]at d
 |_=>simp[L,qs]at d
end
structure DJ(P:Program)(ops:Array Oper)(Q:Exit->Act->World->Prop)(l:List Oper)(n:Nat)(F:cy)(C:List Nat)(O:Own)(nl:Nat)(V:Vw):Prop where
 out:∀E a,a.defers=[]->Frm E n F C nl a.tmps->wpQuiet P ops (λw=>Mem E O nl V w) (λa'=>∀w',Mem E O nl V w'->Q .normal a' w') l a
section
variable{P:Z3}{tt:Z8 (Nat×TI)}{ops:Array Oper}{Q:Exit->Act->Z6->Prop}{o:Oper}{rest:Z8 Oper}
 {n:Nat} {F:cy} {C:Z8 Nat} {O:Own} {nl:Nat} {V:Vw} {K:Act->Z6->Prop}
theorem Mem.drawn{E:Env}{w:Z6}(d:Mem E O nl V w)(m:Nat):Mem E O nl V {w with drawn:=m}:=
 d.keep ⟨J,J,J,ZS _,λ_ _=>rfl⟩
theorem ez{id:Nat}{l:Z8 Oper}(m:P.follows .mixedOrders=true)(p:Region.lexB .any l.toArray=true)(h:DJ P l.toArray Q l n F C O nl V):
  KJ ((Code.region id l.toArray true).wp P Q) n F C O nl V:=
 ⟨λE a w hd o d=>wp_region_quiet (C:=λw=>Mem E O nl V w) m p (d.drawn _) (by simpa using h.out E a hd o)⟩
theorem uP(l:Z8 Nat){d:cy}(p:oi F l []=some d)(h:KJ (Q .normal) n d [] O nl V):DJ P ops Q [] n F C O nl V:=
 ⟨λE a hd o=>λu m=>h.out E a u hd (o.plain (yJ l [] d (λt e h=>by simp[lk]at h) p)) m⟩
theorem Fc{p:Z8 (Nat×Bool)}{g:Bool}{u:Z8 Nat}{s:SV}{d:Nat} (T:gd ops F C o.guard=some (p,g,u)) (hd:o.dst=some d) (t:(Nat.blt d n&& !(dh d u))=true) (N:dY P o n F u O nl V p g s) (hs:s.ok nl=true) (l:DJ P ops Q rest n ((d,⟨p,g,s⟩)::F) u O nl V):DJ P ops Q (o::rest) n F C O nl V:=by
 constructor;intro E a m M;obtain⟨R,y,z,B⟩:=gz M T;simp only[Z1,eD,ZJ]at t;unfold wpQuiet;rw[R];cases g with
 |true=>
  refine⟨s.den E,λw L=>?_,?_⟩;{unfold Oper.quietAt;rw[(N J E a w y z.symm L).1];exact⟨J,J⟩};rw[hd];refine l.out E _ (by simp[Act.put,m]) ?_;have:=Frm.put (p:=p) (g:=true) y t.1 t.2 z B (λ_=>hs)
  simp_all
 |false=>
  simp only[Zw,Zt,hd];refine l.out E _ (by simp[Act.put,m]) ?_;have:=Frm.put (p:=p) (g:=false) (s:=s) y t.1 t.2 z B sm
  simp_all
theorem Sk{p:Z8 (Nat×Bool)}{g:Bool}{y:Z8 Nat}{d f:Nat}{M:Z8 SV}(s:SV) (W:gd ops F C o.guard=some (p,g,y)) (Z:fL F p o.op=some (f,M)) (L:eJ P f) (hd:o.dst=some d) (u:(Nat.blt d n&& !(dh d y))=true) (hs:s.ok nl=true) (m:g=true-> ∀E w,Mem E O nl V w->Calls P f (M.map (SV.den E)).toArray w λe w'=>e=.returned (s.den E)/\cH w w') (l:DJ P ops Q rest n ((d,⟨p,g,s⟩)::F) y O nl V):DJ P ops Q (o::rest) n F C O nl V:=by
 constructor;intro E a t Y;obtain⟨X,z,B,N⟩:=gz Y W;simp only[Z1,eD,ZJ]at u;unfold wpQuiet;rw[X];cases g with
 |true=>
  refine⟨s.den E,λw R=>?_,?_⟩;{unfold Oper.quietAt;rw[(kG z B.symm Z L w).1];refine⟨J,(m J E w R).mono ?_⟩;rintro e w' ⟨rfl,T⟩;exact⟨J,R.keep T⟩};rw[hd];refine l.out E _ (by simp[Act.put,t]) ?_;have:=Frm.put (p:=p) (g:=true) z u.1 u.2 B N (λ_=>hs)
  simp_all
 |false=>simp only[Zw,Zt,hd];refine l.out E _ (by simp[Act.put,t]) ?_;have:=Frm.put (p:=p) (g:=false) (s:=s) z u.1 u.2 B N sm;simpa using this
end
abbrev I(n:Int):Z7:=.int .i64 n
abbrev I8(n:Int):Z7:=.int .i8 n
theorem cx{n:Int}(l: -9223372036854775808<=n)(d:n<=9223372036854775807):IntKind.i64.wrap n=n:=IntWalk.i64_in n ⟨l,d⟩
def qo(P:Z3)(fv:Z7)(args:Z8 Z7)(w:Z6)(R:Ending->Z6->Prop):Prop:=
 ∃f caps,fv=.func (.func f) #[] caps/\eJ P f/\Calls P f (args++caps.toList).toArray w R
section
variable{P:Z3}{tt:Z8 (Nat×TI)}{ops:Array Oper}{Q:Exit->Act->Z6->Prop}{o:Oper}{rest:Z8 Oper}
 {n:Nat} {F:cy} {C:Z8 Nat} {O:Own} {nl:Nat} {V:Vw} {K:Act->Z6->Prop}
def kL(F:cy)(p:Z8 (Nat×Bool)):Op->Z4 (Z7×Z8 SV)
 |.call ⟨.value x,args,_⟩=>match cV F p x,qC F p args.toList with
  |some (.a (.v fv)),some ss=>some (fv,ss)
  |_,_=>none
 |_=>none
theorem EC{E:Env}{a:Act}{p:Z8 (Nat×Bool)}{V:Z7}{N:Z8 SV}(T:Frm E n F C nl a.tmps)(O:eN F p=true)(h:kL F p o.op=some (V,N))(w:Z6) {R:Ending->Z6->Prop} (hc:qo P V (N.map (SV.den E)) w R):∃f args,(execOp a.eval o).run P w=.ok (.enter f args) w/\Calls P f args w R:=by
 unfold execOp;cases t:o.op with
 |call c=>
  obtain⟨l,args,ts⟩:=c;cases l with
  |value x=>
   simp only[t,kL]at h;split at h;{rename_i a0 B Y Z;simp only[Z0,ZN]at h;obtain⟨rfl,rfl⟩:=h;obtain⟨W,_⟩:=vp T O Z;obtain⟨X,_⟩:=cZ T O Y;obtain⟨f,d,rfl,⟨fn,L,M,y⟩,m⟩:=hc;(have u:args.map a.eval++d=(B.map (SV.den E)++d.toList).toArray:=by apply YN;simp only[Q',Y_,W]);have z:a.eval x=.func (.func f) #[] d:=X;exact⟨f,_,by simp only[resolve,z,Deferred.ofValue,ZR,ZO,ZU,invoke,callFunc,run_program,L,M,y,Zw,Zt,J',u],m⟩}
   grind
  |_=>simp[t,kL]at h
 |_=>simp[t,kL]at h
theorem qJ{p:Z8 (Nat×Bool)}{g:Bool}{y:Z8 Nat}{d:Nat}{W:Z7}{R:Z8 SV}(s:SV) (Y:gd ops F C o.guard=some (p,g,y)) (hv:kL F p o.op=some (W,R)) (hd:o.dst=some d) (u:(Nat.blt d n&& !(dh d y))=true) (hs:s.ok nl=true) (m:g=true-> ∀E w,Mem E O nl V w->qo P W (R.map (SV.den E)) w λe w'=>e=.returned (s.den E)/\cH w w') (l:KJ (wpList P ops Q rest) n ((d,⟨p,g,s⟩)::F) y O nl V):KJ (wpList P ops Q (o::rest)) n F C O nl V:=by
 constructor;intro E a w t hf L;obtain⟨Z,z,B,T⟩:=gz hf Y;simp at u;unfold wpList;rw[Z];cases g with
 |true=>simp;left;obtain⟨f,N,hr,M⟩:=EC z B.symm hv w (m J E w L);unfold Oper.wp;rw[hr,Oper.upon_enter];refine M.mono ?_;rintro e w' ⟨rfl,X⟩;show wpList P ops Q rest (a.put o.dst _) w';rw[hd];refine l.out E _ w' (by simp[Act.put,t]) ?_<|L.keep X;have:=Frm.put (p:=p) (g:=true) z u.1 u.2 B T (λ_=>hs);simpa using this
 |false=>simp only[Zw,Zt,hd];refine l.out E _ w (by simp[Act.put,t]) ?_ L;have:=Frm.put (p:=p) (g:=false) (s:=s) z u.1 u.2 B T sm;simpa using this
def BM(tt:Z8 (Nat×TI))(F:cy)(p:Z8 (Nat×Bool)):Op->Z4 (Nat×Nat×Nat×Bool)
 |.load t x=>match cV F p x,lk tt t with
  |some (.a (.v (.pointer (some ⟨b,off,none⟩)))),some ti=>some (b,off,ti.size,ti.agg)
  |_,_=>none
 |_=>none
theorem Sv{P:Z3}{tt:Z8 (Nat×TI)}{t:Nat}{y:TI}(V:TIok P t y){E:Env}{w:Z6}{b off:Nat}{cs:Z8 Z7}{e:Nat}{fz:Nat×Nat}{s:SV}{nl:Nat} (W:w.heap[b]? =some (.cells cs.toArray e fz)) (o:sU y.agg off y.size cs=some s): (Instr.loadAt t (.pointer (some ⟨b,off,none⟩))).run P w=.ok (s.den E) w/\s.ok nl=true:=by
 unfold sU at o;cases u:vg off y.size cs with
 |none=>simp[u]at o
 |some q=>
  obtain⟨p,M⟩:=Gq u;simp only[u]at o
  have L:∀l:Z8 Z7,(l.map A.v).map (A.den E)=l/\dH nl (l.map A.v)=true:=by
   intro l
   induction l with
   |nil=>exact⟨J,J⟩
   |cons x r ih=>exact⟨by simp[A.den,ih.1],by simp[dH,A.ok,ih.2]⟩
  cases d:y.agg with
  |true=>simp only[d,pb,Z0]at o;subst o;have m:=ut (P:=P) V W (by simpa using M) (.agg ((cs.drop off).take y.size).toArray) (by rw[d]) (by rw[d];simp);refine⟨?_,?_⟩;{rw[m];simp only[SV.den,p,(L _).1]};simp only[SV.ok,p,(L _).2]
  |false=>
   have X:∃c,q=[c]/\s=.a c:=by
    simp only[d]at o
    match q,o with
    |[c],o=>simp only[pb,Z0]at o;exact⟨c,J,o.symm⟩
    |[],o=>simp[pb]at o
    |_::_::_,o=>simp[pb]at o
   obtain⟨c,rfl,rfl⟩:=X;(have z:(List.take y.size (List.drop off cs)).length=1:=by have:=Y5 List.length p;simpa using this.symm);obtain⟨T,B⟩:=List.length_eq_one_iff.1 z;rw[B]at p;simp only[Zq,Yp,Yt,x_]at p;subst p;(have O:off<cs.length:=by have:=Y5 List.length B;simp at this;omega);(have R:cs[off]? =some T:=by (have N:(List.take y.size (List.drop off cs))[0]? =some T:=by rw[B];rfl);rw[List.getElem?_take]at N;split at N;{simpa using N};cases N);have m:=ut (P:=P) V W (by simpa using M) T (by rw[d];simp[R]) (by rw[d];exact λ_=>by simpa using O);exact⟨by rw[m];rfl,J⟩
theorem fp(L:dl P tt){p:Z8 (Nat×Bool)}{g:Bool}{b off m:Nat}{agg:Bool}{cs:Z8 Z7}{e:Nat}{fz:Nat×Nat}{s:SV} (u:BM tt F p o.op=some (b,off,m,agg)) (hs:g=true->V.get b=some (.cells cs.toArray e fz)) (W:sU agg off m cs=some s):dY P o n F C O nl V p g s:=by
 intro z E a w X N hm;unfold Yv execOp;cases l:o.op with
 |load t y=>
  simp only[l,BM]at u;split at u;{rename_i R d ti Z B;simp only[Z0,ZN]at u;obtain⟨rfl,rfl,rfl,rfl⟩:=u;obtain⟨T,_⟩:=cZ X N Z;obtain⟨Y,M⟩:=Sv (tt:=tt) (E:=E) (nl:=nl) (L _ _ B) (hm.get _ _ (hs z)) W;have e1:a.eval y=.pointer (some ⟨R,d,none⟩):=T;exact⟨by simp only[e1,ZR,Y,ZU,ZO],M⟩}
  simp_all
 |_=>simp[l,BM]at u
end
end Go.Eng
namespace Go.Eng
theorem findIdx?_at{α:Type}{d:α->Bool}{l:Z8 α}{k:Nat}{x:α}(p:l[k]? =some x)(t:d x=true)(h:∀j y,j<k->l[j]? =some y->d y=false):l.findIdx? d=some k:=by
 obtain⟨o,m⟩:=List.getElem?_eq_some_iff.1 p;rw[List.findIdx?_eq_some_iff_getElem]
 grind
theorem findIdx?_no{α:Type}{d:α->Bool}{l:Z8 α}(h:∀j y,j<l.length->l[j]? =some y->d y=false):l.findIdx? d=none:=by
 rw[List.findIdx?_eq_none_iff];intro x m;obtain⟨j,o,rfl⟩:=Q_ m
 simp_all
theorem LM{α:Type}(d:α->Bool)(l:Z8 α):(l.findIdx? d).isSome=l.any d:=by simp
theorem nH{α:Type}{l:Z8 α}{k:Nat}{R:α->Prop}{x:α}(d:l[k]? =some x)(h:∀j y,j<k->l[j]? =some y->R y)(m:R x):∀j y,j<k+1->l[j]? =some y->R y:=by grind
theorem Ko{α:Type}{d:α->Bool}{l:Z8 α}(h:∀j y,j<l.length->l[j]? =some y->d y=true):l.all d=true:=by
 rw[YV];intro x m;obtain⟨j,o,rfl⟩:=Q_ m
 simp_all
theorem Lg{α:Type}{d:α->Bool}{l:Z8 α}{k:Nat}{x:α}(o:l[k]? =some x)(m:d x=false):l.all d=false:=by grind
theorem IP{α:Type}{d:α->Bool}{l:Z8 α}{k:Nat}{x:α}(o:l[k]? =some x)(m:d x=true):l.any d=true:=by grind
theorem Hw{α:Type}{d:α->Bool}{l:Z8 α}(h:∀j y,j<l.length->l[j]? =some y->d y=false):l.any d=false:=by
 rw[<-Yj,YJ];rintro⟨x,m,o⟩;obtain⟨j,p,rfl⟩:=Q_ m
 simp_all
theorem oX{α:Type}{l:Z8 α}{k:Nat}{x:α}(d:l[k]? =some x):l.take (k+1)=l.take k++[x]:=by obtain⟨m,rfl⟩:=List.getElem?_eq_some_iff.1 d;simp
def dV:Z7->Nat->Nat->Nat->Z7
 |.slice a _ c,lo,hi,sz=>.slice (if c=lo then a else a.map (·.add (lo*sz))) (hi - lo) (c - lo)
 |v,_,_,_=>v
theorem eL.cut{V:Vw}{v:Z7}{sz n:Nat}{xs:Z8 Z7}(h:eL V v sz n xs){lo hi:Nat}(M:lo<=hi)(w:hi<=n): eL V (dV v lo hi sz) sz (hi - lo) ((xs.drop (lo*sz)).take ((hi - lo)*sz)):=by obtain⟨t,h⟩:=h;(have z:lo*sz+(hi - lo)*sz=hi*sz:=by rw[<-Y4];congr 1;omega);have B:hi*sz<=n*sz:=Zn _ w;refine⟨by simp;omega,?_⟩;(rcases h with⟨N,y,rfl,rfl⟩|⟨b,off,d,cs,e,o,rfl,m,L,l,p⟩);{left;(have:lo=0:=by omega);(have:hi=0:=by omega);subst_vars;exact⟨_,y,by simp[dV];rfl,J⟩};right;by_cases u:d=lo;{(have E:hi - lo=0:=by omega);refine⟨b,off,d - lo,cs,e,o,by simp[dV,u],m,?_,?_,om⟩;{omega};simp[E]};refine⟨b,off+lo*sz,d - lo,cs,e,o,by simp[dV,u,Addr.add_lit],m,?_,?_,om⟩;{omega};rw[l,m_,Yh,Yu];congr 1;omega
theorem wG{α:Type}{enc:α->Z8 Z7}{sz:Nat}(hl:∀x,(enc x).length=sz):∀(l:Z8 α) (i:Nat),(l.flatMap enc).take (i*sz)=(l.take i).flatMap enc
 |l,0=>by simp
 |[],i+1=>by simp
 |x::r,i+1=>by
  rw[Zy,Y4,Yk,YI,<-hl x,List.take_length_add_append,hl x,wG hl r i]
  simp
theorem SlOf.cut{α:Type}{V:Vw}{enc:α->Z8 Z7}{sz:Nat}{v:Z7}{l:Z8 α}(h:SlOf V enc sz v l){lo hi:Nat}(d:lo<=hi)(m:hi<=l.length): SlOf V enc sz (dV v lo hi sz) ((l.drop lo).take (hi - lo)):=by
 refine⟨?_,h.len⟩;have:=h.sl.cut d m;rw[CW h.len,wG h.len]at this
 grind
section
variable{P:Z3}{tt:Z8 (Nat×TI)}{ops:Array Oper}{Q:Exit->Act->Z6->Prop}{o:Oper}{rest:Z8 Oper}
 {n:Nat} {F:cy} {C:Z8 Nat} {O:Own} {nl:Nat} {V:Vw} {K:Act->Z6->Prop}
def rh(F:cy)(p:Z8 (Nat×Bool)):Z4 Operand->Z4 (Z4 Int)
 |none=>some none
 |some x=>match cV F p x with
  |some (.a (.v (.int _ i)))=>some (some i)
  |_=>none
theorem qz{E:Env}{a:Act}{p:Z8 (Nat×Bool)}(d:Frm E n F C nl a.tmps)(l:eN F p=true){x:Z4 Operand}{r:Z4 Int}(h:rh F p x=some r): (r=none/\x.map a.eval=none)\/ ∃k i,r=some i/\x.map a.eval=some (.int k i):=by
 cases x with
 |none=>simp[rh]at h;exact .inl ⟨h.symm,J⟩
 |some x=>simp only[rh]at h;split at h;{rename_i k i m;simp at h;subst h;refine .inr ⟨k,i,J,?_⟩;simp[(cZ d l m).1,SV.den,A.den]};simp at h
def mz(tt:Z8 (Nat×TI))(F:cy)(p:Z8 (Nat×Bool)):Op->Z4 (Z7×Z4 Int×Z4 Int×Nat)
 |.slice t x lo hi none=>match cV F p x,rh F p lo,rh F p hi,lk tt t with
  |some (.a (.v v)),some l,some h,some ⟨_,_,_,_,.slice e⟩=>match lk tt e with
   |some ti=>some (v,l,h,ti.size)
   |none=>none
  |_,_,_,_=>none
 |_=>none
theorem kx(y:dl P tt){p:Z8 (Nat×Bool)}{g:Bool}{v:Z7}{lo hi:Z4 Int}{sz m:Nat}{xs:Z8 Z7} (M:mz tt F p o.op=some (v,lo,hi,sz)) (hs:g=true->eL V v sz m xs) (hb:g=true->0<=lo.getD 0/\lo.getD 0<=hi.getD m/\hi.getD m<=m): dY P o n F C O nl V p g (.a (.v (dV v (lo.getD 0).toNat (hi.getD m).toNat sz))):=by
 intro W E a w hf T hm;refine⟨?_,J⟩;unfold Yv execOp;cases N:o.op with
 |slice t x lo' hi' mx=>
  cases mx with
  |some mx=>simp[N,mz]at M
  |none=>
  simp only[N,mz]at M;split at M;{rename_i v' l h am by_ z fl e hx hl hh a7;split at M;{rename_i ti B;simp only[Z0,ZN]at M;obtain⟨rfl,rfl,rfl,rfl⟩:=M;obtain⟨h1,_⟩:=cZ hf T hx;obtain⟨dd,u,hk,_⟩:=(y _ _ a7).und;(have Z:dd=.slice e:=by cases dd<;>simp[eM]at hk;rw[hk]);subst Z;obtain⟨b0,Y,b2⟩:=hb W;(have a8:∃R d,v'=.slice R m d/\m<=d:=by (rcases(hs W).2 with⟨R,cc,rfl,rfl⟩|⟨b,off,d,cs,e',fz,rfl,_,_,_,hc⟩);{exact⟨R,cc,J,Zz _⟩};exact⟨_,d,J,hc⟩);obtain⟨R,d,rfl,ab⟩:=a8;(have X:(Instr.slice t (.slice R m d) (lo'.map a.eval) (hi'.map a.eval) none).run P w=.ok (dV (.slice R m d) (l.getD 0).toNat (h.getD m).toNat ti.size) w:=by (rcases qz hf T hl with⟨rfl,el⟩|⟨kl,il,rfl,el⟩<;>rcases qz hf T hh with⟨rfl,eh⟩|⟨kh,L,rfl,eh⟩<;>rw[el,eh]<;>simp only[YK,Option.getD_none]at b0 Y b2⊢);{simp[Instr.slice,run_underlying u,Instr.sliceBounds,(y _ _ B).sizeOf,dV]};{have e2:(L.toNat:Int)=L:=YZ om;simp[Instr.slice,run_underlying u,Instr.sliceBounds,(y _ _ B).sizeOf,dV,run_sliceBound,(by omega:0<=L),(by omega:L<=d)]};{have e2:(il.toNat:Int)=il:=YZ om;simp[Instr.slice,run_underlying u,Instr.sliceBounds,(y _ _ B).sizeOf,dV,run_sliceBound,b0,Y]};have e2:(L.toNat:Int)=L:=YZ om;simp[Instr.slice,run_underlying u,Instr.sliceBounds,(y _ _ B).sizeOf,dV,run_sliceBound,b0,Y,(by omega:0<=L),(by omega:L<=d),e2]);have e1:a.eval x=.slice R m d:=h1;simp only[M',e1,Instr.sliceAt,ZR,run_underlying u,ZU,X,ZO,SV.den,A.den]};simp at M}
  simp_all
 |_=>simp[N,mz]at M
def vF(tt:Z8 (Nat×TI))(F:cy)(p:Z8 (Nat×Bool)):Op->Z4 (Z5×Z4 Int×Z4 Int)
 |.slice t x lo hi none=>match cV F p x,rh F p lo,rh F p hi,lk tt t with
  |some (.a (.v (.string s))),some l,some h,some ⟨_,_,_,_,.str⟩=>some (s,l,h)
  |_,_,_,_=>none
 |_=>none
theorem pF(a0:dl P tt){p:Z8 (Nat×Bool)}{g:Bool}{s:Z5}{lo hi:Z4 Int} (y:vF tt F p o.op=some (s,lo,hi)) (hb:g=true->0<=lo.getD 0/\lo.getD 0<=hi.getD s.size/\hi.getD s.size<=s.size): dY P o n F C O nl V p g (.a (.v (.string (s.extract (lo.getD 0).toNat (hi.getD s.size).toNat)))):=by
 intro T E a w X u hm;refine⟨?_,J⟩;unfold Yv execOp;cases m:o.op with
 |slice t x lo' hi' mx=>
  cases mx with
  |some mx=>simp[m,vF]at y
  |none=>
  simp only[m,vF]at y;split at y;{rename_i L l h ad by_ z fl hx hl hh Y;simp only[Z0,ZN]at y;obtain⟨rfl,rfl,rfl⟩:=y;obtain⟨h1,_⟩:=cZ X u hx;obtain⟨dd,d,hk,_⟩:=(a0 _ _ Y).und;(have R:dd=.string:=by cases dd<;>simp[eM]at hk<;>rfl);subst R;obtain⟨W,N,Z⟩:=hb T;(have B:(Instr.slice t (.string L) (lo'.map a.eval) (hi'.map a.eval) none).run P w=.ok (.string (L.extract (l.getD 0).toNat (h.getD L.size).toNat)) w:=by (rcases qz X u hl with⟨rfl,el⟩|⟨kl,il,rfl,el⟩<;>rcases qz X u hh with⟨rfl,eh⟩|⟨kh,M,rfl,eh⟩<;>rw[el,eh]<;>simp only[YK,Option.getD_none]at W N Z⊢);{simp[Instr.slice,run_underlying d,Instr.sliceBounds]};{simp[Instr.slice,run_underlying d,Instr.sliceBounds,run_sliceBound,(by omega:0<=M),Z]};{simp[Instr.slice,run_underlying d,Instr.sliceBounds,run_sliceBound,W,N]};have e2:(M.toNat:Int)=M:=YZ om;simp[Instr.slice,run_underlying d,Instr.sliceBounds,run_sliceBound,W,N,Z,(by omega:0<=M),e2]);have e1:a.eval x=.string L:=h1;simp only[M',e1,Instr.sliceAt,ZR,run_underlying d,ZU,B,ZO,SV.den,A.den]}
  simp_all
 |_=>simp[m,vF]at y
def C4(tt:Z8 (Nat×TI))(F:cy)(p:Z8 (Nat×Bool)):Op->Z4 (Z5×Int)
 |.index t x i=>match cV F p x,cV F p i,lk tt t with
  |some (.a (.v (.string s))),some (.a (.v (.int _ k))),some ⟨_,_,_,_,.str⟩=>some (s,k)
  |_,_,_=>none
 |_=>none
def eb(s:Z5)(i:Nat):UInt8:=s.data[i]?.getD 0
theorem iq(T:dl P tt){p:Z8 (Nat×Bool)}{g:Bool}{s:Z5}{i:Int} (l:C4 tt F p o.op=some (s,i)) (hb:g=true->0<=i/\i<s.size):dY P o n F C O nl V p g (.a (.v (.int .u8 (eb s i.toNat).toNat))):=by
 intro N E a w X B hm;refine⟨?_,J⟩;unfold Yv execOp;cases u:o.op with
 |index t x ix=>simp only[u,C4]at l;split at l;{rename_i d kk k a9 by_ z fl hx hi R;simp only[Z0,ZN]at l;obtain⟨rfl,rfl⟩:=l;obtain⟨h1,_⟩:=cZ X B hx;obtain⟨Z,_⟩:=cZ X B hi;obtain⟨Y,M,hk,_⟩:=(T _ _ R).und;(have W:Y=.string:=by cases Y<;>simp[eM]at hk<;>rfl);subst W;obtain⟨b0,b1⟩:=hb N;(have m:k.toNat<d.size:=by omega);(have L:d[k.toNat]? =some (eb d k.toNat):=by (have h3:d[k.toNat]? =some d[k.toNat]:=by simp[m]);rw[h3];have y:k.toNat<d.data.size:=m;(have h4:d.data[k.toNat]? =some d.data[k.toNat]:=by simp[y]);unfold eb;rw[h4];rfl);simp[h1,Z,SV.den,A.den,Instr.index,asIntOf,run_underlying M,b0,L]};simp at l
 |_=>simp[u,C4]at l
def mA(F:cy)(p:Z8 (Nat×Bool)):Op->Z4 (BinOp×IntKind×Int×IntKind×Int)
 |.binOp op _ x y _=>match cV F p x,cV F p y with
  |some (.a (.v (.int k a))),some (.a (.v (.int k' b)))=>some (op,k,a,k',b)
  |_,_=>none
 |_=>none
theorem vT{p:Z8 (Nat×Bool)}{g:Bool}{k:IntKind}{x y:Int}(d:mA F p o.op=some (.quo,k,x,k,y))(M:g=true->y≠0): dY P o n F C O nl V p g (.a (.v (.int k (k.wrap (x.tdiv y))))):=by
 intro z E a w B m W;refine⟨?_,J⟩;unfold Yv execOp;cases l:o.op with
 |binOp op t ox oy u=>simp only[l,mA]at d;split at d;{rename_i k1 a1 X a2 T R;simp only[Z0,ZN]at d;obtain⟨rfl,rfl,rfl,rfl,rfl⟩:=d;obtain⟨N,_⟩:=cZ B m T;obtain⟨L,_⟩:=cZ B m R;simp[N,L,SV.den,A.den,eqGuard_at_int,binOp,Op.intDiv,M z]};simp at d
 |_=>simp[l,mA]at d
theorem pZ{p:Z8 (Nat×Bool)}{g:Bool}{k:IntKind}{x y:Int}(d:mA F p o.op=some (.rem,k,x,k,y))(M:g=true->y≠0): dY P o n F C O nl V p g (.a (.v (.int k (x.tmod y)))):=by
 intro z E a w B m W;refine⟨?_,J⟩;unfold Yv execOp;cases l:o.op with
 |binOp op t ox oy u=>simp only[l,mA]at d;split at d;{rename_i k1 a1 X a2 T R;simp only[Z0,ZN]at d;obtain⟨rfl,rfl,rfl,rfl,rfl⟩:=d;obtain⟨N,_⟩:=cZ B m T;obtain⟨L,_⟩:=cZ B m R;simp[N,L,SV.den,A.den,eqGuard_at_int,binOp,Op.intDiv,M z]};simp at d
 |_=>simp[l,mA]at d
theorem pk{p:Z8 (Nat×Bool)}{g:Bool}{k k':IntKind}{x y:Int}(d:mA F p o.op=some (.shr,k,x,k',y))(N:g=true->0<=y/\y<=k.bits): dY P o n F C O nl V p g (.a (.v (.int k (x / 2^y.toNat)))):=by
 intro z E a w B m Y;refine⟨?_,J⟩;unfold Yv execOp;cases l:o.op with
 |binOp op t ox oy u=>simp only[l,mA]at d;split at d;{rename_i k1 a1 Z a2 X W;simp only[Z0,ZN]at d;obtain⟨rfl,rfl,rfl,rfl,rfl⟩:=d;obtain⟨T,_⟩:=cZ B m X;obtain⟨M,_⟩:=cZ B m W;obtain⟨R,L⟩:=N z;simp only[T,M,SV.den,A.den,eqGuard_at_int,binOp_shr,shift_shr _ _ _ _ R L,pure_bind,ZO]};simp at d
 |_=>simp[l,mA]at d
theorem Oi{p:Z8 (Nat×Bool)}{g:Bool}{k k':IntKind}{x y:Int}(d:mA F p o.op=some (.shl,k,x,k',y))(N:g=true->0<=y/\y<=k.bits): dY P o n F C O nl V p g (.a (.v (.int k (k.wrap (x*2^y.toNat))))):=by
 intro z E a w B m Y;refine⟨?_,J⟩;unfold Yv execOp;cases l:o.op with
 |binOp op t ox oy u=>simp only[l,mA]at d;split at d;{rename_i k1 a1 Z a2 X W;simp only[Z0,ZN]at d;obtain⟨rfl,rfl,rfl,rfl,rfl⟩:=d;obtain⟨T,_⟩:=cZ B m X;obtain⟨M,_⟩:=cZ B m W;obtain⟨R,L⟩:=N z;simp only[T,M,SV.den,A.den,eqGuard_at_int,binOp_shl,shift_shl _ _ _ _ R L,pure_bind,ZO]};simp at d
 |_=>simp[l,mA]at d
def oO(F:cy)(p:Z8 (Nat×Bool)):Op->Z4 (Bool×IntKind×Int×Int)
 |.call ⟨.builtin .min,args,_⟩=>match args.toList with
  |[x,y]=>match cV F p x,cV F p y with
   |some (.a (.v (.int k a))),some (.a (.v (.int _ b)))=>some (false,k,a,b)
   |_,_=>none
  |_=>none
 |.call ⟨.builtin .max,args,_⟩=>match args.toList with
  |[x,y]=>match cV F p x,cV F p y with
   |some (.a (.v (.int k a))),some (.a (.v (.int _ b)))=>some (true,k,a,b)
   |_,_=>none
  |_=>none
 |_=>none
theorem mO{p:Z8 (Nat×Bool)}{g Z:Bool}{k:IntKind}{x y:Int}(d:oO F p o.op=some (Z,k,x,y)): dY P o n F C O nl V p g (.a (.v (.int k (bif Z then max x y else min x y)))):=by
 intro a0 E a w L u hm;refine⟨?_,J⟩;unfold Yv execOp;cases m:o.op with
 |call c=>
  obtain⟨t,z,ts⟩:=c;cases t with
  |builtin b=>
   cases b with
   |min=>simp only[m,oO]at d;split at d;{rename_i T M l;(have Y:z= #[T,M]:=by simpa using Y5 List.toArray l);subst Y;split at d;{rename_i k1 a1 k2 B X W;simp only[Z0,ZN]at d;obtain⟨rfl,rfl,rfl,rfl⟩:=d;obtain⟨R,_⟩:=cZ L u X;obtain⟨N,_⟩:=cZ L u W;(have e:(if B<a1 then B else a1)=min a1 B:=by rw[Int.min_def];split<;>split<;>omega);simp[resolve,invoke,builtin,Builtin.min_,Builtin.min2,R,N,SV.den,A.den,e]};simp at d};simp at d
   |max=>simp only[m,oO]at d;split at d;{rename_i T M l;(have Y:z= #[T,M]:=by simpa using Y5 List.toArray l);subst Y;split at d;{rename_i k1 a1 k2 B X W;simp only[Z0,ZN]at d;obtain⟨rfl,rfl,rfl,rfl⟩:=d;obtain⟨R,_⟩:=cZ L u X;obtain⟨N,_⟩:=cZ L u W;(have e:(if a1<B then B else a1)=max a1 B:=by rw[Int.max_def];split<;>split<;>omega);simp[resolve,invoke,builtin,Builtin.max_,Builtin.max2,R,N,SV.den,A.den,e]};simp at d};simp at d
   |_=>simp[m,oO]at d
  |_=>simp[m,oO]at d
 |_=>simp[m,oO]at d
def wS(F:cy)(p:Z8 (Nat×Bool)):Op->Z4 (Z5×Z5)
 |.binOp .add _ x y _=>match cV F p x,cV F p y with
  |some (.a (.v (.string a))),some (.a (.v (.string b)))=>some (a,b)
  |_,_=>none
 |_=>none
theorem vf{p:Z8 (Nat×Bool)}{g:Bool}{x y:Z5}(l:wS F p o.op=some (x,y))(R:g=true->x.size+y.size<=9223372036854775807): dY P o n F C O nl V p g (.a (.v (.string (x++y)))):=by
 intro B E a w L m Z;refine⟨?_,J⟩;unfold Yv execOp;cases d:o.op with
 |binOp op t ox oy u=>
  cases op with
  |add=>simp only[d,wS]at l;split at l;{rename_i a1 M X W;simp only[Z0,ZN]at l;obtain⟨rfl,rfl⟩:=l;obtain⟨T,_⟩:=cZ L m X;obtain⟨N,_⟩:=cZ L m W;have Y:=R B;(have z: ¬(((a1.size+M.size:Nat):Int)>IntKind.i64.max):=by rw[IntKind.max_i64];omega);simp only[T,N,SV.den,A.den,eqGuard_at_string,binOp,Op.stringOp,z,Zt,pure_bind,ZR,ZO,ZU]};simp at l
  |_=>simp[d,wS]at l
 |_=>simp[d,wS]at l
end
section
variable{P:Z3}{tt:Z8 (Nat×TI)}{ops:Array Oper}{Q:Exit->Act->Z6->Prop}{o:Oper}{rest:Z8 Oper}
 {n:Nat} {F:cy} {C:Z8 Nat} {O:Own} {nl:Nat} {V:Vw} {K:Act->Z6->Prop}
def Vw.put(V:Vw)(b:Nat)(ob:Obj):Vw:=⟨λk=>if k=b then some ob else V.get k,V.os,V.tape,V.output⟩
theorem Mem.vext{E:Env}{w:Z6}(p:Mem E O nl V w)(t:Obj):Vext w.heap.size V (V.put w.heap.size t) (w.alloc t):=by
 have l:∀k d,V.get k=some d->k<w.heap.size:=λk d h=>(Array.getElem?_eq_some_iff.1 (p.get k d h)).1;refine⟨⟨?_,J,J,J⟩,?_⟩
 .intro k d h;have:=l k d h;simp only[Vw.put]
  grind
 intro k d h;simp only[Vw.put]at h;by_cases m:k=w.heap.size;{rw[ZW m]at h;cases h;subst m;exact⟨heap_alloc_new w _,.inr (ZS _)⟩};rw[ZX m]at h;have o:=l k d h;exact⟨by rw[heap_alloc_old w _ o];exact p.get _ _ h,.inl h⟩
theorem WC{p:Z8 (Nat×Bool)}{g:Bool}{u:Z8 Nat}{d:Nat}(z:Nat->Z7)(y:Obj) (T:gd ops F C o.guard=some (p,g,u)) (hd:o.dst=some d) (t:(Nat.blt d n&& !(dh d u))=true) (Y:g=true-> ∀E (a:Act) w,Frm E n F u nl a.tmps->eN F p=true->Mem E O nl V w->(execOp a.eval o).run P w=.ok (.value (z w.heap.size)) (w.alloc y)) (l:∀b V',V.le V'->(g=true->V'.get b=some y)->KJ (wpList P ops Q rest) n ((d,⟨p,g,.a (.v (z b))⟩)::F) u O nl V'):KJ (wpList P ops Q (o::rest)) n F C O nl V:=by
 constructor;intro E a w m X B;obtain⟨W,L,M,N⟩:=gz X T;simp at t;unfold wpList;rw[W];cases g with
 |true=>simp;left;unfold Oper.wp;rw[Y J E a w L M.symm B];show wpList P ops Q rest (a.put o.dst _) _;rw[hd];have R:=B.vext y;refine(l w.heap.size _ R.le (λ_=>by simp[Vw.put])).out E _ _ (by simp[Act.put,m]) ?_<|B.ext (mh w y) R;have:=Frm.put (p:=p) (g:=true) (s:=.a (.v (z w.heap.size))) L t.1 t.2 M N (λ_=>rfl);simpa[SV.den,A.den]using this
 |false=>simp only[Zw,Zt,hd];refine(l 0 V (Vw.le.refl _) sm).out E _ w (by simp[Act.put,m]) ?_ B;have:=Frm.put (p:=p) (g:=false) (s:=.a (.v (z 0))) L t.1 t.2 M N sm;simpa using this
def eU:Nat->Z8 Z7->Z8 Z7
 |0,_=>[]
 |n+1,z=>z++eU n z
theorem sL(z:Z8 Z7):∀n,(eU n z).length=n*z.length
 |0=>by simp[eU]
 |n+1=>by simp[eU,sL z n,Y4];omega
theorem Hl(z:Z8 Z7):∀(n i:Nat),i<n*z.length->(eU n z)[i]? =z[i%z.length]?
 |0,i,h=>by simp at h
 |n+1,i,h=>by
  simp only[eU,List.getElem?_append]
  by_cases hi:i<z.length
  . rw[ZW hi,T' hi]
  ·
   have h':i<n*z.length+z.length:=by rwa [Y4,Yk]at h
   rw[ZX hi,Hl z n (i - z.length) om]
   have:=Nat.mod_eq_sub_mod (show i≥z.length by omega)
   rw[this]
theorem Bh(z:Array Z7)(n:Nat):(Array.range (n*z.size)).map (λi=>z[i%z.size]!)=(eU n z.toList).toArray:=by
 apply K_;intro i;by_cases hi:i<n*z.size
 ·(have d:0<z.size:=by grind);have o:i%z.size<z.size:=Nat.mod_lt _ d;have:=Hl z.toList n i (by simpa using hi)
  simp_all
 (have m:((Array.range (n*z.size)).map (λi=>z[i%z.size]!)).size<=i:=by simp;omega);(have l:(eU n z.toList).toArray.size<=i:=by simp[sL];omega);rw[Array.getElem?_eq_none m,Array.getElem?_eq_none l]
def pM(e sz:Nat):Nat->Nat->Z8 (Nat×Nat×Nat)
 |0,_=>[]
 |n+1,i=>(i*sz,e,sz)::pM e sz n (i+1)
theorem z8(e sz:Nat):∀(n i j:Nat) (q:Nat×Nat×Nat),(pM e sz n i)[j]? =some q->q=((i+j)*sz,e,sz)
 |0,i,j,q,h=>by simp[pM]at h
 |n+1,i,0,q,h=>by simp[pM]at h;simp[<-h]
 |n+1,i,j+1,q,h=>by
  have:=z8 e sz n (i+1) j q h
  grind
def mj:Z8 A->Z4 (Z8 Z7)
 |[]=>some []
 |.v x::r=>match mj r with
  |some l=>some (x::l)
  |none=>none
 |_=>none
theorem Ac{E:Env}:∀{l:Z8 A} {vs:Z8 Z7},mj l=some vs->l.map (A.den E)=vs
 |[],vs,h=>by simp[mj]at h;subst h;rfl
 |x::r,vs,h=>by
  cases x with
  |v x=>
   simp only[mj]at h
   split at h
   ·
    rename_i l hl
    simp at h
    subst h
    simp[A.den,Ac hl]
   grind
  |_=>simp[mj]at h
def qF(tt:Z8 (Nat×TI))(F:cy)(O:Own)(p:Z8 (Nat×Bool)):Op->Z4 (Nat×Z8 Z7×Nat)
 |.buildSlice t len parts=>match lk tt t with
  |some ⟨_,_,_,_,.slice e⟩=>match lk tt e with
   |some ti=>bif Nat.ble (len*ti.size) 16777216&&Nat.beq ti.zero.length ti.size then
     (match ot F O p (pM e ti.size len 0) parts.toList ((eU len ti.zero).map .v)with
      |some cs=>match mj cs with
       |some vs=>some (len,vs,e)
       |none=>none
      |none=>none)else none
   |none=>none
  |_=>none
 |_=>none
theorem wL(L:dl P tt){E:Env}{a:Act}{w:Z6}{p:Z8 (Nat×Bool)}(hf:Frm E n F C nl a.tmps)(ae:eN F p=true)(hm:Mem E O nl V w){len e:Nat}{vs:Z8 Z7} (d:qF tt F O p o.op=some (len,vs,e)): (execOp a.eval o).run P w=.ok (.value (.slice (some ⟨w.heap.size,0,none⟩) len len)) (w.alloc (.cells vs.toArray e (0,0))):=by
 unfold execOp;cases Y:o.op with
 |buildSlice t len' parts=>
  simp only[Y,qF]at d;split at d
  .rename_i sz by_ z fl e' a9;split at d
   .rename_i y M;cases B:(Nat.ble (len'*y.size) 16777216&&Nat.beq y.zero.length y.size)with
    |false=>simp[B]at d
    |true=>
     simp only[B,Za]at d;simp only[Z1,Nat.ble_eq,YU]at B;split at d
     .rename_i cs aa;split at d
      .rename_i a5 ad;simp only[Z0,ZN]at d;obtain⟨rfl,rfl,rfl⟩:=d;obtain⟨dd,T,hk,_⟩:=(L _ _ a9).und;(have a7:dd=.slice e':=by cases dd<;>simp[eM]at hk;rw[hk]);subst a7;obtain⟨zv,hz,a0⟩:=(L _ _ M).zeroValue w
       have d:∀l:Z8 Z7,(l.map A.v).map (A.den E)=l/\dH nl (l.map A.v)=true:=by
        intro l
        induction l with
        |nil=>exact⟨J,J⟩
        |cons x r ih=>exact⟨by simp[A.den,ih.1],by simp[dH,A.ok,ih.2]⟩
       obtain⟨m,_⟩:=vU (E:=E) hf hm ae (place:=λi=>some (i*y.size,y.size)) (λi q h=>by rw[z8 _ _ _ _ _ _ h];simp) aa (d _).2;rw[(d _).1,Ac ad]at m;(have ab:zv.cells.size=y.size:=by rw[<-B.2,<-a0];simp);(have N:(Array.range (len'*y.size)).map (λi=>zv.cells[i%zv.cells.size]!)=(eU len' y.zero).toArray:=by rw[<-a0,<-ab];exact Bh _ _);(have a6: ¬(len'*y.size>2^24):=by have:=B.1;omega);(have u:(parts.map λ(q:Nat×Operand)=>(q.1,a.eval q.2)).toList=parts.toList.map λq=>(q.1,a.eval q.2):=by simp);(have Z:(Instr.buildSlice t len' (parts.map λ(q:Nat×Operand)=>(q.1,a.eval q.2))).run P w=.ok (.slice (some ⟨w.heap.size,0,none⟩) len' len') (w.alloc (.cells a5.toArray e' (0,0))):=by by_cases X:len'*y.size=0;{(have W:(Array.range (len'*y.size)).map (λi=>(#[]:Array Z7)[i%(#[]:Array Z7).size]!)=(eU len' y.zero).toArray:=by (have h1:eU len' y.zero=[]:=by apply Zu;rw[sL,B.2];exact X);simp[X,h1]);simp only[Instr.buildSlice,ZR,run_underlying T,ZU,(L _ _ M).sizeOf,a6,Zt,X,Yf,ZO,Sem.run_ite];rw[X]at W;simp only[W,u,m];simp[newRow]};simp only[Instr.buildSlice,ZR,run_underlying T,ZU,(L _ _ M).sizeOf,a6,Zt,X,hz,ZO,Sem.run_ite,N,u,m];simp[newRow]);have R:(Instr.buildSlice t len' (parts.map λx=>match x with|(i,x)=>(i,a.eval x))).run P w=.ok (.slice (some ⟨w.heap.size,0,none⟩) len' len') (w.alloc (.cells a5.toArray e' (0,0))):=Z;simp only[ZR,R,ZU,ZO]
      simp at d
     simp at d
   simp at d
  simp at d
 |_=>simp[Y,qF]at d
theorem jV(t:dl P tt){p:Z8 (Nat×Bool)}{g:Bool}{m:Z8 Nat}{d len e:Nat}{y:Z8 Z7}
  (M:gd ops F C o.guard=some (p,g,m)) (L:qF tt F O p o.op=some (len,y,e)) (hd:o.dst=some d) (N:(Nat.blt d n&& !(dh d m))=true)
  (l:∀b V',V.le V'->(g=true->V'.get b=some (.cells y.toArray e (0,0)))->KJ (wpList P ops Q rest) n ((d,⟨p,g,.a (.v (.slice (some ⟨b,0,none⟩) len len))⟩)::F) m O nl V'):KJ (wpList P ops Q (o::rest)) n F C O nl V:=
 WC (λb=>.slice (some ⟨b,0,none⟩) len len) _ M hd N (λ_ E a w B u z=>wL t B u z L) l
theorem SlOf.ofBlock{α:Type}{V:Vw}{enc:α->Z8 Z7}{sz b e c:Nat}{fz:Nat×Nat}{l:Z8 α}{xs:Z8 Z7}(o:V.get b=some (.cells xs.toArray e fz))(t:xs=l.flatMap enc)(m:∀x,(enc x).length=sz)(p:l.length<=c): SlOf V enc sz (.slice (some ⟨b,0,none⟩) l.length c) l:=by
 have d:∀l:Z8 α,(l.flatMap enc).length=l.length*sz:=by
  intro l
  induction l with
  |nil=>simp
  |cons x r ih=>simp[ih,m,Y4];omega
 refine⟨⟨d l,.inr ⟨b,0,c,xs.toArray,e,fz,J,o,?_,?_,p⟩⟩,m⟩;{subst t;simp[d]}
 grind
