/-
 Operations that only yield a value, reckoned on a symbolic state; and their soundness.
-/
import Derived.Test.YtkoiogkdiifgfaaGreatEng1
set_option linter.unusedSimpArgs false
set_option linter.unusedVariables false
namespace Go.Eng
open Go Go.RowKit
inductive TK where
 |int (k:IntKind)
 |bool
 |str
 |slice (e:Nat)
 |arr (n e:Nat)
 |struct
 |other
structure TI where
 size:Nat
 bytes:Nat
 zero:List Value
 flds:List (Nat×Nat×Nat)
 kind:TK
def TI.agg(i:TI):Bool:=match i.kind with
 | .struct=>true
 | .arr _ _=>true
 |_=>false
def z19:TypeDesc→TK
 | .int k=> .int k
 | .bool=> .bool
 | .string=> .str
 | .slice e=> .slice e
 | .array n e=> .arr n e
 | .struct _=> .struct
 |_=> .other
def fieldsOf(P:Program):TypeDesc→List (Nat×Nat×Nat)
 | .struct fs=>fs.toList.map fun f=>(f.offset,f.type,((P.info? f.type).map (·.size)).getD 0)
 |_=>[]
structure TIok(P:Program)(t:Nat)(i:TI):Prop where
 size:(P.info? t).map (fun f=>(f.size,f.bytes))=some (i.size,i.bytes)
 zero:(P.info? t).bind (fun f=>f.zero.map (fun z=>z.cells.toList))=some i.zero
 kind:(P.underlying t).map z19=some i.kind
 flds:(P.underlying t).map (fieldsOf P)=some i.flds
def z0s(P:Program)(tt:List (Nat×TI)):Prop:= ∀t i,lk tt t=some i→TIok P t i
theorem z0s.nil(P:Program):z0s P []:=fun _ _ h=>by simp[lk]at h
theorem z0s.cons{P:Program}{t:Nat}{i:TI}{tt:List (Nat×TI)}(h:TIok P t i)(r:z0s P tt):z0s P ((t,i)::tt):=fun u j hu=>by
 rw[z1l]at hu
 by_cases e:t=u
 · subst e;simp at hu;subst hu;exact h
 · simp[e]at hu;exact r u j hu
theorem TIok.info{P:Program}{t:Nat}{i:TI}(h:TIok P t i): ∃f,P.info? t=some f∧f.size=i.size∧f.bytes=i.bytes∧ ∃z,f.zero=some z∧z.cells.toList=i.zero:=by
 have h1:=h.size
 have h2:=h.zero
 cases hq:P.info? t with
 |none=>simp[hq]at h1
 |some f=>
  simp only[hq,Option.map_some,Option.some.injEq,Prod.mk.injEq]at h1
  simp only[hq,Option.bind_some]at h2
  cases hz:f.zero with
  |none=>simp[hz]at h2
  |some z=>
   simp only[hz,Option.map_some,Option.some.injEq]at h2
   exact⟨f,rfl,h1.1,h1.2,z,hz,h2⟩
theorem TIok.und{P:Program}{t:Nat}{i:TI}(h:TIok P t i): ∃d,P.underlying t=some d∧z19 d=i.kind∧fieldsOf P d=i.flds:=by
 have h1:=h.kind
 have h2:=h.flds
 cases hq:P.underlying t with
 |none=>simp[hq]at h1
 |some d=>
  simp only[hq,Option.map_some,Option.some.injEq]at h1 h2
  exact⟨d,rfl,h1,h2⟩
theorem TIok.isAgg{P:Program}{t:Nat}{i:TI}(h:TIok P t i)(w:World):(isAgg t).run P w= .ok i.agg w:=by
 obtain⟨d,hd,hk,_⟩:=h.und
 unfold Go.isAgg
 rw[Sem.run_bind,run_underlying hd w]
 unfold TI.agg
 rw[←hk]
 cases d<;>rfl
theorem TIok.sizeOf{P:Program}{t:Nat}{i:TI}(h:TIok P t i)(w:World):(sizeOf t).run P w= .ok i.size w:=by
 obtain⟨f,hf,hs,_⟩:=h.info
 simp[Go.sizeOf,typeInfo,hf,hs]
theorem TIok.zeroValue{P:Program}{t:Nat}{i:TI}(h:TIok P t i)(w:World): ∃z,(zeroValue t).run P w= .ok z w∧z.cells.toList=i.zero:=by
 obtain⟨f,hf,_,_,z,hz,hc⟩:=h.info
 exact⟨z,by simp[Go.zeroValue,typeInfo,hf,hz],hc⟩
def zm9:Nat→List A→Option (List A)
 |0,l=>some l
 |n+1,_::r=>zm9 n r
 |_+1,[]=>none
def zld:Nat→List A→Option (List A)
 |0,_=>some []
 |n+1,x::r=>match zld n r with
  |some l=>some (x::l)
  |none=>none
 |_+1,[]=>none
def j4f(off n:Nat)(l:List A):Option (List A):=
 match zm9 off l with
 |some r=>zld n r
 |none=>none
theorem zgd: ∀{n:Nat} {l r:List A},zm9 n l=some r→r=l.drop n∧n≤l.length
 |0,l,r,h=>by simp[zm9]at h;simp[h]
 |n+1,x::l,r,h=>by
  have:=zgd (n:=n) (l:=l) (by simpa[zm9]using h)
  exact⟨by simpa using this.1,by simp;exact this.2⟩
 |n+1,[],r,h=>by simp[zm9]at h
theorem zff: ∀{n:Nat} {l r:List A},zld n l=some r→r=l.take n∧n≤l.length
 |0,l,r,h=>by simp[zld]at h;simp[←h]
 |n+1,x::l,r,h=>by
  simp only[zld]at h
  cases h':zld n l with
  |none=>simp[h']at h
  |some q=>
   simp only[h',Option.some.injEq]at h
   have:=zff h'
   subst h
   exact⟨by simp[this.1],by simp;exact this.2⟩
 |n+1,[],r,h=>by simp[zld]at h
theorem zje{off n:Nat}{l r:List A}(h:j4f off n l=some r):r=(l.drop off).take n∧off+n≤l.length:=by
 unfold j4f at h
 cases hd:zm9 off l with
 |none=>simp[hd]at h
 |some q=>
  simp only[hd]at h
  obtain⟨h1,h2⟩:=zgd hd
  obtain⟨h3,h4⟩:=zff h
  subst h1
  refine⟨h3, ?_⟩
  simp at h4
  omega
def z4x:Nat→List A→List A→Option (List A)
 |0,[],l=>some l
 |0,x::xs,_::l=>match z4x 0 xs l with
  |some r=>some (x::r)
  |none=>none
 |0,_::_,[]=>none
 |n+1,xs,y::l=>match z4x n xs l with
  |some r=>some (y::r)
  |none=>none
 |_+1,_,[]=>none
theorem z4r: ∀{off:Nat} {xs l r:List A},z4x off xs l=some r→r=l.take off++xs++l.drop (off+xs.length)∧off+xs.length≤l.length
 |0,[],l,r,h=>by simp[z4x]at h;simp[h]
 |0,x::xs,y::l,r,h=>by
  simp only[z4x]at h
  cases h':z4x 0 xs l with
  |none=>simp[h']at h
  |some q=>
   simp only[h',Option.some.injEq]at h
   have:=z4r h'
   subst h
   refine⟨?_,by simp at this⊢;omega⟩
   have h1:=this.1
   simp only[Nat.zero_add,List.take_zero,List.nil_append]at h1⊢
   simp[h1]
 |0,x::xs,[],r,h=>by simp[z4x]at h
 |n+1,xs,y::l,r,h=>by
  simp only[z4x]at h
  cases h':z4x n xs l with
  |none=>simp[h']at h
  |some q=>
   simp only[h',Option.some.injEq]at h
   have:=z4r h'
   subst h
   refine⟨?_,by simp;omega⟩
   rw[this.1,show n+1+xs.length=(n+xs.length)+1 by omega]
   simp
 |n+1,xs,[],r,h=>by simp[z4x]at h
def cellsOf:SV→List A
 | .a (.v (.agg cs))=>cs.toList.map .v
 | .a x=>[x]
 | .agg cs=>cs
 | .tup _=>[]
def zy0:IntKind→IntKind→Bool
 | .i8, .i8=>true| .i16, .i16=>true| .i32, .i32=>true| .i64, .i64=>true
 | .u8, .u8=>true| .u16, .u16=>true| .u32, .u32=>true| .u64, .u64=>true
 |_,_=>false
theorem zra{a b:IntKind}:zy0 a b=true↔a=b:=by cases a<;>cases b<;>simp[zy0]
def bin(op:BinOp)(x y:Value):Option Value:=
 match x,y with
 | .int k a, .int k' b=>bif zy0 k k' then(match op with
  | .add=>some (.int k (k.wrap (a+b)))
  | .sub=>some (.int k (k.wrap (a - b)))
  | .mul=>some (.int k (k.wrap (a*b)))
  | .eql=>some (.bool (a==b))
  | .neq=>some (.bool (a !=b))
  | .lss=>some (.bool (decide (a<b)))
  | .leq=>some (.bool (decide (a≤b)))
  | .gtr=>some (.bool (decide (b<a)))
  | .geq=>some (.bool (decide (b≤a)))
  | .and=>some (.int k (bits .and k a b))
  | .or=>some (.int k (bits .or k a b))
  | .xor=>some (.int k (bits .xor k a b))
  | .andNot=>some (.int k (bits .andNot k a b))
  |_=>none)else none
 | .string a, .string b=>match op with
  | .eql=>some (.bool (a.toList==b.toList))
  | .neq=>some (.bool (!(a.toList==b.toList)))
  |_=>none
 |_,_=>none
theorem zs8{P:Program}{op:BinOp}{x y v:Value}{t:TypeId}{ox oy:Operand}(h:bin op x y=some v)(w:World):
  (do eqGuard op t ox oy x y;binOp op t x y:Sem Value).run P w= .ok v w:=by
 cases x with
 |int k a=>
  cases y with
  |int k' b=>
   simp only[bin]at h
   cases hk:zy0 k k' with
   |false=>simp[hk]at h
   |true=>
    have:=zra.1 hk
    subst this
    simp only[hk,cond_true]at h
    rw[eqGuard_at_int]
    cases op<;>simp at h<;>subst h<;>first
     |(simp[binOp,Op.intArith];done)
     |(simp[binOp,Op.intCmp];done)
     |(simp[binOp,intBits_and,intBits_or,intBits_xor,intBits_andNot];done)
  |_=>simp[bin]at h
 |string a=>
  cases y with
  |string b=>
   simp only[bin]at h
   rw[eqGuard_at_string]
   cases op<;>simp at h<;>subst h<;>simp[binOp,Op.stringOp]
  |_=>simp[bin]at h
 |_=>cases y<;>simp[bin]at h
def zm8(op:BinOp)(x y:Bool):Option Value:=
 match op with
 | .eql=>some (.bool (x==y))
 | .neq=>some (.bool (x !=y))
 |_=>none
theorem zbz{P:Program}{t:TypeId}{x y:Bool}(ht:P.underlying t=some .bool)(d:Nat)(w:World):(Op.equalIn (d+1) t (.bool x) (.bool y)).run P w= .ok (x==y) w:=by
 simp only[Op.equalIn,Sem.run_bind,run_underlying ht,Result.andThen_ok,Sem.run_pure]
theorem zi6{P:Program}{op:BinOp}{x y:Bool}{v:Value}{t:TypeId}{ox oy:Operand}(ht:P.underlying t=some .bool)(h:zm8 op x y=some v)(w:World):
  (do eqGuard op t ox oy (.bool x) (.bool y);binOp op t (.bool x) (.bool y):Sem Value).run P w= .ok v w:=by
 have he:(Op.equal t (.bool x) (.bool y)).run P w= .ok (x==y) w:=zbz ht 9999 w
 rw[eqGuard_at_bool]
 cases op<;>simp[zm8]at h<;>subst h
 ·
  show((Op.equal t (.bool x) (.bool y))>>=fun b=>Pure.pure (Value.bool b)).run P w=_
  rw[Sem.run_bind,he];rfl
 ·
  show((Op.equal t (.bool x) (.bool y))>>=fun b=>Pure.pure (Value.bool !b)).run P w=_
  rw[Sem.run_bind,he];rfl
def j82(tt:List (Nat×TI))(op:BinOp)(t:Nat)(a b:Value):Option Value:=
 match a,b with
 | .bool a, .bool b=>match lk tt t with
  |some ⟨_,_,_,_, .bool⟩=>zm8 op a b
  |_=>none
 |a,b=>bin op a b
theorem zp8{P:Program}{tt:List (Nat×TI)}(htt:z0s P tt){op:BinOp}{x y v:Value}{t:TypeId}{ox oy:Operand}(h:j82 tt op t x y=some v)(w:World):
  (do eqGuard op t ox oy x y;binOp op t x y:Sem Value).run P w= .ok v w:=by
 unfold j82 at h
 split at h
 ·
  split at h
  ·
   rename_i hti
   obtain⟨d,hd,hk,_⟩:=(htt _ _ hti).und
   have hdb:d= .bool:=by cases d<;>simp[z19]at hk<;>rfl
   subst hdb
   exact zi6 hd h w
  · simp at h
 · exact zs8 h w
def un(op:UnOp)(x:Value):Option Value:=
 match x with
 | .bool b=>match op with
  | .not=>some (.bool (!b))
  |_=>none
 | .int k n=>match op with
  | .neg=>some (.int k (k.wrap (0 - n)))
  | .xor=>some (.int k (bits .xor k (match k.signed with|true=> -1|false=>k.max) n))
  |_=>none
 |_=>none
theorem zwt{P:Program}{op:UnOp}{x v:Value}(h:un op x=some v)(w:World):(Op.unary op x).run P w= .ok v w:=by
 cases x with
 |bool b=>cases op<;>simp[un]at h<;>subst h<;>rfl
 |int k n=>
  cases op<;>simp[un]at h<;>subst h
  · simp[Op.unary,Op.intArith]
  ·
   simp only[Op.unary]
   cases hs:k.signed<;>simp[intBits_xor,hs]
 |_=>simp[un]at h
def zli(F:z05)(p:List (Nat×Bool)):List Operand→Option (List (Nat×Nat))
 |[]=>some []
 |o::r=>match opv F p o with
  |some (.a (.ptr l off))=>match zli F p r with
   |some q=>some ((l,off)::q)
   |none=>none
  |_=>none
def j4e:List A→Option SV
 |[c]=>some (.a c)
 |_=>none
theorem zjl{r:List A}{s:SV}(h:j4e r=some s): ∃c,r=[c]∧s= .a c:=by
 match r,h with
 |[c],h=>simp[j4e]at h;exact⟨c,rfl,h.symm⟩
 |[],h=>simp[j4e]at h
 |_::_::_,h=>simp[j4e]at h
section
variable{n:Nat}{F:z05}{C:List Nat}{O:Own}{nl:Nat}{V:Vw}
def zfx(O:Own):SV→Option (List A)
 | .a (.v x)=>match x with
  | .agg cs=>some (cs.toList.map .v)
  |x=>some [.v x]
 | .a (.row l)=>match lk O l with
  |some (.row _ _ _ _)=>some [.row l]
  |_=>none
 | .a (.ptr l k)=>some [.ptr l k]
 | .a (.fn f c)=>some [.fn f c]
 | .agg cs=>some cs
 |_=>none
theorem z4u{E:Env}{w:World}(hm:Mem E O nl V w){s:SV}{cs:List A}(h:zfx O s=some cs)(hs:s.ok nl=true):
  (s.den E).cells=(cs.map (A.den E)).toArray∧z0z nl cs=true:=by
 have hv: ∀l:List Value,(l.map A.v).map (A.den E)=l∧z0z nl (l.map A.v)=true:=by
  intro l
  induction l with
  |nil=>exact⟨rfl,rfl⟩
  |cons x r ih=>exact⟨by simp[A.den,ih.1],by simp[z0z,A.ok,ih.2]⟩
 unfold zfx at h
 split at h
 ·
  split at h
  ·
   rename_i arr
   simp only[Option.some.injEq]at h
   subst h
   refine⟨?_,(hv _).2⟩
   simp only[SV.den,A.den,Value.cells,(hv _).1]
  ·
   rename_i x hx
   simp only[Option.some.injEq]at h
   subst h
   refine⟨?_,rfl⟩
   simp only[SV.den,A.den,List.map_cons,List.map_nil]
   unfold Value.cells
   split
   · rename_i cs;exact absurd rfl (hx cs)
   · rfl
 ·
  rename_i l
  split at h
  ·
   rename_i e sz m xs hl
   simp only[Option.some.injEq]at h
   subst h
   refine⟨?_,by simpa[z0z,SV.ok]using hs⟩
   have hr:=(hm.row _ _ _ _ _ hl).2
   rcases hr with⟨hv,_⟩|⟨g,cap,cur,hv,_⟩<;>simp[SV.den,A.den,hv,Value.cells]
  · simp at h
 ·
  simp only[Option.some.injEq]at h
  subst h
  exact⟨by simp[SV.den,A.den,Value.cells],by simpa[z0z,SV.ok]using hs⟩
 ·
  simp only[Option.some.injEq]at h
  subst h
  exact⟨by simp[SV.den,A.den,Value.cells],by simpa[z0z,SV.ok]using hs⟩
 ·
  simp only[Option.some.injEq]at h
  subst h
  exact⟨by simp[SV.den,Value.cells],by simpa[SV.ok]using hs⟩
 · simp at h
end
def zgh:List (Nat×Nat×Nat)→Bool
 |[]=>true
 |(_,_,_+1)::r=>zgh r
 |_=>false
def zbl(F:z05)(O:Own)(p:List (Nat×Bool))(flds:List (Nat×Nat×Nat)):List (Nat×Operand)→List A→Option (List A)
 |[],cs=>some cs
 |(i,x)::r,cs=>match flds[i]?,opv F p x with
  |some (off,_,sz),some s=>match zfx O s with
   |some vs=>bif Nat.beq vs.length sz then(match z4x off vs cs with
    |some cs'=>zbl F O p flds r cs'
    |none=>none)else none
   |none=>none
  |_,_=>none
theorem zk7(off:Nat): ∀(vs:List Value) (k:Nat) (cs:Array Value),off+k+vs.length≤cs.size→
  ((vs.zipIdx k).foldl (fun cs (x:Value×Nat)=>cs.setIfInBounds (off+x.2) x.1) cs).toList=cs.toList.take (off+k)++vs++cs.toList.drop (off+k+vs.length)
 |[],k,cs,h=>by simp
 |v::vs,k,cs,h=>by
  simp only[List.length_cons]at h
  simp only[List.zipIdx_cons,List.foldl_cons]
  rw[zk7 off vs (k+1) _ (by simp;omega)]
  simp only[Array.toList_setIfInBounds,List.length_cons]
  have hlt:off+k<cs.toList.length:=by simp;omega
  rw[show off+(k+1)=off+k+1 by omega,List.take_succ_eq_append_getElem (by simpa using hlt)]
  simp only[List.getElem_set_self]
  rw[List.take_set_of_le (by omega),List.drop_set_of_lt (by omega)]
  simp only[List.append_assoc,List.cons_append,List.nil_append]
  congr 4
  omega
theorem z6i{E:Env}{n:Nat}{F:z05}{C:List Nat}{O:Own}{nl:Nat}{V:Vw}{a:Act}{w:World}{p:List (Nat×Bool)}{flds:List (Nat×Nat×Nat)}
  (hf:Frm E n F C nl a.tmps) (hm:Mem E O nl V w) (hg:z61 F p=true) {place:Nat→Option (Nat×Nat)} (hpl: ∀i q,flds[i]? =some q→place i=some (q.1,q.2.2)):
  ∀{parts:List (Nat×Operand)} {cs cs':List A},zbl F O p flds parts cs=some cs'→z0z nl cs=true→
   Instr.fill place (cs.map (A.den E)).toArray (parts.map fun q=>(q.1,a.eval q.2))=some (cs'.map (A.den E)).toArray∧z0z nl cs'=true
 |[],cs,cs',h,hok=>by simp[zbl]at h;subst h;exact⟨rfl,hok⟩
 |(i,x)::r,cs,cs',h,hok=>by
  simp only[zbl]at h
  split at h
  ·
   rename_i off ft sz s hfl hx
   obtain⟨e1,ok1⟩:=z03 hf hg hx
   split at h
   ·
    rename_i vs hvs
    obtain⟨h3,h4⟩:=z4u hm hvs ok1
    cases hsz:Nat.beq vs.length sz with
    |false=>simp[hsz]at h
    |true=>
     simp only[hsz,cond_true]at h
     have hsz':vs.length=sz:=by simpa using hsz
     split at h
     ·
      rename_i cs1 hsp
      obtain⟨h5,h6⟩:=z4r hsp
      have hok1:z0z nl cs1=true:=by
       rw[h5]
       apply z0o.2
       intro y hy
       simp only[List.append_assoc,List.mem_append]at hy
       rcases hy with hy|hy|hy
       · exact z0o.1 hok y (List.mem_of_mem_take hy)
       · exact z0o.1 h4 y hy
       · exact z0o.1 hok y (List.mem_of_mem_drop hy)
      have hcells:(a.eval x).cells=(vs.map (A.den E)).toArray:=by rw[e1,h3]
      have hfold:(Array.zipIdx (vs.map (A.den E)).toArray).foldl (fun cs (q:Value×Nat)=>cs.setIfInBounds (off+q.2) q.1) (cs.map (A.den E)).toArray=(cs1.map (A.den E)).toArray:=by
       apply Array.ext'
       rw[←Array.foldl_toList]
       have:=zk7 off (vs.map (A.den E)) 0 (cs.map (A.den E)).toArray (by simpa using h6)
       simp only[Nat.add_zero]at this
       rw[show(Array.zipIdx (vs.map (A.den E)).toArray).toList=(vs.map (A.den E)).zipIdx 0 by simp,this,h5]
       simp[List.map_take,List.map_drop]
      obtain⟨ih1,ih2⟩:=z6i hf hm hg hpl h hok1
      refine⟨?_,ih2⟩
      simp only[List.map_cons,Instr.fill,hpl _ _ hfl,hcells]
      rw[if_neg (by simp[hsz'];omega)]
      have:(fun(cs:Array Value) (x:Value×Nat)=>match x with|(c,j)=>cs.setIfInBounds (off+j) c)=fun cs q=>cs.setIfInBounds (off+q.2) q.1:=rfl
      rw[this,hfold]
      exact ih1
     · simp at h
   · simp at h
  · simp at h
theorem zfo{P:Program}{w:World}: ∀{fs:List Field} {flds:List (Nat×Nat×Nat)},fs.map (fun f=>(f.offset,f.type,((P.info? f.type).map (·.size)).getD 0))=flds→zgh flds=true→
  (fs.mapM fun f=>do pure (f.offset,←Go.sizeOf f.type):Sem (List (Nat×Nat))).run P w= .ok (flds.map fun q=>(q.1,q.2.2)) w
 |[],flds,h,_=>by simp at h;subst h;simp
 |f::fs,flds,h,hp=>by
  cases flds with
  |nil=>simp at h
  |cons q flds=>
   simp only[List.map_cons,List.cons.injEq]at h
   obtain⟨h1,h2⟩:=h
   obtain⟨o,t,sz⟩:=q
   cases sz with
   |zero=>simp[zgh]at hp
   |succ sz=>
    simp only[zgh]at hp
    simp only[Prod.mk.injEq]at h1
    obtain⟨rfl,rfl,hsz⟩:=h1
    have hs:(Go.sizeOf f.type).run P w= .ok (sz+1) w:=by
     cases hq:P.info? f.type with
     |none=>simp[hq]at hsz
     |some i=>simp[hq]at hsz;simp[Go.sizeOf,typeInfo,hq,hsz]
    have ih:=zfo (P:=P) (w:=w) h2 hp
    simp only[List.mapM_cons,Sem.run_bind,hs,Result.andThen_ok,Sem.run_pure,ih,List.map_cons]
def j30:SV→Option (List A)
 | .agg cs=>some cs
 | .a (.v (.agg cs))=>some (cs.toList.map .v)
 |_=>none
theorem zmg{E:Env}{nl:Nat}{s:SV}{cs:List A}(h:j30 s=some cs)(hs:s.ok nl=true):s.den E= .agg (cs.map (A.den E)).toArray∧z0z nl cs=true:=by
 have hv: ∀l:List Value,(l.map A.v).map (A.den E)=l∧z0z nl (l.map A.v)=true:=by
  intro l
  induction l with
  |nil=>exact⟨rfl,rfl⟩
  |cons x r ih=>exact⟨by simp[A.den,ih.1],by simp[z0z,A.ok,ih.2]⟩
 unfold j30 at h
 split at h
 · simp only[Option.some.injEq]at h;subst h;exact⟨rfl,by simpa[SV.ok]using hs⟩
 · simp only[Option.some.injEq]at h;subst h;exact⟨by simp only[SV.den,A.den,(hv _).1],(hv _).2⟩
 · simp at h
def z3s(tt:List (Nat×TI))(F:z05)(O:Own)(p:List (Nat×Bool)):Op→Option SV
 | .move x=>opv F p x
 | .assign x=>opv F p x
 | .nilCheck x=>match opv F p x with
  |some (.a (.ptr l off))=>some (.a (.ptr l off))
  |some (.a (.v (.pointer (some b))))=>some (.a (.v (.pointer (some b))))
  |_=>none
 | .pick (.tmp tc) a (.const (.bool false))=>match opv F p (.tmp tc)with
  |some (.a (.v (.bool x)))=>match opv F ((tc,true)::p) a with
   |some (.a (.v (.bool y)))=>some (.a (.v (.bool (x&&y))))
   |_=>none
  |_=>none
 | .pick (.tmp tc) (.const (.bool true)) b=>match opv F p (.tmp tc)with
  |some (.a (.v (.bool x)))=>match opv F ((tc,false)::p) b with
   |some (.a (.v (.bool y)))=>some (.a (.v (.bool (x||y))))
   |_=>none
  |_=>none
 | .load t x=>match opv F p x with
  |some (.a (.ptr l off))=>match lk O l,lk tt t with
   |some (.lit cs _),some ti=>match j4f off ti.size cs with
    |some r=>match ti.agg with
     |true=>some (.agg r)
     |false=>j4e r
    |none=>none
   |_,_=>none
  |_=>none
 | .fieldAddr s x f=>match opv F p x,lk tt s with
  |some (.a y),some ti=>match ti.flds[f]? with
   |some (fo,_,_+1)=>match y with
    | .ptr l off=>some (.a (.ptr l (off+fo)))
    | .v (.pointer (some ⟨b,off,none⟩))=>some (.a (.v (.pointer (some ⟨b,off+fo,none⟩))))
    |_=>none
   |_=>none
  |_,_=>none
 | .field s x f=>match opv F p x,lk tt s with
  |some v,some ti=>match ti.flds[f]? with
   |some (fo,ft,fs)=>match lk tt ft,v with
    |some fi,v=>match j30 v with
     |some cs=>match j4f fo fi.size cs with
      |some r=>match fi.agg with
       |true=>some (.agg r)
       |false=>j4e r
      |none=>none
     |none=>none
    |_,_=>none
   |none=>none
  |_,_=>none
 | .binOp op t x y _=>match opv F p x,opv F p y with
  |some (.a (.v a)),some (.a (.v b))=>match j82 tt op t a b with
   |some v=>some (.a (.v v))
   |none=>none
  |_,_=>none
 | .unOp op _ x=>match opv F p x with
  |some (.a (.v a))=>match un op a with
   |some v=>some (.a (.v v))
   |none=>none
  |_=>none
 | .convert s d x=>match opv F p x,lk tt s,lk tt d with
  |some (.a (.v (.int _ n))),some _,some ⟨_,_,_,_, .int k⟩=>some (.a (.v (.int k (k.wrap n))))
  |_,_,_=>none
 | .makeFunc (.func f) first caps=>match first.toList with
  |[]=>match zli F p caps.toList with
   |some l=>some (.a (.fn f l))
   |none=>none
  |_=>none
 | .extract x i=>match opv F p x with
  |some (.tup xs)=>match xs[i]? with
   |some c=>some (.a c)
   |none=>none
  |some (.a (.v (.tuple vs)))=>match vs.toList[i]? with
   |some c=>some (.a (.v c))
   |none=>none
  |_=>none
 | .build t parts=>match lk tt t with
  |some ⟨_,_,z,flds, .struct⟩=>bif zgh flds then(match zbl F O p flds parts.toList (z.map .v)with
   |some cs=>some (.agg cs)
   |none=>none)else none
  |_=>none
 | .call ⟨.builtin .len,args,ts⟩=>match args.toList,ts.toList with
  |[x],[t]=>match opv F p x,lk tt t with
   |some (.a (.v (.string s))),some ⟨_,_,_,_, .str⟩=>some (.a (.v (.int .i64 s.size)))
   |some (.a (.row l)),some ⟨_,_,_,_, .slice _⟩=>match lk O l with
    |some (.row _ _ n _)=>some (.a (.v (.int .i64 n)))
    |_=>none
   |_,_=>none
  |_,_=>none
 |_=>none
theorem zfe{E:Env}{n:Nat}{F:z05}{C:List Nat}{nl:Nat}{a:Act}{p:List (Nat×Bool)}(hf:Frm E n F C nl a.tmps)(hg:z61 F p=true):
  ∀{os:List Operand} {l:List (Nat×Nat)},zli F p os=some l→
   os.map a.eval=l.map (fun p=>Value.pointer (some ⟨E.ρ p.1,p.2,none⟩))∧zej nl l=true
 |[],l,h=>by simp[zli]at h;subst h;exact⟨rfl,rfl⟩
 |o::r,l,h=>by
  simp only[zli]at h
  cases ho:opv F p o with
  |none=>simp[ho]at h
  |some s=>
   cases s with
   |agg cs=>simp[ho]at h
   |tup cs=>simp[ho]at h
   |a x=>
    cases x with
    |ptr b off=>
     simp only[ho]at h
     cases hr:zli F p r with
     |none=>simp[hr]at h
     |some q=>
      simp only[hr,Option.some.injEq]at h
      subst h
      obtain⟨h1,h2⟩:=zfe hf hg hr
      obtain⟨h3,h4⟩:=z03 hf hg ho
      refine⟨by simp[h1,h3,SV.den,A.den], ?_⟩
      simp only[SV.ok,A.ok]at h4
      simp[zej,h2,h4]
    |_=>simp[ho]at h
def Yv(P:Program)(o:Oper)(a:Act)(w:World)(v:Value):Prop:=(execOp a.eval o).run P w= .ok (.value v) w
theorem zg9{P:Program}{w:World}{b:Nat}{cs:Array Value}{e:Nat}{fr:Nat×Nat}(hb:w.heap[b]? =some (.cells cs e fr))(off n:Nat)(h:off+n≤cs.size):
  (loadCells ⟨b,off,none⟩ n).run P w= .ok ((cs.toList.drop off).take n).toArray w:=by
 have hl:((cs.toList.drop off).take n).length=n:=by simp;omega
 have:=run_loadCells_list (P:=P) w ⟨b,off,none⟩ ((cs.toList.drop off).take n) (fun j v hv=>by
  have hadd:(⟨b,off,none⟩:Addr).add j=⟨b,off+j,none⟩:=by unfold Addr.add;split<;>simp_all
  rw[hadd]
  simp only[World.cell?,hb,Option.isSome_none,Bool.false_eq_true,if_false]
  rw[List.getElem?_take]at hv
  split at hv
  · simpa using hv
  · cases hv)
 rwa [hl]at this
theorem z5d{P:Program}{t:Nat}{ti:TI}(hti:TIok P t ti){w:World}{b off:Nat}{cs:Array Value}{e:Nat}{fr:Nat×Nat}
  (hb:w.heap[b]? =some (.cells cs e fr)) (h:off+ti.size≤cs.size) (v:Value)
  (hv:v=match ti.agg with|true=> .agg ((cs.toList.drop off).take ti.size).toArray|false=>cs[off]?.getD undef) (h0:ti.agg=false→off<cs.size):
  (Instr.loadAt t (.pointer (some ⟨b,off,none⟩))).run P w= .ok v w:=by
 simp only[Instr.loadAt,Instr.sureAddr,loadVar,Sem.run_bind,Sem.run_pure,Result.andThen_ok,hti.isAgg]
 cases hagg:ti.agg with
 |true=>
  simp only[hagg]at hv
  subst hv
  simp[Sem.run_bind,hti.sizeOf,zg9 (P:=P) hb off ti.size h]
 |false=>
  simp only[hagg]at hv
  subst hv
  have hlt:=h0 hagg
  simp[World.cell?,hb,hlt]
theorem z90{P:Program}{tt:List (Nat×TI)}(htt:z0s P tt){E:Env}{n:Nat}{F:z05}{C:List Nat}{O:Own}{nl:Nat}{V:Vw}{a:Act}{w:World}
  {p:List (Nat×Bool)} {o:Oper} {s:SV} (hf:Frm E n F C nl a.tmps) (hm:Mem E O nl V w) (hg:z61 F p=true) (h:z3s tt F O p o.op=some s):
  Yv P o a w (s.den E)∧s.ok nl=true:=by
 unfold Yv execOp
 cases hop:o.op with
 |move x=>
  simp only[hop,z3s]at h
  obtain⟨h1,h2⟩:=z03 hf hg h
  exact⟨by simp[h1],h2⟩
 |assign x=>
  simp only[hop,z3s]at h
  obtain⟨h1,h2⟩:=z03 hf hg h
  exact⟨by simp[h1],h2⟩
 |nilCheck x=>
  simp only[hop,z3s]at h
  split at h
  ·
   rename_i l off hx
   simp only[Option.some.injEq]at h
   subst h
   obtain⟨h1,h2⟩:=z03 hf hg hx
   exact⟨by simp[h1,SV.den,A.den],h2⟩
  ·
   rename_i b hx
   simp only[Option.some.injEq]at h
   subst h
   obtain⟨h1,h2⟩:=z03 hf hg hx
   exact⟨by simp[h1,SV.den,A.den],h2⟩
  · cases h
 |pick c x y=>
  simp only[hop]at h
  have hpick: ∀tc xc,opv F p (.tmp tc)=some (.a (.v (.bool xc)))→z61 F ((tc,xc)::p)=true:=by
   intro tc xc hc
   simp only[opv]at hc
   cases hl:lk F tc with
   |none=>simp[hl]at hc
   |some e=>
    simp only[hl]at hc
    cases hs:zzl e.path p with
    |false=>simp[hs]at hc
    |true=>
     simp only[hs,cond_true,Option.some.injEq]at hc
     obtain⟨pe,ge,xe⟩:=e
     simp only at hc
     subst hc
     simp[z61,hg,z5t,hl]
  unfold z3s at h
  split at h
  all_goals first
   |(cases ‹Op.pick _ _ _=Op.move _›;done)
   |skip
  all_goals try (rename_i heq;cases heq;done)
  ·
   rename_i tc z heq
   cases heq
   cases hc:opv F p (.tmp tc)with
   |none=>simp[hc]at h
   |some sc=>
    simp only[hc]at h
    split at h
    ·
     rename_i xc hsc
     split at h
     ·
      rename_i yc hy
      simp only[Option.some.injEq]at h
      subst h
      cases hsc
      obtain⟨h1,_⟩:=z03 hf hg hc
      refine⟨?_,rfl⟩
      simp only[h1,SV.den,A.den,asBool]
      cases xc with
      |false=>simp[Act.eval]
      |true=>
       obtain⟨h3,_⟩:=z03 hf (hpick tc true hc) hy
       simp[h3,SV.den,A.den]
     · simp at h
    · simp at h
  ·
   rename_i tc z _ heq
   cases heq
   cases hc:opv F p (.tmp tc)with
   |none=>simp[hc]at h
   |some sc=>
    simp only[hc]at h
    split at h
    ·
     rename_i xc hsc
     split at h
     ·
      rename_i yc hy
      simp only[Option.some.injEq]at h
      subst h
      cases hsc
      obtain⟨h1,_⟩:=z03 hf hg hc
      refine⟨?_,rfl⟩
      simp only[h1,SV.den,A.den,asBool]
      cases xc with
      |true=>simp[Act.eval]
      |false=>
       obtain⟨h3,_⟩:=z03 hf (hpick tc false hc) hy
       simp[h3,SV.den,A.den]
     · simp at h
    · simp at h
  · simp at h
 |load t x=>
  simp only[hop,z3s]at h
  cases hx:opv F p x with
  |none=>simp[hx]at h
  |some sx=>
   simp only[hx]at h
   split at h
   ·
    rename_i l off heq
    cases heq
    obtain⟨h1,h2⟩:=z03 hf hg hx
    split at h
    ·
     rename_i cs e ti hlo hti
     have hT:=htt _ _ hti
     have hb:=hm.lit _ _ _ hlo
     have hok:=hm.labs _ _ _ hlo
     cases hc:j4f off ti.size cs with
     |none=>simp[hc]at h
     |some rr=>
      obtain⟨hr,hlen⟩:=zje hc
      have hokr:z0z nl rr=true:=z0o.2 fun x hx=>z0o.1 hok x (by rw[hr]at hx;exact List.mem_of_mem_drop (List.mem_of_mem_take hx))
      simp only[hc]at h
      have e1:a.eval x= .pointer (some ⟨E.ρ l,off,none⟩):=h1
      simp only[e1]
      have hrun: ∀v,(v=match ti.agg with|true=> .agg (((cs.map (A.den E)).drop off).take ti.size).toArray|false=>(cs.map (A.den E)).toArray[off]?.getD undef)→(ti.agg=false→off<cs.length)→
        (Instr.loadAt t (.pointer (some ⟨E.ρ l,off,none⟩))).run P w= .ok v w:=fun v hv h0=>z5d hT hb (by simpa using hlen) v (by simpa using hv) (by simpa using h0)
      have hmap:(((cs.map (A.den E)).drop off).take ti.size)=rr.map (A.den E):=by rw[hr,List.map_take,List.map_drop]
      cases hagg:ti.agg with
      |true=>
       simp only[hagg,Option.some.injEq]at h
       subst h
       refine⟨?_,hokr⟩
       have:=hrun (.agg (rr.map (A.den E)).toArray) (by rw[hagg];simp only[hmap]) (by rw[hagg];simp)
       simp[this,SV.den]
      |false=>
       simp only[hagg]at h
       obtain⟨c,hrc,rfl⟩:=zjl h
       subst hrc
       refine⟨?_,by simpa[z0z,SV.ok]using hokr⟩
       have hlt:off<cs.length:=by
        have:(List.take ti.size (List.drop off cs)).length=1:=by rw[←hr];rfl
        simp at this;omega
       have hcc:cs[off]? =some c:=by
        have h1:(List.take ti.size (List.drop off cs))[0]? =some c:=by rw[←hr];rfl
        rw[List.getElem?_take]at h1
        split at h1
        · simpa using h1
        · cases h1
       have:=hrun (c.den E) (by rw[hagg];simp[hcc]) (fun _=>hlt)
       simp[this,SV.den]
    · simp at h
   · simp at h
 |fieldAddr s x f=>
  simp only[hop,z3s]at h
  split at h
  ·
   rename_i y ti hx hti
   have hT:=htt _ _ hti
   obtain⟨h1,h2⟩:=z03 hf hg hx
   split at h
   ·
    rename_i fo ft fs hfl
    obtain⟨d,hd,hk,hfd⟩:=hT.und
    have hst: ∃fields,d= .struct fields:=by
     cases d<;>first|exact⟨_,rfl⟩|(simp only[fieldsOf]at hfd;rw[←hfd]at hfl;simp at hfl)
    obtain⟨fields,rfl⟩:=hst
    simp only[fieldsOf]at hfd
    rw[←hfd]at hfl
    simp only[List.getElem?_map,Option.map_eq_some_iff,Prod.mk.injEq]at hfl
    obtain⟨fd,hfd1,hoff,hty,hsz⟩:=hfl
    have hsize: ∀w':World,(Go.sizeOf fd.type).run P w'= .ok (fs+1) w':=by
     intro w'
     cases hq:P.info? fd.type with
     |none=>simp[hq]at hsz
     |some q=>simp[hq]at hsz;simp[Go.sizeOf,typeInfo,hq,hsz]
    have hfl':fields[f]? =some fd:=by simpa using hfd1
    have hrun: ∀ad:Addr,(Instr.fieldAt s (.pointer (some ad)) f).run P w= .ok (.pointer (some (ad.add fo))) w:=by
     intro ad
     simp[Instr.fieldAt,run_underlying hd,hfl',Instr.sureAddr,fieldPlace,hsize,hoff]
    split at h
    ·
     rename_i l off
     simp only[Option.some.injEq]at h
     subst h
     refine⟨?_,by simpa[SV.ok,A.ok]using h2⟩
     simp[h1,SV.den,A.den,hrun,Addr.add_lit]
    ·
     rename_i b off
     simp only[Option.some.injEq]at h
     subst h
     refine⟨?_,rfl⟩
     simp[h1,SV.den,A.den,hrun,Addr.add_lit]
    · simp at h
   · simp at h
  · simp at h
 |field t x f=>
  simp only[hop,z3s]at h
  split at h
  ·
   rename_i v ti hx hti
   have hT:=htt _ _ hti
   obtain⟨h1,h2⟩:=z03 hf hg hx
   split at h
   ·
    rename_i fo ft fs hfl
    split at h
    ·
     rename_i fi hfi
     have hF:=htt _ _ hfi
     split at h
     case h_2=>simp at h
     rename_i cs hcs
     obtain⟨e1,hcok⟩:=zmg (E:=E) hcs h2
     rw[e1]at h1
     obtain⟨d,hd,hk,hfd⟩:=hT.und
     have hst: ∃fields,d= .struct fields:=by
      cases d<;>first|exact⟨_,rfl⟩|(simp only[fieldsOf]at hfd;rw[←hfd]at hfl;simp at hfl)
     obtain⟨fields,rfl⟩:=hst
     simp only[fieldsOf]at hfd
     rw[←hfd]at hfl
     simp only[List.getElem?_map,Option.map_eq_some_iff,Prod.mk.injEq]at hfl
     obtain⟨fd,hfd1,hoff,hty,hsz⟩:=hfl
     have hfl':fields[f]? =some fd:=by simpa using hfd1
     cases hc:j4f fo fi.size cs with
     |none=>simp[hc]at h
     |some rr=>
      obtain⟨hr,hlen⟩:=zje hc
      have hokr:z0z nl rr=true:=z0o.2 fun x hx=>z0o.1 hcok x (by rw[hr]at hx;exact List.mem_of_mem_drop (List.mem_of_mem_take hx))
      simp only[hc]at h
      have hrun: ∀q,(part fd.type (cs.map (A.den E)).toArray fd.offset).run P w= .ok q w→(Instr.field t (a.eval x) f).run P w= .ok q w:=by
       intro q hq
       simp[Instr.field,run_underlying hd,hfl',h1,asAgg,hq]
      have hmap:((((cs.map (A.den E)).drop fo).take fi.size))=rr.map (A.den E):=by rw[hr,List.map_take,List.map_drop]
      cases hagg:fi.agg with
      |true=>
       simp only[hagg,Option.some.injEq]at h
       subst h
       refine⟨?_,hokr⟩
       have:=hrun (.agg (rr.map (A.den E)).toArray) (by
        rw[hty,hoff]
        have he:(cs.map (A.den E)).toArray.extract fo (fo+fi.size)=(rr.map (A.den E)).toArray:=by
         apply Array.ext'
         rw[←hmap]
         simp[List.extract_eq_take_drop]
        simp only[part,Sem.run_bind,hF.isAgg,hagg,Result.andThen_ok,if_true,hF.sizeOf,Sem.run_pure,he])
       simp[this,SV.den]
      |false=>
       simp only[hagg]at h
       obtain⟨c,hrc,rfl⟩:=zjl h
       subst hrc
       refine⟨?_,by simpa[z0z,SV.ok]using hokr⟩
       have hcc:cs[fo]? =some c:=by
        have h1:(List.take fi.size (List.drop fo cs))[0]? =some c:=by rw[←hr];rfl
        rw[List.getElem?_take]at h1
        split at h1
        · simpa using h1
        · cases h1
       have:=hrun (c.den E) (by
        rw[hty,hoff]
        simp[part,Sem.run_bind,hF.isAgg,hagg,hcc])
       simp[this,SV.den]
    · simp at h
   · simp at h
  · simp at h
 |binOp op t x y u=>
  simp only[hop,z3s]at h
  split at h
  ·
   rename_i va vb hx hy
   obtain⟨h1,_⟩:=z03 hf hg hx
   obtain⟨h3,_⟩:=z03 hf hg hy
   cases hb:j82 tt op t va vb with
   |none=>simp[hb]at h
   |some v=>
    simp only[hb,Option.some.injEq]at h
    subst h
    have:=zp8 (ox:=x) (oy:=y) htt hb w
    refine⟨?_,rfl⟩
    simp only[h1,h3,SV.den,A.den]
    rw[Sem.run_bind,this]
    rfl
  · simp at h
 |unOp op t x=>
  simp only[hop,z3s]at h
  split at h
  ·
   rename_i va hx
   obtain⟨h1,_⟩:=z03 hf hg hx
   cases hb:un op va with
   |none=>simp[hb]at h
   |some v=>
    simp only[hb,Option.some.injEq]at h
    subst h
    refine⟨?_,rfl⟩
    simp only[h1,SV.den,A.den,Sem.run_bind,zwt (P:=P) hb w,Result.andThen_ok,Sem.run_pure]
  · simp at h
 |convert t u x=>
  simp only[hop,z3s]at h
  split at h
  ·
   rename_i k0 m si sz by_ z fl k hx hs hti
   obtain⟨h1,_⟩:=z03 hf hg hx
   obtain⟨d,hd,hk,_⟩:=(htt _ _ hti).und
   obtain⟨d',hd',_,_⟩:=(htt _ _ hs).und
   have hdb:d= .int k:=by cases d<;>simp[z19]at hk;rw[hk]
   subst hdb
   simp only[Option.some.injEq]at h
   subst h
   refine⟨?_,rfl⟩
   simp[h1,SV.den,A.den,convert,run_underlying hd,run_underlying hd',Conv.intToInt]
  · simp at h
 |makeFunc fn first caps=>
  simp only[hop]at h
  cases fn with
  |func f=>
   simp only[z3s]at h
   cases hfi:first.toList with
   |cons q r=>simp[hfi]at h
   |nil=>
    have hfi':first= #[]:=by simpa using congrArg List.toArray hfi
    simp only[hfi]at h
    cases hc:zli F p caps.toList with
    |none=>simp[hc]at h
    |some l=>
     simp only[hc,Option.some.injEq]at h
     subst h
     obtain⟨h1,h2⟩:=zfe hf hg hc
     refine⟨?_,by simpa[SV.ok,A.ok]using h2⟩
     subst hfi'
     have:caps.map a.eval=(l.map (fun p=>Value.pointer (some ⟨E.ρ p.1,p.2,none⟩))).toArray:=by
      apply Array.ext'
      simpa using h1
     simp[Instr.makeFunc,this,SV.den,A.den]
  |_=>simp[z3s]at h
 |extract x i=>
  simp only[hop,z3s]at h
  split at h
  ·
   rename_i xs hx
   obtain⟨h1,h2⟩:=z03 hf hg hx
   split at h
   ·
    rename_i c hc
    simp only[Option.some.injEq]at h
    subst h
    refine⟨?_, ?_⟩
    · simp[h1,SV.den,Instr.extract,hc]
    · exact z0o.1 (by simpa[SV.ok]using h2) c (List.mem_of_getElem? hc)
   · simp at h
  ·
   rename_i vs hx
   obtain⟨h1,h2⟩:=z03 hf hg hx
   split at h
   ·
    rename_i c hc
    simp only[Option.some.injEq]at h
    subst h
    refine⟨?_,rfl⟩
    have hc':vs[i]? =some c:=by simpa using hc
    simp[h1,SV.den,A.den,Instr.extract,hc']
   · simp at h
  · simp at h
 |build t parts=>
  simp only[hop,z3s]at h
  split at h
  ·
   rename_i sz by_ z flds hti
   have hT:=htt _ _ hti
   cases hap:zgh flds with
   |false=>simp[hap]at h
   |true=>
    simp only[hap,cond_true]at h
    split at h
    ·
     rename_i cs hcs
     simp only[Option.some.injEq]at h
     subst h
     obtain⟨d,hd,hk,hfd⟩:=hT.und
     have hst: ∃fields,d= .struct fields:=by
      cases d<;>first|exact⟨_,rfl⟩|(simp[z19]at hk)
     obtain⟨fields,rfl⟩:=hst
     obtain⟨zv,hz,hzc⟩:=hT.zeroValue w
     have hv: ∀l:List Value,(l.map A.v).map (A.den E)=l∧z0z nl (l.map A.v)=true:=by
      intro l
      induction l with
      |nil=>exact⟨rfl,rfl⟩
      |cons x r ih=>exact⟨by simp[A.den,ih.1],by simp[z0z,A.ok,ih.2]⟩
     have hpl:=zfo (P:=P) (w:=w) hfd hap
     have hpl':(fields.mapM fun f=>do pure (f.offset,←Go.sizeOf f.type):Sem (Array (Nat×Nat))).run P w= .ok (flds.map fun q=>(q.1,q.2.2)).toArray w:=by
      rw[show fields=fields.toList.toArray by simp]
      simp only[List.mapM_toArray,Sem.run_map,hpl,Result.andThen_ok]
     obtain⟨hfill,hok⟩:=z6i (E:=E) hf hm hg (place:=fun i=>(flds.map fun q=>(q.1,q.2.2)).toArray[i]?) (fun i q h=>by simp[h]) hcs (hv z).2
     refine⟨?_,by simpa[SV.ok]using hok⟩
     have hzc':zv.cells=z.toArray:=by apply Array.ext';simpa using hzc
     rw[(hv z).1]at hfill
     have hparts:(parts.map fun(q:Nat×Operand)=>(q.1,a.eval q.2)).toList=parts.toList.map fun q=>(q.1,a.eval q.2):=by simp
     have hrun:(Instr.build t (parts.map fun(q:Nat×Operand)=>(q.1,a.eval q.2))).run P w= .ok (.agg (cs.map (A.den E)).toArray) w:=by
      simp only[Instr.build,Sem.run_bind,hz,Result.andThen_ok,run_underlying hd,hpl',hzc',hparts,hfill,Sem.run_pure]
     have hrun':(Instr.build t (parts.map fun x=>match x with|(i,x)=>(i,a.eval x))).run P w= .ok (.agg (cs.map (A.den E)).toArray) w:=hrun
     simp only[Sem.run_bind,hrun',Result.andThen_ok,Sem.run_pure,SV.den]
    · simp at h
  · simp at h
 |call c=>
  simp only[hop]at h
  obtain⟨callee,args,ts⟩:=c
  cases callee with
  |builtin b=>
   cases b with
   |len=>
    simp only[z3s]at h
    split at h
    ·
     rename_i x t hargs hts
     have ha:args= #[x]:=by simpa using congrArg List.toArray hargs
     have ht:ts= #[t]:=by simpa using congrArg List.toArray hts
     subst ha ht
     split at h
     ·
      rename_i sv sz by_ z fl hx hti
      obtain⟨h1,_⟩:=z03 hf hg hx
      obtain⟨d,hd,hk,_⟩:=(htt _ _ hti).und
      have hdb:d= .string:=by cases d<;>simp[z19]at hk<;>rfl
      subst hdb
      simp only[Option.some.injEq]at h
      subst h
      refine⟨?_,rfl⟩
      simp[resolve,invoke,builtin,Builtin.len_,h1,SV.den,A.den,run_underlying hd,goInt]
     ·
      rename_i l sz by_ z fl e hx hti
      obtain⟨h1,_⟩:=z03 hf hg hx
      obtain⟨d,hd,hk,_⟩:=(htt _ _ hti).und
      have hdb:d= .slice e:=by cases d<;>simp[z19]at hk;rw[hk]
      subst hdb
      split at h
      ·
       rename_i e' sz' m xs hlo
       simp only[Option.some.injEq]at h
       subst h
       refine⟨?_,rfl⟩
       have hrow:=hm.row _ _ _ _ _ hlo
       rcases hrow.2 with⟨hv,h0⟩|⟨g,cap,cur,hv,_⟩
       · simp[resolve,invoke,builtin,Builtin.len_,h1,SV.den,A.den,run_underlying hd,goInt,hv,h0]
       · simp[resolve,invoke,builtin,Builtin.len_,h1,SV.den,A.den,run_underlying hd,goInt,hv]
      · simp at h
     · simp at h
    · simp at h
   |_=>simp[z3s]at h
  |_=>simp[z3s]at h
 |_=>simp[hop,z3s]at h
#print axioms z90
end Go.Eng
