/-
 Pieces of slices and strings; division, shifts, min, max, putting strings z2g.
-/
import Derived.Test.YtkoiogkdiifgfaaGreatEng9
set_option linter.unusedSimpArgs false
set_option linter.unusedVariables false
namespace Go.Eng
open Go Go.RowKit
def z0n:Value→Nat→Nat→Nat→Value
 | .slice a _ c,lo,hi,sz=> .slice (if c=lo then a else a.map (·.add (lo*sz))) (hi - lo) (c - lo)
 |v,_,_,_=>v
theorem z7i.cut{V:Vw}{v:Value}{sz n:Nat}{xs:List Value}(h:z7i V v sz n xs){lo hi:Nat}(h1:lo≤hi)(h2:hi≤n):
  z7i V (z0n v lo hi sz) sz (hi - lo) ((xs.drop (lo*sz)).take ((hi - lo)*sz)):=by
 obtain⟨hlen,h⟩:=h
 have hm1:lo*sz+(hi - lo)*sz=hi*sz:=by rw[←Nat.add_mul];congr 1;omega
 have hm2:hi*sz≤n*sz:=Nat.mul_le_mul_right _ h2
 refine⟨by simp;omega, ?_⟩
 rcases h with⟨ad,cc,rfl,rfl⟩|⟨b,off,cap,cs,e,fz,rfl,hb,hsz,hxs,hcap⟩
 ·
  left
  have:lo=0:=by omega
  have:hi=0:=by omega
  subst_vars
  exact⟨_,cc,by simp[z0n];rfl,rfl⟩
 ·
  right
  by_cases hc:cap=lo
  ·
   have hz:hi - lo=0:=by omega
   refine⟨b,off,cap - lo,cs,e,fz,by simp[z0n,hc],hb, ?_, ?_,by omega⟩
   · omega
   · simp[hz]
  ·
   refine⟨b,off+lo*sz,cap - lo,cs,e,fz,by simp[z0n,hc,Addr.add_lit],hb, ?_, ?_,by omega⟩
   · omega
   ·
    rw[hxs,List.drop_take,List.take_take,List.drop_drop]
    congr 1
    omega
theorem z4o{α:Type}{enc:α→List Value}{sz:Nat}(hl: ∀x,(enc x).length=sz): ∀(l:List α) (i:Nat),(l.flatMap enc).take (i*sz)=(l.take i).flatMap enc
 |l,0=>by simp
 |[],i+1=>by simp
 |x::r,i+1=>by
  rw[List.flatMap_cons,Nat.add_mul,Nat.one_mul,Nat.add_comm,←hl x,List.take_length_add_append,hl x,z4o hl r i]
  simp
theorem SlOf.cut{α:Type}{V:Vw}{enc:α→List Value}{sz:Nat}{v:Value}{l:List α}(h:SlOf V enc sz v l){lo hi:Nat}(h1:lo≤hi)(h2:hi≤l.length):
  SlOf V enc sz (z0n v lo hi sz) ((l.drop lo).take (hi - lo)):=by
 refine⟨?_,h.len⟩
 have:=h.sl.cut h1 h2
 rw[z7l h.len,z4o h.len]at this
 have hn:((l.drop lo).take (hi - lo)).length=hi - lo:=by simp;omega
 rwa [hn]
section
variable{P:Program}{tt:List (Nat×TI)}{ops:Array Oper}{Q:Exit→Act→World→Prop}{o:Oper}{rest:List Oper}
 {n:Nat} {F:z05} {C:List Nat} {O:Own} {nl:Nat} {V:Vw} {K:Act→World→Prop}
def j26(F:z05)(p:List (Nat×Bool)):Option Operand→Option (Option Int)
 |none=>some none
 |some x=>match opv F p x with
  |some (.a (.v (.int _ i)))=>some (some i)
  |_=>none
theorem z3p{E:Env}{a:Act}{p:List (Nat×Bool)}(hf:Frm E n F C nl a.tmps)(hg:z61 F p=true){x:Option Operand}{r:Option Int}(h:j26 F p x=some r):
  (r=none∧x.map a.eval=none)∨ ∃k i,r=some i∧x.map a.eval=some (.int k i):=by
 cases x with
 |none=>simp[j26]at h;exact .inl ⟨h.symm,rfl⟩
 |some x=>
  simp only[j26]at h
  split at h
  ·
   rename_i k i hx
   simp only[Option.some.injEq]at h
   subst h
   refine .inr ⟨k,i,rfl, ?_⟩
   simp[(z03 hf hg hx).1,SV.den,A.den]
  · simp at h
def z77(tt:List (Nat×TI))(F:z05)(p:List (Nat×Bool)):Op→Option (Value×Option Int×Option Int×Nat)
 | .slice t x lo hi none=>match opv F p x,j26 F p lo,j26 F p hi,lk tt t with
  |some (.a (.v v)),some l,some h,some ⟨_,_,_,_, .slice e⟩=>match lk tt e with
   |some ti=>some (v,l,h,ti.size)
   |none=>none
  |_,_,_,_=>none
 |_=>none
theorem zo7(htt:z0s P tt){p:List (Nat×Bool)}{g:Bool}{v:Value}{lo hi:Option Int}{sz m:Nat}{xs:List Value}
  (hv:z77 tt F p o.op=some (v,lo,hi,sz)) (hs:g=true→z7i V v sz m xs) (hb:g=true→0≤lo.getD 0∧lo.getD 0≤hi.getD m∧hi.getD m≤m):
  Yld P o n F C O nl V p g (.a (.v (z0n v (lo.getD 0).toNat (hi.getD m).toNat sz))):=by
 intro hgt E a w hf hgv hm
 refine⟨?_,rfl⟩
 unfold Yv execOp
 cases hop:o.op with
 |slice t x lo' hi' mx=>
  cases mx with
  |some mx=>simp[hop,z77]at hv
  |none=>
  simp only[hop,z77]at hv
  split at hv
  ·
   rename_i v' l h sz' by_ z fl e hx hl hh hti
   split at hv
   ·
    rename_i ti hte
    simp only[Option.some.injEq,Prod.mk.injEq]at hv
    obtain⟨rfl,rfl,rfl,rfl⟩:=hv
    obtain⟨h1,_⟩:=z03 hf hgv hx
    obtain⟨dd,hdd,hk,_⟩:=(htt _ _ hti).und
    have hdb:dd= .slice e:=by cases dd<;>simp[z19]at hk;rw[hk]
    subst hdb
    obtain⟨b0,b1,b2⟩:=hb hgt
    have hsh: ∃ad cap,v'= .slice ad m cap∧m≤cap:=by
     rcases(hs hgt).2 with⟨ad,cc,rfl,rfl⟩|⟨b,off,cap,cs,e',fz,rfl,_,_,_,hc⟩
     · exact⟨ad,cc,rfl,Nat.zero_le _⟩
     · exact⟨_,cap,rfl,hc⟩
    obtain⟨ad,cap,rfl,hcap⟩:=hsh
    have hrun:(Instr.slice t (.slice ad m cap) (lo'.map a.eval) (hi'.map a.eval) none).run P w= .ok (z0n (.slice ad m cap) (l.getD 0).toNat (h.getD m).toNat ti.size) w:=by
     rcases z3p hf hgv hl with⟨rfl,el⟩|⟨kl,il,rfl,el⟩<;>rcases z3p hf hgv hh with⟨rfl,eh⟩|⟨kh,ih,rfl,eh⟩<;>rw[el,eh]<;>simp only[Option.getD_some,Option.getD_none]at b0 b1 b2⊢
     · simp[Instr.slice,run_underlying hdd,Instr.sliceBounds,(htt _ _ hte).sizeOf,z0n]
     ·
      have e2:(ih.toNat:Int)=ih:=Int.toNat_of_nonneg (by omega)
      simp[Instr.slice,run_underlying hdd,Instr.sliceBounds,(htt _ _ hte).sizeOf,z0n,run_sliceBound,(by omega:0≤ih),(by omega:ih≤cap)]
     ·
      have e2:(il.toNat:Int)=il:=Int.toNat_of_nonneg (by omega)
      simp[Instr.slice,run_underlying hdd,Instr.sliceBounds,(htt _ _ hte).sizeOf,z0n,run_sliceBound,b0,b1]
     ·
      have e2:(ih.toNat:Int)=ih:=Int.toNat_of_nonneg (by omega)
      simp[Instr.slice,run_underlying hdd,Instr.sliceBounds,(htt _ _ hte).sizeOf,z0n,run_sliceBound,b0,b1,(by omega:0≤ih),(by omega:ih≤cap),e2]
    have e1:a.eval x= .slice ad m cap:=h1
    simp only[Option.map_none,e1,Instr.sliceAt,Sem.run_bind,run_underlying hdd,Result.andThen_ok,hrun,Sem.run_pure,SV.den,A.den]
   · simp at hv
  · simp at hv
 |_=>simp[hop,z77]at hv
def zj0(tt:List (Nat×TI))(F:z05)(p:List (Nat×Bool)):Op→Option (ByteArray×Option Int×Option Int)
 | .slice t x lo hi none=>match opv F p x,j26 F p lo,j26 F p hi,lk tt t with
  |some (.a (.v (.string s))),some l,some h,some ⟨_,_,_,_, .str⟩=>some (s,l,h)
  |_,_,_,_=>none
 |_=>none
theorem j3s(htt:z0s P tt){p:List (Nat×Bool)}{g:Bool}{s:ByteArray}{lo hi:Option Int}
  (hv:zj0 tt F p o.op=some (s,lo,hi)) (hb:g=true→0≤lo.getD 0∧lo.getD 0≤hi.getD s.size∧hi.getD s.size≤s.size):
  Yld P o n F C O nl V p g (.a (.v (.string (s.extract (lo.getD 0).toNat (hi.getD s.size).toNat)))):=by
 intro hgt E a w hf hgv hm
 refine⟨?_,rfl⟩
 unfold Yv execOp
 cases hop:o.op with
 |slice t x lo' hi' mx=>
  cases mx with
  |some mx=>simp[hop,zj0]at hv
  |none=>
  simp only[hop,zj0]at hv
  split at hv
  ·
   rename_i s' l h sz' by_ z fl hx hl hh hti
   simp only[Option.some.injEq,Prod.mk.injEq]at hv
   obtain⟨rfl,rfl,rfl⟩:=hv
   obtain⟨h1,_⟩:=z03 hf hgv hx
   obtain⟨dd,hdd,hk,_⟩:=(htt _ _ hti).und
   have hdb:dd= .string:=by cases dd<;>simp[z19]at hk<;>rfl
   subst hdb
   obtain⟨b0,b1,b2⟩:=hb hgt
   have hrun:(Instr.slice t (.string s') (lo'.map a.eval) (hi'.map a.eval) none).run P w= .ok (.string (s'.extract (l.getD 0).toNat (h.getD s'.size).toNat)) w:=by
    rcases z3p hf hgv hl with⟨rfl,el⟩|⟨kl,il,rfl,el⟩<;>rcases z3p hf hgv hh with⟨rfl,eh⟩|⟨kh,ih,rfl,eh⟩<;>rw[el,eh]<;>simp only[Option.getD_some,Option.getD_none]at b0 b1 b2⊢
    · simp[Instr.slice,run_underlying hdd,Instr.sliceBounds]
    · simp[Instr.slice,run_underlying hdd,Instr.sliceBounds,run_sliceBound,(by omega:0≤ih),b2]
    · simp[Instr.slice,run_underlying hdd,Instr.sliceBounds,run_sliceBound,b0,b1]
    ·
     have e2:(ih.toNat:Int)=ih:=Int.toNat_of_nonneg (by omega)
     simp[Instr.slice,run_underlying hdd,Instr.sliceBounds,run_sliceBound,b0,b1,b2,(by omega:0≤ih),e2]
   have e1:a.eval x= .string s':=h1
   simp only[Option.map_none,e1,Instr.sliceAt,Sem.run_bind,run_underlying hdd,Result.andThen_ok,hrun,Sem.run_pure,SV.den,A.den]
  · simp at hv
 |_=>simp[hop,zj0]at hv
def zt1(tt:List (Nat×TI))(F:z05)(p:List (Nat×Bool)):Op→Option (ByteArray×Int)
 | .index t x i=>match opv F p x,opv F p i,lk tt t with
  |some (.a (.v (.string s))),some (.a (.v (.int _ k))),some ⟨_,_,_,_, .str⟩=>some (s,k)
  |_,_,_=>none
 |_=>none
def z0m(s:ByteArray)(i:Nat):UInt8:=s.data[i]?.getD 0
theorem zct(htt:z0s P tt){p:List (Nat×Bool)}{g:Bool}{s:ByteArray}{i:Int}
  (hv:zt1 tt F p o.op=some (s,i)) (hb:g=true→0≤i∧i<s.size):Yld P o n F C O nl V p g (.a (.v (.int .u8 (z0m s i.toNat).toNat))):=by
 intro hgt E a w hf hgv hm
 refine⟨?_,rfl⟩
 unfold Yv execOp
 cases hop:o.op with
 |index t x ix=>
  simp only[hop,zt1]at hv
  split at hv
  ·
   rename_i s' kk k sz' by_ z fl hx hi hti
   simp only[Option.some.injEq,Prod.mk.injEq]at hv
   obtain⟨rfl,rfl⟩:=hv
   obtain⟨h1,_⟩:=z03 hf hgv hx
   obtain⟨h2,_⟩:=z03 hf hgv hi
   obtain⟨dd,hdd,hk,_⟩:=(htt _ _ hti).und
   have hdb:dd= .string:=by cases dd<;>simp[z19]at hk<;>rfl
   subst hdb
   obtain⟨b0,b1⟩:=hb hgt
   have hlt:k.toNat<s'.size:=by omega
   have hget:s'[k.toNat]? =some (z0m s' k.toNat):=by
    have h3:s'[k.toNat]? =some s'[k.toNat]:=by simp[hlt]
    rw[h3]
    have hlt':k.toNat<s'.data.size:=hlt
    have h4:s'.data[k.toNat]? =some s'.data[k.toNat]:=by simp[hlt']
    unfold z0m
    rw[h4]
    rfl
   simp[h1,h2,SV.den,A.den,Instr.index,asIntOf,run_underlying hdd,b0,hget]
  · simp at hv
 |_=>simp[hop,zt1]at hv
def z7a(F:z05)(p:List (Nat×Bool)):Op→Option (BinOp×IntKind×Int×IntKind×Int)
 | .binOp op _ x y _=>match opv F p x,opv F p y with
  |some (.a (.v (.int k a))),some (.a (.v (.int k' b)))=>some (op,k,a,k',b)
  |_,_=>none
 |_=>none
theorem zx1{p:List (Nat×Bool)}{g:Bool}{k:IntKind}{x y:Int}(hv:z7a F p o.op=some (.quo,k,x,k,y))(hb:g=true→y≠0):
  Yld P o n F C O nl V p g (.a (.v (.int k (k.wrap (x.tdiv y))))):=by
 intro hgt E a w hf hgv hm
 refine⟨?_,rfl⟩
 unfold Yv execOp
 cases hop:o.op with
 |binOp op t ox oy u=>
  simp only[hop,z7a]at hv
  split at hv
  ·
   rename_i k1 a1 k2 a2 hx hy
   simp only[Option.some.injEq,Prod.mk.injEq]at hv
   obtain⟨rfl,rfl,rfl,rfl,rfl⟩:=hv
   obtain⟨h1,_⟩:=z03 hf hgv hx
   obtain⟨h2,_⟩:=z03 hf hgv hy
   simp[h1,h2,SV.den,A.den,eqGuard_at_int,binOp,Op.intDiv,hb hgt]
  · simp at hv
 |_=>simp[hop,z7a]at hv
theorem zkn{p:List (Nat×Bool)}{g:Bool}{k:IntKind}{x y:Int}(hv:z7a F p o.op=some (.rem,k,x,k,y))(hb:g=true→y≠0):
  Yld P o n F C O nl V p g (.a (.v (.int k (x.tmod y)))):=by
 intro hgt E a w hf hgv hm
 refine⟨?_,rfl⟩
 unfold Yv execOp
 cases hop:o.op with
 |binOp op t ox oy u=>
  simp only[hop,z7a]at hv
  split at hv
  ·
   rename_i k1 a1 k2 a2 hx hy
   simp only[Option.some.injEq,Prod.mk.injEq]at hv
   obtain⟨rfl,rfl,rfl,rfl,rfl⟩:=hv
   obtain⟨h1,_⟩:=z03 hf hgv hx
   obtain⟨h2,_⟩:=z03 hf hgv hy
   simp[h1,h2,SV.den,A.den,eqGuard_at_int,binOp,Op.intDiv,hb hgt]
  · simp at hv
 |_=>simp[hop,z7a]at hv
theorem zk8{p:List (Nat×Bool)}{g:Bool}{k k':IntKind}{x y:Int}(hv:z7a F p o.op=some (.shr,k,x,k',y))(hb:g=true→0≤y∧y≤k.bits):
  Yld P o n F C O nl V p g (.a (.v (.int k (x / 2^y.toNat)))):=by
 intro hgt E a w hf hgv hm
 refine⟨?_,rfl⟩
 unfold Yv execOp
 cases hop:o.op with
 |binOp op t ox oy u=>
  simp only[hop,z7a]at hv
  split at hv
  ·
   rename_i k1 a1 k2 a2 hx hy
   simp only[Option.some.injEq,Prod.mk.injEq]at hv
   obtain⟨rfl,rfl,rfl,rfl,rfl⟩:=hv
   obtain⟨h1,_⟩:=z03 hf hgv hx
   obtain⟨h2,_⟩:=z03 hf hgv hy
   obtain⟨b0,b1⟩:=hb hgt
   simp only[h1,h2,SV.den,A.den,eqGuard_at_int,binOp_shr,shift_shr _ _ _ _ b0 b1,pure_bind,Sem.run_pure]
  · simp at hv
 |_=>simp[hop,z7a]at hv
theorem j99{p:List (Nat×Bool)}{g:Bool}{k k':IntKind}{x y:Int}(hv:z7a F p o.op=some (.shl,k,x,k',y))(hb:g=true→0≤y∧y≤k.bits):
  Yld P o n F C O nl V p g (.a (.v (.int k (k.wrap (x*2^y.toNat))))):=by
 intro hgt E a w hf hgv hm
 refine⟨?_,rfl⟩
 unfold Yv execOp
 cases hop:o.op with
 |binOp op t ox oy u=>
  simp only[hop,z7a]at hv
  split at hv
  ·
   rename_i k1 a1 k2 a2 hx hy
   simp only[Option.some.injEq,Prod.mk.injEq]at hv
   obtain⟨rfl,rfl,rfl,rfl,rfl⟩:=hv
   obtain⟨h1,_⟩:=z03 hf hgv hx
   obtain⟨h2,_⟩:=z03 hf hgv hy
   obtain⟨b0,b1⟩:=hb hgt
   simp only[h1,h2,SV.den,A.den,eqGuard_at_int,binOp_shl,shift_shl _ _ _ _ b0 b1,pure_bind,Sem.run_pure]
  · simp at hv
 |_=>simp[hop,z7a]at hv
def zgg(F:z05)(p:List (Nat×Bool)):Op→Option (Bool×IntKind×Int×Int)
 | .call ⟨.builtin .min,args,_⟩=>match args.toList with
  |[x,y]=>match opv F p x,opv F p y with
   |some (.a (.v (.int k a))),some (.a (.v (.int _ b)))=>some (false,k,a,b)
   |_,_=>none
  |_=>none
 | .call ⟨.builtin .max,args,_⟩=>match args.toList with
  |[x,y]=>match opv F p x,opv F p y with
   |some (.a (.v (.int k a))),some (.a (.v (.int _ b)))=>some (true,k,a,b)
   |_,_=>none
  |_=>none
 |_=>none
theorem j2f{p:List (Nat×Bool)}{g mx:Bool}{k:IntKind}{x y:Int}(hv:zgg F p o.op=some (mx,k,x,y)):
  Yld P o n F C O nl V p g (.a (.v (.int k (bif mx then max x y else min x y)))):=by
 intro hgt E a w hf hgv hm
 refine⟨?_,rfl⟩
 unfold Yv execOp
 cases hop:o.op with
 |call c=>
  obtain⟨callee,args,ts⟩:=c
  cases callee with
  |builtin b=>
   cases b with
   |min=>
    simp only[hop,zgg]at hv
    split at hv
    ·
     rename_i ox oy hargs
     have ha:args= #[ox,oy]:=by simpa using congrArg List.toArray hargs
     subst ha
     split at hv
     ·
      rename_i k1 a1 k2 b1 hx hy
      simp only[Option.some.injEq,Prod.mk.injEq]at hv
      obtain⟨rfl,rfl,rfl,rfl⟩:=hv
      obtain⟨h1,_⟩:=z03 hf hgv hx
      obtain⟨h2,_⟩:=z03 hf hgv hy
      have e:(if b1<a1 then b1 else a1)=min a1 b1:=by rw[Int.min_def];split<;>split<;>omega
      simp[resolve,invoke,builtin,Builtin.min_,Builtin.min2,h1,h2,SV.den,A.den,e]
     · simp at hv
    · simp at hv
   |max=>
    simp only[hop,zgg]at hv
    split at hv
    ·
     rename_i ox oy hargs
     have ha:args= #[ox,oy]:=by simpa using congrArg List.toArray hargs
     subst ha
     split at hv
     ·
      rename_i k1 a1 k2 b1 hx hy
      simp only[Option.some.injEq,Prod.mk.injEq]at hv
      obtain⟨rfl,rfl,rfl,rfl⟩:=hv
      obtain⟨h1,_⟩:=z03 hf hgv hx
      obtain⟨h2,_⟩:=z03 hf hgv hy
      have e:(if a1<b1 then b1 else a1)=max a1 b1:=by rw[Int.max_def];split<;>split<;>omega
      simp[resolve,invoke,builtin,Builtin.max_,Builtin.max2,h1,h2,SV.den,A.den,e]
     · simp at hv
    · simp at hv
   |_=>simp[hop,zgg]at hv
  |_=>simp[hop,zgg]at hv
 |_=>simp[hop,zgg]at hv
def zia(F:z05)(p:List (Nat×Bool)):Op→Option (ByteArray×ByteArray)
 | .binOp .add _ x y _=>match opv F p x,opv F p y with
  |some (.a (.v (.string a))),some (.a (.v (.string b)))=>some (a,b)
  |_,_=>none
 |_=>none
theorem zwi{p:List (Nat×Bool)}{g:Bool}{x y:ByteArray}(hv:zia F p o.op=some (x,y))(hb:g=true→x.size+y.size≤9223372036854775807):
  Yld P o n F C O nl V p g (.a (.v (.string (x++y)))):=by
 intro hgt E a w hf hgv hm
 refine⟨?_,rfl⟩
 unfold Yv execOp
 cases hop:o.op with
 |binOp op t ox oy u=>
  cases op with
  |add=>
   simp only[hop,zia]at hv
   split at hv
   ·
    rename_i a1 b1 hx hy
    simp only[Option.some.injEq,Prod.mk.injEq]at hv
    obtain⟨rfl,rfl⟩:=hv
    obtain⟨h1,_⟩:=z03 hf hgv hx
    obtain⟨h2,_⟩:=z03 hf hgv hy
    have hle:=hb hgt
    have hno: ¬(((a1.size+b1.size:Nat):Int)>IntKind.i64.max):=by rw[IntKind.max_i64];omega
    simp only[h1,h2,SV.den,A.den,eqGuard_at_string,binOp,Op.stringOp,hno,if_false,pure_bind,Sem.run_bind,Sem.run_pure,Result.andThen_ok]
   · simp at hv
  |_=>simp[hop,zia]at hv
 |_=>simp[hop,zia]at hv
end
end Go.Eng
