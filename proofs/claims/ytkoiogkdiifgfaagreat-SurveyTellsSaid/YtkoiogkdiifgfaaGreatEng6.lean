/-
 Slices that are read; strings' bytes and pieces.
-/
import Derived.Test.YtkoiogkdiifgfaaGreatEng5
set_option linter.unusedSimpArgs false
set_option linter.unusedVariables false
namespace Go.Eng
open Go Go.RowKit
def E0:Env:=⟨fun _=>0,fun _=>undef⟩
theorem zhn(E:Env)(nl:Nat)(w:World):Mem E [] nl (vw w) w:=
 ⟨fun _ _ _ h=>by simp[lk]at h,fun _ _ _ _ _ h=>by simp[lk]at h,fun _ _ _ _ _ h=>by simp[lk]at h,fun _ _ h=>h,fun _ _ _ h=>by simp[lk]at h,rfl,rfl,rfl,
  fun _ _ h=>by simp[lk]at h,fun _ _ _ h=>by simp[lk]at h,fun _ _ _ h=>by simp[lk]at h,fun _ _ h=>by simp[lk]at h,fun _ _ _ _ h=>by simp[lk]at h⟩
theorem j42(E:Env)(nl:Nat){V:Vw}{w:World}(h:V.le (vw w)):Mem E [] nl V w:=
 ⟨fun _ _ _ h=>by simp[lk]at h,fun _ _ _ _ _ h=>by simp[lk]at h,fun _ _ _ _ _ h=>by simp[lk]at h,fun k o hk=>h.get k o hk,fun _ _ _ h=>by simp[lk]at h,h.os,h.tape,h.output,
  fun _ _ h=>by simp[lk]at h,fun _ _ _ h=>by simp[lk]at h,fun _ _ _ h=>by simp[lk]at h,fun _ _ h=>by simp[lk]at h,fun _ _ _ _ h=>by simp[lk]at h⟩
section
variable{P:Program}{tt:List (Nat×TI)}{ops:Array Oper}{Q:Exit→Act→World→Prop}{o:Oper}{rest:List Oper}
 {n:Nat} {F:z05} {C:List Nat} {O:Own} {nl:Nat} {V:Vw} {K:Act→World→Prop}
theorem Mem.below{E:Env}{w w':World}(hm:Mem E O nl V w')(h:(vw w).le V):Below w.heap.size w w':=by
 have hk: ∀k,k<w.heap.size→w'.heap[k]? =w.heap[k]? :=by
  intro k hk
  have h1:(vw w).get k=some w.heap[k]:=by simp[vw,hk]
  have h2:=hm.get k _ (h.get k _ h1)
  rw[h2];simp[hk]
 refine⟨hm.os.trans h.os,hm.tape.trans h.tape,hm.output.trans h.output, ?_,hk⟩
 rcases Nat.eq_zero_or_pos w.heap.size with h0|h0
 · omega
 ·
  have h1:=hk (w.heap.size - 1) (by omega)
  have h2:w.heap[w.heap.size - 1]? =some w.heap[w.heap.size - 1]:=by simp[h0]
  rw[h2]at h1
  have:=(Array.getElem?_eq_some_iff.1 h1).1
  omega
theorem Mem.leV{E:Env}{w:World}(hm:Mem E O nl V w):V.le (vw w):=⟨hm.get,hm.os,hm.tape,hm.output⟩
def z7i(V:Vw)(v:Value)(sz n:Nat)(xs:List Value):Prop:=
 xs.length=n*sz∧((∃a c,v= .slice a 0 c∧n=0)∨
  ∃b off cap cs e fz,v= .slice (some ⟨b,off,none⟩) n cap∧V.get b=some (.cells cs e fz)∧off+n*sz≤cs.size∧xs=(cs.toList.drop off).take (n*sz)∧n≤cap)
theorem z7i.mono{V V':Vw}(h:V.le V'){v:Value}{sz n:Nat}{xs:List Value}(hs:z7i V v sz n xs):z7i V' v sz n xs:=by
 refine⟨hs.1, ?_⟩
 rcases hs.2 with h1|⟨b,off,cap,cs,e,fz,h1,h2,h3,h4⟩
 · exact .inl h1
 · exact .inr ⟨b,off,cap,cs,e,fz,h1,h.get _ _ h2,h3,h4⟩
structure SlOf{α:Type}(V:Vw)(enc:α→List Value)(sz:Nat)(v:Value)(l:List α):Prop where
 sl:z7i V v sz l.length (l.flatMap enc)
 len: ∀x,(enc x).length=sz
theorem SlOf.mono{α:Type}{V V':Vw}{enc:α→List Value}{sz:Nat}{v:Value}{l:List α}(h:V.le V')(hs:SlOf V enc sz v l):SlOf V' enc sz v l:=⟨hs.sl.mono h,hs.len⟩
theorem z7l{α:Type}{enc:α→List Value}{sz:Nat}(hl: ∀x,(enc x).length=sz): ∀(l:List α) (i:Nat),(l.flatMap enc).drop (i*sz)=(l.drop i).flatMap enc
 |l,0=>by simp
 |[],i+1=>by simp
 |x::r,i+1=>by
  rw[List.flatMap_cons,Nat.add_mul,Nat.one_mul,Nat.add_comm,←List.drop_drop,←hl x,List.drop_left,hl x,z7l hl r i]
  simp
theorem zox{α:Type}{enc:α→List Value}{sz:Nat}(hl: ∀x,(enc x).length=sz){l:List α}{i:Nat}{x:α}(hx:l[i]? =some x)(fo m:Nat)(h:fo+m≤sz):
  ((l.flatMap enc).drop (i*sz+fo)).take m=((enc x).drop fo).take m:=by
 rw[←List.drop_drop,z7l hl]
 have hlt:=(List.getElem?_eq_some_iff.1 hx).1
 have hge:=(List.getElem?_eq_some_iff.1 hx).2
 rw[List.drop_eq_getElem_cons hlt,hge,List.flatMap_cons,List.drop_append]
 have h2:fo - (enc x).length=0:=by rw[hl];omega
 rw[h2,List.drop_zero,List.take_append_of_le_length (by simp[hl];omega)]
def zkv:Nat→List Value→Option (List Value)
 |0,l=>some l
 |n+1,_::r=>zkv n r
 |_+1,[]=>none
def zl1:Nat→List Value→Option (List A)
 |0,_=>some []
 |n+1,x::r=>match zl1 n r with
  |some l=>some (.v x::l)
  |none=>none
 |_+1,[]=>none
def j69(off n:Nat)(l:List Value):Option (List A):=
 match zkv off l with
 |some r=>zl1 n r
 |none=>none
theorem zfw: ∀{n:Nat} {l r:List Value},zkv n l=some r→r=l.drop n∧n≤l.length
 |0,l,r,h=>by simp[zkv]at h;simp[h]
 |n+1,x::l,r,h=>by
  have:=zfw (n:=n) (l:=l) (by simpa[zkv]using h)
  exact⟨by simpa using this.1,by simp;exact this.2⟩
 |n+1,[],r,h=>by simp[zkv]at h
theorem zg7: ∀{n:Nat} {l:List Value} {r:List A},zl1 n l=some r→r=(l.take n).map .v∧n≤l.length
 |0,l,r,h=>by simp[zl1]at h;simp[←h]
 |n+1,x::l,r,h=>by
  simp only[zl1]at h
  cases h':zl1 n l with
  |none=>simp[h']at h
  |some q=>
   simp only[h',Option.some.injEq]at h
   have:=zg7 h'
   subst h
   exact⟨by simp[this.1],by simp;exact this.2⟩
 |n+1,[],r,h=>by simp[zl1]at h
theorem zk1{off n:Nat}{l:List Value}{r:List A}(h:j69 off n l=some r):r=((l.drop off).take n).map .v∧off+n≤l.length:=by
 unfold j69 at h
 cases hd:zkv off l with
 |none=>simp[hd]at h
 |some q=>
  simp only[hd]at h
  obtain⟨h1,h2⟩:=zfw hd
  obtain⟨h3,h4⟩:=zg7 h
  subst h1
  refine⟨h3, ?_⟩
  simp at h4
  omega
def Yld(P:Program)(o:Oper)(n:Nat)(F:z05)(C:List Nat)(O:Own)(nl:Nat)(V:Vw)(p:List (Nat×Bool))(g:Bool)(s:SV):Prop:=
 g=true→ ∀E a w,Frm E n F C nl a.tmps→z61 F p=true→Mem E O nl V w→Yv P o a w (s.den E)∧s.ok nl=true
theorem z72(htt:z0s P tt){p:List (Nat×Bool)}{g:Bool}{s:SV}(hv:z3s tt F O p o.op=some s):Yld P o n F C O nl V p g s:=
 fun _ E a w hf hg hm=>z90 htt hf hm hg hv
theorem zhw{p:List (Nat×Bool)}{g:Bool}{C':List Nat}{s:SV}{d:Nat}
  (hg:gd ops F C o.guard=some (p,g,C')) (hd:o.dst=some d) (hc:(Nat.blt d n&& !(z2w d C'))=true)
  (hy:Yld P o n F C' O nl V p g s)
  (next:KJ (wpList P ops Q rest) n ((d,⟨p,g,s⟩)::F) C' O nl V):KJ (wpList P ops Q (o::rest)) n F C O nl V:=by
 constructor
 intro E a w hdf hf hm
 obtain⟨h1,h2,h3,h4⟩:=z18 hf hg
 simp only[Bool.and_eq_true,z0e,Bool.not_eq_true']at hc
 unfold wpList
 rw[h1]
 cases g with
 |true=>
  simp only[if_true]
  left
  obtain⟨hr,hok⟩:=hy rfl E a w h2 h3.symm hm
  unfold Oper.wp
  rw[hr]
  show wpList P ops Q rest (a.put o.dst _) w
  rw[hd]
  refine next.out E _ w (by simp[Act.put,hdf]) ?_ hm
  have:=Frm.put (p:=p) (g:=true) h2 hc.1 hc.2 h3 h4 (fun _=>hok)
  simpa using this
 |false=>
  simp only[Bool.false_eq_true,if_false,hd]
  refine next.out E _ w (by simp[Act.put,hdf]) ?_ hm
  have:=Frm.put (p:=p) (g:=false) (s:=s) h2 hc.1 hc.2 h3 h4 (by simp)
  simpa using this
def zmp(tt:List (Nat×TI))(F:z05)(p:List (Nat×Bool)):Op→Option (Value×Int×Nat)
 | .indexAddr t x i=>match opv F p x,opv F p i,lk tt t with
  |some (.a (.v v)),some (.a (.v (.int _ k))),some ⟨_,_,_,_, .slice e⟩=>match lk tt e with
   |some ti=>some (v,k,ti.size)
   |none=>none
  |_,_,_=>none
 |_=>none
theorem z0c(htt:z0s P tt){p:List (Nat×Bool)}{g:Bool}{v:Value}{i:Int}{sz m:Nat}{xs:List Value}
  (hv:zmp tt F p o.op=some (v,i,sz))
  (hs:g=true→z7i V v sz m xs) (hi:g=true→0≤i∧i<m):Yld P o n F C O nl V p g (.a (.el v (i.toNat*sz))):=by
 intro hgt E a w hf hgv hm
 refine⟨?_,rfl⟩
 unfold Yv execOp
 cases hop:o.op with
 |indexAddr t x ix=>
  simp only[hop,zmp]at hv
  split at hv
  ·
   rename_i v' kk k sz' by_ z fl e hx hix hti
   split at hv
   ·
    rename_i ti hte
    simp only[Option.some.injEq,Prod.mk.injEq]at hv
    obtain⟨rfl,rfl,rfl⟩:=hv
    obtain⟨h1,_⟩:=z03 hf hgv hx
    obtain⟨h2,_⟩:=z03 hf hgv hix
    obtain⟨dd,hdd,hk,_⟩:=(htt _ _ hti).und
    have hdb:dd= .slice e:=by cases dd<;>simp[z19]at hk;rw[hk]
    subst hdb
    obtain⟨hi0,hi1⟩:=hi hgt
    rcases(hs hgt).2 with⟨_,_,_,h0⟩|⟨b,off,cap,cs,e',fz,rfl,_⟩
    · omega
    · simp[h1,h2,SV.den,A.den,Instr.indexAt,asIntOf,run_underlying hdd,hi0,hi1,(htt _ _ hte).sizeOf,z9k]
   · simp at hv
  · simp at hv
 |_=>simp[hop,zmp]at hv
def zq2(tt:List (Nat×TI))(F:z05)(p:List (Nat×Bool)):Op→Option (Value×Nat)
 | .fieldAddr s x f=>match opv F p x,lk tt s with
  |some (.a (.el v k)),some ti=>match ti.flds[f]? with
   |some (fo,_,_+1)=>some (v,k+fo)
   |_=>none
  |_,_=>none
 |_=>none
theorem Addr.add_add'(a:Addr)(h:a.spot=none)(n m:Nat):(a.add n).add m=a.add (n+m):=by
 obtain⟨b,o,s⟩:=a
 simp only at h
 subst h
 simp[Addr.add_lit,Nat.add_assoc]
theorem z1f(htt:z0s P tt){p:List (Nat×Bool)}{g:Bool}{v:Value}{k sz m:Nat}{xs:List Value}
  (hv:zq2 tt F p o.op=some (v,k))
  (hs:g=true→z7i V v sz m xs) (hi:g=true→0<m):Yld P o n F C O nl V p g (.a (.el v k)):=by
 intro hgt E a w hf hgv hm
 refine⟨?_,rfl⟩
 unfold Yv execOp
 cases hop:o.op with
 |fieldAddr s x f=>
  simp only[hop,zq2]at hv
  split at hv
  ·
   rename_i v' k' ti hx hti
   have hT:=htt _ _ hti
   obtain⟨h1,_⟩:=z03 hf hgv hx
   split at hv
   ·
    rename_i fo ft fs hfl
    simp only[Option.some.injEq,Prod.mk.injEq]at hv
    obtain⟨rfl,rfl⟩:=hv
    obtain⟨dd,hdd,hk,hfd⟩:=hT.und
    have hst: ∃fields,dd= .struct fields:=by
     cases dd<;>first|exact⟨_,rfl⟩|(simp only[fieldsOf]at hfd;rw[←hfd]at hfl;simp at hfl)
    obtain⟨fields,rfl⟩:=hst
    simp only[fieldsOf]at hfd
    rw[←hfd]at hfl
    simp only[List.getElem?_map,Option.map_eq_some_iff,Prod.mk.injEq]at hfl
    obtain⟨fd,hfd1,hoff,hty,hsz⟩:=hfl
    have hsize: ∀w':World,(Go.sizeOf fd.type).run P w'= .ok (fs+1) w':=by
     intro w'
     cases hq:P.info? fd.type with
     |none=>simp[hq]at hsz
     |some q=>simp[hq]at hsz;simp[Go.sizeOf,typeInfo,hq,hsz]
    have hfl':fields[f]? =some fd:=by simpa using hfd1
    have h0:=hi hgt
    rcases(hs hgt).2 with⟨_,_,_,h00⟩|⟨b,off,cap,cs,e',fz,rfl,_⟩
    · omega
    · simp[h1,SV.den,A.den,z9k,Instr.fieldAt,run_underlying hdd,hfl',Instr.sureAddr,fieldPlace,hsize,hoff,Addr.add_add']
   · simp at hv
  · simp at hv
 |_=>simp[hop,zq2]at hv
def zro(tt:List (Nat×TI))(F:z05)(p:List (Nat×Bool)):Op→Option (Value×Nat×Nat×Bool)
 | .load t x=>match opv F p x,lk tt t with
  |some (.a (.el v k)),some ti=>some (v,k,ti.size,ti.agg)
  |_,_=>none
 |_=>none
def zy7:Bool→List A→Option SV
 |true,l=>some (.agg l)
 |false,[x]=>some (.a x)
 |false,_=>none
def zjy(agg:Bool)(fo m:Nat)(cells:List Value):Option SV:=
 match j69 fo m cells with
 |some l=>zy7 agg l
 |none=>none
theorem z08{α:Type}(htt:z0s P tt){p:List (Nat×Bool)}{g:Bool}{v:Value}{k m sz:Nat}{agg:Bool}{enc:α→List Value}{l:List α}{s:SV}(i fo:Nat)(x:α)
  (hv:zro tt F p o.op=some (v,k,m,agg))
  (hs:g=true→SlOf V enc sz v l) (hx:g=true→l[i]? =some x) (hk:k=i*sz+fo) (hp:zjy agg fo m (enc x)=some s):Yld P o n F C O nl V p g (s):=by
 intro hgt E a w hf hgv hm
 unfold Yv execOp
 cases hop:o.op with
 |load t y=>
  simp only[hop,zro]at hv
  split at hv
  ·
   rename_i v' k' ti hy hti
   simp only[Option.some.injEq,Prod.mk.injEq]at hv
   obtain⟨rfl,rfl,rfl,rfl⟩:=hv
   obtain⟨h1,_⟩:=z03 hf hgv hy
   have hS:=hs hgt
   have hX:=hx hgt
   have hil:=(List.getElem?_eq_some_iff.1 hX).1
   unfold zjy at hp
   cases hcut:j69 fo ti.size (enc x)with
   |none=>simp[hcut]at hp
   |some q=>
    obtain⟨hq1,hq2⟩:=zk1 hcut
    rw[hS.len x]at hq2
    simp only[hcut]at hp
    have hfl:=zox hS.len hX fo ti.size hq2
    rcases hS.sl.2 with⟨_,_,_,h0⟩|⟨b,off,cap,cs,e',fz,rfl,hb,hsz,hxs,_⟩
    · omega
    ·
     have hw:=hm.get _ _ hb
     have hmul:i*sz+sz≤l.length*sz:=by
      have:=Nat.mul_le_mul_right sz (show i+1≤l.length by omega)
      rwa [Nat.add_mul,Nat.one_mul]at this
     have hcells:(((cs.toList.drop (off+k')).take ti.size))=((enc x).drop fo).take ti.size:=by
      rw[←hfl,hxs,hk,List.drop_take,List.take_take,List.drop_drop]
      congr 1
      omega
     have hbound:off+k'+ti.size≤cs.size:=by omega
     have hqa: ∀l:List Value,(l.map A.v).map (A.den E)=l∧z0z nl (l.map A.v)=true:=by
      intro l
      induction l with
      |nil=>exact⟨rfl,rfl⟩
      |cons x r ih=>exact⟨by simp[A.den,ih.1],by simp[z0z,A.ok,ih.2]⟩
     have e1:a.eval y= .pointer (some ⟨b,off+k',none⟩):=by rw[h1];simp[SV.den,A.den,z9k,Addr.add_lit]
     cases hagg:ti.agg with
     |true=>
      simp only[hagg,zy7,Option.some.injEq]at hp
      subst hp
      have hload:=z5d (P:=P) (htt _ _ hti) hw hbound (.agg (((cs.toList.drop (off+k')).take ti.size)).toArray) (by rw[hagg]) (by rw[hagg];simp)
      refine⟨?_, ?_⟩
      · simp only[e1,Sem.run_bind,hload,Result.andThen_ok,Sem.run_pure,hcells,SV.den,hq1,(hqa _).1]
      · simp only[SV.ok,hq1,(hqa _).2]
     |false=>
      have hq: ∃c,q=[c]∧s= .a c:=by
       simp only[hagg]at hp
       match q,hp with
       |[c],hp=>simp only[zy7,Option.some.injEq]at hp;exact⟨c,rfl,hp.symm⟩
       |[],hp=>simp[zy7]at hp
       |_::_::_,hp=>simp[zy7]at hp
      obtain⟨c,rfl,rfl⟩:=hq
      have hlen1:(List.take ti.size (List.drop fo (enc x))).length=1:=by
       have:=congrArg List.length hq1;simpa using this.symm
      obtain⟨y0,hy0⟩:=List.length_eq_one_iff.1 hlen1
      rw[hy0]at hq1 hcells
      simp only[List.map_cons,List.map_nil,List.cons.injEq,and_true]at hq1
      subst hq1
      have hlt:off+k'<cs.size:=by
       have:=congrArg List.length hcells
       simp at this;omega
      have hcc:cs[off+k']? =some y0:=by
       have h1:(List.take ti.size (List.drop (off+k') cs.toList))[0]? =some y0:=by rw[hcells];rfl
       rw[List.getElem?_take]at h1
       split at h1
       · simpa using h1
       · cases h1
      have hload:=z5d (P:=P) (htt _ _ hti) hw hbound y0 (by rw[hagg];simp[hcc]) (by rw[hagg];exact fun _=>hlt)
      exact⟨by simp only[e1,Sem.run_bind,hload,Result.andThen_ok,Sem.run_pure,SV.den,A.den],rfl⟩
  · simp at hv
 |_=>simp[hop,zro]at hv
def zjd(tt:List (Nat×TI))(F:z05)(p:List (Nat×Bool)):Op→Option Value
 | .call ⟨.builtin .len,args,ts⟩=>match args.toList,ts.toList with
  |[x],[t]=>match opv F p x,lk tt t with
   |some (.a (.v v)),some ⟨_,_,_,_, .slice _⟩=>some v
   |_,_=>none
  |_,_=>none
 |_=>none
theorem z0l(htt:z0s P tt){p:List (Nat×Bool)}{g:Bool}{v:Value}{sz m:Nat}{xs:List Value}
  (hv:zjd tt F p o.op=some v)
  (hs:g=true→z7i V v sz m xs):Yld P o n F C O nl V p g (.a (.v (.int .i64 m))):=by
 intro hgt E a w hf hgv hm
 refine⟨?_,rfl⟩
 unfold Yv execOp
 cases hop:o.op with
 |call c=>
  obtain⟨callee,args,ts⟩:=c
  simp only[hop]at hv
  cases callee with
  |builtin b=>
   cases b with
   |len=>
    simp only[zjd]at hv
    split at hv
    ·
     rename_i x t hargs hts
     have ha:args= #[x]:=by simpa using congrArg List.toArray hargs
     have ht:ts= #[t]:=by simpa using congrArg List.toArray hts
     subst ha ht
     split at hv
     ·
      rename_i v' sz' by_ z fl e hx hti
      simp only[Option.some.injEq]at hv
      subst hv
      obtain⟨h1,_⟩:=z03 hf hgv hx
      obtain⟨dd,hdd,hk,_⟩:=(htt _ _ hti).und
      have hdb:dd= .slice e:=by cases dd<;>simp[z19]at hk;rw[hk]
      subst hdb
      rcases(hs hgt).2 with⟨ad,cc,rfl,h0⟩|⟨b,off,cap,cs,e',fz,rfl,_⟩
      · simp[resolve,invoke,builtin,Builtin.len_,h1,SV.den,A.den,run_underlying hdd,goInt,h0]
      · simp[resolve,invoke,builtin,Builtin.len_,h1,SV.den,A.den,run_underlying hdd,goInt]
     · simp at hv
    · simp at hv
   |_=>simp[zjd]at hv
  |_=>simp[zjd]at hv
 |_=>simp[hop,zjd]at hv
end
end Go.Eng
