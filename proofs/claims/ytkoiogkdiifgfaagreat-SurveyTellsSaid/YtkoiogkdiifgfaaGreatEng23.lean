/-
 Bytes and strings, slices made, copied into, stored into; bits of numbers that are not negative.
-/
import Derived.Test.YtkoiogkdiifgfaaGreatEng22
import Derived.Laws.BytesString
import Derived.Lib.ConvBytes
import Derived.Laws.OwnMore
import Derived.Laws.CopyRow
import Derived.Laws.BitsAllLaws
set_option linter.unusedSimpArgs false
set_option linter.unusedVariables false
namespace Go.Eng
open Go Go.RowKit
/-! Bits. -/
theorem z2o(a:Nat)(ha:a<9223372036854775808):(BitVec.ofInt 64 (a:Int)).toNat=a:=by
 rw[BitVec.ofInt_natCast,BitVec.toNat_ofNat];exact Nat.mod_eq_of_lt (by omega)
theorem zrc(a b:Nat)(ha:a<9223372036854775808)(hb:b<9223372036854775808):bits .and .i64 (a:Int) (b:Int)=((a&&&b:Nat):Int):=by
 have hx:a&&&b≤a:=Nat.and_le_left
 show IntKind.i64.wrap ((BitVec.ofInt 64 (a:Int)&&&BitVec.ofInt 64 (b:Int)).toNat:Int)=_
 rw[BitVec.toNat_and,z2o a ha,z2o b hb,z06 (by omega) (by omega)]
theorem j4l(a b:Nat)(ha:a<9223372036854775808)(hb:b<9223372036854775808):bits .or .i64 (a:Int) (b:Int)=((a|||b:Nat):Int):=by
 have hx:a|||b<2^63:=Nat.or_lt_two_pow (by omega) (by omega)
 show IntKind.i64.wrap ((BitVec.ofInt 64 (a:Int)|||BitVec.ofInt 64 (b:Int)).toNat:Int)=_
 rw[BitVec.toNat_or,z2o a ha,z2o b hb,z06 (by omega) (by omega)]
theorem zmj(a b:Nat)(ha:a<9223372036854775808)(hb:b<9223372036854775808):bits .xor .i64 (a:Int) (b:Int)=((a^^^b:Nat):Int):=by
 have hx:a^^^b<2^63:=Nat.xor_lt_two_pow (by omega) (by omega)
 show IntKind.i64.wrap ((BitVec.ofInt 64 (a:Int)^^^BitVec.ofInt 64 (b:Int)).toNat:Int)=_
 rw[BitVec.toNat_xor,z2o a ha,z2o b hb,z06 (by omega) (by omega)]
theorem j7b{n:Nat}(h:n<256):IntKind.u8.wrap (n:Int)=n:=by rw[IntKind.wrap_u8'];omega
theorem zv1{n:Nat}(h:n<4294967296):IntKind.u32.wrap (n:Int)=n:=by rw[IntKind.wrap_u32'];omega
/-! Bytes. -/
abbrev z1e(b:UInt8):List Value:=[.int .u8 b.toNat]
theorem zjt(s:ByteArray):zco s=s.data.toList.flatMap z1e:=by
 unfold zco
 rw[←List.flatMap_singleton' (s.data.toList.map _),List.flatMap_map]
theorem z88(l:List UInt8):l.flatMap z1e=l.map fun b=>Value.int .u8 b.toNat:=by
 induction l with
 |nil=>rfl
 |cons x r ih=>rw[List.flatMap_cons,ih];rfl
theorem z5f(l:List UInt8): ∀u∈l.flatMap z1e,u.oneCell'=true:=by
 intro u hu
 rw[z88]at hu
 obtain⟨b,_,rfl⟩:=List.mem_map.1 hu
 rfl
def z0i(l:List UInt8):ByteArray:=⟨l.toArray⟩
theorem z16(l:List UInt8):(z0i l).size=l.length:=by simp[z0i,ByteArray.size]
theorem z0t(l:List UInt8):(z0i l).data.toList=l:=by simp[z0i]
theorem zjq: ∀(l:List UInt8) (s:ByteArray),(l.map fun b=>((b.toNat:Nat):Int)).foldl (fun r n=>r.push (UInt8.ofNat n.toNat)) s=⟨s.data++l.toArray⟩
 |[],s=>by simp
 |x::r,s=>by
  rw[List.map_cons,List.foldl_cons,zjq r]
  apply ByteArray.ext
  simp[ByteArray.push]
section
variable{P:Program}{tt:List (Nat×TI)}{o:Oper}{n:Nat}{F:z05}{C:List Nat}{O:Own}{nl:Nat}{V:Vw}
def zm7(tt:List (Nat×TI))(F:z05)(p:List (Nat×Bool)):Op→Option Value
 | .convert s d x=>match opv F p x,lk tt s,lk tt d with
  |some (.a (.v v)),some ⟨_,_,_,_, .slice e⟩,some ⟨_,_,_,_, .str⟩=>match lk tt e with
   |some ⟨_,_,_,_, .int .u8⟩=>some v
   |_=>none
  |_,_,_=>none
 |_=>none
theorem zes{P:Program}(w:World)(a:Addr):(loadCells a 0).run P w= .ok #[] w:=by
 simp[loadCells,loadCellsFrom,Array.range_zero']
theorem zls(htt:z0s P tt){p:List (Nat×Bool)}{g:Bool}{v:Value}(l:List UInt8)(hv:zm7 tt F p o.op=some v)
  (hs:g=true→z7i V v 1 l.length (l.flatMap z1e)):Yld P o n F C O nl V p g (.a (.v (.string (z0i l)))):=by
 intro hgt E a w hf hgv hm
 refine⟨?_,rfl⟩
 unfold Yv execOp
 cases hop:o.op with
 |convert s d x=>
  simp only[hop,zm7]at hv
  split at hv
  ·
   rename_i v2 sz by_ z fl e sz2 by2 z2 fl2 hx hts htd
   split at hv
   ·
    rename_i sz3 by3 z3 fl3 hte
    cases hv
    obtain⟨h1,_⟩:=z03 hf hgv hx
    obtain⟨ds,hds,hks,_⟩:=(htt _ _ hts).und
    have e1:ds= .slice e:=by cases ds<;>simp[z19]at hks;rw[hks]
    subst e1
    obtain⟨dd,hdd,hkd,_⟩:=(htt _ _ htd).und
    have e2:dd= .string:=by cases dd<;>simp[z19]at hkd<;>rfl
    subst e2
    obtain⟨de,hde,hke,_⟩:=(htt _ _ hte).und
    have e3:de= .int .u8:=by cases de<;>simp[z19]at hke;rw[hke]
    subst e3
    have hden:(SV.a (A.v v)).den E=v:=rfl
    rw[hden]at h1
    have key: ∀(ad:Addr) (c:Nat),v= .slice (some ad) l.length c→(loadCells ad l.length).run P w= .ok (l.map fun b=>Value.int .u8 b.toNat).toArray w→
      (Conv.bytesToString (.slice (some ad) l.length c)).run P w= .ok (.string (z0i l)) w:=by
     intro ad c _ hl
     have e:=zjq l ByteArray.empty
     have hl':(loadCells ad l.length).run P w= .ok (((l.map fun b=>((b.toNat:Nat):Int)).map (Value.int .u8)).toArray) w:=by
      rw[List.map_map];exact hl
     rw[run_bytesToString w ad _ c _ hl',e]
     simp[z0i]
    have fin:(convert s d v).run P w= .ok (.string (z0i l)) w:=by
     obtain⟨hlen,hsl⟩:=hs hgt
     rcases hsl with⟨ad,c,rfl,h0⟩|⟨b,off,cap,cs,el,fz,rfl,hb,hfit,hxs,hc⟩
     ·
      rw[run_convert_bytes_string w s d e ad 0 c hds hde hdd]
      have hl0:l=[]:=List.eq_nil_of_length_eq_zero h0
      subst hl0
      cases ad with
      |none=>simp[Conv.bytesToString,z0i,Sem.run_pure];rfl
      |some ad=>exact key ad c rfl (zes w ad)
     ·
      rw[run_convert_bytes_string w s d e _ l.length cap hds hde hdd]
      refine key _ cap rfl ?_
      have hb':=hm.get _ _ hb
      have hfit':off+l.length≤cs.size:=by rw[Nat.mul_one]at hfit;exact hfit
      rw[zg9 hb' off l.length hfit']
      rw[Nat.mul_one]at hxs
      rw[←hxs,z88]
    simp only[h1,Sem.run_bind,fin,Result.andThen_ok,Sem.run_pure,SV.den,A.den]
   · simp at hv
  · simp at hv
 |_=>simp[hop,zm7]at hv
theorem j09{p:List (Nat×Bool)}(Φ:Value→Vw→Prop)
  (h: ∀E (a:Act) w,Frm E n F C nl a.tmps→z61 F p=true→Mem E O nl V w→
   ∃v w' V',(execOp a.eval o).run P w= .ok (.value v) w'∧Below w.heap.size w w'∧Vext w.heap.size V V' w'∧Φ v V'):
  StepTo P o p n F C O nl V (σ:=Value×Vw) (fun x=>V.le x.2∧Φ x.1 x.2) (fun x=> .a (.v x.1)) (fun _=>O) nl (fun x=>x.2):=by
 constructor
 intro E a w hf hgv hm K Q hK
 obtain⟨v,w',V',hr,hb,hx,hΦ⟩:=h E a w hf hgv hm
 unfold Oper.wp
 rw[hr]
 exact hK (v,V') E w' ⟨hx.le,hΦ⟩ (fun _ _=>⟨rfl,rfl⟩) (hm.ext hb hx) rfl
def zh5(tt:List (Nat×TI))(F:z05)(p:List (Nat×Bool)):Op→Option (ByteArray×Nat)
 | .convert s d x=>match opv F p x,lk tt s,lk tt d with
  |some (.a (.v (.string v))),some ⟨_,_,_,_, .str⟩,some ⟨_,_,_,_, .slice e⟩=>match lk tt e with
   |some ⟨_,_,_,_, .int .u8⟩=>some (v,e)
   |_=>none
  |_,_,_=>none
 |_=>none
theorem zbw(w:World)(e:Nat)(s:ByteArray):Below w.heap.size w (Lib.bytesWorld w e s):=by
 refine⟨?_, ?_, ?_, ?_,fun k hk=>Lib.bytesWorld_at_old w e s k hk⟩
 all_goals simp[Lib.bytesWorld,World.freeze,World.alloc,World.drew, -World.alloc_eq, -World.drew_eq]
def S2B(V:Vw)(s:ByteArray)(v:Value)(V':Vw):Prop:=
 ∃b cap cs e fz,v= .slice (some ⟨b,0,none⟩) s.size cap∧s.size≤cap∧V'.get b=some (.cells cs e fz)∧s.size≤cs.size∧cs.toList.take s.size=s.data.toList.flatMap z1e∧s.size≤fz.1∧V.get b=none
theorem S2B.sl{V:Vw}{s:ByteArray}{v:Value}{V':Vw}(h:S2B V s v V'):SlOf V' z1e 1 v s.data.toList:=by
 obtain⟨b,cap,cs,e,fz,rfl,h1,h2,h3,h4,_⟩:=h
 have hl:s.data.toList.length=s.size:=by rw[Array.length_toList];rfl
 refine⟨⟨by rw[z88];simp, .inr ⟨b,0,cap,cs,e,fz,by rw[hl],h2,by omega,by rw[hl,Nat.mul_one,List.drop_zero,h4],by omega⟩⟩,fun _=>rfl⟩
theorem j7z(htt:z0s P tt){p:List (Nat×Bool)}{s:ByteArray}{e:Nat}(hv:zh5 tt F p o.op=some (s,e)):
  StepTo P o p n F C O nl V (σ:=Value×Vw) (fun x=>V.le x.2∧S2B V s x.1 x.2) (fun x=> .a (.v x.1)) (fun _=>O) nl (fun x=>x.2):=by
 refine j09 (fun v V'=>S2B V s v V') ?_
 intro E a w hf hgv hm
 cases hop:o.op with
 |convert ts td x=>
  simp only[hop,zh5]at hv
  split at hv
  ·
   rename_i v2 sz by_ z fl sz2 by2 z2 fl2 e' hx hts htd
   split at hv
   ·
    rename_i sz3 by3 z3 fl3 hte
    simp only[Option.some.injEq,Prod.mk.injEq]at hv
    obtain⟨rfl,rfl⟩:=hv
    obtain⟨h1,_⟩:=z03 hf hgv hx
    obtain⟨ds,hds,hks,_⟩:=(htt _ _ hts).und
    obtain⟨dd,hdd,hkd,_⟩:=(htt _ _ htd).und
    have e1:dd= .slice e':=by cases dd<;>simp[z19]at hkd;rw[hkd]
    subst e1
    obtain⟨de,hde,hke,_⟩:=(htt _ _ hte).und
    have e3:de= .int .u8:=by cases de<;>simp[z19]at hke;rw[hke]
    subst e3
    have h1':a.eval x= .string v2:=h1
    have hr:=Lib.run_convert_string_bytes (P:=P) w ts td e' v2 hds hdd hde
    obtain⟨V',hx',hget⟩: ∃V':Vw,Vext w.heap.size V V' (Lib.bytesWorld w e' v2)∧V'.get w.heap.size=some (.cells (Lib.bytesCells w e' v2) e' ((Lib.bytesCells w e' v2).size,(Lib.bytesCells w e' v2).size+1)):=by
     refine⟨V.put w.heap.size (.cells (Lib.bytesCells w e' v2) e' ((Lib.bytesCells w e' v2).size,(Lib.bytesCells w e' v2).size+1)),⟨⟨fun k ob hk=> ?_,rfl,rfl,rfl⟩,fun k ob hk=> ?_⟩, ?_⟩
     ·
      have hlt:=(Array.getElem?_eq_some_iff.1 (hm.get k ob hk)).1
      show(if _ then _ else _)=_
      rw[if_neg (by omega)];exact hk
     ·
      by_cases hkk:k=w.heap.size
      ·
       subst hkk
       have hk':(if w.heap.size=w.heap.size then some _ else V.get w.heap.size)=some ob:=hk
       rw[if_pos rfl]at hk'
       exact⟨by rw[Lib.bytesWorld_at_new];exact hk', .inr (Nat.le_refl _)⟩
      ·
       have hk':(if k=w.heap.size then some _ else V.get k)=some ob:=hk
       rw[if_neg hkk]at hk'
       have h0:=hm.get k ob hk'
       have hlt:=(Array.getElem?_eq_some_iff.1 h0).1
       exact⟨by rw[Lib.bytesWorld_at_old w e' v2 k hlt];exact h0, .inl hk'⟩
     ·
      show(if _ then _ else _)=_
      rw[if_pos rfl]
    refine⟨.slice (some ⟨w.heap.size,0,none⟩) v2.size (grownCap w v2.size 0 e'),Lib.bytesWorld w e' v2,V', ?_,zbw w e' v2,hx',w.heap.size,grownCap w v2.size 0 e',_,_,_,rfl,grownCap_ge w v2.size 0 e',hget, ?_, ?_, ?_, ?_⟩
    ·
     unfold execOp
     simp only[hop,h1',Sem.run_bind,hr,Result.andThen_ok,Sem.run_pure]
    · simp[Lib.bytesCells]
    ·
     rw[z88]
     simp only[Lib.bytesCells,Array.toList_append,Array.toList_map]
     rw[List.take_append_of_le_length (by simp)]
     rw[List.take_of_length_le (by simp)]
    · simp[Lib.bytesCells]
    ·
     cases hq:V.get w.heap.size with
     |none=>rfl
     |some ob=>
      have:=(Array.getElem?_eq_some_iff.1 (hm.get _ _ hq)).1
      omega
   · simp at hv
  · simp at hv
 |_=>simp[hop,zh5]at hv
theorem j9a(htt:z0s P tt){p:List (Nat×Bool)}{s:ByteArray}{e:Nat}(hv:zh5 tt F p o.op=some (s,e)):
  StepTo P o p n F C O nl V (σ:=Value×Vw) (fun x=>V.le x.2∧SlOf x.2 z1e 1 x.1 s.data.toList) (fun x=> .a (.v x.1)) (fun _=>O) nl (fun x=>x.2):=
 ⟨fun E a w hf hgv hm K Q hK=>(j7z htt hv).out E a w hf hgv hm K Q fun x E' w' hx=>hK x E' w' ⟨hx.1,hx.2.sl⟩⟩
def zfr(tt:List (Nat×TI))(F:z05)(p:List (Nat×Bool)):Op→Option (Nat×Nat×Nat×List Value×Int×Int)
 | .makeSlice t len cap=>match opv F p len,opv F p cap,lk tt t with
  |some (.a (.v (.int _ l))),some (.a (.v (.int _ c))),some ⟨_,_,_,_, .slice e⟩=>match lk tt e with
   |some ti=>bif Nat.beq ti.zero.length ti.size then some (e,ti.size,ti.bytes,ti.zero,l,c)else none
   |none=>none
  |_,_,_=>none
 |_=>none
theorem z9o(z:List Value)(k:Nat):(madeCells z.toArray (k*z.length)).toList=z6z k z:=by
 have:=zgq z.toArray k
 simp only[List.size_toArray]at this
 unfold madeCells
 simp only[List.size_toArray]
 rw[this]
theorem zkg(z:List Value): ∀(c n:Nat),n≤c→(z6z c z).take (n*z.length)=z6z n z
 |c,0,_=>by simp[z6z]
 |0,n+1,h=>by omega
 |c+1,n+1,h=>by
  rw[z6z,z6z,Nat.add_mul,Nat.one_mul,Nat.add_comm,List.take_append,List.take_of_length_le (by omega),Nat.add_sub_cancel_left,zkg z c n (by omega)]
theorem z2z(htt:z0s P tt){p:List (Nat×Bool)}{e sz by_:Nat}{z:List Value}{li ci:Int}(len cap:Nat)(hv:zfr tt F p o.op=some (e,sz,by_,z,li,ci))
  (hl:li=len) (hc:ci=cap) (hlc:len≤cap) (hb:by_*cap≤281474976710656) (hmx:cap≤maxLen):
  StepTo P o p n F C O nl V (σ:=Unit) (fun _=>True) (fun _=> .a (.row nl)) (fun _=>(nl, .row e sz len (z6z len z))::O) (nl+1) (fun _=>V):=by
 constructor
 intro E a w hf hgv hm K Q hK
 unfold Oper.wp execOp
 cases hop:o.op with
 |makeSlice t xl xc=>
  simp only[hop,zfr]at hv
  split at hv
  ·
   rename_i kl l' kc c' sz2 by2 z2 fl2 e' h1 h2 h3
   split at hv
   ·
    rename_i ti hte
    cases hzl:Nat.beq ti.zero.length ti.size with
    |false=>simp[hzl]at hv
    |true=>
     simp only[hzl,cond_true,Option.some.injEq,Prod.mk.injEq]at hv
     obtain⟨rfl,rfl,rfl,rfl,rfl,rfl⟩:=hv
     obtain⟨e1,_⟩:=z03 hf hgv h1
     obtain⟨e2,_⟩:=z03 hf hgv h2
     obtain⟨dd,hdd,hkd,_⟩:=(htt _ _ h3).und
     have e3:dd= .slice e':=by cases dd<;>simp[z19]at hkd;rw[hkd]
     subst e3
     obtain⟨fi,hfi,hfs,hfb,zv,hz,hzc⟩:=(htt _ _ hte).info
     subst hl hc
     simp only[maxLen]at hmx
     have hbi:(fi.bytes:Int)*(cap:Int)≤281474976710656:=by rw[hfb,←Int.natCast_mul];omega
     have hr:=run_make (P:=P) w t e' fi zv hdd hfi hz kl kc (len:Int) (cap:Int) (by omega) (by omega) hbi (by omega)
     simp only[Int.toNat_natCast]at hr
     have e1':a.eval xl= .int kl len:=e1
     have e2':a.eval xc= .int kc cap:=e2
     simp only[e1',e2',Sem.run_bind,hr,Result.andThen_ok,Sem.run_pure]
     rw[Nat.beq_eq]at hzl
     have hzs:zv.cells=ti.zero.toArray:=by apply Array.ext';simpa using hzc
     have hcells:madeCells zv.cells (cap*fi.size)=(z6z cap ti.zero).toArray:=by
      apply Array.ext'
      rw[hzs,hfs,←hzl,z9o]
     rw[hcells]
     have hown:(w.alloc (.cells (z6z cap ti.zero).toArray e' (0,0))).ownsRow w.heap.size e' ti.size (.slice (some ⟨w.heap.size,0,none⟩) len cap) len (z6z len ti.zero):=by
      refine⟨by rw[z4d,hzl], .inr ⟨w.heap.size,cap,_,rfl,Nat.le_refl _,heap_alloc_new w _,hlc,by simp only[maxLen];omega,by simp[z4d,hzl], ?_⟩⟩
      show(z6z cap ti.zero).take (len*ti.size)=_
      rw[←hzl]
      exact zkg _ _ _ hlc
     have:=hK () _ _ trivial (Env.agree_setκ E _) (hm.newRow (z29 w _) hown) (by simp[SV.ok,A.ok,z0e])
     show K (a.put o.dst _) _
     simpa[SV.den,A.den,Env.setκ]using this
   · simp at hv
  · simp at hv
 |_=>simp[hop,zfr]at hv
theorem Mem.setRowO{E:Env}{w:World}(hm:Mem E O nl V w){l e sz m g:Nat}{xs xs':List Value}{cur cur':Array Value}(hl:lk O l=some (.row e sz m xs))(hb:(E.κ l).ownBlock=some g)
  (hc:w.heap[g]? =some (.cells cur e (0,0))) (hr:(w.setRow g cur').ownsRow 0 e sz (E.κ l) m xs'):Mem E ((l, .row e sz m xs')::O) nl V (w.setRow g cur'):=by
 have hot: ∀k,k≠g→(w.setRow g cur').heap[k]? =w.heap[k]? :=fun k hk=>setRow_other w _ k _ hk
 have hold: ∀{l' c},lk ((l,Cel.row e sz m xs')::O) l'=some c→l'≠l→lk O l'=some c:=by
  intro l' c h hne
  rwa [z22 _ _ (fun x=>hne x.symm)]at h
 have hnew: ∀{c},lk ((l,Cel.row e sz m xs')::O) l=some c→c= .row e sz m xs':=by
  intro c h
  rw[z0f]at h
  exact(Option.some.inj h).symm
 have hany: ∀{l' c k},lk ((l,Cel.row e sz m xs')::O) l'=some c→blk E l' c=some k→ ∃c',lk O l'=some c'∧blk E l' c'=some k:=by
  intro l' c k h hk
  by_cases hh:l'=l
  ·
   subst hh
   cases hnew h
   exact⟨_,hl,hk⟩
  · exact⟨c,hold h hh,hk⟩
 have hne: ∀{l' c k},lk O l'=some c→blk E l' c=some k→l'≠l→k≠g:=by
  intro l' c k h hk hh he
  exact hh<|hm.sep l' l c _ k h hl hk (by simp[blk,hb,he])
 refine⟨?_, ?_, ?_, ?_, ?_,hm.os,hm.tape,hm.output, ?_, ?_, ?_, ?_, ?_⟩
 ·
  intro l' cs'' e' h
  by_cases hh:l'=l
  · subst hh;cases hnew h
  ·
   have h':=hold h hh
   rw[hot _ (hne h' rfl hh)]
   exact hm.lit _ _ _ h'
 ·
  intro l' e' sz' m' xs'' h
  by_cases hh:l'=l
  · subst hh;cases hnew h;exact hr
  ·
   have h':=hold h hh
   exact z1n (hm.row _ _ _ _ _ h') fun k hk=>hot k (hne h' hk hh)
 ·
  intro l1 l2 c1 c2 k h1 h2 hk1 hk2
  obtain⟨c1',h1',hk1'⟩:=hany h1 hk1
  obtain⟨c2',h2',hk2'⟩:=hany h2 hk2
  exact hm.sep l1 l2 c1' c2' k h1' h2' hk1' hk2'
 ·
  intro k ob hk
  rw[hot k ?_]
  · exact hm.get k ob hk
  ·
   intro he
   have:=hm.off l _ k hl (by simp[blk,hb,he])
   rw[hk]at this
   cases this
 ·
  intro l' c k h hk
  obtain⟨c',h',hk'⟩:=hany h hk
  exact hm.off l' c' k h' hk'
 ·
  intro l' c h
  by_cases hh:l'=l
  · subst hh;exact hm.lab _ _ hl
  · exact hm.lab _ _ (hold h hh)
 ·
  intro l' cs e' h
  by_cases hh:l'=l
  · subst hh;cases hnew h
  · exact hm.labs _ _ _ (hold h hh)
 ·
  intro l' m' b' h
  by_cases hh:l'=l
  · subst hh;cases hnew h
  · exact hm.pin _ _ _ (hold h hh)
 ·
  intro l' k h
  have:(w.setRow g cur').heap.size=w.heap.size:=by simp[World.setRow]
  rw[this]
  by_cases hh:l'=l
  · subst hh;cases hnew h
  · exact hm.big _ _ (hold h hh)
 ·
  intro l' m' b' v' h
  by_cases hh:l'=l
  · subst hh;cases hnew h
  · exact hm.kp _ _ _ _ (hold h hh)
def z25(off:Nat)(news xs:List Value):List Value:=xs.take off++news++xs.drop (off+news.length)
theorem zbc{off:Nat}{news xs:List Value}(h:off+news.length≤xs.length):(z25 off news xs).length=xs.length:=by
 simp only[z25,List.length_append,List.length_take,List.length_drop];omega
theorem z7z{w:World}{e sz m g cap:Nat}{v:Value}{xs news:List Value}{cur:Array Value}{off:Nat}(hx:xs.length=m*sz)(hv:v= .slice (some ⟨g,0,none⟩) m cap)(hg:w.heap[g]? =some (.cells cur e (0,0)))
  (hmc:m≤cap) (hcm:cap≤maxLen) (hcs:cur.size=cap*sz) (hcur:cur.toList.take (m*sz)=xs) (hfit:off+news.length≤m*sz):
  (w.setRow g (cur.toList.take off++news++cur.toList.drop (off+news.length)).toArray).ownsRow 0 e sz v m (z25 off news xs):=by
 have hle:m*sz≤cap*sz:=Nat.mul_le_mul_right _ hmc
 refine⟨by rw[zbc (by omega),hx], .inr ⟨g,cap,_,hv,Nat.zero_le _,setRow_heap w _ _ _ _ _ hg,hmc,hcm, ?_, ?_⟩⟩
 · simp only[List.size_toArray,List.length_append,List.length_take,List.length_drop,Array.length_toList];omega
 ·
  show(cur.toList.take off++news++cur.toList.drop (off+news.length)).take (m*sz)=_
  rw[←hcur,z25,List.take_append,List.take_append,List.take_take,List.take_take,List.drop_take,List.length_append,List.length_take]
  have hcl:cur.toList.length=cap*sz:=by simpa using hcs
  have h1:min off cur.toList.length=off:=by omega
  have h2:min (m*sz) off=off:=by omega
  have h3:min off (m*sz)=off:=by omega
  rw[h1,h2,h3,List.take_of_length_le (l:=news) (by omega)]
def jbp(tt:List (Nat×TI))(F:z05)(O:Own)(p:List (Nat×Bool)):Op→Option (Nat×SV×Nat×Nat×Nat×List Value)
 | .call ⟨.builtin .copy,args,ts⟩=>match args.toList,ts.toList with
  |[s,x],[t,_]=>match opv F p s,opv F p x,lk tt t with
   |some (.a (.row l)),some xs,some ⟨_,_,_,_, .slice e⟩=>match lk tt e,lk O l with
    |some ti,some (.row e' sz m olds)=>bif Nat.beq e' e&&Nat.beq sz ti.size then some (l,xs,e,sz,m,olds)else none
    |_,_=>none
   |_,_,_=>none
  |_,_=>none
 |_=>none
theorem Mem.dup{E:Env}{w:World}(hm:Mem E O nl V w){l:Nat}{c:Cel}(hl:lk O l=some c):Mem E ((l,c)::O) nl V w:=by
 have he: ∀t,lk ((l,c)::O) t=lk O t:=by
  intro t
  rw[z1l]
  by_cases h:l=t
  · subst h;rw[if_pos rfl,hl]
  · rw[if_neg h]
 refine⟨?_, ?_, ?_,hm.get, ?_,hm.os,hm.tape,hm.output, ?_, ?_, ?_, ?_, ?_⟩
 · intro l' cs e h;rw[he]at h;exact hm.lit _ _ _ h
 · intro l' e sz m xs h;rw[he]at h;exact hm.row _ _ _ _ _ h
 · intro l' l2 c1 c2 k h1 h2;rw[he]at h1 h2;exact hm.sep _ _ _ _ _ h1 h2
 · intro l' c1 k h1;rw[he]at h1;exact hm.off _ _ _ h1
 · intro l' c1 h;rw[he]at h;exact hm.lab _ _ h
 · intro l' cs e h;rw[he]at h;exact hm.labs _ _ _ h
 · intro l' m b h;rw[he]at h;exact hm.pin _ _ _ h
 · intro l' k h;rw[he]at h;exact hm.big _ _ h
 · intro l' m b v h;rw[he]at h;exact hm.kp _ _ _ _ h
def zty(tt:List (Nat×TI))(F:z05)(O:Own)(p:List (Nat×Bool)):Op→Option (Nat×Nat×List Value×Nat×Nat×Nat×List Value)
 | .store t y x=>match opv F p y,opv F p x,lk tt t with
  |some (.a (.rel l k)),some s,some ti=>match lk O l,zfx O s with
   |some (.row e sz m olds),some vs=>match zdw vs with
    |some us=>bif Nat.beq us.length ti.size then some (l,k,us,e,sz,m,olds)else none
    |none=>none
   |_,_=>none
  |_,_,_=>none
 |_=>none
theorem z5m(htt:z0s P tt){p:List (Nat×Bool)}{l k e sz m:Nat}{news olds:List Value}(hv:zty tt F O p o.op=some (l,k,news,e,sz,m,olds))(hd:o.dst=none)
  (h1: ∀u∈news,u.oneCell'=true) (hk:k+news.length≤m*sz) (hpos:0<m):
  StepTo P o p n F C O nl V (σ:=Unit) (fun _=>True) (fun _=> .a (.v undef)) (fun _=>(l, .row e sz m (z25 k news olds))::O) nl (fun _=>V):=by
 constructor
 intro E a w hf hgv hm K Q hK
 unfold Oper.wp execOp
 cases hop:o.op with
 |store t y x=>
  simp only[hop,zty]at hv
  split at hv
  ·
   rename_i l' k' s ti hy hx hti
   obtain⟨e1,_⟩:=z03 hf hgv hy
   obtain⟨e2,ok2⟩:=z03 hf hgv hx
   split at hv
   ·
    rename_i e' sz' m' olds' vs hlo hvs
    split at hv
    ·
     rename_i us hus
     cases hsz:Nat.beq us.length ti.size with
     |false=>simp[hsz]at hv
     |true=>
      simp only[hsz,cond_true,Option.some.injEq,Prod.mk.injEq]at hv
      obtain⟨rfl,rfl,rfl,rfl,rfl,rfl,rfl⟩:=hv
      rw[Nat.beq_eq]at hsz
      obtain⟨h3,h4⟩:=z4u hm hvs ok2
      have h5:=z9g (E:=E) hus
      have hrow:=hm.row _ _ _ _ _ hlo
      rcases hrow.2 with⟨hnil,hm0⟩|⟨g,cap,cur,hvv,_,hgg,hmc,hcm,hcs,hcur⟩
      · omega
      ·
       have hle2:m'*sz'≤cap*sz':=Nat.mul_le_mul_right _ hmc
       have hst:=run_storeCells_at P g k' e' us 0 cur w hgg (by omega) h1
       have e1':a.eval y= .pointer (some ⟨g,k',none⟩):=by
        rw[e1]
        show z9k (E.κ l') k'=_
        rw[hvv]
        simp[z9k,Addr.add]
        intro h0;exact h0.symm
       have hcl:(s.den E).cells.toList=us:=by rw[h3];simpa using h5
       have hsz':(s.den E).cells.size=ti.size:=by rw[←Array.length_toList,hcl,hsz]
       simp only[Nat.add_zero]at hst
       simp only[e1',e2,Instr.storeAt,Instr.sureAddr,storeVar,Sem.run_bind,Sem.run_pure,Result.andThen_ok,(htt _ _ hti).sizeOf,hsz',ne_eq,not_true_eq_false,if_false,hcl,hst]
       have hown:=z7z (e:=e') (off:=k') (news:=us) hrow.1 hvv hgg hmc hcm hcs hcur hk
       have hb:(E.κ l').ownBlock=some g:=by rw[hvv];rfl
       have:=hK () E _ trivial (fun _ _=>⟨rfl,rfl⟩) (hm.setRowO hlo hb hgg hown) rfl
       show K (a.put o.dst undef) _
       exact this
    · simp at hv
   · simp at hv
  · simp at hv
 |_=>simp[hop,zty]at hv
end
end Go.Eng
