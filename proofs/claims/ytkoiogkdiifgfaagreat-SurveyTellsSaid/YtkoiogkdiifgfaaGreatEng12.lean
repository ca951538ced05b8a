/-
 Regions whose order is open and that make or write memory: what yields one value whatever comes ahead of it is taken first.
-/
import Derived.Test.YtkoiogkdiifgfaaGreatEng11
import Derived.OrdersHeld
import Derived.Deep.RegionHeld3
set_option linter.unusedSimpArgs false
set_option linter.unusedVariables false
namespace Go.Eng
open Go Go.RowKit
def z0r(sp:List Nat)(listed:Array Bool):Bool:=sp.any fun s=>listed.getD s true
section
variable{P:Program}{ops:Array Oper}{Q:Exit→Act→World→Prop}{md:Region.Mode}{M:World→Prop}{sp:List Nat}
def z7d(P:Program)(md:Region.Mode)(ops:Array Oper)(Q:Exit→Act→World→Prop)(sp:List Nat)(M:World→Prop):Nat→Array Bool→Act→World→Prop
 |0,listed,a,w=>Region.ready md ops listed=[]∧Q .normal a w
 |fuel+1,listed,a,w=>
  (Region.ready md ops listed=[]→Q .normal a w)∧
  ∀i∈Region.ready md ops listed,wpOp P ops Q i (fun a' w'=>(z0r sp (listed.setIfInBounds i true)=false→M w')∧z7d P md ops Q sp M fuel (listed.setIfInBounds i true) a' w') a w
theorem z5c: ∀(fuel:Nat) (listed:Array Bool) (a:Act) (w:World),z7d P md ops Q sp M fuel listed a w→wpAny P md ops Q fuel listed a w
 |0,_,_,_,h=>h
 |fuel+1,_,_,_,h=>⟨h.1,fun i hi=>wpOp_mono (fun a' w' h'=>z5c fuel _ a' w' h'.2) (h.2 i hi)⟩
theorem z2e{listed:Array Bool}{i:Nat}(h:i∉sp):z0r sp (listed.setIfInBounds i true)=z0r sp listed:=by
 unfold z0r
 rw[Bool.eq_iff_iff,List.any_eq_true,List.any_eq_true]
 constructor
 ·
  rintro⟨s,hs,h1⟩
  exact⟨s,hs,by rwa [getD_set_ne true (fun e=>h (by rw[e];exact hs))]at h1⟩
 ·
  rintro⟨s,hs,h1⟩
  exact⟨s,hs,by rwa [getD_set_ne true (fun e=>h (by rw[e];exact hs))]⟩
theorem zbk{i:Nat}{oi:Oper}{v:Value}(hi:ops[i]? =some oi)(hsel: ∀(j:Nat) (o:Oper) cs b,ops[j]? =some o→o.op≠ .select cs b)
  (hQ: ∀c a w,Q (.panic c) (a.put oi.dst v) w→Q (.panic c) a w) (hisp:i∉sp) (hsp: ∀s∈sp,∀os,ops[s]? =some os→ ∃e∈os.after,Region.binds md e=true∧e.on=i):
  ∀(fuel:Nat) (listed:Array Bool) (a:Act) (w:World),
   (∀j oj,ops[j]? =some oj→j≠i→listed.getD j true=false→(∀e∈oj.after,Region.binds md e=true→e.on≠i)→oi.apart ops oj=true)→
   i∈Region.ready md ops listed→YieldsIf P ops M oi v a→z0r sp listed=false→M w→
   z7d P md ops Q sp M fuel (listed.setIfInBounds i true) (a.put oi.dst v) w→z7d P md ops Q sp M (fuel+1) listed a w:=by
 intro fuel
 induction fuel with
 |zero=>
  intro listed a w _ hr hy hns hM H
  refine⟨fun h=>(by rw[h]at hr;cases hr),fun j hj=> ?_⟩
  by_cases hji:j=i
  · subst hji;exact hy.wpOp hi hM ⟨fun _=>hM,H⟩
  ·
   have:=ready_mono hj hji
   rw[H.1]at this
   cases this
 |succ fuel ih=>
  intro listed a w hfree hr hy hns hM H
  refine⟨fun h=>(by rw[h]at hr;cases hr),fun j hj=> ?_⟩
  by_cases hji:j=i
  · subst hji;exact hy.wpOp hi hM ⟨fun _=>hM,H⟩
  ·
   have h1:=H.2 j (ready_mono hj hji)
   obtain⟨hjun,oj,hoj,hall⟩:=mem_ready.1 hj
   have hnot: ∀e∈oj.after,Region.binds md e=true→e.on≠i:=fun e he hb heq=>by
    have h1:=hall e he hb
    have h0:=(mem_ready.1 hr).1
    rw[heq]at h1
    rcases Nat.lt_or_ge i listed.size with h'|h'
    · simp[h']at h0 h1;rw[h0]at h1;cases h1
    · simp[Array.getElem?_eq_none h']at h1
   have hjsp:j∉sp:=fun hm=>by
    obtain⟨e,he,hb,hon⟩:=hsp j hm oj hoj
    exact hnot e he hb hon
   have h2:=wpOp_putIf hoj (hfree j oj hoj hji hjun hnot) (fun cs b=>hsel i oi cs b hi) (fun cs b=>hsel j oj cs b hoj) hQ hy h1
   have hfree': ∀k ok,ops[k]? =some ok→k≠i→(listed.setIfInBounds j true).getD k true=false→
     (∀e∈ok.after,Region.binds md e=true→e.on≠i)→oi.apart ops ok=true:=fun k ok hk hki hun hno=>by
    refine hfree k ok hk hki ?_ hno
    by_cases hjk:j=k
    · subst hjk;exact hjun
    · rw[getD_set_ne true hjk]at hun;exact hun
   refine wpOp_mono (fun a' w' h3=> ?_) h2
   have hns':z0r sp (listed.setIfInBounds j true)=false:=by rw[z2e hjsp];exact hns
   have hM':M w':=h3.2.1 (by rw[z2e hjsp,z2e hisp];exact hns)
   refine⟨fun _=>hM',ih (listed.setIfInBounds j true) a' w' hfree' (ready_mono hr (Ne.symm hji)) h3.1 hns' hM' ?_⟩
   rw[Array.setIfInBounds_comm _ _ hji]
   exact h3.2.2
def zso(ops:Array Oper)(sp:List Nat)(i:Nat):Bool:=
 sp.all fun s=> !(s==i)&&match ops[s]? with
  |some os=>os.after.any fun e=>Region.binds .any e&&e.on==i
  |none=>true
theorem zdy{i:Nat}(h:zso ops sp i=true):i∉sp∧ ∀s∈sp,∀os,ops[s]? =some os→ ∃e∈os.after,Region.binds .any e=true∧e.on=i:=by
 simp only[zso,List.all_eq_true,Bool.and_eq_true,Bool.not_eq_true',beq_eq_false_iff_ne]at h
 refine⟨fun hm=>(h i hm).1 rfl,fun s hs os hos=> ?_⟩
 have:=(h s hs).2
 rw[hos]at this
 obtain⟨e,he,hb⟩:=Array.any_eq_true'.1 this
 simp only[Bool.and_eq_true,beq_iff_eq]at hb
 exact⟨e,he,hb.1,hb.2⟩
end
structure TJ(P:Program)(ops:Array Oper)(Q:Exit→Act→World→Prop)(sp:List Nat)(O0:Own)(fuel:Nat)(listed:List Bool)(n:Nat)(F:z05)(C:List Nat)(O:Own)(nl:Nat)(V:Vw):Prop where
 out: ∀E a w,a.defers=[]→Frm E n F C nl a.tmps→Mem E O nl V w→Mem E O0 nl V w→z7d P .any ops (NoPanic Q) sp (fun w=>Mem E O0 nl V w) fuel listed.toArray a w
structure HJ(P:Program)(ops:Array Oper)(Q:Exit→Act→World→Prop)(sp:List Nat)(O0:Own)(nl0:Nat)(V0:Vw)(fuel:Nat)(listed:List Bool)(n:Nat)(F:z05)(C:List Nat)(O:Own)(nl:Nat)(V:Vw):Prop where
 out: ∀E0 E a w,E0.agree nl0 E→a.defers=[]→Frm E n F C nl a.tmps→Mem E O nl V w→(z0r sp listed.toArray=false→Mem E0 O0 nl0 V0 w)→
  z7d P .any ops (NoPanic Q) sp (fun w=>Mem E0 O0 nl0 V0 w) fuel listed.toArray a w
section
variable{P:Program}{tt:List (Nat×TI)}{ops:Array Oper}{Q:Exit→Act→World→Prop}{o:Oper}{rest:List Oper}
 {n:Nat} {F:z05} {C:List Nat} {O:Own} {nl:Nat} {V:Vw} {K:Act→World→Prop} {sp:List Nat} {O0:Own} {nl0:Nat} {V0:Vw} {fuel:Nat} {listed:List Bool}
theorem zdl{id:Nat}{l:List Oper}(sp:List Nat)(O0:Own)(hmix:P.follows .mixedOrders=true)(hO:z3b O O0)(hok:z0u nl O0=true)
  (h:TJ P l.toArray Q sp O0 l.length (List.replicate l.length false) n F C O nl V):KJ ((Code.region id l.toArray true).wp P Q) n F C O nl V:=by
 constructor
 intro E a w hd hf hm
 refine wp_region_noPanic<|wp_region_any hmix<|z5c (sp:=sp) (M:=fun w=>Mem E O0 nl V w) _ _ _ _ ?_
 have hm1:Mem E O nl V {w with drawn:=w.drawn+1}:=hm.drawn _
 have:=h.out E a _ hd hf hm1 (hm1.weak hO hok (Vw.le.refl _))
 simpa using this
theorem z3b.nil:z3b O []:=trivial
theorem z3b.cons{l:Nat}{c:Cel}{r:Own}(h:Eng.lk O l=some c)(hr:z3b O r):z3b O ((l,c)::r):=⟨h,hr⟩
theorem z52.nil:z52 F []:=trivial
theorem z52.cons{t:Nat}{x:SV}{r:List (Nat×SV)}(h:opv F [] (.tmp t)=some x)(hr:z52 F r):z52 F ((t,x)::r):=⟨h,hr⟩
def z5w(M:Act→World→Prop):Exit→Act→World→Prop
 | .normal,a,w=>M a w
 |_,_,_=>False
theorem zi0{id:Nat}{l:List Oper}{σ:Type}(Fx:σ→List (Nat×SV))(Ox:σ→Own)(nl':Nat)(Vx:σ→Vw)(I:σ→Prop)(hmix:P.follows .mixedOrders=true)
  (h:TJ P l.toArray (z5w fun a w=> ∃x',AtX n Fx Ox nl' Vx x' a w∧I x') [] O l.length (List.replicate l.length false) n F C O nl V)
  (hy: ∀x',I x'→KJ (Q .normal) n (mkF (Fx x')) [] (Ox x') nl' (Vx x')):KJ ((Code.region id l.toArray true).wp P Q) n F C O nl V:=by
 constructor
 intro E a w hd hf hm
 have hm1:Mem E O nl V {w with drawn:=w.drawn+1}:=hm.drawn _
 have h0:=h.out E a _ hd hf hm1 hm1
 have h1:(Code.region id l.toArray true).wp P (NoPanic (z5w fun a w=> ∃x',AtX n Fx Ox nl' Vx x' a w∧I x')) a w:=
  wp_region_any hmix (z5c (sp:=[]) (M:=fun w=>Mem E O nl V w) _ _ _ _ (by simpa using h0))
 refine wp_mono h1 ?_
 intro e a' w' hq
 cases e with
 |normal=>
  obtain⟨x',⟨E',hd',hf',hm'⟩,hI⟩:=hq
  exact(hy x' hI).out E' a' w' hd' hf' hm'
 |_=>exact hq.elim
def z4w:List Bool→Nat→List Bool
 |[],_=>[]
 |_::r,0=>true::r
 |b::r,n+1=>b::z4w r n
theorem z7p: ∀(l:List Bool) (i:Nat),(z4w l i).toArray=l.toArray.setIfInBounds i true:=by
 intro l i
 apply Array.ext'
 simp only[Array.toList_setIfInBounds]
 induction l generalizing i with
 |nil=>simp[z4w]
 |cons b r ih=>cases i with
  |zero=>simp[z4w]
  |succ n=>simp[z4w,ih n]
def zp0(ops:Array Oper)(sp:List Nat)(listed:Array Bool)(i:Nat):Bool:=
 (Region.ready .any ops listed).contains i&&Region.free .any ops listed i&&Region.noSelect ops&&zso ops sp i&& !(z0r sp listed)
theorem zz5(i:Nat){p:List (Nat×Bool)}{g:Bool}{C':List Nat}{s:SV}{d:Nat}(hi:ops[i]? =some o)
  (htk:zp0 ops sp listed.toArray i=true)
  (hg:gd ops F C o.guard=some (p,g,C')) (hd:o.dst=some d) (hc:(Nat.blt d n&& !(z2w d C'))=true)
  (hy:Yld P o n F C' O0 nl V p g s) (hs:s.ok nl=true)
  (next:TJ P ops Q sp O0 fuel (z4w listed i) n ((d,⟨p,g,s⟩)::F) C' O nl V):TJ P ops Q sp O0 (fuel+1) listed n F C O nl V:=by
 simp only[zp0,Bool.and_eq_true,Bool.not_eq_true']at htk
 obtain⟨⟨⟨⟨hr,hfr⟩,hsel⟩,hw⟩,hns⟩:=htk
 constructor
 intro E a w hdf hf hm hm0
 obtain⟨h1,h2,h3,h4⟩:=z18 hf hg
 simp only[Bool.and_eq_true,z0e,Bool.not_eq_true']at hc
 obtain⟨hisp,hsp⟩:=zdy hw
 refine zbk (v:=if g then s.den E else undef) hi (Region.noSelect_spec hsel) (fun c a w h=>h.elim) hisp hsp fuel listed.toArray a w (Region.free_spec hi hfr) (by simpa using hr) ?_ hns hm0 ?_
 ·
  cases g with
  |true=>
   refine .inl ⟨h1,fun w' hm'=> ?_⟩
   have:=(hy rfl E a w' h2 h3.symm hm').1
   simpa[Yv]using this
  |false=>exact .inr ⟨h1,by simp⟩
 ·
  rw[←z7p,hd]
  exact next.out E _ w (by simp[Act.put,hdf]) (Frm.put (p:=p) (g:=g) h2 hc.1 hc.2 h3 h4 (fun _=>hs)) hm hm0
theorem t_go(h:HJ P ops Q sp O0 nl V fuel listed n F C O nl V):TJ P ops Q sp O0 fuel listed n F C O nl V:=
 ⟨fun E a w hd hf hm hm0=>h.out E E a w (fun _ _=>⟨rfl,rfl⟩) hd hf hm (fun _=>hm0)⟩
theorem Mem.back{E0 E:Env}{w:World}(hm:Mem E O nl V w)(hag:E0.agree nl0 E)(hO:z3b O O0)(hok:z0u nl0 O0=true)(hV:V0.le V):Mem E0 O0 nl0 V0 w:=by
 have h:=hm.weak hO hok hV
 have hblk: ∀{l c},lk O0 l=some c→blk E0 l c=blk E l c:=fun{l c} hl=>(z1p hag (h.lab _ _ hl) c).symm
 refine⟨?_, ?_, ?_,h.get, ?_,h.os,h.tape,h.output,h.lab,h.labs,fun l m b hl=> ?_,h.big,fun l m b v hl=> ?_⟩
 ·
  intro l cs e hl
  have:=h.lit _ _ _ hl
  rw[(hag l (h.lab _ _ hl)).1,A.map_agree hag (h.labs _ _ _ hl)]at this
  exact this
 ·
  intro l e sz m xs hl
  have:=h.row _ _ _ _ _ hl
  rwa [(hag l (h.lab _ _ hl)).2]at this
 ·
  intro l l' c c' k hl hl' hb hb'
  rw[hblk hl]at hb
  rw[hblk hl']at hb'
  exact h.sep l l' c c' k hl hl' hb hb'
 ·
  intro l c k hl hb
  rw[hblk hl]at hb
  exact h.off l c k hl hb
 ·
  obtain⟨h1,h2⟩:=h.pin l m b hl
  exact⟨(hag m h2).1▸h1,h2⟩
 ·
  obtain⟨h1,h2,h3⟩:=h.kp l m b v hl
  exact⟨(hag m h3).1▸h1,(hag m h3).2▸h2,h3⟩
structure HI(P:Program)(ops:Array Oper)(Q:Exit→Act→World→Prop)(sp:List Nat)(O0:Own)(nl0:Nat)(V0:Vw)(fuel:Nat)(listed:List Bool)(n:Nat)(F:z05)(C:List Nat)(O:Own)(nl:Nat)(V:Vw)(i:Nat):Prop where
 out: ∀E0 E a w,E0.agree nl0 E→a.defers=[]→Frm E n F C nl a.tmps→Mem E O nl V w→(z0r sp listed.toArray=false→Mem E0 O0 nl0 V0 w)→
   wpOp P ops (NoPanic Q) i (fun a' w'=>(z0r sp (z4w listed i).toArray=false→Mem E0 O0 nl0 V0 w')∧z7d P .any ops (NoPanic Q) sp (fun w=>Mem E0 O0 nl0 V0 w) fuel (z4w listed i).toArray a' w') a w
theorem zhf(l:List Nat)(hr:Region.ready .any ops listed.toArray=l)(hl:l.isEmpty=false)(h: ∀i∈l,HI P ops Q sp O0 nl0 V0 fuel listed n F C O nl V i):
  HJ P ops Q sp O0 nl0 V0 (fuel+1) listed n F C O nl V:=by
 constructor
 intro E0 E a w hag hd hf hm hM
 refine⟨fun h0=>(by rw[hr]at h0;subst h0;cases hl),fun j hj=> ?_⟩
 rw[hr]at hj
 have:=(h j hj).out E0 E a w hag hd hf hm hM
 simp only[z7p]at this
 exact this
theorem j5f(i:Nat)(hr:Region.ready .any ops listed.toArray=[i])(h:HI P ops Q sp O0 nl0 V0 fuel listed n F C O nl V i):HJ P ops Q sp O0 nl0 V0 (fuel+1) listed n F C O nl V:=
 zhf [i] hr rfl (fun j hj=>by simp only[List.mem_singleton]at hj;subst hj;exact h)
theorem j8o(i j:Nat)(hr:Region.ready .any ops listed.toArray=[i,j])(h1:HI P ops Q sp O0 nl0 V0 fuel listed n F C O nl V i)(h2:HI P ops Q sp O0 nl0 V0 fuel listed n F C O nl V j):HJ P ops Q sp O0 nl0 V0 (fuel+1) listed n F C O nl V:=
 zhf [i,j] hr rfl (fun k hk=>by
  simp only[List.mem_cons,List.not_mem_nil,or_false]at hk
  rcases hk with rfl|rfl
  · exact h1
  · exact h2)
theorem z0x{i:Nat}(h:z0r sp (z4w listed i).toArray=false):z0r sp listed.toArray=false:=by
 rw[z7p]at h
 cases hc:z0r sp listed.toArray with
 |false=>rfl
 |true=>
  unfold z0r at hc h
  rw[List.any_eq_true]at hc
  obtain⟨s,hs,h1⟩:=hc
  have:(sp.any fun s=>(listed.toArray.setIfInBounds i true).getD s true)=true:=by
   rw[List.any_eq_true]
   refine⟨s,hs, ?_⟩
   by_cases hi:i=s
   ·
    subst hi
    rcases Nat.lt_or_ge i listed.toArray.size with h'|h'
    ·
     have h'':i<listed.length:=by simpa using h'
     simp[h'']
    ·
     have h'':listed.length≤i:=by simpa using h'
     simp[Array.getElem?_eq_none,h'']
   · rw[getD_set_ne true hi];exact h1
  rw[this]at h
  cases h
theorem j6l(ts:List Nat){F':z05}(hr:Region.ready .any ops listed.toArray=[])(hk:zi2 F ts []=some F')(h:KJ (Q .normal) n F' [] O nl V):HJ P ops Q sp O0 nl0 V0 fuel listed n F C O nl V:=by
 constructor
 intro E0 E a w hag hd hf hm hM
 have hq:NoPanic Q .normal a w:=h.out E a w hd (hf.plain (z6t ts [] F' (fun t e h=>by simp[lk]at h) hk)) hm
 cases fuel with
 |zero=>exact⟨hr,hq⟩
 |succ f=>exact⟨fun _=>hq,fun i hi=>by rw[hr]at hi;cases hi⟩
theorem zle(i:Nat){p:List (Nat×Bool)}{g:Bool}{C':List Nat}{s:SV}{d:Nat}(hi:ops[i]? =some o)
  (hg:gd ops F C o.guard=some (p,g,C')) (hd:o.dst=some d) (hc:(Nat.blt d n&& !(z2w d C'))=true) (hy:Yld P o n F C' O nl V p g s)
  (next:HJ P ops Q sp O0 nl0 V0 fuel (z4w listed i) n ((d,⟨p,g,s⟩)::F) C' O nl V):HI P ops Q sp O0 nl0 V0 fuel listed n F C O nl V i:=by
 refine⟨fun E0 E a w hag hdf hf hm hM=> ?_⟩
 obtain⟨h1,h2,h3,h4⟩:=z18 hf hg
 simp only[Bool.and_eq_true,z0e,Bool.not_eq_true']at hc
 unfold wpOp
 simp only[hi]
 rw[h1]
 cases g with
 |true=>
  simp only[if_true]
  left
  obtain⟨hyv,hok⟩:=hy rfl E a w h2 h3.symm hm
  unfold Oper.wp
  rw[hyv]
  refine⟨fun hs=>hM (z0x hs), ?_⟩
  rw[hd]
  refine next.out E0 E _ w hag (by simp[Act.put,hdf]) ?_ hm fun hs=>hM<|z0x hs
  have:=Frm.put (p:=p) (g:=true) h2 hc.1 hc.2 h3 h4 (fun _=>hok)
  simpa using this
 |false=>
  simp only[Bool.false_eq_true,if_false,hd]
  refine⟨fun hs=>hM (z0x hs), ?_⟩
  refine next.out E0 E _ w hag (by simp[Act.put,hdf]) ?_ hm fun hs=>hM<|z0x hs
  have:=Frm.put (p:=p) (g:=false) (s:=s) h2 hc.1 hc.2 h3 h4 (by simp)
  simpa using this
theorem jbd(i:Nat)(htt:z0s P tt){d:Nat}{cs:List A}{e:Nat}(hi:ops[i]? =some o)
  (hg:o.guard=none) (hv:zk4 tt F O o.op=some (cs,e)) (hd:o.dst=some d) (hc:(Nat.blt d n&& !(z2w d C))=true) (hnl:Nat.ble nl0 nl=true)
  (next:HJ P ops Q sp O0 nl0 V0 fuel (z4w listed i) n ((d,⟨[],true, .a (.ptr nl 0)⟩)::F) C ((nl, .lit cs e)::O) (nl+1) V):HI P ops Q sp O0 nl0 V0 fuel listed n F C O nl V i:=by
 refine⟨fun E0 E a w hag hdf hf hm hM=> ?_⟩
 simp only[Bool.and_eq_true,z0e,Bool.not_eq_true']at hc
 obtain⟨hrun,hok⟩:=zdo htt hf hm hv
 unfold wpOp
 simp only[hi]
 rw[show Region.wanted o (yielded ops a.tmps)=true by simp[Region.wanted,hg]]
 simp only[if_true]
 left
 unfold Oper.wp
 rw[hrun]
 have hkeep:z0r sp (z4w listed i).toArray=false→Mem E0 O0 nl0 V0 (w.alloc (.cells (cs.map (A.den E)).toArray e (0,0))):=fun hs=>(hM (z0x hs)).keep (z29 _ _)
 refine⟨hkeep, ?_⟩
 rw[hd]
 have hm':=hm.new (cs:=cs) (e:=e) hok
 have hle:nl0≤nl:=by simpa using hnl
 have hag':E0.agree nl0 (E.setρ nl w.heap.size):=fun l hl=>by
  have h1:=hag l hl
  have h2:=E.agree_setρ (nl:=nl) w.heap.size l (by omega)
  exact⟨h2.1.trans h1.1,h2.2.trans h1.2⟩
 refine next.out E0 (E.setρ nl w.heap.size) _ _ hag' (by simp[Act.put,hdf]) ?_ hm' hkeep
 have hf':=hf.env (E.agree_setρ w.heap.size) (Nat.le_succ nl)
 have:=Frm.put (p:=[]) (g:=true) (s:= .a (.ptr nl 0)) hf' hc.1 hc.2 rfl (by simp) (fun _=>by simp[SV.ok,A.ok,z0e])
 simpa[SV.den,A.den,Env.setρ]using this
theorem zsb(htt:z0s P tt){E:Env}{a:Act}{w:World}(hf:Frm E n F C nl a.tmps)(hm:Mem E O nl V w){l:Nat}{cs':List A}{e:Nat}{vs:List A}(hv:zgx tt F O o.op=some (l,cs',e,vs))(h1:zc2 O vs):
  ∃cs,lk O l=some (.lit cs e)∧z0z nl cs'=true∧(execOp a.eval o).run P w= .ok .skip (w.setRow (E.ρ l) (cs'.map (A.den E)).toArray):=by
 unfold execOp
 cases hop:o.op with
 |store t y x=>
  simp only[hop,zgx]at hv
  split at hv
  ·
   rename_i l' off s ti hy hx hti
   obtain⟨e1,_⟩:=z03 hf (by rfl) hy
   obtain⟨e2,ok2⟩:=z03 hf (by rfl) hx
   split at hv
   ·
    rename_i cs e' vs' hlo hvs
    cases hsz:Nat.beq vs'.length ti.size with
    |false=>simp[hsz]at hv
    |true=>
     simp only[hsz,cond_true]at hv
     split at hv
     ·
      rename_i r hr
      simp only[Option.some.injEq,Prod.mk.injEq]at hv
      obtain⟨rfl,rfl,rfl,rfl⟩:=hv
      obtain⟨h3,h4⟩:=z4u hm hvs ok2
      obtain⟨h5,h6⟩:=z4r hr
      have hok:=hm.labs _ _ _ hlo
      refine⟨cs,hlo, ?_, ?_⟩
      ·
       rw[h5]
       apply z0o.2
       intro x hx
       simp only[List.append_assoc,List.mem_append]at hx
       rcases hx with hx|hx|hx
       · exact z0o.1 hok x (List.mem_of_mem_take hx)
       · exact z0o.1 h4 x hx
       · exact z0o.1 hok x (List.mem_of_mem_drop hx)
      ·
       have hst:=run_storeCells_at P (E.ρ l') off e' (vs'.map (A.den E)) 0 (cs.map (A.den E)).toArray w (hm.lit _ _ _ hlo) (by simpa using h6) (z91 hm h1)
       have e1':a.eval y= .pointer (some ⟨E.ρ l',off,none⟩):=e1
       have hsz':(s.den E).cells.size=ti.size:=by rw[h3];simpa using(Nat.beq_eq▸hsz)
       have hcl:(s.den E).cells.toList=vs'.map (A.den E):=by rw[h3]
       have hres:((cs.map (A.den E)).toArray.toList.take (off+0)++vs'.map (A.den E)++(cs.map (A.den E)).toArray.toList.drop (off+0+(vs'.map (A.den E)).length)).toArray=(r.map (A.den E)).toArray:=by
        rw[h5];simp[List.map_take,List.map_drop]
       rw[hres]at hst
       simp only[e1',e2,Instr.storeAt,Instr.sureAddr,storeVar,Sem.run_bind,Sem.run_pure,Result.andThen_ok,(htt _ _ hti).sizeOf,hsz',ne_eq,not_true_eq_false,if_false,hcl,hst]
     · simp at hv
   · simp at hv
  · simp at hv
 |_=>simp[hop,zgx]at hv
theorem zta(i:Nat)(htt:z0s P tt){l:Nat}{cs':List A}{e:Nat}{vs:List A}(hi:ops[i]? =some o)
  (hg:o.guard=none) (hd:o.dst=none) (hv:zgx tt F O o.op=some (l,cs',e,vs)) (h1:zc2 O vs)
  (hsp:z0r sp (z4w listed i).toArray=true∨(z3b ((l, .lit cs' e)::O) O0∧z0u nl0 O0=true∧V0.le V))
  (next:HJ P ops Q sp O0 nl0 V0 fuel (z4w listed i) n F C ((l, .lit cs' e)::O) nl V):HI P ops Q sp O0 nl0 V0 fuel listed n F C O nl V i:=by
 refine⟨fun E0 E a w hag hdf hf hm hM=> ?_⟩
 obtain⟨cs,hlo,hok,hrun⟩:=zsb htt hf hm hv h1
 unfold wpOp
 simp only[hi]
 rw[show Region.wanted o (yielded ops a.tmps)=true by simp[Region.wanted,hg]]
 simp only[if_true]
 left
 unfold Oper.wp
 rw[hrun]
 have hm':=hm.set hlo hok
 have hkeep:z0r sp (z4w listed i).toArray=false→Mem E0 O0 nl0 V0 (w.setRow (E.ρ l) (cs'.map (A.den E)).toArray):=fun hs=>by
  rcases hsp with h|⟨h1,h2,h3⟩
  · rw[h]at hs;cases hs
  · exact hm'.back hag h1 h2 h3
 refine⟨hkeep, ?_⟩
 rw[hd]
 exact next.out E0 E a _ hag hdf hf hm' hkeep
theorem j50(i:Nat){p:List (Nat×Bool)}{g:Bool}{C':List Nat}{d f:Nat}{ss:List SV}(s:SV)(hi:ops[i]? =some o)
  (hg:gd ops F C o.guard=some (p,g,C')) (hv:z4i F p o.op=some (f,ss)) (hok:z0j P f) (hd:o.dst=some d) (hc:(Nat.blt d n&& !(z2w d C'))=true) (hs:s.ok nl=true)
  (hcall:g=true→ ∀E w,Mem E O nl V w→Calls P f (ss.map (SV.den E)).toArray w fun e w'=>e= .returned (s.den E)∧Below w.heap.size w w')
  (next:HJ P ops Q sp O0 nl0 V0 fuel (z4w listed i) n ((d,⟨p,g,s⟩)::F) C' O nl V):HI P ops Q sp O0 nl0 V0 fuel listed n F C O nl V i:=by
 refine⟨fun E0 E a w hag hdf hf hm hM=> ?_⟩
 obtain⟨h1,h2,h3,h4⟩:=z18 hf hg
 simp only[Bool.and_eq_true,z0e,Bool.not_eq_true']at hc
 unfold wpOp
 simp only[hi]
 rw[h1]
 cases g with
 |true=>
  simp only[if_true]
  left
  obtain⟨hrun,_⟩:=z1b h2 h3.symm hv hok w
  unfold Oper.wp
  rw[hrun,Oper.upon_enter]
  refine(hcall rfl E w hm).mono ?_
  rintro e w' ⟨rfl,hb⟩
  have hkeep:z0r sp (z4w listed i).toArray=false→Mem E0 O0 nl0 V0 w':=fun hs=>(hM (z0x hs)).keep hb
  refine⟨hkeep, ?_⟩
  rw[hd]
  refine next.out E0 E _ w' hag (by simp[Act.put,hdf]) ?_ (hm.keep hb) hkeep
  have:=Frm.put (p:=p) (g:=true) h2 hc.1 hc.2 h3 h4 (fun _=>hs)
  simpa using this
 |false=>
  simp only[Bool.false_eq_true,if_false,hd]
  refine⟨fun hs=>hM (z0x hs), ?_⟩
  refine next.out E0 E _ w hag (by simp[Act.put,hdf]) ?_ hm fun hs=>hM<|z0x hs
  have:=Frm.put (p:=p) (g:=false) (s:=s) h2 hc.1 hc.2 h3 h4 (by simp)
  simpa using this
theorem z4e(i:Nat){p:List (Nat×Bool)}{g:Bool}{C':List Nat}{d f:Nat}{ss:List SV}(Φ:Value→Vw→Prop)(hi:ops[i]? =some o)
  (hg:gd ops F C o.guard=some (p,g,C')) (hv:z4i F p o.op=some (f,ss)) (hok:z0j P f) (hd:o.dst=some d) (hc:(Nat.blt d n&& !(z2w d C'))=true)
  (hcall:g=true→ ∀E w,Mem E O nl V w→Calls P f (ss.map (SV.den E)).toArray w fun e w'=> ∃v V',e= .returned v∧Below w.heap.size w w'∧Vext w.heap.size V V' w'∧Φ v V')
  (next: ∀v V',V.le V'→(g=true→Φ v V')→HJ P ops Q sp O0 nl0 V0 fuel (z4w listed i) n ((d,⟨p,g, .a (.v v)⟩)::F) C' O nl V'):HI P ops Q sp O0 nl0 V0 fuel listed n F C O nl V i:=by
 refine⟨fun E0 E a w hag hdf hf hm hM=> ?_⟩
 obtain⟨h1,h2,h3,h4⟩:=z18 hf hg
 simp only[Bool.and_eq_true,z0e,Bool.not_eq_true']at hc
 unfold wpOp
 simp only[hi]
 rw[h1]
 cases g with
 |true=>
  simp only[if_true]
  left
  obtain⟨hrun,_⟩:=z1b h2 h3.symm hv hok w
  unfold Oper.wp
  rw[hrun,Oper.upon_enter]
  refine(hcall rfl E w hm).mono ?_
  rintro e w' ⟨v,V',rfl,hb,hx,hΦ⟩
  have hkeep:z0r sp (z4w listed i).toArray=false→Mem E0 O0 nl0 V0 w':=fun hs=>(hM (z0x hs)).keep hb
  refine⟨hkeep, ?_⟩
  rw[hd]
  refine(next v V' hx.le (fun _=>hΦ)).out E0 E _ w' hag (by simp[Act.put,hdf]) ?_ (hm.ext hb hx) hkeep
  have:=Frm.put (p:=p) (g:=true) (s:= .a (.v v)) h2 hc.1 hc.2 h3 h4 (fun _=>rfl)
  simpa[SV.den,A.den]using this
 |false=>
  simp only[Bool.false_eq_true,if_false,hd]
  refine⟨fun hs=>hM (z0x hs), ?_⟩
  refine(next undef V (Vw.le.refl _) (by simp)).out E0 E _ w hag (by simp[Act.put,hdf]) ?_ hm fun hs=>hM<|z0x hs
  have:=Frm.put (p:=p) (g:=false) (s:= .a (.v undef)) h2 hc.1 hc.2 h3 h4 (by simp)
  simpa using this
theorem j7v(i:Nat){p:List (Nat×Bool)}{g:Bool}{C':List Nat}{d:Nat}(mk:Nat→Value)(ob:Obj)(hi:ops[i]? =some o)
  (hg:gd ops F C o.guard=some (p,g,C')) (hd:o.dst=some d) (hc:(Nat.blt d n&& !(z2w d C'))=true)
  (hy:g=true→ ∀E (a:Act) w,Frm E n F C' nl a.tmps→z61 F p=true→Mem E O nl V w→(execOp a.eval o).run P w= .ok (.value (mk w.heap.size)) (w.alloc ob))
  (next: ∀b V',V.le V'→(g=true→V'.get b=some ob)→HJ P ops Q sp O0 nl0 V0 fuel (z4w listed i) n ((d,⟨p,g, .a (.v (mk b))⟩)::F) C' O nl V'):HI P ops Q sp O0 nl0 V0 fuel listed n F C O nl V i:=by
 refine⟨fun E0 E a w hag hdf hf hm hM=> ?_⟩
 obtain⟨h1,h2,h3,h4⟩:=z18 hf hg
 simp only[Bool.and_eq_true,z0e,Bool.not_eq_true']at hc
 unfold wpOp
 simp only[hi]
 rw[h1]
 cases g with
 |true=>
  simp only[if_true]
  left
  unfold Oper.wp
  rw[hy rfl E a w h2 h3.symm hm]
  have hkeep:z0r sp (z4w listed i).toArray=false→Mem E0 O0 nl0 V0 (w.alloc ob):=fun hs=>(hM (z0x hs)).keep (z29 _ _)
  refine⟨hkeep, ?_⟩
  rw[hd]
  have hv:=hm.vext ob
  refine(next w.heap.size _ hv.le (fun _=>by simp[Vw.put])).out E0 E _ _ hag (by simp[Act.put,hdf]) ?_ (hm.ext (z29 w ob) hv) hkeep
  have:=Frm.put (p:=p) (g:=true) (s:= .a (.v (mk w.heap.size))) h2 hc.1 hc.2 h3 h4 (fun _=>rfl)
  simpa[SV.den,A.den]using this
 |false=>
  simp only[Bool.false_eq_true,if_false,hd]
  refine⟨fun hs=>hM (z0x hs), ?_⟩
  refine(next 0 V (Vw.le.refl _) (by simp)).out E0 E _ w hag (by simp[Act.put,hdf]) ?_ hm fun hs=>hM<|z0x hs
  have:=Frm.put (p:=p) (g:=false) (s:= .a (.v (mk 0))) h2 hc.1 hc.2 h3 h4 (by simp)
  simpa using this
theorem h_bs(i:Nat)(htt:z0s P tt){p:List (Nat×Bool)}{g:Bool}{C':List Nat}{d len e:Nat}{vs:List Value}(hi:ops[i]? =some o)
  (hg:gd ops F C o.guard=some (p,g,C')) (hv:zf9 tt F O p o.op=some (len,vs,e)) (hd:o.dst=some d) (hc:(Nat.blt d n&& !(z2w d C'))=true)
  (next: ∀b V',V.le V'→(g=true→V'.get b=some (.cells vs.toArray e (0,0)))→HJ P ops Q sp O0 nl0 V0 fuel (z4w listed i) n ((d,⟨p,g, .a (.v (.slice (some ⟨b,0,none⟩) len len))⟩)::F) C' O nl V'):
  HI P ops Q sp O0 nl0 V0 fuel listed n F C O nl V i:=
 j7v i (fun b=> .slice (some ⟨b,0,none⟩) len len) _ hi hg hd hc (fun _ E a w hf hgv hm=>z7s htt hf hgv hm hv) next
end
end Go.Eng
