/-
 Steps that turn what is owned, in regions of either kind; rows of one's own: appended to, read, written, handed over.
-/
import Derived.Test.YtkoiogkdiifgfaaGreatEng14
set_option linter.unusedSimpArgs false
set_option linter.unusedVariables false
namespace Go.Eng
open Go Go.RowKit
structure StepTo(P:Program)(o:Oper)(p:List (Nat×Bool))(n:Nat)(F:z05)(C:List Nat)(O:Own)(nl:Nat)(V:Vw){σ:Type}(Φ:σ→Prop)(s:σ→SV)(O':σ→Own)(nl':Nat)(V':σ→Vw):Prop where
 out: ∀E a w,Frm E n F C nl a.tmps→z61 F p=true→Mem E O nl V w→ ∀(K:Act→World→Prop) (Q:Exit→Act→World→Prop),
  (∀x E' w',Φ x→E.agree nl E'→Mem E' (O' x) nl' (V' x) w'→(s x).ok nl'=true→K (a.put o.dst ((s x).den E')) w')→o.wp P a w K Q
section
variable{P:Program}{tt:List (Nat×TI)}{ops:Array Oper}{Q:Exit→Act→World→Prop}{o:Oper}{rest:List Oper}
 {n:Nat} {F:z05} {C:List Nat} {O:Own} {nl:Nat} {V:Vw} {K:Act→World→Prop}
theorem Frm.putTo{E:Env}{C':List Nat}{nl':Nat}{a:Act}{d:Nat}{p:List (Nat×Bool)}{E':Env}{s:SV}(hf:Frm E n F C' nl a.tmps)(hag:E.agree nl E')(hn:nl≤nl')
  (hd:d<n) (hC:z2w d C'=false) (hg:true=z61 F p) (hp: ∀q∈p,z2w q.1 C'=true) (hs:s.ok nl'=true):
  Frm E' n ((d,⟨p,true,s⟩)::F) C' nl' (a.put (some d) (s.den E')).tmps:=by
 have:=Frm.put (p:=p) (g:=true) (s:=s) (hf.env hag hn) hd hC hg hp (fun _=>hs)
 simpa using this
theorem j5m{σ:Type}{Φ:σ→Prop}{s:σ→SV}{O':σ→Own}{nl':Nat}{V':σ→Vw}{p:List (Nat×Bool)}{g:Bool}{C':List Nat}{d:Nat}
  (hg:gd ops F C o.guard=some (p,g,C')) (hgt:g=true) (hd:o.dst=some d) (hc:(Nat.blt d n&& !(z2w d C'))=true) (hn:Nat.ble nl nl'=true)
  (hs:StepTo P o p n F C' O nl V Φ s O' nl' V')
  (next: ∀x,Φ x→KJ (wpList P ops Q rest) n ((d,⟨p,true,s x⟩)::F) C' (O' x) nl' (V' x)):KJ (wpList P ops Q (o::rest)) n F C O nl V:=by
 subst hgt
 constructor
 intro E a w hdf hf hm
 obtain⟨h1,h2,h3,h4⟩:=z18 hf hg
 simp only[Bool.and_eq_true,z0e,Bool.not_eq_true']at hc
 unfold wpList
 rw[h1]
 simp only[if_true]
 left
 refine hs.out E a w h2 h3.symm hm _ _ fun x E' w' hΦ hag hm' hok=> ?_
 show wpList P ops Q rest (a.put o.dst _) w'
 rw[hd]
 exact(next x hΦ).out E' _ w' (by simp[Act.put,hdf]) (h2.putTo hag (by simpa using hn) hc.1 hc.2 h3 h4 hok) hm'
theorem z2q{σ:Type}{Φ:σ→Prop}{s:σ→SV}{O':σ→Own}{nl':Nat}{V':σ→Vw}{p:List (Nat×Bool)}{g:Bool}{C':List Nat}
  (hg:gd ops F C o.guard=some (p,g,C')) (hgt:g=true) (hd:o.dst=none) (hn:Nat.ble nl nl'=true)
  (hs:StepTo P o p n F C' O nl V Φ s O' nl' V')
  (next: ∀x,Φ x→KJ (wpList P ops Q rest) n F C' (O' x) nl' (V' x)):KJ (wpList P ops Q (o::rest)) n F C O nl V:=by
 subst hgt
 constructor
 intro E a w hdf hf hm
 obtain⟨h1,h2,h3,h4⟩:=z18 hf hg
 unfold wpList
 rw[h1]
 simp only[if_true]
 left
 refine hs.out E a w h2 h3.symm hm _ _ fun x E' w' hΦ hag hm' hok=> ?_
 show wpList P ops Q rest (a.put o.dst _) w'
 rw[hd]
 exact(next x hΦ).out E' _ w' hdf (h2.env hag (by simpa using hn)) hm'
section
variable{sp:List Nat}{O0:Own}{nl0:Nat}{V0:Vw}{fuel:Nat}{listed:List Bool}
theorem Mem.back'{E0 E:Env}{w:World}(hm:Mem E O nl V w)(hag:E0.agree nl0 E)(h:z3b O O0∧z0u nl0 O0=true∧V0.le V):Mem E0 O0 nl0 V0 w:=hm.back hag h.1 h.2.1 h.2.2
theorem zo3(i:Nat){σ:Type}{Φ:σ→Prop}{s:σ→SV}{O':σ→Own}{nl':Nat}{V':σ→Vw}{p:List (Nat×Bool)}{g:Bool}{C':List Nat}{d:Nat}
  (hi:ops[i]? =some o) (hg:gd ops F C o.guard=some (p,g,C')) (hgt:g=true) (hd:o.dst=some d) (hc:(Nat.blt d n&& !(z2w d C'))=true) (hn:(Nat.ble nl nl'&&Nat.ble nl0 nl)=true)
  (hs:StepTo P o p n F C' O nl V Φ s O' nl' V')
  (hsp:z0r sp (z4w listed i).toArray=true∨ ∀x,Φ x→z3b (O' x) O0∧z0u nl0 O0=true∧V0.le (V' x))
  (next: ∀x,Φ x→HJ P ops Q sp O0 nl0 V0 fuel (z4w listed i) n ((d,⟨p,true,s x⟩)::F) C' (O' x) nl' (V' x)):HI P ops Q sp O0 nl0 V0 fuel listed n F C O nl V i:=by
 subst hgt
 refine⟨fun E0 E a w hag hdf hf hm hM=> ?_⟩
 obtain⟨h1,h2,h3,h4⟩:=z18 hf hg
 simp only[Bool.and_eq_true,z0e,Bool.not_eq_true']at hc
 simp only[Bool.and_eq_true,Nat.ble_eq]at hn
 unfold wpOp
 simp only[hi]
 rw[h1]
 simp only[if_true]
 left
 refine hs.out E a w h2 h3.symm hm _ _ fun x E' w' hΦ hag' hm' hok=> ?_
 have hag0:E0.agree nl0 E':=fun l hl=>by
  have h1:=hag l hl
  have h2:=hag' l (by omega)
  exact⟨h2.1.trans h1.1,h2.2.trans h1.2⟩
 have hkeep:z0r sp (z4w listed i).toArray=false→Mem E0 O0 nl0 V0 w':=fun hs=>by
  rcases hsp with h|h
  · rw[h]at hs;cases hs
  · exact hm'.back' hag0 (h x hΦ)
 refine⟨hkeep, ?_⟩
 rw[hd]
 exact(next x hΦ).out E0 E' _ w' hag0 (by simp[Act.put,hdf]) (h2.putTo hag' hn.1 hc.1 hc.2 h3 h4 hok) hm' hkeep
theorem zac(i:Nat){σ:Type}{Φ:σ→Prop}{s:σ→SV}{O':σ→Own}{nl':Nat}{V':σ→Vw}{p:List (Nat×Bool)}{g:Bool}{C':List Nat}
  (hi:ops[i]? =some o) (hg:gd ops F C o.guard=some (p,g,C')) (hgt:g=true) (hd:o.dst=none) (hn:(Nat.ble nl nl'&&Nat.ble nl0 nl)=true)
  (hs:StepTo P o p n F C' O nl V Φ s O' nl' V')
  (hsp:z0r sp (z4w listed i).toArray=true∨ ∀x,Φ x→z3b (O' x) O0∧z0u nl0 O0=true∧V0.le (V' x))
  (next: ∀x,Φ x→HJ P ops Q sp O0 nl0 V0 fuel (z4w listed i) n F C' (O' x) nl' (V' x)):HI P ops Q sp O0 nl0 V0 fuel listed n F C O nl V i:=by
 subst hgt
 refine⟨fun E0 E a w hag hdf hf hm hM=> ?_⟩
 obtain⟨h1,h2,h3,h4⟩:=z18 hf hg
 simp only[Bool.and_eq_true,Nat.ble_eq]at hn
 unfold wpOp
 simp only[hi]
 rw[h1]
 simp only[if_true]
 left
 refine hs.out E a w h2 h3.symm hm _ _ fun x E' w' hΦ hag' hm' hok=> ?_
 have hag0:E0.agree nl0 E':=fun l hl=>by
  have h1:=hag l hl
  have h2:=hag' l (by omega)
  exact⟨h2.1.trans h1.1,h2.2.trans h1.2⟩
 have hkeep:z0r sp (z4w listed i).toArray=false→Mem E0 O0 nl0 V0 w':=fun hs=>by
  rcases hsp with h|h
  · rw[h]at hs;cases hs
  · exact hm'.back' hag0 (h x hΦ)
 refine⟨hkeep, ?_⟩
 rw[hd]
 exact(next x hΦ).out E0 E' _ w' hag0 hdf (h2.env hag' hn.1) hm' hkeep
end
/-! Appending. -/
def z5a:TK→Bool
 | .slice _=>true
 | .str=>true
 |_=>false
def zcz(tt:List (Nat×TI))(F:z05)(O:Own)(p:List (Nat×Bool)):Op→Option (Nat×SV×Nat×Nat×Nat×Nat×List Value)
 | .call ⟨.builtin .append,args,ts⟩=>match args.toList,ts.toList with
  |[s,x],[t,t2]=>match opv F p s,opv F p x,lk tt t,lk tt t2 with
   |some (.a (.row l)),some xs,some ⟨_,_,_,_, .slice e⟩,some t2i=>match lk tt e,lk O l with
    |some ti,some (.row e' sz m olds)=>bif z5a t2i.kind&&Nat.beq e' e&&Nat.beq sz ti.size&&Nat.blt 0 ti.bytes&&Nat.beq ti.zero.length ti.size then some (l,xs,e,sz,ti.bytes,m,olds)else none
    |_,_=>none
   |_,_,_,_=>none
  |_,_=>none
 |_=>none
theorem z0g(htt:z0s P tt){p:List (Nat×Bool)}{l e sz by_ m k:Nat}{x:SV}{olds:List Value}(news:List Value)(hv:zcz tt F O p o.op=some (l,x,e,sz,by_,m,olds))
  (hsrc: ∀E w,Mem E O nl V w→Src P sz (x.den E) k news w) (h1: ∀E w,Mem E O nl V w→ ∀u∈news,u.oneCell'=true) (hb:(m+k)*by_≤140737488355328):
  StepTo P o p n F C O nl V (σ:=Unit) (fun _=>True) (fun _=> .a (.row nl)) (fun _=>(nl, .row e sz (m+k) (olds++news))::(l, .gone)::O) (nl+1) (fun _=>V):=by
 constructor
 intro E a w hf hgv hm K Q hK
 unfold Oper.wp execOp
 cases hop:o.op with
 |call c=>
  obtain⟨callee,args,ts⟩:=c
  simp only[hop]at hv
  cases callee with
  |builtin b=>
   cases b with
   |append=>
    simp only[zcz]at hv
    split at hv
    ·
     rename_i s y t t2 hargs hts
     have ha:args= #[s,y]:=by simpa using congrArg List.toArray hargs
     have ht:ts= #[t,t2]:=by simpa using congrArg List.toArray hts
     subst ha ht
     split at hv
     ·
      rename_i l' x' sz' by' z' fl' e' t2i hs hy hti ht2
      split at hv
      ·
       rename_i ti e'' sz'' m' olds' hte hlo
       cases hcd:(z5a t2i.kind&&Nat.beq e'' e'&&Nat.beq sz'' ti.size&&Nat.blt 0 ti.bytes&&Nat.beq ti.zero.length ti.size)with
       |false=>simp[hcd]at hv
       |true=>
        simp only[hcd,cond_true,Option.some.injEq,Prod.mk.injEq]at hv
        obtain⟨rfl,rfl,rfl,rfl,rfl,rfl,rfl⟩:=hv
        simp only[Bool.and_eq_true,Nat.beq_eq,z0e]at hcd
        obtain⟨⟨⟨⟨hk2,rfl⟩,rfl⟩,hbp⟩,hzl⟩:=hcd
        obtain⟨h2,_⟩:=z03 hf hgv hs
        obtain⟨h3,_⟩:=z03 hf hgv hy
        obtain⟨dd,hdd,hkd,_⟩:=(htt _ _ hti).und
        have hdb:dd= .slice e'':=by cases dd<;>simp[z19]at hkd;rw[hkd]
        subst hdb
        obtain⟨d2,hd2,hk2',_⟩:=(htt _ _ ht2).und
        have hd2':d2= .string∨ ∃e,d2= .slice e:=by
         cases d2<;>simp[z19]at hk2'<;>(first|exact .inl rfl|exact .inr ⟨_,rfl⟩|(rw[←hk2']at hk2;simp[z5a]at hk2))
        obtain⟨fi,hfi,hfs,hfb,z,hz,hzc⟩:=(htt _ _ hte).info
        have hrow:=hm.row _ _ _ _ _ hlo
        have hmx:m'+k≤maxLen:=by
         have:m'+k≤(m'+k)*ti.bytes:=Nat.le_mul_of_pos_right _ hbp
         simp only[maxLen];omega
        have hzs:z.cells.size=fi.size:=by rw[hfs,←hzl,←hzc];simp
        have hsrc':=hsrc E w hm
        rw[←hfs]at hrow hsrc'
        obtain⟨v',w',hr,hown,hgr,hbk⟩:=j20 (P:=P) (w:=w) (ty:=o.type) hdd hd2 hd2' hfi hz hzs hsrc' (h1 E w hm) (by rw[hfb];exact hb) hmx hrow
        rw[hfs]at hown
        have e2:a.eval s=E.κ l':=h2
        simp only[resolve,invoke,builtin,Sem.run_bind,Sem.run_pure,Result.andThen_ok,List.map_toArray,List.map_cons,List.map_nil,e2,h3,hr]
        have hm':=hm.grow hlo hown hgr hbk
        have:=hK () (E.setκ nl v') w' trivial (Env.agree_setκ E v') hm' (by simp[SV.ok,A.ok,z0e])
        show K (a.put o.dst v') w'
        simpa[SV.den,A.den,Env.setκ]using this
      · simp at hv
     · simp at hv
    · simp at hv
   |_=>simp[zcz]at hv
  |_=>simp[zcz]at hv
 |_=>simp[hop,zcz]at hv
/-! Rows that come. -/
theorem zbu{w:World}{b e sz m:Nat}{v:Value}{xs:List Value}(h:w.ownsRow b e sz v m xs):w.ownsRow 0 e sz v m xs:=by
 rcases h.2 with h1|⟨g,cap,cur,h1,_,h2⟩
 · exact⟨h.1, .inl h1⟩
 · exact⟨h.1, .inr ⟨g,cap,cur,h1,Nat.zero_le _,h2⟩⟩
theorem Mem.newRow{E:Env}{w w':World}{e sz m:Nat}{xs:List Value}{v:Value}(hm:Mem E O nl V w)(hb:Below w.heap.size w w')(hr:w'.ownsRow w.heap.size e sz v m xs):
  Mem (E.setκ nl v) ((nl, .row e sz m xs)::O) (nl+1) V w':=by
 have ag:E.agree nl (E.setκ nl v):=Env.agree_setκ E v
 have hk:=hm.keep hb
 have hfresh: ∀k,v.ownBlock=some k→w.heap.size≤k:=fun k h=>(hr.lt k h).1
 have old: ∀l' c,lk ((nl,Cel.row e sz m xs)::O) l'=some c→l'≠nl→lk O l'=some c:=fun l' c h hne=>by
  rwa [z22 _ _ (fun x=>hne x.symm)]at h
 have hbl: ∀l' c k,lk O l'=some c→blk (E.setκ nl v) l' c=some k→blk E l' c=some k:=fun l' c k ho h=>by
  rwa [z1p ag (hm.lab _ _ ho)]at h
 refine⟨?_, ?_, ?_,hk.get, ?_,hk.os,hk.tape,hk.output, ?_, ?_, ?_, ?_, ?_⟩
 ·
  intro l cs q h
  by_cases hne:l=nl
  · subst hne;rw[z0f]at h;cases h
  ·
   have ho:=old _ _ h hne
   rw[(ag l (hm.lab _ _ ho)).1,A.map_agree ag (hm.labs _ _ _ ho)]
   exact hk.lit _ _ _ ho
 ·
  intro l q s n' ys h
  by_cases hne:l=nl
  ·
   subst hne
   rw[z0f]at h
   cases h
   simpa[Env.setκ]using zbu hr
  ·
   have ho:=old _ _ h hne
   rw[(ag l (hm.lab _ _ ho)).2]
   exact hk.row _ _ _ _ _ ho
 ·
  intro l1 l2 c1 c2 k h1 h2 hk1 hk2
  by_cases e1:l1=nl
  ·
   by_cases e2:l2=nl
   · rw[e1,e2]
   ·
    subst e1
    rw[z0f]at h1
    cases h1
    have:=hfresh k (by simpa[blk,Env.setκ]using hk1)
    have ho:=old _ _ h2 e2
    have:=hm.lt ho (hbl _ _ _ ho hk2)
    omega
  ·
   by_cases e2:l2=nl
   ·
    subst e2
    rw[z0f]at h2
    cases h2
    have:=hfresh k (by simpa[blk,Env.setκ]using hk2)
    have ho:=old _ _ h1 e1
    have:=hm.lt ho (hbl _ _ _ ho hk1)
    omega
   · exact hm.sep _ _ _ _ _ (old _ _ h1 e1) (old _ _ h2 e2) (hbl _ _ _ (old _ _ h1 e1) hk1) (hbl _ _ _ (old _ _ h2 e2) hk2)
 ·
  intro l c k h hk1
  by_cases hne:l=nl
  ·
   subst hne
   rw[z0f]at h
   cases h
   have:=hfresh k (by simpa[blk,Env.setκ]using hk1)
   cases hq:V.get k with
   |none=>rfl
   |some ob=>
    have:=(Array.getElem?_eq_some_iff.1 (hm.get k ob hq)).1
    omega
  ·
   have ho:=old _ _ h hne
   exact hm.off _ _ _ ho<|hbl _ _ _ ho hk1
 ·
  intro l c h
  by_cases hne:l=nl
  · omega
  · have:=hm.lab _ _ (old _ _ h hne);omega
 ·
  intro l cs q h
  by_cases hne:l=nl
  · subst hne;rw[z0f]at h;cases h
  · exact z15 (Nat.le_succ nl) (hm.labs _ _ _ (old _ _ h hne))
 ·
  intro l q b h
  by_cases hne:l=nl
  · subst hne;rw[z0f]at h;cases h
  ·
   obtain⟨h1,h2⟩:=hm.pin _ _ _ (old _ _ h hne)
   exact⟨(ag q h2).1.trans h1,Nat.lt_succ_of_lt h2⟩
 ·
  intro l k h
  by_cases hne:l=nl
  · subst hne;rw[z0f]at h;cases h
  · exact hk.big _ _ (old _ _ h hne)
 ·
  intro l q b v h
  by_cases hne:l=nl
  · subst hne;rw[z0f]at h;cases h
  ·
   obtain⟨h1,h2,h3⟩:=hm.kp _ _ _ _ (old _ _ h hne)
   exact⟨(ag q h3).1.trans h1,(ag q h3).2.trans h2,Nat.lt_succ_of_lt h3⟩
theorem z6l(t e sz:Nat)(ht:opv F [] (.tmp t)=some (.a (.v (.slice none 0 0))))(hc:(Nat.blt t n&& !(z2w t C))=true)
  (h:KJ K n ((t,⟨[],true, .a (.row nl)⟩)::F) C ((nl, .row e sz 0 [])::O) (nl+1) V):KJ K n F C O nl V:=by
 constructor
 intro E a w hdf hf hm
 simp only[Bool.and_eq_true,z0e,Bool.not_eq_true']at hc
 have ag:E.agree nl (E.setκ nl (.slice none 0 0)):=Env.agree_setκ E _
 have hm':=hm.newRow (v:= .slice none 0 0) (e:=e) (sz:=sz) (Below.refl _ _) (World.ownsRow_nil w w.heap.size e sz)
 refine h.out (E.setκ nl (.slice none 0 0)) a w hdf ?_ hm'
 have hf':=hf.env ag (Nat.le_succ nl)
 obtain⟨h1,_⟩:=z03 hf (p:=[]) rfl ht
 have hlt:t<a.tmps.size:=by rw[hf.size];exact hc.1
 have hv:a.tmps[t]? =some (.slice none 0 0):=by
  simp only[SV.den,A.den,Act.eval]at h1
  simp only[Array.getElem?_eq_getElem hlt]at h1⊢
  simpa[hlt]using h1
 have hput:(a.put (some t) (.slice none 0 0)).tmps=a.tmps:=by
  simp only[Act.put]
  apply Array.ext_getElem?
  intro i
  rw[Array.getElem?_setIfInBounds]
  by_cases hi:t=i
  · subst hi;rw[if_pos rfl,if_pos hlt,hv]
  · simp[hi]
 have:=hf'.put (a:=a) (p:=[]) (g:=true) (s:= .a (.row nl)) hc.1 hc.2 rfl (by simp) (fun _=>by simp[SV.ok,A.ok,z0e])
 simp only[if_true,SV.den,A.den,Env.setκ]at this
 rw[hput]at this
 exact this
theorem z1q(htt:z0s P tt){p:List (Nat×Bool)}{len e:Nat}(sz:Nat){vs:List Value}(hv:zf9 tt F O p o.op=some (len,vs,e))(hl:Nat.beq vs.length (len*sz)=true)(hmx:Nat.ble len 16777216=true):
  StepTo P o p n F C O nl V (σ:=Unit) (fun _=>True) (fun _=> .a (.row nl)) (fun _=>(nl, .row e sz len vs)::O) (nl+1) (fun _=>V):=by
 constructor
 intro E a w hf hgv hm K Q hK
 unfold Oper.wp
 rw[z7s htt hf hgv hm hv]
 have hown:(w.alloc (.cells vs.toArray e (0,0))).ownsRow w.heap.size e sz (.slice (some ⟨w.heap.size,0,none⟩) len len) len vs:=by
  simp only[Nat.beq_eq]at hl
  refine⟨hl, .inr ⟨w.heap.size,len,vs.toArray,rfl,Nat.le_refl _,heap_alloc_new w _,Nat.le_refl _, ?_,by simpa using hl,by simp[←hl]⟩⟩
  simp only[Nat.ble_eq]at hmx
  simp only[maxLen];omega
 have:=hK () _ _ trivial (Env.agree_setκ E _) (hm.newRow (z29 w _) hown) (by simp[SV.ok,A.ok,z0e])
 show K (a.put o.dst _) _
 simpa[SV.den,A.den,Env.setκ]using this
theorem ze5{p:List (Nat×Bool)}{f:Nat}{ss:List SV}{σ:Type}(Φ:σ→Prop)(s:σ→SV)(e sz:Nat)(m:σ→Nat)(xs:σ→List Value)(hv:z4i F p o.op=some (f,ss))(hok:z0j P f)
  (hs: ∀x,(s x).ok (nl+1)=true)
  (hcall: ∀E w,Mem E O nl V w→Calls P f (ss.map (SV.den E)).toArray w fun ex w'=> ∃x v,ex= .returned ((s x).den (E.setκ nl v))∧w'.ownsRow w.heap.size e sz v (m x) (xs x)∧Below w.heap.size w w'∧Φ x):
  StepTo P o p n F C O nl V Φ s (fun x=>(nl, .row e sz (m x) (xs x))::O) (nl+1) (fun _=>V):=by
 constructor
 intro E a w hf hgv hm K Q hK
 obtain⟨hr,_⟩:=z1b hf hgv hv hok w
 unfold Oper.wp
 rw[hr,Oper.upon_enter]
 refine(hcall E w hm).mono ?_
 rintro ex w' ⟨x,v,rfl,hown,hb,hΦ⟩
 exact hK x _ w' hΦ (Env.agree_setκ E v) (hm.newRow hb hown)<|hs x
/-! A row of one's own is read as one that nobody writes. -/
def A.fz(l:Nat)(v:Value):A→A
 | .row l'=>bif Nat.beq l' l then .v v else .row l'
 | .rel l' k=>bif Nat.beq l' l then .el v k else .rel l' k
 |x=>x
def SV.fz(l:Nat)(v:Value):SV→SV
 | .a x=> .a (x.fz l v)
 | .agg cs=> .agg (cs.map (A.fz l v))
 | .tup xs=> .tup (xs.map (A.fz l v))
def Cel.fz(l:Nat)(v:Value):Cel→Cel
 | .lit cs e=> .lit (cs.map (A.fz l v)) e
 |c=>c
def fzF(l:Nat)(v:Value)(F:z05):z05:=F.map fun q=>(q.1,⟨q.2.path,q.2.g,q.2.x.fz l v⟩)
def fzO(l:Nat)(v:Value)(O:Own):Own:=O.map fun q=>(q.1,q.2.fz l v)
theorem A.den_fz{E:Env}{l:Nat}{v:Value}(h:E.κ l=v)(x:A):(x.fz l v).den E=x.den E:=by
 cases x with
 |row l'=>
  simp only[A.fz]
  by_cases e:l'=l
  · subst e;simp[A.den,h]
  ·
   have:Nat.beq l' l=false:=by rw[←Bool.not_eq_true,Nat.beq_eq];exact e
   simp[this,A.den]
 |rel l' k=>
  simp only[A.fz]
  by_cases e:l'=l
  · subst e;simp[A.den,h]
  ·
   have:Nat.beq l' l=false:=by rw[←Bool.not_eq_true,Nat.beq_eq];exact e
   simp[this,A.den]
 |_=>rfl
theorem A.map_fz{E:Env}{l:Nat}{v:Value}(h:E.κ l=v)(cs:List A):(cs.map (A.fz l v)).map (A.den E)=cs.map (A.den E):=by
 rw[List.map_map]
 exact List.map_congr_left fun x _=>A.den_fz h x
theorem SV.den_fz{E:Env}{l:Nat}{v:Value}(h:E.κ l=v)(x:SV):(x.fz l v).den E=x.den E:=by
 cases x with
 |a x=>exact A.den_fz h x
 |agg cs=>simp only[SV.fz,SV.den,A.map_fz h]
 |tup cs=>simp only[SV.fz,SV.den,A.map_fz h]
theorem A.ok_fz{nl l:Nat}{v:Value}{x:A}(h:x.ok nl=true):(x.fz l v).ok nl=true:=by
 cases x with
 |row l'=>simp only[A.fz];cases Nat.beq l' l<;>first|rfl|exact h
 |rel l' k=>simp only[A.fz];cases Nat.beq l' l<;>first|rfl|exact h
 |_=>exact h
theorem zie{nl l:Nat}{v:Value}{cs:List A}(h:z0z nl cs=true):z0z nl (cs.map (A.fz l v))=true:=by
 rw[z0o]at h⊢
 intro x hx
 obtain⟨y,hy,rfl⟩:=List.mem_map.1 hx
 exact A.ok_fz<|h y hy
theorem SV.ok_fz{nl l:Nat}{v:Value}{x:SV}(h:x.ok nl=true):(x.fz l v).ok nl=true:=by
 cases x with
 |a x=>exact A.ok_fz h
 |agg cs=>exact zie h
 |tup cs=>exact zie h
theorem zyy(l:Nat)(v:Value)(F:z05)(t:Nat):lk (fzF l v F) t=(lk F t).map fun e=>⟨e.path,e.g,e.x.fz l v⟩:=by
 induction F with
 |nil=>rfl
 |cons q r ih=>
  obtain⟨s,e⟩:=q
  simp only[fzF,List.map_cons,z1l]at ih⊢
  split
  · rfl
  · exact ih
theorem j5z(l:Nat)(v:Value)(O:Own)(t:Nat):lk (fzO l v O) t=(lk O t).map (Cel.fz l v):=by
 induction O with
 |nil=>rfl
 |cons q r ih=>
  obtain⟨s,e⟩:=q
  simp only[fzO,List.map_cons,z1l]at ih⊢
  split
  · rfl
  · exact ih
theorem zpp{l:Nat}{v:Value}(hv: ∀b,v≠ .bool b)(F:z05)(s:Nat)(b:Bool):z5t (fzF l v F) s b=z5t F s b:=by
 unfold z5t
 rw[zyy]
 rcases lk F s with _|⟨p,g,x⟩
 · rfl
 ·
  rcases x with a|cs|cs<;>try rfl
  cases a with
  |row l'=>
   simp only[Option.map_some,SV.fz,A.fz]
   cases Nat.beq l' l with
   |false=>rfl
   |true=>
    simp only[cond_true]
    cases v<;>first|rfl|exact absurd rfl (hv _)
  |rel l' k=>
   simp only[Option.map_some,SV.fz,A.fz]
   cases Nat.beq l' l<;>rfl
  |_=>rfl
theorem zca{l:Nat}{v:Value}(hv: ∀b,v≠ .bool b)(F:z05): ∀p,z61 (fzF l v F) p=z61 F p
 |[]=>rfl
 |(s,b)::r=>by simp only[z61,zca hv F r,zpp hv]
theorem Frm.fz{E:Env}{l:Nat}{v:Value}{tmps:Array Value}(hE:E.κ l=v)(hv: ∀b,v≠ .bool b)(hf:Frm E n F C nl tmps):Frm E n (fzF l v F) C nl tmps:=by
 have key: ∀{t e},lk (fzF l v F) t=some e→ ∃e0,lk F t=some e0∧e=⟨e0.path,e0.g,e0.x.fz l v⟩:=fun{t e} h=>by
  rw[zyy]at h
  cases hl:lk F t with
  |none=>simp[hl]at h
  |some e0=>simp only[hl,Option.map_some,Option.some.injEq]at h;exact⟨e0,rfl,h.symm⟩
 refine⟨hf.size,fun t e h=> ?_,fun t e h=> ?_,fun t e h hg=> ?_⟩
 ·
  obtain⟨e0,h0,rfl⟩:=key h
  rw[hf.val t e0 h0]
  simp only[SV.den_fz hE]
 ·
  obtain⟨e0,h0,rfl⟩:=key h
  simp only[zca hv]
  exact hf.wf t e0 h0
 ·
  obtain⟨e0,h0,rfl⟩:=key h
  exact SV.ok_fz<|hf.labs t e0 h0 hg
theorem z5h{w:World}{b e sz m:Nat}{v:Value}{xs:List Value}(h:w.ownsRow b e sz v m xs): ∀c,v≠ .bool c:=by
 intro c hc
 subst hc
 rcases h.2 with⟨h1,_⟩|⟨_,_,_,h1,_⟩<;>cases h1
theorem z38{w:World}{e sz m:Nat}{v:Value}{xs:List Value}{V':Vw}(h:w.ownsRow 0 e sz v m xs)(hV: ∀k,v.ownBlock=some k→V'.get k=w.heap[k]?):z7i V' v sz m xs:=by
 refine⟨h.1, ?_⟩
 rcases h.2 with⟨rfl,h1⟩|⟨g,cap,cur,rfl,_,hg,hnc,_,hcs,htake⟩
 · exact .inl ⟨none,0,rfl,h1⟩
 ·
  refine .inr ⟨g,0,cap,cur,e,(0,0),rfl,(hV g rfl).trans hg, ?_,by simpa using htake.symm,hnc⟩
  rw[hcs]
  simpa using Nat.mul_le_mul_right sz hnc
theorem z0p(l:Nat){p:List (Nat×Bool)}{g:Bool}{e sz m:Nat}{xs:List Value}{s:SV}(hl:lk O l=some (.row e sz m xs))(hs:s.ok nl=true)
  (h: ∀v V',z7i V' v sz m xs→Yld P o n (fzF l v F) C [] nl V' p g (s.fz l v)):Yld P o n F C O nl V p g s:=by
 intro hgt E a w hf hgv hm
 have hrow:=hm.row _ _ _ _ _ hl
 have hnb:=z5h hrow
 have:=h (E.κ l) (vw w) (z38 hrow (fun k _=>rfl)) hgt E a w (hf.fz rfl hnb) (by rw[zca hnb];exact hgv) (zhn E nl w)
 rw[SV.den_fz rfl]at this
 exact⟨this.1,hs⟩
theorem zv4(l:Nat){e sz m:Nat}{xs:List Value}(hl:lk O l=some (.row e sz m xs))
  (h: ∀v V',V.le V'→z7i V' v sz m xs→(∀k,v.ownBlock=some k→V.get k=none)→(m=0∨ ∃b cap cur,v= .slice (some ⟨b,0,none⟩) m cap∧V'.get b=some (.cells cur e (0,0))∧m≤cap∧cur.size=cap*sz∧cur.toList.take (m*sz)=xs)→
   KJ K n (fzF l v F) C ((l, .gone)::fzO l v O) nl V'):KJ K n F C O nl V:=by
 constructor
 intro E a w hdf hf hm
 have hrow:=hm.row _ _ _ _ _ hl
 have hnb:=z5h hrow
 have hoff: ∀k,(E.κ l).ownBlock=some k→V.get k=none:=fun k hk=>hm.off l _ k hl (by simpa[blk]using hk)
 let V':Vw:=⟨fun k=>if(E.κ l).ownBlock=some k then w.heap[k]? else V.get k,V.os,V.tape,V.output⟩
 have hle:V.le V':=by
  refine⟨fun k ob hk=> ?_,rfl,rfl,rfl⟩
  show(if _ then _ else _)=_
  by_cases hq:(E.κ l).ownBlock=some k
  · rw[hoff k hq]at hk;cases hk
  · rw[if_neg hq];exact hk
 have hsl:z7i V' (E.κ l) sz m xs:=z38 hrow (fun k hk=>by show(if _ then _ else _)=_;rw[if_pos hk])
 have hex:m=0∨ ∃b cap cur,E.κ l= .slice (some ⟨b,0,none⟩) m cap∧V'.get b=some (.cells cur e (0,0))∧m≤cap∧cur.size=cap*sz∧cur.toList.take (m*sz)=xs:=by
  rcases hrow.2 with⟨_,h1⟩|⟨g,cap,cur,hv,_,hg,hnc,_,hcs,htake⟩
  · exact .inl h1
  ·
   refine .inr ⟨g,cap,cur,hv, ?_,hnc,hcs,htake⟩
   show(if _ then _ else _)=_
   rw[if_pos (by rw[hv];rfl)]
   exact hg
 refine(h (E.κ l) V' hle hsl hoff hex).out E a w hdf (hf.fz rfl hnb) ?_
 have old: ∀l' c,lk ((l,Cel.gone)::fzO l (E.κ l) O) l'=some c→(l'=l∧c= .gone)∨(l'≠l∧ ∃c0,lk O l'=some c0∧c=c0.fz l (E.κ l)):=by
  intro l' c h
  rw[z1l]at h
  by_cases hq:l=l'
  · rw[if_pos hq]at h;cases h;exact .inl ⟨hq.symm,rfl⟩
  ·
   rw[if_neg hq,j5z]at h
   cases hc:lk O l' with
   |none=>simp[hc]at h
   |some c0=>simp only[hc,Option.map_some,Option.some.injEq]at h;exact .inr ⟨fun h=>hq h.symm,c0,rfl,h.symm⟩
 have hblk: ∀l' c,blk E l' (c.fz l (E.κ l))=blk E l' c:=fun l' c=>by cases c<;>rfl
 refine⟨?_, ?_, ?_, ?_, ?_,hm.os,hm.tape,hm.output, ?_, ?_, ?_, ?_, ?_⟩
 ·
  intro l' cs q h'
  rcases old _ _ h' with⟨_,h1⟩|⟨_,c0,h0,h1⟩
  · cases h1
  ·
   cases c0 with
   |lit cs0 e0=>
    simp only[Cel.fz,Cel.lit.injEq]at h1
    obtain⟨rfl,rfl⟩:=h1
    rw[A.map_fz rfl]
    exact hm.lit _ _ _ h0
   |_=>cases h1
 ·
  intro l' q s n' ys h'
  rcases old _ _ h' with⟨_,h1⟩|⟨_,c0,h0,h1⟩
  · cases h1
  ·
   cases c0 with
   |row=>
    simp only[Cel.fz,Cel.row.injEq]at h1
    obtain⟨rfl,rfl,rfl,rfl⟩:=h1
    exact hm.row _ _ _ _ _ h0
   |_=>cases h1
 ·
  intro l1 l2 c1 c2 k h1 h2 hk1 hk2
  rcases old _ _ h1 with⟨_,rfl⟩|⟨_,c3,h3,rfl⟩
  · simp[blk]at hk1
  ·
   rcases old _ _ h2 with⟨_,rfl⟩|⟨_,c4,h4,rfl⟩
   · simp[blk]at hk2
   ·
    rw[hblk]at hk1 hk2
    exact hm.sep _ _ _ _ _ h3 h4 hk1 hk2
 ·
  intro k ob hk
  change (if _ then _ else _)=_ at hk
  by_cases hq:(E.κ l).ownBlock=some k
  · rw[if_pos hq]at hk;exact hk
  · rw[if_neg hq]at hk;exact hm.get k ob hk
 ·
  intro l' c k h' hk
  rcases old _ _ h' with⟨_,rfl⟩|⟨hne,c0,h0,rfl⟩
  · simp[blk]at hk
  ·
   rw[hblk]at hk
   show(if _ then _ else _)=_
   rw[if_neg (fun hq=>hne (hm.sep _ _ _ _ k h0 hl hk (by simpa[blk]using hq)))]
   exact hm.off _ _ _ h0 hk
 ·
  intro l' c h'
  rcases old _ _ h' with⟨h1,_⟩|⟨_,c0,h0,_⟩
  · subst h1;exact hm.lab _ _ hl
  · exact hm.lab _ _ h0
 ·
  intro l' cs q h'
  rcases old _ _ h' with⟨_,h1⟩|⟨_,c0,h0,h1⟩
  · cases h1
  ·
   cases c0 with
   |lit cs0 e0=>
    simp only[Cel.fz,Cel.lit.injEq]at h1
    obtain⟨rfl,rfl⟩:=h1
    exact zie<|hm.labs _ _ _ h0
   |_=>cases h1
 ·
  intro l' q b h'
  rcases old _ _ h' with⟨_,h1⟩|⟨_,c0,h0,h1⟩
  · cases h1
  ·
   cases c0 with
   |pin m0 b0=>
    simp only[Cel.fz,Cel.pin.injEq]at h1
    obtain⟨rfl,rfl⟩:=h1
    exact hm.pin _ _ _ h0
   |_=>cases h1
 ·
  intro l' k h'
  rcases old _ _ h' with⟨_,h1⟩|⟨_,c0,h0,h1⟩
  · cases h1
  ·
   cases c0 with
   |size k0=>
    simp only[Cel.fz,Cel.size.injEq]at h1
    subst h1
    exact hm.big _ _ h0
   |_=>cases h1
 ·
  intro l' q b v h'
  rcases old _ _ h' with⟨_,h1⟩|⟨_,c0,h0,h1⟩
  · cases h1
  ·
   cases c0 with
   |keep m0 b0 v0=>
    simp only[Cel.fz,Cel.keep.injEq]at h1
    obtain⟨rfl,rfl,rfl⟩:=h1
    exact hm.kp _ _ _ _ h0
   |_=>cases h1
theorem zoe(l:Nat){e sz m:Nat}{xs:List Value}(hl:lk O l=some (.row e sz m xs))
  (h: ∀v V',V.le V'→z7i V' v sz m xs→(∀k,v.ownBlock=some k→V.get k=none)→KJ K n (fzF l v F) C ((l, .gone)::fzO l v O) nl V'):KJ K n F C O nl V:=
 zv4 l hl (fun v V' h1 h2 h3 _=>h v V' h1 h2 h3)
end
end Go.Eng
