/-
 Drawn regions: what is taken need not stand directly ahead of what spoils.
-/
import Derived.Test.YtkoiogkdiifgfaaGreatEng25
set_option linter.unusedSimpArgs false
set_option linter.unusedVariables false
namespace Go.Eng
open Go Go.RowKit
section
variable{P:Program}{md:Region.Mode}{ops:Array Oper}{Q:Exit→Act→World→Prop}{sp:List Nat}{M:World→Prop}
theorem z9y{i:Nat}{oi:Oper}{v:Value}(ds:List Nat)(hi:ops[i]? =some oi)(hsel: ∀(j:Nat) (o:Oper) cs b,ops[j]? =some o→o.op≠ .select cs b)
  (hQ: ∀c a w,Q (.panic c) (a.put oi.dst v) w→Q (.panic c) a w) (hisp:i∉sp) (hsub: ∀s∈sp,s∈ds)
  (hds: ∀d∈ds,∀od,ops[d]? =some od→ ∃e∈od.after,Region.binds md e=true∧(e.on=i∨e.on∈ds)):
  ∀(fuel:Nat) (listed:Array Bool) (a:Act) (w:World),(∀d∈ds,listed.getD d true=false)→
   (∀j oj,ops[j]? =some oj→j≠i→listed.getD j true=false→(∀e∈oj.after,Region.binds md e=true→e.on≠i)→oi.apart ops oj=true)→
   i∈Region.ready md ops listed→YieldsIf P ops M oi v a→z0r sp listed=false→M w→
   z7d P md ops Q sp M fuel (listed.setIfInBounds i true) (a.put oi.dst v) w→z7d P md ops Q sp M (fuel+1) listed a w:=by
 intro fuel
 induction fuel with
 |zero=>
  intro listed a w _ _ hr hy hns hM H
  refine⟨fun h=>(by rw[h]at hr;cases hr),fun j hj=> ?_⟩
  by_cases hji:j=i
  · subst hji;exact hy.wpOp hi hM ⟨fun _=>hM,H⟩
  ·
   have:=ready_mono hj hji
   rw[H.1]at this
   cases this
 |succ fuel ih=>
  intro listed a w hund hfree hr hy hns hM H
  refine⟨fun h=>(by rw[h]at hr;cases hr),fun j hj=> ?_⟩
  by_cases hji:j=i
  · subst hji;exact hy.wpOp hi hM ⟨fun _=>hM,H⟩
  ·
   have h1:=H.2 j (ready_mono hj hji)
   obtain⟨hjun,oj,hoj,hall⟩:=mem_ready.1 hj
   have hi0:=(mem_ready.1 hr).1
   have unl: ∀q,listed.getD q true=false→ ∀e∈oj.after,Region.binds md e=true→e.on≠q:=fun q hq e he hb heq=>by
    have h1:=hall e he hb
    rw[heq]at h1
    rcases Nat.lt_or_ge q listed.size with h'|h'
    · simp[h']at hq h1;rw[hq]at h1;cases h1
    · simp[Array.getElem?_eq_none h']at h1
   have hnot: ∀e∈oj.after,Region.binds md e=true→e.on≠i:=unl i hi0
   have hjds:j∉ds:=fun hm=>by
    obtain⟨e,he,hb,hon|hon⟩:=hds j hm oj hoj
    · exact hnot e he hb hon
    · exact unl e.on (hund _ hon) e he hb rfl
   have hjsp:j∉sp:=fun hm=>hjds (hsub j hm)
   have h2:=wpOp_putIf hoj (hfree j oj hoj hji hjun hnot) (fun cs b=>hsel i oi cs b hi) (fun cs b=>hsel j oj cs b hoj) hQ hy h1
   have hfree': ∀k ok,ops[k]? =some ok→k≠i→(listed.setIfInBounds j true).getD k true=false→
     (∀e∈ok.after,Region.binds md e=true→e.on≠i)→oi.apart ops ok=true:=fun k ok hk hki hun hno=>by
    refine hfree k ok hk hki ?_ hno
    by_cases hjk:j=k
    · subst hjk;exact hjun
    · rw[getD_set_ne true hjk]at hun;exact hun
   have hund': ∀d∈ds,(listed.setIfInBounds j true).getD d true=false:=fun d hd=>by
    have hjd:j≠d:=fun h=>hjds (h▸hd)
    rw[getD_set_ne true hjd]
    exact hund d hd
   refine wpOp_mono (fun a' w' h3=> ?_) h2
   have hns':z0r sp (listed.setIfInBounds j true)=false:=by rw[z2e hjsp];exact hns
   have hM':M w':=h3.2.1 (by rw[z2e hjsp,z2e hisp];exact hns)
   refine⟨fun _=>hM',ih (listed.setIfInBounds j true) a' w' hund' hfree' (ready_mono hr (Ne.symm hji)) h3.1 hns' hM' ?_⟩
   rw[Array.setIfInBounds_comm _ _ hji]
   exact h3.2.2
end
def zhu(l:List Oper)(acc:List Nat)(j:Nat):List Nat:=match l with
 |[]=>acc
 |o::r=>zhu r (bif o.after.any (fun e=>Region.binds .any e&&z2w e.on acc)&& !(z2w j acc)then j::acc else acc) (j+1)
def j2d(i:Nat):List Nat→List Nat
 |[]=>[]
 |x::r=>bif Nat.beq x i then j2d i r else x::j2d i r
def j61(ops:Array Oper)(i:Nat):List Nat:=j2d i (zhu ops.toList (zhu ops.toList [i] 0) 0)
def zpo(ops:Array Oper)(sp:List Nat)(listed:Array Bool)(i:Nat):Bool:=
 (Region.ready .any ops listed).contains i&&Region.free .any ops listed i&&Region.noSelect ops&& !(z0r sp listed)&& !(z2w i sp)&&
  (let ds:=j61 ops i
   sp.all (fun s=>z2w s ds)&&ds.all fun d=> !(listed.getD d true)&&match ops[d]? with
   |some od=>od.after.any fun e=>Region.binds .any e&&(Nat.beq e.on i||z2w e.on ds)
   |none=>true)
section
variable{P:Program}{ops:Array Oper}{Q:Exit→Act→World→Prop}{sp:List Nat}{O0:Own}{nl0:Nat}{V0:Vw}{fuel:Nat}{listed:List Bool}{o:Oper}{n:Nat}{F:z05}{C:List Nat}{O:Own}{nl:Nat}{V:Vw}
theorem zge{i:Nat}(h:zpo ops sp listed.toArray i=true):i∈Region.ready .any ops listed.toArray∧Region.free .any ops listed.toArray i=true∧Region.noSelect ops=true∧z0r sp listed.toArray=false∧i∉sp∧
  ∃ds:List Nat,(∀s∈sp,s∈ds)∧(∀d∈ds,listed.toArray.getD d true=false)∧ ∀d∈ds,∀od,ops[d]? =some od→ ∃e∈od.after,Region.binds .any e=true∧(e.on=i∨e.on∈ds):=by
 simp only[zpo,Bool.and_eq_true,Bool.not_eq_true',List.all_eq_true]at h
 obtain⟨⟨⟨⟨⟨h1,h2⟩,h3⟩,h4⟩,h5⟩,h6,h7⟩:=h
 refine⟨by simpa using h1,h2,h3,h4,fun hm=> ?_,j61 ops i,fun s hs=>z3i.1 (h6 s hs),fun d hd=>(h7 d hd).1,fun d hd od hod=> ?_⟩
 · rw[z3i.2 hm]at h5;cases h5
 ·
  have:=(h7 d hd).2
  rw[hod]at this
  obtain⟨e,he,hb⟩:=Array.any_eq_true'.1 this
  simp only[Bool.and_eq_true,Bool.or_eq_true,Nat.beq_eq,z3i]at hb
  exact⟨e,he,hb.1,hb.2⟩
theorem zpy(i:Nat){p:List (Nat×Bool)}{g:Bool}{C':List Nat}{s:SV}{d:Nat}(hi:ops[i]? =some o)
  (htk:zpo ops sp listed.toArray i=true)
  (hg:gd ops F C o.guard=some (p,g,C')) (hd:o.dst=some d) (hc:(Nat.blt d n&& !(z2w d C'))=true)
  (hy:Yld P o n F C' O0 nl V p g s) (hs:s.ok nl=true)
  (next:TJ P ops Q sp O0 fuel (z4w listed i) n ((d,⟨p,g,s⟩)::F) C' O nl V):TJ P ops Q sp O0 (fuel+1) listed n F C O nl V:=by
 obtain⟨hr,hfr,hsel,hns,hisp,ds,hsub,hund,hds⟩:=zge htk
 constructor
 intro E a w hdf hf hm hm0
 obtain⟨h1,h2,h3,h4⟩:=z18 hf hg
 simp only[Bool.and_eq_true,z0e,Bool.not_eq_true']at hc
 refine z9y (v:=if g then s.den E else undef) ds hi (Region.noSelect_spec hsel) (fun c a w h=>h.elim) hisp hsub hds fuel listed.toArray a w hund (Region.free_spec hi hfr) hr ?_ hns hm0 ?_
 ·
  cases g with
  |true=>
   refine .inl ⟨h1,fun w' hm'=> ?_⟩
   have:=(hy rfl E a w' h2 h3.symm hm').1
   simpa[Yv]using this
  |false=>exact .inr ⟨h1,by simp⟩
 ·
  rw[←z7p,hd]
  exact next.out E _ w (by simp[Act.put,hdf]) (Frm.put (p:=p) (g:=g) h2 hc.1 hc.2 h3 h4 (fun _=>hs)) hm hm0
theorem z92(i:Nat){p:List (Nat×Bool)}{g:Bool}{C':List Nat}{s:SV}{d:Nat}(hi:ops[i]? =some o)
  (htk:zpo ops sp listed.toArray i=true)
  (hg:gd ops F C o.guard=some (p,g,C')) (hd:o.dst=some d) (hc:(Nat.blt d n&& !(z2w d C'))=true) (hn:Nat.ble nl0 nl=true)
  (hy:Yld P o n F C' O0 nl V0 p g s) (hs:s.ok nl=true)
  (next:HJ P ops Q sp O0 nl0 V0 fuel (z4w listed i) n ((d,⟨p,g,s⟩)::F) C' O nl V):HJ P ops Q sp O0 nl0 V0 (fuel+1) listed n F C O nl V:=by
 obtain⟨hr,hfr,hsel,hns,hisp,ds,hsub,hund,hds⟩:=zge htk
 constructor
 intro E0 E a w hag hdf hf hm hM
 obtain⟨h1,h2,h3,h4⟩:=z18 hf hg
 simp only[Bool.and_eq_true,z0e,Bool.not_eq_true']at hc
 refine z9y (v:=if g then s.den E else undef) ds hi (Region.noSelect_spec hsel) (fun c a w h=>h.elim) hisp hsub hds fuel listed.toArray a w hund (Region.free_spec hi hfr) hr ?_ hns (hM hns) ?_
 ·
  cases g with
  |true=>
   refine .inl ⟨h1,fun w' hm'=> ?_⟩
   have:=(hy rfl E a w' h2 h3.symm (hm'.fwd hag (by simpa using hn))).1
   simpa[Yv]using this
  |false=>exact .inr ⟨h1,by simp⟩
 ·
  rw[←z7p,hd]
  exact next.out E0 E _ w hag (by simp[Act.put,hdf]) (Frm.put (p:=p) (g:=g) h2 hc.1 hc.2 h3 h4 (fun _=>hs)) hm fun _=>hM hns
end
end Go.Eng
