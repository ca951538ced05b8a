/-
 Calls that write a block and leave a fresh row in it; stores into memory that the view has.
-/
import Derived.Test.YtkoiogkdiifgfaaGreatEng24
import Derived.Laws.IdiomCopy
set_option linter.unusedSimpArgs false
set_option linter.unusedVariables false
namespace Go.Eng
open Go Go.RowKit
section
variable{P:Program}{tt:List (Nat×TI)}{o:Oper}{n:Nat}{F:z05}{C:List Nat}{O:Own}{nl:Nat}{V:Vw}
theorem Mem.regiveRow{E:Env}{w w':World}(hm:Mem E O nl V w){l e0:Nat}{cs cs':List A}(hl:lk O l=some (.lit cs e0))(ht:Touch (· =E.ρ l) w w')
  {e sz m:Nat} {xs:List Value} {v:Value} (hown:w'.ownsRow w.heap.size e sz v m xs) (hok:z0z (nl+1) cs'=true)
  (hv:w'.heap[E.ρ l]? =some (.cells (cs'.map (A.den (E.setκ nl v))).toArray e0 (0,0))):Mem (E.setκ nl v) ((l, .lit cs' e0)::(nl, .row e sz m xs)::O) (nl+1) V w':=by
 have h0:=hm.lit _ _ _ hl
 have hlt:E.ρ l<w.heap.size:=(Array.getElem?_eq_some_iff.1 h0).1
 have hb:Below w.heap.size w (w'.setRow (E.ρ l) (cs.map (A.den E)).toArray):=by
  refine⟨ht.os,ht.tape,ht.output,by simpa using ht.size,fun k hk=> ?_⟩
  by_cases hkl:k=E.ρ l
  · subst hkl;rw[setRow_heap w' _ _ _ _ _ hv,h0]
  · rw[setRow_other w' _ _ _ hkl];exact ht.block k hk hkl
 have hown0:(w'.setRow (E.ρ l) (cs.map (A.den E)).toArray).ownsRow w.heap.size e sz v m xs:=
  z1n hown fun k hk=>setRow_other w' _ _ _ (fun h=>by have:=(hown.lt k hk).1;omega)
 have hl1:lk ((nl,Cel.row e sz m xs)::O) l=some (.lit cs e0):=by
  rw[z22 _ _ (fun h=>by have:=hm.lab _ _ hl;omega)];exact hl
 have:=(hm.newRow hb hown0).set (cs':=cs') hl1 hok
 rwa [show(E.setκ nl v).ρ l=E.ρ l from rfl,setRow_setRow,z96 hv]at this
theorem zw9{p:List (Nat×Bool)}{f:Nat}{ss:List SV}{σ:Type}(Φ:σ→Prop)(s:σ→SV)(l e0 e sz:Nat)(m:σ→Nat)(xs:σ→List Value){cs:List A}(cs':σ→List A)(hv:z4i F p o.op=some (f,ss))(hok:z0j P f)
  (hl:lk O l=some (.lit cs e0)) (hcs: ∀x,z0z (nl+1) (cs' x)=true) (hs: ∀x,(s x).ok (nl+1)=true)
  (hcall: ∀E w,Mem E O nl V w→w.heap[E.ρ l]? =some (.cells (cs.map (A.den E)).toArray e0 (0,0))→Calls P f (ss.map (SV.den E)).toArray w fun ex w'=> ∃x v,ex= .returned ((s x).den (E.setκ nl v))∧Touch (· =E.ρ l) w w'∧
   w'.ownsRow w.heap.size e sz v (m x) (xs x)∧w'.heap[E.ρ l]? =some (.cells ((cs' x).map (A.den (E.setκ nl v))).toArray e0 (0,0))∧Φ x):
  StepTo P o p n F C O nl V Φ s (fun x=>(l, .lit (cs' x) e0)::(nl, .row e sz (m x) (xs x))::O) (nl+1) (fun _=>V):=by
 constructor
 intro E a w hf hgv hm K Q hK
 obtain⟨hr,_⟩:=z1b hf hgv hv hok w
 unfold Oper.wp
 rw[hr,Oper.upon_enter]
 refine(hcall E w hm (hm.lit _ _ _ hl)).mono ?_
 rintro ex w' ⟨x,v,rfl,ht,hown,hget,hΦ⟩
 exact hK x _ w' hΦ (Env.agree_setκ E v) (hm.regiveRow hl ht hown (hcs x) hget)<|hs x
theorem z14(htt:z0s P tt){p:List (Nat×Bool)}{g:Bool}{v:Value}{i:Int}{sz m:Nat}{xs:List Value}(k:Nat)
  (hv:zmp tt F p o.op=some (v,i,sz)) (hk:i.toNat*sz=k) (hs:g=true→z7i V v sz m xs) (hi:g=true→0≤i∧i<m):Yld P o n F C O nl V p g (.a (.el v k)):=by
 subst hk
 exact z0c htt hv hs hi
theorem z2j{p:List (Nat×Bool)}{f:Nat}{ss:List SV}(e sz m:Nat)(xs:List Value)(hv:z4i F p o.op=some (f,ss))(hok:z0j P f)
  (hcall: ∀E w,Mem E O nl V w→Calls P f (ss.map (SV.den E)).toArray w fun ex w'=> ∃v,ex= .returned v∧w'.ownsRow w.heap.size e sz v m xs∧Below w.heap.size w w'):
  StepTo P o p n F C O nl V (σ:=Unit) (fun _=>True) (fun _=> .a (.row nl)) (fun _=>(nl, .row e sz m xs)::O) (nl+1) (fun _=>V):=
 ze5 (fun _=>True) (fun _=> .a (.row nl)) e sz (fun _=>m) (fun _=>xs) hv hok (fun _=>by simp[SV.ok,A.ok,z0e]) fun E w hm=>(hcall E w hm).mono fun ex w' ⟨v,he,h1,h2⟩=>
  ⟨(),v,by rw[he];simp[SV.den,A.den,Env.setκ],h1,h2,trivial⟩
theorem Mem.rowOfDel{α:Type}{enc:α→List Value}{E:Env}{w:World}(hm:Mem E O nl V w){l e e0 sz:Nat}{cs:List A}{L:List α}(r:Nat)(hl:lk O l=some (.lit cs e0))(hr:lk O r=some (.row e sz L.length (L.flatMap enc)))
  (he: ∀x,(enc x).length=sz):SlOf ((vw w).del (E.ρ l)) enc sz (E.κ r) L:=by
 refine⟨z38 (hm.row _ _ _ _ _ hr) (fun k hk=> ?_),he⟩
 show(if _ then _ else _)=_
 rw[if_neg]
 · rfl
 ·
  intro h
  have:=hm.sep r l _ _ k hr hl (by simpa[blk]using hk) (by simp[blk,h])
  subst this
  rw[hl]at hr
  cases hr
theorem Mem.rowFreshD{E:Env}{w w':World}{b:Nat}(hm:Mem E O nl V w')(hle:((vw w).del b).le V){l0 e0:Nat}{cs:List A}(h0:lk O l0=some (.lit cs e0))(hb:E.ρ l0=b){l e sz m:Nat}{xs:List Value}(hl:lk O l=some (.row e sz m xs)):
  w'.ownsRow w.heap.size e sz (E.κ l) m xs:=by
 have hr:=hm.row _ _ _ _ _ hl
 refine⟨hr.1, ?_⟩
 rcases hr.2 with h|⟨g,cap,cur,h1,_,h2⟩
 · exact .inl h
 ·
  refine .inr ⟨g,cap,cur,h1, ?_,h2⟩
  have hbk:blk E l (.row e sz m xs)=some g:=by simp[blk,h1,Value.ownBlock]
  have hoff:=hm.off l _ g hl hbk
  have hne:g≠b:=fun h=>by
   have:=hm.sep l l0 _ _ g hl h0 hbk (by simp[blk,hb,h])
   subst this
   rw[h0]at hl
   cases hl
  rcases Nat.lt_or_ge g w.heap.size with hlt|hge
  ·
   have:((vw w).del b).get g=some w.heap[g]:=by
    show(if _ then _ else _)=_
    rw[if_neg hne]
    simp[vw,hlt]
   rw[hle.get _ _ this]at hoff
   cases hoff
  · exact hge
def zqt(tt:List (Nat×TI))(F:z05)(p:List (Nat×Bool)):Op→Option (Value×Nat×Value)
 | .store t y x=>match opv F p y,opv F p x,lk tt t with
  |some (.a (.el v k)),some (.a (.v u)),some ti=>bif Nat.beq ti.size 1&& !ti.agg then some (v,k,u)else none
  |_,_,_=>none
 |_=>none
theorem j6f(htt:z0s P tt){p:List (Nat×Bool)}{k b off m cap e:Nat}{cs:Array Value}{fz:Nat×Nat}{u:Value}(hv:zqt tt F p o.op=some (.slice (some ⟨b,off,none⟩) m cap,k,u))
  (hb:V.get b=some (.cells cs e fz)) (hk:off+k<cs.size) (hfz:fz.2≤off+k∨off+k<fz.1) (h1:u.oneCell'=true):
  StepTo P o p n F C O nl V (σ:=Unit) (fun _=>True) (fun _=> .a (.v undef)) (fun _=>O) nl (fun _=>V.put b (.cells (cs.setIfInBounds (off+k) u) e fz)):=by
 constructor
 intro E a w hf hgv hm K Q hK
 unfold Oper.wp execOp
 cases hop:o.op with
 |store t y x=>
  simp only[hop,zqt]at hv
  split at hv
  ·
   rename_i v' k' u' ti hy hx hti
   cases hc:(Nat.beq ti.size 1&& !ti.agg)with
   |false=>simp[hc]at hv
   |true=>
    simp only[hc,cond_true,Option.some.injEq,Prod.mk.injEq]at hv
    obtain⟨rfl,rfl,rfl⟩:=hv
    simp only[Bool.and_eq_true,Nat.beq_eq,Bool.not_eq_true']at hc
    obtain⟨e1,_⟩:=z03 hf hgv hy
    obtain⟨e2,_⟩:=z03 hf hgv hx
    have hwb:=hm.get _ _ hb
    have e1':a.eval y= .pointer (some ⟨b,off+k',none⟩):=by
     rw[e1]
     show z9k (.slice (some ⟨b,off,none⟩) m cap) k'=_
     simp[z9k,Addr.add_lit]
    have e2':a.eval x=u':=e2
    have hcl:u'.cells= #[u']:=by cases u'<;>first|rfl|simp[Value.oneCell']at h1
    have hst:=run_storeCells_cells (P:=P) b (off+k') [u'] 0 w (fun j hj=>by
      have:j=0:=by simpa using hj
      subst this
      simp[World.cell?,hwb,hk]) (fun j hj=>by
      have:j=0:=by simpa using hj
      subst this
      obtain⟨f1,f2⟩:=fz
      simp only[World.frozen?,hwb,Nat.add_zero,Bool.and_eq_false_iff,decide_eq_false_iff_not]
      simp only at hfz
      omega) (by simpa using h1)
    simp only[Nat.add_zero,World.setCells]at hst
    simp only[e1',e2',Instr.storeAt,Instr.sureAddr,storeVar,Sem.run_bind,Sem.run_pure,Result.andThen_ok,(htt _ _ hti).sizeOf,hcl,List.size_toArray,List.length_singleton,hc.1,ne_eq,not_true_eq_false,if_false,hst]
    have hsame: ∀q,q≠b→(w.setCell ⟨b,off+k',none⟩ u').heap[q]? =w.heap[q]? :=fun q hq=>by
     simp[World.setCell,Array.getElem?_modify,Ne.symm hq]
    have hnew:(w.setCell ⟨b,off+k',none⟩ u').heap[b]? =some (.cells (cs.setIfInBounds (off+k') u') e fz):=by
     simp[World.setCell,Array.getElem?_modify,hwb]
    have hne: ∀{l c q},lk O l=some c→blk E l c=some q→q≠b:=fun{l c q} hl hq h=>by
     have:=hm.off l c q hl hq
     rw[h,hb]at this
     cases this
    have hm':Mem E O nl (V.put b (.cells (cs.setIfInBounds (off+k') u') e fz)) (w.setCell ⟨b,off+k',none⟩ u'):=by
     refine⟨?_, ?_,hm.sep, ?_, ?_,hm.os,hm.tape,hm.output,hm.lab,hm.labs,hm.pin, ?_,hm.kp⟩
     ·
      intro l cs' e' hl
      rw[hsame _ (hne hl rfl)]
      exact hm.lit _ _ _ hl
     ·
      intro l e' sz m' xs hl
      exact z1n (hm.row _ _ _ _ _ hl) fun q hq=>hsame q (hne hl (by simpa[blk]using hq))
     ·
      intro q ob hq
      by_cases hqb:q=b
      ·
       subst hqb
       have hq':(if q=q then some _ else V.get q)=some ob:=hq
       rw[if_pos rfl]at hq'
       rw[hnew];exact hq'
      ·
       have hq':(if q=b then some _ else V.get q)=some ob:=hq
       rw[if_neg hqb]at hq'
       rw[hsame q hqb]
       exact hm.get q ob hq'
     ·
      intro l c q hl hq
      show(if q=b then some _ else V.get q)=none
      rw[if_neg (hne hl hq)]
      exact hm.off l c q hl hq
     ·
      intro l q hl
      have:(w.setCell ⟨b,off+k',none⟩ u').heap.size=w.heap.size:=by simp[World.setCell]
      rw[this]
      exact hm.big l q hl
    have:=hK () E _ trivial (fun _ _=>⟨rfl,rfl⟩) hm' rfl
    show K (a.put o.dst undef) _
    exact this
  · simp at hv
 |_=>simp[hop,zqt]at hv
end
end Go.Eng
