/-
 Arrays in memory of one's own; calls that come back with new blocks, or write a receiver; regions whose last store reads what stood.
-/
import Derived.Test.YtkoiogkdiifgfaaGreatEng23
set_option linter.unusedSimpArgs false
set_option linter.unusedVariables false
namespace Go.Eng
open Go Go.RowKit
section
variable{P:Program}{tt:List (Nat×TI)}{o:Oper}{n:Nat}{F:z05}{C:List Nat}{O:Own}{nl:Nat}{V:Vw}
theorem Mem.newBlk{E:Env}{w w':World}(hm:Mem E O nl V w)(hb:Below w.heap.size w w'){b:Nat}(hsz:w.heap.size≤b){cs:List A}{e:Nat}(hok:z0z nl cs=true)
  (hv:w'.heap[b]? =some (.cells (cs.map (A.den E)).toArray e (0,0))):Mem (E.setρ nl b) ((nl, .lit cs e)::O) (nl+1) V w':=by
 have hag:E.agree nl (E.setρ nl b):=E.agree_setρ _
 have hk:=hm.keep hb
 have hold: ∀{l c},lk ((nl,Cel.lit cs e)::O) l=some c→l≠nl→lk O l=some c:=by
  intro l c hl hne
  rwa [z22 _ _ (fun x=>hne x.symm)]at hl
 have hnew: ∀{c},lk ((nl,Cel.lit cs e)::O) nl=some c→c= .lit cs e:=by
  intro c hl
  rw[z0f]at hl
  exact(Option.some.inj hl).symm
 have hnewb:(E.setρ nl b).ρ nl=b:=by simp[Env.setρ]
 have hbold: ∀{l c k},lk O l=some c→blk (E.setρ nl b) l c=some k→blk E l c=some k:=by
  intro l c k hl hb
  rwa [z1p hag (hm.lab _ _ hl)]at hb
 refine⟨?_, ?_, ?_,hk.get, ?_,hk.os,hk.tape,hk.output, ?_, ?_, ?_, ?_, ?_⟩
 ·
  intro l cs' e' hl
  by_cases h:l=nl
  ·
   subst h
   cases hnew hl
   rw[hnewb,A.map_agree hag hok]
   exact hv
  ·
   have hl':=hold hl h
   have:=hk.lit l cs' e' hl'
   rw[(hag l (hm.lab _ _ hl')).1,A.map_agree hag (hm.labs _ _ _ hl')]
   exact this
 ·
  intro l e' sz m xs hl
  by_cases h:l=nl
  · subst h;cases hnew hl
  ·
   have hl':=hold hl h
   rw[(hag l (hm.lab _ _ hl')).2]
   exact hk.row _ _ _ _ _ hl'
 ·
  intro l l' c c' k hl hl' hb hb'
  by_cases h:l=nl
  ·
   by_cases h':l'=nl
   · rw[h,h']
   ·
    exfalso
    subst h
    cases hnew hl
    have hlt:=hm.lt (hold hl' h') (hbold (hold hl' h') hb')
    simp only[blk,hnewb,Option.some.injEq]at hb
    omega
  ·
   by_cases h':l'=nl
   ·
    exfalso
    subst h'
    cases hnew hl'
    have hlt:=hm.lt (hold hl h) (hbold (hold hl h) hb)
    simp only[blk,hnewb,Option.some.injEq]at hb'
    omega
   · exact hm.sep l l' c c' k (hold hl h) (hold hl' h') (hbold (hold hl h) hb) (hbold (hold hl' h') hb')
 ·
  intro l c k hl hb
  by_cases h:l=nl
  ·
   subst h
   cases hnew hl
   simp only[blk,hnewb,Option.some.injEq]at hb
   subst hb
   cases hv:V.get b with
   |none=>rfl
   |some o=>
    have:=(Array.getElem?_eq_some_iff.1 (hm.get _ _ hv)).1
    omega
  · exact hm.off l c k (hold hl h) (hbold (hold hl h) hb)
 ·
  intro l c hl
  by_cases h:l=nl
  · omega
  · have:=hm.lab _ _ (hold hl h);omega
 ·
  intro l cs' e' hl
  by_cases h:l=nl
  ·
   subst h
   cases hnew hl
   exact z15 (by omega) hok
  · exact z15 (by omega) (hm.labs _ _ _ (hold hl h))
 ·
  intro l m b hl
  by_cases h:l=nl
  · subst h;cases hnew hl
  ·
   obtain⟨h1,h2⟩:=hm.pin _ _ _ (hold hl h)
   exact⟨(hag m h2).1.trans h1,by omega⟩
 ·
  intro l k hl
  by_cases h:l=nl
  · subst h;cases hnew hl
  · exact hk.big _ _ (hold hl h)
 ·
  intro l m b v hl
  by_cases h:l=nl
  · subst h;cases hnew hl
  ·
   obtain⟨h1,h2,h3⟩:=hm.kp _ _ _ _ (hold hl h)
   exact⟨(hag m h3).1.trans h1,(hag m h3).2.trans h2,by omega⟩
theorem j2g{p:List (Nat×Bool)}{f:Nat}{ss:List SV}{σ:Type}(Φ:σ→Prop)(vs:σ→List Value)(e:Nat)(hv:z4i F p o.op=some (f,ss))(hok:z0j P f)
  (hcall: ∀E w,Mem E O nl V w→Calls P f (ss.map (SV.den E)).toArray w fun ex w'=> ∃x b,ex= .returned (.pointer (some ⟨b,0,none⟩))∧w.heap.size≤b∧w'.heap[b]? =some (.cells (vs x).toArray e (0,0))∧Below w.heap.size w w'∧Φ x):
  StepTo P o p n F C O nl V Φ (fun _=> .a (.ptr nl 0)) (fun x=>(nl, .lit ((vs x).map .v) e)::O) (nl+1) (fun _=>V):=by
 constructor
 intro E a w hf hgv hm K Q hK
 obtain⟨hr,_⟩:=z1b hf hgv hv hok w
 unfold Oper.wp
 rw[hr,Oper.upon_enter]
 refine(hcall E w hm).mono ?_
 rintro ex w' ⟨x,b,rfl,hsz,hget,hb,hΦ⟩
 have hd:=z13 E (vs x)
 have:=hK x (E.setρ nl b) w' hΦ (E.agree_setρ b) (hm.newBlk hb hsz (hd.2 nl) (by rw[hd.1];exact hget)) (by simp[SV.ok,A.ok,z0e])
 show K (a.put o.dst _) w'
 simpa[SV.den,A.den,Env.setρ]using this
theorem zky{p:List (Nat×Bool)}{f:Nat}{ss:List SV}{σ:Type}(Φ:σ→Prop)(s:σ→SV)(l e:Nat){cs:List A}(cs':σ→List A)(hv:z4i F p o.op=some (f,ss))(hok:z0j P f)
  (hl:lk O l=some (.lit cs e)) (hcs: ∀x,z0z nl (cs' x)=true) (hs: ∀x,(s x).ok nl=true)
  (hcall: ∀E w,Mem E O nl V w→w.heap[E.ρ l]? =some (.cells (cs.map (A.den E)).toArray e (0,0))→Calls P f (ss.map (SV.den E)).toArray w fun ex w'=> ∃x,ex= .returned ((s x).den E)∧Touch (· =E.ρ l) w w'∧
   w'.heap[E.ρ l]? =some (.cells ((cs' x).map (A.den E)).toArray e (0,0))∧Φ x):
  StepTo P o p n F C O nl V Φ s (fun x=>(l, .lit (cs' x) e)::O) nl (fun _=>V):=by
 constructor
 intro E a w hf hgv hm K Q hK
 obtain⟨hr,_⟩:=z1b hf hgv hv hok w
 unfold Oper.wp
 rw[hr,Oper.upon_enter]
 refine(hcall E w hm (hm.lit _ _ _ hl)).mono ?_
 rintro ex w' ⟨x,rfl,ht,hget,hΦ⟩
 exact hK x E w' hΦ (fun _ _=>⟨rfl,rfl⟩) (hm.regive hl (hcs x) ht hget)<|hs x
theorem Mem.leDel{E:Env}{w:World}(hm:Mem E O nl V w){l e:Nat}{cs:List A}(hl:lk O l=some (.lit cs e)):V.le ((vw w).del (E.ρ l)):=by
 refine⟨fun k ob hk=> ?_,hm.os,hm.tape,hm.output⟩
 show(if _ then _ else _)=_
 by_cases h:k=E.ρ l
 ·
  have:=hm.off l _ (E.ρ l) hl rfl
  rw[←h,hk]at this
  cases this
 · rw[if_neg h];exact hm.get k ob hk
/-! Arrays. -/
def zq7(tt:List (Nat×TI))(F:z05)(p:List (Nat×Bool)):Op→Option (Nat×Nat×Int×Nat×Nat)
 | .indexAddr t x i=>match opv F p x,opv F p i,lk tt t with
  |some (.a (.ptr l off)),some (.a (.v (.int _ k))),some ⟨_,_,_,_, .arr m e⟩=>match lk tt e with
   |some ti=>some (l,off,k,m,ti.size)
   |none=>none
  |_,_,_=>none
 |_=>none
theorem z9l(htt:z0s P tt){p:List (Nat×Bool)}{g:Bool}{l off m sz:Nat}{i:Int}(k:Nat)(hv:zq7 tt F p o.op=some (l,off,i,m,sz))(hk:off+i.toNat*sz=k)(hi:g=true→0≤i∧i<m):
  Yld P o n F C O nl V p g (.a (.ptr l k)):=by
 subst hk
 intro hgt E a w hf hgv hm
 unfold Yv execOp
 cases hop:o.op with
 |indexAddr t x ix=>
  simp only[hop,zq7]at hv
  split at hv
  ·
   rename_i l' off' kk k sz' by_ z fl m' e hx hix hti
   split at hv
   ·
    rename_i ti hte
    simp only[Option.some.injEq,Prod.mk.injEq]at hv
    obtain⟨rfl,rfl,rfl,rfl,rfl⟩:=hv
    obtain⟨h1,hok⟩:=z03 hf hgv hx
    obtain⟨h2,_⟩:=z03 hf hgv hix
    obtain⟨dd,hdd,hk,_⟩:=(htt _ _ hti).und
    have hdb:dd= .array m' e:=by cases dd<;>simp[z19]at hk;rw[hk.1,hk.2]
    subst hdb
    obtain⟨hi0,hi1⟩:=hi hgt
    refine⟨?_,hok⟩
    simp[h1,h2,SV.den,A.den,Instr.indexAt,asIntOf,run_underlying hdd,hi0,hi1,(htt _ _ hte).sizeOf,Instr.sureAddr,Addr.add_lit]
   · simp at hv
  · simp at hv
 |_=>simp[hop,zq7]at hv
def zu1(tt:List (Nat×TI))(F:z05)(p:List (Nat×Bool)):Op→Option (Nat×Nat)
 | .load t x=>match opv F p x,lk tt t with
  |some (.a (.ptr l off)),some ti=>bif Nat.beq ti.size 1&& !ti.agg then some (l,off)else none
  |_,_=>none
 |_=>none
theorem zka(htt:z0s P tt){p:List (Nat×Bool)}{g:Bool}{l off e:Nat}{cs:List A}{x:A}(hv:zu1 tt F p o.op=some (l,off))(hl:lk O l=some (.lit cs e))(hx:g=true→cs[off]? =some x):
  Yld P o n F C O nl V p g (.a x):=by
 intro hgt E a w hf hgv hm
 unfold Yv execOp
 cases hop:o.op with
 |load t y=>
  simp only[hop,zu1]at hv
  split at hv
  ·
   rename_i l' off' ti hy hti
   cases hc:(Nat.beq ti.size 1&& !ti.agg)with
   |false=>simp[hc]at hv
   |true=>
    simp only[hc,cond_true,Option.some.injEq,Prod.mk.injEq]at hv
    obtain⟨rfl,rfl⟩:=hv
    simp only[Bool.and_eq_true,Nat.beq_eq,Bool.not_eq_true']at hc
    obtain⟨h1,_⟩:=z03 hf hgv hy
    have hb:=hm.lit _ _ _ hl
    have hx':=hx hgt
    have hlt:off'<cs.length:=(List.getElem?_eq_some_iff.1 hx').1
    refine⟨?_,z0o.1 (hm.labs _ _ _ hl) x (List.mem_of_getElem? hx')⟩
    have hr:=z5d (P:=P) (t:=t) (htt _ _ hti) (off:=off') hb (by simp;omega) (x.den E) (by rw[hc.2];simp[hx']) (fun _=>by simpa using hlt)
    have h1':a.eval y= .pointer (some ⟨E.ρ l',off',none⟩):=h1
    simp only[h1',Sem.run_bind,hr,Result.andThen_ok,Sem.run_pure,SV.den]
  · simp at hv
 |_=>simp[hop,zu1]at hv
def zr7(tt:List (Nat×TI))(F:z05)(p:List (Nat×Bool)):Op→Option (Nat×Nat×Value)
 | .store t y x=>match opv F p y,opv F p x,lk tt t with
  |some (.a (.ptr l off)),some (.a (.v v)),some ti=>bif Nat.beq ti.size 1&& !ti.agg then some (l,off,v)else none
  |_,_,_=>none
 |_=>none
theorem j6e(htt:z0s P tt){p:List (Nat×Bool)}{l off e:Nat}{cs:List A}{v:Value}(hv:zr7 tt F p o.op=some (l,off,v))(hl:lk O l=some (.lit cs e))(h1:v.oneCell'=true)(hlt:off<cs.length):
  StepTo P o p n F C O nl V (σ:=Unit) (fun _=>True) (fun _=> .a (.v undef)) (fun _=>(l, .lit (cs.set off (.v v)) e)::O) nl (fun _=>V):=by
 constructor
 intro E a w hf hgv hm K Q hK
 unfold Oper.wp execOp
 cases hop:o.op with
 |store t y x=>
  simp only[hop,zr7]at hv
  split at hv
  ·
   rename_i l' off' v' ti hy hx hti
   cases hc:(Nat.beq ti.size 1&& !ti.agg)with
   |false=>simp[hc]at hv
   |true=>
    simp only[hc,cond_true,Option.some.injEq,Prod.mk.injEq]at hv
    obtain⟨rfl,rfl,rfl⟩:=hv
    simp only[Bool.and_eq_true,Nat.beq_eq,Bool.not_eq_true']at hc
    obtain⟨e1,_⟩:=z03 hf hgv hy
    obtain⟨e2,_⟩:=z03 hf hgv hx
    have hst:=run_storeCells_at P (E.ρ l') off' e [v'] 0 (cs.map (A.den E)).toArray w (hm.lit _ _ _ hl) (by simp;omega) (by simpa using h1)
    have e1':a.eval y= .pointer (some ⟨E.ρ l',off',none⟩):=e1
    have e2':a.eval x=v':=e2
    have hcl:v'.cells= #[v']:=by cases v'<;>first|rfl|simp[Value.oneCell']at h1
    have hres:((cs.map (A.den E)).toArray.toList.take (off'+0)++[v']++(cs.map (A.den E)).toArray.toList.drop (off'+0+[v'].length)).toArray=((cs.set off' (.v v')).map (A.den E)).toArray:=by
     rw[List.set_eq_take_append_cons_drop]
     simp[hlt,List.map_take,List.map_drop,A.den]
    rw[hres]at hst
    simp only[e1',e2',Instr.storeAt,Instr.sureAddr,storeVar,Sem.run_bind,Sem.run_pure,Result.andThen_ok,(htt _ _ hti).sizeOf,hcl,List.size_toArray,List.length_singleton,hc.1,ne_eq,not_true_eq_false,if_false,hst]
    have hok:z0z nl (cs.set off' (.v v'))=true:=by
     apply z0o.2
     intro y hy
     rcases List.mem_or_eq_of_mem_set hy with h|h
     · exact z0o.1 (hm.labs _ _ _ hl) y h
     · rw[h];rfl
    have:=hK () E _ trivial (fun _ _=>⟨rfl,rfl⟩) (hm.set hl hok) rfl
    show K (a.put o.dst undef) _
    exact this
  · simp at hv
 |_=>simp[hop,zr7]at hv
theorem j2r{Q:Exit→Act→World→Prop}{id:Nat}{l:List Oper}{O0:Own}(sp:List Nat)(hmix:P.follows .mixedOrders=true)
  (ho:z8l O [] []=some O0) (hO:z3b O O0) (hok:z0u nl O0=true)
  (h:TJ P l.toArray Q sp O0 l.length (List.replicate l.length false) n F C O nl V):KJ ((Code.region id l.toArray true).wp P Q) n F C O nl V:=
 zdl sp O0 hmix hO hok h
end
end Go.Eng
