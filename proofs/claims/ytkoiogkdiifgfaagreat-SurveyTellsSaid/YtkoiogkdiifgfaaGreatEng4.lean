/-
 Stores, the forms of code, entering and leaving a function, loops, calls.
-/
import Derived.Test.YtkoiogkdiifgfaaGreatEng3
set_option linter.unusedSimpArgs false
set_option linter.unusedVariables false
namespace Go.Eng
open Go Go.RowKit
section
variable{P:Program}{tt:List (Nat×TI)}{ops:Array Oper}{Q:Exit→Act→World→Prop}{o:Oper}{rest:List Oper}
 {n:Nat} {F:z05} {C:List Nat} {O:Own} {nl:Nat} {V:Vw} {K:Act→World→Prop}
def j3j(O:Own):A→Prop
 | .v x=>x.oneCell'=true
 | .ptr _ _=>True
 | .fn _ _=>True
 | .row l=>match lk O l with
  |some (.row _ _ _ _)=>True
  |_=>False
 | .el _ _=>False
 | .rel _ _=>False
def zc2(O:Own):List A→Prop
 |[]=>True
 |x::r=>j3j O x∧zc2 O r
theorem zos{E:Env}{w:World}(hm:Mem E O nl V w){x:A}(h:j3j O x):(x.den E).oneCell'=true:=by
 cases x with
 |v x=>exact h
 |ptr l k=>rfl
 |fn f c=>rfl
 |row l=>
  simp only[j3j]at h
  split at h
  ·
   rename_i e sz m xs hl
   have hr:=(hm.row _ _ _ _ _ hl).2
   rcases hr with⟨hv,_⟩|⟨g,cap,cur,hv,_⟩<;>simp[A.den,hv,Value.oneCell']
  · exact h.elim
 |el x k=>exact h.elim
 |rel l k=>exact h.elim
theorem z91{E:Env}{w:World}(hm:Mem E O nl V w): ∀{l:List A},zc2 O l→ ∀v∈l.map (A.den E),v.oneCell'=true
 |[],_,v,hv=>by simp at hv
 |x::r,h,v,hv=>by
  simp only[List.map_cons,List.mem_cons]at hv
  rcases hv with rfl|hv
  · exact zos hm h.1
  · exact z91 hm h.2 v hv
theorem Mem.set{E:Env}{w:World}(hm:Mem E O nl V w){l:Nat}{cs cs':List A}{e:Nat}(hl:lk O l=some (.lit cs e))(hok:z0z nl cs'=true):
  Mem E ((l, .lit cs' e)::O) nl V (w.setRow (E.ρ l) (cs'.map (A.den E)).toArray):=by
 have hb:=hm.lit _ _ _ hl
 have hot: ∀k,k≠E.ρ l→(w.setRow (E.ρ l) (cs'.map (A.den E)).toArray).heap[k]? =w.heap[k]? :=fun k hk=>setRow_other w _ k _ hk
 have hold: ∀{l' c},lk ((l,Cel.lit cs' e)::O) l'=some c→l'≠l→lk O l'=some c:=by
  intro l' c h hne
  rwa [z22 _ _ (fun x=>hne x.symm)]at h
 have hnew: ∀{c},lk ((l,Cel.lit cs' e)::O) l=some c→c= .lit cs' e:=by
  intro c h
  rw[z0f]at h
  exact(Option.some.inj h).symm
 have hany: ∀{l' c k},lk ((l,Cel.lit cs' e)::O) l'=some c→blk E l' c=some k→ ∃c',lk O l'=some c'∧blk E l' c'=some k:=by
  intro l' c k h hk
  by_cases hh:l'=l
  ·
   subst hh
   cases hnew h
   exact⟨_,hl,hk⟩
  · exact⟨c,hold h hh,hk⟩
 have hne: ∀{l' c k},lk O l'=some c→blk E l' c=some k→l'≠l→k≠E.ρ l:=by
  intro l' c k h hk hh he
  exact hh<|hm.sep l' l c _ k h hl hk (by simp[blk,he])
 refine⟨?_, ?_, ?_, ?_, ?_,hm.os,hm.tape,hm.output, ?_, ?_, ?_, ?_, ?_⟩
 ·
  intro l' cs'' e' h
  by_cases hh:l'=l
  ·
   subst hh
   cases hnew h
   exact setRow_heap w _ _ _ _ _ hb
  ·
   have h':=hold h hh
   rw[hot _ (hne h' rfl hh)]
   exact hm.lit _ _ _ h'
 ·
  intro l' e' sz m xs h
  by_cases hh:l'=l
  · subst hh;cases hnew h
  ·
   have h':=hold h hh
   exact z1n (hm.row _ _ _ _ _ h') fun k hk=>hot k (hne h' hk hh)
 ·
  intro l1 l2 c1 c2 k h1 h2 hk1 hk2
  obtain⟨c1',h1',hk1'⟩:=hany h1 hk1
  obtain⟨c2',h2',hk2'⟩:=hany h2 hk2
  exact hm.sep l1 l2 c1' c2' k h1' h2' hk1' hk2'
 ·
  intro k ob hk
  rw[hot k ?_]
  · exact hm.get k ob hk
  ·
   intro he
   have:=hm.off l _ k hl (by simp[blk,he])
   rw[hk]at this
   cases this
 ·
  intro l' c k h hk
  obtain⟨c',h',hk'⟩:=hany h hk
  exact hm.off l' c' k h' hk'
 ·
  intro l' c h
  by_cases hh:l'=l
  · subst hh;exact hm.lab _ _ hl
  · exact hm.lab _ _ (hold h hh)
 ·
  intro l' cs'' e' h
  by_cases hh:l'=l
  · subst hh;cases hnew h;exact hok
  · exact hm.labs _ _ _ (hold h hh)
 ·
  intro l' m b h
  by_cases hh:l'=l
  · subst hh;cases hnew h
  · exact hm.pin _ _ _ (hold h hh)
 ·
  intro l' k h
  by_cases hh:l'=l
  · subst hh;cases hnew h
  · simpa using hm.big _ _ (hold h hh)
 ·
  intro l' m b v h
  by_cases hh:l'=l
  · subst hh;cases hnew h
  · exact hm.kp _ _ _ _ (hold h hh)
def zgx(tt:List (Nat×TI))(F:z05)(O:Own):Op→Option (Nat×List A×Nat×List A)
 | .store t y x=>match opv F [] y,opv F [] x,lk tt t with
  |some (.a (.ptr l off)),some s,some ti=>match lk O l,zfx O s with
   |some (.lit cs e),some vs=>bif Nat.beq vs.length ti.size then(match z4x off vs cs with
    |some r=>some (l,r,e,vs)
    |none=>none)else none
   |_,_=>none
  |_,_,_=>none
 |_=>none
theorem zgn(htt:z0s P tt){l:Nat}{cs':List A}{e:Nat}{vs:List A}(hg:o.guard=none)(hd:o.dst=none)(hv:zgx tt F O o.op=some (l,cs',e,vs))(h1:zc2 O vs)
  (next:KJ (wpList P ops Q rest) n F C ((l, .lit cs' e)::O) nl V):KJ (wpList P ops Q (o::rest)) n F C O nl V:=by
 constructor
 intro E a w hdf hf hm
 have key: ∃cs,lk O l=some (.lit cs e)∧z0z nl cs'=true∧(execOp a.eval o).run P w= .ok .skip (w.setRow (E.ρ l) (cs'.map (A.den E)).toArray):=by
  unfold execOp
  cases hop:o.op with
  |store t y x=>
   simp only[hop,zgx]at hv
   split at hv
   ·
    rename_i l' off s ti hy hx hti
    obtain⟨e1,_⟩:=z03 hf (by rfl) hy
    obtain⟨e2,ok2⟩:=z03 hf (by rfl) hx
    split at hv
    ·
     rename_i cs e' vs' hlo hvs
     cases hsz:Nat.beq vs'.length ti.size with
     |false=>simp[hsz]at hv
     |true=>
      simp only[hsz,cond_true]at hv
      split at hv
      ·
       rename_i r hr
       simp only[Option.some.injEq,Prod.mk.injEq]at hv
       obtain⟨rfl,rfl,rfl,rfl⟩:=hv
       obtain⟨h3,h4⟩:=z4u hm hvs ok2
       obtain⟨h5,h6⟩:=z4r hr
       have hok:=hm.labs _ _ _ hlo
       refine⟨cs,hlo, ?_, ?_⟩
       ·
        rw[h5]
        apply z0o.2
        intro x hx
        simp only[List.append_assoc,List.mem_append]at hx
        rcases hx with hx|hx|hx
        · exact z0o.1 hok x (List.mem_of_mem_take hx)
        · exact z0o.1 h4 x hx
        · exact z0o.1 hok x (List.mem_of_mem_drop hx)
       ·
        have hst:=run_storeCells_at P (E.ρ l') off e' (vs'.map (A.den E)) 0 (cs.map (A.den E)).toArray w (hm.lit _ _ _ hlo) (by simpa using h6) (z91 hm h1)
        have e1':a.eval y= .pointer (some ⟨E.ρ l',off,none⟩):=e1
        have hsz':(s.den E).cells.size=ti.size:=by rw[h3];simpa using(Nat.beq_eq▸hsz)
        have hcl:(s.den E).cells.toList=vs'.map (A.den E):=by rw[h3]
        have hres:((cs.map (A.den E)).toArray.toList.take (off+0)++vs'.map (A.den E)++(cs.map (A.den E)).toArray.toList.drop (off+0+(vs'.map (A.den E)).length)).toArray=(r.map (A.den E)).toArray:=by
         rw[h5];simp[List.map_take,List.map_drop]
        rw[hres]at hst
        simp only[e1',e2,Instr.storeAt,Instr.sureAddr,storeVar,Sem.run_bind,Sem.run_pure,Result.andThen_ok,(htt _ _ hti).sizeOf,hsz',ne_eq,not_true_eq_false,if_false,hcl,hst]
      · simp at hv
    · simp at hv
   · simp at hv
  |_=>simp[hop,zgx]at hv
 obtain⟨cs,hlo,hok,hr⟩:=key
 unfold wpList
 rw[show Region.wanted o (yielded ops a.tmps)=true by simp[Region.wanted,hg]]
 simp only[if_true]
 left
 unfold Oper.wp
 rw[hr]
 show wpList P ops Q rest (a.put o.dst undef) _
 rw[hd]
 exact next.out E a _ hdf hf<|hm.set hlo hok
/-! Code. -/
theorem j8t{x y:Code}(h:KJ (x.wp P (Exit.then (y.wp P Q) Q)) n F C O nl V):KJ ((Code.seq x y).wp P Q) n F C O nl V:=
 ⟨fun E a w hd hf hm=>wp_seq (h.out E a w hd hf hm)⟩
theorem zob{id:Nat}{l:List Oper}(h:KJ (wpList P l.toArray Q l) n F C O nl V):KJ ((Code.region id l.toArray false).wp P Q) n F C O nl V:=
 ⟨fun E a w hd hf hm=>wp_region_lit (h.out E a w hd hf hm)⟩
theorem j1j{id:Nat}{c:Code}(h:KJ (c.wp P (Exit.inBlock id Q)) n F C O nl V):KJ ((Code.block id c).wp P Q) n F C O nl V:=
 ⟨fun E a w hd hf hm=>wp_block (h.out E a w hd hf hm)⟩
theorem j75{id:Nat}(h:KJ (Q (.exit id)) n F C O nl V):KJ ((Code.exit id).wp P Q) n F C O nl V:=
 ⟨fun E a w hd hf hm=>wp_exit (h.out E a w hd hf hm)⟩
theorem jb5(h:KJ (Q .ret) n F C O nl V):KJ (Code.ret.wp P Q) n F C O nl V:=
 ⟨fun E a w hd hf hm=>wp_ret (h.out E a w hd hf hm)⟩
theorem j7g(h:KJ (Q .normal) n F C O nl V):KJ (Code.skip.wp P Q) n F C O nl V:=
 ⟨fun E a w hd hf hm=>wp_skip (h.out E a w hd hf hm)⟩
theorem zzj{c:Operand}{x y:Code}{b:Bool}(hc:opv F [] c=some (.a (.v (.bool b))))(ht:b=true→KJ (x.wp P Q) n F C O nl V)(hf:b=false→KJ (y.wp P Q) n F C O nl V):
  KJ ((Code.cond c x y).wp P Q) n F C O nl V:=
 ⟨fun E a w hd hfr hm=>by
  have:=(z03 hfr (by rfl) hc).1
  cases b with
  |true=>exact wp_cond_true this ((ht rfl).out E a w hd hfr hm)
  |false=>exact wp_cond_false this ((hf rfl).out E a w hd hfr hm)⟩
theorem zz9(h:KJ K n F C O nl V):KJ (Exit.then K Q .normal) n F C O nl V:=⟨h.out⟩
theorem zor(h:KJ (Q .ret) n F C O nl V):KJ (Exit.then K Q .ret) n F C O nl V:=⟨h.out⟩
theorem zm5{i:Nat}(h:KJ (Q (.exit i)) n F C O nl V):KJ (Exit.then K Q (.exit i)) n F C O nl V:=⟨h.out⟩
theorem j3u{id:Nat}(h:KJ (Q .normal) n F C O nl V):KJ (Exit.inBlock id Q .normal) n F C O nl V:=⟨h.out⟩
theorem zlp{id:Nat}(h:KJ (Q .ret) n F C O nl V):KJ (Exit.inBlock id Q .ret) n F C O nl V:=⟨h.out⟩
theorem zm2{id:Nat}(h:KJ (Q .normal) n F C O nl V):KJ (Exit.inBlock id Q (.exit id)) n F C O nl V:=
 ⟨fun E a w hd hf hm=>by simp only[Exit.inBlock,if_true];exact h.out E a w hd hf hm⟩
theorem z4p{id i:Nat}(hne:Nat.beq i id=false)(h:KJ (Q (.exit i)) n F C O nl V):KJ (Exit.inBlock id Q (.exit i)) n F C O nl V:=
 ⟨fun E a w hd hf hm=>by
  have:i≠id:=fun e=>by rw[e]at hne;simp at hne
  simp only[Exit.inBlock,this,if_false];exact h.out E a w hd hf hm⟩
def zi2(F:z05):List Nat→z05→Option z05
 |[],acc=>some acc
 |t::ts,acc=>match opv F [] (.tmp t)with
  |some x=>zi2 F ts ((t,⟨[],true,x⟩)::acc)
  |none=>none
theorem zr1{t:Nat}{x:SV}(h:opv F [] (.tmp t)=some x): ∃g,lk F t=some ⟨[],g,x⟩:=by
 simp only[opv]at h
 split at h
 ·
  rename_i e he
  obtain⟨p,g,y⟩:=e
  cases p with
  |nil=>
   simp only[zzl,cond_true,Option.some.injEq]at h
   subst h
   exact⟨g,he⟩
  |cons q r=>
   obtain⟨s,b⟩:=q
   simp[zzl,zyv]at h
 · simp at h
def zq3(F F':z05):Prop:= ∀t e,lk F' t=some e→ ∃x,e=⟨[],true,x⟩∧opv F [] (.tmp t)=some x
theorem z6t: ∀(ts:List Nat) (acc F':z05),zq3 F acc→zi2 F ts acc=some F'→zq3 F F'
 |[],acc,F',ha,h=>by simp only[zi2,Option.some.injEq]at h;subst h;exact ha
 |t::ts,acc,F',ha,h=>by
  simp only[zi2]at h
  split at h
  ·
   rename_i x hx
   refine z6t ts _ F' ?_ h
   intro u e hu
   rw[z1l]at hu
   by_cases he:t=u
   ·
    subst he
    simp only[if_true,Option.some.injEq]at hu
    exact⟨x,hu.symm,hx⟩
   ·
    simp only[he,if_false]at hu
    exact ha u e hu
  · simp at h
theorem Frm.plain{E:Env}{F':z05}{tmps:Array Value}(hf:Frm E n F C nl tmps)(hp:zq3 F F'):Frm E n F' [] nl tmps:=by
 refine⟨hf.size, ?_, ?_, ?_⟩
 ·
  intro t e ht
  obtain⟨x,rfl,hx⟩:=hp t e ht
  obtain⟨g,hl⟩:=zr1 hx
  have:=hf.val t _ hl
  have hg:=(hf.wf t _ hl).1
  simp only[z61]at hg
  subst hg
  exact this
 ·
  intro t e ht
  obtain⟨x,rfl,hx⟩:=hp t e ht
  exact⟨rfl,by simp⟩
 ·
  intro t e ht _
  obtain⟨x,rfl,hx⟩:=hp t e ht
  obtain⟨g,hl⟩:=zr1 hx
  have hg:=(hf.wf t _ hl).1
  simp only[z61]at hg
  subst hg
  exact hf.labs t _ hl rfl
theorem z07(ts:List Nat){F':z05}(hk:zi2 F ts []=some F')(h:KJ (Q .normal) n F' [] O nl V):KJ (wpList P ops Q []) n F C O nl V:=
 ⟨fun E a w hd hf hm=>h.out E a w hd (hf.plain (z6t ts [] F' (fun t e h=>by simp[lk]at h) hk)) hm⟩
/-! Leaving. -/
def zku:List Value→Value
 |[v]=>v
 |l=> .tuple l.toArray
def z44(tt:List (Nat×TI))(F:z05)(O:Own):List ResultVar→Option (List SV)
 |[]=>some []
 |r::rs=>match(match r with
   | .tmp t=>opv F [] (.tmp t)
   | .cell t ty=>z3s tt F O [] (.load ty (.tmp t)))with
  |some s=>match z44 tt F O rs with
   |some l=>some (s::l)
   |none=>none
  |none=>none
theorem j1w{E:Env}{a:Act}{w:World}(htt:z0s P tt){t ty:Nat}{s:SV}(hf:Frm E n F C nl a.tmps)(hm:Mem E O nl V w)(h:z3s tt F O [] (.load ty (.tmp t))=some s):
  (do loadVar ty (←asAddr (a.tmps.getD t undef)):Sem Value).run P w= .ok (s.den E) w∧s.ok nl=true:=by
 obtain ⟨h1, h2⟩ := z90 (o := ⟨none, .load ty (.tmp t), 0, "", #[], none⟩) htt hf hm (by rfl) h
 refine⟨?_,h2⟩
 simp only[z3s]at h
 split at h
 ·
  rename_i l off hx
  have e1:=(z03 hf (by rfl) hx).1
  unfold Yv execOp at h1
  have e2:a.tmps.getD t undef= .pointer (some ⟨E.ρ l,off,none⟩):=e1
  have e3:a.eval (.tmp t)= .pointer (some ⟨E.ρ l,off,none⟩):=e1
  simp only[e3,Instr.loadAt,Instr.sureAddr,Sem.run_bind,Sem.run_pure,Result.andThen_ok]at h1
  simp only[e2,asAddr,Sem.run_bind,Sem.run_pure,Result.andThen_ok]
  cases hl:(loadVar ty ⟨E.ρ l,off,none⟩).run P w with
  |halt x w'=>simp[hl]at h1
  |ok x w'=>
   simp only[hl,Result.andThen_ok]at h1
   injection h1 with h1 h3
   injection h1 with h1
   rw[h1,h3]
 · simp at h
def zir(tmps:Array Value):ResultVar→Sem Value
 | .tmp t=>pure (tmps.getD t undef)
 | .cell a t=>do loadVar t (←asAddr (tmps.getD a undef))
theorem z75{E:Env}{a:Act}{w:World}(htt:z0s P tt)(hf:Frm E n F C nl a.tmps)(hm:Mem E O nl V w):
  ∀{rs:List ResultVar} {ss:List SV},z44 tt F O rs=some ss→
   (rs.mapM (zir a.tmps)).run P w= .ok (ss.map (SV.den E)) w∧ ∀s∈ss,s.ok nl=true
 |[],ss,h=>by simp[z44]at h;subst h;simp
 |r::rs,ss,h=>by
  simp only[z44]at h
  split at h
  ·
   rename_i s hs
   split at h
   ·
    rename_i l hl
    simp only[Option.some.injEq]at h
    subst h
    obtain⟨ih1,ih2⟩:=z75 htt hf hm hl
    have hr:(zir a.tmps r).run P w= .ok (s.den E) w∧s.ok nl=true:=by
     cases r with
     |tmp t=>
      obtain⟨h1,h2⟩:=z03 hf (by rfl) hs
      exact⟨by simp only[zir,Sem.run_pure];congr 1,h2⟩
     |cell t ty=>exact j1w htt hf hm hs
    refine⟨?_, ?_⟩
    · simp only[List.mapM_cons,Sem.run_bind,hr.1,Result.andThen_ok,ih1,Sem.run_pure,List.map_cons]
    ·
     intro x hx
     rcases List.mem_cons.1 hx with rfl|hx
     · exact hr.2
     · exact ih2 x hx
   · simp at h
  · simp at h
theorem zu2(htt:z0s P tt){fn:Func}{R:Ending→World→Prop}{ss:List SV}(hr:z44 tt F O fn.results.toList=some ss)
  (h: ∀E w,Mem E O nl V w→(∀s∈ss,s.ok nl=true)→R (.returned (zku (ss.map (SV.den E)))) w) (e:Exit) (he:e= .normal∨e= .ret):KJ (bodyPost P fn R e) n F C O nl V:=by
 constructor
 intro E a w hd hf hm
 obtain⟨h1,h2⟩:=z75 htt hf hm hr
 have h3:(results fn a.tmps).run P w= .ok (zku (ss.map (SV.den E))) w:=by
  unfold results
  rw[show fn.results=fn.results.toList.toArray by simp]
  have h1':=h1
  unfold zir at h1'
  simp only[List.mapM_toArray,Sem.run_bind,Sem.run_map]
  erw [h1']
  simp only[Result.andThen_ok,Sem.run_pure]
  congr 1
  generalize ss.map (SV.den E)=l
  match l with
  |[]=>rfl
  |[v]=>rfl
  |v::u::r=>simp[zku]
 rcases he with rfl|rfl
 · exact⟨hd,_,h3,h E w hm h2⟩
 · exact⟨hd,_,h3,h E w hm h2⟩
theorem z0h(htt:z0s P tt){fn:Func}{R:Ending→World→Prop}{ss:List SV}(hr:z44 tt F O fn.results.toList=some ss)
  (h: ∀E w,Mem E O nl V w→(∀s∈ss,s.ok nl=true)→R (.returned (zku (ss.map (SV.den E)))) w):KJ (bodyPost P fn R .ret) n F C O nl V:=zu2 htt hr h _ (.inr rfl)
theorem z55(htt:z0s P tt){fn:Func}{R:Ending→World→Prop}{ss:List SV}(hr:z44 tt F O fn.results.toList=some ss)
  (h: ∀E w,Mem E O nl V w→(∀s∈ss,s.ok nl=true)→R (.returned (zku (ss.map (SV.den E)))) w):KJ (bodyPost P fn R .normal) n F C O nl V:=zu2 htt hr h _ (.inl rfl)
/-! Entering. -/
def zvh:List SV→Nat→z05
 |[],_=>[]
 |s::r,i=>(i,⟨[],true,s⟩)::zvh r (i+1)
theorem z93: ∀(ss:List SV) (i t:Nat) (e:Ent),lk (zvh ss i) t=some e→ ∃s,i≤t∧ss[t - i]? =some s∧e=⟨[],true,s⟩
 |[],i,t,e,h=>by simp[zvh,lk]at h
 |s::r,i,t,e,h=>by
  simp only[zvh,z1l]at h
  by_cases hi:i=t
  ·
   subst hi
   simp only[if_true,Option.some.injEq]at h
   exact⟨s,Nat.le_refl _,by simp,h.symm⟩
  ·
   simp only[hi,if_false]at h
   obtain⟨s',h1,h2,h3⟩:=z93 r (i+1) t e h
   refine⟨s',by omega, ?_,h3⟩
   rw[show t - i=(t - (i+1))+1 by omega]
   simpa using h2
theorem enter{f:Nat}{fn:Func}{c:Code}{R:Ending→World→Prop}{w:World}{E:Env}(ss:List SV)(hfn:P.funcs[f]? =some fn)(hb:fn.body=some c)(hn:fn.ntmps=n)
  (hm:Mem E O nl V w) (hok:z5u nl ss=true) (hle:Nat.ble ss.length n=true)
  (h:KJ (c.wp P (bodyPost P fn R)) n (zvh ss 0) [] O nl V):Calls P f (ss.map (SV.den E)).toArray w R:=by
 refine calls_of_wp hfn hb<|h.out E _ w rfl ?_ hm
 have hle':ss.length≤n:=by simpa using hle
 subst hn
 refine⟨by simp;omega, ?_, ?_, ?_⟩
 ·
  intro t e ht
  obtain⟨s,_,h2,rfl⟩:=z93 ss 0 t e ht
  simp only[Nat.sub_zero]at h2
  obtain⟨hlt,hge⟩:=List.getElem?_eq_some_iff.1 h2
  simp[Array.getElem?_append,hlt,hge]
 ·
  intro t e ht
  obtain⟨s,_,h2,rfl⟩:=z93 ss 0 t e ht
  exact⟨rfl,by simp⟩
 ·
  intro t e ht _
  obtain⟨s,_,h2,rfl⟩:=z93 ss 0 t e ht
  exact allOk'_iff.1 hok s<|List.mem_of_getElem? h2
end
end Go.Eng
