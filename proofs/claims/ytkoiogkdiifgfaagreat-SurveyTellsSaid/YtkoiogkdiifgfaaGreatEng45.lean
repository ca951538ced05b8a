import Derived.Test.YtkoiogkdiifgfaaGreatEng40
import Derived.Recover
/-
 Functions that defer one closure which recovers: their bodies walked with what is deferred beside the state; the closure's body walked z5r its recover; leaving.
-/
set_option linter.unusedSimpArgs false
set_option linter.unusedVariables false
set_option linter.unusedSectionVars false
namespace Go.Eng
open Go Go.RowKit
section
variable{P:Program}{ops:Array Oper}{Q0 Q1:Exit→Act→World→Prop}{ds:List Deferred}
end
section
variable{P:Program}{tt:List (Nat×TI)}{ops:Array Oper}{Q:z8j}{o:Oper}{rest:List Oper}{ds:List Deferred}
 {n:Nat} {F:z05} {C:List Nat} {O:Go.Eng.Own} {nl:Nat} {V:Vw}
/-! Leaving. -/
/-! Interface values, panics. -/
/-! Leaving, the closure walked in its caller's labels. -/
end
end Go.Eng

/-
 Calls that make memory of their own and show new memory besides; rows of one's own whose slices are known as plain values.
-/
set_option linter.unusedSimpArgs false
set_option linter.unusedVariables false
namespace Go.Eng
open Go Go.RowKit
section
variable{P:Program}{tt:List (Nat×TI)}{n:Nat}{F:z05}{C:List Nat}{O:Own}{nl:Nat}{V:Vw}{o:Oper}
end
section
variable{P:Program}{tt:List (Nat×TI)}{n:Nat}{F:z05}{C:List Nat}{O:Own}{nl:Nat}{V:Vw}{o:Oper}
end
end Go.Eng

/-
 Calls that write one block of one's own and make memory that is seen; what has come since, where one block was turned.
-/
set_option linter.unusedSimpArgs false
set_option linter.unusedVariables false
namespace Go.Eng
open Go Go.RowKit
section
variable{P:Program}{tt:List (Nat×TI)}{n:Nat}{F:z05}{C:List Nat}{O:Own}{nl:Nat}{V:Vw}{o:Oper}
end
end Go.Eng

/-
 Calls that write one block that is seen, told by its number.
-/
set_option linter.unusedSimpArgs false
set_option linter.unusedVariables false
namespace Go.Eng
open Go Go.RowKit
section
variable{P:Program}{tt:List (Nat×TI)}{n:Nat}{F:z05}{C:List Nat}{O:Own}{nl:Nat}{V:Vw}{o:Oper}
end
end Go.Eng

/-
 Ranges over functions with two variables, whose values lie in memory that the iterator has laid.
-/
set_option linter.unusedSimpArgs false
set_option linter.unusedVariables false
set_option linter.unusedSectionVars false
namespace Go.Eng
open Go Go.RowKit
section
variable{P:Program}{m:Nat}{Q:z8j}{n:Nat}{F:z05}{C:List Nat}{O:Go.Eng.Own}{nl:Nat}{V:Vw}
def jbs{α:Type}(m:Nat)(P:Program)(g:Nat)(lb:Array Value)(encs:α→Array Value)(PE:α→Vw→Prop)(V:Vw)(S Sp:List α→Prop)(N:Nat)(w:World):Prop:=
 ∀(l:Nat) (J:(Nat→Prop)→List α→World→Prop) (Jx:List α→World→Prop) (W:World),Below w.heap.size w W→
  (∀R pre A B row,J R pre A→A.grownBy B row→(∀r,row=some r→W.heap.size≤r∧ ∃o:Obj,A.heap[r]? =some o∧o.isWalk=true)→J (fun k=>R k∨(A.heap.size≤k∧k<B.heap.size)) pre B)→
  (∀R R' pre A,J R pre A→(∀k,R' k→R k)→J R' pre A)→AbidesFrom W.heap.size Jx→
  (∀R pre x W1 Vx,J R pre W1→pre.length<N→V.le Vx→PE x Vx→(∀k o,Vx.get k=some o→W1.heap[k]? =some o∧(R k∨V.get k=some o))→YieldAt (Rd none) (m - 1) P l (encs x) W1 fun e W'=>
   (e= .returned (.bool true)∧J R (pre++[x]) W'∧(V.le (vw W1)→V.le (vw W'))∧ ∀k o,R k→W1.heap[k]? =some o→W'.heap[k]? =some o)∨(e= .returned (.bool false)∧Jx (pre++[x]) W'))→
  J (fun _=>False) [] W→
  CallsIn (Rd none) m P g (#[.func (.yield l) #[] #[]]++lb) W fun e W'=>(∃v,e= .returned v)∧((∃xs,S xs∧ ∃R,J R xs W')∨(∃pre,Sp pre∧Jx pre W'))
theorem zmy{α σ τ:Type}{g:Operand}{p p2:Nat}{ent body:Code}{gf:Nat}{lb:Array Value}(hm1:1≤m)
  (hg:opv F [] g=some (.a (.v (.func (.func gf) #[] lb)))) (hfn:z0j P gf) (enc enc2:α→Value) (PE:α→Vw→Prop) (S Sp:List α→Prop) (N:Nat) (Fl:List (Nat×SV)) (Ox:σ→Go.Eng.Own) (Inv:List α→σ→Prop) (Oy:τ→Go.Eng.Own) (InvX:List α→τ→Prop) (jx:Code) (s0:σ)
  (hs:z52 F Fl) (hlf:z2f 0 Fl=true) (h0:Inv [] s0) (hO:z3b O (Ox s0)) (hoc: ∀s,z0u nl (Ox s)=true) (hoy: ∀y,z0u nl (Oy y)=true) (hp:Nat.blt p n=true) (hp2:Nat.blt p2 n=true)
  (hseq: ∀w,V.le (vw w)→jbs (m - 1) P gf lb (fun x=> #[enc x,enc2 x]) PE V S Sp N w)
  (hbody: ∀l pre x s Vx Vf sz,Inv pre s→pre.length<N→V.le Vx→Vx.le Vf→PE x Vx→
   KJ (RX P (some l) (m - 1 - 1) [] ent (RA P l (m - 1 - 1) body Vx Vf nl sz fun Vg k=>RC nl Vg k Ox Inv Oy InvX jx (pre++[x]))) n (mkF ((p2, .a (.v (enc2 x)))::(p, .a (.v (enc x)))::Fl)) [] ((nl, .size sz)::Ox s) (nl+1) Vf)
  (next: ∀D V' s xs,S xs→Inv xs s→V.le V'→V'.get D=some (.deferred (some []))→V.le (V'.del D)→KJ (Q (zkm D) .normal) n (mkF Fl) [] (Ox s) nl V')
  (stop: ∀D V' y pre,Sp pre→InvX pre y→V.le V'→V'.get D=some (.deferred (some []))→V.le (V'.del D)→KJ (RX P none m (zkm D) jx Q) n (mkF Fl) [] (Oy y) nl V'):
  KJ (RX P none m [] (Code.rangeFunc g #[p,p2] ent body) Q) n F C O nl V:=by
 constructor
 intro E a w hda hf hm
 have hp':p<n:=by simpa using hp
 have hp2':p2<n:=by simpa using hp2
 have hfl:Frm E n (mkF Fl) [] 0 a.tmps:=hf.weak hs hlf
 have hfE: ∀E',Frm E' n (mkF Fl) [] nl a.tmps:=fun E'=>Frm.env (nl:=0) (fun l hl=>by omega) (Nat.zero_le _) hfl
 have hVB: ∀k o,V.get k=some o→k<w.heap.size:=fun k o hk=>(Array.getElem?_eq_some_iff.1 (hm.get k o hk)).1
 have hVn: ∀k,w.heap.size≤k→V.get k=none:=fun k hk=>by
  cases hv:V.get k with
  |none=>rfl
  |some o=>have:=hVB k o hv;omega
 have habs: ∀{O':Go.Eng.Own} {q:Nat} {V2:Vw} {E':Env} {W W':World} {row:Option Nat},Mem E' O' q V2 W→W.grownBy W' row→(∀r,row=some r→V2.get r=none∧ ∃o:Obj,W.heap[r]? =some o∧o.isCells=false)→Mem E' O' q V2 W':=fun hM hG hR=>hM.abides hG hR
 have hage:a.eval g= .func (.func gf) #[] lb:=(z03 hf (p:=[]) rfl hg).1
 have hmark: ∀{O':Go.Eng.Own} {E':Env} {W:World} {D:Nat},Mem E' O' nl V W→w.heap.size≤D→W.heap[D]? =some (.deferred (some []))→
   ∃V',Mem E' O' nl V' W∧V.le V'∧V'.get D=some (.deferred (some []))∧V.le (V'.del D):=fun{O' E' W D} hM hD hW=>by
  have hVD:=hVn D hD
  refine⟨V.put D (.deferred (some [])),⟨hM.lit,hM.row,hM.sep,fun k o hk=> ?_,fun l c k h hb=> ?_,hM.os,hM.tape,hM.output,hM.lab,hM.labs,hM.pin,hM.big,hM.kp⟩,⟨fun k o hk=> ?_,rfl,rfl,rfl⟩,by simp[Vw.put],⟨fun k o hk=> ?_,rfl,rfl,rfl⟩⟩
  ·
   simp only[Vw.put]at hk
   split at hk
   · rename_i he;subst he;cases hk;exact hW
   · exact hM.get k o hk
  ·
   simp only[Vw.put]
   split
   ·
    rename_i he
    subst he
    obtain⟨o,ho,hc⟩:=hM.own_cells h hb
    rw[hW]at ho;cases ho;cases hc
   · exact hM.off l c k h hb
  ·
   simp only[Vw.put]
   split
   · rename_i he;subst he;rw[hVD]at hk;cases hk
   · exact hk
  ·
   simp only[Vw.put,Vw.del]
   split
   · rename_i he;subst he;rw[hVD]at hk;cases hk
   · exact hk
 unfold RX
 rw[show({a with defers:=[]}:Act)=a by obtain⟨t,dd⟩:=a;cases hda;rfl]
 refine wpIn_rangeFunc fun fn hfn'=> ?_
 -- the loop's record, by its state
 obtain⟨R,hR⟩: ∃R:LoopState→Option Code→Loop,R=fun st pe=>{state:=st,pending:=pe,fn,tmps:=a.tmps,params:= #[p,p2],assign:=ent,body,defers:=w.heap.size}:=⟨_,rfl⟩
 obtain⟨D,hD⟩: ∃D,D=w.heap.size:=⟨_,rfl⟩
 obtain⟨W0,hW0⟩: ∃W0,W0=(w.alloc (.deferred (some []))).alloc (.loop (R .ready none)):=⟨_,rfl⟩
 have hz0:W0.heap.size=w.heap.size+2:=by rw[hW0];simp
 have hL0:W0.heap[D+1]? =some (.loop (R .ready none)):=by
  rw[hW0,hD]
  have:=World.alloc_heap_new (w.alloc (.deferred (some []))) (.loop (R .ready none))
  rwa [World.size_alloc]at this
 have hD0:W0.heap[D]? =some (.deferred (some [])):=by
  rw[hW0,hD]
  exact(Below.heap_alloc _ _ _ (by simp)).trans<|World.alloc_heap_new w _
 have hM0:Mem E (Ox s0) nl V W0:=by
  have h1:=hm.weak hO (hoc s0) (Vw.le.refl V)
  have h2:=habs h1 (World.grownBy_alloc w (.deferred (some [])) none) (fun r e=>by cases e)
  rw[hW0]
  exact habs h2 (World.grownBy_alloc _ (.loop (R .ready none)) none) fun r e=>by cases e
 have hB0:Below w.heap.size w W0:=by
  rw[hW0]
  exact((Below.refl _ w).alloc (Nat.le_refl _) _).alloc (by simp) _
 have hVL:V.get (D+1)=none:=hVn _ (by omega)
 refine⟨D+1,[{target:= .collected D,args:= #[]}],W0,{target:= .fn (.func gf) lb,args:= #[.func (.yield (D+1)) #[] #[]]},W0,gf, #[.func (.yield (D+1)) #[] #[]]++lb,W0, ?_, ?_, ?_, ?_,fun _=>hm1, ?_⟩
 · rw[hW0,hR,hD];exact run_enterLoop_outer _ _ _ _ _
 ·
  simp only[resolve,hage]
  simp[go_sem]
 ·
  intro f' hf'
  trivial
 · simp[invoke,go_sem,zci hfn]
 -- the iterator's promise
 have hput: ∀{W:World} {r:Loop} (ob:Obj),W.heap[D+1]? =some (.loop r)→ ∀{q:Nat} {E':Env} {O':Go.Eng.Own},Mem E' O' q V W→Mem E' O' q V (W.putObj (D+1) ob):=fun{W r} ob hl {q E' O'} hM=>
  habs hM (grownBy_putObj' W (D+1) ob) (fun k e=>by cases e;exact⟨hVL,_,hl,rfl⟩)
 have hputD: ∀{W:World} (ob:Obj),W.heap[D]? =some (.deferred (some []))→(W.putObj (D+1) ob).heap[D]? =some (.deferred (some [])):=fun ob h=>(World.putObj_heap_other (by omega)).trans h
 have hputL: ∀{W:World} {r:Loop} (ob:Obj),W.heap[D+1]? =some (.loop r)→(W.putObj (D+1) ob).heap[D+1]? =some ob:=fun ob h=>World.putObj_heap_same (Array.getElem?_eq_some_iff.1 h).1
 have habs2: ∀{O':Go.Eng.Own} {E':Env} {A B:World} {row:Option Nat},Mem E' O' nl V A→A.grownBy B row→(∀r,row=some r→W0.heap.size≤r∧ ∃o:Obj,A.heap[r]? =some o∧o.isWalk=true)→Mem E' O' nl V B:=fun hM hG hr=>
  habs hM hG (fun r e=>⟨hVn _ (by have:=(hr r e).1;omega),by obtain⟨_,o,ho,hw⟩:=hr r e;exact⟨o,ho,Obj.not_cells_of_walk hw⟩⟩)
 refine(hseq w hm.leV (D+1)
  (fun Z pre W=>((∀k,Z k→D+2≤k∧k<W.heap.size)∧ ∃s E',Inv pre s∧Mem E' (Ox s) nl V W∧ ∀q c k,lk (Ox s) q=some c→blk E' q c=some k→ ¬Z k)∧W.heap[D+1]? =some (.loop (R .ready none))∧W.heap[D]? =some (.deferred (some [])))
  (fun pre W=>(∃y E',InvX pre y∧Mem E' (Oy y) nl V W)∧W.heap[D+1]? =some (.loop (R .done (some jx)))∧W.heap[D]? =some (.deferred (some [])))
  W0 hB0
  (fun Z pre A B row hs' hg' hr=>by
   obtain⟨⟨hz,s,E',h1,h2,hzo⟩,h3,h4⟩:=hs'
   have hDA:D+1<A.heap.size:=(Array.getElem?_eq_some_iff.1 h3).1
   have hgz:=hg'.size
   refine⟨⟨fun k hk=> ?_,s,E',h1,habs2 h2 hg' hr,fun q c k hq hb hk=> ?_⟩,(grownBy_keeps hg' (fun r e=>(hr r e).2) h3 rfl).trans h3,(grownBy_keeps hg' (fun r e=>(hr r e).2) h4 rfl).trans h4⟩
   ·
    rcases hk with hk|hk
    · have:=hz k hk;omega
    · omega
   ·
    rcases hk with hk|hk
    · exact hzo q c k hq hb hk
    · have:=h2.lt hq hb;omega)
  (fun Z Z' pre A hs' hsub=>by
   obtain⟨⟨hz,s,E',h1,h2,hzo⟩,h3⟩:=hs'
   exact⟨⟨fun k hk=>hz k (hsub k hk),s,E',h1,h2,fun q c k hq hb hk=>hzo q c k hq hb (hsub k hk)⟩,h3⟩)
  (fun pre A B row hs' hg' hr=>by
   obtain⟨⟨s,E',h1,h2⟩,h3,h4⟩:=hs'
   exact⟨⟨s,E',h1,habs2 h2 hg' hr⟩,(grownBy_keeps hg' (fun r e=>(hr r e).2) h3 rfl).trans h3,(grownBy_keeps hg' (fun r e=>(hr r e).2) h4 rfl).trans h4⟩)
  ?_ ⟨⟨fun k hk=>hk.elim,s0,E,h0,hM0,fun q c k hq hb hk=>hk⟩,hL0,hD0⟩).mono ?_
 ·
  rintro Z pre x W Vx ⟨⟨hZ,s,E',hI,hM,hZo⟩,hl,hk⟩ hlen hVx hPE hVxW
  have hy:=run_yield (P:=P) (args:= #[enc x,enc2 x]) hl (by rw[hR];rfl)
  rw[hR]at hy
  refine⟨fn,_,ent,body,hy,roundIn_of_wpIn hfn' ?_⟩
  clear hy
  obtain⟨hMf,hVf⟩:=hM.full
  have hxf:Vx.le (fullV E' (Ox s) W):=by
   refine⟨fun k o hk=> ?_,hVf.os.trans hVx.os.symm,hVf.tape.trans hVx.tape.symm,hVf.output.trans hVx.output.symm⟩
   obtain⟨h1,h2⟩:=hVxW k o hk
   rcases h2 with h2|h2
   · exact z7y h1 (fun q c hq hb=>hZo q c k hq hb h2)
   · exact hVf.get _ _ h2
  have hfr:Frm E' n (mkF ((p2, .a (.v (enc2 x)))::(p, .a (.v (enc x)))::Fl)) [] (nl+1) ((a.tmps.setIfInBounds p (enc x)).setIfInBounds p2 (enc2 x)):=by
   have h1:Frm E' n (mkF Fl) [] (nl+1) a.tmps:=Frm.env (nl:=0) (fun l hl=>by omega) (Nat.zero_le _) hfl
   have h2:=Frm.put (a:=a) (d:=p) (p:=[]) (g:=true) (s:= .a (.v (enc x))) h1 hp' rfl rfl (fun q hq=>by cases hq) (fun _=>rfl)
   simp only[if_true,SV.den,A.den]at h2
   have h3:=Frm.put (a:={a with tmps:=a.tmps.setIfInBounds p (enc x)}) (d:=p2) (p:=[]) (g:=true) (s:= .a (.v (enc2 x))) h2 hp2' rfl rfl (fun q hq=>by cases hq) (fun _=>rfl)
   simp only[if_true,SV.den,A.den]at h3
   exact h3
  have hb:=hbody (D+1) pre x s Vx (fullV E' (Ox s) W) W.heap.size hI hlen hVx hxf hPE
  have htm:((#[p,p2].zip #[enc x,enc2 x]).foldl (fun tmps (t,v)=>tmps.setIfInBounds t v) a.tmps)=(a.tmps.setIfInBounds p (enc x)).setIfInBounds p2 (enc2 x):=by simp
  rw[htm]
  refine wpIn_mono (hb.out E' {tmps:=(a.tmps.setIfInBounds p (enc x)).setIfInBounds p2 (enc2 x),defers:=[]} W rfl hfr hMf.addSize) ?_
  rintro e a1 Wa ⟨hds,he,E2,n2,F2,C2,O2,nl2,V2,hf2,hm2,hsz2,hle2,hK2⟩
  subst he
  have keeps:KeepsOthers W Wa:=⟨hm2.big nl _ hsz2,fun k o hk hc=>hM.full_rest (hle2.trans hm2.leV) hk hc⟩
  have hl1:=keeps.same _ _ hl rfl
  have hk1:=keeps.same _ _ hk rfl
  have hle3:=hxf.trans hle2
  have hoff: ∀q c k,lk O2 q=some c→blk E2 q c=some k→Vx.get k=none:=fun q c k h hb=>by
   cases hv:Vx.get k with
   |none=>rfl
   |some o=>
    have h1:=hle3.get _ _ hv
    rw[hm2.off q c k h hb]at h1
    cases h1
  have hfullZ: ∀k o,Z k→W.heap[k]? =some o→(fullV E' (Ox s) W).get k=some o:=fun k o hz hk=>z7y hk (fun q c hq hb=>hZo q c k hq hb hz)
  have hm3:Mem E2 O2 nl2 Vx Wa:=⟨hm2.lit,hm2.row,hm2.sep,(hle3.trans hm2.leV).get,hoff,hm2.os.trans hle3.os,hm2.tape.trans hle3.tape,hm2.output.trans hle3.output,hm2.lab,hm2.labs,hm2.pin,hm2.big,hm2.kp⟩
  refine⟨_,run_beginRound hl1 (by rw[hR]), ?_⟩
  have hVxL:Vx.get (D+1)=none:=by
   cases hv:Vx.get (D+1)with
   |none=>rfl
   |some o=>
    rcases(hVxW _ o hv).2 with h1|h1
    · have:=hZ _ h1;omega
    · rw[hVL]at h1;cases h1
  have hm4:=habs hm3 (grownBy_putObj' Wa (D+1) (.loop {R .ready none with state:= .busy})) (fun k e=>by cases e;exact⟨hVxL,_,hl1,rfl⟩)
  obtain⟨hm5,hV5⟩:=hm4.full
  have hm6:=hm5.reSize hsz2 (k':=(Wa.putObj (D+1) (.loop {R .ready none with state:= .busy})).heap.size) (Nat.le_refl _)
  have hl4:=hputL (.loop {R .ready none with state:= .busy}) hl1
  have hk4:=hputD (.loop {R .ready none with state:= .busy}) hk1
  have hout:=(hK2 _ ((Wa.putObj (D+1) (.loop {R .ready none with state:= .busy})).heap.size) hV5).out E2 {a1 with defers:=[]} _ rfl hf2 hm6
  have ha1:({a1 with defers:=[]}:Act)=a1:=by obtain⟨t,dd⟩:=a1;cases hds;rfl
  unfold RX at hout
  rw[ha1]at hout
  refine wpIn_mono hout ?_
  have hVg:V.le (fullV E2 O2 (Wa.putObj (D+1) (.loop {R .ready none with state:= .busy}))):=hVx.trans hV5
  have kp: ∀{W3:World} {q:Nat} {E3:Env} {O3:Go.Eng.Own},Mem E3 O3 q (fullV E2 O2 (Wa.putObj (D+1) (.loop {R .ready none with state:= .busy}))) W3→
    W3.heap[D+1]? =some (.loop {R .ready none with state:= .busy})∧W3.heap[D]? =some (.deferred (some [])):=fun hM'=>⟨hm4.full_rest hM'.leV hl4 rfl,hm4.full_rest hM'.leV hk4 rfl⟩
  have kz: ∀k o,Z k→W.heap[k]? =some o→(fullV E2 O2 (Wa.putObj (D+1) (.loop {R .ready none with state:= .busy}))).get k=some o:=fun k o hz hko=>by
   have hne:k≠D+1:=by have:=hZ k hz;omega
   have h1:=hle2.get _ _ (hfullZ k o hz hko)
   refine z7y ((World.putObj_heap_other (by omega)).trans (hm2.get _ _ h1)) fun q c hq hb=> ?_
   rw[hm2.off q c k hq hb]at h1
   cases h1
  have keepV: ∀{W3:World} {E3:Env} {O3:Go.Eng.Own} {q:Nat},Mem E3 O3 q (fullV E2 O2 (Wa.putObj (D+1) (.loop {R .ready none with state:= .busy}))) W3→Mem E3 O3 q V W3:=fun hM'=>
   ⟨hM'.lit,hM'.row,hM'.sep,(hVg.trans hM'.leV).get,fun q c k h hb=>(by
    cases hv:V.get k with
    |none=>rfl
    |some o=>
     have h1:=hVg.get _ _ hv
     rw[hM'.off q c k h hb]at h1
     cases h1),hM'.os.trans hVg.os,hM'.tape.trans hVg.tape,hM'.output.trans hVg.output,hM'.lab,hM'.labs,hM'.pin,hM'.big,hM'.kp⟩
  intro e a3 W3 hq
  cases e with
  |normal=>
   obtain⟨s',E3,hI3,hM3⟩:=hq
   obtain⟨hl5,hk5⟩:=kp hM3
   have hsz3:W.heap.size≤W3.heap.size:=Nat.le_trans keeps.size (Nat.le_trans (by simp[World.putObj]) (hM3.big nl _ (z0f _ _ _)))
   refine⟨_,_,run_endRound none hl5, .inl ⟨rfl,⟨⟨fun k hz=> ?_,s',E3,hI3,hput _ hl5 ((keepV hM3).drop (hoc s')),fun q c k hq hb hz=> ?_⟩, ?_,hputD _ hk5⟩,fun _=>(hput _ hl5 (keepV hM3)).leV,fun k o hz hko=> ?_⟩⟩
   ·
    have:=hZ k hz
    simp only[World.putObj,Array.size_setIfInBounds]
    omega
   ·
    have hlt:=(hZ k hz).2
    have h1:=kz k _ hz (Array.getElem?_eq_getElem hlt)
    have hq':lk ((nl,Cel.size (Wa.putObj (D+1) (.loop {R .ready none with state:= .busy})).heap.size)::Ox s') q=some c:=by
     rw[z22 _ _ (fun e=>by have:=(z1s (hoc s') hq).1;omega)];exact hq
    rw[hM3.off q c k hq' hb]at h1
    cases h1
   ·
    rw[hputL _ hl5,hR]
    rfl
   ·
    have hne:k≠D+1:=by have:=hZ k hz;omega
    exact(World.putObj_heap_other (by omega)).trans<|hM3.get _ _<|kz k o hz hko
  |ret=>
   obtain⟨hj,y,E3,hI3,hM3⟩:=hq
   obtain⟨hl5,hk5⟩:=kp hM3
   refine⟨_,_,run_endRound (some .ret) hl5, .inr ⟨rfl,⟨⟨y,E3,hI3,hput _ hl5 ((keepV hM3).drop (hoy y))⟩, ?_,hputD _ hk5⟩⟩⟩
   rw[hputL _ hl5,hR,hj]
   rfl
  |exit id=>
   obtain⟨hj,y,E3,hI3,hM3⟩:=hq
   obtain⟨hl5,hk5⟩:=kp hM3
   refine⟨_,_,run_endRound (some (.exit id)) hl5, .inr ⟨rfl,⟨⟨y,E3,hI3,hput _ hl5 ((keepV hM3).drop (hoy y))⟩, ?_,hputD _ hk5⟩⟩⟩
   rw[hputL _ hl5,hR,hj]
   rfl
  |goto _=>exact hq.elim
  |panic _=>exact hq.elim
  |outgrown=>exact hq.elim
 ·
  rintro e W2 ⟨⟨v,rfl⟩,⟨xs,hS,Z,⟨hZ,s,E',hI,hM,hZo⟩,hl,hk⟩|⟨pre,hSp,⟨y,E',hI,hM⟩,hl,hk⟩⟩
  ·
   refine⟨none,_,by have:=run_endLoop (P:=P) hl (by rw[hR];simp);rw[hR]at this;exact this, ?_⟩
   obtain⟨V',hM',h1,h2,h3⟩:=hmark (D:=D) (hput (.loop {R .ready none with state:= .exhausted}) hl hM) (by omega) (hputD _ hk)
   have:=(next D V' s xs hS hI h1 h2 h3).out E' a _ hda (hfE E') hM'
   rw[hR]at this
   obtain⟨t,dd⟩:=a
   cases hda
   exact this
  ·
   refine⟨some jx,_,by have:=run_endLoop (P:=P) hl (by rw[hR];simp);rw[hR]at this;exact this, ?_⟩
   obtain⟨V',hM',h1,h2,h3⟩:=hmark (D:=D) (hput (.loop {R .done (some jx)with state:= .exhausted}) hl hM) (by omega) (hputD _ hk)
   have:=(stop D V' y pre hSp hI h1 h2 h3).out E' a _ hda (hfE E') hM'
   rw[hR]at this
   obtain⟨t,dd⟩:=a
   cases hda
   exact this
end
end Go.Eng
