/-
 The steps of code on symbolic states.
-/
import Derived.Test.YtkoiogkdiifgfaaGreatEng2
set_option linter.unusedSimpArgs false
set_option linter.unusedVariables false
namespace Go.Eng
open Go Go.RowKit
section
variable{P:Program}{tt:List (Nat×TI)}{ops:Array Oper}{Q:Exit→Act→World→Prop}{o:Oper}{rest:List Oper}
 {n:Nat} {F:z05} {C:List Nat} {O:Own} {nl:Nat} {V:Vw}
theorem Frm.env{E E':Env}{nl':Nat}{tmps:Array Value}(h:E.agree nl E')(hn:nl≤nl')(hf:Frm E n F C nl tmps):Frm E' n F C nl' tmps:=by
 refine⟨hf.size, ?_,hf.wf,fun t e ht hg=>SV.ok_mono hn (hf.labs t e ht hg)⟩
 intro t e ht
 rw[hf.val t e ht]
 cases hg:e.g with
 |false=>rfl
 |true=>simp only[if_true];rw[SV.den_agree h (hf.labs t e ht hg)]
theorem z1p{E E':Env}(h:E.agree nl E'){l:Nat}(hl:l<nl)(c:Cel):blk E' l c=blk E l c:=by
 cases c<;>simp[blk,(h l hl).1,(h l hl).2]
theorem z1n{w w':World}{b e sz:Nat}{v:Value}{m:Nat}{xs:List Value}(h:w.ownsRow b e sz v m xs)(hk: ∀k,v.ownBlock=some k→w'.heap[k]? =w.heap[k]?):w'.ownsRow b e sz v m xs:=by
 refine⟨h.1, ?_⟩
 rcases h.2 with hn|⟨g,cap,cur,rfl,hb,hgg,r⟩
 · exact .inl hn
 · exact .inr ⟨g,cap,cur,rfl,hb,by rw[hk g rfl];exact hgg,r⟩
theorem Mem.lt{E:Env}{w:World}(hm:Mem E O nl V w){l:Nat}{c:Cel}{k:Nat}(hl:lk O l=some c)(hb:blk E l c=some k):k<w.heap.size:=by
 cases c with
 |lit cs e=>
  have:=hm.lit _ _ _ hl
  simp only[blk,Option.some.injEq]at hb
  subst hb
  exact(Array.getElem?_eq_some_iff.1 this).1
 |row e sz m xs=>exact(World.ownsRow.lt (hm.row _ _ _ _ _ hl) k hb).2
 |gone=>simp[blk]at hb
 |pin m b=>simp[blk]at hb
 |size k=>simp[blk]at hb
 |keep m b v=>simp[blk]at hb
theorem Mem.keep{E:Env}{w w':World}(hm:Mem E O nl V w)(h:Below w.heap.size w w'):Mem E O nl V w':=by
 have hb: ∀k,k<w.heap.size→w'.heap[k]? =w.heap[k]? :=h.block
 refine⟨?_, ?_,hm.sep, ?_,hm.off,h.os.trans hm.os,h.tape.trans hm.tape,h.output.trans hm.output,hm.lab,hm.labs,hm.pin,fun l k hl=>Nat.le_trans (hm.big l k hl) h.size,hm.kp⟩
 ·
  intro l cs e hl
  rw[hb _ (hm.lt hl rfl)]
  exact hm.lit l cs e hl
 ·
  intro l e sz m xs hl
  exact z1n (hm.row _ _ _ _ _ hl) fun k hk=>hb k (hm.lt hl hk)
 ·
  intro k o hk
  have:=hm.get k o hk
  rw[hb k (Array.getElem?_eq_some_iff.1 this).1]
  exact this
def Env.setρ(E:Env)(l b:Nat):Env:=⟨fun x=>if x=l then b else E.ρ x,E.κ⟩
def Env.setκ(E:Env)(l:Nat)(v:Value):Env:=⟨E.ρ,fun x=>if x=l then v else E.κ x⟩
theorem Env.agree_setρ(E:Env)(b:Nat):E.agree nl (E.setρ nl b):=fun l hl=>⟨by simp[Env.setρ,Nat.ne_of_lt hl],rfl⟩
theorem Env.agree_setκ(E:Env)(v:Value):E.agree nl (E.setκ nl v):=fun l hl=>⟨rfl,by simp[Env.setκ,Nat.ne_of_lt hl]⟩
theorem z29(w:World)(o:Obj):Below w.heap.size w (w.alloc o):=(Below.refl _ _).alloc (Nat.le_refl _) o
theorem Mem.new{E:Env}{w:World}(hm:Mem E O nl V w){cs:List A}{e:Nat}(hok:z0z nl cs=true):
  Mem (E.setρ nl w.heap.size) ((nl, .lit cs e)::O) (nl+1) V (w.alloc (.cells (cs.map (A.den E)).toArray e (0,0))):=by
 have hag:E.agree nl (E.setρ nl w.heap.size):=E.agree_setρ _
 have hk:=hm.keep (z29 w (.cells (cs.map (A.den E)).toArray e (0,0)))
 have hold: ∀{l c},lk ((nl,Cel.lit cs e)::O) l=some c→l≠nl→lk O l=some c:=by
  intro l c hl hne
  rwa [z22 _ _ (fun x=>hne x.symm)]at hl
 have hnew: ∀{c},lk ((nl,Cel.lit cs e)::O) nl=some c→c= .lit cs e:=by
  intro c hl
  rw[z0f]at hl
  exact(Option.some.inj hl).symm
 have hnewb:(E.setρ nl w.heap.size).ρ nl=w.heap.size:=by simp[Env.setρ]
 have hbold: ∀{l c k},lk O l=some c→blk (E.setρ nl w.heap.size) l c=some k→blk E l c=some k:=by
  intro l c k hl hb
  rwa [z1p hag (hm.lab _ _ hl)]at hb
 refine⟨?_, ?_, ?_,hk.get, ?_,hk.os,hk.tape,hk.output, ?_, ?_, ?_, ?_, ?_⟩
 ·
  intro l cs' e' hl
  by_cases h:l=nl
  ·
   subst h
   cases hnew hl
   rw[hnewb,A.map_agree hag hok]
   exact heap_alloc_new w _
  ·
   have hl':=hold hl h
   have:=hk.lit l cs' e' hl'
   rw[(hag l (hm.lab _ _ hl')).1,A.map_agree hag (hm.labs _ _ _ hl')]
   exact this
 ·
  intro l e' sz m xs hl
  by_cases h:l=nl
  · subst h;cases hnew hl
  ·
   have hl':=hold hl h
   rw[(hag l (hm.lab _ _ hl')).2]
   exact hk.row _ _ _ _ _ hl'
 ·
  intro l l' c c' k hl hl' hb hb'
  by_cases h:l=nl
  ·
   by_cases h':l'=nl
   · rw[h,h']
   ·
    exfalso
    subst h
    cases hnew hl
    have hlt:=hm.lt (hold hl' h') (hbold (hold hl' h') hb')
    simp only[blk,hnewb,Option.some.injEq]at hb
    omega
  ·
   by_cases h':l'=nl
   ·
    exfalso
    subst h'
    cases hnew hl'
    have hlt:=hm.lt (hold hl h) (hbold (hold hl h) hb)
    simp only[blk,hnewb,Option.some.injEq]at hb'
    omega
   · exact hm.sep l l' c c' k (hold hl h) (hold hl' h') (hbold (hold hl h) hb) (hbold (hold hl' h') hb')
 ·
  intro l c k hl hb
  by_cases h:l=nl
  ·
   subst h
   cases hnew hl
   simp only[blk,hnewb,Option.some.injEq]at hb
   subst hb
   cases hv:V.get w.heap.size with
   |none=>rfl
   |some o=>
    have:=(Array.getElem?_eq_some_iff.1 (hm.get _ _ hv)).1
    omega
  · exact hm.off l c k (hold hl h) (hbold (hold hl h) hb)
 ·
  intro l c hl
  by_cases h:l=nl
  · omega
  · have:=hm.lab _ _ (hold hl h);omega
 ·
  intro l cs' e' hl
  by_cases h:l=nl
  ·
   subst h
   cases hnew hl
   exact z15 (by omega) hok
  · exact z15 (by omega) (hm.labs _ _ _ (hold hl h))
 ·
  intro l m b hl
  by_cases h:l=nl
  · subst h;cases hnew hl
  ·
   obtain⟨h1,h2⟩:=hm.pin _ _ _ (hold hl h)
   exact⟨(hag m h2).1.trans h1,by omega⟩
 ·
  intro l k hl
  by_cases h:l=nl
  · subst h;cases hnew hl
  · exact hk.big _ _ (hold hl h)
 ·
  intro l m b v hl
  by_cases h:l=nl
  · subst h;cases hnew hl
  ·
   obtain⟨h1,h2,h3⟩:=hm.kp _ _ _ _ (hold hl h)
   exact⟨(hag m h3).1.trans h1,(hag m h3).2.trans h2,by omega⟩
def zk4(tt:List (Nat×TI))(F:z05)(O:Own):Op→Option (List A×Nat)
 | .alloc e=>match lk tt e with
  |some ti=>some (ti.zero.map .v,e)
  |none=>none
 | .box e x=>match opv F [] x with
  |some s=>match zfx O s with
   |some cs=>some (cs,e)
   |none=>none
  |none=>none
 |_=>none
theorem zdo(htt:z0s P tt){E:Env}{a:Act}{w:World}(hf:Frm E n F C nl a.tmps)(hm:Mem E O nl V w){cs:List A}{e:Nat}(h:zk4 tt F O o.op=some (cs,e)):
  (execOp a.eval o).run P w= .ok (.value (.pointer (some ⟨w.heap.size,0,none⟩))) (w.alloc (.cells (cs.map (A.den E)).toArray e (0,0)))∧z0z nl cs=true:=by
 unfold execOp
 cases hop:o.op with
 |alloc t=>
  simp only[hop,zk4]at h
  split at h
  ·
   rename_i ti hti
   simp only[Option.some.injEq,Prod.mk.injEq]at h
   obtain⟨rfl,rfl⟩:=h
   obtain⟨z,hz,hc⟩:=(htt _ _ hti).zeroValue w
   have hv: ∀l:List Value,(l.map A.v).map (A.den E)=l∧z0z nl (l.map A.v)=true:=by
    intro l
    induction l with
    |nil=>exact⟨rfl,rfl⟩
    |cons x r ih=>exact⟨by simp[A.den,ih.1],by simp[z0z,A.ok,ih.2]⟩
   refine⟨?_,(hv _).2⟩
   have hz':z.cells=ti.zero.toArray:=by apply Array.ext';simpa using hc
   have hmm: ∀l:List Value,List.map (A.den E ∘ A.v) l=l:=fun l=>by have:=(hv l).1;rwa [List.map_map]at this
   simp[Instr.alloc,hz,newVar,newRow,hz',hmm]
  · simp at h
 |box t x=>
  simp only[hop,zk4]at h
  split at h
  ·
   rename_i s hs
   split at h
   ·
    rename_i cs' hcs
    simp only[Option.some.injEq,Prod.mk.injEq]at h
    obtain⟨rfl,rfl⟩:=h
    obtain⟨h1,h2⟩:=z03 hf (by rfl) hs
    obtain⟨h3,h4⟩:=z4u hm hcs h2
    refine⟨?_,h4⟩
    simp[Instr.box,newVar,newRow,h1,h3]
   · simp at h
  · simp at h
 |_=>simp[hop,zk4]at h
theorem j9e(htt:z0s P tt){d:Nat}{cs:List A}{e:Nat}(hg:o.guard=none)(hv:zk4 tt F O o.op=some (cs,e))(hd:o.dst=some d)(hc:(Nat.blt d n&& !(z2w d C))=true)
  (next:KJ (wpList P ops Q rest) n ((d,⟨[],true, .a (.ptr nl 0)⟩)::F) C ((nl, .lit cs e)::O) (nl+1) V):KJ (wpList P ops Q (o::rest)) n F C O nl V:=by
 constructor
 intro E a w hdf hf hm
 simp only[Bool.and_eq_true,z0e,Bool.not_eq_true']at hc
 obtain⟨hr,hok⟩:=zdo htt hf hm hv
 unfold wpList
 rw[show Region.wanted o (yielded ops a.tmps)=true by simp[Region.wanted,hg]]
 simp only[if_true]
 left
 unfold Oper.wp
 rw[hr]
 show wpList P ops Q rest (a.put o.dst _) _
 rw[hd]
 have hm':=hm.new (cs:=cs) (e:=e) hok
 refine next.out (E.setρ nl w.heap.size) _ _ (by simp[Act.put,hdf]) ?_ hm'
 have hf':=hf.env (E.agree_setρ w.heap.size) (Nat.le_succ nl)
 have:=Frm.put (p:=[]) (g:=true) (s:= .a (.ptr nl 0)) hf' hc.1 hc.2 rfl (by simp) (fun _=>by simp[SV.ok,A.ok,z0e])
 simpa[SV.den,A.den,Env.setρ]using this
end
end Go.Eng
