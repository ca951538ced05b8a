/-
 New memory that nobody writes afterwards: slices written out in place.
-/
import Derived.Test.YtkoiogkdiifgfaaGreatEng10
set_option linter.unusedSimpArgs false
set_option linter.unusedVariables false
namespace Go.Eng
open Go Go.RowKit
section
variable{P:Program}{tt:List (Nat×TI)}{ops:Array Oper}{Q:Exit→Act→World→Prop}{o:Oper}{rest:List Oper}
 {n:Nat} {F:z05} {C:List Nat} {O:Own} {nl:Nat} {V:Vw} {K:Act→World→Prop}
def Vw.put(V:Vw)(b:Nat)(ob:Obj):Vw:=⟨fun k=>if k=b then some ob else V.get k,V.os,V.tape,V.output⟩
theorem Mem.vext{E:Env}{w:World}(hm:Mem E O nl V w)(ob:Obj):Vext w.heap.size V (V.put w.heap.size ob) (w.alloc ob):=by
 have hno: ∀k o',V.get k=some o'→k<w.heap.size:=fun k o' h=>(Array.getElem?_eq_some_iff.1 (hm.get k o' h)).1
 refine⟨⟨?_,rfl,rfl,rfl⟩, ?_⟩
 ·
  intro k o' h
  have:=hno k o' h
  simp only[Vw.put]
  rw[if_neg (by omega)]
  exact h
 ·
  intro k o' h
  simp only[Vw.put]at h
  by_cases hk:k=w.heap.size
  ·
   rw[if_pos hk]at h
   cases h
   subst hk
   exact⟨heap_alloc_new w _, .inr (Nat.le_refl _)⟩
  ·
   rw[if_neg hk]at h
   have hlt:=hno k o' h
   exact⟨by rw[heap_alloc_old w _ hlt];exact hm.get _ _ h, .inl h⟩
theorem j7u{p:List (Nat×Bool)}{g:Bool}{C':List Nat}{d:Nat}(mk:Nat→Value)(ob:Obj)
  (hg:gd ops F C o.guard=some (p,g,C')) (hd:o.dst=some d) (hc:(Nat.blt d n&& !(z2w d C'))=true)
  (hy:g=true→ ∀E (a:Act) w,Frm E n F C' nl a.tmps→z61 F p=true→Mem E O nl V w→(execOp a.eval o).run P w= .ok (.value (mk w.heap.size)) (w.alloc ob))
  (next: ∀b V',V.le V'→(g=true→V'.get b=some ob)→KJ (wpList P ops Q rest) n ((d,⟨p,g, .a (.v (mk b))⟩)::F) C' O nl V'):KJ (wpList P ops Q (o::rest)) n F C O nl V:=by
 constructor
 intro E a w hdf hf hm
 obtain⟨h1,h2,h3,h4⟩:=z18 hf hg
 simp only[Bool.and_eq_true,z0e,Bool.not_eq_true']at hc
 unfold wpList
 rw[h1]
 cases g with
 |true=>
  simp only[if_true]
  left
  unfold Oper.wp
  rw[hy rfl E a w h2 h3.symm hm]
  show wpList P ops Q rest (a.put o.dst _) _
  rw[hd]
  have hv:=hm.vext ob
  refine(next w.heap.size _ hv.le (fun _=>by simp[Vw.put])).out E _ _ (by simp[Act.put,hdf]) ?_<|hm.ext (z29 w ob) hv
  have:=Frm.put (p:=p) (g:=true) (s:= .a (.v (mk w.heap.size))) h2 hc.1 hc.2 h3 h4 (fun _=>rfl)
  simpa[SV.den,A.den]using this
 |false=>
  simp only[Bool.false_eq_true,if_false,hd]
  refine(next 0 V (Vw.le.refl _) (by simp)).out E _ w (by simp[Act.put,hdf]) ?_ hm
  have:=Frm.put (p:=p) (g:=false) (s:= .a (.v (mk 0))) h2 hc.1 hc.2 h3 h4 (by simp)
  simpa using this
def z6z:Nat→List Value→List Value
 |0,_=>[]
 |n+1,z=>z++z6z n z
theorem z4d(z:List Value): ∀n,(z6z n z).length=n*z.length
 |0=>by simp[z6z]
 |n+1=>by simp[z6z,z4d z n,Nat.add_mul];omega
theorem zmo(z:List Value): ∀(n i:Nat),i<n*z.length→(z6z n z)[i]? =z[i%z.length]?
 |0,i,h=>by simp at h
 |n+1,i,h=>by
  simp only[z6z,List.getElem?_append]
  by_cases hi:i<z.length
  · rw[if_pos hi,Nat.mod_eq_of_lt hi]
  ·
   have h':i<n*z.length+z.length:=by rwa [Nat.add_mul,Nat.one_mul]at h
   rw[if_neg hi,zmo z n (i - z.length) (by omega)]
   have:=Nat.mod_eq_sub_mod (show i≥z.length by omega)
   rw[this]
theorem zgq(z:Array Value)(n:Nat):(Array.range (n*z.size)).map (fun i=>z[i%z.size]!)=(z6z n z.toList).toArray:=by
 apply Array.ext_getElem?
 intro i
 by_cases hi:i<n*z.size
 ·
  have hpos:0<z.size:=by
   rcases Nat.eq_zero_or_pos z.size with h|h
   · simp[h]at hi
   · exact h
  have hm:i%z.size<z.size:=Nat.mod_lt _ hpos
  have:=zmo z.toList n i (by simpa using hi)
  simp only[Array.length_toList,Array.getElem?_toList]at this
  simp[hi,this,hm]
 ·
  have h1:((Array.range (n*z.size)).map (fun i=>z[i%z.size]!)).size≤i:=by simp;omega
  have h2:(z6z n z.toList).toArray.size≤i:=by simp[z4d];omega
  rw[Array.getElem?_eq_none h1,Array.getElem?_eq_none h2]
def zbr(e sz:Nat):Nat→Nat→List (Nat×Nat×Nat)
 |0,_=>[]
 |n+1,i=>(i*sz,e,sz)::zbr e sz n (i+1)
theorem z82(e sz:Nat): ∀(n i j:Nat) (q:Nat×Nat×Nat),(zbr e sz n i)[j]? =some q→q=((i+j)*sz,e,sz)
 |0,i,j,q,h=>by simp[zbr]at h
 |n+1,i,0,q,h=>by simp[zbr]at h;simp[←h]
 |n+1,i,j+1,q,h=>by
  simp only[zbr,List.getElem?_cons_succ]at h
  have:=z82 e sz n (i+1) j q h
  rw[this]
  congr 2
  omega
def zdw:List A→Option (List Value)
 |[]=>some []
 | .v x::r=>match zdw r with
  |some l=>some (x::l)
  |none=>none
 |_=>none
theorem z9g{E:Env}: ∀{l:List A} {vs:List Value},zdw l=some vs→l.map (A.den E)=vs
 |[],vs,h=>by simp[zdw]at h;subst h;rfl
 |x::r,vs,h=>by
  cases x with
  |v x=>
   simp only[zdw]at h
   split at h
   ·
    rename_i l hl
    simp only[Option.some.injEq]at h
    subst h
    simp[A.den,z9g hl]
   · simp at h
  |_=>simp[zdw]at h
def zf9(tt:List (Nat×TI))(F:z05)(O:Own)(p:List (Nat×Bool)):Op→Option (Nat×List Value×Nat)
 | .buildSlice t len parts=>match lk tt t with
  |some ⟨_,_,_,_, .slice e⟩=>match lk tt e with
   |some ti=>bif Nat.ble (len*ti.size) 16777216&&Nat.beq ti.zero.length ti.size then
     (match zbl F O p (zbr e ti.size len 0) parts.toList ((z6z len ti.zero).map .v)with
      |some cs=>match zdw cs with
       |some vs=>some (len,vs,e)
       |none=>none
      |none=>none)else none
   |none=>none
  |_=>none
 |_=>none
theorem z7s(htt:z0s P tt){E:Env}{a:Act}{w:World}{p:List (Nat×Bool)}(hf:Frm E n F C nl a.tmps)(hgv:z61 F p=true)(hm:Mem E O nl V w){len e:Nat}{vs:List Value}
  (hv:zf9 tt F O p o.op=some (len,vs,e)):
  (execOp a.eval o).run P w= .ok (.value (.slice (some ⟨w.heap.size,0,none⟩) len len)) (w.alloc (.cells vs.toArray e (0,0))):=by
 unfold execOp
 cases hop:o.op with
 |buildSlice t len' parts=>
  simp only[hop,zf9]at hv
  split at hv
  ·
   rename_i sz by_ z fl e' hti
   split at hv
   ·
    rename_i ti hte
    cases hcd:(Nat.ble (len'*ti.size) 16777216&&Nat.beq ti.zero.length ti.size)with
    |false=>simp[hcd]at hv
    |true=>
     simp only[hcd,cond_true]at hv
     simp only[Bool.and_eq_true,Nat.ble_eq,Nat.beq_eq]at hcd
     split at hv
     ·
      rename_i cs hcs
      split at hv
      ·
       rename_i vs' hvs
       simp only[Option.some.injEq,Prod.mk.injEq]at hv
       obtain⟨rfl,rfl,rfl⟩:=hv
       obtain⟨dd,hdd,hk,_⟩:=(htt _ _ hti).und
       have hdb:dd= .slice e':=by cases dd<;>simp[z19]at hk;rw[hk]
       subst hdb
       obtain⟨zv,hz,hzc⟩:=(htt _ _ hte).zeroValue w
       have hv: ∀l:List Value,(l.map A.v).map (A.den E)=l∧z0z nl (l.map A.v)=true:=by
        intro l
        induction l with
        |nil=>exact⟨rfl,rfl⟩
        |cons x r ih=>exact⟨by simp[A.den,ih.1],by simp[z0z,A.ok,ih.2]⟩
       obtain⟨hfill,_⟩:=z6i (E:=E) hf hm hgv (place:=fun i=>some (i*ti.size,ti.size)) (fun i q h=>by rw[z82 _ _ _ _ _ _ h];simp) hcs (hv _).2
       rw[(hv _).1,z9g hvs]at hfill
       have hzs:zv.cells.size=ti.size:=by rw[←hcd.2,←hzc];simp
       have hzero:(Array.range (len'*ti.size)).map (fun i=>zv.cells[i%zv.cells.size]!)=(z6z len' ti.zero).toArray:=by
        rw[←hzc,←hzs];exact zgq _ _
       have hle: ¬(len'*ti.size>2^24):=by have:=hcd.1;omega
       have hparts:(parts.map fun(q:Nat×Operand)=>(q.1,a.eval q.2)).toList=parts.toList.map fun q=>(q.1,a.eval q.2):=by simp
       have hrun:(Instr.buildSlice t len' (parts.map fun(q:Nat×Operand)=>(q.1,a.eval q.2))).run P w= .ok (.slice (some ⟨w.heap.size,0,none⟩) len' len') (w.alloc (.cells vs'.toArray e' (0,0))):=by
        by_cases h0:len'*ti.size=0
        ·
         have hz0:(Array.range (len'*ti.size)).map (fun i=>(#[]:Array Value)[i%(#[]:Array Value).size]!)=(z6z len' ti.zero).toArray:=by
          have h1:z6z len' ti.zero=[]:=by
           apply List.eq_nil_of_length_eq_zero
           rw[z4d,hcd.2];exact h0
          simp[h0,h1]
         simp only[Instr.buildSlice,Sem.run_bind,run_underlying hdd,Result.andThen_ok,(htt _ _ hte).sizeOf,hle,if_false,h0,if_true,Sem.run_pure,Sem.run_ite]
         rw[h0]at hz0
         simp only[hz0,hparts,hfill]
         simp[newRow]
        ·
         simp only[Instr.buildSlice,Sem.run_bind,run_underlying hdd,Result.andThen_ok,(htt _ _ hte).sizeOf,hle,if_false,h0,hz,Sem.run_pure,Sem.run_ite,hzero,hparts,hfill]
         simp[newRow]
       have hrun':(Instr.buildSlice t len' (parts.map fun x=>match x with|(i,x)=>(i,a.eval x))).run P w= .ok (.slice (some ⟨w.heap.size,0,none⟩) len' len') (w.alloc (.cells vs'.toArray e' (0,0))):=hrun
       simp only[Sem.run_bind,hrun',Result.andThen_ok,Sem.run_pure]
      · simp at hv
     · simp at hv
   · simp at hv
  · simp at hv
 |_=>simp[hop,zf9]at hv
theorem zp7(htt:z0s P tt){p:List (Nat×Bool)}{g:Bool}{C':List Nat}{d len e:Nat}{vs:List Value}
  (hg:gd ops F C o.guard=some (p,g,C')) (hv:zf9 tt F O p o.op=some (len,vs,e)) (hd:o.dst=some d) (hc:(Nat.blt d n&& !(z2w d C'))=true)
  (next: ∀b V',V.le V'→(g=true→V'.get b=some (.cells vs.toArray e (0,0)))→KJ (wpList P ops Q rest) n ((d,⟨p,g, .a (.v (.slice (some ⟨b,0,none⟩) len len))⟩)::F) C' O nl V'):KJ (wpList P ops Q (o::rest)) n F C O nl V:=
 j7u (fun b=> .slice (some ⟨b,0,none⟩) len len) _ hg hd hc (fun _ E a w hf hgv hm=>z7s htt hf hgv hm hv) next
theorem SlOf.ofBlock{α:Type}{V:Vw}{enc:α→List Value}{sz b e c:Nat}{fz:Nat×Nat}{l:List α}{xs:List Value}(hb:V.get b=some (.cells xs.toArray e fz))(hx:xs=l.flatMap enc)(hl: ∀x,(enc x).length=sz)(hc:l.length≤c):
  SlOf V enc sz (.slice (some ⟨b,0,none⟩) l.length c) l:=by
 have hlen: ∀l:List α,(l.flatMap enc).length=l.length*sz:=by
  intro l
  induction l with
  |nil=>simp
  |cons x r ih=>simp[ih,hl,Nat.add_mul];omega
 refine⟨⟨hlen l, .inr ⟨b,0,c,xs.toArray,e,fz,rfl,hb, ?_, ?_,hc⟩⟩,hl⟩
 · subst hx;simp[hlen]
 ·
  subst hx
  show _=((l.flatMap enc).drop 0).take (l.length*sz)
  rw[List.drop_zero,←hlen l,List.take_length]
end
end Go.Eng
