/-
 What comes in, read as data: structs cell by cell, slices of such; and the step from a contract to a law's statement.
-/
import Derived.Test.YtkoiogkdiifgfaaGreatEng26
import Derived.ProofKit
import Derived.OpenShut
import Derived.ShutString
import Derived.ChangeOld
import Derived.Deep.Slices
set_option linter.unusedSimpArgs false
set_option linter.unusedVariables false
namespace Go.Eng
open Go Go.RowKit Go.ChangeShapes
section
variable{H:Type}{enc:TypeId×Value→H}{P:Program}{w:World}{base:Nat}{spare:Nat→Bool}{held:Bool}{tt:List (Nat×TI)}
def zyq(enc:TypeId×Value→H)(P:Program)(w:World)(base:Nat)(spare:Nat→Bool)(held:Bool)(u:Nat)(c:Value):Prop:=
 ∃fuel x,DataW.trod enc P w base spare held fuel u [c]=some x
def zvf{α β:Type}(R:α→β→Prop):List α→List β→Prop
 |[],[]=>True
 |a::r,b::s=>R a b∧zvf R r s
 |_,_=>False
theorem zvf.append{α β:Type}{R:α→β→Prop}: ∀{a:List α} {b:List β} {c:List α} {d:List β},zvf R a b→zvf R c d→zvf R (a++c) (b++d)
 |[],[],_,_,_,h=>h
 |_::_,_::_,_,_,h1,h2=>⟨h1.1,zvf.append h1.2 h2⟩
 |[],_::_,_,_,h1,_=>h1.elim
 |_::_,[],_,_,h1,_=>h1.elim
def zg8:List (Nat×Nat×Nat)→Nat→Nat→Bool
 |[],acc,size=>Nat.beq acc size
 |(off,_,sz)::r,acc,size=>Nat.beq off acc&&zg8 r (acc+sz) size
def zd7(f:Nat→Option (List Nat)):List (Nat×Nat×Nat)→Option (List Nat)
 |[]=>some []
 |(_,t,_)::r=>match f t with
  |some l=>match zd7 f r with
   |some m=>some (l++m)
   |none=>none
  |none=>none
def zh3(tt:List (Nat×TI)):Nat→Nat→Option (List Nat)
 |0,_=>none
 |n+1,t=>match lk tt t with
  |some i=>match i.kind with
   | .struct=>bif zg8 i.flds 0 i.size then zd7 (zh3 tt n) i.flds else none
   | .int _=>some [t]
   | .bool=>some [t]
   | .str=>some [t]
   | .slice _=>some [t]
   |_=>none
  |none=>none
theorem zdh{R:Nat→Value→Prop}{f:Nat→Option (List Nat)}{cs:List Value}: ∀{flds:List (Nat×Nat×Nat)} {acc size:Nat} {us:List Nat},zg8 flds acc size=true→zd7 f flds=some us→
  cs.length=size→(∀q∈flds,∀l,f q.2.1=some l→zvf R l ((cs.drop q.1).take q.2.2))→zvf R us (cs.drop acc)
 |[],acc,size,us,hc,hu,hl,_=>by
  simp only[zg8,Nat.beq_eq]at hc
  simp only[zd7,Option.some.injEq]at hu
  subst hu hc
  rw[←hl,List.drop_length]
  trivial
 |(off,t,sz)::r,acc,size,us,hc,hu,hl,hq=>by
  simp only[zg8,Bool.and_eq_true,Nat.beq_eq]at hc
  simp only[zd7]at hu
  split at hu
  ·
   rename_i l hfl
   split at hu
   ·
    rename_i m hm
    simp only[Option.some.injEq]at hu
    subst hu
    have h1:=hq (off,t,sz) (by simp) l hfl
    have h2:=zdh (R:=R) (cs:=cs) hc.2 hm hl (fun q hq'=>hq q (by simp[hq']))
    rw[hc.1]at h1
    have:cs.drop acc=(cs.drop acc).take sz++cs.drop (acc+sz):=by
     rw[←List.drop_drop,List.take_append_drop]
    rw[this]
    exact h1.append h2
   · simp at hu
  · simp at hu
theorem z71(htt:z0s P tt): ∀(n t:Nat) (us:List Nat),zh3 tt n t=some us→ ∀{fuel:Nat} {cs:List Value} {x:DataW H×List MemPlace},
  DataW.trod enc P w base spare held fuel t cs=some x→zvf (zyq enc P w base spare held) us cs
 |0,t,us,h,_,_,_,_=>by simp[zh3]at h
 |n+1,t,us,h,fuel,cs,x,hx=>by
  simp only[zh3]at h
  split at h
  ·
   rename_i i hi
   have hT:=htt _ _ hi
   obtain⟨d,hd,hk,hfd⟩:=hT.und
   have one: ∀v,cs=[v]→us=[t]→zvf (zyq enc P w base spare held) us cs:=by
    rintro v rfl rfl
    exact⟨⟨fuel,x,hx⟩,trivial⟩
   split at h
   ·
    rename_i hkk
    cases hcg:zg8 i.flds 0 i.size with
    |false=>simp[hcg]at h
    |true=>
     simp only[hcg,cond_true]at h
     rw[hkk]at hk
     have hst: ∃fields,d= .struct fields:=by cases d<;>first|exact⟨_,rfl⟩|(simp[z19]at hk)
     obtain⟨fields,rfl⟩:=hst
     obtain⟨xs,m,rfl,_,hlen,hxl,hall⟩:=DataW.trod_struct hd hx
     have hsz:P.cellsOf t=i.size:=by
      obtain⟨f,hf,hs,_⟩:=hT.info
      simp[Program.cellsOf,hf,hs]
     simp only[fieldsOf]at hfd
     have:=zdh (R:=zyq enc P w base spare held) (cs:=cs) hcg h (by rw[hlen,hsz]) (fun q hq l hl=> ?_)
     · simpa using this
     ·
      rw[←hfd]at hq
      simp only[List.mem_map]at hq
      obtain⟨f,hfm,rfl⟩:=hq
      obtain⟨j,hj,hfj⟩:=List.getElem_of_mem hfm
      have hj':fields[j]? =some f:=by
       rw[←hfj];simp
      have h1:=hall j f hj'
      have hjx:j<xs.length:=by rw[hxl];simpa using hj
      rw[List.getElem?_eq_getElem hjx]at h1
      exact z71 htt n f.type l hl h1
   ·
    rename_i k hkk
    rw[hkk]at hk
    have hdb:d= .int k:=by cases d<;>simp[z19]at hk;rw[hk]
    subst hdb
    obtain⟨m,rfl,_⟩:=DataW.trod_int hd hx
    exact one _ rfl (by simpa using h.symm)
   ·
    rename_i hkk
    rw[hkk]at hk
    have hdb:d= .bool:=by cases d<;>simp[z19]at hk<;>rfl
    subst hdb
    obtain⟨m,rfl,_⟩:=DataW.trod_bool hd hx
    exact one _ rfl (by simpa using h.symm)
   ·
    rename_i hkk
    rw[hkk]at hk
    have hdb:d= .string:=by cases d<;>simp[z19]at hk<;>rfl
    subst hdb
    obtain⟨m,rfl,_⟩:=DataW.trod_string hd hx
    exact one _ rfl (by simpa using h.symm)
   ·
    rename_i e hkk
    rw[hkk]at hk
    have hdb:d= .slice e:=by cases d<;>simp[z19]at hk;rw[hk]
    subst hdb
    rcases Go.Deep.open_slice hd hx with⟨rfl,_⟩|⟨a,len,cap,_,_,_,_,rfl,_⟩
    · exact one _ rfl (by simpa using h.symm)
    · exact one _ rfl (by simpa using h.symm)
   · simp at h
  · simp at h
theorem z23(htt:z0s P tt){u:Nat}{c:Value}{s b:Nat}{z:List Value}{fl:List (Nat×Nat×Nat)}{k:IntKind}(hu:lk tt u=some ⟨s,b,z,fl, .int k⟩)(h:zyq enc P w base spare held u c):
  ∃n,c= .int k n∧(Lit.int k n).wf=true:=by
 obtain⟨fuel,x,hx⟩:=h
 obtain⟨d,hd,hk,_⟩:=(htt _ _ hu).und
 have hdb:d= .int k:=by cases d<;>simp[z19]at hk;rw[hk]
 subst hdb
 obtain⟨n,hn,_,hw⟩:=DataW.trod_int hd hx
 exact⟨n,by simpa using hn,hw⟩
theorem zc6(htt:z0s P tt){u:Nat}{c:Value}{s b:Nat}{z:List Value}{fl:List (Nat×Nat×Nat)}(hu:lk tt u=some ⟨s,b,z,fl, .str⟩)(h:zyq enc P w base spare held u c):
  ∃n:ByteArray,c= .string n∧n.size≤maxLen:=by
 obtain⟨fuel,x,hx⟩:=h
 obtain⟨d,hd,hk,_⟩:=(htt _ _ hu).und
 have hdb:d= .string:=by cases d<;>simp[z19]at hk<;>rfl
 subst hdb
 obtain⟨n,hn,_,hl⟩:=DataW.trod_string hd hx
 exact⟨n,by simpa using hn,hl⟩
theorem zlc{t e sz:Nat}{v:Value}{fuel:Nat}{x:DataW H×List MemPlace}(ht:P.underlying t=some (.slice e))(hsz:P.cellsOf e=sz)(hpos:0<sz)(h:DataW.trod enc P w base spare held fuel t [v]=some x):
  (v= .slice none 0 0)∨ ∃b off len cap cs n,∃a:Option Addr,v= .slice a len cap∧len≤cap∧cap≤maxLen∧(0<len→a=some ⟨b,off,none⟩∧(∃el fz,w.heap[b]? =some (.cells cs el fz))∧off+len*sz≤cs.size∧
   ∀i,i<len→ ∃y,DataW.trod enc P w base spare held n e ((cs.toList.drop (off+i*sz)).take sz)=some y):=by
 rcases Go.Deep.open_slice ht h with⟨h1,_⟩|⟨a,len,cap,m,n,D,Pl,h1,hb,hl,hm,hmm,_,hall⟩
 · left;simpa using h1
 ·
  right
  have hv:v= .slice (some a) len cap:=by simpa using h1
  by_cases h0:0<len
  ·
   have hml:len≤m:=by rw[hmm];split<;>omega
   rw[hsz]at hall
   have hcell: ∀i,i<len→ ∀j,j<sz→ ∃c,w.cell? (a.add (i*sz+j))=some c:=by
    intro i hi j hj
    obtain⟨cs',hc,_⟩:=hall i (by omega)
    obtain⟨_,hlen,hg⟩:=World.cells?_some hc
    have h1:=hg j hj
    rw[Go.Deep.add_add]at h1
    exact⟨_,h1.trans (List.getElem?_eq_getElem (by omega))⟩
   obtain⟨b,off,spot⟩:=a
   have hspot:spot=none:=by
    obtain⟨c,hc⟩:=hcell 0 h0 0 hpos
    simp only[Nat.zero_mul,Nat.add_zero]at hc
    simpa[Addr.add]using World.cell?_spot hc
   subst hspot
   obtain⟨cs,el,fz,hblk⟩: ∃cs el fz,w.heap[b]? =some (.cells cs el fz):=by
    obtain⟨c,hc⟩:=hcell 0 h0 0 hpos
    simp only[Nat.zero_mul,Nat.add_zero,Addr.add_lit]at hc
    unfold World.cell? at hc
    split at hc
    · rename_i cs el fz hh;exact⟨cs,el,fz,hh⟩
    · cases hc
   have hget: ∀k,w.cell? ((⟨b,off,none⟩:Addr).add k)=cs[off+k]? :=by
    intro k
    rw[Addr.add_lit]
    simp[World.cell?,hblk]
   have hlast:off+len*sz≤cs.size:=by
    obtain⟨c,hc⟩:=hcell (len - 1) (by omega) (sz - 1) (by omega)
    rw[hget]at hc
    have hlt:=(Array.getElem?_eq_some_iff.1 hc).1
    have:(len - 1)*sz+sz=len*sz:=by
     rw[←Nat.succ_mul];congr 1;omega
    omega
   refine⟨b,off,len,cap,cs,n,_,hv,hl,hm,fun _=>⟨rfl,⟨el,fz,hblk⟩,hlast, ?_⟩⟩
   intro i hi
   obtain⟨cs',hc,ht'⟩:=hall i (by omega)
   obtain⟨_,hlen,hg⟩:=World.cells?_some hc
   refine⟨(D i,Pl i), ?_⟩
   rw[←ht']
   congr 1
   apply List.ext_getElem?
   intro j
   by_cases hj:j<sz
   ·
    have h1:=hg j hj
    rw[Go.Deep.add_add,hget]at h1
    rw[List.getElem?_take,if_pos hj,List.getElem?_drop]
    rw[←h1]
    simp[Nat.add_assoc]
   · rw[List.getElem?_take,if_neg hj,List.getElem?_eq_none (by omega)]
  · exact⟨0,0,len,cap, #[],0,some a,hv,hl,hm,fun h=>absurd h h0⟩
theorem zdf{α:Type}{enc':α→List Value}{sz:Nat}(hl: ∀a,(enc' a).length=sz){Good:α→Prop}: ∀(n:Nat) (cells:List Value),cells.length=n*sz→
  (∀i,i<n→ ∃a,enc' a=(cells.drop (i*sz)).take sz∧Good a)→ ∃l:List α,l.length=n∧l.flatMap enc'=cells∧ ∀a∈l,Good a
 |0,cells,hc,_=>⟨[],rfl,by
   have:cells=[]:=List.eq_nil_of_length_eq_zero (by simpa using hc)
   simp[this],by simp⟩
 |n+1,cells,hc,h=>by
  rw[Nat.add_mul,Nat.one_mul]at hc
  obtain⟨a,ha,hg⟩:=h 0 (by omega)
  simp only[Nat.zero_mul,List.drop_zero]at ha
  obtain⟨l,h1,h2,h3⟩:=zdf hl (Good:=Good) n (cells.drop sz) (by simp;omega) (fun i hi=>by
   obtain⟨b,hb,hgb⟩:=h (i+1) (by omega)
   refine⟨b, ?_,hgb⟩
   rw[hb,List.drop_drop]
   congr 2
   rw[Nat.add_mul,Nat.one_mul,Nat.add_comm])
  refine⟨a::l,by simp[h1], ?_, ?_⟩
  · rw[List.flatMap_cons,ha,h2,List.take_append_drop]
  ·
   intro b hb
   rcases List.mem_cons.1 hb with rfl|hb
   · exact hg
   · exact h3 b hb
theorem zx4{α:Type}{enc':α→List Value}{Good:α→Prop}{t e sz:Nat}{v:Value}(ht:P.underlying t=some (.slice e))(hsz:P.cellsOf e=sz)(hpos:0<sz)(hl: ∀a,(enc' a).length=sz)
  (hdec: ∀(fuel:Nat) (cs:List Value) (x:DataW H×List MemPlace),DataW.trod enc P w base spare held fuel e cs=some x→ ∃a,enc' a=cs∧Good a)
  (h:zyq enc P w base spare held t v): ∃l:List α,SlOf (vw w) enc' sz v l∧l.length≤maxLen∧ ∀a∈l,Good a:=by
 obtain⟨fuel,x,hx⟩:=h
 rcases zlc ht hsz hpos hx with rfl|⟨b,off,len,cap,cs,n,a,rfl,hlc,hm,hall⟩
 · exact⟨[],⟨⟨by simp, .inl ⟨none,0,rfl,rfl⟩⟩,hl⟩,Nat.zero_le _,by simp⟩
 ·
  rcases Nat.eq_zero_or_pos len with h0|h0
  ·
   subst h0
   exact⟨[],⟨⟨by simp, .inl ⟨a,cap,rfl,rfl⟩⟩,hl⟩,Nat.zero_le _,by simp⟩
  ·
   obtain⟨rfl,⟨el,fz,hblk⟩,hsize,hel⟩:=hall h0
   obtain⟨l,h1,h2,h3⟩:=zdf hl (Good:=Good) len ((cs.toList.drop off).take (len*sz)) (by simp;omega) (fun i hi=>by
    obtain⟨y,hy⟩:=hel i hi
    obtain⟨a,ha,hg⟩:=hdec _ _ _ hy
    refine⟨a, ?_,hg⟩
    rw[ha,List.drop_take,List.take_take,List.drop_drop]
    congr 1
    have:(i+1)*sz≤len*sz:=Nat.mul_le_mul_right _ (by omega)
    rw[Nat.add_mul,Nat.one_mul]at this
    omega)
   refine⟨l,⟨⟨?_, .inr ⟨b,off,cap,cs,el,fz,by rw[h1],hblk,by rw[h1];exact hsize,by rw[h1,h2],by rw[h1];exact hlc⟩⟩,hl⟩,by omega,h3⟩
   rw[h2,h1]
   simp
   omega
theorem z4h{α:Type}(htt:z0s P tt){enc':α→List Value}{Good:α→Prop}{u e:Nat}{c:Value}{s b:Nat}{z:List Value}{fl:List (Nat×Nat×Nat)}{ei:TI}
  (hu:lk tt u=some ⟨s,b,z,fl, .slice e⟩) (he:lk tt e=some ei) (hpos:Nat.blt 0 ei.size=true) (hl: ∀a,(enc' a).length=ei.size)
  (hdec: ∀(fuel:Nat) (cs:List Value) (x:DataW H×List MemPlace),DataW.trod enc P w base spare held fuel e cs=some x→ ∃a,enc' a=cs∧Good a)
  (h:zyq enc P w base spare held u c): ∃l:List α,SlOf (vw w) enc' ei.size c l∧l.length≤maxLen∧ ∀a∈l,Good a:=by
 obtain⟨d,hd,hk,_⟩:=(htt _ _ hu).und
 have hdb:d= .slice e:=by cases d<;>simp[z19]at hk;rw[hk]
 subst hdb
 have hsz:P.cellsOf e=ei.size:=by
  obtain⟨f,hf,hs,_⟩:=(htt _ _ he).info
  simp[Program.cellsOf,hf,hs]
 exact zx4 hd hsz (z0e.1 hpos) hl hdec h
theorem zil{t:Nat}{v:Value}{d:DataW H}{ps:List MemPlace}(h:DataW.Trod enc P w base spare held t v d ps)(hv:v.cells.toList=[v]):zyq enc P w base spare held t v:=by
 obtain⟨fuel,hf⟩:=h
 rw[hv]at hf
 exact⟨fuel,_,hf⟩
end
end Go.Eng
