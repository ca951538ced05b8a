/-
 Memory that a caller has, handed in: taken out of the view, given back changed.
-/
import Derived.Test.YtkoiogkdiifgfaaGreatEng15
set_option linter.unusedSimpArgs false
set_option linter.unusedVariables false
namespace Go.Eng
open Go Go.RowKit
def Vw.del(V:Vw)(b:Nat):Vw:=⟨fun k=>if k=b then none else V.get k,V.os,V.tape,V.output⟩
def Vw.delO(V:Vw):Option Nat→Vw
 |some b=>V.del b
 |none=>V
theorem Vw.del_le(V:Vw)(b:Nat):(V.del b).le V:=by
 refine⟨fun k o h=> ?_,rfl,rfl,rfl⟩
 simp only[Vw.del]at h
 split at h
 · cases h
 · exact h
theorem Vw.delO_le(V:Vw)(b:Option Nat):(V.delO b).le V:=by
 cases b with
 |none=>exact Vw.le.refl _
 |some b=>exact V.del_le b
structure Touch(S:Nat→Prop)(w w':World):Prop where
 os:w'.os=w.os
 tape:w'.tape=w.tape
 output:w'.output=w.output
 size:w.heap.size≤w'.heap.size
 block: ∀k,k<w.heap.size→ ¬S k→w'.heap[k]? =w.heap[k]?
theorem Touch.below{S:Nat→Prop}{w w':World}(h:Touch S w w')(hs: ∀k,k<w.heap.size→S k→w'.heap[k]? =w.heap[k]?):Below w.heap.size w w':=
 ⟨h.os,h.tape,h.output,h.size,fun k hk=>by
  by_cases hS:S k
  · exact hs k hk hS
  · exact h.block k hk hS⟩
section
variable{n:Nat}{F:z05}{C:List Nat}{O:Own}{nl:Nat}{V:Vw}{E:Env}{w:World}
theorem Mem.addLit(hm:Mem E O nl V w){b e:Nat}{cs:List A}(hb:V.get b=some (.cells (cs.map (A.den E)).toArray e (0,0)))(hok:z0z nl cs=true):
  Mem (E.setρ nl b) ((nl, .lit cs e)::O) (nl+1) (V.del b) w:=by
 have ag:E.agree nl (E.setρ nl b):=E.agree_setρ b
 have old: ∀l' c,lk ((nl,Cel.lit cs e)::O) l'=some c→l'≠nl→lk O l'=some c:=fun l' c h hne=>by
  rwa [z22 _ _ (fun x=>hne x.symm)]at h
 have hbl: ∀l' c k,lk O l'=some c→blk (E.setρ nl b) l' c=some k→blk E l' c=some k∧k≠b:=fun l' c k ho h=>by
  rw[z1p ag (hm.lab _ _ ho)]at h
  refine⟨h,fun e=> ?_⟩
  have:=hm.off _ _ _ ho h
  rw[e,hb]at this
  cases this
 refine⟨?_, ?_, ?_,fun k o h=>hm.get k o ((V.del_le b).get k o h), ?_,hm.os,hm.tape,hm.output, ?_, ?_, ?_, ?_, ?_⟩
 ·
  intro l cs' q h
  by_cases hne:l=nl
  ·
   subst hne
   rw[z0f]at h
   cases h
   rw[A.map_agree ag hok]
   simpa[Env.setρ]using hm.get _ _ hb
  ·
   have ho:=old _ _ h hne
   rw[(ag l (hm.lab _ _ ho)).1,A.map_agree ag (hm.labs _ _ _ ho)]
   exact hm.lit _ _ _ ho
 ·
  intro l q s n' ys h
  by_cases hne:l=nl
  · subst hne;rw[z0f]at h;cases h
  ·
   have ho:=old _ _ h hne
   rw[(ag l (hm.lab _ _ ho)).2]
   exact hm.row _ _ _ _ _ ho
 ·
  intro l1 l2 c1 c2 k h1 h2 hk1 hk2
  by_cases e1:l1=nl
  ·
   by_cases e2:l2=nl
   · rw[e1,e2]
   ·
    subst e1
    rw[z0f]at h1
    cases h1
    have hk:b=k:=by simpa[blk,Env.setρ]using hk1
    exact absurd hk.symm (hbl _ _ _ (old _ _ h2 e2) hk2).2
  ·
   by_cases e2:l2=nl
   ·
    subst e2
    rw[z0f]at h2
    cases h2
    have hk:b=k:=by simpa[blk,Env.setρ]using hk2
    exact absurd hk.symm (hbl _ _ _ (old _ _ h1 e1) hk1).2
   · exact hm.sep _ _ _ _ _ (old _ _ h1 e1) (old _ _ h2 e2) (hbl _ _ _ (old _ _ h1 e1) hk1).1 (hbl _ _ _ (old _ _ h2 e2) hk2).1
 ·
  intro l c k h hk1
  by_cases hne:l=nl
  ·
   subst hne
   rw[z0f]at h
   cases h
   have hk:b=k:=by simpa[blk,Env.setρ]using hk1
   simp[Vw.del,hk]
  ·
   obtain⟨h1,h2⟩:=hbl _ _ _ (old _ _ h hne) hk1
   simp only[Vw.del,h2,if_false]
   exact hm.off _ _ _ (old _ _ h hne) h1
 ·
  intro l c h
  by_cases hne:l=nl
  · omega
  · have:=hm.lab _ _ (old _ _ h hne);omega
 ·
  intro l cs' q h
  by_cases hne:l=nl
  · subst hne;rw[z0f]at h;cases h;exact z15 (Nat.le_succ _) hok
  · exact z15 (Nat.le_succ nl) (hm.labs _ _ _ (old _ _ h hne))
 ·
  intro l q b' h
  by_cases hne:l=nl
  · subst hne;rw[z0f]at h;cases h
  ·
   obtain⟨h1,h2⟩:=hm.pin _ _ _ (old _ _ h hne)
   exact⟨(ag q h2).1.trans h1,Nat.lt_succ_of_lt h2⟩
 ·
  intro l k h
  by_cases hne:l=nl
  · subst hne;rw[z0f]at h;cases h
  · exact hm.big _ _ (old _ _ h hne)
 ·
  intro l q b' v' h
  by_cases hne:l=nl
  · subst hne;rw[z0f]at h;cases h
  ·
   obtain⟨h1,h2,h3⟩:=hm.kp _ _ _ _ (old _ _ h hne)
   exact⟨(ag q h3).1.trans h1,(ag q h3).2.trans h2,Nat.lt_succ_of_lt h3⟩
theorem Mem.addRow(hm:Mem E O nl V w){e sz m:Nat}{v:Value}{xs:List Value}(hr:w.ownsRow 0 e sz v m xs)(hV: ∀k,v.ownBlock=some k→(V.get k).isSome=true):
  Mem (E.setκ nl v) ((nl, .row e sz m xs)::O) (nl+1) (V.delO v.ownBlock) w:=by
 have ag:E.agree nl (E.setκ nl v):=Env.agree_setκ E v
 have old: ∀l' c,lk ((nl,Cel.row e sz m xs)::O) l'=some c→l'≠nl→lk O l'=some c:=fun l' c h hne=>by
  rwa [z22 _ _ (fun x=>hne x.symm)]at h
 have hbl: ∀l' c k,lk O l'=some c→blk (E.setκ nl v) l' c=some k→blk E l' c=some k∧v.ownBlock≠some k:=fun l' c k ho h=>by
  rw[z1p ag (hm.lab _ _ ho)]at h
  refine⟨h,fun e=> ?_⟩
  have:=hm.off _ _ _ ho h
  have h2:=hV k e
  rw[this]at h2
  cases h2
 refine⟨?_, ?_, ?_,fun k o h=>hm.get k o ((V.delO_le _).get k o h), ?_, ?_, ?_, ?_, ?_, ?_, ?_, ?_, ?_⟩
 ·
  intro l cs' q h
  by_cases hne:l=nl
  · subst hne;rw[z0f]at h;cases h
  ·
   have ho:=old _ _ h hne
   rw[(ag l (hm.lab _ _ ho)).1,A.map_agree ag (hm.labs _ _ _ ho)]
   exact hm.lit _ _ _ ho
 ·
  intro l q s n' ys h
  by_cases hne:l=nl
  ·
   subst hne
   rw[z0f]at h
   cases h
   simpa[Env.setκ]using hr
  ·
   have ho:=old _ _ h hne
   rw[(ag l (hm.lab _ _ ho)).2]
   exact hm.row _ _ _ _ _ ho
 ·
  intro l1 l2 c1 c2 k h1 h2 hk1 hk2
  by_cases e1:l1=nl
  ·
   by_cases e2:l2=nl
   · rw[e1,e2]
   ·
    subst e1
    rw[z0f]at h1
    cases h1
    have hk:v.ownBlock=some k:=by simpa[blk,Env.setκ]using hk1
    exact absurd hk (hbl _ _ _ (old _ _ h2 e2) hk2).2
  ·
   by_cases e2:l2=nl
   ·
    subst e2
    rw[z0f]at h2
    cases h2
    have hk:v.ownBlock=some k:=by simpa[blk,Env.setκ]using hk2
    exact absurd hk (hbl _ _ _ (old _ _ h1 e1) hk1).2
   · exact hm.sep _ _ _ _ _ (old _ _ h1 e1) (old _ _ h2 e2) (hbl _ _ _ (old _ _ h1 e1) hk1).1 (hbl _ _ _ (old _ _ h2 e2) hk2).1
 ·
  intro l c k h hk1
  by_cases hne:l=nl
  ·
   subst hne
   rw[z0f]at h
   cases h
   have hk:v.ownBlock=some k:=by simpa[blk,Env.setκ]using hk1
   rw[hk]
   simp[Vw.delO,Vw.del]
  ·
   obtain⟨h1,h2⟩:=hbl _ _ _ (old _ _ h hne) hk1
   have h3:=hm.off _ _ _ (old _ _ h hne) h1
   cases hq:(V.delO v.ownBlock).get k with
   |none=>rfl
   |some ob=>
    have:=(V.delO_le _).get _ _ hq
    rw[h3]at this
    cases this
 · rw[hm.os];cases v.ownBlock<;>rfl
 · rw[hm.tape];cases v.ownBlock<;>rfl
 · rw[hm.output];cases v.ownBlock<;>rfl
 ·
  intro l c h
  by_cases hne:l=nl
  · omega
  · have:=hm.lab _ _ (old _ _ h hne);omega
 ·
  intro l cs' q h
  by_cases hne:l=nl
  · subst hne;rw[z0f]at h;cases h
  · exact z15 (Nat.le_succ nl) (hm.labs _ _ _ (old _ _ h hne))
 ·
  intro l q b' h
  by_cases hne:l=nl
  · subst hne;rw[z0f]at h;cases h
  ·
   obtain⟨h1,h2⟩:=hm.pin _ _ _ (old _ _ h hne)
   exact⟨(ag q h2).1.trans h1,Nat.lt_succ_of_lt h2⟩
 ·
  intro l k h
  by_cases hne:l=nl
  · subst hne;rw[z0f]at h;cases h
  · exact hm.big _ _ (old _ _ h hne)
 ·
  intro l q b' v' h
  by_cases hne:l=nl
  · subst hne;rw[z0f]at h;cases h
  ·
   obtain⟨h1,h2,h3⟩:=hm.kp _ _ _ _ (old _ _ h hne)
   exact⟨(ag q h3).1.trans h1,(ag q h3).2.trans h2,Nat.lt_succ_of_lt h3⟩
theorem Mem.addPin(hm:Mem E O nl V w)(m b:Nat)(hb:E.ρ m=b)(hlt:m<nl):Mem E ((nl, .pin m b)::O) (nl+1) V w:=by
 have old: ∀l' c,lk ((nl,Cel.pin m b)::O) l'=some c→l'≠nl→lk O l'=some c:=fun l' c h hne=>by
  rwa [z22 _ _ (fun x=>hne x.symm)]at h
 refine⟨?_, ?_, ?_,hm.get, ?_,hm.os,hm.tape,hm.output, ?_, ?_, ?_, ?_, ?_⟩
 ·
  intro l cs' q h
  by_cases hne:l=nl
  · subst hne;rw[z0f]at h;cases h
  · exact hm.lit _ _ _ (old _ _ h hne)
 ·
  intro l q s n' ys h
  by_cases hne:l=nl
  · subst hne;rw[z0f]at h;cases h
  · exact hm.row _ _ _ _ _ (old _ _ h hne)
 ·
  intro l1 l2 c1 c2 k h1 h2 hk1 hk2
  by_cases e1:l1=nl
  · subst e1;rw[z0f]at h1;cases h1;simp[blk]at hk1
  ·
   by_cases e2:l2=nl
   · subst e2;rw[z0f]at h2;cases h2;simp[blk]at hk2
   · exact hm.sep _ _ _ _ _ (old _ _ h1 e1) (old _ _ h2 e2) hk1 hk2
 ·
  intro l c k h hk1
  by_cases hne:l=nl
  · subst hne;rw[z0f]at h;cases h;simp[blk]at hk1
  · exact hm.off _ _ _ (old _ _ h hne) hk1
 ·
  intro l c h
  by_cases hne:l=nl
  · omega
  · have:=hm.lab _ _ (old _ _ h hne);omega
 ·
  intro l cs' q h
  by_cases hne:l=nl
  · subst hne;rw[z0f]at h;cases h
  · exact z15 (Nat.le_succ nl) (hm.labs _ _ _ (old _ _ h hne))
 ·
  intro l q b' h
  by_cases hne:l=nl
  · subst hne;rw[z0f]at h;cases h;exact⟨hb,Nat.lt_succ_of_lt hlt⟩
  ·
   obtain⟨h1,h2⟩:=hm.pin _ _ _ (old _ _ h hne)
   exact⟨h1,Nat.lt_succ_of_lt h2⟩
 ·
  intro l k h
  by_cases hne:l=nl
  · subst hne;rw[z0f]at h;cases h
  · exact hm.big _ _ (old _ _ h hne)
 ·
  intro l q b' v' h
  by_cases hne:l=nl
  · subst hne;rw[z0f]at h;cases h
  ·
   obtain⟨h1,h2,h3⟩:=hm.kp _ _ _ _ (old _ _ h hne)
   exact⟨h1,h2,Nat.lt_succ_of_lt h3⟩
theorem Mem.addSize(hm:Mem E O nl V w):Mem E ((nl, .size w.heap.size)::O) (nl+1) V w:=by
 have old: ∀l' c,lk ((nl,Cel.size w.heap.size)::O) l'=some c→l'≠nl→lk O l'=some c:=fun l' c h hne=>by
  rwa [z22 _ _ (fun x=>hne x.symm)]at h
 refine⟨?_, ?_, ?_,hm.get, ?_,hm.os,hm.tape,hm.output, ?_, ?_, ?_, ?_, ?_⟩
 ·
  intro l cs' q h
  by_cases hne:l=nl
  · subst hne;rw[z0f]at h;cases h
  · exact hm.lit _ _ _ (old _ _ h hne)
 ·
  intro l q s n' ys h
  by_cases hne:l=nl
  · subst hne;rw[z0f]at h;cases h
  · exact hm.row _ _ _ _ _ (old _ _ h hne)
 ·
  intro l1 l2 c1 c2 k h1 h2 hk1 hk2
  by_cases e1:l1=nl
  · subst e1;rw[z0f]at h1;cases h1;simp[blk]at hk1
  ·
   by_cases e2:l2=nl
   · subst e2;rw[z0f]at h2;cases h2;simp[blk]at hk2
   · exact hm.sep _ _ _ _ _ (old _ _ h1 e1) (old _ _ h2 e2) hk1 hk2
 ·
  intro l c k h hk1
  by_cases hne:l=nl
  · subst hne;rw[z0f]at h;cases h;simp[blk]at hk1
  · exact hm.off _ _ _ (old _ _ h hne) hk1
 ·
  intro l c h
  by_cases hne:l=nl
  · omega
  · have:=hm.lab _ _ (old _ _ h hne);omega
 ·
  intro l cs' q h
  by_cases hne:l=nl
  · subst hne;rw[z0f]at h;cases h
  · exact z15 (Nat.le_succ nl) (hm.labs _ _ _ (old _ _ h hne))
 ·
  intro l q b' h
  by_cases hne:l=nl
  · subst hne;rw[z0f]at h;cases h
  ·
   obtain⟨h1,h2⟩:=hm.pin _ _ _ (old _ _ h hne)
   exact⟨h1,Nat.lt_succ_of_lt h2⟩
 ·
  intro l k h
  by_cases hne:l=nl
  · subst hne;rw[z0f]at h;cases h;exact Nat.le_refl _
  · exact hm.big _ _ (old _ _ h hne)
 ·
  intro l q b' v' h
  by_cases hne:l=nl
  · subst hne;rw[z0f]at h;cases h
  ·
   obtain⟨h1,h2,h3⟩:=hm.kp _ _ _ _ (old _ _ h hne)
   exact⟨h1,h2,Nat.lt_succ_of_lt h3⟩
theorem Mem.touch{w':World}{S:Nat→Prop}{V0:Vw}(hm:Mem E O nl V w')(hle:V0.le V)(h0: ∀k o,w.heap[k]? =some o→ ¬S k→V0.get k=some o)(hos:V0.os=w.os∧V0.tape=w.tape∧V0.output=w.output)(hsz:w.heap.size≤w'.heap.size):
  Touch S w w':=by
 refine⟨?_, ?_, ?_,hsz,fun k hk hS=> ?_⟩
 · rw[hm.os,hle.os,hos.1]
 · rw[hm.tape,hle.tape,hos.2.1]
 · rw[hm.output,hle.output,hos.2.2]
 ·
  have hs:w.heap[k]? =some w.heap[k]:=by simp[hk]
  rw[hs]
  exact hm.get _ _<|hle.get _ _<|h0 k _ hs hS
end
end Go.Eng
