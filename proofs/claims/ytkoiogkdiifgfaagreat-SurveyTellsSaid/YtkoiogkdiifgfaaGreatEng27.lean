/-
 A call that is walked in place: the callee works in its caller's own memory.
-/
import Derived.Test.YtkoiogkdiifgfaaGreatEngR
set_option linter.unusedSimpArgs false
set_option linter.unusedVariables false
namespace Go.Eng
open Go Go.RowKit
section
variable{P:Program}{tt:List (Nat×TI)}{ops:Array Oper}{Q:Exit→Act→World→Prop}{o:Oper}{rest:List Oper}{n:Nat}{F:z05}{C:List Nat}{O:Own}{nl:Nat}{V:Vw}
 {K:Act→World→Prop} {E:Env} {w:World} {sp:List Nat} {O0:Own} {nl0:Nat} {V0:Vw} {fuel:Nat} {listed:List Bool}
theorem Mem.addKeep(hm:Mem E O nl V w)(m:Nat)(hlt:m<nl):Mem E ((nl, .keep m (E.ρ m) (E.κ m))::O) (nl+1) V w:=by
 have old: ∀l' c,lk ((nl,Cel.keep m (E.ρ m) (E.κ m))::O) l'=some c→l'≠nl→lk O l'=some c:=fun l' c h hne=>by
  rwa [z22 _ _ (fun x=>hne x.symm)]at h
 refine⟨?_, ?_, ?_,hm.get, ?_,hm.os,hm.tape,hm.output, ?_, ?_, ?_, ?_, ?_⟩
 ·
  intro l cs' q h
  by_cases hne:l=nl
  · subst hne;rw[z0f]at h;cases h
  · exact hm.lit _ _ _ (old _ _ h hne)
 ·
  intro l q s n' ys h
  by_cases hne:l=nl
  · subst hne;rw[z0f]at h;cases h
  · exact hm.row _ _ _ _ _ (old _ _ h hne)
 ·
  intro l1 l2 c1 c2 k h1 h2 hk1 hk2
  by_cases e1:l1=nl
  · subst e1;rw[z0f]at h1;cases h1;simp[blk]at hk1
  ·
   by_cases e2:l2=nl
   · subst e2;rw[z0f]at h2;cases h2;simp[blk]at hk2
   · exact hm.sep _ _ _ _ _ (old _ _ h1 e1) (old _ _ h2 e2) hk1 hk2
 ·
  intro l c k h hk1
  by_cases hne:l=nl
  · subst hne;rw[z0f]at h;cases h;simp[blk]at hk1
  · exact hm.off _ _ _ (old _ _ h hne) hk1
 ·
  intro l c h
  by_cases hne:l=nl
  · omega
  · have:=hm.lab _ _ (old _ _ h hne);omega
 ·
  intro l cs' q h
  by_cases hne:l=nl
  · subst hne;rw[z0f]at h;cases h
  · exact z15 (Nat.le_succ nl) (hm.labs _ _ _ (old _ _ h hne))
 ·
  intro l q b' h
  by_cases hne:l=nl
  · subst hne;rw[z0f]at h;cases h
  ·
   obtain⟨h1,h2⟩:=hm.pin _ _ _ (old _ _ h hne)
   exact⟨h1,Nat.lt_succ_of_lt h2⟩
 ·
  intro l k h
  by_cases hne:l=nl
  · subst hne;rw[z0f]at h;cases h
  · exact hm.big _ _ (old _ _ h hne)
 ·
  intro l q b' v' h
  by_cases hne:l=nl
  · subst hne;rw[z0f]at h;cases h;exact⟨rfl,rfl,Nat.lt_succ_of_lt hlt⟩
  ·
   obtain⟨h1,h2,h3⟩:=hm.kp _ _ _ _ (old _ _ h hne)
   exact⟨h1,h2,Nat.lt_succ_of_lt h3⟩
def zhh(E:Env)(base:Nat):Nat→Own
 |0=>[]
 |k+1=>(base+k, .keep k (E.ρ k) (E.κ k))::zhh E base k
theorem Mem.addKeeps(hm:Mem E O nl V w): ∀k,k≤nl→Mem E (zhh E nl k++O) (nl+k) V w
 |0,_=>hm
 |k+1,h=>(hm.addKeeps k (by omega)).addKeep k (by omega)
def z1c(E:Env)(O:Own)(base:Nat):Nat→Prop
 |0=>True
 |k+1=>lk O (base+k)=some (.keep k (E.ρ k) (E.κ k))∧z1c E O base k
theorem z1c.zero{base:Nat}:z1c E O base 0:=trivial
theorem z1c.succ{base k:Nat}(h:lk O (base+k)=some (.keep k (E.ρ k) (E.κ k)))(r:z1c E O base k):z1c E O base (k+1):=⟨h,r⟩
theorem z1c.agree{E':Env}{w':World}{base:Nat}(hm:Mem E' O nl V w'): ∀{k:Nat},z1c E O base k→E.agree k E'
 |0,_=>fun l hl=>by omega
 |k+1,⟨h1,h2⟩=>fun l hl=>by
  by_cases h:l=k
  ·
   subst h
   obtain⟨h3,h4,_⟩:=hm.kp _ _ _ _ h1
   exact⟨h3,h4⟩
  · exact z1c.agree hm h2 l (by omega)
def jbm(E:Env)(nl:Nat)(G:SV→Own→Nat→Vw→Prop)(e:Ending)(w':World):Prop:=
 ∃E' s1 O1 nl1 V1,e= .returned (s1.den E')∧E.agree nl E'∧nl≤nl1∧Mem E' O1 nl1 V1 w'∧s1.ok nl1=true∧G s1 O1 nl1 V1
theorem allOk'_mono{nl nl':Nat}(h:nl≤nl'){l:List SV}(hx:z5u nl l=true):z5u nl' l=true:=
 allOk'_iff.2 fun x hm=>SV.ok_mono h (allOk'_iff.1 hx x hm)
theorem zh8{p:List (Nat×Bool)}{g:Bool}{C':List Nat}{d f m:Nat}{fn:Func}{c:Code}{ss:List SV}
  (hg:gd ops F C o.guard=some (p,g,C')) (hgt:g=true) (hd:o.dst=some d) (hc:(Nat.blt d n&& !(z2w d C'))=true)
  (hv:z4i F p o.op=some (f,ss)) (hok:z0j P f) (hfn:P.funcs[f]? =some fn) (hb:fn.body=some c) (hn:fn.ntmps=m) (hle:Nat.ble ss.length m=true)
  (h: ∀E,KJ (c.wp P (bodyPost P fn (jbm E nl fun s1 O1 nl1 V1=>KJ (wpList P ops Q rest) n ((d,⟨p,true,s1⟩)::F) C' O1 nl1 V1))) m (zvh ss 0) [] (zhh E nl nl++O) (nl+nl) V):
  KJ (wpList P ops Q (o::rest)) n F C O nl V:=by
 subst hgt
 constructor
 intro E a w hdf hf hm
 obtain⟨h1,h2,h3,h4⟩:=z18 hf hg
 simp only[Bool.and_eq_true,z0e,Bool.not_eq_true']at hc
 unfold wpList
 rw[h1]
 simp only[if_true]
 left
 obtain⟨hr,hss⟩:=z1b h2 h3.symm hv hok w
 unfold Oper.wp
 rw[hr,Oper.upon_enter]
 refine(enter ss hfn hb hn (hm.addKeeps nl (Nat.le_refl _)) (allOk'_mono (by omega) hss) hle (h E)).mono ?_
 rintro e w' ⟨E',s1,O1,nl1,V1,rfl,hag,hnl,hm',hs,hK⟩
 show wpList P ops Q rest (a.put o.dst _) w'
 rw[hd]
 exact hK.out E' _ w' (by simp[Act.put,hdf]) (h2.putTo hag hnl hc.1 hc.2 h3 h4 hs) hm'
theorem jbf(i:Nat){p:List (Nat×Bool)}{g:Bool}{C':List Nat}{d f m:Nat}{fn:Func}{c:Code}{ss:List SV}
  (hi:ops[i]? =some o) (hg:gd ops F C o.guard=some (p,g,C')) (hgt:g=true) (hd:o.dst=some d) (hc:(Nat.blt d n&& !(z2w d C'))=true) (hnl0:Nat.ble nl0 nl=true)
  (hv:z4i F p o.op=some (f,ss)) (hok:z0j P f) (hfn:P.funcs[f]? =some fn) (hb:fn.body=some c) (hn:fn.ntmps=m) (hle:Nat.ble ss.length m=true)
  (h: ∀E,KJ (c.wp P (bodyPost P fn (jbm E nl fun s1 O1 nl1 V1=>(z0r sp (z4w listed i).toArray=true∨(z3b O1 O0∧z0u nl0 O0=true∧V0.le V1))∧
   HJ P ops Q sp O0 nl0 V0 fuel (z4w listed i) n ((d,⟨p,true,s1⟩)::F) C' O1 nl1 V1))) m (zvh ss 0) [] (zhh E nl nl++O) (nl+nl) V):HI P ops Q sp O0 nl0 V0 fuel listed n F C O nl V i:=by
 subst hgt
 refine⟨fun E0 E a w hag hdf hf hm hM=> ?_⟩
 obtain⟨h1,h2,h3,h4⟩:=z18 hf hg
 simp only[Bool.and_eq_true,z0e,Bool.not_eq_true']at hc
 simp only[Nat.ble_eq]at hnl0
 unfold wpOp
 simp only[hi]
 rw[h1]
 simp only[if_true]
 left
 obtain⟨hr,hss⟩:=z1b h2 h3.symm hv hok w
 unfold Oper.wp
 rw[hr,Oper.upon_enter]
 refine(enter ss hfn hb hn (hm.addKeeps nl (Nat.le_refl _)) (allOk'_mono (by omega) hss) hle (h E)).mono ?_
 rintro e w' ⟨E',s1,O1,nl1,V1,rfl,hag',hnl,hm',hs,hsp,hK⟩
 have hag0:E0.agree nl0 E':=fun l hl=>by
  have h1:=hag l hl
  have h2:=hag' l (by omega)
  exact⟨h2.1.trans h1.1,h2.2.trans h1.2⟩
 have hkeep:z0r sp (z4w listed i).toArray=false→Mem E0 O0 nl0 V0 w':=fun hs=>by
  rcases hsp with h|h
  · rw[h]at hs;cases hs
  · exact hm'.back' hag0 h
 refine⟨hkeep, ?_⟩
 rw[hd]
 exact hK.out E0 E' _ w' hag0 (by simp[Act.put,hdf]) (h2.putTo hag' hnl hc.1 hc.2 h3 h4 hs) hm' hkeep
def zeh:List SV→Option (List A)
 |[]=>some []
 | .a x::r=>match zeh r with
  |some l=>some (x::l)
  |none=>none
 |_=>none
def j58:List SV→Option SV
 |[s]=>some s
 |l=>match zeh l with
  |some xs=>some (.tup xs)
  |none=>none
theorem zfs{E:Env}: ∀{l:List SV} {xs:List A},zeh l=some xs→l.map (SV.den E)=xs.map (A.den E)∧ ∀nl,(∀s∈l,s.ok nl=true)→z0z nl xs=true
 |[],xs,h=>by simp[zeh]at h;subst h;exact⟨rfl,fun _ _=>rfl⟩
 |x::r,xs,h=>by
  cases x with
  |a y=>
   simp only[zeh]at h
   split at h
   ·
    rename_i l hl
    simp only[Option.some.injEq]at h
    subst h
    obtain⟨h1,h2⟩:=zfs (E:=E) hl
    refine⟨by simp[h1,SV.den],fun nl hs=> ?_⟩
    have hy:=hs (.a y) (by simp)
    simp only[z0z,Bool.and_eq_true]
    exact⟨hy,h2 nl fun s hs'=>hs s (by simp[hs'])⟩
   · cases h
  |_=>simp[zeh]at h
theorem zw2{E:Env}{l:List SV}{s:SV}(h:j58 l=some s):zku (l.map (SV.den E))=s.den E∧ ∀nl,(∀s∈l,s.ok nl=true)→s.ok nl=true:=by
 match l,h with
 |[x],h=>simp[j58]at h;subst h;exact⟨rfl,fun nl hs=>hs _ (by simp)⟩
 |[],h=>simp[j58,zeh]at h;subst h;exact⟨rfl,fun nl _=>rfl⟩
 |x::y::r,h=>
  simp only[j58]at h
  split at h
  ·
   rename_i xs hx
   simp only[Option.some.injEq]at h
   subst h
   obtain⟨h1,h2⟩:=zfs (E:=E) hx
   refine⟨?_,fun nl hs=>h2 nl hs⟩
   show Value.tuple (List.map (SV.den E) (x::y::r)).toArray=_
   rw[h1];rfl
  · cases h
def zyg(base:Nat):Nat→List Nat
 |0=>[]
 |k+1=>(base+k)::zyg base k
theorem z67{E E':Env}{nl nl'':Nat}{O'' O1:Own}{V'':Vw}{w':World}{ss:List SV}{s1:SV}{G:SV→Own→Nat→Vw→Prop}(hm:Mem E' O'' nl'' V'' w')(hok: ∀s∈ss,s.ok nl''=true)
  (hr:j58 ss=some s1) (ho:z8l O'' (zyg nl nl) []=some O1) (hk:z1c E O'' nl nl) (hn:Nat.ble nl nl''=true) (hO:z3b O'' O1) (hc:z0u nl'' O1=true) (h:G s1 O1 nl'' V''):
  jbm E nl G (.returned (zku (ss.map (SV.den E')))) w':=by
 obtain⟨h1,h2⟩:=zw2 (E:=E') hr
 exact⟨E',s1,O1,nl'',V'',by rw[h1],hk.agree hm,by simpa using hn,hm.weak hO hc (Vw.le.refl _),h2 _ hok,h⟩
end
end Go.Eng
