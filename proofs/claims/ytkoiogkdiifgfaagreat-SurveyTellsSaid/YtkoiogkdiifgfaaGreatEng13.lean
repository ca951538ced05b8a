/-
 Two labels changed about in a state.
-/
import Derived.Test.YtkoiogkdiifgfaaGreatEng12
set_option linter.unusedSimpArgs false
set_option linter.unusedVariables false
namespace Go.Eng
open Go Go.RowKit
def sw(i j l:Nat):Nat:=bif Nat.beq l i then j else bif Nat.beq l j then i else l
theorem j5q(i j l:Nat):sw i j l=if l=i then j else if l=j then i else l:=by
 unfold sw
 by_cases h:l=i
 · subst h;simp
 ·
  have h1:Nat.beq l i=false:=by rw[←Bool.not_eq_true,Nat.beq_eq];exact h
  by_cases h':l=j
  · subst h';simp[h1,h]
  ·
   have h2:Nat.beq l j=false:=by rw[←Bool.not_eq_true,Nat.beq_eq];exact h'
   simp[h1,h2,h,h']
theorem zjo(i j l:Nat):sw i j (sw i j l)=l:=by
 simp only[j5q]
 repeat' split
 all_goals omega
theorem zyl{i j l l':Nat}(h:sw i j l=sw i j l'):l=l':=by
 have:=congrArg (sw i j) h
 rwa [zjo,zjo]at this
theorem zla{i j l nl:Nat}(hi:i<nl)(hj:j<nl)(h:l<nl):sw i j l<nl:=by
 rw[j5q];repeat' split
 all_goals assumption
def A.sw(i j:Nat):A→A
 | .v x=> .v x
 | .ptr l off=> .ptr (Eng.sw i j l) off
 | .fn f caps=> .fn f (caps.map fun p=>(Eng.sw i j p.1,p.2))
 | .row l=> .row (Eng.sw i j l)
 | .el x k=> .el x k
 | .rel l k=> .rel (Eng.sw i j l) k
def SV.sw(i j:Nat):SV→SV
 | .a x=> .a (x.sw i j)
 | .agg cs=> .agg (cs.map (A.sw i j))
 | .tup xs=> .tup (xs.map (A.sw i j))
def Cel.sw(i j:Nat):Cel→Cel
 | .lit cs e=> .lit (cs.map (A.sw i j)) e
 | .pin m b=> .pin (Eng.sw i j m) b
 | .keep m b v=> .keep (Eng.sw i j m) b v
 |c=>c
def swF(i j:Nat)(F:z05):z05:=F.map fun p=>(p.1,⟨p.2.path,p.2.g,p.2.x.sw i j⟩)
def swO(i j:Nat)(O:Own):Own:=O.map fun p=>(sw i j p.1,p.2.sw i j)
def Env.sw(i j:Nat)(E:Env):Env:=⟨fun l=>E.ρ (Eng.sw i j l),fun l=>E.κ (Eng.sw i j l)⟩
theorem A.den_sw(i j:Nat)(E:Env)(x:A):(x.sw i j).den (E.sw i j)=x.den E:=by
 cases x<;>simp[A.sw,A.den,Env.sw,zjo,Function.comp_def]
theorem A.map_sw(i j:Nat)(E:Env)(l:List A):(l.map (A.sw i j)).map (A.den (E.sw i j))=l.map (A.den E):=by
 rw[List.map_map]
 apply List.map_congr_left
 intro x _
 exact A.den_sw i j E x
theorem SV.den_sw(i j:Nat)(E:Env)(x:SV):(x.sw i j).den (E.sw i j)=x.den E:=by
 cases x with
 |a x=>exact A.den_sw i j E x
 |agg cs=>simp only[SV.sw,SV.den,A.map_sw]
 |tup cs=>simp only[SV.sw,SV.den,A.map_sw]
theorem A.ok_sw{i j nl:Nat}(hi:i<nl)(hj:j<nl){x:A}(h:x.ok nl=true):(x.sw i j).ok nl=true:=by
 cases x with
 |v x=>rfl
 |el x k=>rfl
 |ptr l off=>simp only[A.sw,A.ok,z0e]at h⊢;exact zla hi hj h
 |row l=>simp only[A.sw,A.ok,z0e]at h⊢;exact zla hi hj h
 |rel l k=>simp only[A.sw,A.ok,z0e]at h⊢;exact zla hi hj h
 |fn f caps=>
  simp only[A.sw,A.ok,z5b,List.mem_map]at h⊢
  rintro _ ⟨p,hp,rfl⟩
  exact zla hi hj<|h p hp
theorem zhl{i j nl:Nat}(hi:i<nl)(hj:j<nl){l:List A}(h:z0z nl l=true):z0z nl (l.map (A.sw i j))=true:=by
 rw[z0o]at h⊢
 intro x hx
 obtain⟨y,hy,rfl⟩:=List.mem_map.1 hx
 exact A.ok_sw hi hj<|h y hy
theorem SV.ok_sw{i j nl:Nat}(hi:i<nl)(hj:j<nl){x:SV}(h:x.ok nl=true):(x.sw i j).ok nl=true:=by
 cases x with
 |a x=>exact A.ok_sw hi hj h
 |agg cs=>exact zhl hi hj h
 |tup cs=>exact zhl hi hj h
theorem zyx(i j:Nat)(F:z05)(t:Nat):lk (swF i j F) t=(lk F t).map fun e=>⟨e.path,e.g,e.x.sw i j⟩:=by
 induction F with
 |nil=>rfl
 |cons p r ih=>
  obtain⟨s,e⟩:=p
  simp only[swF,List.map_cons,z1l]at ih⊢
  split
  · rfl
  · exact ih
theorem j4z(i j:Nat)(O:Own)(l:Nat):lk (swO i j O) (sw i j l)=(lk O l).map (Cel.sw i j):=by
 induction O with
 |nil=>rfl
 |cons p r ih=>
  obtain⟨s,c⟩:=p
  simp only[swO,List.map_cons,z1l]at ih⊢
  by_cases h:s=l
  · subst h;simp
  ·
   have h':sw i j s≠sw i j l:=fun e=>h (zyl e)
   simp only[h,h',if_false]
   exact ih
theorem z63{i j:Nat}{O:Own}{l:Nat}{c:Cel}(h:lk (swO i j O) l=some c): ∃c0,lk O (sw i j l)=some c0∧c=c0.sw i j:=by
 have:=j4z i j O (sw i j l)
 rw[zjo,h]at this
 cases hc:lk O (sw i j l)with
 |none=>simp[hc]at this
 |some c0=>
  simp only[hc,Option.map_some,Option.some.injEq]at this
  exact⟨c0,rfl,this⟩
theorem zpe(i j:Nat)(F:z05)(s:Nat)(b:Bool):z5t (swF i j F) s b=z5t F s b:=by
 unfold z5t
 rw[zyx]
 rcases lk F s with _|⟨p,g,x⟩
 · rfl
 ·
  rcases x with a|cs|cs<;>try rfl
  cases a<;>rfl
theorem zo8(i j:Nat)(F:z05): ∀p,z61 (swF i j F) p=z61 F p
 |[]=>rfl
 |(s,b)::r=>by simp only[z61,zo8 i j F r,zpe]
theorem Frm.sw{E:Env}{n:Nat}{F:z05}{C:List Nat}{nl:Nat}{tmps:Array Value}{i j:Nat}(hi:i<nl)(hj:j<nl)(hf:Frm E n F C nl tmps):
  Frm (E.sw i j) n (swF i j F) C nl tmps:=by
 have key: ∀{t e},lk (swF i j F) t=some e→ ∃e0,lk F t=some e0∧e=⟨e0.path,e0.g,e0.x.sw i j⟩:=fun{t e} h=>by
  rw[zyx]at h
  cases hl:lk F t with
  |none=>simp[hl]at h
  |some e0=>simp only[hl,Option.map_some,Option.some.injEq]at h;exact⟨e0,rfl,h.symm⟩
 refine⟨hf.size,fun t e h=> ?_,fun t e h=> ?_,fun t e h hg=> ?_⟩
 ·
  obtain⟨e0,h0,rfl⟩:=key h
  rw[hf.val t e0 h0]
  simp only[SV.den_sw]
 ·
  obtain⟨e0,h0,rfl⟩:=key h
  simp only[zo8]
  exact hf.wf t e0 h0
 ·
  obtain⟨e0,h0,rfl⟩:=key h
  exact SV.ok_sw hi hj<|hf.labs t e0 h0 hg
theorem zye(i j:Nat)(E:Env)(l:Nat)(c:Cel):blk (E.sw i j) l (c.sw i j)=blk E (sw i j l) c:=by
 cases c<;>rfl
theorem Mem.sw{E:Env}{O:Own}{nl:Nat}{V:Vw}{w:World}{i j:Nat}(hi:i<nl)(hj:j<nl)(hm:Mem E O nl V w):Mem (E.sw i j) (swO i j O) nl V w:=by
 refine⟨?_, ?_, ?_,hm.get, ?_,hm.os,hm.tape,hm.output, ?_, ?_, ?_, ?_, ?_⟩
 ·
  intro l cs e h
  obtain⟨c0,h0,hc⟩:=z63 h
  cases c0 with
  |lit cs0 e0=>
   simp only[Cel.sw,Cel.lit.injEq]at hc
   obtain⟨rfl,rfl⟩:=hc
   rw[A.map_sw]
   exact hm.lit _ _ _ h0
  |row=>cases hc
  |gone=>cases hc
  |pin=>cases hc
  |size=>cases hc
  |keep=>cases hc
 ·
  intro l e sz n xs h
  obtain⟨c0,h0,hc⟩:=z63 h
  cases c0 with
  |row=>
   simp only[Cel.sw,Cel.row.injEq]at hc
   obtain⟨rfl,rfl,rfl,rfl⟩:=hc
   exact hm.row _ _ _ _ _ h0
  |lit=>cases hc
  |gone=>cases hc
  |pin=>cases hc
  |size=>cases hc
  |keep=>cases hc
 ·
  intro l l' c c' k h h' hb hb'
  obtain⟨c0,h0,rfl⟩:=z63 h
  obtain⟨c1,h1,rfl⟩:=z63 h'
  rw[zye]at hb hb'
  exact zyl<|hm.sep _ _ _ _ _ h0 h1 hb hb'
 ·
  intro l c k h hb
  obtain⟨c0,h0,rfl⟩:=z63 h
  rw[zye]at hb
  exact hm.off _ _ _ h0 hb
 ·
  intro l c h
  obtain⟨c0,h0,rfl⟩:=z63 h
  have:=zla hi hj (hm.lab _ _ h0)
  rwa [zjo]at this
 ·
  intro l cs e h
  obtain⟨c0,h0,hc⟩:=z63 h
  cases c0 with
  |lit cs0 e0=>
   simp only[Cel.sw,Cel.lit.injEq]at hc
   obtain⟨rfl,rfl⟩:=hc
   exact zhl hi hj<|hm.labs _ _ _ h0
  |row=>cases hc
  |gone=>cases hc
  |pin=>cases hc
  |size=>cases hc
  |keep=>cases hc
 ·
  intro l m b h
  obtain⟨c0,h0,hc⟩:=z63 h
  cases c0 with
  |pin m0 b0=>
   simp only[Cel.sw,Cel.pin.injEq]at hc
   obtain⟨rfl,rfl⟩:=hc
   obtain⟨h1,h2⟩:=hm.pin _ _ _ h0
   exact⟨by simp only[Env.sw,zjo];exact h1,zla hi hj h2⟩
  |lit=>cases hc
  |row=>cases hc
  |gone=>cases hc
  |size=>cases hc
  |keep=>cases hc
 ·
  intro l k h
  obtain⟨c0,h0,hc⟩:=z63 h
  cases c0 with
  |size k0=>
   simp only[Cel.sw,Cel.size.injEq]at hc
   subst hc
   exact hm.big _ _ h0
  |_=>cases hc
 ·
  intro l m b v h
  obtain⟨c0,h0,hc⟩:=z63 h
  cases c0 with
  |keep m0 b0 v0=>
   simp only[Cel.sw,Cel.keep.injEq]at hc
   obtain⟨rfl,rfl,rfl⟩:=hc
   obtain⟨h1,h2,h3⟩:=hm.kp _ _ _ _ h0
   exact⟨by simp only[Env.sw,zjo];exact h1,by simp only[Env.sw,zjo];exact h2,zla hi hj h3⟩
  |_=>cases hc
theorem z00{K:Act→World→Prop}{n:Nat}{F:z05}{C:List Nat}{O:Own}{nl:Nat}{V:Vw}(i j:Nat)(hij:(Nat.blt i nl&&Nat.blt j nl)=true)
  (h:KJ K n (swF i j F) C (swO i j O) nl V):KJ K n F C O nl V:=by
 simp only[Bool.and_eq_true,z0e]at hij
 exact⟨fun E a w hd hf hm=>h.out (E.sw i j) a w hd (hf.sw hij.1 hij.2) (hm.sw hij.1 hij.2)⟩
end Go.Eng
