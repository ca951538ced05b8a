import Derived.Test.YtkoiogkdiifgfaaGreatEng16
import Derived.Laws.StructEq
/-
 A method whose receiver's block is handed in.
-/
set_option linter.unusedSimpArgs false
set_option linter.unusedVariables false
namespace Go.Eng
open Go Go.RowKit
theorem z13(E:Env): ∀l:List Value,(l.map A.v).map (A.den E)=l∧ ∀nl,z0z nl (l.map A.v)=true
 |[]=>⟨rfl,fun _=>rfl⟩
 |x::r=>by
  have:=z13 E r
  exact⟨by simp[A.den,this.1],fun nl=>by simp[z0z,A.ok,this.2]⟩
abbrev E1(b:Nat):Env:=E0.setρ 0 b
abbrev O1(w:World)(b e:Nat)(vs:List Value):Own:=[(2, .size w.heap.size),(1, .pin 0 b),(0, .lit (vs.map .v) e)]
theorem mem1{w:World}{b e:Nat}{vs:List Value}(hb:w.heap[b]? =some (.cells vs.toArray e (0,0))):Mem (E1 b) (O1 w b e vs) 3 ((vw w).del b) w:=
 (((zhn E0 0 w).addLit (b:=b) (e:=e) (cs:=vs.map .v) (by rw[(z13 _ _).1];exact hb) ((z13 E0 _).2 _)).addPin 0 b (by simp[Env.setρ]) (by omega)).addSize
section
variable{P:Program}{n:Nat}{O:Own}{nl:Nat}{V:Vw}{E:Env}{w:World}
theorem zid{w':World}{b e:Nat}{cs:List A}(hm:Mem E O nl V w')(hle:((vw w).del b).le V)(h2:lk O 2=some (.size w.heap.size))(h1:lk O 1=some (.pin 0 b))(h0:lk O 0=some (.lit cs e)):
  Touch (· =b) w w'∧w'.heap[b]? =some (.cells (cs.map (A.den E)).toArray e (0,0)):=by
 refine⟨hm.touch hle (fun k o hk hS=>by simp only[Vw.del,vw];rw[if_neg hS];exact hk) ⟨rfl,rfl,rfl⟩ (hm.big _ _ h2), ?_⟩
 rw[←(hm.pin _ _ _ h1).1]
 exact hm.lit _ _ _ h0
theorem z3g{w':World}{b e:Nat}{vs:List Value}(hb:w.heap[b]? =some (.cells vs.toArray e (0,0)))(hm:Mem E O nl V w')(hle:((vw w).del b).le V)(h2:lk O 2=some (.size w.heap.size))(h1:lk O 1=some (.pin 0 b))(h0:lk O 0=some (.lit (vs.map .v) e)):
  Below w.heap.size w w':=by
 obtain⟨ht,hv⟩:=zid hm hle h2 h1 h0
 rw[(z13 _ _).1]at hv
 refine ht.below fun k _ hk=> ?_
 rw[show k=b from hk,hv,hb]
theorem z4n{f:Nat}{fn:Func}{c:Code}{R:Ending→World→Prop}{b e:Nat}{vs:List Value}(ss:List SV)(hb:w.heap[b]? =some (.cells vs.toArray e (0,0)))(hfn:P.funcs[f]? =some fn)(hc:fn.body=some c)(hn:fn.ntmps=n)
  (hok:z5u 3 ss=true) (hle:Nat.ble ss.length n=true)
  (h:KJ (c.wp P (bodyPost P fn R)) n (zvh ss 0) [] (O1 w b e vs) 3 ((vw w).del b)):Calls P f (ss.map (SV.den (E1 b))).toArray w R:=
 enter ss hfn hc hn (mem1 hb) hok hle h
end
end Go.Eng

/-
 Structs compared; where a value is yielded whatever is known.
-/
set_option linter.unusedSimpArgs false
set_option linter.unusedVariables false
namespace Go.Eng
open Go Go.RowKit
section
variable{P:Program}{tt:List (Nat×TI)}{o:Oper}{n:Nat}{F:z05}{C:List Nat}{O:Own}{nl:Nat}{V:Vw}
def zub(F:z05)(p:List (Nat×Bool)):Op→Option (BinOp×Nat×SV×SV×Operand×Operand)
 | .binOp op t x y _=>match opv F p x,opv F p y with
  |some a,some b=>some (op,t,a,b,x,y)
  |_,_=>none
 |_=>none
theorem z60{p:List (Nat×Bool)}{g:Bool}{op:BinOp}{t:Nat}{sx sy:SV}{ox oy:Operand}(v:Value)(hv:zub F p o.op=some (op,t,sx,sy,ox,oy))
  (hq: ∀E w,(do eqGuard op t ox oy (sx.den E) (sy.den E);binOp op t (sx.den E) (sy.den E):Sem Value).run P w= .ok v w):Yld P o n F C O nl V p g (.a (.v v)):=by
 intro hgt E a w hf hgv hm
 refine⟨?_,rfl⟩
 unfold Yv execOp
 cases hop:o.op with
 |binOp op' t' x y z=>
  simp only[hop,zub]at hv
  split at hv
  ·
   rename_i a' b' hx hy
   simp only[Option.some.injEq,Prod.mk.injEq]at hv
   obtain⟨rfl,rfl,rfl,rfl,rfl,rfl⟩:=hv
   obtain⟨h1,_⟩:=z03 hf hgv hx
   obtain⟨h2,_⟩:=z03 hf hgv hy
   have:=hq E w
   simp only[h1,h2]
   rw[Sem.run_bind,this]
   simp[SV.den,A.den]
  · cases hv
 |_=>simp[hop,zub]at hv
end
end Go.Eng

/-
 What a call does to memory that was handed in, told in the caller's labels.
-/
set_option linter.unusedSimpArgs false
set_option linter.unusedVariables false
namespace Go.Eng
open Go Go.RowKit
theorem z96{w:World}{g:Nat}{cs:Array Value}{t:TypeId}{fr:Nat×Nat}(h:w.heap[g]? =some (.cells cs t fr)):w.setRow g cs=w:=by
 have hh:(w.setRow g cs).heap=w.heap:=by
  apply Array.ext_getElem?
  intro k
  by_cases hk:k=g
  · subst hk;rw[setRow_heap w _ _ _ _ _ h,h]
  · rw[setRow_other w _ _ _ hk]
 unfold World.setRow at hh⊢
 simp only at hh
 rw[hh]
section
variable{n:Nat}{O:Own}{nl:Nat}{V:Vw}{E:Env}{w w':World}
theorem Mem.regive(hm:Mem E O nl V w){l e:Nat}{cs cs':List A}(hl:lk O l=some (.lit cs e))(hok:z0z nl cs'=true)(ht:Touch (· =E.ρ l) w w')(hv:w'.heap[E.ρ l]? =some (.cells (cs'.map (A.den E)).toArray e (0,0))):
  Mem E ((l, .lit cs' e)::O) nl V w':=by
 have h0:=hm.lit _ _ _ hl
 have hb:Below w.heap.size w (w'.setRow (E.ρ l) (cs.map (A.den E)).toArray):=by
  refine⟨ht.os,ht.tape,ht.output,by simpa using ht.size,fun k hk=> ?_⟩
  by_cases hkl:k=E.ρ l
  · subst hkl;rw[setRow_heap w' _ _ _ _ _ hv,h0]
  · rw[setRow_other w' _ _ _ hkl];exact ht.block k hk hkl
 have:=(hm.keep hb).set (cs':=cs') hl hok
 rwa [setRow_setRow,z96 hv]at this
end
end Go.Eng
namespace Go.Eng
open Go Go.RowKit
section
variable{n:Nat}{F:z05}{C:List Nat}{O:Own}{nl:Nat}{V:Vw}{K:Act→World→Prop}
theorem z9r(l i e sz:Nat){cs:List A}{e0:Nat}(hl:lk O l=some (.lit cs e0))(hi:cs[i]? =some (.v (.slice none 0 0)))
  (h:KJ K n F C ((l, .lit (cs.set i (.row nl)) e0)::(nl, .row e sz 0 [])::O) (nl+1) V):KJ K n F C O nl V:=by
 constructor
 intro E a w hdf hf hm
 have ag:E.agree nl (E.setκ nl (.slice none 0 0)):=Env.agree_setκ E _
 have hm':=hm.newRow (v:= .slice none 0 0) (e:=e) (sz:=sz) (Below.refl _ _) (World.ownsRow_nil w w.heap.size e sz)
 have hlt:=hm.lab _ _ hl
 have hl':lk ((nl,Cel.row e sz 0 [])::O) l=some (.lit cs e0):=by rw[z22 _ _ (by omega)];exact hl
 have hok:z0z (nl+1) (cs.set i (.row nl))=true:=by
  rw[z0o]
  intro x hx
  rcases List.mem_or_eq_of_mem_set hx with h|h
  · exact z0o.1 (z15 (Nat.le_succ nl) (hm.labs _ _ _ hl)) x h
  · subst h;simp[A.ok,z0e]
 have hs:=hm'.set (cs':=cs.set i (.row nl)) hl' hok
 have heq:(cs.set i (.row nl)).map (A.den (E.setκ nl (.slice none 0 0)))=cs.map (A.den (E.setκ nl (.slice none 0 0))):=by
  rw[List.map_set]
  apply List.ext_getElem?
  intro j
  rw[List.getElem?_set]
  by_cases hj:i=j
  ·
   subst hj
   simp only[List.length_map,if_true]
   have hlt:=(List.getElem?_eq_some_iff.1 hi).1
   rw[if_pos hlt,List.getElem?_map,hi]
   simp[A.den,Env.setκ]
  · simp[hj]
 have h0:=hm'.lit _ _ _ hl'
 rw[heq,z96 h0]at hs
 exact h.out _ a w hdf (hf.env ag (Nat.le_succ nl)) hs
theorem Mem.rowFresh{E:Env}{w w':World}(hm:Mem E O nl V w')(hle:(vw w).le V){l e sz m:Nat}{xs:List Value}(hl:lk O l=some (.row e sz m xs)):w'.ownsRow w.heap.size e sz (E.κ l) m xs:=by
 have hr:=hm.row _ _ _ _ _ hl
 refine⟨hr.1, ?_⟩
 rcases hr.2 with h|⟨g,cap,cur,h1,_,h2⟩
 · exact .inl h
 ·
  refine .inr ⟨g,cap,cur,h1, ?_,h2⟩
  have hoff:=hm.off l _ g hl (by simp[blk,h1,Value.ownBlock])
  rcases Nat.lt_or_ge g w.heap.size with hlt|hge
  ·
   have:(vw w).get g=some w.heap[g]:=by simp[vw,hlt]
   rw[hle.get _ _ this]at hoff
   cases hoff
  · exact hge
end
end Go.Eng

/-
 A row that a call has made, as one that nobody writes.
-/
set_option linter.unusedSimpArgs false
set_option linter.unusedVariables false
namespace Go.Eng
open Go Go.RowKit
theorem z1i{w w':World}{V:Vw}{e sz m:Nat}{v:Value}{xs:List Value}(hV:V.le (vw w))(hb:Below w.heap.size w w')(hr:w'.ownsRow w.heap.size e sz v m xs):
  ∃V',Vext w.heap.size V V' w'∧z7i V' v sz m xs:=by
 refine⟨⟨fun k=>if v.ownBlock=some k then w'.heap[k]? else V.get k,V.os,V.tape,V.output⟩,⟨⟨fun k o hk=> ?_,rfl,rfl,rfl⟩,fun k o hk=> ?_⟩, ?_⟩
 ·
  have hlt:k<w.heap.size:=(Array.getElem?_eq_some_iff.1 (hV.get k o hk)).1
  show(if _ then _ else _)=_
  rw[if_neg]
  · exact hk
  ·
   intro h
   have:=(hr.lt k h).1
   omega
 ·
  change (if _ then _ else _)=_ at hk
  by_cases h:v.ownBlock=some k
  ·
   rw[if_pos h]at hk
   exact⟨hk, .inr (hr.lt k h).1⟩
  ·
   rw[if_neg h]at hk
   have h1:=hV.get k o hk
   have hlt:k<w.heap.size:=(Array.getElem?_eq_some_iff.1 h1).1
   exact⟨(hb.block k hlt).trans h1, .inl hk⟩
 · exact z38 (zbu hr) (fun k hk=>by show(if _ then _ else _)=_;rw[if_pos hk])
theorem Vext.same{w w':World}{V:Vw}(hV:V.le (vw w))(hb:Below w.heap.size w w'):Vext w.heap.size V V w':=
 ⟨Vw.le.refl _,fun k o hk=>by
  have h1:=hV.get k o hk
  exact⟨(hb.block k (Array.getElem?_eq_some_iff.1 h1).1).trans h1, .inl hk⟩⟩
end Go.Eng

/-
 Loops whose kept slots and own memory are read off the state; small helpers for templates.
-/
set_option linter.unusedSimpArgs false
set_option linter.unusedVariables false
namespace Go.Eng
open Go Go.RowKit
def zj4(F:z05):List Nat→List (Nat×SV)→Option (List (Nat×SV))
 |[],acc=>some acc
 |t::ts,acc=>match opv F [] (.tmp t)with
  |some x=>zj4 F ts ((t,x)::acc)
  |none=>none
def z8l:Own→List Nat→Own→Option Own
 |[],_,acc=>some acc
 |(l,c)::r,seen,acc=>bif z2w l seen then z8l r seen acc else(match c with
  | .gone=>z8l r (l::seen) acc
  |c=>z8l r (l::seen) ((l,c)::acc))
section
variable{P:Program}{Q:Exit→Act→World→Prop}{n:Nat}{F:z05}{C:List Nat}{O:Own}{nl:Nat}{V:Vw}
theorem j1y{c:Code}{σ:Type}(ts ls:List Nat){K0:List (Nat×SV)}{O0:Own}(hk:zj4 F ts []=some K0)(ho:z8l O ls []=some O0)
  (Fx:σ→List (Nat×SV)) (Ox:σ→Own) (I:σ→Prop) (μ:σ→Nat) (x0:σ)
  (h0:I x0) (hs:z52 F (Fx x0++K0)) (hO:z3b O (Ox x0++O0)) (hok:(z2f nl (Fx x0++K0)&&z0u nl (Ox x0++O0))=true)
  (round: ∀x,I x→KJ (c.wp P (Exit.then (fun a w=> ∃x',(AtX n (fun x=>Fx x++K0) (fun x=>Ox x++O0) nl (fun _=>V) x' a w∧I x')∧μ x'<μ x) Q)) n (mkF (Fx x++K0)) [] (Ox x++O0) nl V):
  KJ ((Code.loop c).wp P Q) n F C O nl V:=
 zcp (fun x=>Fx x++K0) (fun x=>Ox x++O0) nl (fun _=>V) I μ x0 h0 hs hO hok (Vw.le.refl _) round
theorem zzr{c:Code}{σ:Type}(ts ls:List Nat){K0:List (Nat×SV)}{O0:Own}(hk:zj4 F ts []=some K0)(ho:z8l O ls []=some O0)
  (Fx:σ→List (Nat×SV)) (Ox:σ→Own) (Vx:σ→Vw) (I:σ→Prop) (μ:σ→Nat) (x0:σ)
  (h0:I x0) (hs:z52 F (Fx x0++K0)) (hO:z3b O (Ox x0++O0)) (hok:(z2f nl (Fx x0++K0)&&z0u nl (Ox x0++O0))=true) (hV:(Vx x0).le V)
  (round: ∀x,I x→KJ (c.wp P (Exit.then (fun a w=> ∃x',(AtX n (fun x=>Fx x++K0) (fun x=>Ox x++O0) nl Vx x' a w∧I x')∧μ x'<μ x) Q)) n (mkF (Fx x++K0)) [] (Ox x++O0) nl (Vx x)):
  KJ ((Code.loop c).wp P Q) n F C O nl V:=
 zcp (fun x=>Fx x++K0) (fun x=>Ox x++O0) nl Vx I μ x0 h0 hs hO hok hV round
end
theorem SlOf.at{α:Type}{V:Vw}{enc:α→List Value}{sz:Nat}{v:Value}{l:List α}(_:SlOf V enc sz v l){k:Nat}(h:k<l.length): ∃x,l[k]? =some x:=
 ⟨_,List.getElem?_eq_getElem h⟩
theorem z01{α:Type}{l:List α}{k:Nat}{x:α}(h:l[k]? =some x):k<l.length:=(List.getElem?_eq_some_iff.1 h).1
end Go.Eng

/-
 Drawn regions: operations that only read, taken in the second phase too.
-/
set_option linter.unusedSimpArgs false
set_option linter.unusedVariables false
namespace Go.Eng
open Go Go.RowKit
section
variable{P:Program}{ops:Array Oper}{Q:Exit→Act→World→Prop}{sp:List Nat}{O0:Own}{nl0:Nat}{V0:Vw}{fuel:Nat}{listed:List Bool}{o:Oper}{n:Nat}{F:z05}{C:List Nat}{O:Own}{nl:Nat}{V:Vw}
theorem Mem.fwd{E0 E:Env}{w:World}(h:Mem E0 O0 nl0 V0 w)(hag:E0.agree nl0 E)(hn:nl0≤nl):Mem E O0 nl V0 w:=by
 have hblk: ∀{l c},lk O0 l=some c→blk E l c=blk E0 l c:=fun{l c} hl=>z1p hag (h.lab _ _ hl) c
 refine⟨?_, ?_, ?_,h.get, ?_,h.os,h.tape,h.output, ?_, ?_,fun l m b hl=> ?_,h.big,fun l m b v hl=> ?_⟩
 ·
  intro l cs e hl
  have:=h.lit _ _ _ hl
  rw[(hag l (h.lab _ _ hl)).1,A.map_agree hag (h.labs _ _ _ hl)]
  exact this
 ·
  intro l e sz m xs hl
  have:=h.row _ _ _ _ _ hl
  rw[(hag l (h.lab _ _ hl)).2]
  exact this
 ·
  intro l l' c c' k hl hl' hb hb'
  rw[hblk hl]at hb
  rw[hblk hl']at hb'
  exact h.sep l l' c c' k hl hl' hb hb'
 ·
  intro l c k hl hb
  rw[hblk hl]at hb
  exact h.off l c k hl hb
 ·
  intro l c hl
  have:=h.lab _ _ hl
  omega
 ·
  intro l cs e hl
  exact z15 hn<|h.labs _ _ _ hl
 ·
  obtain⟨h1,h2⟩:=h.pin l m b hl
  exact⟨(hag m h2).1.trans h1,by omega⟩
 ·
  obtain⟨h1,h2,h3⟩:=h.kp l m b v hl
  exact⟨(hag m h3).1.trans h1,(hag m h3).2.trans h2,by omega⟩
theorem z36(i:Nat){p:List (Nat×Bool)}{g:Bool}{C':List Nat}{s:SV}{d:Nat}(hi:ops[i]? =some o)
  (htk:zp0 ops sp listed.toArray i=true)
  (hg:gd ops F C o.guard=some (p,g,C')) (hd:o.dst=some d) (hc:(Nat.blt d n&& !(z2w d C'))=true) (hn:Nat.ble nl0 nl=true)
  (hy:Yld P o n F C' O0 nl V0 p g s) (hs:s.ok nl=true)
  (next:HJ P ops Q sp O0 nl0 V0 fuel (z4w listed i) n ((d,⟨p,g,s⟩)::F) C' O nl V):HJ P ops Q sp O0 nl0 V0 (fuel+1) listed n F C O nl V:=by
 simp only[zp0,Bool.and_eq_true,Bool.not_eq_true']at htk
 obtain⟨⟨⟨⟨hr,hfr⟩,hsel⟩,hw⟩,hns⟩:=htk
 constructor
 intro E0 E a w hag hdf hf hm hM
 obtain⟨h1,h2,h3,h4⟩:=z18 hf hg
 simp only[Bool.and_eq_true,z0e,Bool.not_eq_true']at hc
 obtain⟨hisp,hsp⟩:=zdy hw
 refine zbk (v:=if g then s.den E else undef) hi (Region.noSelect_spec hsel) (fun c a w h=>h.elim) hisp hsp fuel listed.toArray a w (Region.free_spec hi hfr) (by simpa using hr) ?_ hns (hM hns) ?_
 ·
  cases g with
  |true=>
   refine .inl ⟨h1,fun w' hm'=> ?_⟩
   have:=(hy rfl E a w' h2 h3.symm (hm'.fwd hag (by simpa using hn))).1
   simpa[Yv]using this
  |false=>exact .inr ⟨h1,by simp⟩
 ·
  rw[←z7p,hd]
  exact next.out E0 E _ w hag (by simp[Act.put,hdf]) (Frm.put (p:=p) (g:=g) h2 hc.1 hc.2 h3 h4 (fun _=>hs)) hm fun _=>hM hns
end
theorem j01{P:Program}{Q:Exit→Act→World→Prop}{n:Nat}{F:z05}{C:List Nat}{O:Own}{nl:Nat}{V:Vw}{id:Nat}{l:List Oper}{O0:Own}(hmix:P.follows .mixedOrders=true)
  (ho:z8l O [] []=some O0) (hO:z3b O O0) (hok:z0u nl O0=true)
  (h:TJ P l.toArray Q [] O0 l.length (List.replicate l.length false) n F C O nl V):KJ ((Code.region id l.toArray true).wp P Q) n F C O nl V:=
 zdl [] O0 hmix hO hok h
theorem Mem.rowOf{α:Type}{enc:α→List Value}{E:Env}{O:Own}{nl:Nat}{V:Vw}{w:World}(hm:Mem E O nl V w)(l:Nat){e sz:Nat}{L:List α}(hl:lk O l=some (.row e sz L.length (L.flatMap enc)))
  (he: ∀x,(enc x).length=sz):SlOf (vw w) enc sz (E.κ l) L:=
 ⟨z38 (hm.row _ _ _ _ _ hl) (fun _ _=>rfl),he⟩
theorem zij{α:Type}(V:Vw)(enc:α→List Value)(sz c:Nat)(he: ∀x,(enc x).length=sz):SlOf V enc sz (.slice none 0 c) []:=
 ⟨⟨by simp, .inl ⟨none,c,rfl,rfl⟩⟩,he⟩
end Go.Eng
