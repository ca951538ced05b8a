import Derived.Test.YtlkkohkilelamaaGreatEng11
import Derived.OrdersHeld
import Derived.Deep.RegionHeld3
import Derived.Laws.AppendOwn
import Derived.Laws.StructEq
import Derived.Laws.BytesString
import Derived.Lib.ConvBytes
import Derived.Laws.OwnMore
import Derived.Laws.CopyRow
import Derived.Laws.BitsAllLaws
import Derived.Laws.IdiomCopy
set_option linter.unusedSimpArgs false
set_option linter.unusedVariables false
/- A part of the proof of SurveySlots. -/
namespace Go.Eng
open Go Go.RowKit
def fF(sp:Z8 Nat)(listed:Array Bool):Bool:=sp.any λs=>listed.getD s true
section
variable{P:Z3}{ops:Array Oper}{Q:Exit->Act->Z6->Prop}{md:Region.Mode}{M:Z6->Prop}{sp:Z8 Nat}
def nh(P:Z3)(md:Region.Mode)(ops:Array Oper)(Q:Exit->Act->Z6->Prop)(sp:Z8 Nat)(M:Z6->Prop):Nat->Array Bool->Act->Z6->Prop
 |0,listed,a,w=>Region.ready md ops listed=[]/\Q .normal a w
 |fuel+1,listed,a,w=>
  (Region.ready md ops listed=[]->Q .normal a w)/\
  ∀i∈Region.ready md ops listed,wpOp P ops Q i (λa' w'=>(fF sp (listed.setIfInBounds i true)=false->M w')/\nh P md ops Q sp M fuel (listed.setIfInBounds i true) a' w') a w
theorem tO:∀(fuel:Nat) (listed:Array Bool) (a:Act) (w:Z6),nh P md ops Q sp M fuel listed a w->wpAny P md ops Q fuel listed a w
 |0,_,_,_,h=>h
 |fuel+1,_,_,_,h=>⟨h.1,λi hi=>wpOp_mono (λa' w' h'=>tO fuel _ a' w' h'.2) (h.2 i hi)⟩
theorem oZ{d:Array Bool}{i:Nat}(h:i∉sp):fF sp (d.setIfInBounds i true)=fF sp d:=by unfold fF;rw[Ze,YJ,YJ];constructor;{rintro⟨s,l,m⟩;exact⟨s,l,by rwa [getD_set_ne true (λe=>h (by rw[e];exact l))]at m⟩};rintro⟨s,l,m⟩;exact⟨s,l,by rwa [getD_set_ne true (λe=>h (by rw[e];exact l))]⟩
theorem JX{i:Nat}{E:Oper}{v:Z7}(hi:ops[i]? =some E)(z:∀(j:Nat) (o:Oper) cs b,ops[j]? =some o->o.op≠ .select cs b) (hQ:∀c a w,Q (.panic c) (a.put E.dst v) w->Q (.panic c) a w) (R:i∉sp) (ab:∀s∈sp,∀os,ops[s]? =some os-> ∃e∈os.after,Region.binds md e=true/\e.on=i):∀(fuel:Nat) (listed:Array Bool) (a:Act) (w:Z6), (∀j oj,ops[j]? =some oj->j≠i->listed.getD j true=false->(∀e∈oj.after,Region.binds md e=true->e.on≠i)->E.apart ops oj=true)-> i∈Region.ready md ops listed->YieldsIf P ops M E v a->fF sp listed=false->M w-> nh P md ops Q sp M fuel (listed.setIfInBounds i true) (a.put E.dst v) w->nh P md ops Q sp M (fuel+1) listed a w:=by
 intro fuel
 induction fuel with
 |zero=>intro listed a w _ N Z L O H;refine⟨λh=>(by rw[h]at N;cases N),λj hj=>?_⟩;by_cases d:j=i;{subst d;exact Z.wpOp hi O ⟨λ_=>O,H⟩};have:=ready_mono hj d;rw[H.1]at this;cases this
 |succ fuel ih=>
  intro listed a w l N Z L O H;refine⟨λh=>(by rw[h]at N;cases N),λj hj=>?_⟩;by_cases d:j=i;{subst d;exact Z.wpOp hi O ⟨λ_=>O,H⟩};have B:=H.2 j (ready_mono hj d);obtain⟨t,oj,p,Y⟩:=mem_ready.1 hj;(have y:∀e∈oj.after,Region.binds md e=true->e.on≠i:=λe he hb a8=>by have B:=Y e he hb;have h0:=(mem_ready.1 N).1;rw[a8]at B;(rcases YM i listed.size with h'|h');{simp[h']at h0 B;rw[h0]at B;cases B};simp[Array.getElem?_eq_none h']at B);(have u:j∉sp:=λhm=>by obtain⟨e,he,hb,a9⟩:=ab j hm oj p;exact y e he hb a9);have h2:=wpOp_putIf p (l j oj p d t y) (λcs b=>z i E cs b hi) (λcs b=>z j oj cs b p) hQ Z B
  have m:∀k ok,ops[k]? =some ok->k≠i->(listed.setIfInBounds j true).getD k true=false->
    (∀e∈ok.after,Region.binds md e=true->e.on≠i)->E.apart ops ok=true:=λk ok hk a6 W a5=>by
   refine l k ok hk a6 ?_ a5
   by_cases T:j=k
   . subst T;exact t
   . rw[getD_set_ne true T]at W;exact W
  refine wpOp_mono (λa' w' h3=>?_) h2;(have X:fF sp (listed.setIfInBounds j true)=false:=by rw[oZ u];exact L);have V:M w':=h3.2.1 (by rw[oZ u,oZ R];exact L);refine⟨λ_=>V,ih (listed.setIfInBounds j true) a' w' m (ready_mono N (Ne.symm d)) h3.1 X V ?_⟩;rw[Ya _ _ d];exact h3.2.2
def AP(ops:Array Oper)(sp:Z8 Nat)(i:Nat):Bool:=
 sp.all λs=> !(s==i)&&match ops[s]? with
  |some os=>os.after.any λe=>Region.binds .any e&&e.on==i
  |none=>true
theorem Hd{i:Nat}(h:AP ops sp i=true):i∉sp/\ ∀s∈sp,∀os,ops[s]? =some os-> ∃e∈os.after,Region.binds .any e=true/\e.on=i:=by
 simp only[AP,YV,Z1,ZJ,beq_eq_false_iff_ne]at h
 grind
end
structure TJ(P:Program)(ops:Array Oper)(Q:Exit->Act->World->Prop)(sp:List Nat)(O0:Own)(fuel:Nat)(listed:List Bool)(n:Nat)(F:cy)(C:List Nat)(O:Own)(nl:Nat)(V:Vw):Prop where
 out:∀E a w,a.defers=[]->Frm E n F C nl a.tmps->Mem E O nl V w->Mem E O0 nl V w->nh P .any ops (NoPanic Q) sp (λw=>Mem E O0 nl V w) fuel listed.toArray a w
structure HJ(P:Program)(ops:Array Oper)(Q:Exit->Act->World->Prop)(sp:List Nat)(O0:Own)(nl0:Nat)(V0:Vw)(fuel:Nat)(listed:List Bool)(n:Nat)(F:cy)(C:List Nat)(O:Own)(nl:Nat)(V:Vw):Prop where
 out:∀E0 E a w,E0.agree nl0 E->a.defers=[]->Frm E n F C nl a.tmps->Mem E O nl V w->(fF sp listed.toArray=false->Mem E0 O0 nl0 V0 w)->
  nh P .any ops (NoPanic Q) sp (λw=>Mem E0 O0 nl0 V0 w) fuel listed.toArray a w
section
variable{P:Z3}{tt:Z8 (Nat×TI)}{ops:Array Oper}{Q:Exit->Act->Z6->Prop}{o:Oper}{rest:Z8 Oper}
 {n:Nat} {F:cy} {C:Z8 Nat} {O:Own} {nl:Nat} {V:Vw} {K:Act->Z6->Prop} {sp:Z8 Nat} {O0:Own} {nl0:Nat} {V0:Vw} {fuel:Nat} {listed:Z8 Bool}
theorem gE{id:Nat}{l:Z8 Oper}(sp:Z8 Nat)(o:Own)(d:P.follows .mixedOrders=true)(hO:dm O o)(p:eA nl o=true) (h:TJ P l.toArray Q sp o l.length (List.replicate l.length false) n F C O nl V):KJ ((Code.region id l.toArray true).wp P Q) n F C O nl V:=by constructor;intro E a w hd u t;refine wp_region_noPanic<|wp_region_any d<|tO (sp:=sp) (M:=λw=>Mem E o nl V w) _ _ _ _ ?_;have m:Mem E O nl V {w with drawn:=w.drawn+1}:=t.drawn _;have:=h.out E a _ hd u m (m.weak hO p (Vw.le.refl _));simpa using this
theorem dm.nil:dm O []:=trivial
theorem dm.cons{l:Nat}{c:Cel}{r:Own}(h:Eng.lk O l=some c)(d:dm O r):dm O ((l,c)::r):=⟨h,d⟩
theorem dT.nil:dT F []:=trivial
theorem dT.cons{t:Nat}{x:SV}{r:Z8 (Nat×SV)}(h:cV F [] (.tmp t)=some x)(d:dT F r):dT F ((t,x)::r):=⟨h,d⟩
def pO(M:Act->Z6->Prop):Exit->Act->Z6->Prop
 |.normal,a,w=>M a w
 |_,_,_=>False
theorem yq{id:Nat}{l:Z8 Oper}{σ:Type}(Fx:σ->Z8 (Nat×SV))(Ox:σ->Own)(nl':Nat)(Vx:σ->Vw)(I:σ->Prop)(d:P.follows .mixedOrders=true) (h:TJ P l.toArray (pO λa w=>∃x',gM n Fx Ox nl' Vx x' a w/\I x') [] O l.length (List.replicate l.length false) n F C O nl V) (W:∀x',I x'->KJ (Q .normal) n (dA (Fx x')) [] (Ox x') nl' (Vx x')):KJ ((Code.region id l.toArray true).wp P Q) n F C O nl V:=by
 constructor;intro E a w hd R X;have m:Mem E O nl V {w with drawn:=w.drawn+1}:=X.drawn _;have z:=h.out E a _ hd R m m
 have N:(Code.region id l.toArray true).wp P (NoPanic (pO λa w=>∃x',gM n Fx Ox nl' Vx x' a w/\I x')) a w:=
  wp_region_any d (tO (sp:=[]) (M:=λw=>Mem E O nl V w) _ _ _ _ (by simpa using z))
 refine wp_mono N ?_;intro e L y u;cases e with
 |normal=>obtain⟨x',⟨B,t,p,o⟩,T⟩:=u;exact(W x' T).out B L y t p o
 |_=>exact u.elim
def dz:Z8 Bool->Nat->Z8 Bool
 |[],_=>[]
 |_::r,0=>true::r
 |b::r,n+1=>b::dz r n
theorem qq:∀(l:Z8 Bool) (i:Nat),(dz l i).toArray=l.toArray.setIfInBounds i true:=by
 intro l i;apply YN;simp
 induction l generalizing i with
 |nil=>simp[dz]
 |cons b r ih=>cases i with
  |zero=>simp[dz]
  |succ n=>simp[dz,ih n]
def r9(ops:Array Oper)(sp:Z8 Nat)(listed:Array Bool)(i:Nat):Bool:=
 (Region.ready .any ops listed).contains i&&Region.free .any ops listed i&&Region.noSelect ops&&AP ops sp i&& !(fF sp listed)
theorem Jc(i:Nat){p:Z8 (Nat×Bool)}{g:Bool}{z:Z8 Nat}{s:SV}{d:Nat}(hi:ops[i]? =some o) (l:r9 ops sp listed.toArray i=true) (hg:gd ops F C o.guard=some (p,g,z)) (hd:o.dst=some d) (T:(Nat.blt d n&& !(dh d z))=true) (hy:dY P o n F z O0 nl V p g s) (hs:s.ok nl=true) (y:TJ P ops Q sp O0 fuel (dz listed i) n ((d,⟨p,g,s⟩)::F) z O nl V):TJ P ops Q sp O0 (fuel+1) listed n F C O nl V:=by
 simp only[r9,Z1,ZJ]at l;obtain⟨⟨⟨⟨hr,L⟩,u⟩,hw⟩,N⟩:=l;constructor;intro E a w M hf hm t;obtain⟨X,W,Y,h4⟩:=gz hf hg;simp at T;obtain⟨m,R⟩:=Hd hw;refine JX (v:=if g then s.den E else undef) hi (Region.noSelect_spec u) (λc a w h=>h.elim) m R fuel listed.toArray a w (Region.free_spec hi L) (by simpa using hr) ?_ N t ?_
 .cases g with
  |true=>refine .inl ⟨X,λZ B=>?_⟩;have:=(hy J E a Z W Y.symm B).1;simpa[Yv]using this
  |false=>exact .inr ⟨X,sm⟩
 rw[<-qq,hd];exact y.out E _ w (by simp[Act.put,M]) (Frm.put (p:=p) (g:=g) W T.1 T.2 Y h4 (λ_=>hs)) hm t
theorem KU(h:HJ P ops Q sp O0 nl V fuel listed n F C O nl V):TJ P ops Q sp O0 fuel listed n F C O nl V:=
 ⟨λE a w hd m l d=>h.out E E a w (λ_ _=>⟨J,J⟩) hd m l (λ_=>d)⟩
theorem Mem.back{E0 E:Env}{w:Z6}(R:Mem E O nl V w)(o:E0.agree nl0 E)(hO:dm O O0)(M:eA nl0 O0=true)(hV:V0.le V):Mem E0 O0 nl0 V0 w:=by
 have h:=R.weak hO M hV;have p:∀{l c},lk O0 l=some c->blk E0 l c=blk E l c:=λ{l c} d=>(jL o (h.lab _ _ d) c).symm;refine⟨?_,?_,?_,h.get,?_,h.os,h.tape,h.output,h.lab,h.labs,λl m b d=>?_,h.big,λl m b v d=>?_⟩;{intro l cs e d;have:=h.lit _ _ _ d;rw[(o l (h.lab _ _ d)).1,A.map_agree o (h.labs _ _ _ d)]at this;exact this}
 .intro l e sz m xs d;have:=h.row _ _ _ _ _ d
  rwa [(o l (h.lab _ _ d)).2]at this
 {intro l T c N k d u t y;rw[p d]at t;rw[p u]at y;exact h.sep l T c N k d u t y};{intro l c k d t;rw[p d]at t;exact h.off l c k d t};{obtain⟨B,z⟩:=h.pin l m b d;exact⟨(o m z).1▸B,z⟩};obtain⟨B,z,L⟩:=h.kp l m b v d;exact⟨(o m L).1▸B,(o m L).2▸z,L⟩
structure HI(P:Program)(ops:Array Oper)(Q:Exit->Act->World->Prop)(sp:List Nat)(O0:Own)(nl0:Nat)(V0:Vw)(fuel:Nat)(listed:List Bool)(n:Nat)(F:cy)(C:List Nat)(O:Own)(nl:Nat)(V:Vw)(i:Nat):Prop where
 out:∀E0 E a w,E0.agree nl0 E->a.defers=[]->Frm E n F C nl a.tmps->Mem E O nl V w->(fF sp listed.toArray=false->Mem E0 O0 nl0 V0 w)->
   wpOp P ops (NoPanic Q) i (λa' w'=>(fF sp (dz listed i).toArray=false->Mem E0 O0 nl0 V0 w')/\nh P .any ops (NoPanic Q) sp (λw=>Mem E0 O0 nl0 V0 w) fuel (dz listed i).toArray a' w') a w
theorem wv(l:Z8 Nat)(o:Region.ready .any ops listed.toArray=l)(y:l.isEmpty=false)(h:∀i∈l,HI P ops Q sp O0 nl0 V0 fuel listed n F C O nl V i): HJ P ops Q sp O0 nl0 V0 (fuel+1) listed n F C O nl V:=by constructor;intro E0 E a w d hd u t z;refine⟨λp=>(by rw[o]at p;subst p;cases y),λj m=>?_⟩;rw[o]at m;have:=(h j m).out E0 E a w d hd u t z;simp only[qq]at this;exact this
theorem D5(i:Nat)(l:Region.ready .any ops listed.toArray=[i])(h:HI P ops Q sp O0 nl0 V0 fuel listed n F C O nl V i):HJ P ops Q sp O0 nl0 V0 (fuel+1) listed n F C O nl V:=
 wv [i] l J (λj d=>by simp only[ZE]at d;subst d;exact h)
theorem Va(i j:Nat)(m:Region.ready .any ops listed.toArray=[i,j])(o:HI P ops Q sp O0 nl0 V0 fuel listed n F C O nl V i)(l:HI P ops Q sp O0 nl0 V0 fuel listed n F C O nl V j):HJ P ops Q sp O0 nl0 V0 (fuel+1) listed n F C O nl V:=
 wv [i,j] m J (λk d=>by
  simp at d
  rcases d with rfl|rfl
  . exact o
  . exact l)
theorem jF{i:Nat}(h:fF sp (dz listed i).toArray=false):fF sp listed.toArray=false:=by
 rw[qq]at h;cases d:fF sp listed.toArray with
 |false=>rfl
 |true=>
  unfold fF at d h;rw[YJ]at d;obtain⟨s,l,m⟩:=d
  have:(sp.any λs=>(listed.toArray.setIfInBounds i true).getD s true)=true:=by
   rw[YJ];refine⟨s,l,?_⟩;by_cases hi:i=s
   .subst hi;(rcases YM i listed.toArray.size with h'|h');{simp_all}
    simp_all
   simp_all
  grind
theorem Fa(o:Z8 Nat){d:cy}(m:Region.ready .any ops listed.toArray=[])(u:oi F o []=some d)(h:KJ (Q .normal) n d [] O nl V):HJ P ops Q sp O0 nl0 V0 fuel listed n F C O nl V:=by
 constructor;intro E0 E a w p hd y z B;have l:=h.out E a w hd (y.plain (yJ o [] d (λt e h=>by simp[lk]at h) u)) z;cases fuel with
 |zero=>exact⟨m,l⟩
 |succ f=>exact⟨λ_=>l,λi hi=>by rw[m]at hi;cases hi⟩
theorem pB(i:Nat){p:Z8 (Nat×Bool)}{g:Bool}{z:Z8 Nat}{s:SV}{d:Nat}(hi:ops[i]? =some o) (X:gd ops F C o.guard=some (p,g,z)) (hd:o.dst=some d) (y:(Nat.blt d n&& !(dh d z))=true) (hy:dY P o n F z O nl V p g s) (l:HJ P ops Q sp O0 nl0 V0 fuel (dz listed i) n ((d,⟨p,g,s⟩)::F) z O nl V):HI P ops Q sp O0 nl0 V0 fuel listed n F C O nl V i:=by
 refine⟨λE0 E a w t u Z T B=>?_⟩;obtain⟨Y,L,N,W⟩:=gz Z X;simp at y;unfold wpOp;simp only[hi];rw[Y];cases g with
 |true=>
  left;obtain⟨M,R⟩:=hy J E a w L N.symm T;unfold Oper.wp;rw[M];refine⟨λm=>B (jF m),?_⟩;rw[hd];refine l.out E0 E _ w t (by simp[Act.put,u]) ?_ T λm=>B<|jF m;have:=Frm.put (p:=p) (g:=true) L y.1 y.2 N W (λ_=>R)
  simp_all
 |false=>
  simp only[Zw,Zt,hd];refine⟨λm=>B (jF m),?_⟩;refine l.out E0 E _ w t (by simp[Act.put,u]) ?_ T λm=>B<|jF m;have:=Frm.put (p:=p) (g:=false) (s:=s) L y.1 y.2 N W sm
  simp_all
theorem B4(i:Nat)(R:dl P tt){d:Nat}{cs:Z8 A}{e:Nat}(hi:ops[i]? =some o) (hg:o.guard=none) (hv:m5 tt F O o.op=some (cs,e)) (hd:o.dst=some d) (W:(Nat.blt d n&& !(dh d C))=true) (N:Nat.ble nl0 nl=true) (y:HJ P ops Q sp O0 nl0 V0 fuel (dz listed i) n ((d,⟨[],true,.a (.ptr nl 0)⟩)::F) C ((nl,.lit cs e)::O) (nl+1) V):HI P ops Q sp O0 nl0 V0 fuel listed n F C O nl V i:=by
 refine⟨λE0 E a w B L X Y Z=>?_⟩;simp at W;obtain⟨u,T⟩:=HC R X Y hv;unfold wpOp;simp only[hi];rw[show Region.wanted o (yielded ops a.tmps)=true by simp[Region.wanted,hg]];left;unfold Oper.wp;rw[u];have m:fF sp (dz listed i).toArray=false->Mem E0 O0 nl0 V0 (w.alloc (.cells (cs.map (A.den E)).toArray e (0,0))):=λhs=>(Z (jF hs)).keep (mh _ _);refine⟨m,?_⟩;rw[hd];have z:=Y.new (cs:=cs) (e:=e) T;have a8:nl0<=nl:=by simpa using N
 have t:E0.agree nl0 (E.setρ nl w.heap.size):=λl hl=>by
  have h1:=B l hl;have h2:=E.agree_setρ (nl:=nl) w.heap.size l om
  simp_all
 refine y.out E0 (E.setρ nl w.heap.size) _ _ t (by simp[Act.put,L]) ?_ z m;have M:=X.env (E.agree_setρ w.heap.size) (YF nl);have:=Frm.put (p:=[]) (g:=true) (s:=.a (.ptr nl 0)) M W.1 W.2 J sm (λ_=>by simp[SV.ok,A.ok,eD]);simpa[SV.den,A.den,Env.setρ]using this
theorem Vh(Y:dl P tt){E:Env}{a:Act}{w:Z6}(hf:Frm E n F C nl a.tmps)(T:Mem E O nl V w){l:Nat}{cs':Z8 A}{e:Nat}{vs:Z8 A}(m:m8 tt F O o.op=some (l,cs',e,vs))(h1:gg O vs):∃cs,lk O l=some (.lit cs e)/\dH nl cs'=true/\(execOp a.eval o).run P w=.ok .skip (w.setRow (E.ρ l) (cs'.map (A.den E)).toArray):=by
 unfold execOp;cases L:o.op with
 |store t y x=>
  simp only[L,m8]at m;split at m
  .rename_i l' off s ti hy p X;obtain⟨e1,_⟩:=cZ hf (by rfl) hy;obtain⟨e2,W⟩:=cZ hf (by rfl) p;split at m
   .rename_i cs e' d z Z;cases u:Nat.beq d.length ti.size with
    |false=>simp[u]at m
    |true=>simp only[u,Za]at m;split at m;{rename_i r hr;simp only[Z0,ZN]at m;obtain⟨rfl,rfl,rfl,rfl⟩:=m;obtain⟨h3,h4⟩:=uL T Z W;obtain⟨h5,h6⟩:=wI hr;have R:=T.labs _ _ _ z;refine⟨cs,z,?_,?_⟩;{rw[h5];apply gi.2;intro x p;simp only[Zc,Zh]at p;(rcases p with p|p|p);{exact gi.1 R x (Y7 p)};{exact gi.1 h4 x p};exact gi.1 R x (YT p)};have M:=run_storeCells_at P (E.ρ l') off e' (d.map (A.den E)) 0 (cs.map (A.den E)).toArray w (T.lit _ _ _ z) (by simpa using h6) (BQ T h1);have a5:a.eval y=.pointer (some ⟨E.ρ l',off,none⟩):=e1;(have B:(s.den E).cells.size=ti.size:=by rw[h3];simpa using(YU▸u));(have a0:(s.den E).cells.toList=d.map (A.den E):=by rw[h3]);(have N:((cs.map (A.den E)).toArray.toList.take (off+0)++d.map (A.den E)++(cs.map (A.den E)).toArray.toList.drop (off+0+(d.map (A.den E)).length)).toArray=(r.map (A.den E)).toArray:=by rw[h5];simp[z_,y_]);rw[N]at M;simp only[a5,e2,Instr.storeAt,Instr.sureAddr,storeVar,ZR,ZO,ZU,(Y _ _ X).sizeOf,B,ne_eq,W_,Zt,a0,M]};simp at m
   simp at m
  simp_all
 |_=>simp[L,m8]at m
theorem mC(i:Nat)(B:dl P tt){l:Nat}{cs':Z8 A}{e:Nat}{R:Z8 A}(hi:ops[i]? =some o) (Z:o.guard=none) (hd:o.dst=none) (hv:m8 tt F O o.op=some (l,cs',e,R)) (z:gg O R) (M:fF sp (dz listed i).toArray=true\/(dm ((l,.lit cs' e)::O) O0/\eA nl0 O0=true/\V0.le V)) (u:HJ P ops Q sp O0 nl0 V0 fuel (dz listed i) n F C ((l,.lit cs' e)::O) nl V):HI P ops Q sp O0 nl0 V0 fuel listed n F C O nl V i:=by refine⟨λE0 E a w p y T X hM=>?_⟩;obtain⟨cs,N,L,t⟩:=Vh B T X hv z;unfold wpOp;simp only[hi];rw[show Region.wanted o (yielded ops a.tmps)=true by simp[Region.wanted,Z]];left;unfold Oper.wp;rw[t];have m:=X.set N L;(have d:fF sp (dz listed i).toArray=false->Mem E0 O0 nl0 V0 (w.setRow (E.ρ l) (cs'.map (A.den E)).toArray):=λW=>by (rcases M with h|⟨z,Y,h3⟩);{rw[h]at W;cases W};exact m.back p z Y h3);refine⟨d,?_⟩;rw[hd];exact u.out E0 E a _ p y T m d
theorem Tg(i:Nat){p:Z8 (Nat×Bool)}{g:Bool}{L:Z8 Nat}{d f:Nat}{X:Z8 SV}(s:SV)(hi:ops[i]? =some o) (hg:gd ops F C o.guard=some (p,g,L)) (hv:fL F p o.op=some (f,X)) (W:eJ P f) (hd:o.dst=some d) (B:(Nat.blt d n&& !(dh d L))=true) (hs:s.ok nl=true) (t:g=true-> ∀E w,Mem E O nl V w->Calls P f (X.map (SV.den E)).toArray w λe w'=>e=.returned (s.den E)/\cH w w') (m:HJ P ops Q sp O0 nl0 V0 fuel (dz listed i) n ((d,⟨p,g,s⟩)::F) L O nl V):HI P ops Q sp O0 nl0 V0 fuel listed n F C O nl V i:=by
 refine⟨λE0 E a w u y hf T N=>?_⟩;obtain⟨h1,M,R,Z⟩:=gz hf hg;simp only[Z1,eD,ZJ]at B;unfold wpOp;simp only[hi];rw[h1];cases g with
 |true=>
  left;obtain⟨z,_⟩:=kG M R.symm hv W w;unfold Oper.wp;rw[z,Oper.upon_enter];refine(t J E w T).mono ?_;rintro e w' ⟨rfl,Y⟩;have l:fF sp (dz listed i).toArray=false->Mem E0 O0 nl0 V0 w':=λhs=>(N (jF hs)).keep Y;refine⟨l,?_⟩;rw[hd];refine m.out E0 E _ w' u (by simp[Act.put,y]) ?_ (T.keep Y) l;have:=Frm.put (p:=p) (g:=true) M B.1 B.2 R Z (λ_=>hs)
  simp_all
 |false=>simp only[Zw,Zt,hd];refine⟨λhs=>N (jF hs),?_⟩;refine m.out E0 E _ w u (by simp[Act.put,y]) ?_ T λhs=>N<|jF hs;have:=Frm.put (p:=p) (g:=false) (s:=s) M B.1 B.2 R Z sm;simpa using this
theorem gA(i:Nat){p:Z8 (Nat×Bool)}{g:Bool}{M:Z8 Nat}{d f:Nat}{Y:Z8 SV}(Φ:Z7->Vw->Prop)(hi:ops[i]? =some o) (hg:gd ops F C o.guard=some (p,g,M)) (hv:fL F p o.op=some (f,Y)) (X:eJ P f) (hd:o.dst=some d) (L:(Nat.blt d n&& !(dh d M))=true) (t:g=true-> ∀E w,Mem E O nl V w->Calls P f (Y.map (SV.den E)).toArray w λe w'=>∃v V',e=.returned v/\cH w w'/\Vext w.heap.size V V' w'/\Φ v V') (m:∀v V',V.le V'->(g=true->Φ v V')->HJ P ops Q sp O0 nl0 V0 fuel (dz listed i) n ((d,⟨p,g,.a (.v v)⟩)::F) M O nl V'):HI P ops Q sp O0 nl0 V0 fuel listed n F C O nl V i:=by
 refine⟨λE0 E a w u y hf W R=>?_⟩;obtain⟨h1,N,T,h4⟩:=gz hf hg;simp only[Z1,eD,ZJ]at L;unfold wpOp;simp only[hi];rw[h1];cases g with
 |true=>left;obtain⟨z,_⟩:=kG N T.symm hv X w;unfold Oper.wp;rw[z,Oper.upon_enter];refine(t J E w W).mono ?_;rintro e w' ⟨v,V',rfl,Z,hx,hΦ⟩;have l:fF sp (dz listed i).toArray=false->Mem E0 O0 nl0 V0 w':=λB=>(R (jF B)).keep Z;refine⟨l,?_⟩;rw[hd];refine(m v V' hx.le (λ_=>hΦ)).out E0 E _ w' u (by simp[Act.put,y]) ?_ (W.ext Z hx) l;have:=Frm.put (p:=p) (g:=true) (s:=.a (.v v)) N L.1 L.2 T h4 (λ_=>rfl);simpa[SV.den,A.den]using this
 |false=>
  simp only[Zw,Zt,hd];refine⟨λB=>R (jF B),?_⟩;refine(m undef V (Vw.le.refl _) sm).out E0 E _ w u (by simp[Act.put,y]) ?_ W λB=>R<|jF B;have:=Frm.put (p:=p) (g:=false) (s:=.a (.v undef)) N L.1 L.2 T h4 sm
  simp_all
theorem Xu(i:Nat){p:Z8 (Nat×Bool)}{g:Bool}{L:Z8 Nat}{d:Nat}(M:Nat->Z7)(y:Obj)(hi:ops[i]? =some o) (Z:gd ops F C o.guard=some (p,g,L)) (hd:o.dst=some d) (B:(Nat.blt d n&& !(dh d L))=true) (hy:g=true-> ∀E (a:Act) w,Frm E n F L nl a.tmps->eN F p=true->Mem E O nl V w->(execOp a.eval o).run P w=.ok (.value (M w.heap.size)) (w.alloc y)) (m:∀b V',V.le V'->(g=true->V'.get b=some y)->HJ P ops Q sp O0 nl0 V0 fuel (dz listed i) n ((d,⟨p,g,.a (.v (M b))⟩)::F) L O nl V'):HI P ops Q sp O0 nl0 V0 fuel listed n F C O nl V i:=by
 refine⟨λE0 E a w t u hf N T=>?_⟩;obtain⟨h1,R,W,X⟩:=gz hf Z;simp at B;unfold wpOp;simp only[hi];rw[h1];cases g with
 |true=>left;unfold Oper.wp;rw[hy J E a w R W.symm N];have l:fF sp (dz listed i).toArray=false->Mem E0 O0 nl0 V0 (w.alloc y):=λz=>(T (jF z)).keep (mh _ _);refine⟨l,?_⟩;rw[hd];have Y:=N.vext y;refine(m w.heap.size _ Y.le (λ_=>by simp[Vw.put])).out E0 E _ _ t (by simp[Act.put,u]) ?_ (N.ext (mh w y) Y) l;have:=Frm.put (p:=p) (g:=true) (s:=.a (.v (M w.heap.size))) R B.1 B.2 W X (λ_=>rfl);simpa[SV.den,A.den]using this
 |false=>
  simp only[Zw,Zt,hd];refine⟨λz=>T (jF z),?_⟩;refine(m 0 V (Vw.le.refl _) sm).out E0 E _ w t (by simp[Act.put,u]) ?_ N λz=>T<|jF z;have:=Frm.put (p:=p) (g:=false) (s:=.a (.v (M 0))) R B.1 B.2 W X sm
  simp_all
theorem j8(i:Nat)(t:dl P tt){p:Z8 (Nat×Bool)}{g:Bool}{m:Z8 Nat}{d len e:Nat}{y:Z8 Z7}(hi:ops[i]? =some o)
  (M:gd ops F C o.guard=some (p,g,m)) (L:qF tt F O p o.op=some (len,y,e)) (hd:o.dst=some d) (N:(Nat.blt d n&& !(dh d m))=true)
  (l:∀b V',V.le V'->(g=true->V'.get b=some (.cells y.toArray e (0,0)))->HJ P ops Q sp O0 nl0 V0 fuel (dz listed i) n ((d,⟨p,g,.a (.v (.slice (some ⟨b,0,none⟩) len len))⟩)::F) m O nl V'):
  HI P ops Q sp O0 nl0 V0 fuel listed n F C O nl V i:=
 Xu i (λb=>.slice (some ⟨b,0,none⟩) len len) _ hi M hd N (λ_ E a w B u z=>wL t B u z L) l
end
def sw(i j l:Nat):Nat:=bif Nat.beq l i then j else bif Nat.beq l j then i else l
theorem E8(i j l:Nat):sw i j l=if l=i then j else if l=j then i else l:=by
 unfold sw;by_cases h:l=i;{subst h;simp}
 simp_all
theorem qr(i j l:Nat):sw i j (sw i j l)=l:=by
 simp only[E8]
 grind
theorem Km{i j l d:Nat}(h:sw i j l=sw i j d):l=d:=by
 have:=Y5 (sw i j) h
 rwa [qr,qr]at this
theorem q9{i j l nl:Nat}(hi:i<nl)(d:j<nl)(h:l<nl):sw i j l<nl:=by
 rw[E8];repeat' split
 all_goals assumption
def A.sw(i j:Nat):A->A
 |.v x=>.v x
 |.ptr l off=>.ptr (Eng.sw i j l) off
 |.fn f caps=>.fn f (caps.map λp=>(Eng.sw i j p.1,p.2))
 |.row l=>.row (Eng.sw i j l)
 |.el x k=>.el x k
 |.rel l k=>.rel (Eng.sw i j l) k
def SV.sw(i j:Nat):SV->SV
 |.a x=>.a (x.sw i j)
 |.agg cs=>.agg (cs.map (A.sw i j))
 |.tup xs=>.tup (xs.map (A.sw i j))
def Cel.sw(i j:Nat):Cel->Cel
 |.lit cs e=>.lit (cs.map (A.sw i j)) e
 |.pin m b=>.pin (Eng.sw i j m) b
 |.keep m b v=>.keep (Eng.sw i j m) b v
 |c=>c
def qe(i j:Nat)(F:cy):cy:=F.map λp=>(p.1,⟨p.2.path,p.2.g,p.2.x.sw i j⟩)
def tN(i j:Nat)(O:Own):Own:=O.map λp=>(sw i j p.1,p.2.sw i j)
def Env.sw(i j:Nat)(E:Env):Env:=⟨λl=>E.ρ (Eng.sw i j l),λl=>E.κ (Eng.sw i j l)⟩
theorem A.den_sw(i j:Nat)(E:Env)(x:A):(x.sw i j).den (E.sw i j)=x.den E:=by cases x<;>simp[A.sw,A.den,Env.sw,qr,Function.comp_def]
theorem A.map_sw(i j:Nat)(E:Env)(l:Z8 A):(l.map (A.sw i j)).map (A.den (E.sw i j))=l.map (A.den E):=by rw[Ym];apply Yq;intro x _;exact A.den_sw i j E x
theorem SV.den_sw(i j:Nat)(E:Env)(x:SV):(x.sw i j).den (E.sw i j)=x.den E:=by
 cases x with
 |a x=>exact A.den_sw i j E x
 |agg cs=>simp only[SV.sw,SV.den,A.map_sw]
 |tup cs=>simp only[SV.sw,SV.den,A.map_sw]
theorem A.ok_sw{i j nl:Nat}(hi:i<nl)(d:j<nl){x:A}(h:x.ok nl=true):(x.sw i j).ok nl=true:=by
 cases x with
 |v x=>rfl
 |el x k=>rfl
 |ptr l off=>simp only[A.sw,A.ok,eD]at h⊢;exact q9 hi d h
 |row l=>simp only[A.sw,A.ok,eD]at h⊢;exact q9 hi d h
 |rel l k=>simp only[A.sw,A.ok,eD]at h⊢;exact q9 hi d h
 |fn f caps=>simp only[A.sw,A.ok,te,Y6]at h⊢;rintro _ ⟨p,m,rfl⟩;exact q9 hi d<|h p m
theorem DU{i j nl:Nat}(hi:i<nl)(d:j<nl){l:Z8 A}(h:dH nl l=true):dH nl (l.map (A.sw i j))=true:=by rw[gi]at h⊢;intro x o;obtain⟨y,m,rfl⟩:=Y6.1 o;exact A.ok_sw hi d<|h y m
theorem SV.ok_sw{i j nl:Nat}(hi:i<nl)(d:j<nl){x:SV}(h:x.ok nl=true):(x.sw i j).ok nl=true:=by
 cases x with
 |a x=>exact A.ok_sw hi d h
 |agg cs=>exact DU hi d h
 |tup cs=>exact DU hi d h
theorem EP(i j:Nat)(F:cy)(t:Nat):lk (qe i j F) t=(lk F t).map λe=>⟨e.path,e.g,e.x.sw i j⟩:=by
 induction F with
 |nil=>rfl
 |cons p r ih=>
  obtain⟨s,e⟩:=p;simp only[qe,Zq,fm]at ih⊢
  grind
theorem Uo(i j:Nat)(O:Own)(l:Nat):lk (tN i j O) (sw i j l)=(lk O l).map (Cel.sw i j):=by
 induction O with
 |nil=>rfl
 |cons p r ih=>
  obtain⟨s,c⟩:=p;simp only[tN,Zq,fm]at ih⊢;by_cases h:s=l;{subst h;simp};have d:sw i j s≠sw i j l:=λe=>h (Km e)
  simp_all
theorem og{i j:Nat}{O:Own}{l:Nat}{c:Cel}(h:lk (tN i j O) l=some c):∃c0,lk O (sw i j l)=some c0/\c=c0.sw i j:=by
 have:=Uo i j O (sw i j l);rw[qr,h]at this;cases d:lk O (sw i j l)with
 |none=>simp[d]at this
 |some c0=>
  simp only[d,YR,Z0]at this
  simp_all
theorem Vy(i j:Nat)(F:cy)(s:Nat)(b:Bool):ly (qe i j F) s b=ly F s b:=by unfold ly;rw[EP];(rcases lk F s with _|⟨p,g,x⟩);{rfl};(rcases x with a|cs|cs<;>try rfl);cases a<;>rfl
theorem Hc(i j:Nat)(F:cy):∀p,eN (qe i j F) p=eN F p
 |[]=>rfl
 |(s,b)::r=>by simp only[eN,Hc i j F r,Vy]
theorem Frm.sw{E:Env}{n:Nat}{F:cy}{C:Z8 Nat}{nl:Nat}{tmps:Array Z7}{i j:Nat}(hi:i<nl)(p:j<nl)(m:Frm E n F C nl tmps): Frm (E.sw i j) n (qe i j F) C nl tmps:=by
 have key:∀{t e},lk (qe i j F) t=some e-> ∃d,lk F t=some d/\e=⟨d.path,d.g,d.x.sw i j⟩:=λ{t e} h=>by
  rw[EP]at h;cases o:lk F t with
  |none=>simp[o]at h
  |some d=>simp only[o,YR,Z0]at h;exact⟨d,J,h.symm⟩
 refine⟨m.size,λt e h=>?_,λt e h=>?_,λt e h u=>?_⟩;{obtain⟨d,l,rfl⟩:=key h;rw[m.val t d l];simp only[SV.den_sw]};{obtain⟨d,l,rfl⟩:=key h;simp only[Hc];exact m.wf t d l};obtain⟨d,l,rfl⟩:=key h;exact SV.ok_sw hi p<|m.labs t d l u
theorem Iv(i j:Nat)(E:Env)(l:Nat)(c:Cel):blk (E.sw i j) l (c.sw i j)=blk E (sw i j l) c:=by cases c<;>rfl
theorem Mem.sw{E:Env}{O:Own}{nl:Nat}{V:Vw}{w:Z6}{i j:Nat}(hi:i<nl)(B:j<nl)(t:Mem E O nl V w):Mem (E.sw i j) (tN i j O) nl V w:=by
 refine⟨?_,?_,?_,t.get,?_,t.os,t.tape,t.output,?_,?_,?_,?_,?_⟩
 .intro l cs e h;obtain⟨p,o,d⟩:=og h;cases p with
  |lit cs0 e0=>obtain⟨rfl,rfl⟩:=d;rw[A.map_sw];exact t.lit _ _ _ o
  |row=>cases d
  |gone=>cases d
  |pin=>cases d
  |size=>cases d
  |keep=>cases d
 .intro l e sz n xs h;obtain⟨p,o,d⟩:=og h;cases p with
  |row=>obtain⟨rfl,rfl,rfl,rfl⟩:=d;exact t.row _ _ _ _ _ o
  |lit=>cases d
  |gone=>cases d
  |pin=>cases d
  |size=>cases d
  |keep=>cases d
 {intro l T c R k h M u z;obtain⟨p,o,rfl⟩:=og h;obtain⟨c1,y,rfl⟩:=og M;rw[Iv]at u z;exact Km<|t.sep _ _ _ _ _ o y u z};{intro l c k h u;obtain⟨p,o,rfl⟩:=og h;rw[Iv]at u;exact t.off _ _ _ o u}
 .intro l c h;obtain⟨p,o,rfl⟩:=og h;have:=q9 hi B (t.lab _ _ o)
  rwa [qr]at this
 .intro l cs e h;obtain⟨p,o,d⟩:=og h;cases p with
  |lit cs0 e0=>obtain⟨rfl,rfl⟩:=d;exact DU hi B<|t.labs _ _ _ o
  |row=>cases d
  |gone=>cases d
  |pin=>cases d
  |size=>cases d
  |keep=>cases d
 .intro l m b h;obtain⟨p,o,d⟩:=og h;cases p with
  |pin m0 b0=>obtain⟨rfl,rfl⟩:=d;obtain⟨y,L⟩:=t.pin _ _ _ o;exact⟨by simp only[Env.sw,qr];exact y,q9 hi B L⟩
  |lit=>cases d
  |row=>cases d
  |gone=>cases d
  |size=>cases d
  |keep=>cases d
 .intro l k h;obtain⟨p,o,d⟩:=og h;cases p with
  |size k0=>simp only[Cel.sw,Cel.size.injEq]at d;subst d;exact t.big _ _ o
  |_=>cases d
 intro l m b v h;obtain⟨p,o,d⟩:=og h;cases p with
 |keep m0 b0 v0=>obtain⟨rfl,rfl,rfl⟩:=d;obtain⟨y,L,N⟩:=t.kp _ _ _ _ o;exact⟨by simp only[Env.sw,qr];exact y,by simp only[Env.sw,qr];exact L,q9 hi B N⟩
 |_=>cases d
theorem dx{K:Act->Z6->Prop}{n:Nat}{F:cy}{C:Z8 Nat}{O:Own}{nl:Nat}{V:Vw}(i j:Nat)(d:(Nat.blt i nl&&Nat.blt j nl)=true) (h:KJ K n (qe i j F) C (tN i j O) nl V):KJ K n F C O nl V:=by simp at d;exact⟨λE a w hd m l=>h.out (E.sw i j) a w hd (m.sw d.1 d.2) (l.sw d.1 d.2)⟩
structure Src(P:Program)(sz:Nat)(x:Value)(m:Nat)(news:List Value)(w:World):Prop where
 len:∀w',(Builtin.lenOf x).run P w'=.ok m w'
 cells:∀w',w'.heap=w.heap->(Builtin.firstCells sz m x).run P w'=.ok news.toArray w'
 size:news.length=m*sz
theorem Src.slice{P:Z3}{w:Z6}{sz m:Nat}{news:Z8 Z7}(a:Addr)(c:Nat)(l:news.length=m*sz)(h:∀j v,news[j]? =some v->w.cell? (a.add j)=some v):Src P sz (.slice (some a) m c) m news w:=
 ⟨λd=>by simp[Builtin.lenOf],λd o=>run_firstCells_some (P:=P) d sz m a m c news l (λj v p=>by have:=h j v p;simpa[World.cell?,o]using this),l⟩
theorem Src.none{P:Z3}{w:Z6}{sz c:Nat}:Src P sz (.slice Option.none 0 c) 0 [] w:=
 ⟨λd=>by simp[Builtin.lenOf],λd l=>by simp[Builtin.firstCells],sm⟩
def rJ(s:Z5):Z8 Z7:=s.data.toList.map λb=>.int .u8 b.toNat
theorem Src.str{P:Z3}{w:Z6}(s:Z5):Src P 1 (.string s) s.size (rJ s) w:=by refine⟨λd=>by simp[Builtin.lenOf],λd m=>?_,by simp only[rJ,ZK,Y2,i_];rfl⟩;(have:s.extract 0 s.size=s:=by simp);(have l:(s.data.map λb=>Value.int .u8 b.toNat)=(rJ s).toArray:=by apply YN;simp only[rJ,Y_]);simp only[Builtin.firstCells,this,l,ZO]
theorem Bx{w:Z6}{b off e:Nat}{fz:Nat×Nat}{cs:Array Z7}{k:Nat}{xs:Z8 Z7}(m:w.heap[b]? =some (.cells cs e fz))(o:xs=(cs.toList.drop off).take k):∀j v,xs[j]? =some v->w.cell? ((⟨b,off,none⟩:Addr).add j)=some v:=by intro j v d;subst o;rw[List.getElem?_take]at d;split at d;{by_cases l:j=0;{subst l;simpa[World.cell?,Addr.add,m]using d};simpa[World.cell?,Addr.add,m,l]using d};cases d
theorem eL.src{P:Z3}{V:Vw}{v:Z7}{sz n:Nat}{xs:Z8 Z7}{w:Z6}(h:eL V v sz n xs)(hV:∀k o,V.get k=some o->w.heap[k]? =some o):Src P sz v n xs w:=by
 rcases h.2 with⟨a,c,rfl,rfl⟩|⟨b,off,l,cs,e,t,rfl,m,d,p,u⟩
 .have:xs=[]:=Zu (by simpa using h.1);subst this;cases a with
  |none=>exact Src.none
  |some a=>exact Src.slice a c sm sm
 exact Src.slice _ _ h.1 (Bx (hV b _ m) p)
theorem dZ{P:Z3}{w:Z6}{e sz n:Nat}{v:Z7}{xs:Z8 Z7}(h:w.ownsRow 0 e sz v n xs):Src P sz v n xs w:=by (rcases h.2 with⟨rfl,rfl⟩|⟨g,p,l,rfl,_,u,o,m,t,d⟩);{have:xs=[]:=Zu (by simpa using h.1);subst this;exact Src.none};exact Src.slice _ _ h.1 (Bx u (by simpa using d.symm))
section
variable{P:Z3}{w:Z6}
theorem GB{t t2 ty e:TypeId}{i:TypeInfo}{z:Z7}{p:TypeDesc}(O:P.underlying t=some (.slice e))(N:P.underlying t2=some p)(o:p=.string\/ ∃e',p=.slice e')(hi:P.info? e=some i)(T:i.zero=some z) {base:Z4 Addr} {n cap:Nat} {olds:Z8 Z7} (L:Src P i.size (.slice base n cap) n olds w) {x:Z7} {m:Nat} {news:Z8 Z7} (B:Src P i.size x m news w) (V:cap<n+m) (M:((n+m:Nat):Int)<=9223372036854775807) (y:Builtin.nextslicecap (n+m) cap*i.bytes<=281474976710656): (Builtin.append_ #[t,t2] ty #[.slice base n cap,x]).run P w= .ok (.slice (some ⟨w.heap.size,0,none⟩) (n+m) (grownCap w (n+m) cap e)) (w.drew.alloc (.cells (olds.toArray++news.toArray++Builtin.zeroCells z.cells (grownCap w (n+m) cap e - (n+m))) e)):=by
 (have R: ¬(n+m<=cap):=by omega);(have d: ¬(9223372036854775807<((n:Int)+(m:Int))):=by omega);(have l: ¬(281474976710656<Builtin.nextslicecap (n+m) cap*i.bytes):=by omega);have E:=B.cells w.drew J;have u:=L.cells w.drew J
 rcases o with rfl|⟨e',rfl⟩<;>
   (simp[Builtin.append_,run_underlying O,run_underlying N,sizeOf,typeInfo,zeroValue,hi,T,B.len,R,d,l,Question.forced,E,u,newRow,grownCap];congr 2;apply YN;simp[Zc])
theorem J1{t t2 ty e:TypeId}{i:TypeInfo}{z:TypeDesc}(N:P.underlying t=some (.slice e))(L:P.underlying t2=some z)(y:z=.string\/ ∃e',z=.slice e')(hi:P.info? e=some i) {g n cap:Nat} {cur:Array Z7} (l:w.heap[g]? =some (.cells cur e (0,0))) {x:Z7} {m:Nat} {news:Z8 Z7} (B:Src P i.size x m news w) (M:∀u∈news,u.oneCell'=true) (O:n+m<=cap) (o:n*i.size+news.length<=cur.size): (Builtin.append_ #[t,t2] ty #[.slice (some ⟨g,0,none⟩) n cap,x]).run P w= .ok (.slice (some ⟨g,0,none⟩) (n+m) cap) (w.setRow g (cur.toList.take (n*i.size)++news++cur.toList.drop (n*i.size+news.length)).toArray):=by
 have p:=run_storeCells_at P g (n*i.size) e news 0 cur w l (by simpa using o) M;(have d:(⟨g,0,none⟩:Addr).add (n*i.size)=⟨g,n*i.size,none⟩:=by by_cases h:n*i.size=0<;>simp[Addr.add,h]);have E:=B.cells w J
 rcases y with rfl|⟨e',rfl⟩<;>
   (simp[Builtin.append_,run_underlying N,run_underlying L,sizeOf,typeInfo,hi,B.len,O,E,d,p])
theorem UI{t t2 ty e:TypeId}{i:TypeInfo}{l:TypeDesc}(u:P.underlying t=some (.slice e))(p:P.underlying t2=some l)(d:l=.string\/ ∃e',l=.slice e')(hi:P.info? e=some i) {x:Z7} {news:Z8 Z7} (m:Src P i.size x 0 news w): (Builtin.append_ #[t,t2] ty #[.slice none 0 0,x]).run P w=.ok (.slice none 0 0) w:=by
 have o:=m.cells w J
 rcases d with rfl|⟨e',rfl⟩<;>
   (simp[Builtin.append_,run_underlying u,run_underlying p,sizeOf,typeInfo,hi,m.len,o])
theorem sK(z:Array Z7)(n:Nat):(Builtin.zeroCells z n).size=n*z.size:=by simp[Builtin.zeroCells]
theorem UR{t t2 ty e:TypeId}{i:TypeInfo}{z:Z7}{V:TypeDesc}(Y:P.underlying t=some (.slice e))(W:P.underlying t2=some V)(y:V=.string\/ ∃e',V=.slice e')(hi:P.info? e=some i)(hz:i.zero=some z) (a6:z.cells.size=i.size) {v:Z7} {n:Nat} {olds:Z8 Z7} {x:Z7} {m:Nat} {news:Z8 Z7} (E:Src P i.size x m news w) (h1:∀u∈news,u.oneCell'=true) (hb:(n+m)*i.bytes<=140737488355328) (M:n+m<=maxLen) (hd:w.ownsRow 0 e i.size v n olds):∃v' w',(Builtin.append_ #[t,t2] ty #[v,x]).run P w=.ok v' w'/\w'.ownsRow 0 e i.size v' (n+m) (olds++news)/\w.grownBy w' v.ownBlock/\(v'.ownBlock=v.ownBlock\/v'.ownBlock=some w.heap.size):=by
 (have o:(olds++news).length=(n+m)*i.size:=by rw[ZQ,hd.1,E.size,Y4]);have O:((n+m:Nat):Int)<=9223372036854775807:=by simp only[maxLen]at M;omega
 have p:∀base d,v=.slice base n d->d<n+m-> ∃v' w',(Builtin.append_ #[t,t2] ty #[v,x]).run P w=.ok v' w'/\w'.ownsRow 0 e i.size v' (n+m) (olds++news)/\w.grownBy w' v.ownBlock/\(v'.ownBlock=v.ownBlock\/v'.ownBlock=some w.heap.size):=by
  intro base d hv L;have ho:=dZ (P:=P) hd;subst hv;refine⟨_,_,GB Y W y hi hz ho E L O (growslice_fits L hb),?_,⟨J,J,J,sm,λk Z _=>heap_alloc_old w.drew _ Z⟩,.inr J⟩;have T:=grownCap_ge w (n+m) d e;refine⟨o,.inr ⟨w.heap.size,_,_,J,Zz _,heap_alloc_new w.drew _,T,grownCap_le_maxLen w (n+m) d e M,?_,?_⟩⟩;{simp only[h_,Yb,sK,a6,hd.1,E.size,<-Y4];congr 1;omega}
  grind
 (rcases hd.2 with⟨rfl,rfl⟩|⟨g,d,N,rfl,_,L,aa,X,a5,B⟩);{have ho:olds=[]:=Zu (by simpa using hd.1);subst ho;(rcases n_ m with rfl|hm);{have hn:news=[]:=Zu (by simpa using E.size);subst hn;exact⟨_,_,UI Y W y hi E,World.ownsRow_nil _ _ _ _,⟨J,J,J,ZS _,λ_ _ _=>rfl⟩,.inl J⟩};exact p none 0 J om};by_cases l:n+m<=d
 .have R:n*i.size+news.length<=N.size:=by rw[E.size,a5,<-Y4];exact Zn _ l
  refine⟨_,_,J1 Y W y hi L E h1 l R,⟨o,.inr ⟨g,d,_,J,Zz _,setRow_heap w g N _ e _ L,l,X,?_,?_⟩⟩,
   ⟨J,J,J,sm,λk _ Z=>setRow_other w g k _ (λh=>Z (by simp[Value.ownBlock,h]))⟩,.inl J⟩
  {simp only[Yb,ZQ,ZL,Zk,Y2];omega};rw[B,<-o];exact List.take_left
 exact p _ d J om
end
section
variable{P:Z3}{tt:Z8 (Nat×TI)}{ops:Array Oper}{Q:Exit->Act->Z6->Prop}{o:Oper}{rest:Z8 Oper}
 {n:Nat} {F:cy} {C:Z8 Nat} {O:Own} {nl:Nat} {V:Vw} {K:Act->Z6->Prop}
theorem Mem.growO{E:Env}{w w':Z6}{l e sz m:Nat}{xs Y:Z8 Z7}{e' a0:Nat}{Z:Z7}(u:Mem E O nl V w)(hl:lk O l=some (.row e sz n xs))
  (hr:w'.ownsRow 0 e' a0 Z m Y) (hg:w.grownBy w' (E.κ l).ownBlock) (W:Z.ownBlock=(E.κ l).ownBlock\/ ∀k,Z.ownBlock=some k->w.heap.size<=k):
  Mem (E.setκ nl Z) ((nl,.row e' a0 m Y)::(l,.gone)::O) (nl+1) V w':=by
 have au:=u.lab _ _ hl
 have X:E.agree nl (E.setκ nl Z):=Env.agree_setκ E Z
 -- an y cell's block is none of the row's
 have apart:∀o c k,o≠l->lk O o=some c->blk E o c=some k->k<w.heap.size/\some k≠(E.κ l).ownBlock:=by
  intro o c k d ab M
  refine⟨u.lt ab M,λe=>d (u.sep _ _ _ _ k ab hl M ?_)⟩
  simpa[blk]using e.symm
 have y:∀o c,lk ((nl,Cel.row e' a0 m Y)::(l,.gone)::O) o=some c->o≠nl->(o=l/\c=.gone)\/(o≠l/\lk O o=some c):=by
  intro o c h d
  rw[fm,ZX (λh=>d h.symm),fm]at h
  by_cases hq:l=o
  . rw[ZW hq]at h;cases h;exact .inl ⟨hq.symm,J⟩
  . rw[ZX hq]at h;exact .inr ⟨λh=>hq h.symm,h⟩
 have heap:∀k,k<w.heap.size->some k≠(E.κ l).ownBlock->w'.heap[k]? =w.heap[k]? :=hg.block
 refine⟨?_,?_,?_,?_,?_,hg.os.trans u.os,hg.tape.trans u.tape,hg.output.trans u.output,?_,?_,?_,?_,?_⟩
 ·
  intro o cs q h
  by_cases d:o=nl
  . subst d;rw[dF]at h;cases h
  ·
   rcases y _ _ h d with⟨_,p⟩|⟨p,t⟩
   . cases p
   ·
    obtain⟨z,B⟩:=apart _ _ (E.ρ o) p t J
    have ao:=u.labs _ _ _ t
    rw[(X o (u.lab _ _ t)).1,heap _ z B,u.lit _ _ _ t,A.map_agree X ao]
 ·
  intro o q s n' ys h
  by_cases d:o=nl
  ·
   subst d
   rw[dF]at h
   cases h
   simpa[Env.setκ]using hr
  ·
   rcases y _ _ h d with⟨_,p⟩|⟨p,t⟩
   . cases p
   ·
    rw[(X o (u.lab _ _ t)).2]
    have a5:=u.row _ _ _ _ _ t
    rcases a5.2 with z|⟨g,ai,aj,N,ak,al,a6⟩
    . exact⟨a5.1,.inl z⟩
    ·
     obtain⟨z,B⟩:=apart _ _ g p t (by simp[blk,N,Value.ownBlock])
     exact⟨a5.1,.inr ⟨g,ai,aj,N,ak,by rw[heap _ z B];exact al,a6⟩⟩
 ·
  -- apart
  have L:∀o c k,o≠nl->lk ((nl,Cel.row e' a0 m Y)::(l,.gone)::O) o=some c->blk (E.setκ nl Z) o c=some k->Z.ownBlock=some k->False:=by
   intro o c k d h M N
   rcases y _ _ h d with⟨_,p⟩|⟨p,t⟩
   . subst p;simp[blk]at M
   ·
    rw[jL X (u.lab _ _ t)]at M
    obtain⟨z,B⟩:=apart _ _ k p t M
    rcases W with W|W
    . exact B (by rw[<-N,W])
    . have:=W _ N;omega
  intro l1 l2 c1 c2 k z B T R
  by_cases e1:l1=nl
  ·
   by_cases e2:l2=nl
   . rw[e1,e2]
   ·
    subst e1
    rw[dF]at z
    cases z
    exact absurd (by simpa[blk,Env.setκ]using T) λN=>L _ _ _ e2 B R N
  ·
   by_cases e2:l2=nl
   ·
    subst e2
    rw[dF]at B
    cases B
    exact absurd (by simpa[blk,Env.setκ]using R) λN=>L _ _ _ e1 z T N
   ·
    rcases y _ _ z e1 with⟨_,p⟩|⟨p,t⟩
    . subst p;simp[blk]at T
    ·
     rcases y _ _ B e2 with⟨_,a9⟩|⟨a9,ac⟩
     . subst a9;simp[blk]at R
     ·
      rw[jL X (u.lab _ _ t)]at T
      rw[jL X (u.lab _ _ ac)]at R
      exact u.sep _ _ _ _ _ t ac T R
 ·
  intro k ob M
  have z:=u.get k ob M
  have B:k<w.heap.size:=(Array.getElem?_eq_some_iff.1 z).1
  rw[heap k B (λe=>by
   have:=u.off l _ k hl (by simpa[blk]using e.symm)
   rw[M]at this;cases this)]
  exact z
 ·
  intro o c k h M
  by_cases d:o=nl
  ·
   subst d
   rw[dF]at h
   cases h
   have N:Z.ownBlock=some k:=by simpa[blk,Env.setκ]using M
   rcases W with W|W
   . exact u.off l _ k hl (by simpa[blk,<-W]using N)
   ·
    have ar:=W _ N
    cases hq:V.get k with
    |none=>rfl
    |some ob=>
     have:=(Array.getElem?_eq_some_iff.1 (u.get _ _ hq)).1
     omega
  ·
   rcases y _ _ h d with⟨_,p⟩|⟨p,t⟩
   . subst p;simp[blk]at M
   ·
    rw[jL X (u.lab _ _ t)]at M
    exact u.off _ _ _ t M
 ·
  intro o c h
  by_cases d:o=nl
  . omega
  ·
   rcases y _ _ h d with⟨p,_⟩|⟨_,t⟩
   . subst p;omega
   . have:=u.lab _ _ t;omega
 ·
  intro o cs q h
  by_cases d:o=nl
  . subst d;rw[dF]at h;cases h
  ·
   rcases y _ _ h d with⟨_,p⟩|⟨_,t⟩
   . cases p
   . exact jn (YF nl) (u.labs _ _ _ t)
 ·
  intro o q b h
  by_cases d:o=nl
  . subst d;rw[dF]at h;cases h
  ·
   rcases y _ _ h d with⟨_,p⟩|⟨_,t⟩
   . cases p
   ·
    obtain⟨z,B⟩:=u.pin _ _ _ t
    exact⟨(X q B).1.trans z,Y9 B⟩
 ·
  intro o k h
  by_cases d:o=nl
  . subst d;rw[dF]at h;cases h
  ·
   rcases y _ _ h d with⟨_,p⟩|⟨_,t⟩
   . cases p
   . exact ZC (u.big _ _ t) hg.size
 ·
  intro o q b v h
  by_cases d:o=nl
  . subst d;rw[dF]at h;cases h
  ·
   rcases y _ _ h d with⟨_,p⟩|⟨_,t⟩
   . cases p
   ·
    obtain⟨z,B,h3⟩:=u.kp _ _ _ _ t
    exact⟨(X q h3).1.trans z,(X q h3).2.trans B,Y9 h3⟩
theorem Mem.grow{E:Env}{w t:Z6}{l e sz m:Nat}{xs d:Z8 Z7}{y o:Nat}{p:Z7}(z:Mem E O nl V w)(B:lk O l=some (.row e sz n xs))
  (L:t.ownsRow 0 y o p m d) (N:w.grownBy t (E.κ l).ownBlock) (M:p.ownBlock=(E.κ l).ownBlock\/p.ownBlock=some w.heap.size):
  Mem (E.setκ nl p) ((nl,.row y o m d)::(l,.gone)::O) (nl+1) V t:=
 z.growO B L N (M.imp id (λh k u=>by rw[h]at u;cases u;exact ZS _))
end
structure StepTo(P:Program)(o:Oper)(p:List (Nat×Bool))(n:Nat)(F:cy)(C:List Nat)(O:Own)(nl:Nat)(V:Vw){σ:Type}(Φ:σ->Prop)(s:σ->SV)(O':σ->Own)(nl':Nat)(V':σ->Vw):Prop where
 out:∀E a w,Frm E n F C nl a.tmps->eN F p=true->Mem E O nl V w-> ∀(K:Act->World->Prop) (Q:Exit->Act->World->Prop),
  (∀x E' w',Φ x->E.agree nl E'->Mem E' (O' x) nl' (V' x) w'->(s x).ok nl'=true->K (a.put o.dst ((s x).den E')) w')->o.wp P a w K Q
section
variable{P:Z3}{tt:Z8 (Nat×TI)}{ops:Array Oper}{Q:Exit->Act->Z6->Prop}{o:Oper}{rest:Z8 Oper}
 {n:Nat} {F:cy} {C:Z8 Nat} {O:Own} {nl:Nat} {V:Vw} {K:Act->Z6->Prop}
theorem Frm.putTo{E:Env}{l:Z8 Nat}{nl':Nat}{a:Act}{d:Nat}{p:Z8 (Nat×Bool)}{m:Env}{s:SV}(u:Frm E n F l nl a.tmps)(o:E.agree nl m)(z:nl<=nl') (hd:d<n) (w:dh d l=false) (y:true=eN F p) (t:∀q∈p,dh q.1 l=true) (hs:s.ok nl'=true): Frm m n ((d,⟨p,true,s⟩)::F) l nl' (a.put (some d) (s.den m)).tmps:=by
 have:=Frm.put (p:=p) (g:=true) (u.env o z) hd w y t (λ_=>hs)
 simp_all
theorem WW{σ:Type}{Φ:σ->Prop}{s:σ->SV}{O':σ->Own}{nl':Nat}{R:σ->Vw}{p:Z8 (Nat×Bool)}{g:Bool}{m:Z8 Nat}{d:Nat} (W:gd ops F C o.guard=some (p,g,m)) (z:g=true) (hd:o.dst=some d) (L:(Nat.blt d n&& !(dh d m))=true) (hn:Nat.ble nl nl'=true) (hs:StepTo P o p n F m O nl V Φ s O' nl' R) (l:∀x,Φ x->KJ (wpList P ops Q rest) n ((d,⟨p,true,s x⟩)::F) m (O' x) nl' (R x)):KJ (wpList P ops Q (o::rest)) n F C O nl V:=by subst z;constructor;intro E a w y hf hm;obtain⟨Z,N,T,Y⟩:=gz hf W;simp at L;unfold wpList;rw[Z];simp;left;refine hs.out E a w N T.symm hm _ _ λx X M hΦ u t B=>?_;show wpList P ops Q rest (a.put o.dst _) M;rw[hd];exact(l x hΦ).out X _ M (by simp[Act.put,y]) (N.putTo u (by simpa using hn) L.1 L.2 T Y B) t
theorem gP{σ:Type}{Φ:σ->Prop}{s:σ->SV}{O':σ->Own}{nl':Nat}{L:σ->Vw}{p:Z8 (Nat×Bool)}{g:Bool}{l:Z8 Nat} (M:gd ops F C o.guard=some (p,g,l)) (y:g=true) (hd:o.dst=none) (Y:Nat.ble nl nl'=true) (hs:StepTo P o p n F l O nl V Φ s O' nl' L) (d:∀x,Φ x->KJ (wpList P ops Q rest) n F l (O' x) nl' (L x)):KJ (wpList P ops Q (o::rest)) n F C O nl V:=by subst y;constructor;intro E a w u T Z;obtain⟨R,B,X,h4⟩:=gz T M;unfold wpList;rw[R];simp;left;refine hs.out E a w B X.symm Z _ _ λx N z W t m a0=>?_;show wpList P ops Q rest (a.put o.dst _) z;rw[hd];exact(d x W).out N _ z u (B.env t (by simpa using Y)) m
section
variable{sp:Z8 Nat}{O0:Own}{nl0:Nat}{V0:Vw}{fuel:Nat}{listed:Z8 Bool}
theorem Mem.back'{E0 E:Env}{w:Z6}(l:Mem E O nl V w)(d:E0.agree nl0 E)(h:dm O O0/\eA nl0 O0=true/\V0.le V):Mem E0 O0 nl0 V0 w:=l.back d h.1 h.2.1 h.2.2
theorem gv(i:Nat){σ:Type}{Φ:σ->Prop}{s:σ->SV}{O':σ->Own}{nl':Nat}{T:σ->Vw}{p:Z8 (Nat×Bool)}{g:Bool}{B:Z8 Nat}{d:Nat} (hi:ops[i]? =some o) (hg:gd ops F C o.guard=some (p,g,B)) (R:g=true) (hd:o.dst=some d) (Y:(Nat.blt d n&& !(dh d B))=true) (hn:(Nat.ble nl nl'&&Nat.ble nl0 nl)=true) (hs:StepTo P o p n F B O nl V Φ s O' nl' T) (X:fF sp (dz listed i).toArray=true\/ ∀x,Φ x->dm (O' x) O0/\eA nl0 O0=true/\V0.le (T x)) (z:∀x,Φ x->HJ P ops Q sp O0 nl0 V0 fuel (dz listed i) n ((d,⟨p,true,s x⟩)::F) B (O' x) nl' (T x)):HI P ops Q sp O0 nl0 V0 fuel listed n F C O nl V i:=by
 subst R;refine⟨λE0 E a w M N hf hm hM=>?_⟩;obtain⟨h1,L,h3,h4⟩:=gz hf hg;simp at Y;simp at hn;unfold wpOp;simp only[hi];rw[h1];left;refine hs.out E a w L h3.symm hm _ _ λx E' Z hΦ u y W=>?_
 have t:E0.agree nl0 E':=λl hl=>by
  have h1:=M l hl;have L:=u l om
  simp_all
 (have m:fF sp (dz listed i).toArray=false->Mem E0 O0 nl0 V0 Z:=λhs=>by (rcases X with h|h);{rw[h]at hs;cases hs};exact y.back' t (h x hΦ));refine⟨m,?_⟩;rw[hd];exact(z x hΦ).out E0 E' _ Z t (by simp[Act.put,N]) (L.putTo u hn.1 Y.1 Y.2 h3 h4 W) y m
theorem jo(i:Nat){σ:Type}{Φ:σ->Prop}{s:σ->SV}{O':σ->Own}{nl':Nat}{R:σ->Vw}{p:Z8 (Nat×Bool)}{g:Bool}{z:Z8 Nat} (hi:ops[i]? =some o) (hg:gd ops F C o.guard=some (p,g,z)) (N:g=true) (hd:o.dst=none) (hn:(Nat.ble nl nl'&&Nat.ble nl0 nl)=true) (hs:StepTo P o p n F z O nl V Φ s O' nl' R) (T:fF sp (dz listed i).toArray=true\/ ∀x,Φ x->dm (O' x) O0/\eA nl0 O0=true/\V0.le (R x)) (y:∀x,Φ x->HJ P ops Q sp O0 nl0 V0 fuel (dz listed i) n F z (O' x) nl' (R x)):HI P ops Q sp O0 nl0 V0 fuel listed n F C O nl V i:=by
 subst N;refine⟨λE0 E a w L M hf hm hM=>?_⟩;obtain⟨Y,B,h3,h4⟩:=gz hf hg;simp at hn;unfold wpOp;simp only[hi];rw[Y];left;refine hs.out E a w B h3.symm hm _ _ λx X W Z t u aa=>?_
 have m:E0.agree nl0 X:=λl hl=>by
  have Y:=L l hl;have B:=t l om
  simp_all
 (have d:fF sp (dz listed i).toArray=false->Mem E0 O0 nl0 V0 W:=λhs=>by (rcases T with h|h);{rw[h]at hs;cases hs};exact u.back' m (h x Z));refine⟨d,?_⟩;rw[hd];exact(y x Z).out E0 X _ W m M (B.env t hn.1) u d
end
def tV:TK->Bool
 |.slice _=>true
 |.str=>true
 |_=>false
def wH(tt:Z8 (Nat×TI))(F:cy)(O:Own)(p:Z8 (Nat×Bool)):Op->Z4 (Nat×SV×Nat×Nat×Nat×Nat×Z8 Z7)
 |.call ⟨.builtin .append,args,ts⟩=>match args.toList,ts.toList with
  |[s,x],[t,t2]=>match cV F p s,cV F p x,lk tt t,lk tt t2 with
   |some (.a (.row l)),some xs,some ⟨_,_,_,_,.slice e⟩,some t2i=>match lk tt e,lk O l with
    |some ti,some (.row e' sz m olds)=>bif tV t2i.kind&&Nat.beq e' e&&Nat.beq sz ti.size&&Nat.blt 0 ti.bytes&&Nat.beq ti.zero.length ti.size then some (l,xs,e,sz,ti.bytes,m,olds)else none
    |_,_=>none
   |_,_,_,_=>none
  |_,_=>none
 |_=>none
theorem cQ(W:dl P tt){p:Z8 (Nat×Bool)}{l e sz by_ m k:Nat}{x:SV}{olds:Z8 Z7}(news:Z8 Z7)(d:wH tt F O p o.op=some (l,x,e,sz,by_,m,olds)) (ad:∀E w,Mem E O nl V w->Src P sz (x.den E) k news w) (h1:∀E w,Mem E O nl V w-> ∀u∈news,u.oneCell'=true) (hb:(m+k)*by_<=140737488355328): StepTo P o p n F C O nl V (σ:=Unit) (λ_=>True) (λ_=>.a (.row nl)) (λ_=>(nl,.row e sz (m+k) (olds++news))::(l,.gone)::O) (nl+1) (λ_=>V):=by
 constructor;intro E a w hf ab hm K Q hK;unfold Oper.wp execOp;cases ac:o.op with
 |call c=>
  obtain⟨L,a6,ts⟩:=c;simp only[ac]at d;cases L with
  |builtin b=>
   cases b with
   |append=>
    simp only[wH]at d;split at d
    .rename_i s y t t2 Y aq;(have ha:a6= #[s,y]:=by simpa using Y5 List.toArray Y);(have ht:ts= #[t,t2]:=by simpa using Y5 List.toArray aq);subst ha ht;split at d
     .rename_i l' x' aL b0 z' aV e' ay hs hy az ap;split at d
      .rename_i ti Z a7 m' aD am a0;cases M:(tV ay.kind&&Nat.beq Z e'&&Nat.beq a7 ti.size&&Nat.blt 0 ti.bytes&&Nat.beq ti.zero.length ti.size)with
       |false=>simp[M]at d
       |true=>simp only[M,Za,Z0,ZN]at d;obtain⟨rfl,rfl,rfl,rfl,rfl,rfl,rfl⟩:=d;simp only[Z1,YU,eD]at M;obtain⟨⟨⟨⟨a5,rfl⟩,rfl⟩,ar⟩,ag⟩:=M;obtain⟨h2,_⟩:=cZ hf ab hs;obtain⟨h3,_⟩:=cZ hf ab hy;obtain⟨dd,al,a9,_⟩:=(W _ _ az).und;(have ai:dd=.slice Z:=by cases dd<;>simp[eM]at a9;rw[a9]);subst ai;obtain⟨d2,ak,N,_⟩:=(W _ _ ap).und;(have aa:d2=.string\/ ∃e,d2=.slice e:=by cases d2<;>simp[eM]at N<;>(first|exact .inl J|exact .inr ⟨_,J⟩|(rw[<-N]at a5;simp[tV]at a5)));obtain⟨fi,au,X,ax,z,hz,ao⟩:=(W _ _ am).info;have R:=hm.row _ _ _ _ _ a0;(have an:m'+k<=maxLen:=by have:m'+k<=(m'+k)*ti.bytes:=J_ _ ar;simp only[maxLen];omega);(have ah:z.cells.size=fi.size:=by rw[X,<-ag,<-ao];simp);have B:=ad E w hm;rw[<-X]at R B;obtain⟨v',w',hr,T,aA,aB⟩:=UR (P:=P) (w:=w) (ty:=o.type) al ak aa au hz ah B (h1 E w hm) (by rw[ax];exact hb) an R;rw[X]at T;have e2:a.eval s=E.κ l':=h2;simp only[resolve,invoke,builtin,ZR,ZO,ZU,B_,Zq,Yp,e2,h3,hr];have aj:=hm.grow a0 T aA aB;have:=hK () (E.setκ nl v') w' ZY (Env.agree_setκ E v') aj (by simp[SV.ok,A.ok,eD]);show K (a.put o.dst v') w';simpa[SV.den,A.den,Env.setκ]using this
      simp at d
     simp at d
    simp at d
   |_=>simp[wH]at d
  |_=>simp[wH]at d
 |_=>simp[ac,wH]at d
theorem J5{w:Z6}{b e sz m:Nat}{v:Z7}{xs:Z8 Z7}(h:w.ownsRow b e sz v m xs):w.ownsRow 0 e sz v m xs:=by (rcases h.2 with l|⟨g,o,d,l,_,p⟩);{exact⟨h.1,.inl l⟩};exact⟨h.1,.inr ⟨g,o,d,l,Zz _,p⟩⟩
theorem Mem.newRow{E:Env}{w Y:Z6}{e sz m:Nat}{xs:Z8 Z7}{v:Z7}(u:Mem E O nl V w)(hb:cH w Y)(hr:Y.ownsRow w.heap.size e sz v m xs): Mem (E.setκ nl v) ((nl,.row e sz m xs)::O) (nl+1) V Y:=by
 have T:E.agree nl (E.setκ nl v):=Env.agree_setκ E v;have R:=u.keep hb;have p:∀k,v.ownBlock=some k->w.heap.size<=k:=λk h=>(hr.lt k h).1;(have o:∀M c,lk ((nl,Cel.row e sz m xs)::O) M=some c->M≠nl->lk O M=some c:=λM c h d=>by rwa [gB _ _ (λx=>d x.symm)]at h);(have z:∀M c k,lk O M=some c->blk (E.setκ nl v) M c=some k->blk E M c=some k:=λM c k t h=>by rwa [jL T (u.lab _ _ t)]at h);refine⟨?_,?_,?_,R.get,?_,R.os,R.tape,R.output,?_,?_,?_,?_,?_⟩;{intro l cs q h;by_cases d:l=nl;{subst d;rw[dF]at h;cases h};have t:=o _ _ h d;rw[(T l (u.lab _ _ t)).1,A.map_agree T (u.labs _ _ _ t)];exact R.lit _ _ _ t};{intro l q s n' ys h;by_cases d:l=nl;{subst d;rw[dF]at h;cases h;simpa[Env.setκ]using J5 hr};have t:=o _ _ h d;rw[(T l (u.lab _ _ t)).2];exact R.row _ _ _ _ _ t}
 .intro l1 l2 c1 c2 k L B y N;by_cases X:l1=nl;{by_cases W:l2=nl;{rw[X,W]};subst X;rw[dF]at L;cases L;have:=p k (by simpa[blk,Env.setκ]using y);have t:=o _ _ B W;have:=u.lt t (z _ _ _ t N);omega};by_cases W:l2=nl;{subst W;rw[dF]at B;cases B;have:=p k (by simpa[blk,Env.setκ]using N);have t:=o _ _ L X;have:=u.lt t (z _ _ _ t y);omega};exact u.sep _ _ _ _ _ (o _ _ L X) (o _ _ B W) (z _ _ _ (o _ _ L X) y) (z _ _ _ (o _ _ B W) N)
 .intro l c k h y;by_cases d:l=nl
  .subst d;rw[dF]at h;cases h;have:=p k (by simpa[blk,Env.setκ]using y);cases hq:V.get k with
   |none=>rfl
   |some ob=>have:=(Array.getElem?_eq_some_iff.1 (u.get k ob hq)).1;omega
  have t:=o _ _ h d;exact u.off _ _ _ t<|z _ _ _ t y
 {intro l c h;by_cases d:l=nl;{omega};have:=u.lab _ _ (o _ _ h d);omega};{intro l cs q h;by_cases d:l=nl;{subst d;rw[dF]at h;cases h};exact jn (YF nl) (u.labs _ _ _ (o _ _ h d))};{intro l q b h;by_cases d:l=nl;{subst d;rw[dF]at h;cases h};obtain⟨L,B⟩:=u.pin _ _ _ (o _ _ h d);exact⟨(T q B).1.trans L,Y9 B⟩};{intro l k h;by_cases d:l=nl;{subst d;rw[dF]at h;cases h};exact R.big _ _ (o _ _ h d)};intro l q b v h;by_cases d:l=nl;{subst d;rw[dF]at h;cases h};obtain⟨L,B,Z⟩:=u.kp _ _ _ _ (o _ _ h d);exact⟨(T q Z).1.trans L,(T q Z).2.trans B,Y9 Z⟩
theorem iD(t e sz:Nat)(L:cV F [] (.tmp t)=some (.a (.v (.slice none 0 0))))(m:(Nat.blt t n&& !(dh t C))=true) (h:KJ K n ((t,⟨[],true,.a (.row nl)⟩)::F) C ((nl,.row e sz 0 [])::O) (nl+1) V):KJ K n F C O nl V:=by constructor;intro E a w u B N;simp at m;have M:E.agree nl (E.setκ nl (.slice none 0 0)):=Env.agree_setκ E _;have o:=N.newRow (v:=.slice none 0 0) (sz:=sz) (Below.refl _ _) (World.ownsRow_nil w w.heap.size e sz);refine h.out (E.setκ nl (.slice none 0 0)) a w u ?_ o;have z:=B.env M (YF nl);obtain⟨y,_⟩:=cZ B (p:=[]) J L;(have d:t<a.tmps.size:=by rw[B.size];exact m.1);(have R:a.tmps[t]? =some (.slice none 0 0):=by simp only[SV.den,A.den,Act.eval]at y;simp at y⊢;simpa[d]using y);(have l:(a.put (some t) (.slice none 0 0)).tmps=a.tmps:=by simp only[Act.put];apply K_;intro i;rw[Array.getElem?_setIfInBounds];by_cases hi:t=i;{subst hi;rw[ZW J,ZW d,R]};simp[hi]);have:=z.put (p:=[]) (g:=true) (s:=.a (.row nl)) m.1 m.2 J sm (λ_=>by simp[SV.ok,A.ok,eD]);simp only[Yf,SV.den,A.den,Env.setκ]at this;rw[l]at this;exact this
theorem cX(y:dl P tt){p:Z8 (Nat×Bool)}{len e:Nat}(sz:Nat){d:Z8 Z7}(L:qF tt F O p o.op=some (len,d,e))(m:Nat.beq d.length (len*sz)=true)(t:Nat.ble len 16777216=true): StepTo P o p n F C O nl V (σ:=Unit) (λ_=>True) (λ_=>.a (.row nl)) (λ_=>(nl,.row e sz len d)::O) (nl+1) (λ_=>V):=by constructor;intro E a w B u z K Q M;unfold Oper.wp;rw[wL y B u z L];(have l:(w.alloc (.cells d.toArray e (0,0))).ownsRow w.heap.size e sz (.slice (some ⟨w.heap.size,0,none⟩) len len) len d:=by simp at m;refine⟨m,.inr ⟨w.heap.size,len,d.toArray,J,ZS _,heap_alloc_new w _,ZS _,?_,by simpa using m,by simp[<-m]⟩⟩;simp at t;simp only[maxLen];omega);have:=M () _ _ ZY (Env.agree_setκ E _) (z.newRow (mh w _) l) (by simp[SV.ok,A.ok,eD]);show K (a.put o.dst _) _;simpa[SV.den,A.den,Env.setκ]using this
theorem vd{p:Z8 (Nat×Bool)}{f:Nat}{y:Z8 SV}{σ:Type}(Φ:σ->Prop)(s:σ->SV)(e sz:Nat)(m:σ->Nat)(xs:σ->Z8 Z7)(T:fL F p o.op=some (f,y))(t:eJ P f) (hs:∀x,(s x).ok (nl+1)=true) (d:∀E w,Mem E O nl V w->Calls P f (y.map (SV.den E)).toArray w λex w'=>∃x v,ex=.returned ((s x).den (E.setκ nl v))/\w'.ownsRow w.heap.size e sz v (m x) (xs x)/\cH w w'/\Φ x): StepTo P o p n F C O nl V Φ s (λx=>(nl,.row e sz (m x) (xs x))::O) (nl+1) (λ_=>V):=by constructor;intro E a w M u z K Q L;obtain⟨R,_⟩:=kG M u T t w;unfold Oper.wp;rw[R,Oper.upon_enter];refine(d E w z).mono ?_;rintro ex w' ⟨x,v,rfl,l,B,N⟩;exact L x _ w' N (Env.agree_setκ E v) (z.newRow B l)<|hs x
def A.fz(l:Nat)(v:Z7):A->A
 |.row l'=>bif Nat.beq l' l then .v v else .row l'
 |.rel l' k=>bif Nat.beq l' l then .el v k else .rel l' k
 |x=>x
def SV.fz(l:Nat)(v:Z7):SV->SV
 |.a x=>.a (x.fz l v)
 |.agg cs=>.agg (cs.map (A.fz l v))
 |.tup xs=>.tup (xs.map (A.fz l v))
def Cel.fz(l:Nat)(v:Z7):Cel->Cel
 |.lit cs e=>.lit (cs.map (A.fz l v)) e
 |c=>c
def ow(l:Nat)(v:Z7)(F:cy):cy:=F.map λq=>(q.1,⟨q.2.path,q.2.g,q.2.x.fz l v⟩)
def wD(l:Nat)(v:Z7)(O:Own):Own:=O.map λq=>(q.1,q.2.fz l v)
theorem A.den_fz{E:Env}{l:Nat}{v:Z7}(h:E.κ l=v)(x:A):(x.fz l v).den E=x.den E:=by
 cases x with
 |row l'=>
  simp only[A.fz];by_cases e:l'=l;{subst e;simp[A.den,h]};have:Nat.beq l' l=false:=by rw[<-Yj,YU];exact e
  simp_all
 |rel l' k=>simp only[A.fz];by_cases e:l'=l;{subst e;simp[A.den,h]};(have:Nat.beq l' l=false:=by rw[<-Yj,YU];exact e);simp[this,A.den]
 |_=>rfl
theorem A.map_fz{E:Env}{l:Nat}{v:Z7}(h:E.κ l=v)(cs:Z8 A):(cs.map (A.fz l v)).map (A.den E)=cs.map (A.den E):=by rw[Ym];exact Yq λx _=>A.den_fz h x
theorem SV.den_fz{E:Env}{l:Nat}{v:Z7}(h:E.κ l=v)(x:SV):(x.fz l v).den E=x.den E:=by
 cases x with
 |a x=>exact A.den_fz h x
 |agg cs=>simp only[SV.fz,SV.den,A.map_fz h]
 |tup cs=>simp only[SV.fz,SV.den,A.map_fz h]
theorem A.ok_fz{nl l:Nat}{v:Z7}{x:A}(h:x.ok nl=true):(x.fz l v).ok nl=true:=by
 cases x with
 |row l'=>simp only[A.fz];cases Nat.beq l' l<;>first|rfl|exact h
 |rel l' k=>simp only[A.fz];cases Nat.beq l' l<;>first|rfl|exact h
 |_=>exact h
theorem Cd{nl l:Nat}{v:Z7}{cs:Z8 A}(h:dH nl cs=true):dH nl (cs.map (A.fz l v))=true:=by rw[gi]at h⊢;intro x m;obtain⟨y,d,rfl⟩:=Y6.1 m;exact A.ok_fz<|h y d
theorem SV.ok_fz{nl l:Nat}{v:Z7}{x:SV}(h:x.ok nl=true):(x.fz l v).ok nl=true:=by
 cases x with
 |a x=>exact A.ok_fz h
 |agg cs=>exact Cd h
 |tup cs=>exact Cd h
theorem Gy(l:Nat)(v:Z7)(F:cy)(t:Nat):lk (ow l v F) t=(lk F t).map λe=>⟨e.path,e.g,e.x.fz l v⟩:=by
 induction F with
 |nil=>rfl
 |cons q r ih=>
  obtain⟨s,e⟩:=q;simp only[ow,Zq,fm]at ih⊢
  grind
theorem XC(l:Nat)(v:Z7)(O:Own)(t:Nat):lk (wD l v O) t=(lk O t).map (Cel.fz l v):=by
 induction O with
 |nil=>rfl
 |cons q r ih=>
  obtain⟨s,e⟩:=q;simp only[wD,Zq,fm]at ih⊢
  grind
theorem OG{l:Nat}{v:Z7}(d:∀b,v≠ .bool b)(F:cy)(s:Nat)(b:Bool):ly (ow l v F) s b=ly F s b:=by
 unfold ly;rw[Gy];(rcases lk F s with _|⟨p,g,x⟩);{rfl};(rcases x with a|cs|cs<;>try rfl);cases a with
 |row l'=>
  simp only[YR,SV.fz,A.fz]
  grind
 |rel l' k=>
  simp only[YR,SV.fz,A.fz]
  grind
 |_=>rfl
theorem Aw{l:Nat}{v:Z7}(hv:∀b,v≠ .bool b)(F:cy):∀p,eN (ow l v F) p=eN F p
 |[]=>rfl
 |(s,b)::r=>by simp only[eN,Aw hv F r,OG hv]
theorem Frm.fz{E:Env}{l:Nat}{v:Z7}{tmps:Array Z7}(u:E.κ l=v)(w:∀b,v≠ .bool b)(o:Frm E n F C nl tmps):Frm E n (ow l v F) C nl tmps:=by
 have key:∀{t e},lk (ow l v F) t=some e-> ∃d,lk F t=some d/\e=⟨d.path,d.g,d.x.fz l v⟩:=λ{t e} h=>by
  rw[Gy]at h;cases p:lk F t with
  |none=>simp[p]at h
  |some d=>simp only[p,YR,Z0]at h;exact⟨d,J,h.symm⟩
 refine⟨o.size,λt e h=>?_,λt e h=>?_,λt e h y=>?_⟩;{obtain⟨d,m,rfl⟩:=key h;rw[o.val t d m];simp only[SV.den_fz u]};{obtain⟨d,m,rfl⟩:=key h;simp only[Aw w];exact o.wf t d m};obtain⟨d,m,rfl⟩:=key h;exact SV.ok_fz<|o.labs t d m y
theorem CY{w:Z6}{b e sz m:Nat}{v:Z7}{xs:Z8 Z7}(h:w.ownsRow b e sz v m xs):∀c,v≠ .bool c:=by intro c l;subst l;rcases h.2 with⟨d,_⟩|⟨_,_,_,d,_⟩<;>cases d
theorem pg{w:Z6}{e sz m:Nat}{v:Z7}{xs:Z8 Z7}{u:Vw}(h:w.ownsRow 0 e sz v m xs)(hV:∀k,v.ownBlock=some k->u.get k=w.heap[k]?):eL u v sz m xs:=by refine⟨h.1,?_⟩;(rcases h.2 with⟨rfl,y⟩|⟨g,p,o,rfl,_,z,l,_,t,d⟩);{exact .inl ⟨none,0,J,y⟩};refine .inr ⟨g,0,p,o,e,(0,0),J,(hV g J).trans z,?_,by simpa using d.symm,l⟩;rw[t];simpa using Zn sz l
theorem cW(l:Nat){p:Z8 (Nat×Bool)}{g:Bool}{e sz m:Nat}{xs:Z8 Z7}{s:SV}(L:lk O l=some (.row e sz m xs))(hs:s.ok nl=true) (h:∀v V',eL V' v sz m xs->dY P o n (ow l v F) C [] nl V' p g (s.fz l v)):dY P o n F C O nl V p g s:=by
 intro u E a w B y z;have d:=z.row _ _ _ _ _ L;have t:=CY d;have:=h (E.κ l) (vw w) (pg d (λk _=>rfl)) u E a w (B.fz J t) (by rw[Aw t];exact y) (jh E nl w);rw[SV.den_fz J]at this
 simp_all
theorem MD(l:Nat){e sz m:Nat}{xs:Z8 Z7}(Y:lk O l=some (.row e sz m xs)) (h:∀v V',V.le V'->eL V' v sz m xs->(∀k,v.ownBlock=some k->V.get k=none)->(m=0\/ ∃b cap cur,v=.slice (some ⟨b,0,none⟩) m cap/\V'.get b=some (.cells cur e (0,0))/\m<=cap/\cur.size=cap*sz/\cur.toList.take (m*sz)=xs)-> KJ K n (ow l v F) C ((l,.gone)::wD l v O) nl V'):KJ K n F C O nl V:=by
 constructor;intro E a w a0 hf y;have M:=y.row _ _ _ _ _ Y;have aa:=CY M;have R:∀k,(E.κ l).ownBlock=some k->V.get k=none:=λk t=>y.off l _ k Y (by simpa[blk]using t);let V':Vw:=⟨λk=>if(E.κ l).ownBlock=some k then w.heap[k]? else V.get k,V.os,V.tape,V.output⟩;(have a9:V.le V':=by refine⟨λk ob t=>?_,J,J,J⟩;show(if _ then _ else _)=_;by_cases L:(E.κ l).ownBlock=some k;{rw[R k L]at t;cases t};rw[ZX L];exact t);have a5:eL V' (E.κ l) sz m xs:=pg M (λk t=>by show(if _ then _ else _)=_;rw[ZW t]);(have a8:m=0\/ ∃b cap cur,E.κ l=.slice (some ⟨b,0,none⟩) m cap/\V'.get b=some (.cells cur e (0,0))/\m<=cap/\cur.size=cap*sz/\cur.toList.take (m*sz)=xs:=by (rcases M.2 with⟨_,d⟩|⟨g,cap,cur,hv,_,hg,a6,_,a7,X⟩);{exact .inl d};refine .inr ⟨g,cap,cur,hv,?_,a6,a7,X⟩;show(if _ then _ else _)=_;rw[ZW (by rw[hv];rfl)];exact hg);refine(h (E.κ l) V' a9 a5 R a8).out E a w a0 (hf.fz J aa) ?_
 have o:∀p c,lk ((l,Cel.gone)::wD l (E.κ l) O) p=some c->(p=l/\c=.gone)\/(p≠l/\ ∃u,lk O p=some u/\c=u.fz l (E.κ l)):=by
  intro p c h;rw[fm]at h;by_cases L:l=p;{rw[ZW L]at h;cases h;exact .inl ⟨L.symm,J⟩};rw[ZX L,XC]at h;cases hc:lk O p with
  |none=>simp[hc]at h
  |some u=>simp only[hc,YR,Z0]at h;exact .inr ⟨λh=>L h.symm,u,J,h.symm⟩
 (have N:∀p c,blk E p (c.fz l (E.κ l))=blk E p c:=λp c=>by cases c<;>rfl);refine⟨?_,?_,?_,?_,?_,y.os,y.tape,y.output,?_,?_,?_,?_,?_⟩
 .intro p cs q B;(rcases o _ _ B with⟨_,d⟩|⟨_,u,z,d⟩);{cases d};cases u with
  |lit cs0 e0=>simp only[Cel.fz,Cel.lit.injEq]at d;obtain⟨rfl,rfl⟩:=d;rw[A.map_fz J];exact y.lit _ _ _ z
  |_=>cases d
 .intro p q s n' ys B;(rcases o _ _ B with⟨_,d⟩|⟨_,u,z,d⟩);{cases d};cases u with
  |row=>simp only[Cel.fz,Cel.row.injEq]at d;obtain⟨rfl,rfl,rfl,rfl⟩:=d;exact y.row _ _ _ _ _ z
  |_=>cases d
 {intro l1 l2 c1 c2 k d h2 W T;(rcases o _ _ d with⟨_,rfl⟩|⟨_,c3,h3,rfl⟩);{simp[blk]at W};(rcases o _ _ h2 with⟨_,rfl⟩|⟨_,c4,h4,rfl⟩);{simp[blk]at T};rw[N]at W T;exact y.sep _ _ _ _ _ h3 h4 W T};{intro k ob t;change (if _ then _ else _)=_ at t;by_cases L:(E.κ l).ownBlock=some k;{rw[ZW L]at t;exact t};rw[ZX L]at t;exact y.get k ob t};{intro p c k B t;(rcases o _ _ B with⟨_,rfl⟩|⟨Z,u,z,rfl⟩);{simp[blk]at t};rw[N]at t;show(if _ then _ else _)=_;rw[ZX (λL=>Z (y.sep _ _ _ _ k z Y t (by simpa[blk]using L)))];exact y.off _ _ _ z t};{intro p c B;(rcases o _ _ B with⟨d,_⟩|⟨_,u,z,_⟩);{subst d;exact y.lab _ _ Y};exact y.lab _ _ z}
 .intro p cs q B;(rcases o _ _ B with⟨_,d⟩|⟨_,u,z,d⟩);{cases d};cases u with
  |lit cs0 e0=>simp only[Cel.fz,Cel.lit.injEq]at d;obtain⟨rfl,rfl⟩:=d;exact Cd<|y.labs _ _ _ z
  |_=>cases d
 .intro p q b B;(rcases o _ _ B with⟨_,d⟩|⟨_,u,z,d⟩);{cases d};cases u with
  |pin m0 b0=>simp only[Cel.fz,Cel.pin.injEq]at d;obtain⟨rfl,rfl⟩:=d;exact y.pin _ _ _ z
  |_=>cases d
 .intro p k B;(rcases o _ _ B with⟨_,d⟩|⟨_,u,z,d⟩);{cases d};cases u with
  |size k0=>simp only[Cel.fz,Cel.size.injEq]at d;subst d;exact y.big _ _ z
  |_=>cases d
 intro p q b v B;(rcases o _ _ B with⟨_,d⟩|⟨_,u,z,d⟩);{cases d};cases u with
 |keep m0 b0 v0=>simp only[Cel.fz,Cel.keep.injEq]at d;obtain⟨rfl,rfl,rfl⟩:=d;exact y.kp _ _ _ _ z
 |_=>cases d
theorem kw(l:Nat){e sz m:Nat}{xs:Z8 Z7}(d:lk O l=some (.row e sz m xs))
  (h:∀v V',V.le V'->eL V' v sz m xs->(∀k,v.ownBlock=some k->V.get k=none)->KJ K n (ow l v F) C ((l,.gone)::wD l v O) nl V'):KJ K n F C O nl V:=
 MD l d (λv V' p o t _=>h v V' p o t)
end
def Vw.del(V:Vw)(b:Nat):Vw:=⟨λk=>if k=b then none else V.get k,V.os,V.tape,V.output⟩
def Vw.delO(V:Vw):Z4 Nat->Vw
 |some b=>V.del b
 |none=>V
theorem Vw.del_le(V:Vw)(b:Nat):(V.del b).le V:=by
 refine⟨λk o h=>?_,J,J,J⟩;simp only[Vw.del]at h
 simp_all
theorem Vw.delO_le(V:Vw)(b:Z4 Nat):(V.delO b).le V:=by
 cases b with
 |none=>exact Vw.le.refl _
 |some b=>exact V.del_le b
structure Touch(S:Nat->Prop)(w w':World):Prop where
 os:w'.os=w.os
 tape:w'.tape=w.tape
 output:w'.output=w.output
 size:w.heap.size<=w'.heap.size
 block:∀k,k<w.heap.size-> ¬S k->w'.heap[k]? =w.heap[k]?
theorem Touch.below{S:Nat->Prop}{w d:Z6}(h:Touch S w d)(hs:∀k,k<w.heap.size->S k->d.heap[k]? =w.heap[k]?):cH w d:=
 ⟨h.os,h.tape,h.output,h.size,λk l=>by
  by_cases m:S k
  . exact hs k l m
  . exact h.block k l m⟩
section
variable{n:Nat}{F:cy}{C:Z8 Nat}{O:Own}{nl:Nat}{V:Vw}{E:Env}{w:Z6}
theorem Mem.addLit(p:Mem E O nl V w){b e:Nat}{cs:Z8 A}(hb:V.get b=some (.cells (cs.map (A.den E)).toArray e (0,0)))(W:dH nl cs=true): Mem (E.setρ nl b) ((nl,.lit cs e)::O) (nl+1) (V.del b) w:=by
 have N:E.agree nl (E.setρ nl b):=E.agree_setρ b;(have m:∀B c,lk ((nl,Cel.lit cs e)::O) B=some c->B≠nl->lk O B=some c:=λB c h d=>by rwa [gB _ _ (λx=>d x.symm)]at h);(have y:∀B c k,lk O B=some c->blk (E.setρ nl b) B c=some k->blk E B c=some k/\k≠b:=λB c k L h=>by rw[jL N (p.lab _ _ L)]at h;refine⟨h,λe=>?_⟩;have:=p.off _ _ _ L h;rw[e,hb]at this;cases this);refine⟨?_,?_,?_,λk o h=>p.get k o ((V.del_le b).get k o h),?_,p.os,p.tape,p.output,?_,?_,?_,?_,?_⟩;{intro l Y q h;by_cases d:l=nl;{subst d;rw[dF]at h;cases h;rw[A.map_agree N W];simpa[Env.setρ]using p.get _ _ hb};have L:=m _ _ h d;rw[(N l (p.lab _ _ L)).1,A.map_agree N (p.labs _ _ _ L)];exact p.lit _ _ _ L};{intro l q s n' ys h;by_cases d:l=nl;{subst d;rw[dF]at h;cases h};have L:=m _ _ h d;exact p.row _ _ _ _ _ L}
 .intro l1 l2 c1 c2 k z u t M;by_cases X:l1=nl;{by_cases R:l2=nl;{rw[X,R]};subst X;rw[dF]at z;cases z;(have T:b=k:=by simpa[blk,Env.setρ]using t);exact absurd T.symm (y _ _ _ (m _ _ u R) M).2};by_cases R:l2=nl;{subst R;rw[dF]at u;cases u;(have T:b=k:=by simpa[blk,Env.setρ]using M);exact absurd T.symm (y _ _ _ (m _ _ z X) t).2};exact p.sep _ _ _ _ _ (m _ _ z X) (m _ _ u R) (y _ _ _ (m _ _ z X) t).1 (y _ _ _ (m _ _ u R) M).1
 {intro l c k h t;by_cases d:l=nl;{subst d;rw[dF]at h;cases h;(have T:b=k:=by simpa[blk,Env.setρ]using t);simp[Vw.del,T]};obtain⟨z,u⟩:=y _ _ _ (m _ _ h d) t;simp only[Vw.del,u,Zt];exact p.off _ _ _ (m _ _ h d) z};{intro l c h;by_cases d:l=nl;{omega};have:=p.lab _ _ (m _ _ h d);omega};{intro l Y q h;by_cases d:l=nl;{subst d;rw[dF]at h;cases h;exact jn (YF _) W};exact jn (YF nl) (p.labs _ _ _ (m _ _ h d))};{intro l q b' h;by_cases d:l=nl;{subst d;rw[dF]at h;cases h};obtain⟨z,u⟩:=p.pin _ _ _ (m _ _ h d);exact⟨(N q u).1.trans z,Y9 u⟩};{intro l k h;by_cases d:l=nl;{subst d;rw[dF]at h;cases h};exact p.big _ _ (m _ _ h d)};intro l q b' v' h;by_cases d:l=nl;{subst d;rw[dF]at h;cases h};obtain⟨z,u,Z⟩:=p.kp _ _ _ _ (m _ _ h d);exact⟨(N q Z).1.trans z,(N q Z).2.trans u,Y9 Z⟩
theorem Mem.addRow(t:Mem E O nl V w){e sz m:Nat}{v:Z7}{xs:Z8 Z7}(hr:w.ownsRow 0 e sz v m xs)(hV:∀k,v.ownBlock=some k->(V.get k).isSome=true): Mem (E.setκ nl v) ((nl,.row e sz m xs)::O) (nl+1) (V.delO v.ownBlock) w:=by
 have R:E.agree nl (E.setκ nl v):=Env.agree_setκ E v;(have p:∀M c,lk ((nl,Cel.row e sz m xs)::O) M=some c->M≠nl->lk O M=some c:=λM c h d=>by rwa [gB _ _ (λx=>d x.symm)]at h);(have z:∀M c k,lk O M=some c->blk (E.setκ nl v) M c=some k->blk E M c=some k/\v.ownBlock≠some k:=λM c k L h=>by rw[jL R (t.lab _ _ L)]at h;refine⟨h,λe=>?_⟩;have:=t.off _ _ _ L h;have u:=hV k e;rw[this]at u;cases u);refine⟨?_,?_,?_,λk o h=>t.get k o ((V.delO_le _).get k o h),?_,?_,?_,?_,?_,?_,?_,?_,?_⟩;{intro l Z q h;by_cases d:l=nl;{subst d;rw[dF]at h;cases h};have L:=p _ _ h d;rw[(R l (t.lab _ _ L)).1,A.map_agree R (t.labs _ _ _ L)];exact t.lit _ _ _ L};{intro l q s n' ys h;by_cases d:l=nl;{subst d;rw[dF]at h;cases h;simpa[Env.setκ]using hr};have L:=p _ _ h d;rw[(R l (t.lab _ _ L)).2];exact t.row _ _ _ _ _ L}
 .intro l1 l2 c1 c2 k B u y N;by_cases Y:l1=nl;{by_cases T:l2=nl;{rw[Y,T]};subst Y;rw[dF]at B;cases B;(have W:v.ownBlock=some k:=by simpa[blk,Env.setκ]using y);exact absurd W (z _ _ _ (p _ _ u T) N).2};by_cases T:l2=nl;{subst T;rw[dF]at u;cases u;(have W:v.ownBlock=some k:=by simpa[blk,Env.setκ]using N);exact absurd W (z _ _ _ (p _ _ B Y) y).2};exact t.sep _ _ _ _ _ (p _ _ B Y) (p _ _ u T) (z _ _ _ (p _ _ B Y) y).1 (z _ _ _ (p _ _ u T) N).1
 .intro l c k h y;by_cases d:l=nl;{subst d;rw[dF]at h;cases h;(have W:v.ownBlock=some k:=by simpa[blk,Env.setκ]using y);rw[W];simp[Vw.delO,Vw.del]};obtain⟨B,u⟩:=z _ _ _ (p _ _ h d) y;have X:=t.off _ _ _ (p _ _ h d) B;cases hq:(V.delO v.ownBlock).get k with
  |none=>rfl
  |some ob=>have:=(V.delO_le _).get _ _ hq;rw[X]at this;cases this
 {rw[t.os];cases v.ownBlock<;>rfl};{rw[t.tape];cases v.ownBlock<;>rfl};{rw[t.output];cases v.ownBlock<;>rfl};{intro l c h;by_cases d:l=nl;{omega};have:=t.lab _ _ (p _ _ h d);omega};{intro l Z q h;by_cases d:l=nl;{subst d;rw[dF]at h;cases h};exact jn (YF nl) (t.labs _ _ _ (p _ _ h d))};{intro l q b' h;by_cases d:l=nl;{subst d;rw[dF]at h;cases h};obtain⟨B,u⟩:=t.pin _ _ _ (p _ _ h d);exact⟨(R q u).1.trans B,Y9 u⟩};{intro l k h;by_cases d:l=nl;{subst d;rw[dF]at h;cases h};exact t.big _ _ (p _ _ h d)};intro l q b' v' h;by_cases d:l=nl;{subst d;rw[dF]at h;cases h};obtain⟨B,u,X⟩:=t.kp _ _ _ _ (p _ _ h d);exact⟨(R q X).1.trans B,(R q X).2.trans u,Y9 X⟩
theorem Mem.addPin(p:Mem E O nl V w)(m b:Nat)(W:E.ρ m=b)(L:m<nl):Mem E ((nl,.pin m b)::O) (nl+1) V w:=by (have o:∀B c,lk ((nl,Cel.pin m b)::O) B=some c->B≠nl->lk O B=some c:=λB c h d=>by rwa [gB _ _ (λx=>d x.symm)]at h);refine⟨?_,?_,?_,p.get,?_,p.os,p.tape,p.output,?_,?_,?_,?_,?_⟩;{intro l M q h;by_cases d:l=nl;{subst d;rw[dF]at h;cases h};exact p.lit _ _ _ (o _ _ h d)};{intro l q s n' ys h;by_cases d:l=nl;{subst d;rw[dF]at h;cases h};exact p.row _ _ _ _ _ (o _ _ h d)};{intro Y Z c1 c2 k y u t z;by_cases R:Y=nl;{subst R;rw[dF]at y;cases y;simp[blk]at t};by_cases N:Z=nl;{subst N;rw[dF]at u;cases u;simp[blk]at z};exact p.sep _ _ _ _ _ (o _ _ y R) (o _ _ u N) t z};{intro l c k h t;by_cases d:l=nl;{subst d;rw[dF]at h;cases h;simp[blk]at t};exact p.off _ _ _ (o _ _ h d) t};{intro l c h;by_cases d:l=nl;{omega};have:=p.lab _ _ (o _ _ h d);omega};{intro l M q h;by_cases d:l=nl;{subst d;rw[dF]at h;cases h};exact jn (YF nl) (p.labs _ _ _ (o _ _ h d))};{intro l q T h;by_cases d:l=nl;{subst d;rw[dF]at h;cases h;exact⟨W,Y9 L⟩};obtain⟨y,u⟩:=p.pin _ _ _ (o _ _ h d);exact⟨y,Y9 u⟩};{intro l k h;by_cases d:l=nl;{subst d;rw[dF]at h;cases h};exact p.big _ _ (o _ _ h d)};intro l q T v' h;by_cases d:l=nl;{subst d;rw[dF]at h;cases h};obtain⟨y,u,X⟩:=p.kp _ _ _ _ (o _ _ h d);exact⟨y,u,Y9 X⟩
theorem Mem.addSize(o:Mem E O nl V w):Mem E ((nl,.size w.heap.size)::O) (nl+1) V w:=by (have m:∀z c,lk ((nl,Cel.size w.heap.size)::O) z=some c->z≠nl->lk O z=some c:=λz c h d=>by rwa [gB _ _ (λx=>d x.symm)]at h);refine⟨?_,?_,?_,o.get,?_,o.os,o.tape,o.output,?_,?_,?_,?_,?_⟩;{intro l B q h;by_cases d:l=nl;{subst d;rw[dF]at h;cases h};exact o.lit _ _ _ (m _ _ h d)};{intro l q s X Z h;by_cases d:l=nl;{subst d;rw[dF]at h;cases h};exact o.row _ _ _ _ _ (m _ _ h d)};{intro T W c1 c2 k u t p y;by_cases M:T=nl;{subst M;rw[dF]at u;cases u;simp[blk]at p};by_cases L:W=nl;{subst L;rw[dF]at t;cases t;simp[blk]at y};exact o.sep _ _ _ _ _ (m _ _ u M) (m _ _ t L) p y};{intro l c k h p;by_cases d:l=nl;{subst d;rw[dF]at h;cases h;simp[blk]at p};exact o.off _ _ _ (m _ _ h d) p};{intro l c h;by_cases d:l=nl;{omega};have:=o.lab _ _ (m _ _ h d);omega};{intro l B q h;by_cases d:l=nl;{subst d;rw[dF]at h;cases h};exact jn (YF nl) (o.labs _ _ _ (m _ _ h d))};{intro l q N h;by_cases d:l=nl;{subst d;rw[dF]at h;cases h};obtain⟨u,t⟩:=o.pin _ _ _ (m _ _ h d);exact⟨u,Y9 t⟩};{intro l k h;by_cases d:l=nl;{subst d;rw[dF]at h;cases h;exact ZS _};exact o.big _ _ (m _ _ h d)};intro l q N Y h;by_cases d:l=nl;{subst d;rw[dF]at h;cases h};obtain⟨u,t,R⟩:=o.kp _ _ _ _ (m _ _ h d);exact⟨u,t,Y9 R⟩
theorem Mem.touch{p:Z6}{S:Nat->Prop}{V0:Vw}(m:Mem E O nl V p)(d:V0.le V)(B:∀k o,w.heap[k]? =some o-> ¬S k->V0.get k=some o)(l:V0.os=w.os/\V0.tape=w.tape/\V0.output=w.output)(t:w.heap.size<=p.heap.size): Touch S w p:=by refine⟨?_,?_,?_,t,λk y z=>?_⟩;{rw[m.os,d.os,l.1]};{rw[m.tape,d.tape,l.2.1]};{rw[m.output,d.output,l.2.2]};(have u:w.heap[k]? =some w.heap[k]:=by simp[y]);rw[u];exact m.get _ _<|d.get _ _<|B k _ u z
end
theorem iC(E:Env):∀l:Z8 Z7,(l.map A.v).map (A.den E)=l/\ ∀nl,dH nl (l.map A.v)=true
 |[]=>⟨J,λ_=>rfl⟩
 |x::r=>by
  have:=iC E r
  exact⟨by simp[A.den,this.1],λnl=>by simp[dH,A.ok,this.2]⟩
abbrev E1(b:Nat):Env:=E0.setρ 0 b
abbrev O1(w:Z6)(b e:Nat)(vs:Z8 Z7):Own:=[(2,.size w.heap.size),(1,.pin 0 b),(0,.lit (vs.map .v) e)]
theorem Rj{w:Z6}{b e:Nat}{d:Z8 Z7}(l:w.heap[b]? =some (.cells d.toArray e (0,0))):Mem (E1 b) (O1 w b e d) 3 ((vw w).del b) w:=
 (((jh E0 0 w).addLit (b:=b) (e:=e) (cs:=d.map .v) (by rw[(iC _ _).1];exact l) ((iC E0 _).2 _)).addPin 0 b (by simp[Env.setρ]) om).addSize
section
variable{P:Z3}{n:Nat}{O:Own}{nl:Nat}{V:Vw}{E:Env}{w:Z6}
theorem pc{l:Z6}{b e:Nat}{cs:Z8 A}(d:Mem E O nl V l)(m:((vw w).del b).le V)(t:lk O 2=some (.size w.heap.size))(y:lk O 1=some (.pin 0 b))(z:lk O 0=some (.lit cs e)): Touch (· =b) w l/\l.heap[b]? =some (.cells (cs.map (A.den E)).toArray e (0,0)):=by refine⟨d.touch m (λk o p u=>by simp only[Vw.del,vw];rw[ZX u];exact p) ⟨J,J,J⟩ (d.big _ _ t),?_⟩;rw[<-(d.pin _ _ _ y).1];exact d.lit _ _ _ z
theorem iI{m:Z6}{b e:Nat}{l:Z8 Z7}(L:w.heap[b]? =some (.cells l.toArray e (0,0)))(o:Mem E O nl V m)(d:((vw w).del b).le V)(t:lk O 2=some (.size w.heap.size))(u:lk O 1=some (.pin 0 b))(z:lk O 0=some (.lit (l.map .v) e)): cH w m:=by
 obtain⟨y,p⟩:=pc o d t u z;rw[(iC _ _).1]at p;refine y.below λk _ B=>?_
 simp_all
theorem j5{f:Nat}{fn:Func}{c:Code}{R:Ending->Z6->Prop}{b e:Nat}{p:Z8 Z7}(d:Z8 SV)(t:w.heap[b]? =some (.cells p.toArray e (0,0)))(m:P.funcs[f]? =some fn)(u:fn.body=some c)(y:fn.ntmps=n)
  (l:kI 3 d=true) (o:Nat.ble d.length n=true)
  (h:KJ (c.wp P (bodyPost P fn R)) n (k5 d 0) [] (O1 w b e p) 3 ((vw w).del b)):Calls P f (d.map (SV.den (E1 b))).toArray w R:=
 enter d m u y (Rj t) l o h
end
section
variable{P:Z3}{tt:Z8 (Nat×TI)}{o:Oper}{n:Nat}{F:cy}{C:Z8 Nat}{O:Own}{nl:Nat}{V:Vw}
def BC(F:cy)(p:Z8 (Nat×Bool)):Op->Z4 (BinOp×Nat×SV×SV×Operand×Operand)
 |.binOp op t x y _=>match cV F p x,cV F p y with
  |some a,some b=>some (op,t,a,b,x,y)
  |_,_=>none
 |_=>none
theorem hU{p:Z8 (Nat×Bool)}{g:Bool}{L:BinOp}{t:Nat}{B u:SV}{ox oy:Operand}(v:Z7)(l:BC F p o.op=some (L,t,B,u,ox,oy)) (T:∀E w,(do eqGuard L t ox oy (B.den E) (u.den E);binOp L t (B.den E) (u.den E):Sem Z7).run P w=.ok v w):dY P o n F C O nl V p g (.a (.v v)):=by
 intro R E a w M m hm;refine⟨?_,J⟩;unfold Yv execOp;cases d:o.op with
 |binOp op' t' x y z=>simp only[d,BC]at l;split at l;{rename_i a' Z Y X;obtain⟨rfl,rfl,rfl,rfl,rfl,rfl⟩:=l;obtain⟨W,_⟩:=cZ M m Y;obtain⟨N,_⟩:=cZ M m X;have:=T E w;simp only[W,N];rw[ZR,this];simp[SV.den,A.den]};cases l
 |_=>simp[d,BC]at l
end
theorem Co{w:Z6}{g:Nat}{cs:Array Z7}{t:TypeId}{m:Nat×Nat}(h:w.heap[g]? =some (.cells cs t m)):w.setRow g cs=w:=by
 (have l:(w.setRow g cs).heap=w.heap:=by apply K_;intro k;by_cases d:k=g;{subst d;rw[setRow_heap w _ _ _ _ _ h,h]};rw[setRow_other w _ _ _ d]);unfold World.setRow at l⊢
 simp_all
section
variable{n:Nat}{O:Own}{nl:Nat}{V:Vw}{E:Env}{w w':Z6}
theorem Mem.regive(p:Mem E O nl V w){l e:Nat}{cs cs':Z8 A}(u:lk O l=some (.lit cs e))(o:dH nl cs'=true)(m:Touch (· =E.ρ l) w w')(t:w'.heap[E.ρ l]? =some (.cells (cs'.map (A.den E)).toArray e (0,0))): Mem E ((l,.lit cs' e)::O) nl V w':=by
 have z:=p.lit _ _ _ u;(have B:Below w.heap.size w (w'.setRow (E.ρ l) (cs.map (A.den E)).toArray):=by refine⟨m.os,m.tape,m.output,by simpa using m.size,λk y=>?_⟩;by_cases d:k=E.ρ l;{subst d;rw[setRow_heap w' _ _ _ _ _ t,z]};rw[setRow_other w' _ _ _ d];exact m.block k y d);have:=(p.keep B).set (cs':=cs') u o
 rwa [setRow_setRow,Co t]at this
end
section
variable{n:Nat}{F:cy}{C:Z8 Nat}{O:Own}{nl:Nat}{V:Vw}{K:Act->Z6->Prop}
theorem mV(l i e sz:Nat){cs:Z8 A}{e0:Nat}(u:lk O l=some (.lit cs e0))(hi:cs[i]? =some (.v (.slice none 0 0))) (h:KJ K n F C ((l,.lit (cs.set i (.row nl)) e0)::(nl,.row e sz 0 [])::O) (nl+1) V):KJ K n F C O nl V:=by constructor;intro E a w t N z;have T:E.agree nl (E.setκ nl (.slice none 0 0)):=Env.agree_setκ E _;have m:=z.newRow (v:=.slice none 0 0) (e:=e) (sz:=sz) (Below.refl _ _) (World.ownsRow_nil w w.heap.size e sz);have d:=z.lab _ _ u;(have o:lk ((nl,Cel.row e sz 0 [])::O) l=some (.lit cs e0):=by rw[gB _ _ om];exact u);(have y:dH (nl+1) (cs.set i (.row nl))=true:=by rw[gi];intro x R;(rcases ZA R with h|h);{exact gi.1 (jn (YF nl) (z.labs _ _ _ u)) x h};subst h;simp[A.ok,eD]);have B:=m.set (cs':=cs.set i (.row nl)) o y;(have p:(cs.set i (.row nl)).map (A.den (E.setκ nl (.slice none 0 0)))=cs.map (A.den (E.setκ nl (.slice none 0 0))):=by rw[List.map_set];apply Yc;intro j;rw[List.getElem?_set];by_cases L:i=j;{subst L;simp only[ZK,Yf];have d:=(List.getElem?_eq_some_iff.1 hi).1;rw[ZW d,List.getElem?_map,hi];simp[A.den,Env.setκ]};simp[L]);have M:=m.lit _ _ _ o;rw[p,Co M]at B;exact h.out _ a w t (N.env T (YF nl)) B
theorem Mem.rowFresh{E:Env}{w y:Z6}(u:Mem E O nl V y)(t:(vw w).le V){l e sz m:Nat}{xs:Z8 Z7}(z:lk O l=some (.row e sz m xs)):y.ownsRow w.heap.size e sz (E.κ l) m xs:=by have B:=u.row _ _ _ _ _ z;refine⟨B.1,?_⟩;(rcases B.2 with h|⟨g,p,o,L,_,M⟩);{exact .inl h};refine .inr ⟨g,p,o,L,?_,M⟩;have d:=u.off l _ g z (by simp[blk,L,Value.ownBlock]);(rcases YM g w.heap.size with hlt|hge);{(have:(vw w).get g=some w.heap[g]:=by simp[vw,hlt]);rw[t.get _ _ this]at d;cases d};exact hge
end
theorem jS{w p:Z6}{V:Vw}{e sz m:Nat}{v:Z7}{xs:Z8 Z7}(hV:V.le (vw w))(y:cH w p)(t:p.ownsRow w.heap.size e sz v m xs):∃V',Vext w.heap.size V V' p/\eL V' v sz m xs:=by refine⟨⟨λk=>if v.ownBlock=some k then p.heap[k]? else V.get k,V.os,V.tape,V.output⟩,⟨⟨λk o d=>?_,J,J,J⟩,λk o d=>?_⟩,?_⟩;{have l:=(Array.getElem?_eq_some_iff.1 (hV.get k o d)).1;show(if _ then _ else _)=_;rw[ZX];{exact d};intro h;have:=(t.lt k h).1;omega};{change (if _ then _ else _)=_ at d;by_cases h:v.ownBlock=some k;{rw[ZW h]at d;exact⟨d,.inr (t.lt k h).1⟩};rw[ZX h]at d;have u:=hV.get k o d;have l:=(Array.getElem?_eq_some_iff.1 u).1;exact⟨(y.block k l).trans u,.inl d⟩};exact pg (J5 t) (λk d=>by show(if _ then _ else _)=_;rw[ZW d])
theorem Vext.same{w l:Z6}{V:Vw}(hV:V.le (vw w))(p:cH w l):Vext w.heap.size V V l:=
 ⟨Vw.le.refl _,λk o d=>by
  have m:=hV.get k o d
  exact⟨(p.block k (Array.getElem?_eq_some_iff.1 m).1).trans m,.inl d⟩⟩
def nR(F:cy):Z8 Nat->Z8 (Nat×SV)->Z4 (Z8 (Nat×SV))
 |[],acc=>some acc
 |t::ts,acc=>match cV F [] (.tmp t)with
  |some x=>nR F ts ((t,x)::acc)
  |none=>none
def jH:Own->Z8 Nat->Own->Z4 Own
 |[],_,acc=>some acc
 |(l,c)::r,seen,acc=>bif dh l seen then jH r seen acc else(match c with
  |.gone=>jH r (l::seen) acc
  |c=>jH r (l::seen) ((l,c)::acc))
section
variable{P:Z3}{Q:Exit->Act->Z6->Prop}{n:Nat}{F:cy}{C:Z8 Nat}{O:Own}{nl:Nat}{V:Vw}
theorem PA{c:Code}{σ:Type}(t ls:Z8 Nat){m:Z8 (Nat×SV)}{o:Own}(y:nR F t []=some m)(z:jH O ls []=some o)
  (Fx:σ->Z8 (Nat×SV)) (Ox:σ->Own) (I:σ->Prop) (μ:σ->Nat) (l:σ)
  (u:I l) (hs:dT F (Fx l++m)) (hO:dm O (Ox l++o)) (p:(iO nl (Fx l++m)&&eA nl (Ox l++o))=true)
  (d:∀x,I x->KJ (c.wp P (Exit.then (λa w=>∃x',(gM n (λx=>Fx x++m) (λx=>Ox x++o) nl (λ_=>V) x' a w/\I x')/\μ x'<μ x) Q)) n (dA (Fx x++m)) [] (Ox x++o) nl V):
  KJ ((Code.loop c).wp P Q) n F C O nl V:=
 ql (λx=>Fx x++m) (λx=>Ox x++o) nl (λ_=>V) I μ l u hs hO p (Vw.le.refl _) d
theorem UH{c:Code}{σ:Type}(t ls:Z8 Nat){m:Z8 (Nat×SV)}{o:Own}(y:nR F t []=some m)(z:jH O ls []=some o)
  (Fx:σ->Z8 (Nat×SV)) (Ox:σ->Own) (Vx:σ->Vw) (I:σ->Prop) (μ:σ->Nat) (d:σ)
  (u:I d) (hs:dT F (Fx d++m)) (hO:dm O (Ox d++o)) (p:(iO nl (Fx d++m)&&eA nl (Ox d++o))=true) (hV:(Vx d).le V)
  (l:∀x,I x->KJ (c.wp P (Exit.then (λa w=>∃x',(gM n (λx=>Fx x++m) (λx=>Ox x++o) nl Vx x' a w/\I x')/\μ x'<μ x) Q)) n (dA (Fx x++m)) [] (Ox x++o) nl (Vx x)):
  KJ ((Code.loop c).wp P Q) n F C O nl V:=
 ql (λx=>Fx x++m) (λx=>Ox x++o) nl Vx I μ d u hs hO p hV l
end
theorem SlOf.at{α:Type}{V:Vw}{enc:α->Z8 Z7}{sz:Nat}{v:Z7}{l:Z8 α}(_:SlOf V enc sz v l){k:Nat}(h:k<l.length):∃x,l[k]? =some x:=by simp_all
theorem cC{α:Type}{l:Z8 α}{k:Nat}{x:α}(h:l[k]? =some x):k<l.length:=by grind
section
variable{P:Z3}{ops:Array Oper}{Q:Exit->Act->Z6->Prop}{sp:Z8 Nat}{O0:Own}{nl0:Nat}{V0:Vw}{fuel:Nat}{listed:Z8 Bool}{o:Oper}{n:Nat}{F:cy}{C:Z8 Nat}{O:Own}{nl:Nat}{V:Vw}
theorem Mem.fwd{E0 E:Env}{w:Z6}(h:Mem E0 O0 nl0 V0 w)(o:E0.agree nl0 E)(N:nl0<=nl):Mem E O0 nl V0 w:=by have p:∀{l c},lk O0 l=some c->blk E l c=blk E0 l c:=λ{l c} d=>jL o (h.lab _ _ d) c;refine⟨?_,?_,?_,h.get,?_,h.os,h.tape,h.output,?_,?_,λl m b d=>?_,h.big,λl m b v d=>?_⟩;{intro l cs e d;have:=h.lit _ _ _ d;rw[(o l (h.lab _ _ d)).1,A.map_agree o (h.labs _ _ _ d)];exact this};{intro l e sz m xs d;have:=h.row _ _ _ _ _ d;rw[(o l (h.lab _ _ d)).2];exact this};{intro l O c M k d u t y;rw[p d]at t;rw[p u]at y;exact h.sep l O c M k d u t y};{intro l c k d t;rw[p d]at t;exact h.off l c k d t};{intro l c d;have:=h.lab _ _ d;omega};{intro l cs e d;exact jn N<|h.labs _ _ _ d};{obtain⟨B,z⟩:=h.pin l m b d;exact⟨(o m z).1.trans B,om⟩};obtain⟨B,z,L⟩:=h.kp l m b v d;exact⟨(o m L).1.trans B,(o m L).2.trans z,om⟩
theorem g5(i:Nat){p:Z8 (Nat×Bool)}{g:Bool}{B:Z8 Nat}{s:SV}{d:Nat}(hi:ops[i]? =some o) (m:r9 ops sp listed.toArray i=true) (hg:gd ops F C o.guard=some (p,g,B)) (hd:o.dst=some d) (T:(Nat.blt d n&& !(dh d B))=true) (hn:Nat.ble nl0 nl=true) (hy:dY P o n F B O0 nl V0 p g s) (hs:s.ok nl=true) (z:HJ P ops Q sp O0 nl0 V0 fuel (dz listed i) n ((d,⟨p,g,s⟩)::F) B O nl V):HJ P ops Q sp O0 nl0 V0 (fuel+1) listed n F C O nl V:=by
 simp only[r9,Z1,ZJ]at m;obtain⟨⟨⟨⟨hr,M⟩,y⟩,hw⟩,l⟩:=m;constructor;intro E0 E a w t N hf hm X;obtain⟨Y,W,Z,h4⟩:=gz hf hg;simp at T;obtain⟨u,R⟩:=Hd hw;refine JX (v:=if g then s.den E else undef) hi (Region.noSelect_spec y) (λc a w h=>h.elim) u R fuel listed.toArray a w (Region.free_spec hi M) (by simpa using hr) ?_ l (X l) ?_
 .cases g with
  |true=>refine .inl ⟨Y,λw' L=>?_⟩;have:=(hy J E a w' W Z.symm (L.fwd t (by simpa using hn))).1;simpa[Yv]using this
  |false=>exact .inr ⟨Y,sm⟩
 rw[<-qq,hd];exact z.out E0 E _ w t (by simp[Act.put,N]) (Frm.put (p:=p) (g:=g) W T.1 T.2 Z h4 (λ_=>hs)) hm λ_=>X l
end
theorem Q5{P:Z3}{Q:Exit->Act->Z6->Prop}{n:Nat}{F:cy}{C:Z8 Nat}{O:Own}{nl:Nat}{V:Vw}{id:Nat}{l:Z8 Oper}{m:Own}(d:P.follows .mixedOrders=true)
  (p:jH O [] []=some m) (hO:dm O m) (o:eA nl m=true)
  (h:TJ P l.toArray Q [] m l.length (List.replicate l.length false) n F C O nl V):KJ ((Code.region id l.toArray true).wp P Q) n F C O nl V:=
 gE [] m d hO o h
theorem Mem.rowOf{α:Type}{enc:α->Z8 Z7}{E:Env}{O:Own}{nl:Nat}{V:Vw}{w:Z6}(d:Mem E O nl V w)(l:Nat){e sz:Nat}{L:Z8 α}(o:lk O l=some (.row e sz L.length (L.flatMap enc)))
  (m:∀x,(enc x).length=sz):SlOf (vw w) enc sz (E.κ l) L:=
 ⟨pg (d.row _ _ _ _ _ o) (λ_ _=>rfl),m⟩
theorem jY{α:Type}(V:Vw)(enc:α->Z8 Z7)(sz c:Nat)(d:∀x,(enc x).length=sz):SlOf V enc sz (.slice none 0 c) []:=
 ⟨⟨sm,.inl ⟨none,c,J,J⟩⟩,d⟩
theorem tX(a:Nat)(d:a<9223372036854775808):(BitVec.ofInt 64 (a:Int)).toNat=a:=by grind
theorem KO(a b:Nat)(d:a<9223372036854775808)(l:b<9223372036854775808):bits .and .i64 (a:Int) (b:Int)=((a&&&b:Nat):Int):=by have m:a&&&b<=a:=Nat.and_le_left;show IntKind.i64.wrap ((BitVec.ofInt 64 (a:Int)&&&BitVec.ofInt 64 (b:Int)).toNat:Int)=_;rw[BitVec.toNat_and,tX a d,tX b l,cx om om]
theorem Nu(a b:Nat)(d:a<9223372036854775808)(l:b<9223372036854775808):bits .or .i64 (a:Int) (b:Int)=((a|||b:Nat):Int):=by (have m:a|||b<2^63:=Nat.or_lt_two_pow om om);show IntKind.i64.wrap ((BitVec.ofInt 64 (a:Int)|||BitVec.ofInt 64 (b:Int)).toNat:Int)=_;rw[BitVec.toNat_or,tX a d,tX b l,cx om om]
theorem DE(a b:Nat)(d:a<9223372036854775808)(l:b<9223372036854775808):bits .xor .i64 (a:Int) (b:Int)=((a^^^b:Nat):Int):=by have m:a^^^b<2^63:=Yx om om;show IntKind.i64.wrap ((BitVec.ofInt 64 (a:Int)^^^BitVec.ofInt 64 (b:Int)).toNat:Int)=_;rw[BitVec.toNat_xor,tX a d,tX b l,cx om om]
theorem Um{n:Nat}(h:n<256):IntKind.u8.wrap (n:Int)=n:=by rw[IntKind.wrap_u8'];omega
theorem Hq{n:Nat}(h:n<4294967296):IntKind.u32.wrap (n:Int)=n:=by rw[IntKind.wrap_u32'];omega
abbrev fV(b:UInt8):Z8 Z7:=[.int .u8 b.toNat]
theorem GJ(s:Z5):rJ s=s.data.toList.flatMap fV:=by unfold rJ;rw[<-List.flatMap_singleton' (s.data.toList.map _),List.flatMap_map]
theorem y7(l:Z8 UInt8):l.flatMap fV=l.map λb=>Value.int .u8 b.toNat:=by
 induction l with
 |nil=>rfl
 |cons x r ih=>rw[Zy,ih];rfl
theorem sS(l:Z8 UInt8):∀u∈l.flatMap fV,u.oneCell'=true:=by intro u d;rw[y7]at d;obtain⟨b,_,rfl⟩:=Y6.1 d;rfl
def cN(l:Z8 UInt8):Z5:=⟨l.toArray⟩
theorem LA(s:Z5):cN s.data.toList=s:=by simp[cN]
theorem gx(l:Z8 UInt8):(cN l).size=l.length:=by simp[cN,ByteArray.size]
theorem iY(l:Z8 UInt8):(cN l).data.toList=l:=by simp[cN]
theorem IS:∀(l:Z8 UInt8) (s:Z5),(l.map λb=>((b.toNat:Nat):Int)).foldl (λr n=>r.push (UInt8.ofNat n.toNat)) s=⟨s.data++l.toArray⟩
 |[],s=>by simp
 |x::r,s=>by
  rw[Zq,t_,IS r]
  simp_all
section
variable{P:Z3}{tt:Z8 (Nat×TI)}{o:Oper}{n:Nat}{F:cy}{C:Z8 Nat}{O:Own}{nl:Nat}{V:Vw}
def Di(tt:Z8 (Nat×TI))(F:cy)(p:Z8 (Nat×Bool)):Op->Z4 Z7
 |.convert s d x=>match cV F p x,lk tt s,lk tt d with
  |some (.a (.v v)),some ⟨_,_,_,_,.slice e⟩,some ⟨_,_,_,_,.str⟩=>match lk tt e with
   |some ⟨_,_,_,_,.int .u8⟩=>some v
   |_=>none
  |_,_,_=>none
 |_=>none
theorem Nf{P:Z3}(w:Z6)(a:Addr):(loadCells a 0).run P w=.ok #[] w:=by simp[loadCells,loadCellsFrom,Array.range_zero']
theorem oY(y:dl P tt){p:Z8 (Nat×Bool)}{g:Bool}{v:Z7}(l:Z8 UInt8)(Y:Di tt F p o.op=some v) (hs:g=true->eL V v 1 l.length (l.flatMap fV)):dY P o n F C O nl V p g (.a (.v (.string (cN l)))):=by
 intro a5 E a w hf ae hm;refine⟨?_,J⟩;unfold Yv execOp;cases M:o.op with
 |convert s d x=>
  simp only[M,Di]at Y;split at Y
  .rename_i v2 sz by_ z fl e ao aB z2 am hx ab a9;split at Y
   .rename_i aj an z3 aA a7;cases Y;obtain⟨h1,_⟩:=cZ hf ae hx;obtain⟨ds,L,R,_⟩:=(y _ _ ab).und;(have e1:ds=.slice e:=by cases ds<;>simp[eM]at R;rw[R]);subst e1;obtain⟨dd,B,a8,_⟩:=(y _ _ a9).und;(have e2:dd=.string:=by cases dd<;>simp[eM]at a8<;>rfl);subst e2;obtain⟨de,T,X,_⟩:=(y _ _ a7).und;(have e3:de=.int .u8:=by cases de<;>simp[eM]at X;rw[X]);subst e3
    have key:∀(m:Addr) (c:Nat),v=.slice (some m) l.length c->(loadCells m l.length).run P w=.ok (l.map λb=>Value.int .u8 b.toNat).toArray w->
      (Conv.bytesToString (.slice (some m) l.length c)).run P w=.ok (.string (cN l)) w:=by
     intro m c _ hl
     have e:=IS l ByteArray.empty
     have aa:(loadCells m l.length).run P w=.ok (((l.map λb=>((b.toNat:Nat):Int)).map (Value.int .u8)).toArray) w:=by
      rw[Ym];exact hl
     rw[run_bytesToString w m _ c _ aa,e]
     simp[cN]
    have a0:(convert s d v).run P w=.ok (.string (cN l)) w:=by
     obtain⟨ag,a6⟩:=hs a5;rcases a6 with⟨m,c,rfl,h0⟩|⟨b,off,W,cs,el,fz,rfl,hb,t,N,hc⟩
     .rw[run_convert_bytes_string w s d e m 0 c L T B];have Z:l=[]:=Zu h0;subst Z;cases m with
      |none=>simp[Conv.bytesToString,cN,ZO];rfl
      |some m=>exact key m c J (Nf w m)
     rw[run_convert_bytes_string w s d e _ l.length W L T B];refine key _ W J ?_;have ac:=hm.get _ _ hb;(have u:off+l.length<=cs.size:=by rw[i_]at t;exact t);rw[Gg ac off l.length u];rw[i_]at N;rw[<-N,y7]
    simp only[h1,ZR,a0,ZU,ZO,SV.den,A.den]
   simp_all
  simp_all
 |_=>simp[M,Di]at Y
theorem NN{p:Z8 (Nat×Bool)}(Φ:Z7->Vw->Prop) (h:∀E (a:Act) w,Frm E n F C nl a.tmps->eN F p=true->Mem E O nl V w-> ∃v w' V',(execOp a.eval o).run P w=.ok (.value v) w'/\cH w w'/\Vext w.heap.size V V' w'/\Φ v V'): StepTo P o p n F C O nl V (σ:=Z7×Vw) (λx=>V.le x.2/\Φ x.1 x.2) (λx=>.a (.v x.1)) (λ_=>O) nl (λx=>x.2):=by constructor;intro E a w t d l K Q z;obtain⟨v,w',V',y,B,m,u⟩:=h E a w t d l;unfold Oper.wp;rw[y];exact z (v,V') E w' ⟨m.le,u⟩ (λ_ _=>⟨J,J⟩) (l.ext B m) J
def z6(tt:Z8 (Nat×TI))(F:cy)(p:Z8 (Nat×Bool)):Op->Z4 (Z5×Nat)
 |.convert s d x=>match cV F p x,lk tt s,lk tt d with
  |some (.a (.v (.string v))),some ⟨_,_,_,_,.str⟩,some ⟨_,_,_,_,.slice e⟩=>match lk tt e with
   |some ⟨_,_,_,_,.int .u8⟩=>some (v,e)
   |_=>none
  |_,_,_=>none
 |_=>none
theorem NY(w:Z6)(e:Nat)(s:Z5):Below w.heap.size w (Lib.bytesWorld w e s):=by
 refine⟨?_,?_,?_,?_,λk d=>Lib.bytesWorld_at_old w e s k d⟩
 all_goals simp[Lib.bytesWorld,World.freeze,World.alloc,World.drew, -World.alloc_eq, -World.drew_eq]
def Ad(V:Vw)(s:Z5)(v:Z7)(V':Vw):Prop:=
 ∃b cap cs e fz,v=.slice (some ⟨b,0,none⟩) s.size cap/\s.size<=cap/\V'.get b=some (.cells cs e fz)/\s.size<=cs.size/\cs.toList.take s.size=s.data.toList.flatMap fV/\s.size<=fz.1/\V.get b=none
theorem Ad.sl{V:Vw}{s:Z5}{v:Z7}{l:Vw}(h:Ad V s v l):SlOf l fV 1 v s.data.toList:=by obtain⟨b,d,cs,e,o,rfl,u,p,w,t,_⟩:=h;(have m:s.data.toList.length=s.size:=by rw[Y2];rfl);refine⟨⟨by rw[y7];simp,.inr ⟨b,0,d,cs,e,o,by rw[m],p,om,by rw[m,i_,List.drop_zero,t],om⟩⟩,λ_=>rfl⟩
theorem PX(u:dl P tt){p:Z8 (Nat×Bool)}{s:Z5}{e:Nat}(L:z6 tt F p o.op=some (s,e)): StepTo P o p n F C O nl V (σ:=Z7×Vw) (λx=>V.le x.2/\Ad V s x.1 x.2) (λx=>.a (.v x.1)) (λ_=>O) nl (λx=>x.2):=by
 refine NN (λv B=>Ad V s v B) ?_;intro E a w hf ab hm;cases t:o.op with
 |convert ts td x=>
  simp only[t,z6]at L;split at L
  .rename_i l sz by_ z fl aj au z2 ag d hx aa a7;split at L
   .rename_i af ai z3 ar a6;simp only[Z0,ZN]at L;obtain⟨rfl,rfl⟩:=L;obtain⟨h1,_⟩:=cZ hf ab hx;obtain⟨ds,a0,ah,_⟩:=(u _ _ aa).und;obtain⟨dd,Z,T,_⟩:=(u _ _ a7).und;(have e1:dd=.slice d:=by cases dd<;>simp[eM]at T;rw[T]);subst e1;obtain⟨de,a5,W,_⟩:=(u _ _ a6).und;(have e3:de=.int .u8:=by cases de<;>simp[eM]at W;rw[W]);subst e3;have a8:a.eval x=.string l:=h1;have hr:=Lib.run_convert_string_bytes (P:=P) w ts td d l a0 Z a5;(obtain⟨B,Y,X⟩:∃B:Vw,Vext w.heap.size V B (Lib.bytesWorld w d l)/\B.get w.heap.size=some (.cells (Lib.bytesCells w d l) d ((Lib.bytesCells w d l).size,(Lib.bytesCells w d l).size+1)):=by refine⟨V.put w.heap.size (.cells (Lib.bytesCells w d l) d ((Lib.bytesCells w d l).size,(Lib.bytesCells w d l).size+1)),⟨⟨λk y R=>?_,J,J,J⟩,λk y R=>?_⟩,?_⟩;{have M:=(Array.getElem?_eq_some_iff.1 (hm.get k y R)).1;show(if _ then _ else _)=_;rw[ZX om];exact R};{by_cases N:k=w.heap.size;{subst N;have m:(if w.heap.size=w.heap.size then some _ else V.get w.heap.size)=some y:=R;rw[ZW J]at m;exact⟨by rw[Lib.bytesWorld_at_new];exact m,.inr (ZS _)⟩};have m:(if k=w.heap.size then some _ else V.get k)=some y:=R;rw[ZX N]at m;have h0:=hm.get k y m;have M:=(Array.getElem?_eq_some_iff.1 h0).1;exact⟨by rw[Lib.bytesWorld_at_old w d l k M];exact h0,.inl m⟩};show(if _ then _ else _)=_;rw[ZW J]);refine⟨.slice (some ⟨w.heap.size,0,none⟩) l.size (grownCap w l.size 0 d),Lib.bytesWorld w d l,B,?_,NY w d l,Y,w.heap.size,grownCap w l.size 0 d,_,_,_,J,grownCap_ge w l.size 0 d,X,?_,?_,?_,?_⟩;{unfold execOp;simp only[t,a8,ZR,hr,ZU,ZO]};{simp[Lib.bytesCells]};{rw[y7];simp only[Lib.bytesCells,Q',Y_];rw[Y1 sm];rw[ZG sm]};{simp[Lib.bytesCells]};cases hq:V.get w.heap.size with
    |none=>rfl
    |some y=>have:=(Array.getElem?_eq_some_iff.1 (hm.get _ _ hq)).1;omega
   simp_all
  simp_all
 |_=>simp[t,z6]at L
theorem Wn(l:dl P tt){p:Z8 (Nat×Bool)}{s:Z5}{e:Nat}(B:z6 tt F p o.op=some (s,e)):
  StepTo P o p n F C O nl V (σ:=Z7×Vw) (λx=>V.le x.2/\SlOf x.2 fV 1 x.1 s.data.toList) (λx=>.a (.v x.1)) (λ_=>O) nl (λx=>x.2):=
 ⟨λE a w u d t K Q L=>(PX l B).out E a w u d t K Q λx y z m=>L x y z ⟨m.1,m.2.sl⟩⟩
def uA(tt:Z8 (Nat×TI))(F:cy)(p:Z8 (Nat×Bool)):Op->Z4 (Nat×Nat×Nat×Z8 Z7×Int×Int)
 |.makeSlice t len cap=>match cV F p len,cV F p cap,lk tt t with
  |some (.a (.v (.int _ l))),some (.a (.v (.int _ c))),some ⟨_,_,_,_,.slice e⟩=>match lk tt e with
   |some ti=>bif Nat.beq ti.zero.length ti.size then some (e,ti.size,ti.bytes,ti.zero,l,c)else none
   |none=>none
  |_,_,_=>none
 |_=>none
theorem I6(z:Z8 Z7)(k:Nat):(madeCells z.toArray (k*z.length)).toList=eU k z:=by
 have:=Bh z.toArray k;simp at this;unfold madeCells
 simp_all
theorem FY(z:Z8 Z7):∀(c n:Nat),n<=c->(eU c z).take (n*z.length)=eU n z
 |c,0,_=>by simp[eU]
 |0,n+1,h=>by omega
 |c+1,n+1,h=>by
  rw[eU,eU,Y4,Yk,YI,T_,ZG om,I',FY z c n om]
theorem wi(N:dl P tt){p:Z8 (Nat×Bool)}{e sz by_:Nat}{z:Z8 Z7}{li ci:Int}(len cap:Nat)(u:uA tt F p o.op=some (e,sz,by_,z,li,ci)) (hl:li=len) (hc:ci=cap) (R:len<=cap) (hb:by_*cap<=281474976710656) (a6:cap<=maxLen): StepTo P o p n F C O nl V (σ:=Unit) (λ_=>True) (λ_=>.a (.row nl)) (λ_=>(nl,.row e sz len (eU len z))::O) (nl+1) (λ_=>V):=by
 constructor;intro E a w hf L hm K Q hK;unfold Oper.wp execOp;cases B:o.op with
 |makeSlice t xl xc=>
  simp only[B,uA]at u;split at u
  .rename_i kl l' kc c' al ay z2 ak T h1 h2 h3;split at u
   .rename_i m a5;cases d:Nat.beq m.zero.length m.size with
    |false=>simp[d]at u
    |true=>simp only[d,Za,Z0,ZN]at u;obtain⟨rfl,rfl,rfl,rfl,rfl,rfl⟩:=u;obtain⟨e1,_⟩:=cZ hf L h1;obtain⟨e2,_⟩:=cZ hf L h2;obtain⟨dd,X,M,_⟩:=(N _ _ h3).und;(have e3:dd=.slice T:=by cases dd<;>simp[eM]at M;rw[M]);subst e3;obtain⟨fi,aa,a0,Y,zv,hz,a7⟩:=(N _ _ a5).info;subst hl hc;simp only[maxLen]at a6;(have Z:(fi.bytes:Int)*(cap:Int)<=281474976710656:=by rw[Y,<-Int.natCast_mul];omega);have hr:=run_make (P:=P) w t T fi zv X aa hz kl kc (len:Int) (cap:Int) om om Z om;simp only[ZH]at hr;have ab:a.eval xl=.int kl len:=e1;have W:a.eval xc=.int kc cap:=e2;simp only[ab,W,ZR,hr,ZU,ZO];rw[YU]at d;(have a8:zv.cells=m.zero.toArray:=by apply YN;simpa using a7);(have l:madeCells zv.cells (cap*fi.size)=(eU cap m.zero).toArray:=by apply YN;rw[a8,a0,<-d,I6]);rw[l];(have y:(w.alloc (.cells (eU cap m.zero).toArray T (0,0))).ownsRow w.heap.size T m.size (.slice (some ⟨w.heap.size,0,none⟩) len cap) len (eU len m.zero):=by refine⟨by rw[sL,d],.inr ⟨w.heap.size,cap,_,J,ZS _,heap_alloc_new w _,R,by simp only[maxLen];omega,by simp[sL,d],?_⟩⟩;show(eU cap m.zero).take (len*m.size)=_;rw[<-d];exact FY _ _ _ R);have:=hK () _ _ ZY (Env.agree_setκ E _) (hm.newRow (mh w _) y) (by simp[SV.ok,A.ok,eD]);show K (a.put o.dst _) _;simpa[SV.den,A.den,Env.setκ]using this
   simp at u
  simp at u
 |_=>simp[B,uA]at u
theorem Mem.setRowO{E:Env}{w:Z6}(u:Mem E O nl V w){l e sz m g:Nat}{xs z:Z8 Z7}{cur y:Array Z7}(Y:lk O l=some (.row e sz m xs))(hb:(E.κ l).ownBlock=some g) (hc:w.heap[g]? =some (.cells cur e (0,0))) (hr:(w.setRow g y).ownsRow 0 e sz (E.κ l) m z):Mem E ((l,.row e sz m z)::O) nl V (w.setRow g y):=by
 have R:∀k,k≠g->(w.setRow g y).heap[k]? =w.heap[k]? :=λk B=>setRow_other w _ k _ B
 have p:∀{d c},lk ((l,Cel.row e sz m z)::O) d=some c->d≠l->lk O d=some c:=by
  intro d c h M
  rwa [gB _ _ (λx=>M x.symm)]at h
 (have t:∀{c},lk ((l,Cel.row e sz m z)::O) l=some c->c=.row e sz m z:=by intro c h;rw[dF]at h;exact(N_ h).symm);(have L:∀{d c k},lk ((l,Cel.row e sz m z)::O) d=some c->blk E d c=some k-> ∃X,lk O d=some X/\blk E d X=some k:=by intro d c k h B;by_cases o:d=l;{subst o;cases t h;exact⟨_,Y,B⟩};exact⟨c,p h o,B⟩);(have M:∀{d c k},lk O d=some c->blk E d c=some k->d≠l->k≠g:=by intro d c k h B o he;exact o<|u.sep d l c _ k h Y B (by simp[blk,hb,he]));refine⟨?_,?_,?_,?_,?_,u.os,u.tape,u.output,?_,?_,?_,?_,?_⟩;{intro d ad e' h;by_cases o:d=l;{subst o;cases t h};have N:=p h o;rw[R _ (M N J o)];exact u.lit _ _ _ N};{intro d e' al m' ab h;by_cases o:d=l;{subst o;cases t h;exact hr};have N:=p h o;exact nt (u.row _ _ _ _ _ N) λk B=>R k (M N B o)};{intro l1 l2 c1 c2 k h1 h2 a0 Z;obtain⟨a5,a9,T⟩:=L h1 a0;obtain⟨a7,a8,W⟩:=L h2 Z;exact u.sep l1 l2 a5 a7 k a9 a8 T W};{intro k ob B;rw[R k ?_];{exact u.get k ob B};intro he;have:=u.off l _ k Y (by simp[blk,hb,he]);rw[B]at this;cases this};{intro d c k h B;obtain⟨X,N,a6⟩:=L h B;exact u.off d X k N a6};{intro d c h;by_cases o:d=l;{subst o;exact u.lab _ _ Y};exact u.lab _ _ (p h o)};{intro d cs e' h;by_cases o:d=l;{subst o;cases t h};exact u.labs _ _ _ (p h o)};{intro d m' b' h;by_cases o:d=l;{subst o;cases t h};exact u.pin _ _ _ (p h o)};{intro d k h;(have:(w.setRow g y).heap.size=w.heap.size:=by simp[World.setRow]);rw[this];by_cases o:d=l;{subst o;cases t h};exact u.big _ _ (p h o)};intro d m' b' v' h;by_cases o:d=l;{subst o;cases t h};exact u.kp _ _ _ _ (p h o)
def ei(off:Nat)(news xs:Z8 Z7):Z8 Z7:=xs.take off++news++xs.drop (off+news.length)
theorem JA{off:Nat}{news xs:Z8 Z7}(h:off+news.length<=xs.length):(ei off news xs).length=xs.length:=by simp only[ei,ZQ,ZL,Zk];omega
theorem CJ{w:Z6}{e sz m g cap:Nat}{v:Z7}{xs news:Z8 Z7}{cur:Array Z7}{off:Nat}(O:xs.length=m*sz)(y:v=.slice (some ⟨g,0,none⟩) m cap)(N:w.heap[g]? =some (.cells cur e (0,0))) (d:m<=cap) (p:cap<=maxLen) (t:cur.size=cap*sz) (o:cur.toList.take (m*sz)=xs) (u:off+news.length<=m*sz): (w.setRow g (cur.toList.take off++news++cur.toList.drop (off+news.length)).toArray).ownsRow 0 e sz v m (ei off news xs):=by have B:m*sz<=cap*sz:=Zn _ d;refine⟨by rw[JA om,O],.inr ⟨g,cap,_,y,Zz _,setRow_heap w _ _ _ _ _ N,d,p,?_,?_⟩⟩;{simp only[Yb,ZQ,ZL,Zk,Y2];omega};rw[<-o,ei,T_,T_,Yh,Yh,m_,ZQ,ZL];(have L:cur.toList.length=cap*sz:=by simpa using t);(have E:min off cur.toList.length=off:=by omega);(have z:min (m*sz) off=off:=by omega);(have M:min off (m*sz)=off:=by omega);rw[E,z,M,ZG (l:=news) om]
theorem Mem.dup{E:Env}{w:Z6}(d:Mem E O nl V w){l:Nat}{c:Cel}(z:lk O l=some c):Mem E ((l,c)::O) nl V w:=by
 have o:∀t,lk ((l,c)::O) t=lk O t:=by
  intro t;rw[fm]
  grind
 refine⟨?_,?_,?_,d.get,?_,d.os,d.tape,d.output,?_,?_,?_,?_,?_⟩;{intro p cs e h;rw[o]at h;exact d.lit _ _ _ h};{intro p e sz m xs h;rw[o]at h;exact d.row _ _ _ _ _ h};{intro p B c1 c2 k u y;rw[o]at u y;exact d.sep _ _ _ _ _ u y};{intro p c1 k u;rw[o]at u;exact d.off _ _ _ u};{intro p c1 h;rw[o]at h;exact d.lab _ _ h};{intro p cs e h;rw[o]at h;exact d.labs _ _ _ h};{intro p m b h;rw[o]at h;exact d.pin _ _ _ h};{intro p k h;rw[o]at h;exact d.big _ _ h};intro p m b v h;rw[o]at h;exact d.kp _ _ _ _ h
def BO(tt:Z8 (Nat×TI))(F:cy)(O:Own)(p:Z8 (Nat×Bool)):Op->Z4 (Nat×Nat×Z8 Z7×Nat×Nat×Nat×Z8 Z7)
 |.store t y x=>match cV F p y,cV F p x,lk tt t with
  |some (.a (.rel l k)),some s,some ti=>match lk O l,mv O s with
   |some (.row e sz m olds),some vs=>match mj vs with
    |some us=>bif Nat.beq us.length ti.size then some (l,k,us,e,sz,m,olds)else none
    |none=>none
   |_,_=>none
  |_,_,_=>none
 |_=>none
theorem fH(ag:dl P tt){p:Z8 (Nat×Bool)}{l k e sz m:Nat}{news olds:Z8 Z7}(d:BO tt F O p o.op=some (l,k,news,e,sz,m,olds))(hd:o.dst=none) (h1:∀u∈news,u.oneCell'=true) (hk:k+news.length<=m*sz) (am:0<m): StepTo P o p n F C O nl V (σ:=Unit) (λ_=>True) (λ_=>.a (.v undef)) (λ_=>(l,.row e sz m (ei k news olds))::O) nl (λ_=>V):=by
 constructor;intro E a w hf a5 hm K Q hK;unfold Oper.wp execOp;cases T:o.op with
 |store t y x=>
  simp only[T,BO]at d;split at d
  .rename_i l' k' s ti hy hx ae;obtain⟨e1,_⟩:=cZ hf a5 hy;obtain⟨e2,a9⟩:=cZ hf a5 hx;split at d
   .rename_i e' Y m' aj vs Z ai;split at d
    .rename_i us ac;cases z:Nat.beq us.length ti.size with
     |false=>simp[z]at d
     |true=>simp only[z,Za,Z0,ZN]at d;obtain⟨rfl,rfl,rfl,rfl,rfl,rfl,rfl⟩:=d;rw[YU]at z;obtain⟨h3,h4⟩:=uL hm ai a9;have h5:=Ac (E:=E) ac;have B:=hm.row _ _ _ _ _ Z;(rcases B.2 with⟨ao,aA⟩|⟨g,ab,ad,M,_,L,W,a8,af,X⟩);{omega};have an:m'*Y<=ab*Y:=Zn _ W;have aa:=run_storeCells_at P g k' e' us 0 ad w L om h1;(have ak:a.eval y=.pointer (some ⟨g,k',none⟩):=by rw[e1];show oU (E.κ l') k'=_;rw[M];simp[oU,Addr.add];intro h0;exact h0.symm);(have a0:(s.den E).cells.toList=us:=by rw[h3];simpa using h5);(have R:(s.den E).cells.size=ti.size:=by rw[<-Y2,a0,z]);simp only[ak,e2,Instr.storeAt,Instr.sureAddr,storeVar,ZR,ZO,ZU,(ag _ _ ae).sizeOf,R,ne_eq,W_,Zt,a0,aa];have N:=CJ (e:=e') (off:=k') (news:=us) B.1 M L W a8 af X hk;(have hb:(E.κ l').ownBlock=some g:=by rw[M];rfl);have:=hK () E _ ZY (λ_ _=>⟨J,J⟩) (hm.setRowO Z hb L N) J;exact this
    simp at d
   simp at d
  simp_all
 |_=>simp[T,BO]at d
end
section
variable{P:Z3}{tt:Z8 (Nat×TI)}{o:Oper}{n:Nat}{F:cy}{C:Z8 Nat}{O:Own}{nl:Nat}{V:Vw}
theorem Mem.newBlk{E:Env}{w w':Z6}(L:Mem E O nl V w)(M:cH w w'){b:Nat}(ac:w.heap.size<=b){cs:Z8 A}{e:Nat}(X:dH nl cs=true) (hv:w'.heap[b]? =some (.cells (cs.map (A.den E)).toArray e (0,0))):Mem (E.setρ nl b) ((nl,.lit cs e)::O) (nl+1) V w':=by
 have B:E.agree nl (E.setρ nl b):=E.agree_setρ _;have N:=L.keep M
 have d:∀{l c},lk ((nl,Cel.lit cs e)::O) l=some c->l≠nl->lk O l=some c:=by
  intro l c p Z
  rwa [gB _ _ (λx=>Z x.symm)]at p
 (have t:∀{c},lk ((nl,Cel.lit cs e)::O) nl=some c->c=.lit cs e:=by intro c p;rw[dF]at p;exact(N_ p).symm);have z:(E.setρ nl b).ρ nl=b:=by simp[Env.setρ]
 have y:∀{l c k},lk O l=some c->blk (E.setρ nl b) l c=some k->blk E l c=some k:=by
  intro l c k p M
  rwa [jL B (L.lab _ _ p)]at M
 refine⟨?_,?_,?_,N.get,?_,N.os,N.tape,N.output,?_,?_,?_,?_,?_⟩;{intro l W e' p;by_cases h:l=nl;{subst h;cases t p;rw[z,A.map_agree B X];exact hv};have u:=d p h;have:=N.lit l W e' u;rw[(B l (L.lab _ _ u)).1,A.map_agree B (L.labs _ _ _ u)];exact this};{intro l e' sz m xs p;by_cases h:l=nl;{subst h;cases t p};have u:=d p h;exact N.row _ _ _ _ _ u}
 .intro l l' c c' k p u M T;by_cases h:l=nl;{by_cases R:l'=nl;{rw[h,R]};exfalso;subst h;cases t p;have Y:=L.lt (d u R) (y (d u R) T);simp only[blk,z,Z0]at M;omega};by_cases R:l'=nl;{exfalso;subst R;cases t u;have Y:=L.lt (d p h) (y (d p h) M);simp only[blk,z,Z0]at T;omega};exact L.sep l l' c c' k (d p h) (d u R) (y (d p h) M) (y (d u R) T)
 .intro l c k p M;by_cases h:l=nl
  .subst h;cases t p;simp only[blk,z,Z0]at M;subst M;cases hv:V.get b with
   |none=>rfl
   |some o=>have:=(Array.getElem?_eq_some_iff.1 (L.get _ _ hv)).1;omega
  exact L.off l c k (d p h) (y (d p h) M)
 {intro l c p;by_cases h:l=nl;{omega};have:=L.lab _ _ (d p h);omega};{intro l W e' p;by_cases h:l=nl;{subst h;cases t p;exact jn om X};exact jn om (L.labs _ _ _ (d p h))};{intro l m b p;by_cases h:l=nl;{subst h;cases t p};obtain⟨h1,h2⟩:=L.pin _ _ _ (d p h);exact⟨(B m h2).1.trans h1,om⟩};{intro l k p;by_cases h:l=nl;{subst h;cases t p};exact N.big _ _ (d p h)};intro l m b v p;by_cases h:l=nl;{subst h;cases t p};obtain⟨h1,h2,h3⟩:=L.kp _ _ _ _ (d p h);exact⟨(B m h3).1.trans h1,(B m h3).2.trans h2,om⟩
theorem VB{p:Z8 (Nat×Bool)}{f:Nat}{z:Z8 SV}{σ:Type}(Φ:σ->Prop)(m:σ->Z8 Z7)(e:Nat)(W:fL F p o.op=some (f,z))(u:eJ P f) (d:∀E w,Mem E O nl V w->Calls P f (z.map (SV.den E)).toArray w λex w'=>∃x b,ex=.returned (.pointer (some ⟨b,0,none⟩))/\w.heap.size<=b/\w'.heap[b]? =some (.cells (m x).toArray e (0,0))/\cH w w'/\Φ x): StepTo P o p n F C O nl V Φ (λ_=>.a (.ptr nl 0)) (λx=>(nl,.lit ((m x).map .v) e)::O) (nl+1) (λ_=>V):=by constructor;intro E a w N y B K Q M;obtain⟨T,_⟩:=kG N y W u w;unfold Oper.wp;rw[T,Oper.upon_enter];refine(d E w B).mono ?_;rintro ex w' ⟨x,b,rfl,t,l,L,R⟩;have hd:=iC E (m x);have:=M x (E.setρ nl b) w' R (E.agree_setρ b) (B.newBlk L t (hd.2 nl) (by rw[hd.1];exact l)) (by simp[SV.ok,A.ok,eD]);simpa[SV.den,A.den,Env.setρ]using this
theorem BW{p:Z8 (Nat×Bool)}{f:Nat}{B:Z8 SV}{σ:Type}(Φ:σ->Prop)(s:σ->SV)(l e:Nat){cs:Z8 A}(cs':σ->Z8 A)(X:fL F p o.op=some (f,B))(y:eJ P f) (L:lk O l=some (.lit cs e)) (t:∀x,dH nl (cs' x)=true) (hs:∀x,(s x).ok nl=true) (d:∀E w,Mem E O nl V w->w.heap[E.ρ l]? =some (.cells (cs.map (A.den E)).toArray e (0,0))->Calls P f (B.map (SV.den E)).toArray w λex w'=>∃x,ex=.returned ((s x).den E)/\Touch (· =E.ρ l) w w'/\ w'.heap[E.ρ l]? =some (.cells ((cs' x).map (A.den E)).toArray e (0,0))/\Φ x): StepTo P o p n F C O nl V Φ s (λx=>(l,.lit (cs' x) e)::O) nl (λ_=>V):=by constructor;intro E a w R z u K Q N;obtain⟨W,_⟩:=kG R z X y w;unfold Oper.wp;rw[W,Oper.upon_enter];refine(d E w u (u.lit _ _ _ L)).mono ?_;rintro ex w' ⟨x,rfl,M,m,T⟩;exact N x E w' T (λ_ _=>⟨J,J⟩) (u.regive L (t x) M m)<|hs x
theorem Mem.leDel{E:Env}{w:Z6}(d:Mem E O nl V w){l e:Nat}{cs:Z8 A}(o:lk O l=some (.lit cs e)):V.le ((vw w).del (E.ρ l)):=by
 refine⟨λk p m=>?_,d.os,d.tape,d.output⟩;show(if _ then _ else _)=_;by_cases h:k=E.ρ l
 .have:=d.off l _ (E.ρ l) o J
  simp_all
 rw[ZX h];exact d.get k p m
def Dg(tt:Z8 (Nat×TI))(F:cy)(p:Z8 (Nat×Bool)):Op->Z4 (Nat×Nat×Int×Nat×Nat)
 |.indexAddr t x i=>match cV F p x,cV F p i,lk tt t with
  |some (.a (.ptr l off)),some (.a (.v (.int _ k))),some ⟨_,_,_,_,.arr m e⟩=>match lk tt e with
   |some ti=>some (l,off,k,m,ti.size)
   |none=>none
  |_,_,_=>none
 |_=>none
theorem oP(B:dl P tt){p:Z8 (Nat×Bool)}{g:Bool}{l off m sz:Nat}{i:Int}(k:Nat)(d:Dg tt F p o.op=some (l,off,i,m,sz))(L:off+i.toNat*sz=k)(hi:g=true->0<=i/\i<m): dY P o n F C O nl V p g (.a (.ptr l k)):=by
 intro W E a w hf y hm;unfold Yv execOp;cases u:o.op with
 |indexAddr t x ix=>
  simp only[u,Dg]at d;split at d;{rename_i l' a5 kk k aa by_ z fl m' e hx M Y;split at d;{rename_i ti X;simp only[Z0,ZN]at d;obtain⟨rfl,rfl,rfl,rfl,rfl⟩:=d;obtain⟨h1,Z⟩:=cZ hf y hx;obtain⟨h2,_⟩:=cZ hf y M;obtain⟨dd,R,L,_⟩:=(B _ _ Y).und;(have T:dd=.array m' e:=by cases dd<;>simp[eM]at L;rw[L.1,L.2]);subst T;obtain⟨a0,N⟩:=hi W;refine⟨?_,Z⟩;simp[h1,h2,SV.den,A.den,Instr.indexAt,asIntOf,run_underlying R,a0,N,(B _ _ X).sizeOf,Instr.sureAddr,Addr.add_lit]};simp at d}
  simp_all
 |_=>simp[u,Dg]at d
def Bz(tt:Z8 (Nat×TI))(F:cy)(p:Z8 (Nat×Bool)):Op->Z4 (Nat×Nat)
 |.load t x=>match cV F p x,lk tt t with
  |some (.a (.ptr l off)),some ti=>bif Nat.beq ti.size 1&& !ti.agg then some (l,off)else none
  |_,_=>none
 |_=>none
theorem qg(W:dl P tt){p:Z8 (Nat×Bool)}{g:Bool}{l off e:Nat}{cs:Z8 A}{x:A}(u:Bz tt F p o.op=some (l,off))(X:lk O l=some (.lit cs e))(hx:g=true->cs[off]? =some x): dY P o n F C O nl V p g (.a x):=by
 intro N E a w hf M Y;unfold Yv execOp;cases z:o.op with
 |load t y=>
  simp only[z,Bz]at u;split at u
  .rename_i l' d Z hy R;cases B:(Nat.beq Z.size 1&& !Z.agg)with
   |false=>simp[B]at u
   |true=>simp only[B,Za,Z0,ZN]at u;obtain⟨rfl,rfl⟩:=u;simp only[Z1,YU,ZJ]at B;obtain⟨h1,_⟩:=cZ hf M hy;have hb:=Y.lit _ _ _ X;have m:=hx N;have L:d<cs.length:=(List.getElem?_eq_some_iff.1 m).1;refine⟨?_,gi.1 (Y.labs _ _ _ X) x (ZZ m)⟩;have hr:=ut (P:=P) (t:=t) (W _ _ R) (off:=d) hb (by simp;omega) (x.den E) (by rw[B.2];simp[m]) (λ_=>by simpa using L);have T:a.eval y=.pointer (some ⟨E.ρ l',d,none⟩):=h1;simp only[T,ZR,hr,ZU,ZO,SV.den]
  simp_all
 |_=>simp[z,Bz]at u
def CH(tt:Z8 (Nat×TI))(F:cy)(p:Z8 (Nat×Bool)):Op->Z4 (Nat×Nat×Z7)
 |.store t y x=>match cV F p y,cV F p x,lk tt t with
  |some (.a (.ptr l off)),some (.a (.v v)),some ti=>bif Nat.beq ti.size 1&& !ti.agg then some (l,off,v)else none
  |_,_,_=>none
 |_=>none
theorem Jk(Z:dl P tt){p:Z8 (Nat×Bool)}{l off e:Nat}{cs:Z8 A}{v:Z7}(u:CH tt F p o.op=some (l,off,v))(X:lk O l=some (.lit cs e))(h1:v.oneCell'=true)(T:off<cs.length): StepTo P o p n F C O nl V (σ:=Unit) (λ_=>True) (λ_=>.a (.v undef)) (λ_=>(l,.lit (cs.set off (.v v)) e)::O) nl (λ_=>V):=by
 constructor;intro E a w hf B hm K Q hK;unfold Oper.wp execOp;cases z:o.op with
 |store t y x=>
  simp only[z,CH]at u;split at u
  .rename_i l' d m ti W hx Y;cases N:(Nat.beq ti.size 1&& !ti.agg)with
   |false=>simp[N]at u
   |true=>simp only[N,Za,Z0,ZN]at u;obtain⟨rfl,rfl,rfl⟩:=u;simp only[Z1,YU,ZJ]at N;obtain⟨e1,_⟩:=cZ hf B W;obtain⟨e2,_⟩:=cZ hf B hx;have L:=run_storeCells_at P (E.ρ l') d e [m] 0 (cs.map (A.den E)).toArray w (hm.lit _ _ _ X) (by simp;omega) (by simpa using h1);have a7:a.eval y=.pointer (some ⟨E.ρ l',d,none⟩):=e1;have R:a.eval x=m:=e2;(have a6:m.cells= #[m]:=by cases m<;>first|rfl|simp[Value.oneCell']at h1);(have M:((cs.map (A.den E)).toArray.toList.take (d+0)++[m]++(cs.map (A.den E)).toArray.toList.drop (d+0+[m].length)).toArray=((cs.set d (.v m)).map (A.den E)).toArray:=by rw[H'];simp[T,z_,y_,A.den]);rw[M]at L;simp only[a7,R,Instr.storeAt,Instr.sureAddr,storeVar,ZR,ZO,ZU,(Z _ _ Y).sizeOf,a6,Yb,ZP,N.1,ne_eq,W_,Zt,L];(have a0:dH nl (cs.set d (.v m))=true:=by apply gi.2;intro y W;(rcases ZA W with h|h);{exact gi.1 (hm.labs _ _ _ X) y h};rw[h];rfl);have:=hK () E _ ZY (λ_ _=>⟨J,J⟩) (hm.set X a0) J;exact this
  simp_all
 |_=>simp[z,CH]at u
theorem ML{Q:Exit->Act->Z6->Prop}{id:Nat}{l:Z8 Oper}{m:Own}(sp:Z8 Nat)(d:P.follows .mixedOrders=true)
  (p:jH O [] []=some m) (hO:dm O m) (o:eA nl m=true)
  (h:TJ P l.toArray Q sp m l.length (List.replicate l.length false) n F C O nl V):KJ ((Code.region id l.toArray true).wp P Q) n F C O nl V:=
 gE sp m d hO o h
end
section
variable{P:Z3}{tt:Z8 (Nat×TI)}{o:Oper}{n:Nat}{F:cy}{C:Z8 Nat}{O:Own}{nl:Nat}{V:Vw}
theorem Mem.regiveRow{E:Env}{w d:Z6}(y:Mem E O nl V w){l e0:Nat}{cs cs':Z8 A}(M:lk O l=some (.lit cs e0))(u:Touch (· =E.ρ l) w d) {e sz m:Nat} {xs:Z8 Z7} {v:Z7} (o:d.ownsRow w.heap.size e sz v m xs) (B:dH (nl+1) cs'=true) (N:d.heap[E.ρ l]? =some (.cells (cs'.map (A.den (E.setκ nl v))).toArray e0 (0,0))):Mem (E.setκ nl v) ((l,.lit cs' e0)::(nl,.row e sz m xs)::O) (nl+1) V d:=by
 have R:=y.lit _ _ _ M;have T:=(Array.getElem?_eq_some_iff.1 R).1;have W:Below w.heap.size w (d.setRow (E.ρ l) (cs.map (A.den E)).toArray):=by refine⟨u.os,u.tape,u.output,by simpa using u.size,λk z=>?_⟩;by_cases t:k=E.ρ l;{subst t;rw[setRow_heap d _ _ _ _ _ N,R]};rw[setRow_other d _ _ _ t];exact u.block k z t
 have p:(d.setRow (E.ρ l) (cs.map (A.den E)).toArray).ownsRow w.heap.size e sz v m xs:=
  nt o λk z=>setRow_other d _ _ _ (λh=>by have:=(o.lt k z).1;omega)
 (have L:lk ((nl,Cel.row e sz m xs)::O) l=some (.lit cs e0):=by rw[gB _ _ (λh=>by have:=y.lab _ _ M;omega)];exact M);have:=(y.newRow W p).set (cs':=cs') L B
 rwa [show(E.setκ nl v).ρ l=E.ρ l from J,setRow_setRow,Co N]at this
theorem UY{p:Z8 (Nat×Bool)}{f:Nat}{M:Z8 SV}{σ:Type}(Φ:σ->Prop)(s:σ->SV)(l e0 e sz:Nat)(m:σ->Nat)(xs:σ->Z8 Z7){cs:Z8 A}(cs':σ->Z8 A)(Z:fL F p o.op=some (f,M))(B:eJ P f) (N:lk O l=some (.lit cs e0)) (y:∀x,dH (nl+1) (cs' x)=true) (hs:∀x,(s x).ok (nl+1)=true) (d:∀E w,Mem E O nl V w->w.heap[E.ρ l]? =some (.cells (cs.map (A.den E)).toArray e0 (0,0))->Calls P f (M.map (SV.den E)).toArray w λex w'=>∃x v,ex=.returned ((s x).den (E.setκ nl v))/\Touch (· =E.ρ l) w w'/\ w'.ownsRow w.heap.size e sz v (m x) (xs x)/\w'.heap[E.ρ l]? =some (.cells ((cs' x).map (A.den (E.setκ nl v))).toArray e0 (0,0))/\Φ x): StepTo P o p n F C O nl V Φ s (λx=>(l,.lit (cs' x) e0)::(nl,.row e sz (m x) (xs x))::O) (nl+1) (λ_=>V):=by constructor;intro E a w W L z K Q T;obtain⟨Y,_⟩:=kG W L Z B w;unfold Oper.wp;rw[Y,Oper.upon_enter];refine(d E w z (z.lit _ _ _ N)).mono ?_;rintro ex w' ⟨x,v,rfl,R,t,u,X⟩;exact T x _ w' X (Env.agree_setκ E v) (z.regiveRow N R t (y x) u)<|hs x
theorem dO(d:dl P tt){p:Z8 (Nat×Bool)}{g:Bool}{v:Z7}{i:Int}{sz m:Nat}{xs:Z8 Z7}(k:Nat) (l:ww tt F p o.op=some (v,i,sz)) (t:i.toNat*sz=k) (hs:g=true->eL V v sz m xs) (hi:g=true->0<=i/\i<m):dY P o n F C O nl V p g (.a (.el v k)):=by subst t;exact gZ d l hs hi
theorem iP{p:Z8 (Nat×Bool)}{f:Nat}{t:Z8 SV}(e sz m:Nat)(xs:Z8 Z7)(y:fL F p o.op=some (f,t))(l:eJ P f)
  (d:∀E w,Mem E O nl V w->Calls P f (t.map (SV.den E)).toArray w λex w'=>∃v,ex=.returned v/\w'.ownsRow w.heap.size e sz v m xs/\cH w w'):
  StepTo P o p n F C O nl V (σ:=Unit) (λ_=>True) (λ_=>.a (.row nl)) (λ_=>(nl,.row e sz m xs)::O) (nl+1) (λ_=>V):=
 vd (λ_=>True) (λ_=>.a (.row nl)) e sz (λ_=>m) (λ_=>xs) y l (λ_=>by simp[SV.ok,A.ok,eD]) λE w u=>(d E w u).mono λex w' ⟨v,he,h1,h2⟩=>
  ⟨(),v,by rw[he];simp[SV.den,A.den,Env.setκ],h1,h2,ZY⟩
theorem Mem.rowOfDel{α:Type}{enc:α->Z8 Z7}{E:Env}{w:Z6}(d:Mem E O nl V w){l e e0 sz:Nat}{cs:Z8 A}{L:Z8 α}(r:Nat)(t:lk O l=some (.lit cs e0))(m:lk O r=some (.row e sz L.length (L.flatMap enc))) (p:∀x,(enc x).length=sz):SlOf ((vw w).del (E.ρ l)) enc sz (E.κ r) L:=by
 refine⟨pg (d.row _ _ _ _ _ m) (λk o=>?_),p⟩;show(if _ then _ else _)=_;rw[ZX];{rfl};intro h;have:=d.sep r l _ _ k m t (by simpa[blk]using o) (by simp[blk,h])
 simp_all
theorem Mem.rowFreshD{E:Env}{w L:Z6}{b:Nat}(t:Mem E O nl V L)(B:((vw w).del b).le V){l0 e0:Nat}{cs:Z8 A}(T:lk O l0=some (.lit cs e0))(W:E.ρ l0=b){l e sz m:Nat}{xs:Z8 Z7}(y:lk O l=some (.row e sz m xs)): L.ownsRow w.heap.size e sz (E.κ l) m xs:=by
 have M:=t.row _ _ _ _ _ y;refine⟨M.1,?_⟩;(rcases M.2 with h|⟨g,z,p,N,_,R⟩);{exact .inl h};refine .inr ⟨g,z,p,N,?_,R⟩;(have o:blk E l (.row e sz m xs)=some g:=by simp[blk,N,Value.ownBlock]);have d:=t.off l _ g y o
 have u:g≠b:=λh=>by
  have:=t.sep l l0 _ _ g y T o (by simp[blk,W,h])
  simp_all
 (rcases YM g w.heap.size with hlt|hge);{(have:((vw w).del b).get g=some w.heap[g]:=by show(if _ then _ else _)=_;rw[ZX u];simp[vw,hlt]);rw[B.get _ _ this]at d;cases d};exact hge
def B7(tt:Z8 (Nat×TI))(F:cy)(p:Z8 (Nat×Bool)):Op->Z4 (Z7×Nat×Z7)
 |.store t y x=>match cV F p y,cV F p x,lk tt t with
  |some (.a (.el v k)),some (.a (.v u)),some ti=>bif Nat.beq ti.size 1&& !ti.agg then some (v,k,u)else none
  |_,_,_=>none
 |_=>none
theorem Ju(ac:dl P tt){p:Z8 (Nat×Bool)}{k b off m cap e:Nat}{cs:Array Z7}{fz:Nat×Nat}{u:Z7}(Y:B7 tt F p o.op=some (.slice (some ⟨b,off,none⟩) m cap,k,u)) (hb:V.get b=some (.cells cs e fz)) (hk:off+k<cs.size) (af:fz.2<=off+k\/off+k<fz.1) (h1:u.oneCell'=true): StepTo P o p n F C O nl V (σ:=Unit) (λ_=>True) (λ_=>.a (.v undef)) (λ_=>O) nl (λ_=>V.put b (.cells (cs.setIfInBounds (off+k) u) e fz)):=by
 constructor;intro E a w hf a0 z K Q hK;unfold Oper.wp execOp;cases Z:o.op with
 |store t y x=>
  simp only[Z,B7]at Y;split at Y
  .rename_i v' R M ti hy hx ab;cases hc:(Nat.beq ti.size 1&& !ti.agg)with
   |false=>simp[hc]at Y
   |true=>
    simp only[hc,Za,Z0,ZN]at Y;obtain⟨rfl,rfl,rfl⟩:=Y;simp only[Z1,YU,ZJ]at hc;obtain⟨e1,_⟩:=cZ hf a0 hy;obtain⟨e2,_⟩:=cZ hf a0 hx;have W:=z.get _ _ hb;(have ag:a.eval y=.pointer (some ⟨b,off+R,none⟩):=by rw[e1];show oU (.slice (some ⟨b,off,none⟩) m cap) R=_;simp[oU,Addr.add_lit]);have a7:a.eval x=M:=e2;have ae:M.cells= #[M]:=by cases M<;>first|rfl|simp[Value.oneCell']at h1
    have a9:=run_storeCells_cells (P:=P) b (off+R) [M] 0 w (λj hj=>by
      have:j=0:=by simpa using hj
      subst this
      simp[World.cell?,W,hk]) (λj hj=>by
      have:j=0:=by simpa using hj
      subst this
      obtain⟨f1,f2⟩:=fz
      simp only[World.frozen?,W,q_,Bool.and_eq_false_iff,Zl]
      simp only at af
      omega) (by simpa using h1)
    simp only[ag,a7,Instr.storeAt,Instr.sureAddr,storeVar,ZR,ZO,ZU,(ac _ _ ab).sizeOf,ae,Yb,ZP,hc.1,ne_eq,W_,Zt,a9];(have d:∀q,q≠b->(w.setCell ⟨b,off+R,none⟩ M).heap[q]? =w.heap[q]? :=λq L=>by simp[World.setCell,Array.getElem?_modify,Ne.symm L]);(have a5:(w.setCell ⟨b,off+R,none⟩ M).heap[b]? =some (.cells (cs.setIfInBounds (off+R) M) e fz):=by simp[World.setCell,Array.getElem?_modify,W]);(have T:∀{l c q},lk O l=some c->blk E l c=some q->q≠b:=λ{l c q} B L h=>by have:=z.off l c q B L;rw[h,hb]at this;cases this);(have a8:Mem E O nl (V.put b (.cells (cs.setIfInBounds (off+R) M) e fz)) (w.setCell ⟨b,off+R,none⟩ M):=by refine⟨?_,?_,z.sep,?_,?_,z.os,z.tape,z.output,z.lab,z.labs,z.pin,?_,z.kp⟩;{intro l aq e' B;rw[d _ (T B J)];exact z.lit _ _ _ B};{intro l e' sz m' xs B;exact nt (z.row _ _ _ _ _ B) λq L=>d q (T B (by simpa[blk]using L))};{intro q ob L;by_cases X:q=b;{subst X;have N:(if q=q then some _ else V.get q)=some ob:=L;rw[ZW J]at N;rw[a5];exact N};have N:(if q=b then some _ else V.get q)=some ob:=L;rw[ZX X]at N;rw[d q X];exact z.get q ob N};{intro l c q B L;show(if q=b then some _ else V.get q)=none;rw[ZX (T B L)];exact z.off l c q B L};intro l q B;(have:(w.setCell ⟨b,off+R,none⟩ M).heap.size=w.heap.size:=by simp[World.setCell]);rw[this];exact z.big l q B);have:=hK () E _ ZY (λ_ _=>⟨J,J⟩) a8 J;exact this
  simp at Y
 |_=>simp[Z,B7]at Y
end
section
variable{P:Z3}{md:Region.Mode}{ops:Array Oper}{Q:Exit->Act->Z6->Prop}{sp:Z8 Nat}{M:Z6->Prop}
theorem Gb{i:Nat}{T:Oper}{v:Z7}(ds:Z8 Nat)(hi:ops[i]? =some T)(E:∀(j:Nat) (o:Oper) cs b,ops[j]? =some o->o.op≠ .select cs b) (hQ:∀c a w,Q (.panic c) (a.put T.dst v) w->Q (.panic c) a w) (Y:i∉sp) (a8:∀s∈sp,s∈ds) (ag:∀d∈ds,∀od,ops[d]? =some od-> ∃e∈od.after,Region.binds md e=true/\(e.on=i\/e.on∈ds)):∀(fuel:Nat) (listed:Array Bool) (a:Act) (w:Z6),(∀d∈ds,listed.getD d true=false)-> (∀j oj,ops[j]? =some oj->j≠i->listed.getD j true=false->(∀e∈oj.after,Region.binds md e=true->e.on≠i)->T.apart ops oj=true)-> i∈Region.ready md ops listed->YieldsIf P ops M T v a->fF sp listed=false->M w-> nh P md ops Q sp M fuel (listed.setIfInBounds i true) (a.put T.dst v) w->nh P md ops Q sp M (fuel+1) listed a w:=by
 intro fuel
 induction fuel with
 |zero=>intro listed a w _ _ W hy V X H;refine⟨λh=>(by rw[h]at W;cases W),λj hj=>?_⟩;by_cases l:j=i;{subst l;exact hy.wpOp hi X ⟨λ_=>X,H⟩};have:=ready_mono hj l;rw[H.1]at this;cases this
 |succ fuel ih=>
  intro listed a w y m W hy V X H;refine⟨λh=>(by rw[h]at W;cases W),λj hj=>?_⟩;by_cases l:j=i;{subst l;exact hy.wpOp hi X ⟨λ_=>X,H⟩};have R:=H.2 j (ready_mono hj l);obtain⟨u,oj,t,a7⟩:=mem_ready.1 hj;have al:=(mem_ready.1 W).1;(have a9:∀q,listed.getD q true=false-> ∀e∈oj.after,Region.binds md e=true->e.on≠q:=λq hq e he hb ah=>by have R:=a7 e he hb;rw[ah]at R;(rcases YM q listed.size with h'|h');{simp[h']at hq R;rw[hq]at R;cases R};simp[Array.getElem?_eq_none h']at R);have B:∀e∈oj.after,Region.binds md e=true->e.on≠i:=a9 i al;(have L:j∉ds:=λhm=>by obtain⟨e,he,hb,O|O⟩:=ag j hm oj t;{exact B e he hb O};exact a9 e.on (y _ O) e he hb J);have z:j∉sp:=λhm=>L (a8 j hm);have h2:=wpOp_putIf t (m j oj t l u B) (λcs b=>E i T cs b hi) (λcs b=>E j oj cs b t) hQ hy R
  have p:∀k ok,ops[k]? =some ok->k≠i->(listed.setIfInBounds j true).getD k true=false->
    (∀e∈ok.after,Region.binds md e=true->e.on≠i)->T.apart ops ok=true:=λk ok hk af a5 ae=>by
   refine m k ok hk af ?_ ae
   by_cases Z:j=k
   . subst Z;exact u
   . rw[getD_set_ne true Z]at a5;exact a5
  (have N:∀d∈ds,(listed.setIfInBounds j true).getD d true=false:=λd hd=>by have ai:j≠d:=λh=>L (h▸hd);rw[getD_set_ne true ai];exact y d hd);refine wpOp_mono (λa' w' h3=>?_) h2;(have a6:fF sp (listed.setIfInBounds j true)=false:=by rw[oZ z];exact V);have a0:M w':=h3.2.1 (by rw[oZ z,oZ Y];exact V);refine⟨λ_=>a0,ih (listed.setIfInBounds j true) a' w' N p (ready_mono W (Ne.symm l)) h3.1 a6 a0 ?_⟩;rw[Ya _ _ l];exact h3.2.2
end
def Db(l:Z8 Oper)(acc:Z8 Nat)(j:Nat):Z8 Nat:=match l with
 |[]=>acc
 |o::r=>Db r (bif o.after.any (λe=>Region.binds .any e&&dh e.on acc)&& !(dh j acc)then j::acc else acc) (j+1)
def A3(i:Nat):Z8 Nat->Z8 Nat
 |[]=>[]
 |x::r=>bif Nat.beq x i then A3 i r else x::A3 i r
def FK(ops:Array Oper)(i:Nat):Z8 Nat:=A3 i (Db ops.toList (Db ops.toList [i] 0) 0)
def sD(ops:Array Oper)(sp:Z8 Nat)(listed:Array Bool)(i:Nat):Bool:=
 (Region.ready .any ops listed).contains i&&Region.free .any ops listed i&&Region.noSelect ops&& !(fF sp listed)&& !(dh i sp)&&
  (let ds:=FK ops i
   sp.all (λs=>dh s ds)&&ds.all λd=> !(listed.getD d true)&&match ops[d]? with
   |some od=>od.after.any λe=>Region.binds .any e&&(Nat.beq e.on i||dh e.on ds)
   |none=>true)
section
variable{P:Z3}{ops:Array Oper}{Q:Exit->Act->Z6->Prop}{sp:Z8 Nat}{O0:Own}{nl0:Nat}{V0:Vw}{fuel:Nat}{listed:Z8 Bool}{o:Oper}{n:Nat}{F:cy}{C:Z8 Nat}{O:Own}{nl:Nat}{V:Vw}
theorem Kq{i:Nat}(h:sD ops sp listed.toArray i=true):i∈Region.ready .any ops listed.toArray/\Region.free .any ops listed.toArray i=true/\Region.noSelect ops=true/\fF sp listed.toArray=false/\i∉sp/\ ∃ds:Z8 Nat,(∀s∈sp,s∈ds)/\(∀d∈ds,listed.toArray.getD d true=false)/\ ∀d∈ds,∀od,ops[d]? =some od-> ∃e∈od.after,Region.binds .any e=true/\(e.on=i\/e.on∈ds):=by
 simp only[sD,Z1,ZJ,YV]at h;obtain⟨⟨⟨⟨⟨y,u⟩,z⟩,w⟩,o⟩,t,m⟩:=h;refine⟨by simpa using y,u,z,w,λp=>?_,FK ops i,λs E=>kR.1 (t s E),λd hd=>(m d hd).1,λd hd od l=>?_⟩;{rw[kR.2 p]at o;cases o};have:=(m d hd).2;rw[l]at this;obtain⟨e,L,B⟩:=Array.any_eq_true'.1 this;simp only[Z1,Zv,YU,kR]at B
 grind
theorem FR(i:Nat){p:Z8 (Nat×Bool)}{g:Bool}{B:Z8 Nat}{s:SV}{d:Nat}(hi:ops[i]? =some o) (R:sD ops sp listed.toArray i=true) (hg:gd ops F C o.guard=some (p,g,B)) (hd:o.dst=some d) (X:(Nat.blt d n&& !(dh d B))=true) (hy:dY P o n F B O0 nl V p g s) (hs:s.ok nl=true) (y:TJ P ops Q sp O0 fuel (dz listed i) n ((d,⟨p,g,s⟩)::F) B O nl V):TJ P ops Q sp O0 (fuel+1) listed n F C O nl V:=by
 obtain⟨hr,M,u,W,l,ds,z,m,N⟩:=Kq R;constructor;intro E a w T hf hm t;obtain⟨Z,Y,h3,h4⟩:=gz hf hg;simp at X;refine Gb (v:=if g then s.den E else undef) ds hi (Region.noSelect_spec u) (λc a w h=>h.elim) l z N fuel listed.toArray a w m (Region.free_spec hi M) hr ?_ W t ?_
 .cases g with
  |true=>refine .inl ⟨Z,λw' L=>?_⟩;have:=(hy J E a w' Y h3.symm L).1;simpa[Yv]using this
  |false=>exact .inr ⟨Z,sm⟩
 rw[<-qq,hd];exact y.out E _ w (by simp[Act.put,T]) (Frm.put (p:=p) (g:=g) Y X.1 X.2 h3 h4 (λ_=>hs)) hm t
theorem uq(i:Nat){p:Z8 (Nat×Bool)}{g:Bool}{L:Z8 Nat}{s:SV}{d:Nat}(hi:ops[i]? =some o) (T:sD ops sp listed.toArray i=true) (hg:gd ops F C o.guard=some (p,g,L)) (hd:o.dst=some d) (X:(Nat.blt d n&& !(dh d L))=true) (hn:Nat.ble nl0 nl=true) (hy:dY P o n F L O0 nl V0 p g s) (hs:s.ok nl=true) (z:HJ P ops Q sp O0 nl0 V0 fuel (dz listed i) n ((d,⟨p,g,s⟩)::F) L O nl V):HJ P ops Q sp O0 nl0 V0 (fuel+1) listed n F C O nl V:=by
 obtain⟨hr,N,y,l,t,ds,B,u,R⟩:=Kq T;constructor;intro E0 E a w m W hf hm Z;obtain⟨h1,Y,h3,h4⟩:=gz hf hg;simp at X;refine Gb (v:=if g then s.den E else undef) ds hi (Region.noSelect_spec y) (λc a w h=>h.elim) t B R fuel listed.toArray a w u (Region.free_spec hi N) hr ?_ l (Z l) ?_
 .cases g with
  |true=>refine .inl ⟨h1,λw' M=>?_⟩;have:=(hy J E a w' Y h3.symm (M.fwd m (by simpa using hn))).1;simpa[Yv]using this
  |false=>exact .inr ⟨h1,sm⟩
 rw[<-qq,hd];exact z.out E0 E _ w m (by simp[Act.put,W]) (Frm.put (p:=p) (g:=g) Y X.1 X.2 h3 h4 (λ_=>hs)) hm λ_=>Z l
