import Derived.Test.YtkoiogkdiifgfaaGreatMDecL
import Derived.Test.YtkoiogkdiifgfaaGreatEng36
import Derived.Lib.SliceRun
/- Slots and holds of tables: what is looked for, and copies. -/
set_option linter.unusedVariables false
set_option linter.unusedSimpArgs false
set_option maxRecDepth 100000
namespace Go.Proofs.YtkoiogkdiifgfaaGreat
open Go Go.Eng Go.RowKit
theorem z20(l:List Slot): ∀u∈l.flatMap Slot.cells,u.oneCell'=true:=by
 intro u hu
 obtain⟨x,_,hx⟩:=List.mem_flatMap.1 hu
 simp only[Slot.cells,List.mem_cons,List.not_mem_nil,or_false]at hx
 rcases hx with rfl|rfl<;>rfl
def j73(V:Vw)(fv:Value)(pr:Slot→Bool):Prop:=
 ∀(x:Slot) w',V.le (vw w')→z7r Tryz.prog fv [x.val] w' fun e w''=>e= .returned (.bool (pr x))∧Below w'.heap.size w' w''
theorem zod(V:Vw)(fv sv:Value)(pr:Slot→Bool)(l:List Slot)(w:World)(hV:V.le (vw w))(hs0:SlOf V Slot.cells 2 sv l)(hn:l.length≤lim)(hf:j73 V fv pr):
  Rt 192 #[sv,fv] w (I (z3r pr l)):=by
 unfold lim at hn
 have hs:=hs0.mono hV
 refine Qf [.a (.v sv), .a (.v fv)] Tryz.func192 rfl<|QA<|QC<|QE 1 [0,1] rfl<|Qw<|QA<|QA<|QC<|Yy 1 rfl<|QY rfl (z0l tok rfl (fun hg=>hs.sl))<|QE 1 [0,1,7,8] rfl<|Qw<|QJ<|Ql [0,1,7] [] rfl rfl (σ:=Nat) (fun k=>[(8, .a (.v (I k)))]) (fun k=>[]) (fun k=>k≤l.length∧ ∀j x,j<k→l[j]? =some x→pr x=false) (fun k=>l.length - k) (0) (⟨by omega,by simp⟩) ?_
 rintro k ⟨hk,hall⟩
 refine QA<|QC<|QE 1 [0,1,7,8,9] rfl<|Qw<|QA<|QX rfl (fun h=> ?_) fun h=> ?_
 ·
  refine QI<|Qw<|QA<|QJ<|QA<|QC<|QE 2 [0,1,5,7,8] rfl<|Qw<|QA<|QC<|Yy 3 rfl ?_
  obtain⟨x,h_x⟩:=hs.at (k:=k) (by omega)
  have hlt_x:=z01 h_x
  refine QY rfl (z0c tok rfl (fun hg=>hs.sl) (fun hg=>⟨by omega,by omega⟩))<|QY rfl (z08 tok (k) 0 (x) rfl (fun hg=>hs) (fun hg=>h_x) rfl rfl)<|z7w (.a (.v _)) rfl rfl rfl rfl rfl (fun hg E w1 hm=>by exact hf x w1 (hV.trans hm.leV)) ?_
  refine z07 [0,1,5,7,8,16] rfl<|Qw<|Qn rfl (fun h=> ?_) fun h=> ?_
  ·
   refine QA<|QC<|QE 2 [4] rfl<|Qw<|QO<|QP<|QL<|QL<|QP<|QL<|Qb rfl fun E w' hm=>⟨?_,hm.below lr⟩
   rw[z3r,findIdx?_at h_x h hall];rfl
  ·
   refine QI<|QM<|Qw<|QC<|QE 2 [0,1,7,8] rfl<|Qw ?_
   rw[z06 (n:=(k:Int)+1) (by omega) (by omega)]
   refine Qr (k+1)<|⟨by omega,z3q h_x hall h⟩
 ·
  refine QN<|QK<|QK<|QQ<|Qw<|QA<|QC<|QE 1 [4] rfl<|Qw<|QO<|z0h tok rfl ?_
  have hge:k=l.length:=by omega
  intro E w' hm _
  refine⟨?_,hm.below lr⟩
  rw[z3r,findIdx?_no (hge▸hall)];rfl
theorem zvo(x:Slot)(key:Int)(b:Nat)(V:Vw)(hb:V.get b=some (.cells [I key].toArray 3 (0,0)))(w:World)(hV:V.le (vw w)):
  Rt 218 #[x.val, .pointer (some ⟨b,0,none⟩)] w (.bool (x.key==key)):=by
 refine Qf [.a (.v x.val), .a (.v (.pointer (some ⟨b,0,none⟩)))] Tryz.func218 rfl<|QA<|QC<|QE 2 [1,2] rfl<|Qw<|QA<|QC<|Yy 2 rfl<|QY rfl (z2p (cs:=[I key]) tok rfl (fun hg=>hV.get _ _ hb) rfl)<|QE 2 [3] rfl<|Qw<|QO<|Qb rfl fun E w' hm=>⟨?_,hm.below lr⟩
 rfl
def z5p(S:List Slot)(key:Int):Int:=if key<1 then -1 else z3r (fun x=>x.key==key) S
theorem zd6{α:Type}(pr:α→Bool)(l:List α):(z3r pr l= -1∧ ∀(j:Nat) (x:α),l[j]? =some x→pr x=false)∨ ∃(k:Nat) (x:α),z3r pr l=k∧l[k]? =some x∧pr x=true∧ ∀(j:Nat) (y:α),j<k→l[j]? =some y→pr y=false:=by
 rw[z3r]
 cases hq:l.findIdx? pr with
 |none=>
  rw[List.findIdx?_eq_none_iff]at hq
  exact .inl ⟨rfl,fun j x hx=>hq x (List.mem_of_getElem? hx)⟩
 |some k=>
  rw[List.findIdx?_eq_some_iff_getElem]at hq
  obtain⟨hlt,h1,h2⟩:=hq
  refine .inr ⟨k,l[k],rfl,by simp[hlt],h1,fun j y hj hy=> ?_⟩
  have:=h2 j hj
  rw[List.getElem?_eq_getElem (by omega)]at hy
  cases hy
  simpa using this
theorem j3z(V:Vw)(a:Option Addr)(n c:Nat)(hv qv:Value)(S:List Slot)(key:Int)(w:World)(hV:V.le (vw w))(hs0:SlOf V Slot.cells 2 (.slice a n c) S)(hn:S.length≤lim):
  Rt 207 #[.agg #[.slice a n c,hv,qv],I key] w (.tuple #[I (max (z5p S key) 0), .bool (decide (0≤z5p S key))]):=by
 have hs:=hs0.mono hV
 refine Qf [.a (.v (.agg #[.slice a n c,hv,qv])), .a (.v (I key))] Tryz.func207 rfl<|QA<|QC<|QE 4 [2,3] rfl<|Qw<|QA<|QA<|QC<|QE 2 [2,3,8] rfl<|Qw<|QX rfl (fun h=> ?_) fun h=> ?_
 ·
  refine QA<|QC<|QE 2 [4,5] rfl<|Qw<|QO<|QL<|Qb rfl fun E w' hm=>⟨?_,hm.below lr⟩
  rw[z5p,if_pos h];rfl
 ·
  refine QI<|Qw<|QA<|QC<|Yy 3 rfl<|Qc (.a (.v _)) rfl zqv (fun hg E w1 hm=>by exact zod (vw w1) _ _ (fun x=>x.key==key) S _ lr (hs.mono hm.leV) hn (fun x w' hle=>⟨218,_,rfl,j2a,zvo x key _ (vw w1) (hm.lit 1 _ _ rfl) w' hle⟩)) ?_
  refine QE 1 [6] rfl<|Qw<|QA<|QC<|Yy 1 rfl<|QY rfl (j2f rfl)<|QE 4 [4,5] rfl<|Qw<|QO<|Qb rfl fun E w' hm=>⟨?_,hm.below lr⟩
  rw[z5p,if_neg (by omega)];rfl
theorem zwr(x:Slot)(w:World):Rt 193 #[x.val] w (.bool (x.key==0)):=by
 refine Qf [.a (.v x.val)] Tryz.func193 rfl<|QA<|QC<|QE 2 [1] rfl<|Qw<|QA<|QC<|QE 4 [2] rfl<|Qw<|QO<|Qb rfl fun E w' hm=>⟨?_,hm.below lr⟩
 rfl
theorem j7j(a:Option Addr)(n c:Nat)(w:World){ox oy:Operand}:(do eqGuard .eql 67 ox oy (.slice a n c) (.slice none 0 0);binOp .eql 67 (.slice a n c) (.slice none 0 0):Sem Value).run Tryz.prog w= .ok (.bool a.isNone) w:=by
 have hg:(eqGuard .eql 67 ox oy (.slice a n c) (.slice none 0 0)).run Tryz.prog w= .ok () w:=by simp[eqGuard]
 rw[Sem.run_bind,hg]
 simp only[Result.andThen_ok]
 exact Lib.run_eql_slice_nil w 67 66 a n c 0 0 Tryz.underlying67
theorem j7t(a:Option Addr)(n c:Nat)(w:World){ox oy:Operand}:(do eqGuard .eql 68 ox oy (.slice a n c) (.slice none 0 0);binOp .eql 68 (.slice a n c) (.slice none 0 0):Sem Value).run Tryz.prog w= .ok (.bool a.isNone) w:=by
 have hg:(eqGuard .eql 68 ox oy (.slice a n c) (.slice none 0 0)).run Tryz.prog w= .ok () w:=by simp[eqGuard]
 rw[Sem.run_bind,hg]
 simp only[Result.andThen_ok]
 exact Lib.run_eql_slice_nil w 68 196 a n c 0 0 Tryz.underlying68
theorem zxw(V:Vw)(sv:Value)(l:List Slot)(w:World)(hV:V.le (vw w))(hs0:SlOf V Slot.cells 2 sv l)(hn:l.length≤1048576):
  Cl 180 #[sv] w fun e w'=> ∃v',e= .returned v'∧w'.ownsRow w.heap.size 66 2 v' l.length (l.flatMap Slot.cells)∧Below w.heap.size w w':=by
 obtain⟨a,n,c,rfl⟩:=z04 hs0.sl
 have hs:=hs0.mono hV
 refine Qf [.a (.v (.slice a n c))] Tryz.func180 rfl<|QA<|QC<|QE 1 [0] rfl<|Qw<|QA<|QA<|QC<|Yy 1 rfl<|QY rfl (z60 (.bool a.isNone) rfl (fun E w=>j7j a n c w))<|z07 [0,4] rfl<|Qw<|Qn rfl (fun h=> ?_) fun h=> ?_
 ·
  refine QA<|QC<|QE 1 [2] rfl<|Qw<|QO<|QL<|Qb rfl fun E w' hm=> ?_
  have hnil:l=[]:=by
   rcases hs0.sl.2 with⟨a',c',h1,h2⟩|⟨b,off,cap,cs,e,f,h1,_⟩
   · exact List.eq_nil_of_length_eq_zero h2
   · cases h1;cases h
  subst hnil
  exact⟨_,rfl,World.ownsRow_nil w' w.heap.size _ _,hm.below lr⟩
 ·
  refine QI<|Qw<|QA<|QC ?_
  clear h
  refine QZ rfl (z1q tok 2 rfl rfl rfl) fun _ _=>Yy 1 rfl<|QZ rfl (z0g (l:=0) (e:=66) (sz:=2) (by_:=16) (m:=0) (k:=l.length) (x:= .a (.v (.slice a n c))) (olds:=[]) tok (l.flatMap Slot.cells) rfl (fun E w1 hm=>hs.sl.src hm.get) (fun _ _ _=>z20 l) (by omega)) fun _ _=>QE 1 [2] rfl<|Qw<|QO<|Qb rfl fun E w' hm=>⟨_,rfl, ?_,hm.below lr⟩
  have:=hm.rowFresh lr (l:=1) rfl
  rw[Nat.zero_add,List.nil_append]at this
  exact this
theorem zmu(V:Vw)(sv:Value)(l:List Hold)(w:World)(hV:V.le (vw w))(hs0:SlOf V Hold.cells 4 sv l)(hn:l.length≤1048576):
  Cl 181 #[sv] w fun e w'=> ∃v',e= .returned v'∧w'.ownsRow w.heap.size 196 4 v' l.length (l.flatMap Hold.cells)∧Below w.heap.size w w':=by
 obtain⟨a,n,c,rfl⟩:=z04 hs0.sl
 have hs:=hs0.mono hV
 refine Qf [.a (.v (.slice a n c))] Tryz.func181 rfl<|QA<|QC<|QE 1 [0] rfl<|Qw<|QA<|QA<|QC<|Yy 1 rfl<|QY rfl (z60 (.bool a.isNone) rfl (fun E w=>j7t a n c w))<|z07 [0,4] rfl<|Qw<|Qn rfl (fun h=> ?_) fun h=> ?_
 ·
  refine QA<|QC<|QE 1 [2] rfl<|Qw<|QO<|QL<|Qb rfl fun E w' hm=> ?_
  have hnil:l=[]:=by
   rcases hs0.sl.2 with⟨a',c',h1,h2⟩|⟨b,off,cap,cs,e,f,h1,_⟩
   · exact List.eq_nil_of_length_eq_zero h2
   · cases h1;cases h
  subst hnil
  exact⟨_,rfl,World.ownsRow_nil w' w.heap.size _ _,hm.below lr⟩
 ·
  refine QI<|Qw<|QA<|QC ?_
  clear h
  refine QZ rfl (z1q tok 4 rfl rfl rfl) fun _ _=>Yy 1 rfl<|QZ rfl (z0g (l:=0) (e:=196) (sz:=4) (by_:=32) (m:=0) (k:=l.length) (x:= .a (.v (.slice a n c))) (olds:=[]) tok (l.flatMap Hold.cells) rfl (fun E w1 hm=>hs.sl.src hm.get) (fun _ _ _=>z0d l) (by omega)) fun _ _=>QE 1 [2] rfl<|Qw<|QO<|Qb rfl fun E w' hm=>⟨_,rfl, ?_,hm.below lr⟩
  have:=hm.rowFresh lr (l:=1) rfl
  rw[Nat.zero_add,List.nil_append]at this
  exact this
/-! What is asked of a hold: of a key, of just a span. -/
theorem j7i(x:Hold)(key:Int)(b:Nat)(V:Vw)(hb:V.get b=some (.cells [I key].toArray 3 (0,0)))(w:World)(hV:V.le (vw w)):
  Rt 215 #[x.val, .pointer (some ⟨b,0,none⟩)] w (.bool (x.key==key)):=by
 refine Qf [.a (.v x.val), .a (.v (.pointer (some ⟨b,0,none⟩)))] Tryz.func215 rfl<|QA<|QC<|QE 2 [1,2] rfl<|Qw<|QA<|QC<|Yy 2 rfl<|QY rfl (z2p (cs:=[I key]) tok rfl (fun hg=>hV.get _ _ hb) rfl)<|QE 2 [3] rfl<|Qw<|QO<|Qb rfl fun E w' hm=>⟨?_,hm.below lr⟩
 rfl
theorem zwv(x:Hold)(lo hi:Int)(b:Nat)(V:Vw)(hb:V.get b=some (.cells [I lo,I hi].toArray 162 (0,0)))(w:World)(hV:V.le (vw w)):
  Rt 216 #[x.val, .pointer (some ⟨b,0,none⟩)] w (.bool (x.lo==lo&&x.hi==hi)):=by
 refine Qf [.a (.v x.val), .a (.v (.pointer (some ⟨b,0,none⟩)))] Tryz.func216 rfl<|QA<|QC<|QE 2 [1,2] rfl<|Qw<|QA<|QC<|Yy 2 rfl<|QY rfl (z2p (cs:=[I lo,I hi]) tok rfl (fun hg=>hV.get _ _ hb) rfl)<|QY rfl (z60 (.bool (x.lo==lo&&x.hi==hi)) rfl (fun E w=>zt7 x.lo x.hi lo hi w (.inl rfl)))<|QE 1 [3] rfl<|Qw<|QO<|Qb rfl fun E w' hm=>⟨?_,hm.below lr⟩
 rfl
def z7h(pr:Hold→Bool)(v:Value)(V':Vw):Prop:= ∃f caps,v= .func (.func f) #[] caps∧zar V' v pr
theorem zo9(V:Vw)(key:Int)(w:World)(hV:V.le (vw w)):Cl 201 #[I key] w fun e w'=> ∃v V',e= .returned v∧Below w.heap.size w w'∧Vext w.heap.size V V' w'∧z7h (fun h=>h.key==key) v V':=by
 refine Qf [.a (.v (I key))] Tryz.func201 rfl<|QA<|QC<|QE 2 [1] rfl<|Qw<|QA<|QC<|QE 2 [2] rfl<|Qw<|QO<|Qb rfl fun E w' hm=> ?_
 obtain⟨h1,h2⟩:=zmz hV hm (l:=0) rfl
 exact⟨_,_,rfl,hm.below lr,h1,_,_,rfl,fun x w hle=>⟨215,_,rfl,j1s,j7i x key _ _ h2 w hle⟩⟩
theorem zom(V:Vw)(lo hi:Int)(w:World)(hV:V.le (vw w)):Cl 202 #[.agg #[I lo,I hi]] w fun e w'=> ∃v V',e= .returned v∧Below w.heap.size w w'∧Vext w.heap.size V V' w'∧z7h (fun h=>h.lo==lo&&h.hi==hi) v V':=by
 refine Qf [.a (.v (.agg #[I lo,I hi]))] Tryz.func202 rfl<|QA<|QC<|QE 2 [1] rfl<|Qw<|QA<|QC<|QE 2 [2] rfl<|Qw<|QO<|Qb rfl fun E w' hm=> ?_
 obtain⟨h1,h2⟩:=zmz hV hm (l:=0) rfl
 exact⟨_,_,rfl,hm.below lr,h1,_,_,rfl,fun x w hle=>⟨216,_,rfl,j3w,zwv x lo hi _ _ h2 w hle⟩⟩
/-! Conditions: a row of one. -/
abbrev j77(v:Value):List Value:=[v]
theorem zvi(V:Vw)(x:Hold)(f:Nat)(caps:Array Value)(pr:Hold→Bool)(b:Nat)(hb:V.get b=some (.cells x.cells.toArray 196 (0,0)))(hf:zar V (.func (.func f) #[] caps) pr)(w:World)(hV:V.le (vw w)):
  Rt 222 #[.func (.func f) #[] caps, .pointer (some ⟨b,0,none⟩)] w (.bool (!pr x)):=by
 refine Qf [.a (.v (.func (.func f) #[] caps)), .a (.v (.pointer (some ⟨b,0,none⟩)))] Tryz.func222 rfl<|QA<|QC<|QE 1 [0,1] rfl<|Qw<|QA<|QC<|Yy 1 rfl<|QY rfl (z2p (cs:=x.cells) tok rfl (fun hg=>hV.get _ _ hb) rfl)<|z7w (.a (.v _)) rfl rfl rfl rfl rfl (fun hg E w1 hm=>by exact hf x w1 (hV.trans hm.leV)) ?_
 refine QE 2 [3] rfl<|Qw<|QO<|Qb rfl fun E w' hm=>⟨?_,hm.below lr⟩
 rfl
theorem ztr(V:Vw)(gv sv fv:Value)(r:Bool)(w:World)(hV:V.le (vw w))(hs0:SlOf V j77 1 sv [fv])(hgv: ∀w',V.le (vw w')→z7r Tryz.prog gv [fv] w' fun e w''=>e= .returned (.bool r)∧Below w'.heap.size w' w''):
  Rt 229 #[sv,gv] w (I (if r=true then 0 else -1)):=by
 have hs:=hs0.mono hV
 refine Qf [.a (.v sv), .a (.v gv)] Tryz.func229 rfl<|QA<|QC<|QE 1 [0,1] rfl<|Qw<|QA<|QA<|QC<|Yy 1 rfl<|QY rfl (z0l tok rfl (fun hg=>hs.sl))<|QE 1 [0,1,7,8] rfl<|Qw<|QJ<|Ql [0,1,7] [] rfl rfl (σ:=Nat) (fun k=>[(8, .a (.v (I k)))]) (fun k=>[]) (fun k=>k≤1∧(k=1→r=false)) (fun k=>1 - k) (0) (⟨by omega,by omega⟩) ?_
 rintro k ⟨hk,hall⟩
 refine QA<|QC<|QE 1 [0,1,7,8,9] rfl<|Qw<|QA<|QX rfl (fun h=> ?_) fun h=> ?_
 ·
  refine QI<|Qw<|QA<|QJ<|QA<|QC<|QE 2 [0,1,5,7,8] rfl<|Qw<|QA<|QC<|Yy 3 rfl ?_
  have hk0:k=0:=by simp at h;omega
  subst hk0
  have h_x:([fv]:List Value)[0]? =some fv:=rfl
  have hlt_fv:=z01 h_x
  refine QY rfl (z0c tok rfl (fun hg=>hs.sl) (fun hg=>⟨by omega,by omega⟩))<|QY rfl (z08 tok (0) 0 (fv) rfl (fun hg=>hs) (fun hg=>h_x) rfl rfl)<|z7w (.a (.v _)) rfl rfl rfl rfl rfl (fun hg E w1 hm=>by exact hgv w1 (hV.trans hm.leV)) ?_
  refine z07 [0,1,5,7,8,16] rfl<|Qw<|Qn rfl (fun h=> ?_) fun h=> ?_
  ·
   refine QA<|QC<|QE 2 [4] rfl<|Qw<|QO<|QP<|QL<|QL<|QP<|QL<|Qb rfl fun E w' hm=>⟨?_,hm.below lr⟩
   rw[if_pos h];rfl
  ·
   refine QI<|QM<|Qw<|QC<|QE 2 [0,1,7,8] rfl<|Qw<|Qr (1)<|⟨by omega,fun _=>h⟩
 ·
  refine QN<|QK<|QK<|QQ<|Qw<|QA<|QC<|QE 1 [4] rfl<|Qw<|QO<|z0h tok rfl ?_
  have hk1:k=1:=by simp at h;omega
  intro E w' hm _
  refine⟨?_,hm.below lr⟩
  rw[if_neg (by simp[hall hk1])];rfl
theorem zrk(V:Vw)(gv sv fv:Value)(r:Bool)(w:World)(hV:V.le (vw w))(hs0:SlOf V j77 1 sv [fv])(hgv: ∀w',V.le (vw w')→z7r Tryz.prog gv [fv] w' fun e w''=>e= .returned (.bool r)∧Below w'.heap.size w' w''):
  Rt 221 #[sv,gv] w (.bool r):=by
 refine Qf [.a (.v sv), .a (.v gv)] Tryz.func221 rfl<|QA<|QC<|QE 1 [0,1] rfl<|Qw<|QA<|QC<|Yy 2 rfl<|Qc (.a (.v _)) rfl j1a (fun hg E w1 hm=>by exact ztr V gv sv fv r _ (hV.trans hm.leV) hs0 hgv) ?_
 refine QE 2 [4] rfl<|Qw<|QO<|Qb rfl fun E w' hm=>⟨?_,hm.below lr⟩
 cases r<;>rfl
theorem zit(V:Vw)(x:Hold)(sv:Value)(f:Nat)(caps:Array Value)(pr:Hold→Bool)(b:Nat)(hb:V.get b=some (.cells [sv].toArray 294 (0,0)))(hs:SlOf V j77 1 sv [.func (.func f) #[] caps])(hf:zar V (.func (.func f) #[] caps) pr)(w:World)(hV:V.le (vw w)):
  Rt 220 #[x.val, .pointer (some ⟨b,0,none⟩)] w (.bool (pr x)):=by
 obtain⟨sa,sn,sc,rfl⟩:=z04 hs.sl
 refine Qf [.a (.v x.val), .a (.v (.pointer (some ⟨b,0,none⟩)))] Tryz.func220 rfl<|QA<|QC<|QE 2 [1,2] rfl<|Qw<|QA<|QC<|QY rfl (z2p (cs:=[.slice sa sn sc]) tok rfl (fun hg=>hV.get _ _ hb) rfl)<|Yy 1 rfl<|Qc (.a (.v _)) rfl j3c (fun hg E w1 hm=>by exact zrk (vw w1) _ _ _ (!pr x) _ lr (hs.mono (hV.trans hm.leV)) (fun w' hle=>⟨222,_,rfl,j2s,zvi (vw w1) x f caps pr _ (hm.lit 0 _ _ rfl) (fun y w2 h2=>hf y w2 ((hV.trans hm.leV).trans h2)) w' hle⟩)) ?_
 refine QE 2 [3] rfl<|Qw<|QO<|Qb rfl fun E w' hm=>⟨?_,hm.below lr⟩
 cases pr x<;>rfl
theorem z0y{α:Type}{l:List α}{i:Nat}{x:α}(h:l[i]? =some x):l.take (i+1)=l.take i++[x]:=by
 rw[List.take_add_one,h];rfl
theorem zf8{w:World}{b e sz n:Nat}{v:Value}{xs:List Value}(h:w.ownsRow b e sz v n xs)(i:Nat):(z0n v 0 i sz).ownBlock=v.ownBlock:=by
 rcases h.2 with⟨rfl,rfl⟩|⟨g,cap,cur,rfl,_⟩
 · rfl
 ·
  simp only[z0n]
  by_cases hc:cap=0<;>simp[hc,Addr.add,Value.ownBlock]
theorem zko{E':Env}{O':Go.Eng.Own}{nl':Nat}{V0 V':Vw}{w w':World}{v:Value}(hm:Mem E' O' nl' V' w')(hle:V0.le V')(h0: ∀k o,w.heap[k]? =some o→v.ownBlock≠some k→V0.get k=some o){l e sz n:Nat}{xs:List Value}(hl:lk O' l=some (.row e sz n xs)):
  (E'.κ l).ownBlock=v.ownBlock∨ ∀k,(E'.κ l).ownBlock=some k→w.heap.size≤k:=by
 cases hv:(E'.κ l).ownBlock with
 |none=>exact .inr fun k h=>by cases h
 |some k=>
  by_cases hk:v.ownBlock=some k
  · exact .inl hk.symm
  ·
   refine .inr fun k' h=> ?_
   cases h
   rcases Nat.lt_or_ge k w.heap.size with hlt|hge
   ·
    have h1:=hle.get _ _ (h0 k w.heap[k] (by simp[hlt]) hk)
    have h2:=hm.off l _ k hl (by simpa[blk]using hv)
    rw[h1]at h2
    cases h2
   · exact hge
theorem zmm{w:World}{v:Value}: ∀k o,w.heap[k]? =some o→v.ownBlock≠some k→((vw w).delO v.ownBlock).get k=some o:=fun k o hk h=>by
 cases hv:v.ownBlock with
 |none=>exact hk
 |some b=>
  simp only[Vw.delO,Vw.del,vw]
  rw[if_neg (fun e=>h (by rw[hv,e]))]
  exact hk
theorem ztj{w:World}{v:Value}:((vw w).delO v.ownBlock).os=w.os∧((vw w).delO v.ownBlock).tape=w.tape∧((vw w).delO v.ownBlock).output=w.output:=by
 cases v.ownBlock<;>exact⟨rfl,rfl,rfl⟩
theorem zhr{S:Nat→Prop}{w w':World}{r:Option Nat}(h:Go.Eng.Touch S w w')(hs: ∀k,S k→r=some k):w.grownBy w' r:=
 ⟨h.os,h.tape,h.output,h.size,fun k hk hr=>h.block k hk (fun hS=>hr (hs k hS).symm)⟩
theorem zv3{pr:Hold→Bool}{l:List Hold}{k:Nat}{x:Hold}(hx:l[k]? =some x)(hp:pr x=true)(h: ∀(j:Nat) (y:Hold),j<k→l[j]? =some y→pr y=false):l.take k=(l.take (k+1)).filter (fun h=> !pr h):=by
 rw[z0y hx,List.filter_append,List.filter_eq_self.2]
 · simp[hp]
 ·
  intro y hy
  obtain⟨j,hj⟩:=List.mem_iff_getElem?.1 hy
  rw[List.getElem?_take]at hj
  split at hj
  · rw[h j y (by assumption) hj];rfl
  · cases hj
theorem z7u(l:List Hold):(l.flatMap Hold.cells).length=l.length*4:=by
 induction l with
 |nil=>rfl
 |cons a r ih=>rw[List.flatMap_cons,List.length_append,ih,List.length_cons];simp[Hold.cells];omega
theorem ziu: ∀u∈[I 0,I 0,I 0,I8 0],u.oneCell'=true:=by
 intro u hu
 simp only[List.mem_cons,List.not_mem_nil,or_false]at hu
 rcases hu with rfl|rfl|rfl|rfl<;>rfl
theorem zji(v fv:Value)(pr:Hold→Bool)(l:List Hold)(w:World)(hr:w.ownsRow 0 196 4 v l.length (l.flatMap Hold.cells))(hn:l.length≤1000000)(hf0:zar ((vw w).delO v.ownBlock) fv pr):
  Cl 219 #[v,fv] w fun e w'=> ∃v',e= .returned v'∧w'.ownsRow 0 196 4 v' (l.filter fun h=> !pr h).length ((l.filter fun h=> !pr h).flatMap Hold.cells)∧w.grownBy w' v.ownBlock∧
   (v'.ownBlock=v.ownBlock∨ ∀k,v'.ownBlock=some k→w.heap.size≤k):=by
 have hV: ∀k,v.ownBlock=some k→((vw w).get k).isSome=true:=fun k h=>by
  have:=(hr.lt k h).2
  simp[vw,this]
 have hm1:=((zhn E0 0 w).addRow hr hV).addSize
 have h0:=zmm (w:=w) (v:=v)
 have hos:=ztj (w:=w) (v:=v)
 have hf:=hf0
 clear hf0
 generalize (vw w).delO v.ownBlock=V0 at*
 obtain⟨E,hE⟩: ∃E,E=E0.setκ 0 v:=⟨_,rfl⟩
 have hvE:E.κ 0=v:=by rw[hE];simp[Env.setκ]
 rw[←hE]at hm1
 clear hE hV hr
 subst hvE
 refine enter [.a (.row 0), .a (.v fv)] Tryz.func219 rfl rfl (hm1) rfl rfl<|QA<|QC<|QE 1 [0,1] rfl<|Qw<|QA<|QC<|Yy 2 rfl<|Qc (.a (.v _)) rfl zh7 (fun hg E w1 hm=>by exact z58 (vw w1) fv _ pr l _ lr (hm.rowOf 0 rfl (fun _=>rfl)) (by unfold lim;omega) (fun x w' hle=>hf x w' (hm.leV.trans hle))) ?_
 refine QE 1 [0,1,5] rfl<|Qw<|QA<|QA<|QC<|QE 2 [0,1,5,12] rfl<|Qw<|Qn rfl (fun h=> ?_) fun h=> ?_
 ·
  refine QA<|QC<|QE 2 [4] rfl<|Qw<|QO<|QL<|z0h tok rfl ?_
  have hall: ∀(j:Nat) (y:Hold),l[j]? =some y→pr y=false:=by
   rcases zd6 pr l with⟨_,hall⟩|⟨k,_,hi,_⟩
   · exact hall
   · rw[hi]at h;simp at h
  have hfl:l.filter (fun h=> !pr h)=l:=List.filter_eq_self.2 fun y hy=>by
   obtain⟨j,hj⟩:=List.mem_iff_getElem?.1 hy
   rw[hall j y hj];rfl
  intro E' w' hm _
  refine⟨E'.κ 0,rfl,by rw[hfl];exact hm.row 0 _ _ _ _ rfl,zhr (hm.touch (S:=fun k=>(E.κ 0).ownBlock=some k) lr h0 hos (hm.big 1 _ rfl)) (fun k h=>h),zko hm lr h0 (l:=0) rfl⟩
 ·
  rcases zd6 pr l with⟨hi,_⟩|⟨k,x0,hi,hx0,hp0,hall⟩
  ·
   exfalso
   rw[hi]at h;simp at h
  ·
   rw[hi]
   have hk:=z01 hx0
   clear h
   refine QI<|Qw<|QA<|QA<|QC<|QE 3 [0,1,5,6] rfl<|Qw<|QJ ?_
   rw[z06 (n:=(k:Int)+1) (by omega) (by omega),show(k:Int)+1=((k+1:Nat):Int) by omega]
   refine Ql [0,1] [0] rfl rfl (σ:=Nat×Nat×List Hold) (fun(i,j,L)=>[(5, .a (.v (I i))),(6, .a (.v (I j)))]) (fun(i,j,L)=>[(0, .row 196 4 l.length (L.flatMap Hold.cells))]) (fun(i,j,L)=>j≤l.length∧i<j∧L.length=l.length∧L.take i=(l.take j).filter (fun h=> !pr h)∧L.drop j=l.drop j) (fun(i,j,L)=>l.length - j) ((k,k+1,l)) (⟨by omega,by omega,rfl,zv3 hx0 hp0 hall,rfl⟩) ?_
   rintro⟨i,j,L⟩ ⟨hj,hij,hL,htk,hdr⟩
   dsimp only at hj hij hL htk hdr⊢
   refine QA<|QA<|QC<|Yy 2 rfl<|QY rfl (z0p (s:= .a (.v (I l.length))) 0 rfl rfl (fun v V' hv=>z0l tok rfl (fun hg=>hv)))<|QE 1 [0,1,5,6,19] rfl<|Qw<|QX rfl (fun h=> ?_) fun h=> ?_
   ·
    refine QI<|Qw<|QA<|QJ<|QA<|QC<|Yy 2 rfl ?_
    obtain⟨x,hx⟩:=atx (L:=l) (k:=j) (by omega)
    have hxL:L[j]? =some x:=by
     have:=congrArg (fun q:List Hold=>q[0]?) hdr
     simp only[List.getElem?_drop,Nat.add_zero]at this
     rw[this,hx]
    have hwj:IntKind.i64.wrap ((j:Int)+1)=((j+1:Nat):Int):=z06 (by omega) (by omega)
    have hwi:IntKind.i64.wrap ((i:Int)+1)=((i+1:Nat):Int):=z06 (by omega) (by omega)
    have hdr2:L.drop (j+1)=l.drop (j+1):=by
     have:=congrArg List.tail hdr
     rwa [List.tail_drop,List.tail_drop]at this
    have hft:(l.take (j+1)).filter (fun h=> !pr h)=(l.take j).filter (fun h=> !pr h)++(if pr x=true then []else [x]):=by
     rw[z0y hx,List.filter_append]
     cases hq:pr x<;>simp[hq]
    refine QY rfl (z0p (s:= .a (.rel 0 (j*4))) 0 rfl rfl (fun v V' hv=>z14 tok (j*4) rfl (by simp) (fun hg=>hv) (fun hg=>by omega)))<|QY rfl (z0p (s:= .agg (x.cells.map .v)) 0 rfl rfl (fun v V' hv=>z08 (enc:=Hold.cells) (l:=L) tok j 0 x rfl (fun hg=>⟨by rw[hL];exact hv,fun _=>rfl⟩) (fun hg=>hxL) rfl rfl)) ?_
    refine Yy 1 rfl<|Qs rfl<|z07 [0,1,5,6,7] rfl<|Qw<|QA<|QC<|Yy 2 rfl<|z7w (.a (.v _)) rfl rfl rfl rfl rfl (fun hg E w1 hm=>by exact hf x w1 hm.leV) ?_
    refine QE 1 [0,1,5,6,7,29] rfl<|Qw<|Qn rfl (fun h=> ?_) fun h=> ?_
    ·
     refine QA<|QC<|Yy 3 rfl ?_
     have hpx:pr x=false:=by simpa using h
     rw[hpx,if_neg (by simp)]at hft
     refine QY rfl (z0p (s:= .a (.rel 0 (i*4))) 0 rfl rfl (fun v V' hv=>z14 tok (i*4) rfl (by simp) (fun hg=>hv) (fun hg=>by omega)))<|z2q rfl rfl rfl rfl (z5m tok rfl rfl (by simpa using z0d [x]) (by show i*4+4≤_;omega) (by omega)) fun _ _=> ?_
     refine z07 [0,1,5,6] rfl<|Qw<|QC<|QE 3 [0,1,5,6] rfl<|QM<|Qw<|QC<|QE 3 [0,1,5,6] rfl<|Qw ?_
     have hset:=z6d (enc:=Hold.cells) (sz:=4) (fun _=>rfl) L i x (by omega)
     rw[show z25 (i*4) _ _=_ from hset,hwi,hwj]
     refine Qr ((i+1,j+1,L.set i x))<|⟨by dsimp only;omega,by dsimp only;omega,by dsimp only;rw[List.length_set,hL],by dsimp only;rw[hft,←htk,List.take_add_one,List.take_set_of_le (Nat.le_refl _),List.getElem?_set_self (by omega)];rfl,by dsimp only;rw[List.drop_set_of_lt (by omega),hdr2]⟩
    ·
     refine QI<|QM<|Qw<|QC<|QE 3 [0,1,5,6] rfl<|Qw ?_
     have hpx:pr x=true:=by simpa using h
     rw[hpx,if_pos rfl,List.append_nil]at hft
     rw[hwj]
     refine Qr ((i,j+1,L))<|⟨by dsimp only;omega,by dsimp only;omega,hL,by dsimp only;rw[hft,←htk],hdr2⟩
   ·
    have hjl:j=l.length:=by omega
    subst hjl
    rw[List.take_length]at htk
    clear h
    refine QN<|QK<|QK<|QQ<|Qw<|QA<|znb [0,5] [0,1] rfl (by repeat (first|exact fN|refine fC rfl ?_)) rfl rfl fun Ea V1 hle1 hlit=> ?_
    clear hlit
    refine QC<|Yy 2 rfl<|QY rfl (z74 0 3 _ (.a (.v (z0n (Ea.κ 0) ((i:Int)).toNat ((l.length:Int)).toNat 4))) rfl rfl rfl (fun V' hv=>zo7 (lo:=some (i:Int)) (hi:=none) tok rfl (fun hg=>hv) (fun hg=>by dsimp only[Option.getD];omega))) ?_
    rw[Int.toNat_natCast,Int.toNat_natCast]
    refine z2q rfl rfl rfl rfl (znv (t:=68) (l:=0) (q:=3) (lo:=i) (m:=l.length) tok rfl rfl rfl rfl ziu rfl rfl (by omega)) fun zs hz=>z07 [0,5] rfl<|Qw<|QA<|QC<|Yy 2 rfl<|QY rfl (z74 0 3 _ (.a (.v (z0n (Ea.κ 0) (0:Int).toNat ((i:Int)).toNat 4))) rfl rfl rfl (fun V' hv=>zo7 (lo:=none) (hi:=some (i:Int)) tok rfl (fun hg=>hv) (fun hg=>by dsimp only[Option.getD];omega))) ?_
    refine QE 1 [4] rfl<|Qw<|QO<|Qb rfl fun E' w' hm=> ?_
    have hkp:=(hm.kp 3 0 _ _ rfl).2.1
    have hrow:=hm.row 0 _ _ _ _ rfl
    rw[hkp]at hrow
    have hcut:=z9d hrow (i:=i) (by omega)
    have hLi:(L.take i).length=i:=by rw[List.length_take];omega
    have htake:(z25 (i*4) zs (L.flatMap Hold.cells)).take (i*4)=(L.take i).flatMap Hold.cells:=by
     have hfl:=z4o (enc:=Hold.cells) (sz:=4) (fun _=>rfl) L i
     have hll:(L.flatMap Hold.cells).length=L.length*4:=z7u L
     rw[z25,List.append_assoc,List.take_append_of_le_length (by rw[List.length_take];omega),List.take_take,Nat.min_self,hfl]
    rw[htake,htk]at hcut
    rw[htk]at hLi
    refine⟨z0n (Ea.κ 0) 0 i 4,rfl,by rw[hLi];exact hcut,zhr (hm.touch (S:=fun k=>(E.κ 0).ownBlock=some k) hle1 h0 hos (hm.big 1 _ rfl)) (fun k h=>h), ?_⟩
    rw[zf8 hrow,←hkp]
    exact zko hm hle1 h0 (l:=0) rfl
theorem zrr{E:Env}{O:Go.Eng.Own}{nl:Nat}{V:Vw}{w:World}(hm:Mem E O nl V w)(l q:Nat){b e:Nat}{L:List Hold}{v:Value}(hl:lk O l=some (.row e 4 L.length (L.flatMap Hold.cells)))(hk:lk O q=some (.keep l b v)):
  SlOf (vw w) Hold.cells 4 v L:=by
 have:=hm.rowOf (enc:=Hold.cells) (L:=L) l hl (fun _=>rfl)
 rwa [(hm.kp _ _ _ _ hk).2.1]at this
theorem j0t{E:Env}{O:Go.Eng.Own}{nl:Nat}{V:Vw}{w:World}(hm:Mem E O nl V w)(l q:Nat){b e i:Nat}{L:List Hold}{v:Value}(hl:lk O l=some (.row e 4 L.length (L.flatMap Hold.cells)))(hk:lk O q=some (.keep l b v))(hi:i<L.length):
  Go.Eng.Src Tryz.prog 4 (z0n v (i+1) L.length 4) (L.length - (i+1)) ((L.drop (i+1)).flatMap Hold.cells) w:=by
 have h1:=(zrr (L:=L) hm l q hl hk).cut (lo:=i+1) (hi:=L.length) (by omega) (Nat.le_refl _)
 rw[List.take_of_length_le (by rw[List.length_drop];omega)]at h1
 have h2:=h1.sl
 rw[List.length_drop]at h2
 exact h2.src fun _ _ h=>h
theorem zoc(v:Value)(l:List Hold)(i:Nat)(w:World)(hr:w.ownsRow 0 196 4 v l.length (l.flatMap Hold.cells))(hn:l.length≤1000000)(hi:i<l.length):
  Cl 203 #[v,I i,I ((i+1:Nat):Int)] w fun e w'=> ∃v',e= .returned v'∧w'.ownsRow 0 196 4 v' (l.take i++l.drop (i+1)).length ((l.take i++l.drop (i+1)).flatMap Hold.cells)∧w.grownBy w' v.ownBlock∧
   (v'.ownBlock=v.ownBlock∨ ∀k,v'.ownBlock=some k→w.heap.size≤k):=by
 have hV: ∀k,v.ownBlock=some k→((vw w).get k).isSome=true:=fun k h=>by
  have:=(hr.lt k h).2
  simp[vw,this]
 have hm1:=((zhn E0 0 w).addRow hr hV).addSize
 have h0:=zmm (w:=w) (v:=v)
 have hos:=ztj (w:=w) (v:=v)
 generalize (vw w).delO v.ownBlock=V0 at*
 obtain⟨E,hE⟩: ∃E,E=E0.setκ 0 v:=⟨_,rfl⟩
 have hvE:E.κ 0=v:=by rw[hE];simp[Env.setκ]
 rw[←hE]at hm1
 clear hE hV hr
 subst hvE
 have hkl:(l.drop (i+1)).length=l.length - (i+1):=List.length_drop
 have hfl:=z7u l
 have hnews:=z7u (l.drop (i+1))
 refine enter [.a (.row 0), .a (.v (I i)), .a (.v (I ((i+1:Nat):Int)))] Tryz.func203 rfl rfl (hm1) rfl rfl<|QA<|znb [0,1,2] [0,1] rfl (by repeat (first|exact fN|refine fC rfl ?_)) rfl rfl fun Ea V1 hle1 hlit=> ?_
 clear hlit
 refine QC<|QE 1 [0,1,2] rfl<|Qw<|QA<|QC<|Yy 4 rfl<|QY rfl (z74 0 3 _ (.a (.v (I l.length))) rfl rfl rfl (fun V' hv=>z0l tok rfl (fun hg=>hv)))<|QY rfl (z74 0 3 _ (.a (.v (z0n (j06 (Ea.κ 0) ((l.length:Int)).toNat) ((i:Int)).toNat (((i+1:Nat):Int)).toNat 4))) rfl rfl rfl (fun V' hv=>jay tok rfl (fun hg=>hv) (fun hg=>by omega)))<|z07 [0,1,2] rfl<|Qw<|QA<|QA<|QC<|QE 3 [0,1,2,16] rfl ?_
 refine Qw<|Qn rfl (fun h=> ?_) fun h=> ?_
 ·
  refine QA<|QC<|QE 2 [6] rfl<|Qw<|QO<|QL<|z0h tok rfl ?_
  exact absurd h (by simp;omega)
 ·
  clear h
  refine QI<|Qw<|QA<|QC<|Yy 1 rfl<|QY rfl (z74 0 3 _ (.a (.v (I l.length))) rfl rfl rfl (fun V' hv=>z0l tok rfl (fun hg=>hv)))<|QE 1 [0,1,2,7] rfl<|Qw<|QA<|Rb [6] rfl<|QD [0,1] rfl<|Qu 2 rfl rfl (z74 0 3 _ (.a (.v (z0n (Ea.κ 0) (0:Int).toNat ((i:Int)).toNat 4))) rfl rfl rfl (fun V' hv=>zo7 (lo:=none) (hi:=some (i:Int)) tok rfl (fun hg=>hv) (fun hg=>by dsimp only[Option.getD];omega))) ?_
  refine QD [3,4] rfl<|Qu 5 rfl rfl (z74 0 3 _ (.a (.v (z0n (Ea.κ 0) (((i+1:Nat):Int)).toNat ((l.length:Int)).toNat 4))) rfl rfl rfl (fun V' hv=>zo7 (lo:=some ((i+1:Nat):Int)) (hi:=none) tok rfl (fun hg=>hv) (fun hg=>by dsimp only[Option.getD];omega)))<|QS<|Qo 6 ?_
  rw[Int.toNat_natCast,Int.toNat_natCast,Int.toNat_natCast,show(0:Int).toNat=0 from rfl]
  refine zo3 6 rfl rfl rfl rfl rfl rfl (j86 (t:=68) (l:=0) (q:=3) (m:=l.length) (i:=i) (k:=l.length - (i+1)) tok ((l.drop (i+1)).flatMap Hold.cells) rfl rfl rfl rfl rfl (fun E w hm=>j0t hm 0 3 rfl rfl hi) (z0d _) (by omega) (by omega)) (.inl rfl) fun _ _=>Qx [7] rfl<|Qe [0,7] rfl<|Qw<|QA<|QC<|Yy 2 rfl ?_
  obtain⟨k,hk⟩: ∃k,l.length - (i+1)=k:=⟨_,rfl⟩
  rw[hk]
  rw[hk]at hkl
  refine QY rfl (z74 0 3 _ (.a (.v (I ((i+k:Nat):Int)))) rfl rfl rfl (fun V' hv=>by have h1:=hv.cut (lo:=0) (hi:=i+k) (by omega) (by omega);rw[Nat.sub_zero]at h1;exact z0l tok rfl (fun hg=>h1))) ?_
  refine Yy 1 rfl<|QY rfl (z74 0 3 _ (.a (.v (z0n (Ea.κ 0) (((i+k:Nat):Int)).toNat ((l.length:Int)).toNat 4))) rfl rfl rfl (fun V' hv=>j8h tok rfl (fun hg=>hv) (fun hg=>by omega))) ?_
  rw[Int.toNat_natCast,Int.toNat_natCast]
  refine z2q rfl rfl rfl rfl (znv (t:=68) (l:=0) (q:=3) (lo:=i+k) (m:=l.length) tok rfl rfl rfl rfl ziu rfl rfl (by omega)) fun zs hz=>z07 [0] rfl<|Qw<|QA<|QC<|QE 2 [6] rfl<|Qw<|QO<|Qb rfl fun E' w' hm=> ?_
  have hkp:=(hm.kp 3 0 _ _ rfl).2.1
  have hrow:=hm.row 0 _ _ _ _ rfl
  rw[hkp]at hrow
  have hcut:=z9d hrow (i:=i+k) (by omega)
  have htk:=z7u (l.take i)
  have htl:(l.take i).length=i:=by rw[List.length_take];omega
  have hLi:(l.take i++l.drop (i+1)).length=i+k:=by rw[List.length_append,htl,hkl]
  have hft:=z4o (enc:=Hold.cells) (sz:=4) (fun _=>rfl) l i
  have htake:(z25 ((i+k)*4) zs (z25 (i*4) ((l.drop (i+1)).flatMap Hold.cells) (l.flatMap Hold.cells))).take ((i+k)*4)=(l.take i++l.drop (i+1)).flatMap Hold.cells:=by
   have hlen:(z25 (i*4) ((l.drop (i+1)).flatMap Hold.cells) (l.flatMap Hold.cells)).length=l.length*4:=by rw[zbc (by omega),hfl]
   rw[z25,List.append_assoc,List.take_append_of_le_length (by rw[List.length_take,hlen];omega),List.take_take,Nat.min_self]
   rw[z25,hft,←List.flatMap_append]
   exact List.take_left' (by rw[z7u,hLi])
  rw[htake]at hcut
  refine⟨z0n (Ea.κ 0) 0 (i+k) 4,rfl,by rw[hLi];exact hcut,zhr (hm.touch (S:=fun k=>(E.κ 0).ownBlock=some k) hle1 h0 hos (hm.big 1 _ rfl)) (fun k h=>h), ?_⟩
  rw[zf8 hrow,←hkp]
  exact zko hm hle1 h0 (l:=0) rfl
noncomputable def cdec (p:Prop):Bool:= @decide p (Classical.propDecidable p)
structure Tb where
 S:List Slot
 H:List Hold
 Q:List Hold
def z1d:List Hold→List Hold→List Hold→List Hold×List Hold
 |[],H,Q=>(H,Q)
 |h::r,H,Q=>if(zbo h H&&zbo h Q)=true then z1d r (H++[h]) Q else z1d r H (Q++[h])
def Tb.grant(t:Tb):Tb:=⟨t.S,(z1d t.Q t.H []).1,(z1d t.Q t.H []).2⟩
def Tb.slot(t:Tb)(key:Int):Option Nat:=if key<1 then none else t.S.findIdx? (fun x=>x.key==key)
def z68(S:List Slot)(k:Nat):Int:=(S[k]?.getD ⟨0,0⟩).key
def z7f(S:List Slot)(k:Nat):Int:=(S[k]?.getD ⟨0,0⟩).claim
def Tb.clear(t:Tb)(k:Nat):Tb:=
 Tb.grant ⟨t.S.set k ⟨0,0⟩,t.H.filter (fun h=> !(h.key==z68 t.S k)),t.Q.filter (fun h=> !(h.key==z68 t.S k))⟩
def Tb.mount(t:Tb)(by_:Int):Tb:=match t.slot by_ with
 |some _=>t
 |none=>match t.S.findIdx? (fun x=>x.key==0)with
  |none=>t
  |some k=>⟨t.S.set k ⟨by_,z7f t.S k⟩,t.H,t.Q⟩
def Tb.leave(t:Tb)(by_:Int):Tb:=match t.slot by_ with
 |some k=>t.clear k
 |none=>t
def z9b(l:List Hold)(key:Int):Nat:=(l.filter (fun h=>h.key==key)).length
def Tb.asks(blocks:Int)(t:Tb)(h:Hold):Bool:=
 (((t.slot h.key).isSome&&zjh blocks h)&& !z4c (t.H++t.Q) h.key h.lo h.hi)&&decide (z9b (t.H++t.Q) h.key<64)
def Tb.ask(blocks:Int)(t:Tb)(h:Hold):Tb:=if t.asks blocks h=true then Tb.grant ⟨t.S,t.H,t.Q++[h]⟩else t
def z3t(key lo hi:Int)(h:Hold):Bool:=(h.key==key)&&(h.lo==lo&&h.hi==hi)
def Tb.free(t:Tb)(key lo hi:Int):Tb:=match t.H.findIdx? (z3t key lo hi)with
 |some i=>Tb.grant ⟨t.S,t.H.take i++t.H.drop (i+1),t.Q⟩
 |none=>match t.Q.findIdx? (z3t key lo hi)with
  |some i=>Tb.grant ⟨t.S,t.H,t.Q.take i++t.Q.drop (i+1)⟩
  |none=>t
def Tb.claim(t:Tb)(by_ dead was:Int):Tb:=match t.slot dead with
 |some k=>if z7f t.S k=was∧by_≠dead then⟨t.S.set k ⟨z68 t.S k,by_⟩,t.H,t.Q⟩else t
 |none=>t
def Tb.purge(t:Tb)(by_ dead:Int):Tb:=match t.slot dead with
 |some k=>if by_≠0∧z7f t.S k=by_ then t.clear k else t
 |none=>t
def Tb.apply(blocks:Int)(t:Tb)(c:Cmd):Tb:=
 if c.kind=0 then t.mount c.by_ else if c.kind=1 then t.leave c.by_ else if c.kind=2 then t.ask blocks ⟨c.by_,c.lo,c.hi,c.mode⟩else if c.kind=3 then t.free c.by_ c.lo c.hi
  else if c.kind=4 then t.claim c.by_ c.dead c.was else if c.kind=5 then t.purge c.by_ c.dead else t
def zad(slots:Int):Nat:=(min (max slots 0) 16).toNat
def zi4(slots:Int):Tb:=⟨List.replicate (zad slots) ⟨0,0⟩,[],[]⟩
/-! Which tables may be. -/
structure SlotsOk(S:List Slot):Prop where
 pos: ∀x∈S,0≤x.key∧0≤x.claim∧(x.key=0→x.claim=0)
 once:(S.map (·.key)).Pairwise (fun a b=>b≠0→a≠b)
def apart(a b:Hold):Prop:= ¬(a.key=b.key∧zax a.lo a.hi b.lo b.hi=true)
structure TbPre(n blocks:Int)(t:Tb):Prop where
 n:(t.S.length:Int)=n
 slots:SlotsOk t.S
 all:ztx t.H=true
 mem: ∀h∈t.H++t.Q,(∃x∈t.S,x.key=h.key)∧zjh blocks h=true
 apart:(t.H++t.Q).Pairwise apart
 few: ∀key,z9b (t.H++t.Q) key≤64
structure TbOk(n blocks:Int)(t:Tb):Prop extends TbPre n blocks t where
 still:t.grant.Q.length=t.Q.length
theorem zp3{a b:Hold}(h:apart a b):apart b a:=fun⟨h1,h2⟩=>h ⟨h1.symm,by rw[zg5];exact h2⟩
theorem zmb(h:Hold)(a b:List Hold):zbo h (a++b)=(zbo h a&&zbo h b):=by simp[zbo,List.all_append]
def zc4(H Q:List Hold):Prop:= ∀j h,Q[j]? =some h→ ¬(zbo h H=true∧zbo h (Q.take j)=true)
theorem zc4.nil(H:List Hold):zc4 H []:=fun j h hj=>by simp at hj
theorem zc4.more{H Q:List Hold}(hs:zc4 H Q)(H2:List Hold):zc4 (H++H2) Q:=fun j h hj ⟨h1,h2⟩=>
 hs j h hj ⟨by rw[zmb,Bool.and_eq_true]at h1;exact h1.1,h2⟩
theorem zc4.snoc{H Q:List Hold}{x:Hold}(hs:zc4 H Q)(hx: ¬(zbo x H=true∧zbo x Q=true)):zc4 H (Q++[x]):=by
 intro j h hj
 rcases Nat.lt_or_ge j Q.length with hlt|hge
 ·
  rw[List.getElem?_append_left hlt]at hj
  rw[List.take_append_of_le_length (by omega)]
  exact hs j h hj
 ·
  rw[List.getElem?_append_right hge]at hj
  have hjl:j=Q.length:=by
   have:=(List.getElem?_eq_some_iff.1 hj).1
   simp at this;omega
  subst hjl
  simp at hj
  subst hj
  simpa using hx
theorem z97: ∀(w H Q:List Hold),zc4 H Q→zc4 (z1d w H Q).1 (z1d w H Q).2
 |[],_,_,hs=>hs
 |h::r,H,Q,hs=>by
  rw[z1d]
  split
  · exact z97 r _ _ (hs.more [h])
  ·
   rename_i hc
   rw[Bool.and_eq_true]at hc
   exact z97 r _ _<|hs.snoc hc
theorem z81: ∀(w H Q:List Hold),((z1d w H Q).1++(z1d w H Q).2).Perm (H++Q++w)
 |[],H,Q=>by simp[z1d]
 |h::r,H,Q=>by
  rw[z1d]
  split
  ·
   refine(z81 r _ _).trans ?_
   simp only[List.append_assoc,List.cons_append,List.nil_append]
   refine List.Perm.append_left H ?_
   exact(List.perm_middle (a:=h) (l₁:=Q) (l₂:=r)).symm
  ·
   refine(z81 r _ _).trans ?_
   simp
theorem zd4: ∀(w H Q:List Hold),ztx H=true→ztx (z1d w H Q).1=true
 |[],_,_,h=>h
 |h::r,H,Q,hH=>by
  rw[z1d]
  split
  ·
   rename_i hc
   rw[Bool.and_eq_true]at hc
   exact zd4 r _ _ (by rw[ztz _ _ hH];exact hc.1)
  · exact zd4 r _ _ hH
theorem zpw: ∀(w H Q:List Hold),(z1d w H Q).1.length+(z1d w H Q).2.length=H.length+Q.length+w.length
 |w,H,Q=>by
  have:=(z81 w H Q).length_eq
  simp only[List.length_append]at this
  exact this
theorem zgc: ∀(w H Q:List Hold),(∀j h,w[j]? =some h→ ¬(zbo h H=true∧zbo h (Q++w.take j)=true))→z1d w H Q=(H,Q++w)
 |[],H,Q,_=>by simp[z1d]
 |h::r,H,Q,hs=>by
  have h0:=hs 0 h rfl
  rw[z1d,if_neg (by rw[Bool.and_eq_true];simpa using h0)]
  rw[zgc r H (Q++[h]) (fun j x hj=>by
   have:=hs (j+1) x (by simpa using hj)
   simpa using this)]
  simp
theorem zlo{S:List Slot}{H Q:List Hold}(hs:zc4 H Q):(Tb.grant ⟨S,H,Q⟩).Q=Q∧(Tb.grant ⟨S,H,Q⟩).H=H:=by
 have:=zgc Q H [] (fun j h hj=>by simpa using hs j h hj)
 simp[Tb.grant,this]
theorem zuh{a b:List Hold}(h:a.Perm b)(key:Int):z9b a key=z9b b key:=(h.filter _).length_eq
theorem zdp(a b:List Hold)(key:Int):z9b (a++b) key=z9b a key+z9b b key:=by simp[z9b,List.filter_append]
theorem zh0{a b:List Hold}(h:a.Perm b)(hp:b.Pairwise apart):a.Pairwise apart:=by
 refine(h.pairwise_iff ?_).2 hp
 intro x y;exact zp3
theorem TbPre.grant{n blocks:Int}{t:Tb}(h:TbPre n blocks t):TbOk n blocks t.grant:=by
 have hp:=z81 t.Q t.H []
 rw[List.append_nil]at hp
 have hst:=z97 t.Q t.H [] (zc4.nil _)
 refine⟨⟨h.n,h.slots,zd4 _ _ _ h.all, ?_,zh0 hp h.apart, ?_⟩, ?_⟩
 ·
  intro x hx
  exact h.mem x<|hp.mem_iff.1 hx
 ·
  intro key
  show z9b ((z1d t.Q t.H []).1++(z1d t.Q t.H []).2) key≤64
  rw[zuh hp]
  exact h.few key
 ·
  have:=zlo (S:=t.S) hst
  show(Tb.grant ⟨t.S,(z1d t.Q t.H []).1,(z1d t.Q t.H []).2⟩).Q.length=_
  rw[this.1];rfl
theorem zx0{a b:List Hold}(h:a.Sublist b)(key:Int):z9b a key≤z9b b key:=(h.filter _).length_le
theorem zs2(l:List Hold):ztx l=true↔l.Pairwise (fun a b=>z2g a b=true):=by
 constructor
 ·
  intro h
  rw[List.pairwise_iff_getElem]
  intro i j hi hj hij
  exact zw1 h (List.getElem?_eq_getElem hi)<|List.getElem?_eq_getElem hj
 ·
  intro h
  rw[zcc]
  intro j x hx
  rw[zbo,List.all_eq_true]
  intro y hy
  obtain⟨i,hi⟩:=List.mem_iff_getElem?.1 hy
  rw[List.getElem?_take]at hi
  split at hi
  ·
   rename_i hij
   obtain⟨h1,rfl⟩:=List.getElem?_eq_some_iff.1 hi
   obtain⟨h2,rfl⟩:=List.getElem?_eq_some_iff.1 hx
   rw[za1]
   exact(List.pairwise_iff_getElem.1 h) i j h1 h2 hij
  · cases hi
theorem zws{a b:List Hold}(h:a.Sublist b)(hb:ztx b=true):ztx a=true:=by
 rw[zs2]at hb⊢
 exact hb.sublist h
theorem TbPre.sub{n blocks:Int}{t:Tb}(h:TbPre n blocks t){H Q:List Hold}(h1:H.Sublist t.H)(h2:Q.Sublist t.Q):TbPre n blocks ⟨t.S,H,Q⟩:=by
 have hs:=h1.append h2
 exact⟨h.n,h.slots,zws h1 h.all,fun x hx=>h.mem x (hs.subset hx),h.apart.sublist hs,fun key=>Nat.le_trans (zx0 hs key) (h.few key)⟩
theorem z9v{t:Tb}{key:Int}{k:Nat}(h:t.slot key=some k):1≤key∧ ∃x,t.S[k]? =some x∧x.key=key:=by
 unfold Tb.slot at h
 split at h
 · cases h
 ·
  rw[List.findIdx?_eq_some_iff_getElem]at h
  obtain⟨hlt,h1,_⟩:=h
  exact⟨by omega,t.S[k],List.getElem?_eq_getElem hlt,by simpa using h1⟩
theorem zrj{t:Tb}{key:Int}(h:t.slot key=none)(hk:1≤key): ∀x∈t.S,x.key≠key:=by
 unfold Tb.slot at h
 rw[if_neg (by omega),List.findIdx?_eq_none_iff]at h
 intro x hx e
 have:=h x hx
 simp[e]at this
theorem zi7{α:Type}{l:List α}{k:Nat}{a x:α}(h:x∈l.set k a):x=a∨ ∃j,j≠k∧l[j]? =some x:=by
 obtain⟨j,hj⟩:=List.mem_iff_getElem?.1 h
 rw[List.getElem?_set]at hj
 split at hj
 ·
  split at hj
  · cases hj;exact .inl rfl
  · cases hj
 · exact .inr ⟨j,by omega,hj⟩
theorem z6u{α:Type}{l:List α}{k j:Nat}{a x:α}(hj:l[j]? =some x)(h:j≠k):x∈l.set k a:=by
 refine List.mem_iff_getElem?.2 ⟨j, ?_⟩
 rw[List.getElem?_set]
 rw[if_neg (by omega)]
 exact hj
theorem SlotsOk.two{S:List Slot}(h:SlotsOk S){i j:Nat}{x y:Slot}(hx:S[i]? =some x)(hy:S[j]? =some y)(he:x.key=y.key)(h0:x.key≠0):i=j:=by
 have key: ∀{i j:Nat} {x y:Slot},i<j→S[i]? =some x→S[j]? =some y→x.key=y.key→y.key≠0→False:=by
  intro i j x y hij hx hy he h0
  obtain⟨h1,rfl⟩:=List.getElem?_eq_some_iff.1 hx
  obtain⟨h2,rfl⟩:=List.getElem?_eq_some_iff.1 hy
  have:=(List.pairwise_iff_getElem.1 h.once) i j (by simpa using h1) (by simpa using h2) hij
  simp only[List.getElem_map]at this
  exact this h0 he
 rcases Nat.lt_trichotomy i j with hij|hij|hij
 · exact(key hij hx hy he (by rw[←he];exact h0)).elim
 · exact hij
 · exact(key hij hy hx he.symm h0).elim
theorem SlotsOk.set{S:List Slot}(h:SlotsOk S){k:Nat}{a x:Slot}(hx:S[k]? =some x)(ha:0≤a.key∧0≤a.claim∧(a.key=0→a.claim=0))(hn:a.key≠0→ ∀j y,j≠k→S[j]? =some y→y.key≠a.key):SlotsOk (S.set k a):=by
 constructor
 ·
  intro y hy
  rcases zi7 hy with rfl|⟨j,_,hj⟩
  · exact ha
  · exact h.pos y (List.mem_of_getElem? hj)
 ·
  rw[List.pairwise_iff_getElem]
  intro i j hi hj hij
  have hl:(S.set k a).length=S.length:=List.length_set
  simp only[List.length_map,hl]at hi hj
  have hold:=(List.pairwise_iff_getElem.1 h.once) i j (by simpa using hi) (by simpa using hj) hij
  simp only[List.getElem_map,List.getElem_set]at hold⊢
  by_cases e1:k=i
  ·
   by_cases e2:k=j
   · omega
   ·
    rw[if_pos e1,if_neg e2]
    intro h0 e
    exact hn (by rw[e];exact h0) j S[j] (by omega) (List.getElem?_eq_getElem hj) e.symm
  ·
   by_cases e2:k=j
   ·
    rw[if_neg e1,if_pos e2]
    intro h0 e
    exact hn h0 i S[i] (by omega) (List.getElem?_eq_getElem hi) e
   · rw[if_neg e1,if_neg e2];exact hold
theorem z5g{S:List Slot}{k:Nat}{x:Slot}(h:S[k]? =some x):z68 S k=x.key:=by simp[z68,h]
theorem z32{S:List Slot}{k:Nat}{x:Slot}(h:S[k]? =some x):z7f S k=x.claim:=by simp[z7f,h]
theorem zsd{blocks:Int}{h:Hold}(hh:zjh blocks h=true):0<h.key:=by
 simp only[zjh,Bool.and_eq_true,decide_eq_true_eq]at hh
 exact hh.1.1
theorem TbOk.clear{n blocks:Int}{t:Tb}(h:TbOk n blocks t){k:Nat}{x:Slot}(hx:t.S[k]? =some x):TbOk n blocks (t.clear k):=by
 refine TbPre.grant ?_
 have hs:=h.toTbPre.sub (H:=t.H.filter (fun h=> !(h.key==z68 t.S k))) (Q:=t.Q.filter (fun h=> !(h.key==z68 t.S k))) List.filter_sublist List.filter_sublist
 refine⟨by rw[←h.n];simp,h.slots.set hx ⟨by simp,by simp,by simp⟩ (by simp),hs.all, ?_,hs.apart,hs.few⟩
 intro y hy
 obtain⟨⟨z,hz,hzk⟩,hb⟩:=hs.mem y hy
 refine⟨⟨z, ?_,hzk⟩,hb⟩
 obtain⟨j,hj⟩:=List.mem_iff_getElem?.1 hz
 refine z6u hj fun e=> ?_
 subst e
 have hne:y.key≠z68 t.S j:=by
  rcases List.mem_append.1 hy with hy|hy
  ·
   have:=(List.mem_filter.1 hy).2
   simpa using this
  ·
   have:=(List.mem_filter.1 hy).2
   simpa using this
 exact hne (by rw[z5g hj,hzk])
theorem TbOk.slotsIn{n blocks:Int}{t:Tb}(h:TbOk n blocks t){S:List Slot}(hl:S.length=t.S.length)(hS:SlotsOk S)(hk: ∀x∈t.S,x.key≠0→ ∃y∈S,y.key=x.key):TbOk n blocks ⟨S,t.H,t.Q⟩:=by
 refine⟨⟨by rw[←h.n];show(S.length:Int)=_;rw[hl],hS,h.all, ?_,h.apart,h.few⟩,h.still⟩
 intro y hy
 obtain⟨⟨z,hz,hzk⟩,hb⟩:=h.mem y hy
 obtain⟨u,hu,huk⟩:=hk z hz (by rw[hzk];have:=zsd hb;omega)
 exact⟨⟨u,hu,by rw[huk,hzk]⟩,hb⟩
theorem z9t{α:Type}(pr:α→Bool)(l:List α):(l.findIdx? pr=none∧ ∀x∈l,pr x=false)∨ ∃(k:Nat) (x:α),l.findIdx? pr=some k∧l[k]? =some x∧pr x=true∧ ∀(j:Nat) (y:α),j<k→l[j]? =some y→pr y=false:=by
 cases hq:l.findIdx? pr with
 |none=>
  rw[List.findIdx?_eq_none_iff]at hq
  exact .inl ⟨rfl,hq⟩
 |some k=>
  rw[List.findIdx?_eq_some_iff_getElem]at hq
  obtain⟨hlt,h1,h2⟩:=hq
  refine .inr ⟨k,l[k],rfl,by simp[hlt],h1,fun j y hj hy=> ?_⟩
  have:=h2 j hj
  rw[List.getElem?_eq_getElem (by omega)]at hy
  cases hy
  simpa using this
theorem TbOk.mount{n blocks:Int}{t:Tb}(h:TbOk n blocks t){key:Int}(hk:16≤key):TbOk n blocks (t.mount key):=by
 unfold Tb.mount
 cases hs:t.slot key with
 |some k=>exact h
 |none=>
  dsimp only
  rcases z9t (fun x:Slot=>x.key==0) t.S with⟨h1,_⟩|⟨k,x,h1,hx,h0,_⟩
  · rw[h1];exact h
  ·
   rw[h1]
   dsimp only
   have hx0:x.key=0:=by simpa using h0
   have hc:=(h.slots.pos x (List.mem_of_getElem? hx))
   refine h.slotsIn (by simp) (h.slots.set hx ⟨by dsimp only;omega,by rw[z32 hx];exact hc.2.1,by dsimp only;omega⟩ ?_) ?_
   ·
    intro _ j y _ hy
    exact zrj hs (by omega) y<|List.mem_of_getElem? hy
   ·
    intro y hy hy0
    obtain⟨j,hj⟩:=List.mem_iff_getElem?.1 hy
    refine⟨y,z6u hj fun e=> ?_,rfl⟩
    subst e
    rw[hx]at hj
    cases hj
    exact hy0 hx0
theorem TbOk.leave{n blocks:Int}{t:Tb}(h:TbOk n blocks t)(key:Int):TbOk n blocks (t.leave key):=by
 unfold Tb.leave
 cases hs:t.slot key with
 |none=>exact h
 |some k=>
  obtain⟨_,x,hx,_⟩:=z9v hs
  exact h.clear hx
theorem TbOk.purge{n blocks:Int}{t:Tb}(h:TbOk n blocks t)(by_ dead:Int):TbOk n blocks (t.purge by_ dead):=by
 unfold Tb.purge
 cases hs:t.slot dead with
 |none=>exact h
 |some k=>
  obtain⟨_,x,hx,_⟩:=z9v hs
  dsimp only
  split
  · exact h.clear hx
  · exact h
theorem TbOk.claim{n blocks:Int}{t:Tb}(h:TbOk n blocks t){by_:Int}(hb:0≤by_)(dead was:Int):TbOk n blocks (t.claim by_ dead was):=by
 unfold Tb.claim
 cases hs:t.slot dead with
 |none=>exact h
 |some k=>
  obtain⟨hd,x,hx,hk⟩:=z9v hs
  dsimp only
  split
  ·
   rw[z5g hx]
   refine h.slotsIn (by simp) (h.slots.set hx ⟨by dsimp only;omega,hb,by dsimp only;omega⟩ ?_) ?_
   ·
    intro h0 j y hj hy e
    exact hj<|h.slots.two hy hx e (by rw[e];exact h0)
   ·
    intro y hy hy0
    obtain⟨j,hj⟩:=List.mem_iff_getElem?.1 hy
    by_cases e:j=k
    ·
     subst e
     rw[hx]at hj
     cases hj
     have hlt:=(List.getElem?_eq_some_iff.1 hx).1
     exact⟨⟨x.key,by_⟩,List.mem_iff_getElem?.2 ⟨j,by rw[List.getElem?_set_self hlt]⟩,rfl⟩
    · exact⟨y,z6u hj e,rfl⟩
  · exact h
theorem TbOk.ask{n blocks:Int}{t:Tb}(h:TbOk n blocks t)(x:Hold):TbOk n blocks (t.ask blocks x):=by
 unfold Tb.ask
 split
 ·
  rename_i ha
  simp only[Tb.asks,Bool.and_eq_true,decide_eq_true_eq,Bool.not_eq_true']at ha
  obtain⟨⟨⟨h1,h2⟩,h3⟩,h4⟩:=ha
  refine TbPre.grant ⟨h.n,h.slots,h.all, ?_, ?_, ?_⟩
  ·
   intro y hy
   have hy2:y∈(t.H++t.Q)++[x]:=by rw[List.append_assoc];exact hy
   rcases List.mem_append.1 hy2 with hy2|hy2
   · exact h.mem y hy2
   ·
    simp only[List.mem_singleton]at hy2
    subst hy2
    refine⟨?_,h2⟩
    cases hs:t.slot y.key with
    |none=>rw[hs]at h1;cases h1
    |some k=>
     obtain⟨_,z,hz,hk⟩:=z9v hs
     exact⟨z,List.mem_of_getElem? hz,hk⟩
  ·
   show(t.H++(t.Q++[x])).Pairwise Go.Proofs.YtkoiogkdiifgfaaGreat.apart
   rw[←List.append_assoc,List.pairwise_append]
   refine⟨h.apart,by simp, ?_⟩
   intro a ha b hb ⟨e1,e2⟩
   simp only[List.mem_singleton]at hb
   subst hb
   rw[z4c,List.any_eq_false]at h3
   have:=h3 a ha
   simp[z30,e1,e2]at this
  ·
   intro key
   show z9b (t.H++(t.Q++[x])) key≤64
   rw[←List.append_assoc,zdp]
   have hf:=h.few key
   by_cases e:x.key=key
   ·
    subst e
    have:z9b [x] x.key≤1:=by simp only[z9b];exact Nat.le_trans (List.length_filter_le _ _) (by simp)
    omega
   ·
    have:z9b [x] key=0:=by simp[z9b,e]
    omega
 · exact h
theorem z4t{α:Type}(l:List α)(i:Nat):(l.take i++l.drop (i+1)).Sublist l:=by
 have h1:(l.drop (i+1)).Sublist (l.drop i):=by
  rw[←List.drop_drop]
  exact List.drop_sublist _ _
 have:=(List.Sublist.refl (l.take i)).append h1
 rwa [List.take_append_drop]at this
theorem TbOk.free{n blocks:Int}{t:Tb}(h:TbOk n blocks t)(key lo hi:Int):TbOk n blocks (t.free key lo hi):=by
 unfold Tb.free
 split
 · exact(h.toTbPre.sub (z4t _ _) (List.Sublist.refl _)).grant
 ·
  split
  · exact(h.toTbPre.sub (List.Sublist.refl _) (z4t _ _)).grant
  · exact h
theorem TbOk.apply{n blocks:Int}{t:Tb}(h:TbOk n blocks t){c:Cmd}(hc:16≤c.by_):TbOk n blocks (t.apply blocks c):=by
 unfold Tb.apply
 split
 · exact h.mount hc
 ·
  split
  · exact h.leave _
  ·
   split
   · exact h.ask _
   ·
    split
    · exact h.free _ _ _
    ·
     split
     · exact h.claim (by omega) _ _
     ·
      split
      · exact h.purge _ _
      · exact h
theorem TbOk.new(k:Nat)(blocks:Int):TbOk k blocks ⟨List.replicate k ⟨0,0⟩,[],[]⟩:=by
 refine⟨⟨by simp,⟨?_, ?_⟩,rfl,by simp,by simp,by simp[z9b]⟩,rfl⟩
 ·
  intro x hx
  rw[List.eq_of_mem_replicate hx]
  simp
 ·
  rw[List.map_replicate,List.pairwise_replicate]
  right
  intro h;exact absurd rfl h
abbrev slR(S:List Slot):Rw:=⟨66,2,S.length,S.flatMap Slot.cells⟩
abbrev hoR(H:List Hold):Rw:=⟨196,4,H.length,H.flatMap Hold.cells⟩
abbrev tbO(g:Geo)(t:Tb):Go.Eng.Own:=bkO 247 g.cells (slR t.S) (hoR t.H) (hoR t.Q)
structure Tb.Fit(t:Tb):Prop where
 s:t.S.length≤1000
 h:t.H.length≤100000
 q:t.Q.length≤100000
abbrev z8m(E:Env)(g:Geo)(t:Tb)(V:Vw)(w:World):Ending→World→Prop:=zze E 0 247 g.cells (fun _=>True) (slR t.S) (hoR t.H) (hoR t.Q) V w
theorem zqn(g:Geo)(t:Tb)(ht:t.Fit)(pr:Hold→Bool)(sv:Value)(f:Nat)(caps:Array Value)(E:Env)(V:Vw)(w:World)(hm0:Mem E (tbO g t) 4 V w)(hs:SlOf V j77 1 sv [.func (.func f) #[] caps])(hf:zar V (.func (.func f) #[] caps) pr):
  Cl 208 #[.pointer (some ⟨E.ρ 0,0,none⟩), .pointer (some ⟨E.ρ 0,1,none⟩),sv] w (z8m E g ⟨t.S,t.H.filter fun h=> !pr h,t.Q⟩ V w):=by
 obtain⟨sa,sn,sc,rfl⟩:=z04 hs.sl
 have hl:=ht.h
 have hm1:=z64 hm0
 refine enter [.a (.ptr 0 0), .a (.ptr 0 1), .a (.v (.slice sa sn sc))] Tryz.func208 rfl rfl (hm1) rfl rfl<|QA<|QC<|QE 2 [1,5] rfl<|Qw<|QA<|QC<|Yy 3 rfl<|QY rfl (z0p (s:= .a (.v (I t.H.length))) 2 rfl rfl (fun v V' hv=>z0l tok rfl (fun hg=>hv)))<|QE 1 [1,5,7] rfl<|Qw<|QA<|QC<|Yy 5 rfl<|QZ rfl (zhz 196 4 (t.H.filter fun h=> !pr h).length ((t.H.filter fun h=> !pr h).flatMap Hold.cells) rfl zuq rfl (fun E w1 hm=>zji _ _ pr t.H w1 (hm.row 2 _ _ _ _ rfl) (by omega) (fun x w2 hle=>⟨220,_,rfl,ztt,zit _ x _ f caps pr _ (hm.litRow rfl (q:=6) rfl) (hs.mono (hm.leRow (l:=2) rfl)) (fun y w3 h3=>hf y w3 ((hm.leRow (l:=2) rfl).trans h3)) w2 hle⟩))) fun _ _=> ?_
 refine Yy 1 rfl<|Qs rfl<|z07 [1,7] rfl<|Qw<|QA<|QC<|Yy 4 rfl<|QY rfl (z0p (s:= .a (.v (I (t.H.filter fun h=> !pr h).length))) 7 rfl rfl (fun v V' hv=>z0l tok rfl (fun hg=>hv)))<|QE 2 [6] rfl<|Qw<|QO<|Qb rfl fun E' w' hm=> ?_
 exact⟨_,rfl,trivial,z2i hm lr (a:=1) (b:=7) (c:=3) rfl rfl rfl rfl ⟨⟨by decide,by decide⟩,by decide⟩ rfl rfl⟩
theorem zr9(g:Geo)(t:Tb)(ht:t.Fit)(pr:Hold→Bool)(sv:Value)(f:Nat)(caps:Array Value)(E:Env)(V:Vw)(w:World)(hm0:Mem E (tbO g t) 4 V w)(hs:SlOf V j77 1 sv [.func (.func f) #[] caps])(hf:zar V (.func (.func f) #[] caps) pr):
  Cl 208 #[.pointer (some ⟨E.ρ 0,0,none⟩), .pointer (some ⟨E.ρ 0,2,none⟩),sv] w (z8m E g ⟨t.S,t.H,t.Q.filter fun h=> !pr h⟩ V w):=by
 obtain⟨sa,sn,sc,rfl⟩:=z04 hs.sl
 have hl:=ht.q
 have hm1:=z64 hm0
 refine enter [.a (.ptr 0 0), .a (.ptr 0 2), .a (.v (.slice sa sn sc))] Tryz.func208 rfl rfl (hm1) rfl rfl<|QA<|QC<|QE 2 [1,5] rfl<|Qw<|QA<|QC<|Yy 3 rfl<|QY rfl (z0p (s:= .a (.v (I t.Q.length))) 3 rfl rfl (fun v V' hv=>z0l tok rfl (fun hg=>hv)))<|QE 1 [1,5,7] rfl<|Qw<|QA<|QC<|Yy 5 rfl<|QZ rfl (zhz 196 4 (t.Q.filter fun h=> !pr h).length ((t.Q.filter fun h=> !pr h).flatMap Hold.cells) rfl zuq rfl (fun E w1 hm=>zji _ _ pr t.Q w1 (hm.row 3 _ _ _ _ rfl) (by omega) (fun x w2 hle=>⟨220,_,rfl,ztt,zit _ x _ f caps pr _ (hm.litRow rfl (q:=6) rfl) (hs.mono (hm.leRow (l:=3) rfl)) (fun y w3 h3=>hf y w3 ((hm.leRow (l:=3) rfl).trans h3)) w2 hle⟩))) fun _ _=> ?_
 refine Yy 1 rfl<|Qs rfl<|z07 [1,7] rfl<|Qw<|QA<|QC<|Yy 4 rfl<|QY rfl (z0p (s:= .a (.v (I (t.Q.filter fun h=> !pr h).length))) 7 rfl rfl (fun v V' hv=>z0l tok rfl (fun hg=>hv)))<|QE 2 [6] rfl<|Qw<|QO<|Qb rfl fun E' w' hm=> ?_
 exact⟨_,rfl,trivial,z2i hm lr (a:=1) (b:=2) (c:=7) rfl rfl rfl rfl ⟨⟨by decide,by decide⟩,by decide⟩ rfl rfl⟩
theorem zft{l H Q:List Hold}{k:Nat}{x:Hold}(h:l[k]? =some x):z1d (l.drop k) H Q=if(zbo x H&&zbo x Q)=true then z1d (l.drop (k+1)) (H++[x]) Q else z1d (l.drop (k+1)) H (Q++[x]):=by
 rw[z27 h,z1d]
theorem z2k(L:List Hold)(x:Hold):L.length+1=(L++[x]).length∧L.flatMap Hold.cells++x.cells=(L++[x]).flatMap Hold.cells:=by simp
theorem zgv(g:Geo)(t:Tb)(ht:t.Fit)(E:Env)(V:Vw)(w:World)(hm0:Mem E (tbO g t) 4 V w):
  Cl 198 #[.pointer (some ⟨E.ρ 0,0,none⟩)] w (z8m E g t.grant V w):=by
 have hh:=ht.h
 have hq:=ht.q
 have hlim:lim=4398046511104:=rfl
 have hm1:=z64 hm0
 refine enter [.a (.ptr 0 0)] Tryz.func198 rfl rfl (hm1) rfl rfl<|QA<|QC<|QE 6 [0,2] rfl<|Qw<|QA<|QC<|Yy 4 rfl<|Qs rfl<|z07 [0,2] rfl<|Qw<|QA<|z9r 0 2 196 4 rfl rfl<|QC<|Yy 1 rfl<|QY rfl (z0p (s:= .a (.v (I t.Q.length))) 3 rfl rfl (fun v V' hv=>z0l tok rfl (fun hg=>hv)))<|QE 1 [0,15,16,17] rfl<|Qw<|QJ ?_
 refine Ql [0,15,16] [2,6] rfl rfl (σ:=Nat×List Hold×List Hold) (fun(k,A,B)=>[(17, .a (.v (I k)))]) (fun(k,A,B)=>[(2, .row 196 4 A.length (A.flatMap Hold.cells)),(6, .row 196 4 B.length (B.flatMap Hold.cells))]) (fun(k,A,B)=>k≤t.Q.length∧A.length+B.length=t.H.length+k∧z1d (t.Q.drop k) A B=z1d t.Q t.H []) (fun(k,A,B)=>t.Q.length - k) ((0,t.H,[])) (⟨by omega,by simp,rfl⟩) ?_
 rintro⟨k,A,B⟩ ⟨hk,hl,hgo⟩
 dsimp only at hk hl hgo⊢
 refine QA<|QC<|QE 1 [0,15,16,17,18] rfl<|Qw<|QA<|QX rfl (fun h=> ?_) fun h=> ?_
 ·
  refine QI<|Qw<|QA<|QJ<|QA<|QC ?_
  obtain⟨x,hx⟩:=atx (L:=t.Q) (k:=k) (by omega)
  rw[zft hx]at hgo
  have hwk:IntKind.i64.wrap ((k:Int)+1)=((k+1:Nat):Int):=z06 (by omega) (by omega)
  refine QY rfl (z0p (s:= .a (.rel 3 (k*4))) 3 rfl rfl (fun v V' hv=>z14 tok (k*4) rfl (by simp) (fun hg=>hv) (fun hg=>by dsimp only[hoR];omega)))<|QY rfl (z0p (s:= .agg (x.cells.map .v)) 3 rfl rfl (fun v V' hv=>z08 (enc:=Hold.cells) (l:=t.Q) tok k 0 x rfl (fun hg=>⟨hv,fun _=>rfl⟩) (fun hg=>hx) rfl rfl))<|Yy 1 rfl<|Qs rfl<|z07 [0,4,15,16,17] rfl<|Qw<|QA<|QC<|QE 5 [0,4,5,15,16,17] rfl ?_
  refine Qw<|QA<|QA<|z11 mixed (by kernel_rfl)<|Dm 6 rfl<|Qq (.a (.v _)) rfl ztn (fun hg E w1 hm=>by exact znh (vw w1) x (E.κ 2) A _ lr (hm.rowOf 2 rfl (fun _=>rfl)) (by omega)) ?_
  refine Dm 7 rfl<|Qq (.a (.v _)) rfl ztn (fun hg E w1 hm=>by exact znh (vw w1) x (E.κ 6) B _ lr (hm.rowOf 6 rfl (fun _=>rfl)) (by omega)) ?_
  refine Dm 1 rfl<|z1z [0,4,5,15,16,17,40] rfl<|Qw<|Qn rfl (fun h=> ?_) fun h=> ?_
  ·
   refine QC<|QE 5 [0,4,5,15,16,17] rfl<|Qw<|Rb [6,8] rfl<|zaq 0 rfl (by kernel_rfl) rfl rfl rfl (fun _=>z72 tok rfl) rfl<|QD [1,2,3,4] rfl<|QS<|Qo 5 ?_
   rw[if_pos h]at hgo
   clear h
   refine Qg 5 rfl rfl (z1q tok 4 rfl rfl rfl) fun _ _=>Qo 6<|zo3 6 rfl rfl rfl rfl rfl rfl (z0g tok x.cells rfl (fun E w hm=>z09 (hm.row _ _ _ _ _ rfl)) (fun _ _ _=>by simpa using z0d [x]) (by dsimp only;omega)) (.inl rfl) fun _ _=> ?_
   refine Qx [7] rfl<|Qo 8<|Qj 8 rfl<|Qe [0,15,16,17] rfl<|QM<|Qw<|QC<|QE 2 [0,15,16,17] rfl<|Qw ?_
   rw[(z2k A x).1,(z2k A x).2,hwk]
   refine z00 2 9 rfl<|Qr ((k+1,A++[x],B))<|⟨by dsimp only;omega,by simp;omega,hgo⟩
  ·
   refine QI<|Qw<|Rb [6,8] rfl<|zaq 0 rfl (by kernel_rfl) rfl rfl rfl (fun _=>z72 tok rfl) rfl<|QD [1,2,3,4] rfl<|QS<|Qo 5 ?_
   rw[if_neg (by rw[h];simp)]at hgo
   clear h
   refine Qg 5 rfl rfl (z1q tok 4 rfl rfl rfl) fun _ _=>Qo 6<|zo3 6 rfl rfl rfl rfl rfl rfl (z0g tok x.cells rfl (fun E w hm=>z09 (hm.row _ _ _ _ _ rfl)) (fun _ _ _=>by simpa using z0d [x]) (by dsimp only;omega)) (.inl rfl) fun _ _=> ?_
   refine Qx [7] rfl<|Qo 8<|Qj 8 rfl<|Qe [0,15,16,17] rfl<|QM<|Qw<|QC<|QE 2 [0,15,16,17] rfl<|Qw ?_
   rw[(z2k B x).1,(z2k B x).2,hwk]
   refine z00 6 9 rfl<|Qr ((k+1,A,B++[x]))<|⟨by dsimp only;omega,by simp;omega,hgo⟩
 ·
  have hkl:k=t.Q.length:=by omega
  subst hkl
  rw[List.drop_length]at hgo
  have hA:t.grant=⟨t.S,A,B⟩:=by rw[Tb.grant,←hgo];rfl
  rw[hA]
  clear h hA
  refine QN<|QK<|QK<|QQ<|z55 tok rfl ?_
  intro E' w' hm _
  exact⟨_,rfl,trivial,z2i hm lr (a:=1) (b:=2) (c:=6) rfl rfl rfl rfl ⟨⟨by decide,by decide⟩,by decide⟩ rfl rfl⟩
abbrev bkC(sv hv qv:Value)(g:Geo):List Value:=sv::hv::qv::g.cells
theorem zcv(V:Vw)(b:Nat)(sv hv qv:Value)(g:Geo)(S:List Slot)(key:Int)(w:World)(hV:V.le (vw w))(hb:V.get b=some (.cells (bkC sv hv qv g).toArray 247 (0,0)))(hs0:SlOf V Slot.cells 2 sv S)(hn:S.length≤lim):
  Rt 191 #[.pointer (some ⟨b,0,none⟩),I key] w (.tuple #[I (max (z5p S key) 0), .bool (decide (0≤z5p S key))]):=by
 obtain⟨a,n,c,rfl⟩:=z04 hs0.sl
 have hs:=hs0.mono hV
 refine Qf [.a (.v (.pointer (some ⟨b,0,none⟩))), .a (.v (I key))] Tryz.func191 rfl<|QA<|QC<|QE 2 [0,1] rfl<|Qw<|QA<|QC<|Yy 3 rfl<|QY rfl (z2p (cs:=bkC (.slice a n c) hv qv g) tok rfl (fun hg=>hV.get _ _ hb) rfl)<|Yy 1 rfl<|Qc (.a (.v _)) rfl j2k (fun hg E w1 hm=>by exact j3z (vw w1) a n c hv qv S key _ lr (hs.mono hm.leV) hn) ?_
 refine QE 4 [4,5] rfl<|Qw<|QO<|Qb rfl fun E w' hm=>⟨?_,hm.below lr⟩
 rfl
theorem z1x(t:Tb)(key:Int):(t.slot key=none∧z5p t.S key= -1)∨ ∃k:Nat,t.slot key=some k∧z5p t.S key=k∧k<t.S.length:=by
 unfold Tb.slot z5p
 split
 · exact .inl ⟨rfl,rfl⟩
 ·
  unfold z3r
  cases hq:t.S.findIdx? (fun x=>x.key==key)with
  |none=>exact .inl ⟨rfl,rfl⟩
  |some k=>
   rw[List.findIdx?_eq_some_iff_getElem]at hq
   exact .inr ⟨k,rfl,rfl,hq.1⟩
theorem zgk(S:List Slot)(k:Nat)(a:Slot):(⟨66,2,S.length,(S.set k a).flatMap Slot.cells⟩:Rw)=slR (S.set k a):=by simp[slR]
theorem zar.mono{V V':Vw}{fv:Value}{pr:Hold→Bool}(h:zar V fv pr)(hle:V.le V'):zar V' fv pr:=fun x w hw=>h x w (hle.trans hw)
theorem zrp(g:Geo)(t:Tb)(ht:t.Fit)(k:Nat)(x:Slot)(hx:t.S[k]? =some x)(E:Env)(V:Vw)(w:World)(hm0:Mem E (tbO g t) 4 V w):
  Cl 194 #[.pointer (some ⟨E.ρ 0,0,none⟩),I k] w (z8m E g (t.clear k) V w):=by
 have hsl:=ht.s
 have hk:=z01 hx
 have hm1:=z64 hm0
 have hcl:t.clear k=Tb.grant ⟨t.S.set k ⟨0,0⟩,t.H.filter (fun h=> !(h.key==x.key)),t.Q.filter (fun h=> !(h.key==x.key))⟩:=by rw[Tb.clear,z5g hx]
 rw[hcl]
 refine enter [.a (.ptr 0 0), .a (.v (I k))] Tryz.func194 rfl rfl (hm1) rfl rfl<|QA<|QC<|Yy 6 rfl<|QY rfl (z0p (s:= .a (.rel 1 (k*2))) 1 rfl rfl (fun v V' hv=>z14 tok (k*2) rfl (by simp) (fun hg=>hv) (fun hg=>by dsimp only[slR];omega)))<|QY rfl (z0p (s:= .a (.rel 1 (k*2))) 1 rfl rfl (fun v V' hv=>z1f tok rfl (fun hg=>hv) (fun hg=>by dsimp only[slR];omega)))<|QY rfl (z0p (s:= .a (.v (I x.key))) 1 rfl rfl (fun v V' hv=>z08 (enc:=Slot.cells) (l:=t.S) tok k 0 x rfl (fun hg=>⟨hv,fun _=>rfl⟩) (fun hg=>hx) rfl rfl)) ?_
 refine QE 1 [0,1,4] rfl<|Qw<|QA<|Rb [8] rfl<|QD [0,1,2,3,4,5] rfl<|QS<|Qo 6<|z4e 6 (fun v V'=>z7h (fun h=>h.key==x.key) v V') rfl rfl rfl zgp rfl rfl (fun hg E w1 hm=>by exact zo9 V x.key _ hm.leV) ?_
 rintro v1 V1 hle1 hf1
 obtain⟨f1,caps1,rfl,hf1⟩:=hf1 rfl
 refine Qo 7<|Qg 7 rfl rfl (z1q tok 1 rfl rfl rfl) fun _ _=>Qo 8<|zo3 8 rfl rfl rfl rfl rfl rfl (z3y (a:=1) (b:=2) (c:=3) (fun _=>True) (slR t.S) (hoR (t.H.filter fun h=> !(h.key==x.key))) (hoR t.Q) rfl zt3 rfl rfl rfl rfl ⟨⟨by decide,by decide⟩,by decide⟩ (fun E w hm hin hle=>zqn g t ht (fun h=>h.key==x.key) _ f1 caps1 (bkE E 0 1 2 3) _ w hin (hm.bkRow (L:=[Value.func (.func f1) #[] caps1]) (a:=1) (b:=2) (c:=3) rfl rfl rfl rfl (q:=6) rfl ⟨⟨⟨by decide,by decide⟩,by decide⟩,by decide⟩ (fun _=>rfl)) (hf1.mono hle))) (.inl rfl) fun _ _=> ?_
 refine Qe [0,1,4] rfl<|Qw<|QA<|Rb [8] rfl<|QD [0,1,2,3,4,5] rfl<|QS<|Qo 6 ?_
 obtain⟨H1,hH1⟩: ∃H1,H1=t.H.filter fun h=> !(h.key==x.key):=⟨_,rfl⟩
 have hH1l:H1.length≤t.H.length:=by rw[hH1];exact List.length_filter_le _ _
 rw[←hH1]
 refine z4e 6 (fun v V'=>z7h (fun h=>h.key==x.key) v V') rfl rfl rfl zgp rfl rfl (fun hg E w1 hm=>by exact zo9 V1 x.key _ hm.leV) ?_
 rintro v2 V2 hle2 hf2
 obtain⟨f2,caps2,rfl,hf2⟩:=hf2 rfl
 refine Qo 7<|Qg 7 rfl rfl (z1q tok 1 rfl rfl rfl) fun _ _=>Qo 8<|zo3 8 rfl rfl rfl rfl rfl rfl (z3y (a:=7) (b:=8) (c:=9) (fun _=>True) (slR t.S) (hoR H1) (hoR (t.Q.filter fun h=> !(h.key==x.key))) rfl zt3 rfl rfl rfl rfl ⟨⟨by decide,by decide⟩,by decide⟩ (fun E w hm hin hle=>zr9 g ⟨t.S,H1,t.Q⟩ ⟨ht.s,Nat.le_trans hH1l ht.h,ht.q⟩ (fun h=>h.key==x.key) _ f2 caps2 (bkE E 0 7 8 9) _ w hin (hm.bkRow (L:=[Value.func (.func f2) #[] caps2]) (a:=7) (b:=8) (c:=9) rfl rfl rfl rfl (q:=10) rfl ⟨⟨⟨by decide,by decide⟩,by decide⟩,by decide⟩ (fun _=>rfl)) (hf2.mono hle))) (.inl rfl) fun _ _=> ?_
 refine Qe [0,1] rfl<|Qw<|QA<|QC<|Yy 7 rfl ?_
 obtain⟨Q1,hQ1⟩: ∃Q1,Q1=t.Q.filter fun h=> !(h.key==x.key):=⟨_,rfl⟩
 have hQ1l:Q1.length≤t.Q.length:=by rw[hQ1];exact List.length_filter_le _ _
 rw[←hQ1]
 refine QY rfl (z0p (s:= .a (.rel 11 (k*2))) 11 rfl rfl (fun v V' hv=>z14 tok (k*2) rfl (by simp) (fun hg=>hv) (fun hg=>by dsimp only[slR];omega)))<|z2q rfl rfl rfl rfl (z5m tok rfl rfl (by simpa using z20 [⟨0,0⟩]) (by show k*2+2≤_;dsimp only[slR];omega) (by dsimp only[slR];omega)) fun _ _=> ?_
 refine z07 [0] rfl<|Qw<|QC<|Yy 1 rfl ?_
 rw[show z25 (k*2) _ _=(t.S.set k ⟨0,0⟩).flatMap Slot.cells from z6d (enc:=Slot.cells) (sz:=2) (fun _=>rfl) t.S k ⟨0,0⟩ hk]
 refine QZ rfl (z3y (a:=11) (b:=12) (c:=13) (R1:=⟨66,2,t.S.length,(t.S.set k ⟨0,0⟩).flatMap Slot.cells⟩) (R2:=hoR H1) (R3:=hoR Q1) (fun _=>True) (slR (t.S.set k ⟨0,0⟩)) (hoR (Tb.grant ⟨t.S.set k ⟨0,0⟩,H1,Q1⟩).H) (hoR (Tb.grant ⟨t.S.set k ⟨0,0⟩,H1,Q1⟩).Q) rfl zhe rfl rfl rfl rfl ⟨⟨by decide,by decide⟩,by decide⟩ (fun E w hm hin hle=>zgv g ⟨t.S.set k ⟨0,0⟩,H1,Q1⟩ ⟨by simpa using ht.s,Nat.le_trans hH1l ht.h,Nat.le_trans hQ1l ht.q⟩ (bkE E 0 11 12 13) _ w (by rw[zgk]at hin;exact hin))) fun _ _=> ?_
 refine z07 [] rfl<|z55 tok rfl ?_
 intro E' w' hm _
 exact⟨_,rfl,trivial,z2i hm (by repeat (first|exact lr|assumption|(refine Vw.le.trans ?_ (by assumption)))) (a:=14) (b:=15) (c:=16) rfl rfl rfl rfl ⟨⟨by decide,by decide⟩,by decide⟩ rfl rfl⟩
theorem zzx(g:Geo)(t:Tb)(ht:t.Fit)(c:Cmd)(E:Env)(V:Vw)(w:World)(hm0:Mem E (tbO g t) 4 V w):
  Cl 175 #[.pointer (some ⟨E.ρ 0,0,none⟩),c.val] w (z8m E g (t.leave c.by_) V w):=by
 have hsl:=ht.s
 have hlim:lim=4398046511104:=rfl
 have hm1:=z64 hm0
 refine enter [.a (.ptr 0 0), .a (.v c.val)] Tryz.func175 rfl rfl (hm1) rfl rfl<|QA<|QC<|QE 1 [0,3] rfl<|Qw<|QA<|QC<|Yy 3 rfl<|Qc (.a (.v _)) rfl zdv (fun hg E w1 hm=>by exact zcv (vw w1) (E.ρ 0) (E.κ 1) (E.κ 2) (E.κ 3) g t.S c.by_ _ lr (hm.lit 0 _ _ rfl) (hm.rowOf 1 rfl (fun _=>rfl)) (by omega)) ?_
 refine QE 5 [0,4,5] rfl<|Qw<|QA<|QC<|QE 1 [0,4,13] rfl<|Qw<|Qn rfl (fun h=> ?_) fun h=> ?_
 ·
  rcases z1x t c.by_ with⟨h1,h2⟩|⟨k,h1,h2,hk⟩
  · rw[h2]at h;simp at h
  ·
   have hres:t.leave c.by_=t.clear k:=by rw[Tb.leave,h1]
   rw[hres]
   obtain⟨x,hx⟩: ∃x,t.S[k]? =some x:=⟨_,List.getElem?_eq_getElem hk⟩
   clear h
   have hmx:max (z5p t.S c.by_) 0=(k:Int):=by rw[h2];omega
   rw[hmx]
   refine QC<|Yy 2 rfl<|QZ rfl (z3y (a:=1) (b:=2) (c:=3) (fun _=>True) (slR (t.clear k).S) (hoR (t.clear k).H) (hoR (t.clear k).Q) rfl ztd rfl rfl rfl rfl ⟨⟨by decide,by decide⟩,by decide⟩ (fun E w hm hin hle=>zrp g t ht k x hx (bkE E 0 1 2 3) _ w hin)) fun _ _=>z07 [] rfl<|z55 tok rfl ?_
   intro E' w' hm _
   exact⟨_,rfl,trivial,z2i hm (by repeat (first|exact lr|assumption|(refine Vw.le.trans ?_ (by assumption)))) (a:=7) (b:=8) (c:=9) rfl rfl rfl rfl ⟨⟨by decide,by decide⟩,by decide⟩ rfl rfl⟩
 ·
  refine QI<|z55 tok rfl ?_
  rcases z1x t c.by_ with⟨h1,h2⟩|⟨k,h1,h2,hk⟩
  ·
   have hres:t.leave c.by_=t:=by rw[Tb.leave,h1]
   rw[hres]
   intro E' w' hm _
   exact⟨_,rfl,trivial,z2i hm (by repeat (first|exact lr|assumption|(refine Vw.le.trans ?_ (by assumption)))) (a:=1) (b:=2) (c:=3) rfl rfl rfl rfl ⟨⟨by decide,by decide⟩,by decide⟩ rfl rfl⟩
  · rw[h2]at h;simp at h
theorem zqw(l:List Slot):(l.flatMap Slot.cells).length=l.length*2:=by
 induction l with
 |nil=>rfl
 |cons a r ih=>rw[List.flatMap_cons,List.length_append,ih,List.length_cons];simp[Slot.cells];omega
theorem zfm{S:List Slot}{k:Nat}{x:Slot}(hx:S[k]? =some x)(y:Slot):
  S.flatMap Slot.cells=(S.take k).flatMap Slot.cells++(I x.key::I x.claim::(S.drop (k+1)).flatMap Slot.cells)∧(S.set k y).flatMap Slot.cells=(S.take k).flatMap Slot.cells++(I y.key::I y.claim::(S.drop (k+1)).flatMap Slot.cells)∧((S.take k).flatMap Slot.cells).length=k*2:=by
 have hk:=z01 hx
 refine⟨?_, ?_, ?_⟩
 ·
  conv=>lhs;rw[←List.take_append_drop k S,z27 hx]
  simp[List.flatMap_append,List.flatMap_cons]
 ·
  rw[List.set_eq_take_append_cons_drop,if_pos hk]
  simp[List.flatMap_append,List.flatMap_cons]
 · rw[zqw,List.length_take];omega
theorem zno{S:List Slot}{k:Nat}{x:Slot}(hx:S[k]? =some x)(a:Int):z25 (k*2) [I a] (S.flatMap Slot.cells)=(S.set k ⟨a,x.claim⟩).flatMap Slot.cells:=by
 obtain⟨h1,h2,h3⟩:=zfm hx ⟨a,x.claim⟩
 rw[h1,h2,z25,List.take_left' h3,List.length_singleton,←h3,List.drop_append]
 simp
theorem zw6(A B:List Value)(p q a:Value):z25 (A.length+1) [a] (A++p::q::B)=A++p::a::B:=by
 have h1:A++p::q::B=(A++[p])++q::B:=by simp
 have h2:A++p::q::B=(A++[p,q])++B:=by simp
 rw[z25,List.length_singleton]
 conv=>lhs;lhs;rw[h1,List.take_left' (by simp)]
 rw[h2,List.drop_left' (by simp)]
 simp
theorem zfd{S:List Slot}{k:Nat}{x:Slot}(hx:S[k]? =some x)(a:Int):z25 (k*2+1) [I a] (S.flatMap Slot.cells)=(S.set k ⟨x.key,a⟩).flatMap Slot.cells:=by
 obtain⟨h1,h2,h3⟩:=zfm hx ⟨x.key,a⟩
 rw[h1,h2,←h3]
 exact zw6 _ _ _ _ _
theorem z2m{α:Type}(pr:α→Bool)(l:List α):(l.findIdx? pr=none∧z3r pr l= -1)∨ ∃(k:Nat) (x:α),l.findIdx? pr=some k∧z3r pr l=k∧l[k]? =some x∧pr x=true∧ ∀(j:Nat) (y:α),j<k→l[j]? =some y→pr y=false:=by
 rcases z9t pr l with⟨h1,_⟩|⟨k,x,h1,h2⟩
 · exact .inl ⟨h1,by rw[z3r,h1]⟩
 · exact .inr ⟨k,x,h1,by rw[z3r,h1],h2⟩
theorem j0c(g:Geo)(t:Tb)(ht:t.Fit)(c:Cmd)(E:Env)(V:Vw)(w:World)(hm0:Mem E (tbO g t) 4 V w):
  Cl 174 #[.pointer (some ⟨E.ρ 0,0,none⟩),c.val] w (z8m E g (t.mount c.by_) V w):=by
 have hsl:=ht.s
 have hlim:lim=4398046511104:=rfl
 have hm1:=z64 hm0
 refine enter [.a (.ptr 0 0), .a (.v c.val)] Tryz.func174 rfl rfl (hm1) rfl rfl<|QA<|QC<|QE 1 [0,3] rfl<|Qw<|QA<|QC<|Yy 3 rfl<|Qc (.a (.v _)) rfl zdv (fun hg E w1 hm=>by exact zcv (vw w1) (E.ρ 0) (E.κ 1) (E.κ 2) (E.κ 3) g t.S c.by_ _ lr (hm.lit 0 _ _ rfl) (hm.rowOf 1 rfl (fun _=>rfl)) (by omega)) ?_
 refine QE 5 [0,3,5] rfl<|Qw<|QA<|QC<|Yy 5 rfl<|Qc (.a (.v _)) rfl zqv (fun hg E w1 hm=>by exact zod (vw w1) _ _ (fun x=>x.key==0) t.S _ lr (hm.rowOf 1 rfl (fun _=>rfl)) (by omega) (fun x w' hle=>⟨193, #[],rfl,j2q,zwr x w'⟩)) ?_
 refine QE 1 [0,3,5,6] rfl<|Qw<|QA<|QC<|QE 6 [0,3,6,25] rfl<|Qw<|Qn rfl (fun h=> ?_) fun h=> ?_
 ·
  rcases z1x t c.by_ with⟨h1,h2⟩|⟨k,h1,h2,hk⟩
  ·
   rcases z2m (fun x:Slot=>x.key==0) t.S with⟨h3,h4⟩|⟨k,x,h3,h4,hx,_,_⟩
   · rw[h4]at h;simp at h
   ·
    rw[h4]
    have hk:=z01 hx
    have hres:t.mount c.by_=⟨t.S.set k ⟨c.by_,x.claim⟩,t.H,t.Q⟩:=by rw[Tb.mount,h1];dsimp only;rw[h3];dsimp only;rw[z32 hx]
    rw[hres]
    clear h
    refine Rb [10] rfl<|QD [0,1,2,3,4,5,6,7] rfl<|Qu 8 rfl rfl (z0p (s:= .a (.rel 1 (k*2))) 1 rfl rfl (fun v V' hv=>z14 tok (k*2) rfl (by simp) (fun hg=>hv) (fun hg=>by dsimp only[slR];omega)))<|Qu 9 rfl rfl (z0p (s:= .a (.rel 1 (k*2))) 1 rfl rfl (fun v V' hv=>z1f tok rfl (fun hg=>hv) (fun hg=>by dsimp only[slR];omega)))<|QS<|Qo 10<|zac 10 rfl rfl rfl rfl rfl (z5m tok rfl rfl (by simp[Value.oneCell']) (by simp only[List.length_singleton];first|omega|(dsimp only[slR];omega)) (by first|omega|(dsimp only[slR];omega))) (.inl rfl) fun _ _=> ?_
    refine Qe [] rfl<|z55 tok rfl ?_
    rw[show z25 (k*2) _ _=_ from zno hx c.by_]
    intro E' w' hm _
    exact⟨_,rfl,trivial,z2i hm (by repeat (first|exact lr|assumption|(refine Vw.le.trans ?_ (by assumption)))) (a:=1) (b:=2) (c:=3) (R1:=slR (t.S.set k ⟨c.by_,x.claim⟩)) rfl (by rw[←zgk];rfl) rfl rfl ⟨⟨by decide,by decide⟩,by decide⟩ rfl rfl⟩
  · rw[h2]at h;simp at h
 ·
  refine QI<|z55 tok rfl ?_
  have hres:t.mount c.by_=t:=by
   rcases z1x t c.by_ with⟨h1,h2⟩|⟨k,h1,h2,hk⟩
   ·
    rcases z2m (fun x:Slot=>x.key==0) t.S with⟨h3,h4⟩|⟨k,x,h3,h4,hx,_,_⟩
    · rw[Tb.mount,h1];dsimp only;rw[h3]
    · rw[h2,h4]at h;simp at h
   · rw[Tb.mount,h1]
  rw[hres]
  intro E' w' hm _
  exact⟨_,rfl,trivial,z2i hm (by repeat (first|exact lr|assumption|(refine Vw.le.trans ?_ (by assumption)))) (a:=1) (b:=2) (c:=3) rfl rfl rfl rfl ⟨⟨by decide,by decide⟩,by decide⟩ rfl rfl⟩
theorem j40(g:Geo)(t:Tb)(ht:t.Fit)(c:Cmd)(E:Env)(V:Vw)(w:World)(hm0:Mem E (tbO g t) 4 V w):
  Cl 178 #[.pointer (some ⟨E.ρ 0,0,none⟩),c.val] w (z8m E g (t.claim c.by_ c.dead c.was) V w):=by
 have hsl:=ht.s
 have hlim:lim=4398046511104:=rfl
 have hm1:=z64 hm0
 refine enter [.a (.ptr 0 0), .a (.v c.val)] Tryz.func178 rfl rfl (hm1) rfl rfl<|QA<|QC<|QE 1 [0,3] rfl<|Qw<|QA<|QC<|Yy 3 rfl<|Qc (.a (.v _)) rfl zdv (fun hg E w1 hm=>by exact zcv (vw w1) (E.ρ 0) (E.κ 1) (E.κ 2) (E.κ 3) g t.S c.dead _ lr (hm.lit 0 _ _ rfl) (hm.rowOf 1 rfl (fun _=>rfl)) (by omega)) ?_
 refine QE 5 [0,3,4,5] rfl<|Qw<|QA ?_
 rcases z1x t c.dead with⟨h1,h2⟩|⟨k,h1,h2,hk⟩
 ·
  have hres:t.claim c.by_ c.dead c.was=t:=by rw[Tb.claim,h1]
  rw[hres,h2,show decide ((0:Int)≤ -1)=false from rfl]
  refine z11 mixed (by kernel_rfl)<|Dm 8 rfl<|Qd rfl (z0p (s:= .a (.rel 1 0)) 1 rfl rfl (fun v V' hv=>z14 tok 0 rfl rfl (fun hg=>hv) (fun hg=>by cases hg))) ?_
  refine Qd rfl (z0p (s:= .a (.rel 1 1)) 1 rfl rfl (fun v V' hv=>z1f tok rfl (fun hg=>hv) (fun hg=>by cases hg))) ?_
  refine Qd rfl (z0p (s:= .a (.v (I 0))) 1 rfl rfl (fun v V' hv=>z08 (enc:=Slot.cells) (l:=t.S) tok 0 1 ⟨0,0⟩ rfl (fun hg=>⟨hv,fun _=>rfl⟩) (fun hg=>by cases hg) rfl rfl)) ?_
  refine Dm 11 rfl<|z1z [0,3,4,34] rfl<|Qw<|Qn rfl (fun h=> ?_) fun h=> ?_
  ·
   cases h
  ·
   refine QI<|z55 tok rfl ?_
   intro E' w' hm _
   exact⟨_,rfl,trivial,z2i hm (by repeat (first|exact lr|assumption|(refine Vw.le.trans ?_ (by assumption)))) (a:=1) (b:=2) (c:=3) rfl rfl rfl rfl ⟨⟨by decide,by decide⟩,by decide⟩ rfl rfl⟩
 ·
  obtain⟨x,hx⟩: ∃x,t.S[k]? =some x:=⟨_,List.getElem?_eq_getElem hk⟩
  have hres:t.claim c.by_ c.dead c.was=if x.claim=c.was∧c.by_≠c.dead then⟨t.S.set k ⟨x.key,c.by_⟩,t.H,t.Q⟩else t:=by rw[Tb.claim,h1];dsimp only;rw[z32 hx,z5g hx]
  rw[hres,h2,show max (k:Int) 0=k by omega,decide_eq_true (by omega:(0:Int)≤k)]
  refine z11 mixed (by kernel_rfl)<|Dm 8 rfl<|Qd rfl (z0p (s:= .a (.rel 1 (k*2))) 1 rfl rfl (fun v V' hv=>z14 tok (k*2) rfl (by simp) (fun hg=>hv) (fun hg=>by dsimp only[slR];omega)))<|Qd rfl (z0p (s:= .a (.rel 1 (k*2+1))) 1 rfl rfl (fun v V' hv=>z1f tok rfl (fun hg=>hv) (fun hg=>by dsimp only[slR];omega)))<|Qd rfl (z0p (s:= .a (.v (I x.claim))) 1 rfl rfl (fun v V' hv=>z08 (enc:=Slot.cells) (l:=t.S) tok k 1 x rfl (fun hg=>⟨hv,fun _=>rfl⟩) (fun hg=>hx) rfl rfl)) ?_
  refine Dm 11 rfl<|z1z [0,3,4,34] rfl<|Qw<|Qn rfl (fun h=> ?_) fun h=> ?_
  ·
   have hc:x.claim=c.was∧c.by_≠c.dead:=by simpa using h
   rw[if_pos hc]
   clear h
   refine Rb [10] rfl<|QD [0,1,2,3,4,5,6,7] rfl<|Qu 8 rfl rfl (z0p (s:= .a (.rel 1 (k*2))) 1 rfl rfl (fun v V' hv=>z14 tok (k*2) rfl (by simp) (fun hg=>hv) (fun hg=>by dsimp only[slR];omega)))<|Qu 9 rfl rfl (z0p (s:= .a (.rel 1 (k*2+1))) 1 rfl rfl (fun v V' hv=>z1f tok rfl (fun hg=>hv) (fun hg=>by dsimp only[slR];omega)))<|QS<|Qo 10<|zac 10 rfl rfl rfl rfl rfl (z5m tok rfl rfl (by simp[Value.oneCell']) (by simp only[List.length_singleton];first|omega|(dsimp only[slR];omega)) (by first|omega|(dsimp only[slR];omega))) (.inl rfl) fun _ _=> ?_
   refine Qe [] rfl<|z55 tok rfl ?_
   rw[show z25 (k*2+1) _ _=_ from zfd hx c.by_]
   intro E' w' hm _
   exact⟨_,rfl,trivial,z2i hm (by repeat (first|exact lr|assumption|(refine Vw.le.trans ?_ (by assumption)))) (a:=1) (b:=2) (c:=3) (R1:=slR (t.S.set k ⟨x.key,c.by_⟩)) rfl (by rw[←zgk];rfl) rfl rfl ⟨⟨by decide,by decide⟩,by decide⟩ rfl rfl⟩
  ·
   refine QI<|z55 tok rfl ?_
   have hc: ¬(x.claim=c.was∧c.by_≠c.dead):=by
    intro hc
    simp[hc.1,hc.2]at h
   rw[if_neg hc]
   intro E' w' hm _
   exact⟨_,rfl,trivial,z2i hm (by repeat (first|exact lr|assumption|(refine Vw.le.trans ?_ (by assumption)))) (a:=1) (b:=2) (c:=3) rfl rfl rfl rfl ⟨⟨by decide,by decide⟩,by decide⟩ rfl rfl⟩
theorem j2o(g:Geo)(t:Tb)(ht:t.Fit)(c:Cmd)(E:Env)(V:Vw)(w:World)(hm0:Mem E (tbO g t) 4 V w):
  Cl 179 #[.pointer (some ⟨E.ρ 0,0,none⟩),c.val] w (z8m E g (t.purge c.by_ c.dead) V w):=by
 have hsl:=ht.s
 have hlim:lim=4398046511104:=rfl
 have hm1:=z64 hm0
 refine enter [.a (.ptr 0 0), .a (.v c.val)] Tryz.func179 rfl rfl (hm1) rfl rfl<|QA<|QC<|QE 1 [0,3] rfl<|Qw<|QA<|QC<|Yy 3 rfl<|Qc (.a (.v _)) rfl zdv (fun hg E w1 hm=>by exact zcv (vw w1) (E.ρ 0) (E.κ 1) (E.κ 2) (E.κ 3) g t.S c.dead _ lr (hm.lit 0 _ _ rfl) (hm.rowOf 1 rfl (fun _=>rfl)) (by omega)) ?_
 refine QE 5 [0,3,4,5] rfl<|Qw<|QA ?_
 rcases z1x t c.dead with⟨h1,h2⟩|⟨k,h1,h2,hk⟩
 ·
  have hres:t.purge c.by_ c.dead=t:=by rw[Tb.purge,h1]
  rw[hres,h2,show decide ((0:Int)≤ -1)=false from rfl]
  refine z11 mixed (by kernel_rfl)<|Dm 13 rfl<|Qd rfl (z0p (s:= .a (.rel 1 0)) 1 rfl rfl (fun v V' hv=>z14 tok 0 rfl rfl (fun hg=>hv) (fun hg=>by cases hg))) ?_
  refine Qd rfl (z0p (s:= .a (.rel 1 1)) 1 rfl rfl (fun v V' hv=>z1f tok rfl (fun hg=>hv) (fun hg=>by cases hg))) ?_
  refine Qd rfl (z0p (s:= .a (.v (I 0))) 1 rfl rfl (fun v V' hv=>z08 (enc:=Slot.cells) (l:=t.S) tok 0 1 ⟨0,0⟩ rfl (fun hg=>⟨hv,fun _=>rfl⟩) (fun hg=>by cases hg) rfl rfl)) ?_
  refine Dm 4 rfl<|z1z [0,4,32] rfl<|Qw<|Qn rfl (fun h=> ?_) fun h=> ?_
  ·
   cases h
  ·
   refine QI<|z55 tok rfl ?_
   intro E' w' hm _
   exact⟨_,rfl,trivial,z2i hm (by repeat (first|exact lr|assumption|(refine Vw.le.trans ?_ (by assumption)))) (a:=1) (b:=2) (c:=3) rfl rfl rfl rfl ⟨⟨by decide,by decide⟩,by decide⟩ rfl rfl⟩
 ·
  obtain⟨x,hx⟩: ∃x,t.S[k]? =some x:=⟨_,List.getElem?_eq_getElem hk⟩
  have hres:t.purge c.by_ c.dead=if c.by_≠0∧x.claim=c.by_ then t.clear k else t:=by rw[Tb.purge,h1];dsimp only;rw[z32 hx]
  rw[hres,h2,show max (k:Int) 0=k by omega,decide_eq_true (by omega:(0:Int)≤k)]
  refine z11 mixed (by kernel_rfl)<|Dm 13 rfl<|Qd rfl (z0p (s:= .a (.rel 1 (k*2))) 1 rfl rfl (fun v V' hv=>z14 tok (k*2) rfl (by simp) (fun hg=>hv) (fun hg=>by dsimp only[slR];omega)))<|Qd rfl (z0p (s:= .a (.rel 1 (k*2+1))) 1 rfl rfl (fun v V' hv=>z1f tok rfl (fun hg=>hv) (fun hg=>by dsimp only[slR];omega)))<|Qd rfl (z0p (s:= .a (.v (I x.claim))) 1 rfl rfl (fun v V' hv=>z08 (enc:=Slot.cells) (l:=t.S) tok k 1 x rfl (fun hg=>⟨hv,fun _=>rfl⟩) (fun hg=>hx) rfl rfl)) ?_
  refine Dm 4 rfl<|z1z [0,4,32] rfl<|Qw<|Qn rfl (fun h=> ?_) fun h=> ?_
  ·
   have hc:c.by_≠0∧x.claim=c.by_:=by simpa using h
   rw[if_pos hc]
   clear h
   refine QC<|Yy 2 rfl<|QZ rfl (z3y (a:=1) (b:=2) (c:=3) (fun _=>True) (slR (t.clear k).S) (hoR (t.clear k).H) (hoR (t.clear k).Q) rfl ztd rfl rfl rfl rfl ⟨⟨by decide,by decide⟩,by decide⟩ (fun E w hm hin hle=>zrp g t ht k x hx (bkE E 0 1 2 3) _ w hin)) fun _ _=>z07 [] rfl<|z55 tok rfl ?_
   intro E' w' hm _
   exact⟨_,rfl,trivial,z2i hm (by repeat (first|exact lr|assumption|(refine Vw.le.trans ?_ (by assumption)))) (a:=7) (b:=8) (c:=9) rfl rfl rfl rfl ⟨⟨by decide,by decide⟩,by decide⟩ rfl rfl⟩
  ·
   refine QI<|z55 tok rfl ?_
   have hc: ¬(c.by_≠0∧x.claim=c.by_):=by
    intro hc
    rw[hc.2]at h
    have h1:=hc.1
    simp[h1]at h
   rw[if_neg hc]
   intro E' w' hm _
   exact⟨_,rfl,trivial,z2i hm (by repeat (first|exact lr|assumption|(refine Vw.le.trans ?_ (by assumption)))) (a:=1) (b:=2) (c:=3) rfl rfl rfl rfl ⟨⟨by decide,by decide⟩,by decide⟩ rfl rfl⟩
theorem zvc(x:Hold)(c:Cmd)(b:Nat)(V:Vw)(hb:V.get b=some (.cells c.cells.toArray 164 (0,0)))(w:World)(hV:V.le (vw w)):
  Rt 200 #[x.val, .pointer (some ⟨b,0,none⟩)] w (.bool (z3t c.by_ c.lo c.hi x)):=by
 refine Qf [.a (.v x.val), .a (.v (.pointer (some ⟨b,0,none⟩)))] Tryz.func200 rfl<|QA<|QC<|QE 2 [1,2] rfl<|Qw<|QA<|Ra rfl<|QT [0] rfl<|Qt 1 rfl rfl (z2p (cs:=c.cells) tok rfl (fun hg=>hV.get _ _ hb) rfl)<|QT [3] rfl<|QS<|Qo 2<|z4e 2 (fun v V'=>z7h (fun h=>h.key==c.by_) v V') rfl rfl rfl zgp rfl rfl (fun hg E w1 hm=>by exact zo9 (vw w) c.by_ _ hm.leV) ?_
 rintro v1 V1 hle1 hf1
 refine Qo 4<|zib 4 (.a (.v _)) rfl rfl rfl rfl rfl rfl (fun hg E w1 hm=>by exact(by obtain⟨f,caps,rfl,hf⟩:=hf1 rfl;exact hf x w1 hm.leV)) ?_
 refine Qx [5] rfl<|z36 6 rfl (by kernel_rfl) rfl rfl rfl rfl (yV rfl) rfl<|z36 7 rfl (by kernel_rfl) rfl rfl rfl rfl (z2p (cs:=c.cells) tok rfl (fun hg=>hV.get _ _ hb) rfl) rfl<|z36 9 rfl (by kernel_rfl) rfl rfl rfl rfl (yV rfl) rfl<|Qo 8<|z4e 8 (fun v V'=>z7h (fun h=>h.lo==c.lo&&h.hi==c.hi) v V') rfl rfl rfl zsq rfl rfl (fun hg E w1 hm=>by exact zom V1 c.lo c.hi _ hm.leV) ?_
 rintro v2 V2 hle2 hf2
 refine Qo 10<|zib 10 (.a (.v _)) rfl rfl rfl rfl rfl rfl (fun hg E w1 hm=>by exact(by obtain⟨f,caps,rfl,hf⟩:=hf2 hg;exact hf x w1 hm.leV)) ?_
 refine Qx [11,12] rfl<|Qe [3] rfl<|Qw<|QO<|Qb rfl fun E w' hm=>⟨?_,hm.below (by repeat (first|exact lr|assumption|(refine Vw.le.trans ?_ (by assumption))))⟩
 rfl
theorem zr8(x:Hold)(c:Cmd)(b:Nat)(V:Vw)(hb:V.get b=some (.cells c.cells.toArray 164 (0,0)))(w:World)(hV:V.le (vw w)):
  Rt 204 #[x.val, .pointer (some ⟨b,0,none⟩)] w (.bool (z3t c.by_ c.lo c.hi x)):=by
 refine Qf [.a (.v x.val), .a (.v (.pointer (some ⟨b,0,none⟩)))] Tryz.func204 rfl<|QA<|QC<|QE 2 [1,2] rfl<|Qw<|QA<|Ra rfl<|QT [0] rfl<|Qt 1 rfl rfl (z2p (cs:=c.cells) tok rfl (fun hg=>hV.get _ _ hb) rfl)<|QT [3] rfl<|QS<|Qo 2<|z4e 2 (fun v V'=>z7h (fun h=>h.key==c.by_) v V') rfl rfl rfl zgp rfl rfl (fun hg E w1 hm=>by exact zo9 (vw w) c.by_ _ hm.leV) ?_
 rintro v1 V1 hle1 hf1
 refine Qo 4<|zib 4 (.a (.v _)) rfl rfl rfl rfl rfl rfl (fun hg E w1 hm=>by exact(by obtain⟨f,caps,rfl,hf⟩:=hf1 rfl;exact hf x w1 hm.leV)) ?_
 refine Qx [5] rfl<|z36 6 rfl (by kernel_rfl) rfl rfl rfl rfl (yV rfl) rfl<|z36 7 rfl (by kernel_rfl) rfl rfl rfl rfl (z2p (cs:=c.cells) tok rfl (fun hg=>hV.get _ _ hb) rfl) rfl<|z36 9 rfl (by kernel_rfl) rfl rfl rfl rfl (yV rfl) rfl<|Qo 8<|z4e 8 (fun v V'=>z7h (fun h=>h.lo==c.lo&&h.hi==c.hi) v V') rfl rfl rfl zsq rfl rfl (fun hg E w1 hm=>by exact zom V1 c.lo c.hi _ hm.leV) ?_
 rintro v2 V2 hle2 hf2
 refine Qo 10<|zib 10 (.a (.v _)) rfl rfl rfl rfl rfl rfl (fun hg E w1 hm=>by exact(by obtain⟨f,caps,rfl,hf⟩:=hf2 hg;exact hf x w1 hm.leV)) ?_
 refine Qx [11,12] rfl<|Qe [3] rfl<|Qw<|QO<|Qb rfl fun E w' hm=>⟨?_,hm.below (by repeat (first|exact lr|assumption|(refine Vw.le.trans ?_ (by assumption))))⟩
 rfl
theorem j6h(g:Geo)(t:Tb)(ht:t.Fit)(c:Cmd)(E:Env)(V:Vw)(w:World)(hm0:Mem E (tbO g t) 4 V w):
  Cl 177 #[.pointer (some ⟨E.ρ 0,0,none⟩),c.val] w (z8m E g (t.free c.by_ c.lo c.hi) V w):=by
 have hsl:=ht.s
 have hh:=ht.h
 have hq:=ht.q
 have hlim:lim=4398046511104:=rfl
 have hm1:=z64 hm0
 refine enter [.a (.ptr 0 0), .a (.v c.val)] Tryz.func177 rfl rfl (hm1) rfl rfl<|QA<|QC<|QE 1 [0,3] rfl<|Qw<|QA<|QC<|Yy 6 rfl<|Qc (.a (.v _)) rfl zh7 (fun hg E w1 hm=>by exact z58 (vw w1) _ _ (z3t c.by_ c.lo c.hi) t.H _ lr (hm.rowOf 2 rfl (fun _=>rfl)) (by omega) (fun x w' hle=>⟨200,_,rfl,j1z,zvc x c _ (vw w1) (hm.lit 6 _ _ rfl) w' hle⟩)) ?_
 refine QE 1 [0,3,4] rfl<|Qw<|QA<|QA<|QC<|QE 2 [0,3,4,13] rfl<|Qw<|Qn rfl (fun h=> ?_) fun h=> ?_
 ·
  refine QA ?_
  obtain⟨i,x,h1,hi,hx⟩: ∃(i:Nat) (x:Hold),t.H.findIdx? (z3t c.by_ c.lo c.hi)=some i∧z3r (z3t c.by_ c.lo c.hi) t.H=i∧t.H[i]? =some x:=by
   rcases z2m (z3t c.by_ c.lo c.hi) t.H with⟨h1,h2⟩|⟨i,x,h1,h2,h3,_⟩
   · rw[h2]at h;simp at h
   · exact⟨i,x,h1,h2,h3⟩
  have hres:t.free c.by_ c.lo c.hi=Tb.grant ⟨t.S,t.H.take i++t.H.drop (i+1),t.Q⟩:=by rw[Tb.free,h1]
  rw[hres]
  rw[hi]
  clear h
  have hk:=z01 hx
  have hwi:IntKind.i64.wrap ((i:Int)+1)=((i+1:Nat):Int):=z06 (by omega) (by omega)
  refine QC<|Yy 9 rfl ?_
  rw[hwi]
  refine QZ rfl (zhz 196 4 (t.H.take i++t.H.drop (i+1)).length ((t.H.take i++t.H.drop (i+1)).flatMap Hold.cells) rfl zul rfl (fun E w1 hm=>zoc _ t.H i w1 (hm.row 2 _ _ _ _ rfl) (by omega) hk)) fun _ _=>Yy 3 rfl<|Qs rfl<|z07 [0] rfl<|Qw<|QA<|QC<|Yy 1 rfl ?_
  have hel:(t.H.take i++t.H.drop (i+1)).length≤t.H.length:=(z4t t.H i).length_le
  refine QZ rfl (z3y (a:=1) (b:=7) (c:=3) (fun _=>True) (slR t.S) (hoR (Tb.grant ⟨t.S,t.H.take i++t.H.drop (i+1),t.Q⟩).H) (hoR (Tb.grant ⟨t.S,t.H.take i++t.H.drop (i+1),t.Q⟩).Q) rfl zhe rfl rfl rfl rfl ⟨⟨by decide,by decide⟩,by decide⟩ (fun E w hm hin hle=>zgv g ⟨t.S,t.H.take i++t.H.drop (i+1),t.Q⟩ ⟨ht.s,Nat.le_trans hel ht.h,ht.q⟩ (bkE E 0 1 7 3) _ w hin)) fun _ _=>z07 [] rfl ?_
  refine Qw<|QO<|QL<|Qb rfl fun E' w' hm=> ?_
  exact⟨_,rfl,trivial,z2i hm (by repeat (first|exact lr|assumption|(refine Vw.le.trans ?_ (by assumption)))) (a:=8) (b:=9) (c:=10) rfl rfl rfl rfl ⟨⟨by decide,by decide⟩,by decide⟩ rfl rfl⟩
 ·
  have hno:t.H.findIdx? (z3t c.by_ c.lo c.hi)=none:=by
   rcases z2m (z3t c.by_ c.lo c.hi) t.H with⟨h1,h2⟩|⟨i,x,h1,h2,h3,_⟩
   · exact h1
   · rw[h2]at h;simp at h
  clear h
  refine QI<|Qw<|QA<|QC<|Yy 6 rfl<|Qc (.a (.v _)) rfl zh7 (fun hg E w1 hm=>by exact z58 (vw w1) _ _ (z3t c.by_ c.lo c.hi) t.Q _ lr (hm.rowOf 3 rfl (fun _=>rfl)) (by omega) (fun x w' hle=>⟨204,_,rfl,zzz,zr8 x c _ (vw w1) (hm.lit 6 _ _ rfl) w' hle⟩)) ?_
  refine QE 1 [0,4] rfl<|Qw<|QA<|QC<|QE 2 [0,4,37] rfl<|Qw<|Qn rfl (fun h=> ?_) fun h=> ?_
  ·
   refine QA ?_
   obtain⟨i,x,h1,hi,hx⟩: ∃(i:Nat) (x:Hold),t.Q.findIdx? (z3t c.by_ c.lo c.hi)=some i∧z3r (z3t c.by_ c.lo c.hi) t.Q=i∧t.Q[i]? =some x:=by
    rcases z2m (z3t c.by_ c.lo c.hi) t.Q with⟨h1,h2⟩|⟨i,x,h1,h2,h3,_⟩
    · rw[h2]at h;simp at h
    · exact⟨i,x,h1,h2,h3⟩
   have hres:t.free c.by_ c.lo c.hi=Tb.grant ⟨t.S,t.H,t.Q.take i++t.Q.drop (i+1)⟩:=by rw[Tb.free,hno];dsimp only;rw[h1]
   rw[hres]
   rw[hi]
   clear h
   have hk:=z01 hx
   have hwi:IntKind.i64.wrap ((i:Int)+1)=((i+1:Nat):Int):=z06 (by omega) (by omega)
   refine QC<|Yy 9 rfl ?_
   rw[hwi]
   refine QZ rfl (zhz 196 4 (t.Q.take i++t.Q.drop (i+1)).length ((t.Q.take i++t.Q.drop (i+1)).flatMap Hold.cells) rfl zul rfl (fun E w1 hm=>zoc _ t.Q i w1 (hm.row 3 _ _ _ _ rfl) (by omega) hk)) fun _ _=>Yy 3 rfl<|Qs rfl<|z07 [0] rfl<|Qw<|QC<|Yy 1 rfl ?_
   have hel:(t.Q.take i++t.Q.drop (i+1)).length≤t.Q.length:=(z4t t.Q i).length_le
   refine QZ rfl (z3y (a:=1) (b:=2) (c:=7) (fun _=>True) (slR t.S) (hoR (Tb.grant ⟨t.S,t.H,t.Q.take i++t.Q.drop (i+1)⟩).H) (hoR (Tb.grant ⟨t.S,t.H,t.Q.take i++t.Q.drop (i+1)⟩).Q) rfl zhe rfl rfl rfl rfl ⟨⟨by decide,by decide⟩,by decide⟩ (fun E w hm hin hle=>zgv g ⟨t.S,t.H,t.Q.take i++t.Q.drop (i+1)⟩ ⟨ht.s,ht.h,Nat.le_trans hel ht.q⟩ (bkE E 0 1 2 7) _ w hin)) fun _ _=>z07 [] rfl ?_
   refine z55 tok rfl ?_
   intro E' w' hm _
   exact⟨_,rfl,trivial,z2i hm (by repeat (first|exact lr|assumption|(refine Vw.le.trans ?_ (by assumption)))) (a:=8) (b:=9) (c:=10) rfl rfl rfl rfl ⟨⟨by decide,by decide⟩,by decide⟩ rfl rfl⟩
  ·
   refine QI<|z55 tok rfl ?_
   have hno2:t.Q.findIdx? (z3t c.by_ c.lo c.hi)=none:=by
    rcases z2m (z3t c.by_ c.lo c.hi) t.Q with⟨h1,h2⟩|⟨i,x,h1,h2,h3,_⟩
    · exact h1
    · rw[h2]at h;simp at h
   have hres:t.free c.by_ c.lo c.hi=t:=by rw[Tb.free,hno];dsimp only;rw[hno2]
   rw[hres]
   intro E' w' hm _
   exact⟨_,rfl,trivial,z2i hm (by repeat (first|exact lr|assumption|(refine Vw.le.trans ?_ (by assumption)))) (a:=1) (b:=2) (c:=3) rfl rfl rfl rfl ⟨⟨by decide,by decide⟩,by decide⟩ rfl rfl⟩
theorem j3k(k:Nat)(hk:k≤1048576)(w:World):
  Cl 209 #[.slice none 0 0,I k] w fun e w'=> ∃v',e= .returned v'∧w'.ownsRow w.heap.size 196 4 v' 0 []∧Below w.heap.size w w':=by
 refine Qf [.a (.v (.slice none 0 0)), .a (.v (I k))] Tryz.func209 rfl<|QA<|QC<|QE 1 [0,1] rfl<|Qw<|QA<|QA<|QC<|QE 2 [0,1,6] rfl<|Qw<|Qn rfl (fun h=> ?_) fun h=> ?_
 ·
  refine QC ?_
  exfalso
  simp at h;omega
 ·
  clear h
  refine QI<|Qw<|QA<|QA<|QC<|Yy 2 rfl<|QY rfl (j5i tok rfl)<|Yy 1 rfl<|QY rfl (z8n tok rfl)<|QE 3 [0,1] rfl<|Qw<|QA ?_
  rw[show IntKind.i64.wrap ((k:Int) - IntKind.i64.wrap (((0:Nat):Int) - ((0:Nat):Int)))=k from by rw[show IntKind.i64.wrap (((0:Nat):Int) - ((0:Nat):Int))=0 from rfl,Int.sub_zero];exact z06 (by omega) (by omega)]
  refine QC<|QE 2 [0,1,16] rfl<|Qw<|Qn rfl (fun h=> ?_) fun h=> ?_
  ·
   refine QC<|Yy 2 rfl ?_
   have hk0:0<k:=by simp at h;omega
   clear h
   refine QY rfl (j5i tok rfl)<|QY rfl (j8s tok (.slice none 0 0) rfl (fun _=>by decide) (fun _=>rfl))<|Yy 1 rfl<|QZ rfl (jbj (k:=k) tok rfl rfl rfl Tryz.underlying3 hk0 (by decide) (by show k*32≤_;omega) (by simp only[maxLen];omega)) fun zs hz=> ?_
   refine Yy 1 rfl<|QY rfl (z8n tok rfl)<|QZ rfl (j90 (l:=0) (i:=0) rfl (Nat.zero_le _) (fun v V' hv=>zo7 (lo:=none) (hi:=some ((0:Nat):Int)) tok rfl (fun hg=>hv) (fun hg=>by dsimp only[Option.getD];omega))) fun _ _=>QE 1 [0] rfl<|Qw<|QA<|QC<|QE 2 [4] rfl<|Qw<|QO<|Qb rfl fun E w' hm=> ?_
   exact⟨_,rfl,by have:=hm.rowFresh lr (l:=1) rfl;rw[Nat.zero_mul,List.take_zero]at this;exact this,hm.below lr⟩
  ·
   refine QI<|Qw<|QA<|QC<|QE 2 [4] rfl<|Qw<|QO<|Qb rfl fun E w' hm=> ?_
   exact⟨_,rfl,World.ownsRow_nil w' w.heap.size _ _,hm.below lr⟩
abbrev ctL(L:List (Sl Hold)):List Hold:=L.flatMap (·.l)
theorem znm{L:List (Sl Hold)}{k:Nat}{s:Sl Hold}(h:L[k]? =some s):ctL (L.take (k+1))=ctL (L.take k)++s.l:=by
 rw[z0y h,ctL,List.flatMap_append];simp
theorem j7f(L:List (Sl Hold))(k:Nat):(ctL (L.take k)).length≤(ctL L).length:=by
 have:=congrArg (fun q:List (Sl Hold)=>(ctL q).length) (List.take_append_drop k L)
 simp only[ctL,List.flatMap_append,List.length_append]at this⊢
 omega
theorem zvx(V:Vw)(sv:Value)(L:List (Sl Hold))(w:World)(hV:V.le (vw w))(hs0:SlOf V Sl.enc 1 sv L)(hL: ∀s∈L,SlOf V Hold.cells 4 s.v s.l)(hn:L.length≤1000)(hc:(ctL L).length≤1048576):
  Cl 195 #[sv] w fun e w'=> ∃v',e= .returned v'∧w'.ownsRow w.heap.size 196 4 v' (ctL L).length ((ctL L).flatMap Hold.cells)∧Below w.heap.size w w':=by
 have hs:=hs0.mono hV
 have hle:=j7f L
 refine Qf [.a (.v sv)] Tryz.func195 rfl<|QA<|QC<|QE 1 [0] rfl<|Qw<|QA<|QC<|QE 1 [0,3] rfl<|Qw<|QA<|QA<|QC<|Yy 1 rfl<|QY rfl (z0l tok rfl (fun hg=>hs.sl))<|QE 1 [0,3,9,10,11] rfl<|Qw<|QJ<|Ql [0,9,10] [] rfl rfl (σ:=Nat) (fun k=>[(3, .a (.v (I (ctL (L.take k)).length))),(11, .a (.v (I k)))]) (fun k=>[]) (fun k=>k≤L.length) (fun k=>L.length - k) (0) (by omega) ?_
 rintro k hk
 refine QA<|QC<|QE 1 [0,3,9,10,11,12] rfl<|Qw<|QA<|QX rfl (fun h=> ?_) fun h=> ?_
 ·
  refine QI<|Qw<|QA<|QJ<|QA<|QC ?_
  have hk1:=hle (k+1)
  have hk0:=hle k
  obtain⟨s,h_s⟩:=hs.at (k:=k) (by omega)
  have hlt_s:=z01 h_s
  refine QY rfl (z0c tok rfl (fun hg=>hs.sl) (fun hg=>⟨by omega,by omega⟩))<|QY rfl (z08 tok (k) 0 (s) rfl (fun hg=>hs) (fun hg=>h_s) rfl rfl)<|QE 1 [0,3,5,9,10,11] rfl<|Qw<|QA<|QC<|Yy 2 rfl ?_
  have hsl:=(hL s (List.mem_of_getElem? h_s)).mono hV
  have hcs:=znm h_s
  have hl1:(ctL (L.take (k+1))).length=(ctL (L.take k)).length+s.l.length:=by rw[hcs,List.length_append]
  have hws:IntKind.i64.wrap (((ctL (L.take k)).length:Int)+(s.l.length:Int))=((ctL (L.take (k+1))).length:Int):=by rw[hl1,z06 (by omega) (by omega)];omega
  have hwk:IntKind.i64.wrap ((k:Int)+1)=((k+1:Nat):Int):=z06 (by omega) (by omega)
  refine QY rfl (z0l tok rfl (fun hg=>hsl.sl))<|QE 2 [0,3,9,10,11] rfl<|Qw<|QA<|QC<|QE 2 [0,3,9,10,11,20] rfl<|Qw<|Qn rfl (fun h=> ?_) fun h=> ?_
  ·
   refine QC ?_
   exfalso
   rw[hws]at h;simp at h;omega
  ·
   refine QI<|QM<|Qw<|QC<|QE 2 [0,3,9,10,11] rfl<|Qw ?_
   rw[hws,hwk]
   refine Qr (k+1) (by omega)
 ·
  have hkL:k=L.length:=by omega
  subst hkL
  rw[List.take_length]
  clear h
  refine QN<|QK<|QK<|QQ<|Qw<|QA<|QC<|Yy 1 rfl<|QZ rfl (z2j 196 4 0 [] rfl zzt (fun E w1 hm=>j3k _ hc w1)) fun _ _=>QE 1 [0,6] rfl<|Qw<|QA<|QA<|QC<|Yy 1 rfl<|QY rfl (z0l tok rfl (fun hg=>hs.sl))<|QE 1 [6,25,26,27] rfl<|Qw<|QJ<|Ql [25,26] [0] rfl rfl (σ:=Nat) (fun k=>[(6, .a (.row 0)),(27, .a (.v (I k)))]) (fun k=>[(0, .row 196 4 (ctL (L.take k)).length ((ctL (L.take k)).flatMap Hold.cells))]) (fun k=>k≤L.length) (fun k=>L.length - k) (0) (by omega) ?_
  rintro k hk
  refine QA<|QC<|QE 1 [6,25,26,27,28] rfl<|Qw<|QA<|QX rfl (fun h=> ?_) fun h=> ?_
  ·
   refine QI<|Qw<|QA<|QJ<|QA<|QC ?_
   have hk1:=hle (k+1)
   obtain⟨s,h_s⟩:=hs.at (k:=k) (by omega)
   have hlt_s:=z01 h_s
   refine QY rfl (z0c tok rfl (fun hg=>hs.sl) (fun hg=>⟨by omega,by omega⟩))<|QY rfl (z08 tok (k) 0 (s) rfl (fun hg=>hs) (fun hg=>h_s) rfl rfl)<|QE 1 [6,8,25,26,27] rfl<|Qw<|QC<|Yy 2 rfl ?_
   have hsl:=(hL s (List.mem_of_getElem? h_s)).mono hV
   have hcs:=znm h_s
   have hl1:(ctL (L.take (k+1))).length=(ctL (L.take k)).length+s.l.length:=by rw[hcs,List.length_append]
   have hwk:IntKind.i64.wrap ((k:Int)+1)=((k+1:Nat):Int):=z06 (by omega) (by omega)
   refine QZ rfl (z0g tok (s.l.flatMap Hold.cells) rfl (fun E w1 hm=>hsl.sl.src hm.get) (fun _ _ _=>z0d s.l) (by dsimp only;omega)) fun _ _=>QE 1 [6,25,26,27] rfl<|QM<|Qw<|QC<|QE 2 [6,25,26,27] rfl<|Qw ?_
   rw[←hl1,←List.flatMap_append,←hcs,hwk]
   refine z00 0 1 rfl<|Qr (k+1) (by omega)
  ·
   have hkL:k=L.length:=by omega
   subst hkL
   rw[List.take_length]
   clear h
   refine QN<|QK<|QK<|QQ<|Qw<|QA<|QC<|QE 2 [2] rfl<|Qw<|QO<|Qb rfl fun E w' hm=> ?_
   exact⟨_,rfl,hm.rowFresh lr (l:=0) rfl,hm.below lr⟩
theorem zrs{l:List Hold}{k:Nat}{x:Hold}(key:Int)(h:l[k]? =some x):z9b (l.take (k+1)) key=z9b (l.take k) key+(if(x.key==key)=true then 1 else 0):=by
 rw[z0y h,zdp]
 cases hq:(x.key==key)<;>simp[z9b,hq]
theorem j28(l:List Hold)(key:Int):z9b l key≤l.length:=List.length_filter_le _ _
theorem zsy(a b:Sl Hold):ctL [a,b]=a.l++b.l:=by simp[ctL]
theorem zui(xb:Nat)(v1 v2:Value)(H Q:List Hold)(w:World)(hb:(vw w).get xb=some (.cells [v1,v2].toArray 68 (0,0)))(h1:SlOf (vw w) Hold.cells 4 v1 H)(h2:SlOf (vw w) Hold.cells 4 v2 Q)(hn:(H++Q).length≤1048576):
  Cl 195 #[.slice (some ⟨xb,0,none⟩) 2 2] w fun e w'=> ∃v',e= .returned v'∧w'.ownsRow w.heap.size 196 4 v' (H++Q).length ((H++Q).flatMap Hold.cells)∧Below w.heap.size w w':=by
 have h:=zvx (vw w) (.slice (some ⟨xb,0,none⟩) 2 2) [⟨v1,H⟩,⟨v2,Q⟩] w lr (SlOf.ofBlock (enc:=Sl.enc) (l:=[⟨v1,H⟩,⟨v2,Q⟩]) hb rfl (fun _=>rfl) (Nat.le_refl _)) (by intro s hs;simp only[List.mem_cons,List.not_mem_nil,or_false]at hs;rcases hs with rfl|rfl<;>first|exact h1|exact h2) (by simp) (by rw[zsy];exact hn)
 rw[zsy]at h
 exact h
theorem zmv(L:List Hold)(x:Hold):(⟨196,4,L.length+1,L.flatMap Hold.cells++x.cells⟩:Rw)=hoR (L++[x]):=by simp[hoR]
theorem zdu(t:Tb)(key:Int):(t.slot key).isSome=decide (0≤z5p t.S key):=by
 rcases z1x t key with⟨h1,h2⟩|⟨k,h1,h2,_⟩
 · rw[h1,h2];rfl
 · rw[h1,h2,decide_eq_true (by omega)];rfl
abbrev zep(c:Cmd):Hold:=⟨c.by_,c.lo,c.hi,c.mode⟩
theorem jab(g:Geo)(t:Tb)(ht:t.Fit)(hq1:t.Q.length+1≤100000)(c:Cmd)(E:Env)(V:Vw)(w:World)(hm0:Mem E (tbO g t) 4 V w):
  Cl 176 #[.pointer (some ⟨E.ρ 0,0,none⟩),c.val] w (z8m E g (t.ask g.blocks (zep c)) V w):=by
 have hsl:=ht.s
 have hh:=ht.h
 have hq:=ht.q
 have hlim:lim=4398046511104:=rfl
 have hm1:=z64 hm0
 have hal:(t.H++t.Q).length≤200000:=by rw[List.length_append];omega
 refine enter [.a (.ptr 0 0), .a (.v c.val)] Tryz.func176 rfl rfl (hm1) rfl rfl<|QA<|QC<|QE 1 [0,3] rfl<|Qw<|QA<|QC<|Yy 3 rfl<|Qc (.a (.v _)) rfl zdv (fun hg E w1 hm=>by exact zcv (vw w1) (E.ρ 0) (E.κ 1) (E.κ 2) (E.κ 3) g t.S c.by_ _ lr (hm.lit 0 _ _ rfl) (hm.rowOf 1 rfl (fun _=>rfl)) (by omega)) ?_
 refine QE 5 [0,3,5] rfl<|Qw<|QA<|QC<|Yy 8 rfl<|Qs rfl<|z07 [0,3,5,6] rfl<|Qw<|QA<|Ra rfl<|QT [0,1,2,3,4,5,6,7,8,9] rfl<|QS<|Qo 10<|zo3 10 rfl rfl rfl rfl rfl rfl (j8y tok rfl) (.inr fun x hx=>⟨(by repeat (first|exact oN|refine oC rfl ?_)),rfl,(by first|exact lr|exact hx.1)⟩) fun xb hxb=> ?_
 refine Qo 11<|Qg 11 rfl rfl (z2j 196 4 (t.H++t.Q).length ((t.H++t.Q).flatMap Hold.cells) rfl j0d (fun E w1 hm=>zui xb (E.κ 2) (E.κ 3) t.H t.Q w1 (by rw[←(hm.pin 9 8 xb rfl).1];exact hm.lit 8 _ _ rfl) (hm.rowOf 2 rfl (fun _=>rfl)) (hm.rowOf 3 rfl (fun _=>rfl)) (by omega))) fun _ _=> ?_
 refine Qx [12] rfl<|Qe [0,3,5,6,7] rfl<|Qw<|QA ?_
 obtain⟨L,hL⟩: ∃L,L=t.H++t.Q:=⟨_,rfl⟩
 rw[←hL]at hal⊢
 refine QC<|QE 1 [0,3,5,6,7,8] rfl<|Qw<|QA<|QA<|QC<|Yy 1 rfl<|QY rfl (z0p (s:= .a (.v (I L.length))) 10 rfl rfl (fun v V' hv=>z0l tok rfl (fun hg=>hv)))<|QE 1 [0,3,5,6,7,8,37,38,39] rfl<|Qw<|QJ<|Ql [0,3,5,6,7,37,38] [] rfl rfl (σ:=Nat) (fun k=>[(8, .a (.v (I (z9b (L.take k) c.by_)))),(39, .a (.v (I k)))]) (fun k=>[]) (fun k=>k≤L.length) (fun k=>L.length - k) (0) (by omega) ?_
 rintro k hk
 refine QA<|QC<|QE 1 [0,3,5,6,7,8,37,38,39,40] rfl<|Qw<|QA<|QX rfl (fun h=> ?_) fun h=> ?_
 ·
  refine QI<|Qw<|QA<|QJ<|QA<|QC ?_
  obtain⟨x,hx⟩:=atx (L:=L) (k:=k) (by omega)
  have hwk:IntKind.i64.wrap ((k:Int)+1)=((k+1:Nat):Int):=z06 (by omega) (by omega)
  have hown:=zrs c.by_ hx
  have hole:z9b (L.take k) c.by_≤k:=Nat.le_trans (j28 _ _) (by rw[List.length_take];omega)
  refine QY rfl (z0p (s:= .a (.rel 10 (k*4))) 10 rfl rfl (fun v V' hv=>z14 tok (k*4) rfl (by simp) (fun hg=>hv) (fun hg=>by omega)))<|QY rfl (z0p (s:= .agg (x.cells.map .v)) 10 rfl rfl (fun v V' hv=>z08 (enc:=Hold.cells) (l:=L) tok k 0 x rfl (fun hg=>⟨hv,fun _=>rfl⟩) (fun hg=>hx) rfl rfl))<|Yy 1 rfl<|Qs rfl<|z07 [0,3,5,6,7,8,10,37,38,39] rfl<|Qw<|QA<|QC<|QE 5 [0,3,5,6,7,8,37,38,39,47] rfl ?_
  refine Qw<|Qn rfl (fun h=> ?_) fun h=> ?_
  ·
   refine QC<|QE 3 [0,3,5,6,7,8,37,38,39] rfl<|QM<|Qw<|QC<|QE 2 [0,3,5,6,7,8,37,38,39] rfl<|Qw ?_
   rw[if_pos h]at hown
   have hwo:IntKind.i64.wrap ((z9b (L.take k) c.by_:Int)+1)=(z9b (L.take (k+1)) c.by_:Int):=by rw[hown,z06 (by omega) (by omega)];omega
   rw[hwo,hwk]
   refine Qr (k+1) (by omega)
  ·
   refine QI<|QM<|Qw<|QC<|QE 2 [0,3,5,6,7,8,37,38,39] rfl<|Qw ?_
   rw[if_neg (by rw[h];simp)]at hown
   rw[show z9b (L.take k) c.by_=z9b (L.take (k+1)) c.by_ by omega,hwk]
   refine Qr (k+1) (by omega)
 ·
  have hkl:k=L.length:=by omega
  subst hkl
  rw[List.take_length]
  clear h
  refine QN<|QK<|QK<|QQ<|Qw<|QA<|z11 mixed (by kernel_rfl)<|Dm 7 rfl ?_
  have hasks:t.asks g.blocks (zep c)=(((decide (0≤z5p t.S c.by_)&&zjh g.blocks (zep c))&& !z4c L c.by_ c.lo c.hi)&&decide ((z9b L c.by_:Int)<64)):=by
   rw[Tb.asks,zdu,hL,show decide (z9b (t.H++t.Q) c.by_<64)=decide (((z9b (t.H++t.Q) c.by_:Nat):Int)<64) by rw[decide_eq_decide];omega]
  refine Qq (.a (.v _)) rfl j0s (fun hg E w1 hm=>by exact zy8 g (zep c) _) ?_
  refine Dm 7 rfl<|Qq (.a (.v _)) rfl j1n (fun hg E w1 hm=>by exact zly (vw w1) (E.κ 10) L c.by_ c.lo c.hi _ lr (hm.rowOf 10 rfl (fun _=>rfl)) (by omega)) ?_
  refine Dm 6 rfl<|z1z [0,6,72] rfl<|Qw<|Qn rfl (fun h=> ?_) fun h=> ?_
  ·
   rw[Tb.ask,hasks,if_pos h]
   clear h
   refine QA<|Rb [8,12] rfl<|zaq 0 rfl (by kernel_rfl) rfl rfl rfl (fun _=>z72 tok rfl) rfl<|QD [1,2,3,4,5,6] rfl<|QS<|Qo 7<|Qg 7 rfl rfl (z1q tok 4 rfl rfl rfl) fun _ _=>Qo 8<|zo3 8 rfl rfl rfl rfl rfl rfl (z0g tok (Hold.cells (zep c)) rfl (fun E w hm=>z09 (hm.row _ _ _ _ _ rfl)) (fun _ _ _=>by simpa using z0d [(zep c)]) (by dsimp only[hoR];omega)) (.inl rfl) fun _ _=> ?_
   refine Qx [9,10,11] rfl<|Qo 12<|Qj 12 rfl<|Qe [0] rfl<|Qw<|QC<|Yy 1 rfl<|QZ rfl (z3y (lo:=0) (a:=1) (b:=2) (c:=12) (R1:=slR t.S) (R2:=hoR t.H) (R3:=hoR (t.Q++[(zep c)])) (fun _=>True) (slR t.S) (hoR (Tb.grant ⟨t.S,t.H,t.Q++[(zep c)]⟩).H) (hoR (Tb.grant ⟨t.S,t.H,t.Q++[(zep c)]⟩).Q) rfl zhe rfl rfl rfl (by rw[←zmv];rfl) ⟨⟨by decide,by decide⟩,by decide⟩ (fun E w hm hin hle=>zgv g ⟨t.S,t.H,t.Q++[(zep c)]⟩ ⟨by dsimp only;omega,by dsimp only;omega,by dsimp only;rw[List.length_append];dsimp only[List.length];omega⟩ (bkE E 0 1 2 12) _ w hin)) fun _ _=> ?_
   refine z07 [] rfl<|z55 tok rfl ?_
   intro E' w' hm _
   exact⟨_,rfl,trivial,z2i hm (by repeat (first|exact lr|assumption|(refine Vw.le.trans ?_ (by assumption)))) (a:=13) (b:=14) (c:=15) rfl rfl rfl rfl ⟨⟨by decide,by decide⟩,by decide⟩ rfl rfl⟩
  ·
   refine QI<|z55 tok rfl ?_
   rw[Tb.ask,hasks,if_neg (by rw[h];simp)]
   intro E' w' hm _
   exact⟨_,rfl,trivial,z2i hm (by repeat (first|exact lr|assumption|(refine Vw.le.trans ?_ (by assumption)))) (a:=1) (b:=2) (c:=3) rfl rfl rfl rfl ⟨⟨by decide,by decide⟩,by decide⟩ rfl rfl⟩
def z3j(V:Vw)(v:Value)(t:Tb):Prop:= ∃a n c a2 n2 c2 a3 n3 c3,v= .agg #[.slice a n c, .slice a2 n2 c2, .slice a3 n3 c3]∧SlOf V Slot.cells 2 (.slice a n c) t.S∧SlOf V Hold.cells 4 (.slice a2 n2 c2) t.H∧SlOf V Hold.cells 4 (.slice a3 n3 c3) t.Q
theorem z3j.mono{V V':Vw}{v:Value}{t:Tb}(h:z3j V v t)(hle:V.le V'):z3j V' v t:=by
 obtain⟨a,n,c,a2,n2,c2,a3,n3,c3,rfl,h1,h2,h3⟩:=h
 exact⟨a,n,c,a2,n2,c2,a3,n3,c3,rfl,h1.mono hle,h2.mono hle,h3.mono hle⟩
def z59(V:Vw)(t:Tb)(w:World)(e:Ending)(w':World):Prop:= ∃v V',e= .returned v∧Below w.heap.size w w'∧Vext w.heap.size V V' w'∧z3j V' v t
theorem z3j.out{V:Vw}{w w':World}(hV:V.le (vw w))(hb:Below w.heap.size w w'){v1 v2 v3:Value}{t:Tb}(h1:w'.ownsRow w.heap.size 66 2 v1 t.S.length (t.S.flatMap Slot.cells))(h2:w'.ownsRow w.heap.size 196 4 v2 t.H.length (t.H.flatMap Hold.cells))(h3:w'.ownsRow w.heap.size 196 4 v3 t.Q.length (t.Q.flatMap Hold.cells)):
  z59 V t w (.returned (.agg #[v1,v2,v3])) w':=by
 have s1:=SlOf.grown (enc:=Slot.cells) V h1 (fun _=>rfl)
 have s2:=SlOf.grown (enc:=Hold.cells) V h2 (fun _=>rfl)
 have s3:=SlOf.grown (enc:=Hold.cells) V h3 (fun _=>rfl)
 obtain⟨a,n,c,rfl⟩:=z04 s1.sl
 obtain⟨a2,n2,c2,rfl⟩:=z04 s2.sl
 obtain⟨a3,n3,c3,rfl⟩:=z04 s3.sl
 exact⟨_,_,rfl,hb,Vext.grown hV hb,_,_,_,_,_,_,_,_,_,rfl,s1,s2,s3⟩
theorem z3j.same{V:Vw}{w w':World}(hV:V.le (vw w))(hb:Below w.heap.size w w'){v:Value}{t:Tb}(h:z3j V v t):z59 V t w (.returned v) w':=⟨_,_,rfl,hb,Vext.grown hV hb,h.mono (Vext.grown hV hb).le⟩
def jbo(l:List Hold)(w:World)(e:Ending)(w':World):Prop:= ∃v',e= .returned v'∧w'.ownsRow w.heap.size 196 4 v' l.length (l.flatMap Hold.cells)∧Below w.heap.size w w'
theorem zb0(V:Vw)(g:Geo)(tv:Value)(t:Tb)(ht:t.Fit)(w:World)(hV:V.le (vw w))(h:z3j V tv t):
  Cl 161 #[g.val,tv] w fun ex w'=> ∃E',ex= .returned (.pointer (some ⟨E'.ρ 0,0,none⟩))∧w.heap.size≤w'.heap.size∧Mem E' (tbO g t) 4 (vw w) w':=by
 obtain⟨a,n,c,a2,n2,c2,a3,n3,c3,rfl,h1,h2,h3⟩:=h
 have hs:=ht.s
 have hh:=ht.h
 have hq:=ht.q
 have hm1:=(zhn E0 0 w).addSize
 refine enter [.a (.v g.val), .a (.v (.agg #[.slice a n c, .slice a2 n2 c2, .slice a3 n3 c3]))] Tryz.func161 rfl rfl (hm1) rfl rfl<|QA<|QC<|QE 3 [2,3] rfl<|Qw<|QA<|Ra rfl<|QT [0,1,3,4,6,7,10] rfl<|QS<|Qo 2<|Qg 2 rfl rfl (z2j 66 2 t.S.length (t.S.flatMap Slot.cells) rfl j02 (fun E w1 hm=>(zxw V _ t.S w1 (hV.trans hm.leV) h1 (by omega)).mono (fun e w' h=>h))) fun _ _=>Qo 5<|Qg 5 rfl rfl (z2j 196 4 t.H.length (t.H.flatMap Hold.cells) rfl ztb (fun E w1 hm=>(zmu V _ t.H w1 (hV.trans hm.leV) h2 (by omega)).mono (fun e w' h=>h))) fun _ _=> ?_
 refine Qo 8<|Qg 8 rfl rfl (z2j 196 4 t.Q.length (t.Q.flatMap Hold.cells) rfl ztb (fun E w1 hm=>(zmu V _ t.Q w1 (hV.trans hm.leV) h3 (by omega)).mono (fun e w' h=>h))) fun _ _=>Qx [9,11] rfl<|Qo 12<|Qk 12 rfl rfl rfl rfl<|Qx [13] rfl<|Qe [4] rfl<|Qw<|QO<|Qb rfl fun E' w' hm=> ?_
 exact⟨bkE E' 6 3 4 5,rfl,hm.big 0 _ rfl,zm1 hm rfl rfl rfl rfl (by decide) (by decide) (by decide)⟩
theorem zdz(w:World):Rt 160 #[] w (.agg #[.func (.func 174) #[] #[], .func (.func 175) #[] #[], .func (.func 176) #[] #[], .func (.func 177) #[] #[], .func (.func 178) #[] #[], .func (.func 179) #[] #[]]):=by
 refine Qf [] Tryz.func160 rfl<|QA<|QC<|QE 1 [0] rfl<|Qw<|QA<|QC<|QY rfl (j89 tok rfl)<|Qs rfl<|z07 [0] rfl<|Qw<|QO<|Qb rfl fun E w' hm=>⟨?_,hm.below lr⟩
 rfl
theorem zxq(V:Vw)(g:Geo)(tv:Value)(t:Tb)(ht:t.Fit)(hq1:t.Q.length+1≤100000)(c:Cmd)(hk:c.kind=0)(w:World)(hV:V.le (vw w))(h:z3j V tv t):
  Cl 145 #[g.val,tv,c.val] w (z59 V (t.apply g.blocks c) w):=by
 obtain⟨a,n,c0,a2,n2,c2,a3,n3,c3,rfl,h1,h2,h3⟩:=id h
 have hres:t.apply g.blocks c=t.mount c.by_:=by rw[Tb.apply,hk];rfl
 rw[hres]
 have hmc:=fun E V w hm=>j0c g t ht c E V w hm
 clear hres
 generalize t.mount c.by_=r at hmc⊢
 have hw:IntKind.i64.wrap c.kind=c.kind:=z06 (by omega) (by omega)
 refine Qf [.a (.v g.val), .a (.v (.agg #[.slice a n c0, .slice a2 n2 c2, .slice a3 n3 c3])), .a (.v c.val)] Tryz.func145 rfl<|QA<|QC<|QE 4 [3,4,5,6] rfl<|Qw<|QA<|QC<|Qc (.agg [.fn 174 [], .fn 175 [], .fn 176 [], .fn 177 [], .fn 178 [], .fn 179 []]) rfl z95 (fun hg E w1 hm=>by exact zdz _) ?_
 refine Yy 1 rfl<|Qs rfl<|z07 [3,4,5,6,7] rfl<|Qw<|QA<|QA<|QC<|QE 9 [3,4,5,6,7,18] rfl<|Qw<|Qn rfl (fun h=> ?_) fun h=> ?_
 ·
  rw[hw,hk]at h
  exact absurd h (by decide)
 ·
  clear h
  refine QI<|Qw<|QA<|QC<|Yy 2 rfl<|QZ rfl (z6m (e0:=247) (gs:=g.cells) (R1:=slR t.S) (R2:=hoR t.H) (R3:=hoR t.Q) rfl zag (fun E w1 hm=>zb0 V g _ t ht w1 (hV.trans hm.leV) (by assumption))) fun _ _=> ?_
  refine QE 1 [5,6,7,8] rfl<|Qw<|QA<|Rb [6] rfl<|QD [0,1] rfl<|Qu 2 rfl rfl (z9l tok 0 rfl (by rw[hk];rfl) (fun hg=>by rw[hk];decide)) ?_
  refine Qu 3 rfl rfl (zka tok (x:= .fn 174 []) rfl rfl (fun _=>rfl))<|QD [4,5] rfl<|QS<|Qo 6<|zo3 6 rfl rfl rfl rfl rfl rfl (z3y (lo:=5) (a:=6) (b:=7) (c:=8) (fun _=>True) (slR r.S) (hoR r.H) (hoR r.Q) rfl j3n rfl rfl rfl rfl ⟨⟨by decide,by decide⟩,by decide⟩ (fun E w hm hin hle=>hmc (bkE E 5 6 7 8) _ w hin)) (.inl rfl) fun _ _=>Qe [6,8] rfl<|Qw<|QA<|QC<|Yy 4 rfl<|Qs rfl<|z07 [6] rfl ?_
  refine Qw<|QO<|Qb rfl fun E' w' hm=> ?_
  exact z3j.out hV (hm.below lr) (hm.rowFresh lr (l:=9) rfl) (hm.rowFresh lr (l:=10) rfl)<|hm.rowFresh lr (l:=11) rfl
theorem zvj(V:Vw)(g:Geo)(tv:Value)(t:Tb)(ht:t.Fit)(hq1:t.Q.length+1≤100000)(c:Cmd)(hk:c.kind=1)(w:World)(hV:V.le (vw w))(h:z3j V tv t):
  Cl 145 #[g.val,tv,c.val] w (z59 V (t.apply g.blocks c) w):=by
 obtain⟨a,n,c0,a2,n2,c2,a3,n3,c3,rfl,h1,h2,h3⟩:=id h
 have hres:t.apply g.blocks c=t.leave c.by_:=by rw[Tb.apply,hk];rfl
 rw[hres]
 have hmc:=fun E V w hm=>zzx g t ht c E V w hm
 clear hres
 generalize t.leave c.by_=r at hmc⊢
 have hw:IntKind.i64.wrap c.kind=c.kind:=z06 (by omega) (by omega)
 refine Qf [.a (.v g.val), .a (.v (.agg #[.slice a n c0, .slice a2 n2 c2, .slice a3 n3 c3])), .a (.v c.val)] Tryz.func145 rfl<|QA<|QC<|QE 4 [3,4,5,6] rfl<|Qw<|QA<|QC<|Qc (.agg [.fn 174 [], .fn 175 [], .fn 176 [], .fn 177 [], .fn 178 [], .fn 179 []]) rfl z95 (fun hg E w1 hm=>by exact zdz _) ?_
 refine Yy 1 rfl<|Qs rfl<|z07 [3,4,5,6,7] rfl<|Qw<|QA<|QA<|QC<|QE 9 [3,4,5,6,7,18] rfl<|Qw<|Qn rfl (fun h=> ?_) fun h=> ?_
 ·
  rw[hw,hk]at h
  exact absurd h (by decide)
 ·
  clear h
  refine QI<|Qw<|QA<|QC<|Yy 2 rfl<|QZ rfl (z6m (e0:=247) (gs:=g.cells) (R1:=slR t.S) (R2:=hoR t.H) (R3:=hoR t.Q) rfl zag (fun E w1 hm=>zb0 V g _ t ht w1 (hV.trans hm.leV) (by assumption))) fun _ _=> ?_
  refine QE 1 [5,6,7,8] rfl<|Qw<|QA<|Rb [6] rfl<|QD [0,1] rfl<|Qu 2 rfl rfl (z9l tok 1 rfl (by rw[hk];rfl) (fun hg=>by rw[hk];decide)) ?_
  refine Qu 3 rfl rfl (zka tok (x:= .fn 175 []) rfl rfl (fun _=>rfl))<|QD [4,5] rfl<|QS<|Qo 6<|zo3 6 rfl rfl rfl rfl rfl rfl (z3y (lo:=5) (a:=6) (b:=7) (c:=8) (fun _=>True) (slR r.S) (hoR r.H) (hoR r.Q) rfl j1f rfl rfl rfl rfl ⟨⟨by decide,by decide⟩,by decide⟩ (fun E w hm hin hle=>hmc (bkE E 5 6 7 8) _ w hin)) (.inl rfl) fun _ _=>Qe [6,8] rfl<|Qw<|QA<|QC<|Yy 4 rfl<|Qs rfl<|z07 [6] rfl ?_
  refine Qw<|QO<|Qb rfl fun E' w' hm=> ?_
  exact z3j.out hV (hm.below lr) (hm.rowFresh lr (l:=9) rfl) (hm.rowFresh lr (l:=10) rfl)<|hm.rowFresh lr (l:=11) rfl
theorem zwb(V:Vw)(g:Geo)(tv:Value)(t:Tb)(ht:t.Fit)(hq1:t.Q.length+1≤100000)(c:Cmd)(hk:c.kind=2)(w:World)(hV:V.le (vw w))(h:z3j V tv t):
  Cl 145 #[g.val,tv,c.val] w (z59 V (t.apply g.blocks c) w):=by
 obtain⟨a,n,c0,a2,n2,c2,a3,n3,c3,rfl,h1,h2,h3⟩:=id h
 have hres:t.apply g.blocks c=t.ask g.blocks (zep c):=by rw[Tb.apply,hk];rfl
 rw[hres]
 have hmc:=fun E V w hm=>jab g t ht hq1 c E V w hm
 clear hres
 generalize t.ask g.blocks (zep c)=r at hmc⊢
 have hw:IntKind.i64.wrap c.kind=c.kind:=z06 (by omega) (by omega)
 refine Qf [.a (.v g.val), .a (.v (.agg #[.slice a n c0, .slice a2 n2 c2, .slice a3 n3 c3])), .a (.v c.val)] Tryz.func145 rfl<|QA<|QC<|QE 4 [3,4,5,6] rfl<|Qw<|QA<|QC<|Qc (.agg [.fn 174 [], .fn 175 [], .fn 176 [], .fn 177 [], .fn 178 [], .fn 179 []]) rfl z95 (fun hg E w1 hm=>by exact zdz _) ?_
 refine Yy 1 rfl<|Qs rfl<|z07 [3,4,5,6,7] rfl<|Qw<|QA<|QA<|QC<|QE 9 [3,4,5,6,7,18] rfl<|Qw<|Qn rfl (fun h=> ?_) fun h=> ?_
 ·
  rw[hw,hk]at h
  exact absurd h (by decide)
 ·
  clear h
  refine QI<|Qw<|QA<|QC<|Yy 2 rfl<|QZ rfl (z6m (e0:=247) (gs:=g.cells) (R1:=slR t.S) (R2:=hoR t.H) (R3:=hoR t.Q) rfl zag (fun E w1 hm=>zb0 V g _ t ht w1 (hV.trans hm.leV) (by assumption))) fun _ _=> ?_
  refine QE 1 [5,6,7,8] rfl<|Qw<|QA<|Rb [6] rfl<|QD [0,1] rfl<|Qu 2 rfl rfl (z9l tok 2 rfl (by rw[hk];rfl) (fun hg=>by rw[hk];decide)) ?_
  refine Qu 3 rfl rfl (zka tok (x:= .fn 176 []) rfl rfl (fun _=>rfl))<|QD [4,5] rfl<|QS<|Qo 6<|zo3 6 rfl rfl rfl rfl rfl rfl (z3y (lo:=5) (a:=6) (b:=7) (c:=8) (fun _=>True) (slR r.S) (hoR r.H) (hoR r.Q) rfl j13 rfl rfl rfl rfl ⟨⟨by decide,by decide⟩,by decide⟩ (fun E w hm hin hle=>hmc (bkE E 5 6 7 8) _ w hin)) (.inl rfl) fun _ _=>Qe [6,8] rfl<|Qw<|QA<|QC<|Yy 4 rfl<|Qs rfl<|z07 [6] rfl ?_
  refine Qw<|QO<|Qb rfl fun E' w' hm=> ?_
  exact z3j.out hV (hm.below lr) (hm.rowFresh lr (l:=9) rfl) (hm.rowFresh lr (l:=10) rfl)<|hm.rowFresh lr (l:=11) rfl
theorem zx9(V:Vw)(g:Geo)(tv:Value)(t:Tb)(ht:t.Fit)(hq1:t.Q.length+1≤100000)(c:Cmd)(hk:c.kind=3)(w:World)(hV:V.le (vw w))(h:z3j V tv t):
  Cl 145 #[g.val,tv,c.val] w (z59 V (t.apply g.blocks c) w):=by
 obtain⟨a,n,c0,a2,n2,c2,a3,n3,c3,rfl,h1,h2,h3⟩:=id h
 have hres:t.apply g.blocks c=t.free c.by_ c.lo c.hi:=by rw[Tb.apply,hk];rfl
 rw[hres]
 have hmc:=fun E V w hm=>j6h g t ht c E V w hm
 clear hres
 generalize t.free c.by_ c.lo c.hi=r at hmc⊢
 have hw:IntKind.i64.wrap c.kind=c.kind:=z06 (by omega) (by omega)
 refine Qf [.a (.v g.val), .a (.v (.agg #[.slice a n c0, .slice a2 n2 c2, .slice a3 n3 c3])), .a (.v c.val)] Tryz.func145 rfl<|QA<|QC<|QE 4 [3,4,5,6] rfl<|Qw<|QA<|QC<|Qc (.agg [.fn 174 [], .fn 175 [], .fn 176 [], .fn 177 [], .fn 178 [], .fn 179 []]) rfl z95 (fun hg E w1 hm=>by exact zdz _) ?_
 refine Yy 1 rfl<|Qs rfl<|z07 [3,4,5,6,7] rfl<|Qw<|QA<|QA<|QC<|QE 9 [3,4,5,6,7,18] rfl<|Qw<|Qn rfl (fun h=> ?_) fun h=> ?_
 ·
  rw[hw,hk]at h
  exact absurd h (by decide)
 ·
  clear h
  refine QI<|Qw<|QA<|QC<|Yy 2 rfl<|QZ rfl (z6m (e0:=247) (gs:=g.cells) (R1:=slR t.S) (R2:=hoR t.H) (R3:=hoR t.Q) rfl zag (fun E w1 hm=>zb0 V g _ t ht w1 (hV.trans hm.leV) (by assumption))) fun _ _=> ?_
  refine QE 1 [5,6,7,8] rfl<|Qw<|QA<|Rb [6] rfl<|QD [0,1] rfl<|Qu 2 rfl rfl (z9l tok 3 rfl (by rw[hk];rfl) (fun hg=>by rw[hk];decide)) ?_
  refine Qu 3 rfl rfl (zka tok (x:= .fn 177 []) rfl rfl (fun _=>rfl))<|QD [4,5] rfl<|QS<|Qo 6<|zo3 6 rfl rfl rfl rfl rfl rfl (z3y (lo:=5) (a:=6) (b:=7) (c:=8) (fun _=>True) (slR r.S) (hoR r.H) (hoR r.Q) rfl j2z rfl rfl rfl rfl ⟨⟨by decide,by decide⟩,by decide⟩ (fun E w hm hin hle=>hmc (bkE E 5 6 7 8) _ w hin)) (.inl rfl) fun _ _=>Qe [6,8] rfl<|Qw<|QA<|QC<|Yy 4 rfl<|Qs rfl<|z07 [6] rfl ?_
  refine Qw<|QO<|Qb rfl fun E' w' hm=> ?_
  exact z3j.out hV (hm.below lr) (hm.rowFresh lr (l:=9) rfl) (hm.rowFresh lr (l:=10) rfl)<|hm.rowFresh lr (l:=11) rfl
theorem zwk(V:Vw)(g:Geo)(tv:Value)(t:Tb)(ht:t.Fit)(hq1:t.Q.length+1≤100000)(c:Cmd)(hk:c.kind=4)(w:World)(hV:V.le (vw w))(h:z3j V tv t):
  Cl 145 #[g.val,tv,c.val] w (z59 V (t.apply g.blocks c) w):=by
 obtain⟨a,n,c0,a2,n2,c2,a3,n3,c3,rfl,h1,h2,h3⟩:=id h
 have hres:t.apply g.blocks c=t.claim c.by_ c.dead c.was:=by rw[Tb.apply,hk];rfl
 rw[hres]
 have hmc:=fun E V w hm=>j40 g t ht c E V w hm
 clear hres
 generalize t.claim c.by_ c.dead c.was=r at hmc⊢
 have hw:IntKind.i64.wrap c.kind=c.kind:=z06 (by omega) (by omega)
 refine Qf [.a (.v g.val), .a (.v (.agg #[.slice a n c0, .slice a2 n2 c2, .slice a3 n3 c3])), .a (.v c.val)] Tryz.func145 rfl<|QA<|QC<|QE 4 [3,4,5,6] rfl<|Qw<|QA<|QC<|Qc (.agg [.fn 174 [], .fn 175 [], .fn 176 [], .fn 177 [], .fn 178 [], .fn 179 []]) rfl z95 (fun hg E w1 hm=>by exact zdz _) ?_
 refine Yy 1 rfl<|Qs rfl<|z07 [3,4,5,6,7] rfl<|Qw<|QA<|QA<|QC<|QE 9 [3,4,5,6,7,18] rfl<|Qw<|Qn rfl (fun h=> ?_) fun h=> ?_
 ·
  rw[hw,hk]at h
  exact absurd h (by decide)
 ·
  clear h
  refine QI<|Qw<|QA<|QC<|Yy 2 rfl<|QZ rfl (z6m (e0:=247) (gs:=g.cells) (R1:=slR t.S) (R2:=hoR t.H) (R3:=hoR t.Q) rfl zag (fun E w1 hm=>zb0 V g _ t ht w1 (hV.trans hm.leV) (by assumption))) fun _ _=> ?_
  refine QE 1 [5,6,7,8] rfl<|Qw<|QA<|Rb [6] rfl<|QD [0,1] rfl<|Qu 2 rfl rfl (z9l tok 4 rfl (by rw[hk];rfl) (fun hg=>by rw[hk];decide)) ?_
  refine Qu 3 rfl rfl (zka tok (x:= .fn 178 []) rfl rfl (fun _=>rfl))<|QD [4,5] rfl<|QS<|Qo 6<|zo3 6 rfl rfl rfl rfl rfl rfl (z3y (lo:=5) (a:=6) (b:=7) (c:=8) (fun _=>True) (slR r.S) (hoR r.H) (hoR r.Q) rfl zzp rfl rfl rfl rfl ⟨⟨by decide,by decide⟩,by decide⟩ (fun E w hm hin hle=>hmc (bkE E 5 6 7 8) _ w hin)) (.inl rfl) fun _ _=>Qe [6,8] rfl<|Qw<|QA<|QC<|Yy 4 rfl<|Qs rfl<|z07 [6] rfl ?_
  refine Qw<|QO<|Qb rfl fun E' w' hm=> ?_
  exact z3j.out hV (hm.below lr) (hm.rowFresh lr (l:=9) rfl) (hm.rowFresh lr (l:=10) rfl)<|hm.rowFresh lr (l:=11) rfl
theorem zw4(V:Vw)(g:Geo)(tv:Value)(t:Tb)(ht:t.Fit)(hq1:t.Q.length+1≤100000)(c:Cmd)(hk:c.kind=5)(w:World)(hV:V.le (vw w))(h:z3j V tv t):
  Cl 145 #[g.val,tv,c.val] w (z59 V (t.apply g.blocks c) w):=by
 obtain⟨a,n,c0,a2,n2,c2,a3,n3,c3,rfl,h1,h2,h3⟩:=id h
 have hres:t.apply g.blocks c=t.purge c.by_ c.dead:=by rw[Tb.apply,hk];rfl
 rw[hres]
 have hmc:=fun E V w hm=>j2o g t ht c E V w hm
 clear hres
 generalize t.purge c.by_ c.dead=r at hmc⊢
 have hw:IntKind.i64.wrap c.kind=c.kind:=z06 (by omega) (by omega)
 refine Qf [.a (.v g.val), .a (.v (.agg #[.slice a n c0, .slice a2 n2 c2, .slice a3 n3 c3])), .a (.v c.val)] Tryz.func145 rfl<|QA<|QC<|QE 4 [3,4,5,6] rfl<|Qw<|QA<|QC<|Qc (.agg [.fn 174 [], .fn 175 [], .fn 176 [], .fn 177 [], .fn 178 [], .fn 179 []]) rfl z95 (fun hg E w1 hm=>by exact zdz _) ?_
 refine Yy 1 rfl<|Qs rfl<|z07 [3,4,5,6,7] rfl<|Qw<|QA<|QA<|QC<|QE 9 [3,4,5,6,7,18] rfl<|Qw<|Qn rfl (fun h=> ?_) fun h=> ?_
 ·
  rw[hw,hk]at h
  exact absurd h (by decide)
 ·
  clear h
  refine QI<|Qw<|QA<|QC<|Yy 2 rfl<|QZ rfl (z6m (e0:=247) (gs:=g.cells) (R1:=slR t.S) (R2:=hoR t.H) (R3:=hoR t.Q) rfl zag (fun E w1 hm=>zb0 V g _ t ht w1 (hV.trans hm.leV) (by assumption))) fun _ _=> ?_
  refine QE 1 [5,6,7,8] rfl<|Qw<|QA<|Rb [6] rfl<|QD [0,1] rfl<|Qu 2 rfl rfl (z9l tok 5 rfl (by rw[hk];rfl) (fun hg=>by rw[hk];decide)) ?_
  refine Qu 3 rfl rfl (zka tok (x:= .fn 179 []) rfl rfl (fun _=>rfl))<|QD [4,5] rfl<|QS<|Qo 6<|zo3 6 rfl rfl rfl rfl rfl rfl (z3y (lo:=5) (a:=6) (b:=7) (c:=8) (fun _=>True) (slR r.S) (hoR r.H) (hoR r.Q) rfl j0u rfl rfl rfl rfl ⟨⟨by decide,by decide⟩,by decide⟩ (fun E w hm hin hle=>hmc (bkE E 5 6 7 8) _ w hin)) (.inl rfl) fun _ _=>Qe [6,8] rfl<|Qw<|QA<|QC<|Yy 4 rfl<|Qs rfl<|z07 [6] rfl ?_
  refine Qw<|QO<|Qb rfl fun E' w' hm=> ?_
  exact z3j.out hV (hm.below lr) (hm.rowFresh lr (l:=9) rfl) (hm.rowFresh lr (l:=10) rfl)<|hm.rowFresh lr (l:=11) rfl
theorem zx7(V:Vw)(g:Geo)(tv:Value)(t:Tb)(c:Cmd)(hk:c.kind<0∨6≤c.kind)(hck: -128≤c.kind∧c.kind≤127)(w:World)(hV:V.le (vw w))(h:z3j V tv t):
  Cl 145 #[g.val,tv,c.val] w (z59 V (t.apply g.blocks c) w):=by
 obtain⟨a,n,c0,a2,n2,c2,a3,n3,c3,rfl,h1,h2,h3⟩:=id h
 have hres:t.apply g.blocks c=t:=by rw[Tb.apply,if_neg (by omega),if_neg (by omega),if_neg (by omega),if_neg (by omega),if_neg (by omega),if_neg (by omega)]
 rw[hres]
 have hw:IntKind.i64.wrap c.kind=c.kind:=z06 (by omega) (by omega)
 refine Qf [.a (.v g.val), .a (.v (.agg #[.slice a n c0, .slice a2 n2 c2, .slice a3 n3 c3])), .a (.v c.val)] Tryz.func145 rfl<|QA<|QC<|QE 4 [3,4,5,6] rfl<|Qw<|QA<|QC<|Qc (.agg [.fn 174 [], .fn 175 [], .fn 176 [], .fn 177 [], .fn 178 [], .fn 179 []]) rfl z95 (fun hg E w1 hm=>by exact zdz _) ?_
 refine Yy 1 rfl<|Qs rfl<|z07 [3,4,5,6,7] rfl<|Qw<|QA<|QA<|QC<|QE 9 [3,4,5,6,7,18] rfl<|Qw<|Qn rfl (fun h=> ?_) fun h=> ?_
 ·
  refine QA<|QC<|Yy 1 rfl<|Qs rfl<|z07 [6] rfl<|Qw<|QO<|QL<|Qb rfl fun E' w' hm=> ?_
  exact z3j.same hV (hm.below lr) (by assumption)
 ·
  rw[hw]at h
  simp only[Bool.or_eq_false_iff,decide_eq_false_iff_not]at h
  omega
theorem zzu(V:Vw)(g:Geo)(tv:Value)(t:Tb)(ht:t.Fit)(hq1:t.Q.length+1≤100000)(c:Cmd)(hck: -128≤c.kind∧c.kind≤127)(w:World)(hV:V.le (vw w))(h:z3j V tv t):
  Cl 145 #[g.val,tv,c.val] w (z59 V (t.apply g.blocks c) w):=by
 rcases(by omega:(c.kind<0∨6≤c.kind)∨c.kind=0∨c.kind=1∨c.kind=2∨c.kind=3∨c.kind=4∨c.kind=5)with hk|hk|hk|hk|hk|hk|hk
 · exact zx7 V g tv t c hk hck w hV h
 · exact zxq V g tv t ht hq1 c hk w hV h
 · exact zvj V g tv t ht hq1 c hk w hV h
 · exact zwb V g tv t ht hq1 c hk w hV h
 · exact zx9 V g tv t ht hq1 c hk w hV h
 · exact zwk V g tv t ht hq1 c hk w hV h
 · exact zw4 V g tv t ht hq1 c hk w hV h
end Go.Proofs.YtkoiogkdiifgfaaGreat
