import Derived.Test.YtkoiogkdiifgfaaGreatMTSl
import Derived.Test.YtkoiogkdiifgfaaGreatEng36
import Derived.Test.YtkoiogkdiifgfaaGreatEng31
set_option linter.unusedSectionVars false
/- Tables, the document's: which may be. -/
set_option linter.unusedVariables false
set_option linter.unusedSimpArgs false
set_option maxRecDepth 100000
namespace Go.Proofs.YtkoiogkdiifgfaaGreat
open Go Go.Eng Go.RowKit
theorem zme{S:List Slot}{key:Int}{i:Nat}{x:Slot}(hk:1≤key)(hx:S[i]? =some x)(he:x.key=key)(hall: ∀(j:Nat) (y:Slot),j<i→S[j]? =some y→(y.key==key)=false):z5p S key=i:=by
 rw[z5p,if_neg (by omega),z3r,findIdx?_at hx (by simp[he]) hall]
theorem zqg{S:List Slot}{key:Int}(hk: ¬1≤key):z5p S key= -1:=by rw[z5p,if_pos (by omega)]
theorem zxk{S:List Slot}{key:Int}(hall: ∀(j:Nat) (y:Slot),S[j]? =some y→(y.key==key)=false):z5p S key= -1:=by
 rw[z5p]
 split
 · rfl
 · rw[z3r,findIdx?_no (fun j y _ hy=>hall j y hy)]
theorem z3v(V:Vw)(a:Option Addr)(n c:Nat)(hv qv:Value)(S:List Slot)(key:Int)(w:World)(hV:V.le (vw w))(hs0:SlOf V Slot.cells 2 (.slice a n c) S)(hn:S.length≤lim):
  Rt 121 #[.agg #[.slice a n c,hv,qv],I key] w (.tuple #[I (max (z5p S key) 0), .bool (decide (0≤z5p S key))]):=by
 unfold lim at hn
 have hs:=hs0.mono hV
 refine Qf [.a (.v (.agg #[.slice a n c,hv,qv])), .a (.v (I key))] Tryz.func121 rfl<|QA<|QC<|QE 3 [1,2] rfl<|Qw<|QA<|QA<|QC<|QE 1 [1,2,6] rfl<|Qw<|QJ<|Ql [1,2] [] rfl rfl (σ:=Nat) (fun i=>[(6, .a (.v (I i)))]) (fun i=>[]) (fun i=>i≤S.length∧(1≤key→ ∀(j:Nat) (y:Slot),j<i→S[j]? =some y→(y.key==key)=false)) (fun i=>S.length - i) (0) (⟨by omega,fun _ j x hj=>by omega⟩) ?_
 rintro i ⟨hi,hall⟩
 refine QA<|QA<|QC<|Yy 3 rfl<|QY rfl (z0l tok rfl (fun hg=>hs.sl))<|QE 1 [1,2,6,11] rfl<|Qw<|QX rfl (fun h=> ?_) fun h=> ?_
 ·
  obtain⟨x,hx⟩:=atx (L:=S) (k:=i) (by omega)
  refine QI<|Qw<|QA<|QJ<|QA<|QC<|Yy 6 rfl<|QY rfl (z0c tok rfl (fun hg=>hs.sl) (fun hg=>⟨by omega,by omega⟩))<|QY rfl (z1f tok rfl (fun hg=>hs.sl) (fun hg=>by omega))<|QY rfl (z08 tok i 0 x rfl (fun hg=>hs) (fun hg=>hx) rfl rfl)<|QE 3 [1,2,6,25] rfl<|Qw<|Qn rfl (fun h=> ?_) fun h=> ?_
  ·
   refine QA<|QC<|QE 3 [4,5] rfl<|Qw<|QO<|QP<|QL<|QL<|QP<|QL<|z0h tok rfl ?_
   have h2:1≤key∧x.key=key:=by simpa using h
   have h3:=zme h2.1 hx h2.2 (hall h2.1)
   intro E w' hm _
   refine⟨?_,hm.below lr⟩
   rw[h3,decide_eq_true (by omega),show max (i:Int) 0=i by omega];rfl
  ·
   refine QI<|QM<|Qw<|QC<|QE 3 [1,2,6] rfl<|Qw ?_
   have h2:1≤key→(x.key==key)=false:=by
    intro hk
    have:decide (1≤key)=true:=by simpa using hk
    rw[this]at h
    simpa using h
   rw[z06 (by omega) (by omega)]
   refine Qr (i+1)<|⟨by omega,fun hk=>z3q hx (hall hk) (h2 hk)⟩
 ·
  refine QN<|QK<|QK<|QQ<|Qw<|QA<|QC<|QE 2 [4,5] rfl<|Qw<|QO<|z0h tok rfl ?_
  have hil:i=S.length:=by omega
  have h3:z5p S key= -1:=by
   by_cases hk:1≤key
   · exact zxk fun j y hy=>hall hk j y (by rw[hil];exact z01 hy) hy
   · exact zqg hk
  intro E w' hm _
  refine⟨?_,hm.below lr⟩
  rw[h3];rfl
theorem j5e(V:Vw)(g1 tv:Value)(key:Int)(t:Tb)(w:World)(ht:t.Fit)(hV:V.le (vw w))(h:z3j V tv t):
  Cl 124 #[tv,I key] w (jbo ((t.H++t.Q).filter fun h=>h.key==key) w):=by
 obtain⟨a,n,c,a2,n2,c2,a3,n3,c3,rfl,h1,h2,h3⟩:=h
 have hh:=ht.h
 have hq:=ht.q
 have hH:=h2.mono hV
 have hQ:=h3.mono hV
 have hal:(t.H++t.Q).length≤200000:=by rw[List.length_append];omega
 refine Qf [.a (.v (.agg #[.slice a n c, .slice a2 n2 c2, .slice a3 n3 c3])), .a (.v (I key))] Tryz.func124 rfl<|QA<|QC<|QE 2 [1,2] rfl<|Qw<|QA<|QC<|QE 1 [1,2,5] rfl<|Qw<|QA<|Ra rfl<|QT [1,2,4,5] rfl<|QS<|Qo 0<|Qg 0 rfl rfl (z1q tok 4 rfl rfl rfl) fun _ _=>Qo 3<|Qg 3 rfl rfl (z0g (l:=1) (e:=196) (sz:=4) (by_:=32) (m:=0) (k:=t.H.length) (olds:=[]) tok (t.H.flatMap Hold.cells) rfl (fun E w1 hm=>hH.sl.src hm.get) (fun _ _ _=>z0d t.H) (by omega)) fun _ _=> ?_
 refine Qo 6<|Qg 6 rfl rfl (z0g (l:=2) (e:=196) (sz:=4) (by_:=32) (m:=0+t.H.length) (k:=t.Q.length) tok (t.Q.flatMap Hold.cells) rfl (fun E w1 hm=>hQ.sl.src hm.get) (fun _ _ _=>z0d t.Q) (by omega)) fun _ _=>Qx [7] rfl<|Qe [1,5,6] rfl<|Qw<|QA<|QA<|QC<|QE 1 [1,5,6,7] rfl<|Qw<|QJ ?_
 rw[Nat.zero_add t.H.length,List.nil_append,←List.length_append,←List.flatMap_append]
 obtain⟨L,hL⟩: ∃L,L=t.H++t.Q:=⟨_,rfl⟩
 rw[←hL]at hal⊢
 refine z6l 5 196 4 rfl rfl<|Ql [1,6] [4] rfl rfl (σ:=Nat) (fun k=>[(5, .a (.row 4)),(7, .a (.v (I k)))]) (fun k=>[(4, .row 196 4 ((L.take k).filter fun h=>h.key==key).length (((L.take k).filter fun h=>h.key==key).flatMap Hold.cells))]) (fun k=>k≤L.length) (fun k=>L.length - k) (0) (by omega) ?_
 rintro k hk
 refine QA<|QA<|QC<|Yy 2 rfl<|QY rfl (z0p (s:= .a (.v (I L.length))) 3 rfl rfl (fun v V' hv=>z0l tok rfl (fun hg=>hv)))<|QE 1 [1,5,6,7,18] rfl<|Qw<|QX rfl (fun h=> ?_) fun h=> ?_
 ·
  refine QI<|Qw<|QA<|QJ<|QA<|QC<|Yy 2 rfl ?_
  obtain⟨x,hx⟩:=atx (L:=L) (k:=k) (by omega)
  have hwk:IntKind.i64.wrap ((k:Int)+1)=((k+1:Nat):Int):=z06 (by omega) (by omega)
  have hft:(L.take (k+1)).filter (fun h=>h.key==key)=(L.take k).filter (fun h=>h.key==key)++(if(x.key==key)=true then [x]else []):=by
   rw[z0y hx,List.filter_append]
   cases hq:(x.key==key)<;>simp[hq]
  have hfl:((L.take k).filter fun h=>h.key==key).length≤k:=Nat.le_trans (List.length_filter_le _ _) (by rw[List.length_take];omega)
  refine QY rfl (z0p (s:= .a (.rel 3 (k*4))) 3 rfl rfl (fun v V' hv=>z14 tok (k*4) rfl (by simp) (fun hg=>hv) (fun hg=>by omega)))<|QY rfl (z0p (s:= .a (.rel 3 (k*4))) 3 rfl rfl (fun v V' hv=>z1f tok rfl (fun hg=>hv) (fun hg=>by omega)))<|QY rfl (z0p (s:= .a (.v (I x.key))) 3 rfl rfl (fun v V' hv=>z08 (enc:=Hold.cells) (l:=L) tok k 0 x rfl (fun hg=>⟨hv,fun _=>rfl⟩) (fun hg=>hx) rfl rfl)) ?_
  refine QE 2 [1,5,6,7,27] rfl<|Qw<|Qn rfl (fun h=> ?_) fun h=> ?_
  ·
   refine QC<|Yy 3 rfl ?_
   rw[if_pos h]at hft
   clear h
   refine QY rfl (z0p (s:= .a (.rel 3 (k*4))) 3 rfl rfl (fun v V' hv=>z14 tok (k*4) rfl (by simp) (fun hg=>hv) (fun hg=>by omega)))<|QY rfl (z0p (s:= .agg (x.cells.map .v)) 3 rfl rfl (fun v V' hv=>z08 (enc:=Hold.cells) (l:=L) tok k 0 x rfl (fun hg=>⟨hv,fun _=>rfl⟩) (fun hg=>hx) rfl rfl))<|QZ rfl (z1q tok 4 rfl rfl rfl) fun _ _=>QZ rfl (z0g tok x.cells rfl (fun E w hm=>z09 (hm.row _ _ _ _ _ rfl)) (fun _ _ _=>by simpa using z0d [x]) (by dsimp only;omega)) fun _ _=> ?_
   refine QE 1 [1,5,6,7] rfl<|QM<|Qw<|QC<|QE 3 [1,5,6,7] rfl<|Qw ?_
   rw[(z2k _ x).1,(z2k _ x).2,←hft,hwk]
   refine z00 4 6 rfl<|Qr (k+1) (by omega)
  ·
   refine QI<|QM<|Qw<|QC<|QE 3 [1,5,6,7] rfl<|Qw ?_
   rw[if_neg (by rw[h];simp),List.append_nil]at hft
   rw[←hft,hwk]
   refine Qr (k+1) (by omega)
 ·
  have hkl:k=L.length:=by omega
  subst hkl
  rw[List.take_length]
  clear h
  refine QN<|QK<|QK<|QQ<|Qw<|QA<|QC<|QE 2 [4] rfl<|Qw<|QO<|Qb rfl fun E' w' hm=> ?_
  exact⟨_,rfl,hm.rowFresh lr (l:=4) rfl,hm.below lr⟩
theorem z8x(V:Vw)(tv:Value)(t:Tb)(w:World)(ht:t.Fit)(hV:V.le (vw w))(h:z3j V tv t):
  Cl 122 #[tv] w (zq1 w (fun _:Unit=>True) (fun _=> .agg [.row 4, .row 6, .row 8]) (fun _=>[(4,(slR t.S).cel),(6,(hoR t.H).cel),(8,(hoR t.Q).cel)]) 9):=by
 obtain⟨a,n,c,a2,n2,c2,a3,n3,c3,rfl,h1,h2,h3⟩:=h
 have hss:=ht.s
 have hh:=ht.h
 have hq:=ht.q
 have hS:=h1.mono hV
 have hH:=h2.mono hV
 have hQ:=h3.mono hV
 have hm1:=(zhn E0 0 w).addSize
 refine enter [.a (.v (.agg #[.slice a n c, .slice a2 n2 c2, .slice a3 n3 c3]))] Tryz.func122 rfl rfl (hm1) rfl rfl<|QA<|QC<|QE 2 [1,2] rfl<|Qw<|QA<|zy4 [13] (σ:=Unit) (fun _=>[(2, .a (.ptr 2 0))]) (fun _=>[(0, .size w.heap.size),(4, .row 66 2 (0+t.S.length) ([]++t.S.flatMap Slot.cells)),(6, .row 196 4 (0+t.H.length) ([]++t.H.flatMap Hold.cells)),(8, .row 196 4 (0+t.Q.length) ([]++t.Q.flatMap Hold.cells)),(2, .lit [.row 4, .row 6, .row 8] 70)]) (9) (fun _=>vw w) (fun _=>True) mixed rfl (by repeat (first|exact oN|refine oC rfl ?_)) rfl ?_ ?_
 ·
  refine QD [1,2,5,6,9,10] rfl<|QS<|z3m 0 4 8 (by kernel_rfl) ?_ ?_ ?_
  ·
   refine Qg 0 rfl rfl (z1q tok 2 rfl rfl rfl) fun _ _=>z3m 3 4 8 (by kernel_rfl) ?_ ?_ ?_
   ·
    refine Qg 3 rfl rfl (z0g (e:=66) (sz:=2) (by_:=16) (m:=0) (k:=t.S.length) (olds:=[]) tok (t.S.flatMap Slot.cells) rfl (fun E w1 hm=>hS.sl.src hm.get) (fun _ _ _=>z20 t.S) (by omega)) fun _ _=>Qz 4 8 ?_ ?_
    ·
     refine Qg 4 rfl rfl (z1q tok 4 rfl rfl rfl) fun _ _=>Qz 7 8 ?_ ?_
     ·
      refine Qg 7 rfl rfl (z0g (e:=196) (sz:=4) (by_:=32) (m:=0) (k:=t.H.length) (olds:=[]) tok (t.H.flatMap Hold.cells) rfl (fun E w1 hm=>hH.sl.src hm.get) (fun _ _ _=>z0d t.H) (by omega)) fun _ _=>Qo 8<|Qg 8 rfl rfl (z1q tok 4 rfl rfl rfl) fun _ _=>Qo 11<|Qg 11 rfl rfl (z0g (e:=196) (sz:=4) (by_:=32) (m:=0) (k:=t.Q.length) (olds:=[]) tok (t.Q.flatMap Hold.cells) rfl (fun E w1 hm=>hQ.sl.src hm.get) (fun _ _ _=>z0d t.Q) (by omega)) fun _ _=> ?_
      refine Qx [12] rfl<|Qo 13<|Qj 13 rfl<|Qe [2] rfl ?_
      exact Qm () trivial
     ·
      refine Qg 8 rfl rfl (z1q tok 4 rfl rfl rfl) fun _ _=>Qo 7<|Qg 7 rfl rfl (z0g (e:=196) (sz:=4) (by_:=32) (m:=0) (k:=t.H.length) (olds:=[]) tok (t.H.flatMap Hold.cells) rfl (fun E w1 hm=>hH.sl.src hm.get) (fun _ _ _=>z0d t.H) (by omega)) fun _ _=>Qo 11<|Qg 11 rfl rfl (z0g (e:=196) (sz:=4) (by_:=32) (m:=0) (k:=t.Q.length) (olds:=[]) tok (t.Q.flatMap Hold.cells) rfl (fun E w1 hm=>hQ.sl.src hm.get) (fun _ _ _=>z0d t.Q) (by omega)) fun _ _=> ?_
      refine Qx [12] rfl<|Qo 13<|Qj 13 rfl<|Qe [2] rfl<|z00 6 7 rfl ?_
      exact Qm () trivial
    ·
     refine Qg 8 rfl rfl (z1q tok 4 rfl rfl rfl) fun _ _=>Qo 4<|Qg 4 rfl rfl (z1q tok 4 rfl rfl rfl) fun _ _=>Qo 7<|Qg 7 rfl rfl (z0g (e:=196) (sz:=4) (by_:=32) (m:=0) (k:=t.H.length) (olds:=[]) tok (t.H.flatMap Hold.cells) rfl (fun E w1 hm=>hH.sl.src hm.get) (fun _ _ _=>z0d t.H) (by omega)) fun _ _=>Qo 11<|Qg 11 rfl rfl (z0g (e:=196) (sz:=4) (by_:=32) (m:=0) (k:=t.Q.length) (olds:=[]) tok (t.Q.flatMap Hold.cells) rfl (fun E w1 hm=>hQ.sl.src hm.get) (fun _ _ _=>z0d t.Q) (by omega)) fun _ _=> ?_
     refine Qx [12] rfl<|Qo 13<|Qj 13 rfl<|Qe [2] rfl<|z00 5 6 rfl<|z00 6 7 rfl ?_
     exact Qm () trivial
   ·
    refine Qg 4 rfl rfl (z1q tok 4 rfl rfl rfl) fun _ _=>Qz 3 8 ?_ ?_
    ·
     refine Qg 3 rfl rfl (z0g (e:=66) (sz:=2) (by_:=16) (m:=0) (k:=t.S.length) (olds:=[]) tok (t.S.flatMap Slot.cells) rfl (fun E w1 hm=>hS.sl.src hm.get) (fun _ _ _=>z20 t.S) (by omega)) fun _ _=>Qz 7 8 ?_ ?_
     ·
      refine Qg 7 rfl rfl (z0g (e:=196) (sz:=4) (by_:=32) (m:=0) (k:=t.H.length) (olds:=[]) tok (t.H.flatMap Hold.cells) rfl (fun E w1 hm=>hH.sl.src hm.get) (fun _ _ _=>z0d t.H) (by omega)) fun _ _=>Qo 8<|Qg 8 rfl rfl (z1q tok 4 rfl rfl rfl) fun _ _=>Qo 11<|Qg 11 rfl rfl (z0g (e:=196) (sz:=4) (by_:=32) (m:=0) (k:=t.Q.length) (olds:=[]) tok (t.Q.flatMap Hold.cells) rfl (fun E w1 hm=>hQ.sl.src hm.get) (fun _ _ _=>z0d t.Q) (by omega)) fun _ _=> ?_
      refine Qx [12] rfl<|Qo 13<|Qj 13 rfl<|Qe [2] rfl<|z00 4 5 rfl ?_
      exact Qm () trivial
     ·
      refine Qg 8 rfl rfl (z1q tok 4 rfl rfl rfl) fun _ _=>Qo 7<|Qg 7 rfl rfl (z0g (e:=196) (sz:=4) (by_:=32) (m:=0) (k:=t.H.length) (olds:=[]) tok (t.H.flatMap Hold.cells) rfl (fun E w1 hm=>hH.sl.src hm.get) (fun _ _ _=>z0d t.H) (by omega)) fun _ _=>Qo 11<|Qg 11 rfl rfl (z0g (e:=196) (sz:=4) (by_:=32) (m:=0) (k:=t.Q.length) (olds:=[]) tok (t.Q.flatMap Hold.cells) rfl (fun E w1 hm=>hQ.sl.src hm.get) (fun _ _ _=>z0d t.Q) (by omega)) fun _ _=> ?_
      refine Qx [12] rfl<|Qo 13<|Qj 13 rfl<|Qe [2] rfl<|z00 4 5 rfl<|z00 6 7 rfl ?_
      exact Qm () trivial
    ·
     refine Qg 8 rfl rfl (z1q tok 4 rfl rfl rfl) fun _ _=>Qo 3<|Qg 3 rfl rfl (z0g (e:=66) (sz:=2) (by_:=16) (m:=0) (k:=t.S.length) (olds:=[]) tok (t.S.flatMap Slot.cells) rfl (fun E w1 hm=>hS.sl.src hm.get) (fun _ _ _=>z20 t.S) (by omega)) fun _ _=>Qo 7<|Qg 7 rfl rfl (z0g (e:=196) (sz:=4) (by_:=32) (m:=0) (k:=t.H.length) (olds:=[]) tok (t.H.flatMap Hold.cells) rfl (fun E w1 hm=>hH.sl.src hm.get) (fun _ _ _=>z0d t.H) (by omega)) fun _ _=> ?_
     refine Qo 11<|Qg 11 rfl rfl (z0g (e:=196) (sz:=4) (by_:=32) (m:=0) (k:=t.Q.length) (olds:=[]) tok (t.Q.flatMap Hold.cells) rfl (fun E w1 hm=>hQ.sl.src hm.get) (fun _ _ _=>z0d t.Q) (by omega)) fun _ _=>Qx [12] rfl<|Qo 13<|Qj 13 rfl<|Qe [2] rfl<|z00 4 6 rfl<|z00 5 6 rfl<|z00 6 7 rfl ?_
     exact Qm () trivial
   ·
    refine Qg 8 rfl rfl (z1q tok 4 rfl rfl rfl) fun _ _=>Qz 3 4 ?_ ?_
    ·
     refine Qg 3 rfl rfl (z0g (e:=66) (sz:=2) (by_:=16) (m:=0) (k:=t.S.length) (olds:=[]) tok (t.S.flatMap Slot.cells) rfl (fun E w1 hm=>hS.sl.src hm.get) (fun _ _ _=>z20 t.S) (by omega)) fun _ _=>Qo 4<|Qg 4 rfl rfl (z1q tok 4 rfl rfl rfl) fun _ _=>Qo 7<|Qg 7 rfl rfl (z0g (e:=196) (sz:=4) (by_:=32) (m:=0) (k:=t.H.length) (olds:=[]) tok (t.H.flatMap Hold.cells) rfl (fun E w1 hm=>hH.sl.src hm.get) (fun _ _ _=>z0d t.H) (by omega)) fun _ _=> ?_
     refine Qo 11<|Qg 11 rfl rfl (z0g (e:=196) (sz:=4) (by_:=32) (m:=0) (k:=t.Q.length) (olds:=[]) tok (t.Q.flatMap Hold.cells) rfl (fun E w1 hm=>hQ.sl.src hm.get) (fun _ _ _=>z0d t.Q) (by omega)) fun _ _=>Qx [12] rfl<|Qo 13<|Qj 13 rfl<|Qe [2] rfl<|z00 4 5 rfl<|z00 5 6 rfl<|z00 6 7 rfl ?_
     exact Qm () trivial
    ·
     refine Qg 4 rfl rfl (z1q tok 4 rfl rfl rfl) fun _ _=>Qo 3<|Qg 3 rfl rfl (z0g (e:=66) (sz:=2) (by_:=16) (m:=0) (k:=t.S.length) (olds:=[]) tok (t.S.flatMap Slot.cells) rfl (fun E w1 hm=>hS.sl.src hm.get) (fun _ _ _=>z20 t.S) (by omega)) fun _ _=>Qo 7<|Qg 7 rfl rfl (z0g (e:=196) (sz:=4) (by_:=32) (m:=0) (k:=t.H.length) (olds:=[]) tok (t.H.flatMap Hold.cells) rfl (fun E w1 hm=>hH.sl.src hm.get) (fun _ _ _=>z0d t.H) (by omega)) fun _ _=> ?_
     refine Qo 11<|Qg 11 rfl rfl (z0g (e:=196) (sz:=4) (by_:=32) (m:=0) (k:=t.Q.length) (olds:=[]) tok (t.Q.flatMap Hold.cells) rfl (fun E w1 hm=>hQ.sl.src hm.get) (fun _ _ _=>z0d t.Q) (by omega)) fun _ _=>Qx [12] rfl<|Qo 13<|Qj 13 rfl<|Qe [2] rfl<|z00 4 6 rfl<|z00 6 7 rfl ?_
     exact Qm () trivial
  ·
   refine Qg 4 rfl rfl (z1q tok 4 rfl rfl rfl) fun _ _=>Qz 0 8 ?_ ?_
   ·
    refine Qg 0 rfl rfl (z1q tok 2 rfl rfl rfl) fun _ _=>Qz 3 8 ?_ ?_
    ·
     refine Qg 3 rfl rfl (z0g (e:=66) (sz:=2) (by_:=16) (m:=0) (k:=t.S.length) (olds:=[]) tok (t.S.flatMap Slot.cells) rfl (fun E w1 hm=>hS.sl.src hm.get) (fun _ _ _=>z20 t.S) (by omega)) fun _ _=>Qz 7 8 ?_ ?_
     ·
      refine Qg 7 rfl rfl (z0g (e:=196) (sz:=4) (by_:=32) (m:=0) (k:=t.H.length) (olds:=[]) tok (t.H.flatMap Hold.cells) rfl (fun E w1 hm=>hH.sl.src hm.get) (fun _ _ _=>z0d t.H) (by omega)) fun _ _=>Qo 8<|Qg 8 rfl rfl (z1q tok 4 rfl rfl rfl) fun _ _=>Qo 11<|Qg 11 rfl rfl (z0g (e:=196) (sz:=4) (by_:=32) (m:=0) (k:=t.Q.length) (olds:=[]) tok (t.Q.flatMap Hold.cells) rfl (fun E w1 hm=>hQ.sl.src hm.get) (fun _ _ _=>z0d t.Q) (by omega)) fun _ _=> ?_
      refine Qx [12] rfl<|Qo 13<|Qj 13 rfl<|Qe [2] rfl<|z00 3 4 rfl<|z00 4 5 rfl ?_
      exact Qm () trivial
     ·
      refine Qg 8 rfl rfl (z1q tok 4 rfl rfl rfl) fun _ _=>Qo 7<|Qg 7 rfl rfl (z0g (e:=196) (sz:=4) (by_:=32) (m:=0) (k:=t.H.length) (olds:=[]) tok (t.H.flatMap Hold.cells) rfl (fun E w1 hm=>hH.sl.src hm.get) (fun _ _ _=>z0d t.H) (by omega)) fun _ _=>Qo 11<|Qg 11 rfl rfl (z0g (e:=196) (sz:=4) (by_:=32) (m:=0) (k:=t.Q.length) (olds:=[]) tok (t.Q.flatMap Hold.cells) rfl (fun E w1 hm=>hQ.sl.src hm.get) (fun _ _ _=>z0d t.Q) (by omega)) fun _ _=> ?_
      refine Qx [12] rfl<|Qo 13<|Qj 13 rfl<|Qe [2] rfl<|z00 3 4 rfl<|z00 4 5 rfl<|z00 6 7 rfl ?_
      exact Qm () trivial
    ·
     refine Qg 8 rfl rfl (z1q tok 4 rfl rfl rfl) fun _ _=>Qo 3<|Qg 3 rfl rfl (z0g (e:=66) (sz:=2) (by_:=16) (m:=0) (k:=t.S.length) (olds:=[]) tok (t.S.flatMap Slot.cells) rfl (fun E w1 hm=>hS.sl.src hm.get) (fun _ _ _=>z20 t.S) (by omega)) fun _ _=>Qo 7<|Qg 7 rfl rfl (z0g (e:=196) (sz:=4) (by_:=32) (m:=0) (k:=t.H.length) (olds:=[]) tok (t.H.flatMap Hold.cells) rfl (fun E w1 hm=>hH.sl.src hm.get) (fun _ _ _=>z0d t.H) (by omega)) fun _ _=> ?_
     refine Qo 11<|Qg 11 rfl rfl (z0g (e:=196) (sz:=4) (by_:=32) (m:=0) (k:=t.Q.length) (olds:=[]) tok (t.Q.flatMap Hold.cells) rfl (fun E w1 hm=>hQ.sl.src hm.get) (fun _ _ _=>z0d t.Q) (by omega)) fun _ _=>Qx [12] rfl<|Qo 13<|Qj 13 rfl<|Qe [2] rfl<|z00 3 4 rfl<|z00 4 6 rfl<|z00 5 6 rfl<|z00 6 7 rfl ?_
     exact Qm () trivial
   ·
    refine Qg 8 rfl rfl (z1q tok 4 rfl rfl rfl) fun _ _=>Qo 0<|Qg 0 rfl rfl (z1q tok 2 rfl rfl rfl) fun _ _=>Qo 3<|Qg 3 rfl rfl (z0g (e:=66) (sz:=2) (by_:=16) (m:=0) (k:=t.S.length) (olds:=[]) tok (t.S.flatMap Slot.cells) rfl (fun E w1 hm=>hS.sl.src hm.get) (fun _ _ _=>z20 t.S) (by omega)) fun _ _=>Qo 7<|Qg 7 rfl rfl (z0g (e:=196) (sz:=4) (by_:=32) (m:=0) (k:=t.H.length) (olds:=[]) tok (t.H.flatMap Hold.cells) rfl (fun E w1 hm=>hH.sl.src hm.get) (fun _ _ _=>z0d t.H) (by omega)) fun _ _=> ?_
    refine Qo 11<|Qg 11 rfl rfl (z0g (e:=196) (sz:=4) (by_:=32) (m:=0) (k:=t.Q.length) (olds:=[]) tok (t.Q.flatMap Hold.cells) rfl (fun E w1 hm=>hQ.sl.src hm.get) (fun _ _ _=>z0d t.Q) (by omega)) fun _ _=>Qx [12] rfl<|Qo 13<|Qj 13 rfl<|Qe [2] rfl<|z00 3 5 rfl<|z00 4 6 rfl<|z00 6 7 rfl ?_
    exact Qm () trivial
  ·
   refine Qg 8 rfl rfl (z1q tok 4 rfl rfl rfl) fun _ _=>Qz 0 4 ?_ ?_
   ·
    refine Qg 0 rfl rfl (z1q tok 2 rfl rfl rfl) fun _ _=>Qz 3 4 ?_ ?_
    ·
     refine Qg 3 rfl rfl (z0g (e:=66) (sz:=2) (by_:=16) (m:=0) (k:=t.S.length) (olds:=[]) tok (t.S.flatMap Slot.cells) rfl (fun E w1 hm=>hS.sl.src hm.get) (fun _ _ _=>z20 t.S) (by omega)) fun _ _=>Qo 4<|Qg 4 rfl rfl (z1q tok 4 rfl rfl rfl) fun _ _=>Qo 7<|Qg 7 rfl rfl (z0g (e:=196) (sz:=4) (by_:=32) (m:=0) (k:=t.H.length) (olds:=[]) tok (t.H.flatMap Hold.cells) rfl (fun E w1 hm=>hH.sl.src hm.get) (fun _ _ _=>z0d t.H) (by omega)) fun _ _=> ?_
     refine Qo 11<|Qg 11 rfl rfl (z0g (e:=196) (sz:=4) (by_:=32) (m:=0) (k:=t.Q.length) (olds:=[]) tok (t.Q.flatMap Hold.cells) rfl (fun E w1 hm=>hQ.sl.src hm.get) (fun _ _ _=>z0d t.Q) (by omega)) fun _ _=>Qx [12] rfl<|Qo 13<|Qj 13 rfl<|Qe [2] rfl<|z00 3 4 rfl<|z00 4 5 rfl<|z00 5 6 rfl<|z00 6 7 rfl ?_
     exact Qm () trivial
    ·
     refine Qg 4 rfl rfl (z1q tok 4 rfl rfl rfl) fun _ _=>Qo 3<|Qg 3 rfl rfl (z0g (e:=66) (sz:=2) (by_:=16) (m:=0) (k:=t.S.length) (olds:=[]) tok (t.S.flatMap Slot.cells) rfl (fun E w1 hm=>hS.sl.src hm.get) (fun _ _ _=>z20 t.S) (by omega)) fun _ _=>Qo 7<|Qg 7 rfl rfl (z0g (e:=196) (sz:=4) (by_:=32) (m:=0) (k:=t.H.length) (olds:=[]) tok (t.H.flatMap Hold.cells) rfl (fun E w1 hm=>hH.sl.src hm.get) (fun _ _ _=>z0d t.H) (by omega)) fun _ _=> ?_
     refine Qo 11<|Qg 11 rfl rfl (z0g (e:=196) (sz:=4) (by_:=32) (m:=0) (k:=t.Q.length) (olds:=[]) tok (t.Q.flatMap Hold.cells) rfl (fun E w1 hm=>hQ.sl.src hm.get) (fun _ _ _=>z0d t.Q) (by omega)) fun _ _=>Qx [12] rfl<|Qo 13<|Qj 13 rfl<|Qe [2] rfl<|z00 3 4 rfl<|z00 4 6 rfl<|z00 6 7 rfl ?_
     exact Qm () trivial
   ·
    refine Qg 4 rfl rfl (z1q tok 4 rfl rfl rfl) fun _ _=>Qo 0<|Qg 0 rfl rfl (z1q tok 2 rfl rfl rfl) fun _ _=>Qo 3<|Qg 3 rfl rfl (z0g (e:=66) (sz:=2) (by_:=16) (m:=0) (k:=t.S.length) (olds:=[]) tok (t.S.flatMap Slot.cells) rfl (fun E w1 hm=>hS.sl.src hm.get) (fun _ _ _=>z20 t.S) (by omega)) fun _ _=>Qo 7<|Qg 7 rfl rfl (z0g (e:=196) (sz:=4) (by_:=32) (m:=0) (k:=t.H.length) (olds:=[]) tok (t.H.flatMap Hold.cells) rfl (fun E w1 hm=>hH.sl.src hm.get) (fun _ _ _=>z0d t.H) (by omega)) fun _ _=> ?_
    refine Qo 11<|Qg 11 rfl rfl (z0g (e:=196) (sz:=4) (by_:=32) (m:=0) (k:=t.Q.length) (olds:=[]) tok (t.Q.flatMap Hold.cells) rfl (fun E w1 hm=>hQ.sl.src hm.get) (fun _ _ _=>z0d t.Q) (by omega)) fun _ _=>Qx [12] rfl<|Qo 13<|Qj 13 rfl<|Qe [2] rfl<|z00 3 5 rfl<|z00 4 6 rfl<|z00 5 6 rfl<|z00 6 7 rfl ?_
    exact Qm () trivial
 rintro⟨⟩ -
 refine Qw<|QO<|z0h tok rfl ?_
 rw[Nat.zero_add t.S.length,Nat.zero_add t.H.length,Nat.zero_add t.Q.length,List.nil_append,List.nil_append,List.nil_append]
 intro E' w' hm _
 exact⟨(),E',rfl,trivial,rfl,hm.big 0 _ rfl,hm.weak (by repeat (first|exact oN|refine oC rfl ?_)) rfl lr⟩
abbrev zsv(t:Tb)(w:World):Ending→World→Prop:=zq1 w (fun _:Unit=>True) (fun _=> .agg [.row 7, .row 9, .row 13]) (fun _=>[(7,(slR t.S).cel),(9,(hoR t.grant.H).cel),(13,(hoR t.grant.Q).cel)]) 14
theorem za8(V:Vw)(tv:Value)(t:Tb)(w:World)(ht:t.Fit)(hV:V.le (vw w))(h:z3j V tv t):
  Cl 127 #[tv] w (zsv t w):=by
 have h0:=h
 obtain⟨a,n,c,a2,n2,c2,a3,n3,c3,rfl,h1,h2,h3⟩:=h
 have hh:=ht.h
 have hq:=ht.q
 have hlim:lim=4398046511104:=rfl
 have hQ:=h3.mono hV
 have hm1:=(zhn E0 0 w).addSize
 refine enter [.a (.v (.agg #[.slice a n c, .slice a2 n2 c2, .slice a3 n3 c3]))] Tryz.func127 rfl rfl (hm1) rfl rfl<|QA<|QC<|QE 2 [1,2] rfl<|Qw<|QA<|QC<|Yy 1 rfl<|QZ rfl (z3x (fun _:Unit=>True) (fun _=> .agg [.row 4, .row 6, .row 8]) (fun _=>[(4,(slR t.S).cel),(6,(hoR t.H).cel),(8,(hoR t.Q).cel)]) 9 rfl z9c (fun E w1 hm=>z8x V _ t w1 ht (hV.trans hm.leV) h0)) fun _ _=>Yy 1 rfl ?_
 refine Qs rfl<|z07 [1,2,3] rfl<|Qw<|QA<|QC<|Yy 1 rfl<|Qs rfl<|z07 [1,2,3] rfl<|Qw<|QA<|QA<|QC<|QE 1 [1,2,3,4] rfl<|Qw<|QJ<|z9r 12 2 196 4 rfl rfl<|Ql [1,2,3] [9,13] rfl rfl (σ:=Nat×List Hold×List Hold) (fun(k,A,B)=>[(4, .a (.v (I k)))]) (fun(k,A,B)=>[(9, .row 196 4 A.length (A.flatMap Hold.cells)),(13, .row 196 4 B.length (B.flatMap Hold.cells))]) (fun(k,A,B)=>k≤t.Q.length∧A.length+B.length=t.H.length+k∧z1d (t.Q.drop k) A B=z1d t.Q t.H []) (fun(k,A,B)=>t.Q.length - k) ((0,t.H,[])) (⟨by omega,by simp,rfl⟩) ?_
 rintro⟨k,A,B⟩ ⟨hk,hl,hgo⟩
 dsimp only at hk hl hgo⊢
 refine QA<|QA<|QC<|Yy 3 rfl<|QY rfl (z0l tok rfl (fun hg=>hQ.sl))<|QE 1 [1,2,3,4,13] rfl<|Qw<|QX rfl (fun h=> ?_) fun h=> ?_
 ·
  refine QI<|Qw<|QA<|QJ<|QA<|QC<|Yy 3 rfl ?_
  obtain⟨x,hx⟩:=atx (L:=t.Q) (k:=k) (by omega)
  rw[zft hx]at hgo
  have hwk:IntKind.i64.wrap ((k:Int)+1)=((k+1:Nat):Int):=z06 (by omega) (by omega)
  have hlt_x:=z01 hx
  refine QY rfl (z0c tok rfl (fun hg=>hQ.sl) (fun hg=>⟨by omega,by omega⟩))<|QY rfl (z08 tok (k) 0 (x) rfl (fun hg=>hQ) (fun hg=>hx) rfl rfl)<|Yy 1 rfl<|Qs rfl<|z07 [1,2,3,4,5] rfl<|Qw<|QA<|QC<|Yy 3 rfl<|Qc (.a (.v _)) rfl zu0 (fun hg E w1 hm=>by exact zjj (vw w1) x (E.κ 9) A _ lr (hm.rowOf 9 rfl (fun _=>rfl)) (by omega)) ?_
  refine Yy 4 rfl<|Qc (.a (.v _)) rfl zu0 (fun hg E w1 hm=>by exact zjj (vw w1) x (E.κ 13) B _ lr (hm.rowOf 13 rfl (fun _=>rfl)) (by omega)) ?_
  refine QE 1 [1,2,3,4,5,30] rfl<|Qw<|Qn rfl (fun h=> ?_) fun h=> ?_
  ·
   refine QC<|Yy 3 rfl ?_
   rw[if_pos h]at hgo
   clear h
   refine QZ rfl (z1q tok 4 rfl rfl rfl) fun _ _=>QZ rfl (z0g tok x.cells rfl (fun E w hm=>z09 (hm.row _ _ _ _ _ rfl)) (fun _ _ _=>by simpa using z0d [x]) (by dsimp only;omega)) fun _ _=> ?_
   refine Yy 1 rfl<|Qs rfl<|z07 [1,2,3,4] rfl<|QM<|Qw<|QC<|QE 3 [1,2,3,4] rfl<|Qw ?_
   rw[(z2k A x).1,(z2k A x).2,hwk]
   refine z00 9 16 rfl<|Qr ((k+1,A++[x],B))<|⟨by dsimp only;omega,by simp;omega,hgo⟩
  ·
   refine QC<|Yy 3 rfl ?_
   rw[if_neg (by rw[h];simp)]at hgo
   clear h
   refine QZ rfl (z1q tok 4 rfl rfl rfl) fun _ _=>QZ rfl (z0g tok x.cells rfl (fun E w hm=>z09 (hm.row _ _ _ _ _ rfl)) (fun _ _ _=>by simpa using z0d [x]) (by dsimp only;omega)) fun _ _=> ?_
   refine Yy 1 rfl<|Qs rfl<|z07 [1,2,3,4] rfl<|QM<|Qw<|QC<|QE 3 [1,2,3,4] rfl<|Qw ?_
   rw[(z2k B x).1,(z2k B x).2,hwk]
   refine z00 13 16 rfl<|Qr ((k+1,A,B++[x]))<|⟨by dsimp only;omega,by simp;omega,hgo⟩
 ·
  have hkl:k=t.Q.length:=by omega
  subst hkl
  rw[List.drop_length]at hgo
  have hA:t.grant=⟨t.S,A,B⟩:=by rw[Tb.grant,←hgo];rfl
  rw[zsv,hA]
  clear h hA
  refine QN<|QK<|QK<|QQ<|Qw<|QA<|QC<|Yy 1 rfl<|Qs rfl<|z07 [2] rfl<|Qw<|QO<|Qb rfl fun E' w' hm=> ?_
  exact⟨(),E',rfl,trivial,rfl,hm.big 0 _ rfl,hm.weak (by repeat (first|exact oN|refine oC rfl ?_)) rfl lr⟩
theorem z3j.rows{E:Env}{O:Go.Eng.Own}{nl:Nat}{V:Vw}{w:World}(hm:Mem E O nl V w)(a b c:Nat){t:Tb}(ha:lk O a=some (slR t.S).cel)(hb:lk O b=some (hoR t.H).cel)(hc:lk O c=some (hoR t.Q).cel):z3j (vw w) (.agg #[E.κ a,E.κ b,E.κ c]) t:=by
 have s1:=hm.rowOf (enc:=Slot.cells) (L:=t.S) a ha (fun _=>rfl)
 have s2:=hm.rowOf (enc:=Hold.cells) (L:=t.H) b hb (fun _=>rfl)
 have s3:=hm.rowOf (enc:=Hold.cells) (L:=t.Q) c hc (fun _=>rfl)
 obtain⟨x1,y1,z1,e1⟩:=z04 s1.sl
 obtain⟨x2,y2,z2,e2⟩:=z04 s2.sl
 obtain⟨x3,y3,z3,e3⟩:=z04 s3.sl
 exact⟨x1,y1,z1,x2,y2,z2,x3,y3,z3,by rw[e1,e2,e3],e1▸s1,e2▸s2,e3▸s3⟩
theorem zpf{l:List Hold}{k:Nat}{x:Hold}(pr:Hold→Bool)(h:l[k]? =some x):(l.take (k+1)).filter pr=(l.take k).filter pr++(if pr x=true then [x]else []):=by
 rw[z0y h,List.filter_append]
 cases hq:pr x<;>simp[hq]
theorem zg2(V:Vw)(sv:Value)(l:List Hold)(key:Int)(w:World)(hV:V.le (vw w))(hs0:SlOf V Hold.cells 4 sv l)(hn:l.length≤1000000):
  Cl 148 #[sv,I key] w (jbo (l.filter fun h=> !(h.key==key)) w):=by
 have hs:=hs0.mono hV
 refine Qf [.a (.v sv), .a (.v (I key))] Tryz.func148 rfl<|QA<|QC<|QE 1 [0,1] rfl<|Qw<|QA<|QC<|QE 1 [0,1,5] rfl<|Qw<|QA<|QA<|QC<|QE 1 [0,1,5,6] rfl<|Qw<|QJ<|z6l 5 196 4 rfl rfl<|Ql [0,1] [0] rfl rfl (σ:=Nat) (fun i=>[(5, .a (.row 0)),(6, .a (.v (I i)))]) (fun i=>[(0, .row 196 4 ((l.take i).filter fun h=> !(h.key==key)).length (((l.take i).filter fun h=> !(h.key==key)).flatMap Hold.cells))]) (fun i=>i≤l.length) (fun i=>l.length - i) (0) (by omega) ?_
 rintro i hi
 refine QA<|QA<|QC<|Yy 2 rfl<|QY rfl (z0l tok rfl (fun hg=>hs.sl))<|QE 1 [0,1,5,6,10] rfl<|Qw<|QX rfl (fun h=> ?_) fun h=> ?_
 ·
  obtain⟨x,h_x⟩:=atx (L:=l) (k:=i) (by omega)
  have hwi:IntKind.i64.wrap ((i:Int)+1)=((i+1:Nat):Int):=z06 (by omega) (by omega)
  have hfl:((l.take i).filter fun h=> !(h.key==key)).length≤i:=Nat.le_trans (List.length_filter_le _ _) (by rw[List.length_take];omega)
  have hft:=zpf (fun h=> !(h.key==key)) h_x
  refine QI<|Qw<|QA<|QJ<|QA<|QC<|Yy 2 rfl ?_
  have hlt_x:=z01 h_x
  refine QY rfl (z0c tok rfl (fun hg=>hs.sl) (fun hg=>⟨by omega,by omega⟩))<|QY rfl (z1f tok rfl (fun hg=>hs.sl) (fun hg=>by omega))<|QY rfl (z08 tok (i) 0 (x) rfl (fun hg=>hs) (fun hg=>h_x) rfl rfl)<|QE 2 [0,1,5,6,19] rfl<|Qw<|Qn rfl (fun h=> ?_) fun h=> ?_
  ·
   refine QC<|Yy 3 rfl ?_
   have h':(!(x.key==key))=true:=by simpa[bne]using h
   rw[if_pos h']at hft
   have hlt_x:=z01 h_x
   refine QY rfl (z0c tok rfl (fun hg=>hs.sl) (fun hg=>⟨by omega,by omega⟩))<|QY rfl (z08 tok (i) 0 (x) rfl (fun hg=>hs) (fun hg=>h_x) rfl rfl)<|QZ rfl (z1q tok 4 rfl rfl rfl) fun _ _=>QZ rfl (z0g tok x.cells rfl (fun E w hm=>z09 (hm.row _ _ _ _ _ rfl)) (fun _ _ _=>by simpa using z0d [x]) (by dsimp only;omega)) fun _ _=> ?_
   refine QE 1 [0,1,5,6] rfl<|QM<|Qw<|QC<|QE 3 [0,1,5,6] rfl<|Qw ?_
   rw[(z2k _ x).1,(z2k _ x).2,←hft,hwi]
   refine z00 0 2 rfl<|Qr (i+1) (by omega)
  ·
   refine QI<|QM<|Qw<|QC<|QE 3 [0,1,5,6] rfl<|Qw ?_
   have h': ¬(!(x.key==key))=true:=by simpa[bne]using h
   rw[if_neg h',List.append_nil]at hft
   rw[←hft,hwi]
   refine Qr (i+1) (by omega)
 ·
  refine QN<|QK<|QK<|QQ<|Qw<|QA<|QC<|QE 2 [4] rfl<|Qw<|QO<|z0h tok rfl ?_
  have hil:i=l.length:=by omega
  subst hil
  rw[List.take_length]
  intro E' w' hm _
  exact⟨_,rfl,hm.rowFresh lr (l:=0) rfl,hm.below lr⟩
theorem zq5(V:Vw)(sv:Value)(l:List Hold)(key lo hi:Int)(w:World)(hV:V.le (vw w))(hs0:SlOf V Hold.cells 4 sv l)(hn:l.length≤1000000):
  Rt 128 #[sv,I key, .agg #[I lo,I hi]] w (I (z3r (z3t key lo hi) l)):=by
 have hs:=hs0.mono hV
 refine Qf [.a (.v sv), .a (.v (I key)), .a (.v (.agg #[I lo,I hi]))] Tryz.func128 rfl<|QA<|QC<|QE 2 [0,1,5] rfl<|Qw<|QA<|QA<|QC<|QE 1 [0,1,5,7] rfl<|Qw<|QJ<|Ql [0,1,5] [] rfl rfl (σ:=Nat) (fun i=>[(7, .a (.v (I i)))]) (fun i=>[]) (fun i=>i≤l.length∧ ∀(j:Nat) (x:Hold),j<i→l[j]? =some x→z3t key lo hi x=false) (fun i=>l.length - i) (0) (⟨by omega,by simp⟩) ?_
 rintro i ⟨hil,hall⟩
 refine QA<|QA<|QC<|Yy 2 rfl<|QY rfl (z0l tok rfl (fun hg=>hs.sl))<|QE 1 [0,1,5,7,11] rfl<|Qw<|QX rfl (fun h=> ?_) fun h=> ?_
 ·
  obtain⟨x,h_x⟩:=atx (L:=l) (k:=i) (by omega)
  refine QI<|Qw<|QA<|QJ<|QA<|z11 mixed (by kernel_rfl)<|Dm 2 rfl ?_
  have hlt_x:=z01 h_x
  refine Qd rfl (z0c tok rfl (fun hg=>hs.sl) (fun hg=>⟨by omega,by omega⟩))<|Qd rfl (z1f tok rfl (fun hg=>hs.sl) (fun hg=>by omega))<|Qd rfl (z08 tok (i) 0 (x) rfl (fun hg=>hs) (fun hg=>h_x) rfl rfl)<|Dm 5 rfl ?_
  have hlt_x:=z01 h_x
  refine Qd rfl (z0c tok rfl (fun hg=>hs.sl) (fun hg=>⟨by omega,by omega⟩))<|Qd rfl (z1f tok rfl (fun hg=>hs.sl) (fun hg=>by omega))<|Qd rfl (z08 tok (i) 1 (x) rfl (fun hg=>hs) (fun hg=>h_x) rfl rfl)<|Dm 1 rfl<|Qd rfl (z60 (.bool (x.lo==lo&&x.hi==hi)) rfl (fun E w=>zt7 x.lo x.hi lo hi w (.inl rfl)))<|Dm 1 rfl<|z1z [0,1,5,7,29] rfl<|Qw<|Qn rfl (fun h=> ?_) fun h=> ?_
  ·
   refine QA<|QC<|QE 2 [6] rfl<|Qw<|QO<|QP<|QL<|QL<|QP<|QL<|z0h tok rfl ?_
   have h':z3t key lo hi x=true:=h
   intro E w' hm _
   refine⟨?_,hm.below lr⟩
   rw[z3r,findIdx?_at h_x h' hall];rfl
  ·
   refine QI<|QM<|Qw<|QC<|QE 3 [0,1,5,7] rfl<|Qw ?_
   have h':z3t key lo hi x=false:=h
   rw[z06 (by omega) (by omega)]
   refine Qr (i+1)<|⟨by omega,z3q h_x hall h'⟩
 ·
  refine QN<|QK<|QK<|QQ<|Qw<|QA<|QC<|QE 1 [6] rfl<|Qw<|QO<|z0h tok rfl ?_
  have hge:i=l.length:=by omega
  intro E w' hm _
  refine⟨?_,hm.below lr⟩
  rw[z3r,findIdx?_no (hge▸hall)];rfl
theorem znn(V:Vw)(tv:Value)(t:Tb)(k:Nat)(x:Slot)(hx:t.S[k]? =some x)(w:World)(ht:t.Fit)(hV:V.le (vw w))(h:z3j V tv t):
  Cl 123 #[tv,I k] w (zq1 w (fun _:Unit=>True) (fun _=> .agg [.row 22, .row 24, .row 28]) (fun _=>[(22,(slR (t.clear k).S).cel),(24,(hoR (t.clear k).H).cel),(28,(hoR (t.clear k).Q).cel)]) 29):=by
 have h0:=h
 obtain⟨a,n,c,a2,n2,c2,a3,n3,c3,rfl,h1,h2,h3⟩:=h
 have hss:=ht.s
 have hh:=ht.h
 have hq:=ht.q
 have hk:=z01 hx
 have hm1:=(zhn E0 0 w).addSize
 have hcl:t.clear k=Tb.grant ⟨t.S.set k ⟨0,0⟩,t.H.filter (fun h=> !(h.key==x.key)),t.Q.filter (fun h=> !(h.key==x.key))⟩:=by rw[Tb.clear,z5g hx]
 rw[hcl]
 refine enter [.a (.v (.agg #[.slice a n c, .slice a2 n2 c2, .slice a3 n3 c3])), .a (.v (I k))] Tryz.func123 rfl rfl (hm1) rfl rfl<|QA<|QC<|QE 2 [1,2,4] rfl<|Qw<|QA<|QC<|Yy 1 rfl<|QZ rfl (z3x (fun _:Unit=>True) (fun _=> .agg [.row 4, .row 6, .row 8]) (fun _=>[(4,(slR t.S).cel),(6,(hoR t.H).cel),(8,(hoR t.Q).cel)]) 9 rfl z9c (fun E w1 hm=>z8x V _ t w1 ht (hV.trans hm.leV) h0)) fun _ _=> ?_
 refine Yy 1 rfl<|Qs rfl<|z07 [1,4,5] rfl<|Qw<|QA<|QC<|Yy 3 rfl<|QY rfl (z0p (s:= .a (.rel 7 (k*2))) 7 rfl rfl (fun v V' hv=>z14 tok (k*2) rfl (by simp) (fun hg=>hv) (fun hg=>by first|omega|(dsimp only[slR];omega))))<|QY rfl (z0p (s:= .a (.rel 7 (k*2))) 7 rfl rfl (fun v V' hv=>z1f tok rfl (fun hg=>hv) (fun hg=>by first|omega|(dsimp only[slR];omega))))<|QY rfl (z0p (s:= .a (.v (I x.key))) 7 rfl rfl (fun v V' hv=>z08 (enc:=Slot.cells) (l:=t.S) tok k 0 x rfl (fun hg=>⟨hv,fun _=>rfl⟩) (fun hg=>hx) rfl rfl)) ?_
 refine QE 1 [1,4,5,6] rfl<|Qw<|QA<|QC<|Yy 3 rfl ?_
 obtain⟨H1,hH1⟩: ∃H1,H1=t.H.filter fun h=> !(h.key==x.key):=⟨_,rfl⟩
 obtain⟨Q1,hQ1⟩: ∃Q1,Q1=t.Q.filter fun h=> !(h.key==x.key):=⟨_,rfl⟩
 have hH1l:H1.length≤t.H.length:=by rw[hH1];exact List.length_filter_le _ _
 have hQ1l:Q1.length≤t.Q.length:=by rw[hQ1];exact List.length_filter_le _ _
 rw[←hH1,←hQ1]
 refine QZ rfl (z2j 196 4 H1.length (H1.flatMap Hold.cells) rfl zqd (fun E w1 hm=>by rw[hH1];exact zg2 (vw w1) (E.κ 9) t.H x.key w1 lr (hm.rowOf 9 rfl (fun _=>rfl)) (by omega))) fun _ _=> ?_
 refine Yy 1 rfl<|Qs rfl<|z07 [1,4,5,6] rfl<|Qw<|QA<|QC<|Yy 3 rfl<|QZ rfl (z2j 196 4 Q1.length (Q1.flatMap Hold.cells) rfl zqd (fun E w1 hm=>by rw[hQ1];exact zg2 (vw w1) (E.κ 11) t.Q x.key w1 lr (hm.rowOf 11 rfl (fun _=>rfl)) (by omega))) fun _ _=> ?_
 refine Yy 1 rfl<|Qs rfl<|z07 [1,4,5] rfl<|Qw<|QA<|QC<|Yy 4 rfl<|QY rfl (z0p (s:= .a (.rel 7 (k*2))) 7 rfl rfl (fun v V' hv=>z14 tok (k*2) rfl (by simp) (fun hg=>hv) (fun hg=>by first|omega|(dsimp only[slR];omega))))<|z2q rfl rfl rfl rfl (z5m tok rfl rfl (by simpa using z20 [⟨0,0⟩]) (by show k*2+2≤_;first|omega|(dsimp only[slR];omega)) (by first|omega|(dsimp only[slR];omega))) fun _ _=> ?_
 refine z07 [4,5] rfl<|Qw<|QA<|QC<|Yy 1 rfl ?_
 rw[show z25 (k*2) _ _=(t.S.set k ⟨0,0⟩).flatMap Slot.cells from z6d (enc:=Slot.cells) (sz:=2) (fun _=>rfl) t.S k ⟨0,0⟩ hk]
 refine QZ rfl (z3x (fun _:Unit=>True) (fun _=> .agg [.row 7, .row 9, .row 13]) (fun _=>[(7,(slR (t.S.set k ⟨0,0⟩)).cel),(9,(hoR (Tb.grant ⟨t.S.set k ⟨0,0⟩,H1,Q1⟩).H).cel),(13,(hoR (Tb.grant ⟨t.S.set k ⟨0,0⟩,H1,Q1⟩).Q).cel)]) 14 rfl zig (fun E w1 hm=>za8 (vw w1) _ ⟨t.S.set k ⟨0,0⟩,H1,Q1⟩ w1 ⟨by simpa using hss,Nat.le_trans hH1l hh,Nat.le_trans hQ1l hq⟩ lr (z3j.rows hm 7 13 14 (by dsimp only;rw[←zgk];rfl) rfl rfl))) fun _ _=> ?_
 refine Qs rfl<|z07 [4] rfl<|Qw<|QO<|Qb rfl fun E' w' hm=> ?_
 exact⟨(),E',rfl,trivial,rfl,hm.big 0 _ rfl,hm.weak (by repeat (first|exact oN|refine oC rfl ?_)) rfl lr⟩
abbrev zl3(t:Tb)(w:World):Ending→World→Prop:=zq1 w (fun _:Unit=>True) (fun _=> .agg [.row 23, .row 25, .row 29]) (fun _=>[(23,(slR t.S).cel),(25,(hoR t.H).cel),(29,(hoR t.Q).cel)]) 30
theorem zvr(V:Vw)(tv:Value)(t:Tb)(key lo hi:Int)(i:Nat)(x:Hold)(hi0:t.H.findIdx? (z3t key lo hi)=some i)(hx:t.H[i]? =some x)(w:World)(ht:t.Fit)(hV:V.le (vw w))(h:z3j V tv t):
  Cl 129 #[tv,I key, .agg #[I lo,I hi]] w (zl3 (t.free key lo hi) w):=by
 have h0:=h
 obtain⟨a,n,c,a2,n2,c2,a3,n3,c3,rfl,h1,h2,h3⟩:=h
 have hss:=ht.s
 have hh:=ht.h
 have hq:=ht.q
 have hres:t.free key lo hi=Tb.grant ⟨t.S,t.H.take i++t.H.drop (i+1),t.Q⟩:=by rw[Tb.free,hi0]
 have hidx:z3r (z3t key lo hi) t.H=i:=by rw[z3r,hi0]
 have hlt:=z01 hx
 have hel:(t.H.take i++t.H.drop (i+1)).length≤t.H.length:=(z4t t.H i).length_le
 rw[hres]
 refine Qf [.a (.v (.agg #[.slice a n c, .slice a2 n2 c2, .slice a3 n3 c3])), .a (.v (I key)), .a (.v (.agg #[I lo,I hi]))] Tryz.func129 rfl<|QA<|QC<|QE 3 [1,3,5,6] rfl<|Qw<|QA<|QC<|Yy 1 rfl<|QZ rfl (z3x (fun _:Unit=>True) (fun _=> .agg [.row 4, .row 6, .row 8]) (fun _=>[(4,(slR t.S).cel),(6,(hoR t.H).cel),(8,(hoR t.Q).cel)]) 9 rfl z9c (fun E w1 hm=>z8x V _ t w1 ht (hV.trans hm.leV) h0)) fun _ _=> ?_
 refine Yy 1 rfl<|Qs rfl<|z07 [1,5,6,7] rfl<|Qw<|QA<|QC<|Yy 4 rfl<|Qc (.a (.v _)) rfl zde (fun hg E w1 hm=>by exact zq5 (vw w1) (E.κ 9) t.H key lo hi _ lr (hm.rowOf 9 rfl (fun _=>rfl)) (by omega)) ?_
 refine QE 1 [1,5,6,7,8] rfl<|Qw<|QA<|QA<|QC<|QE 2 [1,5,6,7,8,17] rfl<|Qw<|Qn rfl (fun h=> ?_) fun h=> ?_
 ·
  rw[hidx]
  clear h
  have hwi:IntKind.i64.wrap ((i:Int)+1)=((i+1:Nat):Int):=z06 (by omega) (by omega)
  refine QA<|zoe 9 rfl fun lv V1 hle1 hsl1 _=> ?_
  have hL:SlOf V1 Hold.cells 4 lv t.H:=⟨hsl1,fun _=>rfl⟩
  have hL1:=hL.cut (lo:=0) (hi:=i) (by omega) (by omega)
  have hL2:=hL.cut (lo:=i+1) (hi:=t.H.length) (by omega) (Nat.le_refl _)
  simp only[List.drop_zero,Nat.sub_zero]at hL1
  rw[List.take_of_length_le (by rw[List.length_drop];omega)]at hL2
  refine Rb [13] rfl<|QD [1,2,3] rfl<|Qu 4 rfl rfl (zo7 tok rfl (fun hg=>hL.sl) (fun hg=>⟨by dsimp only[Option.getD];omega,by dsimp only[Option.getD];omega,by dsimp only[Option.getD];omega⟩))<|QD [6,7,8,9] rfl ?_
  rw[hwi]
  refine Qu 10 rfl rfl (zo7 tok rfl (fun hg=>hL.sl) (fun hg=>⟨by dsimp only[Option.getD];omega,by dsimp only[Option.getD];omega,by dsimp only[Option.getD];omega⟩))<|QS<|Qo 0<|Qg 0 rfl rfl (z1q tok 4 rfl rfl rfl) fun _ _=>Qo 5<|Qg 5 rfl rfl (z0g (l:=13) (e:=196) (sz:=4) (by_:=32) (m:=0) (k:=(t.H.take i).length) (olds:=[]) tok ((t.H.take i).flatMap Hold.cells) rfl (fun E w1 hm=>(hL1.sl).src hm.get) (fun _ _ _=>z0d _) (by rw[List.length_take];omega)) fun _ _=> ?_
  refine Qo 11<|Qg 11 rfl rfl (z0g (l:=14) (e:=196) (sz:=4) (by_:=32) (m:=0+(t.H.take i).length) (k:=(t.H.drop (i+1)).length) tok ((t.H.drop (i+1)).flatMap Hold.cells) rfl (fun E w1 hm=>(hL2.sl).src hm.get) (fun _ _ _=>z0d _) (by rw[List.length_take,List.length_drop];omega)) fun _ _=> ?_
  refine Qx [12] rfl<|Qo 13<|Qj 13 rfl<|Qe [6,7] rfl<|Qw<|QA<|QC<|Yy 1 rfl ?_
  rw[Nat.zero_add (t.H.take i).length,List.nil_append,←List.length_append,←List.flatMap_append]
  refine QZ rfl (z3x (fun _:Unit=>True) (fun _=> .agg [.row 7, .row 9, .row 13]) (fun _=>[(7,(slR t.S).cel),(9,(hoR (Tb.grant ⟨t.S,t.H.take i++t.H.drop (i+1),t.Q⟩).H).cel),(13,(hoR (Tb.grant ⟨t.S,t.H.take i++t.H.drop (i+1),t.Q⟩).Q).cel)]) 14 rfl zig (fun E w1 hm=>za8 (vw w1) _ ⟨t.S,t.H.take i++t.H.drop (i+1),t.Q⟩ w1 ⟨hss,Nat.le_trans hel hh,hq⟩ lr (z3j.rows hm 7 15 11 rfl rfl rfl))) fun _ _=> ?_
  refine Qs rfl<|z07 [6] rfl<|Qw<|QO<|QL<|Qb rfl fun E' w' hm=> ?_
  exact⟨(),E',rfl,trivial,rfl,(hm.below hle1).size,(hm.viewDown hle1).weak (by repeat (first|exact oN|refine oC rfl ?_)) rfl lr⟩
 ·
  exfalso
  rw[hidx]at h;simp at h
theorem zvn(V:Vw)(tv:Value)(t:Tb)(key lo hi:Int)(i:Nat)(x:Hold)(hno:t.H.findIdx? (z3t key lo hi)=none)(hi0:t.Q.findIdx? (z3t key lo hi)=some i)(hx:t.Q[i]? =some x)(w:World)(ht:t.Fit)(hV:V.le (vw w))(h:z3j V tv t):
  Cl 129 #[tv,I key, .agg #[I lo,I hi]] w (zl3 (t.free key lo hi) w):=by
 have h0:=h
 obtain⟨a,n,c,a2,n2,c2,a3,n3,c3,rfl,h1,h2,h3⟩:=h
 have hss:=ht.s
 have hh:=ht.h
 have hq:=ht.q
 have hres:t.free key lo hi=Tb.grant ⟨t.S,t.H,t.Q.take i++t.Q.drop (i+1)⟩:=by rw[Tb.free,hno];dsimp only;rw[hi0]
 have hidxN:z3r (z3t key lo hi) t.H= -1:=by rw[z3r,hno]
 have hidx:z3r (z3t key lo hi) t.Q=i:=by rw[z3r,hi0]
 have hlt:=z01 hx
 have hel:(t.Q.take i++t.Q.drop (i+1)).length≤t.Q.length:=(z4t t.Q i).length_le
 rw[hres]
 refine Qf [.a (.v (.agg #[.slice a n c, .slice a2 n2 c2, .slice a3 n3 c3])), .a (.v (I key)), .a (.v (.agg #[I lo,I hi]))] Tryz.func129 rfl<|QA<|QC<|QE 3 [1,3,5,6] rfl<|Qw<|QA<|QC<|Yy 1 rfl<|QZ rfl (z3x (fun _:Unit=>True) (fun _=> .agg [.row 4, .row 6, .row 8]) (fun _=>[(4,(slR t.S).cel),(6,(hoR t.H).cel),(8,(hoR t.Q).cel)]) 9 rfl z9c (fun E w1 hm=>z8x V _ t w1 ht (hV.trans hm.leV) h0)) fun _ _=> ?_
 refine Yy 1 rfl<|Qs rfl<|z07 [1,5,6,7] rfl<|Qw<|QA<|QC<|Yy 4 rfl<|Qc (.a (.v _)) rfl zde (fun hg E w1 hm=>by exact zq5 (vw w1) (E.κ 9) t.H key lo hi _ lr (hm.rowOf 9 rfl (fun _=>rfl)) (by omega)) ?_
 refine QE 1 [1,5,6,7,8] rfl<|Qw<|QA<|QA<|QC<|QE 2 [1,5,6,7,8,17] rfl<|Qw<|Qn rfl (fun h=> ?_) fun h=> ?_
 ·
  exfalso
  rw[hidxN]at h;simp at h
 ·
  clear h
  refine QI<|Qw<|QA<|QC<|Yy 4 rfl<|Qc (.a (.v _)) rfl zde (fun hg E w1 hm=>by exact zq5 (vw w1) (E.κ 11) t.Q key lo hi _ lr (hm.rowOf 11 rfl (fun _=>rfl)) (by omega)) ?_
  refine QE 1 [6,7,8] rfl<|Qw<|QA<|QA<|QC<|QE 2 [6,7,8,39] rfl<|Qw<|Qn rfl (fun h=> ?_) fun h=> ?_
  ·
   rw[hidx]
   clear h
   have hwi:IntKind.i64.wrap ((i:Int)+1)=((i+1:Nat):Int):=z06 (by omega) (by omega)
   refine zoe 11 rfl fun lv V1 hle1 hsl1 _=> ?_
   have hL:SlOf V1 Hold.cells 4 lv t.Q:=⟨hsl1,fun _=>rfl⟩
   have hL1:=hL.cut (lo:=0) (hi:=i) (by omega) (by omega)
   have hL2:=hL.cut (lo:=i+1) (hi:=t.Q.length) (by omega) (Nat.le_refl _)
   simp only[List.drop_zero,Nat.sub_zero]at hL1
   rw[List.take_of_length_le (by rw[List.length_drop];omega)]at hL2
   refine Rb [13] rfl<|QD [1,2,3] rfl<|Qu 4 rfl rfl (zo7 tok rfl (fun hg=>hL.sl) (fun hg=>⟨by dsimp only[Option.getD];omega,by dsimp only[Option.getD];omega,by dsimp only[Option.getD];omega⟩))<|QD [6,7,8,9] rfl ?_
   rw[hwi]
   refine Qu 10 rfl rfl (zo7 tok rfl (fun hg=>hL.sl) (fun hg=>⟨by dsimp only[Option.getD];omega,by dsimp only[Option.getD];omega,by dsimp only[Option.getD];omega⟩))<|QS<|Qo 0<|Qg 0 rfl rfl (z1q tok 4 rfl rfl rfl) fun _ _=>Qo 5<|Qg 5 rfl rfl (z0g (l:=13) (e:=196) (sz:=4) (by_:=32) (m:=0) (k:=(t.Q.take i).length) (olds:=[]) tok ((t.Q.take i).flatMap Hold.cells) rfl (fun E w1 hm=>(hL1.sl).src hm.get) (fun _ _ _=>z0d _) (by rw[List.length_take];omega)) fun _ _=> ?_
   refine Qo 11<|Qg 11 rfl rfl (z0g (l:=14) (e:=196) (sz:=4) (by_:=32) (m:=0+(t.Q.take i).length) (k:=(t.Q.drop (i+1)).length) tok ((t.Q.drop (i+1)).flatMap Hold.cells) rfl (fun E w1 hm=>(hL2.sl).src hm.get) (fun _ _ _=>z0d _) (by rw[List.length_take,List.length_drop];omega)) fun _ _=> ?_
   refine Qx [12] rfl<|Qo 13<|Qj 13 rfl<|Qe [6,7] rfl<|Qw<|QA<|QC<|Yy 1 rfl ?_
   rw[Nat.zero_add (t.Q.take i).length,List.nil_append,←List.length_append,←List.flatMap_append]
   refine QZ rfl (z3x (fun _:Unit=>True) (fun _=> .agg [.row 7, .row 9, .row 13]) (fun _=>[(7,(slR t.S).cel),(9,(hoR (Tb.grant ⟨t.S,t.H,t.Q.take i++t.Q.drop (i+1)⟩).H).cel),(13,(hoR (Tb.grant ⟨t.S,t.H,t.Q.take i++t.Q.drop (i+1)⟩).Q).cel)]) 14 rfl zig (fun E w1 hm=>za8 (vw w1) _ ⟨t.S,t.H,t.Q.take i++t.Q.drop (i+1)⟩ w1 ⟨hss,hh,Nat.le_trans hel hq⟩ lr (z3j.rows hm 7 9 15 rfl rfl rfl))) fun _ _=> ?_
   refine Qs rfl<|z07 [6] rfl<|Qw<|QO<|Qb rfl fun E' w' hm=> ?_
   exact⟨(),E',rfl,trivial,rfl,(hm.below hle1).size,(hm.viewDown hle1).weak (by repeat (first|exact oN|refine oC rfl ?_)) rfl lr⟩
  ·
   exfalso
   rw[hidx]at h;simp at h
theorem zuz(i:Nat):(List.replicate i (⟨0,0⟩:Slot)).flatMap Slot.cells++[I 0,I 0]=(List.replicate (i+1) (⟨0,0⟩:Slot)).flatMap Slot.cells:=by
 rw[List.replicate_succ',List.flatMap_append];rfl
theorem j6j(V:Vw)(g:Geo)(w:World)(hV:V.le (vw w)):Cl 95 #[g.val] w (z59 V (zi4 g.slots) w):=by
 have hk:min (max g.slots 0) 16=((zad g.slots:Nat):Int):=by rw[zad];omega
 have hk16:zad g.slots≤16:=by rw[zad];omega
 refine Qf [.a (.v g.val)] Tryz.func95 rfl<|QA<|QC<|QE 2 [1,2] rfl<|Qw<|QA<|QC<|QE 1 [1,2,3] rfl<|Qw<|QA<|QA<|z9r 2 0 66 2 rfl rfl<|QC<|QE 1 [1,2,3,4] rfl<|Qw<|QJ<|Ql [1,2,3] [3] rfl rfl (σ:=Nat) (fun i=>[(4, .a (.v (I i)))]) (fun i=>[(3, .row 66 2 i ((List.replicate i (⟨0,0⟩:Slot)).flatMap Slot.cells))]) (fun i=>i≤zad g.slots) (fun i=>zad g.slots - i) (0) (by omega) ?_
 rintro i hi
 refine QA<|QA<|QC<|QE 8 [1,2,3,4,12] rfl<|Qw<|QX rfl (fun h=> ?_) fun h=> ?_
 ·
  refine QI<|Qw<|QA<|QJ<|QC<|Yy 3 rfl ?_
  have hwi:IntKind.i64.wrap ((i:Int)+1)=((i+1:Nat):Int):=z06 (by omega) (by omega)
  refine QZ rfl (z1q tok 2 rfl rfl rfl) fun _ _=>QZ rfl (z0g tok [I 0,I 0] rfl (fun E w hm=>z09 (hm.row _ _ _ _ _ rfl)) (fun _ _ _=>by simpa using z20 [⟨0,0⟩]) (by dsimp only;omega)) fun _ _=> ?_
  refine Yy 1 rfl<|Qs rfl<|z07 [1,2,3,4] rfl<|QM<|Qw<|QC<|QE 3 [1,2,3,4] rfl<|Qw ?_
  rw[zuz,hwi]
  refine z00 3 5 rfl<|Qr (i+1) (by omega)
 ·
  refine QN<|QK<|QK<|QQ<|Qw<|QA<|QC<|Yy 1 rfl<|Qs rfl<|z07 [2] rfl<|Qw<|QO<|z0h tok rfl ?_
  have hil:i=zad g.slots:=by omega
  subst hil
  intro E' w' hm _
  exact z3j.out (t:=zi4 g.slots) hV (hm.below lr) (by show World.ownsRow _ _ _ _ _ (List.replicate (zad g.slots) (⟨0,0⟩:Slot)).length _;rw[List.length_replicate];exact hm.rowFresh lr (l:=3) rfl) (World.ownsRow_nil w' w.heap.size _ _)<|World.ownsRow_nil w' w.heap.size _ _
theorem zlw(L:List Hold)(key lo hi:Int):z4c (L.filter fun h=>h.key==key) key lo hi=z4c L key lo hi:=by
 rw[z4c,z4c,List.any_filter]
 congr 1
 funext h
 simp only[z30]
 cases (h.key==key)<;>simp
def j4h(key:Int)(t:Tb):List Hold:=(t.H++t.Q).filter fun h=>h.key==key
section
variable(V:Vw)(g:Geo)(tv:Value)(t:Tb)(c:Cmd)(w:World)(ht:t.Fit)(hq1:t.Q.length+1≤100000)(hV:V.le (vw w))(h:z3j V tv t)
include ht hq1 hV h
theorem ztv(hk:c.kind=0):Cl 96 #[g.val,tv,c.val] w (z59 V (t.apply g.blocks c) w):=by
 have hT:=h
 obtain⟨a,n,c0,a2,n2,c2,a3,n3,c3,rfl,h1,h2,h3⟩:=id h
 clear h
 have hss:=ht.s
 have hlim:lim=4398046511104:=rfl
 have hS:=h1.mono hV
 have hres:t.apply g.blocks c=t.mount c.by_:=by rw[Tb.apply,hk];rfl
 rw[hres]
 have hd0:decide ((0:Int)≤ -1)=false:=rfl
 refine Qf [.a (.v g.val), .a (.v (.agg #[.slice a n c0, .slice a2 n2 c2, .slice a3 n3 c3])), .a (.v c.val)] Tryz.func96 rfl<|QA<|QC<|QE 4 [3,4,5,6] rfl<|Qw<|QA<|QC<|Yy 3 rfl<|Qc (.a (.v _)) rfl z3z (fun hg E w1 hm=>by exact z3v V a n c0 _ _ t.S c.by_ _ (hV.trans hm.leV) h1 (by omega)) ?_
 refine QE 5 [3,4,5,6,7,8] rfl<|Qw<|QA<|QC<|Yy 3 rfl<|Qc (.a (.v _)) rfl z3z (fun hg E w1 hm=>by exact z3v V a n c0 _ _ t.S c.dead _ (hV.trans hm.leV) h1 (by omega)) ?_
 refine QE 5 [3,4,5,6,7,8,9,10] rfl<|Qw<|QA<|QA<|QC<|QE 2 [3,4,5,6,7,8,9,10,32] rfl<|Qw<|QJ<|QA<|QC<|QE 2 [3,4,5,6,7,8,9,10,32,33] rfl<|Qw<|Qn rfl (fun h=> ?_) fun h=> ?_
 ·
  refine QA<|QC<|QE 1 [4,5,6,8,11] rfl<|Qw<|QJ ?_
  clear h
  refine Ql [4,5,6,8] [] rfl rfl (σ:=Nat) (fun i=>[(11, .a (.v (I i)))]) (fun i=>[]) (fun i=>i≤t.S.length∧ ∀(j:Nat) (x:Slot),j<i→t.S[j]? =some x→(x.key==0)=false) (fun i=>t.S.length - i) (0) (⟨by omega,by simp⟩) ?_
  rintro i ⟨hi,hall⟩
  refine QA<|QA<|QC<|Yy 3 rfl<|QY rfl (z0l tok rfl (fun hg=>hS.sl))<|QE 5 [4,5,6,8,11,43] rfl<|Qw<|QX rfl (fun h=> ?_) fun h=> ?_
  ·
   refine QI<|Qw<|QA<|QJ<|QA<|QC<|Yy 3 rfl ?_
   obtain⟨hlt,hmem⟩:=h
   have hnone:t.slot c.by_=none:=by
    rcases z1x t c.by_ with⟨e1,e2⟩|⟨k,e1,e2,_⟩
    · exact e1
    · omega
   obtain⟨x,h_x⟩:=hS.at (k:=i) (by omega)
   have hlt_x:=z01 h_x
   refine QY rfl (z0c tok rfl (fun hg=>hS.sl) (fun hg=>⟨by omega,by omega⟩))<|QY rfl (z1f tok rfl (fun hg=>hS.sl) (fun hg=>by omega))<|QY rfl (z08 tok (i) 0 (x) rfl (fun hg=>hS) (fun hg=>h_x) rfl rfl)<|QE 1 [4,5,6,8,11,52] rfl<|Qw<|Qn rfl (fun h=> ?_) fun h=> ?_
   ·
    refine QA<|QC<|Yy 1 rfl ?_
    have hfind:t.S.findIdx? (fun x=>x.key==0)=some i:=findIdx?_at h_x h hall
    have hm2:t.mount c.by_=⟨t.S.set i ⟨c.by_,x.claim⟩,t.H,t.Q⟩:=by rw[Tb.mount,hnone];dsimp only;rw[hfind];dsimp only;rw[z32 h_x]
    rw[hm2]
    refine QZ rfl (z3x (fun _:Unit=>True) (fun _=> .agg [.row 4, .row 6, .row 8]) (fun _=>[(4,(slR t.S).cel),(6,(hoR t.H).cel),(8,(hoR t.Q).cel)]) 9 rfl z9c (fun E w1 hm=>z8x V _ t w1 ht (hV.trans hm.leV) hT)) fun _ _=>Yy 1 rfl<|Qs rfl<|z07 [5,6,11,12] rfl<|Qw<|QA<|QC<|Yy 5 rfl<|QY rfl (z0p (s:= .a (.rel 8 (i*2))) 8 rfl rfl (fun v V' hv=>z14 tok (i*2) rfl (by simp) (fun hg=>hv) (fun hg=>by first|omega|(dsimp only[slR];omega)))) ?_
    refine QY rfl (z0p (s:= .a (.rel 8 (i*2))) 8 rfl rfl (fun v V' hv=>z1f tok rfl (fun hg=>hv) (fun hg=>by first|omega|(dsimp only[slR];omega))))<|z2q rfl rfl rfl rfl (z5m tok rfl rfl (by simp[Value.oneCell']) (by simp only[List.length_singleton];first|omega|(dsimp only[slR];omega)) (by first|omega|(dsimp only[slR];omega))) fun _ _=> ?_
    refine z07 [6,12] rfl<|Qw<|QA<|QC<|Yy 1 rfl<|Qs rfl<|z07 [6] rfl<|Qw<|QO<|QP<|QL<|QL<|QP<|QP<|QL<|z0h tok rfl ?_
    rw[show z25 (i*2) _ _=_ from zno h_x c.by_]
    intro E' w' hm _
    exact z3j.out (t:=⟨t.S.set i ⟨c.by_,x.claim⟩,t.H,t.Q⟩) hV (hm.below lr) (by dsimp only;rw[List.length_set];exact hm.rowFresh lr (l:=8) rfl) (hm.rowFresh lr (l:=10) rfl)<|hm.rowFresh lr (l:=12) rfl
   ·
    refine QI<|QM<|Qw<|QC<|QE 3 [4,5,6,8,11] rfl<|Qw ?_
    rw[z06 (by omega) (by omega)]
    refine Qr (i+1)<|⟨by omega,z3q h_x hall h⟩
  ·
   refine QN<|QK<|QK<|QQ<|QM<|Qw<|QA<|QC<|Yy 1 rfl<|Qs rfl<|z07 [6] rfl<|Qw<|QO<|z0h tok rfl ?_
   have hm2:t.mount c.by_=t:=by
    rcases z1x t c.by_ with⟨e1,e2⟩|⟨k,e1,e2,_⟩
    ·
     have hil:i=t.S.length:=by omega
     have hfind:t.S.findIdx? (fun x=>x.key==0)=none:=findIdx?_no (fun j y _ hy=>hall j y (by rw[hil];exact z01 hy) hy)
     rw[Tb.mount,e1];dsimp only;rw[hfind]
    · rw[Tb.mount,e1]
   rw[hm2]
   intro E' w' hm _
   exact z3j.same hV (hm.below lr) hT
 ·
  rw[hk]at h
  exact absurd h (by decide)
theorem zqe(hk:c.kind=1):Cl 96 #[g.val,tv,c.val] w (z59 V (t.apply g.blocks c) w):=by
 have hT:=h
 obtain⟨a,n,c0,a2,n2,c2,a3,n3,c3,rfl,h1,h2,h3⟩:=id h
 clear h
 have hss:=ht.s
 have hh:=ht.h
 have hq:=ht.q
 have hlim:lim=4398046511104:=rfl
 have hS:=h1.mono hV
 have hres:t.apply g.blocks c=t.leave c.by_:=by rw[Tb.apply,hk];rfl
 rw[hres]
 refine Qf [.a (.v g.val), .a (.v (.agg #[.slice a n c0, .slice a2 n2 c2, .slice a3 n3 c3])), .a (.v c.val)] Tryz.func96 rfl<|QA<|QC<|QE 4 [3,4,5,6] rfl<|Qw<|QA<|QC<|Yy 3 rfl<|Qc (.a (.v _)) rfl z3z (fun hg E w1 hm=>by exact z3v V a n c0 _ _ t.S c.by_ _ (hV.trans hm.leV) h1 (by omega)) ?_
 refine QE 5 [3,4,5,6,7,8] rfl<|Qw<|QA<|QC<|Yy 3 rfl<|Qc (.a (.v _)) rfl z3z (fun hg E w1 hm=>by exact z3v V a n c0 _ _ t.S c.dead _ (hV.trans hm.leV) h1 (by omega)) ?_
 refine QE 5 [3,4,5,6,7,8,9,10] rfl<|Qw<|QA<|QA<|QC<|QE 2 [3,4,5,6,7,8,9,10,32] rfl<|Qw<|QJ<|QA<|QC<|QE 2 [3,4,5,6,7,8,9,10,32,33] rfl<|Qw<|Qn rfl (fun h=> ?_) fun h=> ?_
 ·
  rw[hk]at h
  exact absurd h (by decide)
 ·
  clear h
  refine QA<|QC<|QE 2 [3,4,5,6,7,8,9,10,32,63] rfl<|Qw<|Qn rfl (fun h=> ?_) fun h=> ?_
  ·
   clear h
   refine QA<|QC<|QE 1 [4,6,7,65] rfl<|Qw<|Qn rfl (fun h=> ?_) fun h=> ?_
   ·
    rcases z1x t c.by_ with⟨e1,e2⟩|⟨k,e1,e2,hkl⟩
    · rw[e2]at h;simp at h
    ·
     obtain⟨x,hx⟩: ∃x,t.S[k]? =some x:=⟨_,List.getElem?_eq_getElem hkl⟩
     rw[show t.leave c.by_=t.clear k by rw[Tb.leave,e1]]
     rw[e2,show max (k:Int) 0=k by omega]
     clear h
     refine QA<|QC<|Yy 2 rfl<|QZ rfl (z3x (fun _:Unit=>True) (fun _=> .agg [.row 22, .row 24, .row 28]) (fun _=>[(22,(slR (t.clear k).S).cel),(24,(hoR (t.clear k).H).cel),(28,(hoR (t.clear k).Q).cel)]) 29 rfl zt0 (fun E w1 hm=>znn V _ t k x hx w1 ht (hV.trans hm.leV) hT)) fun _ _=>Qs rfl<|z07 [6] rfl<|Qw<|QO<|QP<|QL<|Qb rfl fun E' w' hm=> ?_
     exact z3j.out hV (hm.below lr) (hm.rowFresh lr (l:=26) rfl) (hm.rowFresh lr (l:=28) rfl)<|hm.rowFresh lr (l:=32) rfl
   ·
    refine QI<|QM<|Qw<|QA<|QC<|Yy 1 rfl<|Qs rfl<|z07 [6] rfl<|Qw<|QO<|z0h tok rfl ?_
    rcases z1x t c.by_ with⟨e1,e2⟩|⟨k,e1,e2,hkl⟩
    ·
     rw[show t.leave c.by_=t by rw[Tb.leave,e1]]
     intro E' w' hm _
     exact z3j.same hV (hm.below lr) hT
    · rw[e2]at h;simp at h
  ·
   rw[hk]at h
   exact absurd h (by decide)
theorem ztg(hk:c.kind=2):Cl 96 #[g.val,tv,c.val] w (z59 V (t.apply g.blocks c) w):=by
 have hT:=h
 obtain⟨a,n,c0,a2,n2,c2,a3,n3,c3,rfl,h1,h2,h3⟩:=id h
 clear h
 have hss:=ht.s
 have hh:=ht.h
 have hq:=ht.q
 have hlim:lim=4398046511104:=rfl
 have hS:=h1.mono hV
 have hres:t.apply g.blocks c=t.ask g.blocks (zep c):=by rw[Tb.apply,hk];rfl
 rw[hres]
 have hlen:(j4h c.by_ t).length≤t.H.length+t.Q.length:=by rw[←List.length_append];exact List.length_filter_le _ _
 have hasks:t.asks g.blocks (zep c)=(((decide (0≤z5p t.S c.by_)&&zjh g.blocks (zep c))&& !z4c (j4h c.by_ t) c.by_ c.lo c.hi)&&decide (((j4h c.by_ t).length:Int)<64)):=by
  rw[Tb.asks,zdu,j4h,zlw,show decide (z9b (t.H++t.Q) (zep c).key<64)=decide ((((t.H++t.Q).filter fun h=>h.key==c.by_).length:Int)<64) by rw[decide_eq_decide];show((t.H++t.Q).filter fun h=>h.key==c.by_).length<64↔(((t.H++t.Q).filter fun h=>h.key==c.by_).length:Int)<64;omega]
 have hall:=fun w1 hw1=>j5e V g.val _ c.by_ t w1 ht hw1 hT
 rw[show((t.H++t.Q).filter fun h=>h.key==c.by_)=j4h c.by_ t from rfl]at hall
 generalize j4h c.by_ t=L at hlen hasks hall
 refine Qf [.a (.v g.val), .a (.v (.agg #[.slice a n c0, .slice a2 n2 c2, .slice a3 n3 c3])), .a (.v c.val)] Tryz.func96 rfl<|QA<|QC<|QE 4 [3,4,5,6] rfl<|Qw<|QA<|QC<|Yy 3 rfl<|Qc (.a (.v _)) rfl z3z (fun hg E w1 hm=>by exact z3v V a n c0 _ _ t.S c.by_ _ (hV.trans hm.leV) h1 (by omega)) ?_
 refine QE 5 [3,4,5,6,7,8] rfl<|Qw<|QA<|QC<|Yy 3 rfl<|Qc (.a (.v _)) rfl z3z (fun hg E w1 hm=>by exact z3v V a n c0 _ _ t.S c.dead _ (hV.trans hm.leV) h1 (by omega)) ?_
 refine QE 5 [3,4,5,6,7,8,9,10] rfl<|Qw<|QA<|QA<|QC<|QE 2 [3,4,5,6,7,8,9,10,32] rfl<|Qw<|QJ<|QA<|QC<|QE 2 [3,4,5,6,7,8,9,10,32,33] rfl<|Qw<|Qn rfl (fun h=> ?_) fun h=> ?_
 ·
  rw[hk]at h
  exact absurd h (by decide)
 ·
  clear h
  refine QA<|QC<|QE 2 [3,4,5,6,7,8,9,10,32,63] rfl<|Qw<|Qn rfl (fun h=> ?_) fun h=> ?_
  ·
   rw[hk]at h
   exact absurd h (by decide)
  ·
   clear h
   refine QA<|QC<|QE 2 [3,4,5,6,8,9,10,32,69] rfl<|Qw<|Qn rfl (fun h=> ?_) fun h=> ?_
   ·
    refine QA<|QC<|Yy 8 rfl<|Qs rfl<|z07 [3,4,5,6,8,13] rfl<|Qw<|QA<|QC<|Yy 3 rfl ?_
    clear h
    refine QZ rfl (z2j 196 4 L.length (L.flatMap Hold.cells) rfl j0o (fun E w1 hm=>hall w1 (hV.trans hm.leV))) fun _ _=>QE 1 [3,4,5,6,8,13,14] rfl<|Qw<|QA<|QC<|Yy 4 rfl<|Qc (.a (.v _)) rfl j3b (fun hg E w1 hm=>by exact ztu g (zep c) _) ?_
    refine Yy 7 rfl<|Qc (.a (.v _)) rfl j07 (fun hg E w1 hm=>by exact ziw (vw w1) (E.κ 5) L c.by_ c.lo c.hi _ lr (hm.rowOf 5 rfl (fun _=>rfl)) (by omega)) ?_
    refine Yy 4 rfl<|QY rfl (z0p (s:= .a (.v (I L.length))) 5 rfl rfl (fun v V' hv=>z0l tok rfl (fun hg=>hv)))<|QE 2 [4,6,13,101] rfl<|Qw<|Qn rfl (fun h=> ?_) fun h=> ?_
    ·
     rw[Tb.ask,hasks,if_pos h]
     clear h
     refine QA<|QC<|Yy 1 rfl<|QZ rfl (z3x (fun _:Unit=>True) (fun _=> .agg [.row 4, .row 6, .row 8]) (fun _=>[(4,(slR t.S).cel),(6,(hoR t.H).cel),(8,(hoR t.Q).cel)]) 9 rfl z9c (fun E w1 hm=>z8x V _ t w1 ht (hV.trans hm.leV) hT)) fun _ _=>Yy 1 rfl<|Qs rfl<|z07 [6,13,15] rfl<|Qw<|QA<|QC<|Yy 3 rfl<|QZ rfl (z1q tok 4 rfl rfl rfl) fun _ _=>QZ rfl (z0g tok (zep c).cells rfl (fun E w hm=>z09 (hm.row _ _ _ _ _ rfl)) (fun _ _ _=>by simpa using z0d [zep c]) (by first|omega|(dsimp only[hoR];omega))) fun _ _=> ?_
     refine Yy 1 rfl<|Qs rfl<|z07 [6,15] rfl<|Qw<|QA<|QC<|Yy 1 rfl<|QZ rfl (z3x (fun _:Unit=>True) (fun _=> .agg [.row 7, .row 9, .row 13]) (fun _=>[(7,(slR t.S).cel),(9,(hoR (Tb.grant ⟨t.S,t.H,t.Q++[zep c]⟩).H).cel),(13,(hoR (Tb.grant ⟨t.S,t.H,t.Q++[zep c]⟩).Q).cel)]) 14 rfl zig (fun E w1 hm=>za8 (vw w1) _ ⟨t.S,t.H,t.Q++[zep c]⟩ w1 ⟨hss,hh,by dsimp only;rw[List.length_append];dsimp only[List.length];omega⟩ lr (z3j.rows hm 10 12 17 rfl rfl (by dsimp only;rw[←zmv];rfl)))) fun _ _=> ?_
     refine Qs rfl<|z07 [6] rfl<|Qw<|QO<|QP<|QL<|Qb rfl fun E' w' hm=> ?_
     exact z3j.out hV (hm.below lr) (hm.rowFresh lr (l:=25) rfl) (hm.rowFresh lr (l:=27) rfl)<|hm.rowFresh lr (l:=31) rfl
    ·
     refine QI<|QM<|Qw<|QA<|QC<|Yy 1 rfl<|Qs rfl<|z07 [6] rfl<|Qw<|QO<|z0h tok rfl ?_
     rw[Tb.ask,hasks,if_neg (by rw[h];simp)]
     intro E' w' hm _
     exact z3j.same hV (hm.below lr) hT
   ·
    rw[hk]at h
    exact absurd h (by decide)
theorem zq6(hk:c.kind=3):Cl 96 #[g.val,tv,c.val] w (z59 V (t.apply g.blocks c) w):=by
 have hT:=h
 obtain⟨a,n,c0,a2,n2,c2,a3,n3,c3,rfl,h1,h2,h3⟩:=id h
 clear h
 have hss:=ht.s
 have hh:=ht.h
 have hq:=ht.q
 have hlim:lim=4398046511104:=rfl
 have hS:=h1.mono hV
 have hres:t.apply g.blocks c=t.free c.by_ c.lo c.hi:=by rw[Tb.apply,hk];rfl
 rw[hres]
 refine Qf [.a (.v g.val), .a (.v (.agg #[.slice a n c0, .slice a2 n2 c2, .slice a3 n3 c3])), .a (.v c.val)] Tryz.func96 rfl<|QA<|QC<|QE 4 [3,4,5,6] rfl<|Qw<|QA<|QC<|Yy 3 rfl<|Qc (.a (.v _)) rfl z3z (fun hg E w1 hm=>by exact z3v V a n c0 _ _ t.S c.by_ _ (hV.trans hm.leV) h1 (by omega)) ?_
 refine QE 5 [3,4,5,6,7,8] rfl<|Qw<|QA<|QC<|Yy 3 rfl<|Qc (.a (.v _)) rfl z3z (fun hg E w1 hm=>by exact z3v V a n c0 _ _ t.S c.dead _ (hV.trans hm.leV) h1 (by omega)) ?_
 refine QE 5 [3,4,5,6,7,8,9,10] rfl<|Qw<|QA<|QA<|QC<|QE 2 [3,4,5,6,7,8,9,10,32] rfl<|Qw<|QJ<|QA<|QC<|QE 2 [3,4,5,6,7,8,9,10,32,33] rfl<|Qw<|Qn rfl (fun h=> ?_) fun h=> ?_
 ·
  rw[hk]at h
  exact absurd h (by decide)
 ·
  clear h
  refine QA<|QC<|QE 2 [3,4,5,6,7,8,9,10,32,63] rfl<|Qw<|Qn rfl (fun h=> ?_) fun h=> ?_
  ·
   rw[hk]at h
   exact absurd h (by decide)
  ·
   clear h
   refine QA<|QC<|QE 2 [3,4,5,6,8,9,10,32,69] rfl<|Qw<|Qn rfl (fun h=> ?_) fun h=> ?_
   ·
    rw[hk]at h
    exact absurd h (by decide)
   ·
    clear h
    refine QA<|QC<|QE 2 [4,5,6,9,10,32,112] rfl<|Qw<|Qn rfl (fun h=> ?_) fun h=> ?_
    ·
     refine QA<|QC<|Yy 6 rfl ?_
     clear h
     refine Qc (.a (.v _)) rfl zde (fun hg E w1 hm=>by exact zq5 V _ t.H c.by_ c.lo c.hi _ (hV.trans hm.leV) h2 (by omega)) ?_
     refine Yy 8 rfl<|Qc (.a (.v _)) rfl zde (fun hg E w1 hm=>by exact zq5 V _ t.Q c.by_ c.lo c.hi _ (hV.trans hm.leV) h3 (by omega)) ?_
     refine QE 2 [4,5,6,131] rfl<|Qw<|Qn rfl (fun h=> ?_) fun h=> ?_
     ·
      have hfr: ∀w1,V.le (vw w1)→Cl 129 #[.agg #[.slice a n c0, .slice a2 n2 c2, .slice a3 n3 c3],I c.by_, .agg #[I c.lo,I c.hi]] w1 (zl3 (t.free c.by_ c.lo c.hi) w1):=by
       intro w1 hw1
       rcases z2m (z3t c.by_ c.lo c.hi) t.H with⟨e1,e2⟩|⟨i,x,e1,e2,hx,_⟩
       ·
        rcases z2m (z3t c.by_ c.lo c.hi) t.Q with⟨e3,e4⟩|⟨i,x,e3,e4,hx,_⟩
        · rw[e2,e4]at h;simp at h
        · exact zvn V _ t _ _ _ i x e1 e3 hx w1 ht hw1 hT
       · exact zvr V _ t _ _ _ i x e1 hx w1 ht hw1 hT
      clear h
      refine QA<|QC<|Yy 5 rfl<|QZ rfl (z3x (fun _:Unit=>True) (fun _=> .agg [.row 23, .row 25, .row 29]) (fun _=>[(23,(slR (t.free c.by_ c.lo c.hi).S).cel),(25,(hoR (t.free c.by_ c.lo c.hi).H).cel),(29,(hoR (t.free c.by_ c.lo c.hi).Q).cel)]) 30 rfl j08 (fun E w1 hm=>hfr w1 (hV.trans hm.leV))) fun _ _=>Qs rfl<|z07 [6] rfl<|Qw<|QO<|QP<|QL<|Qb rfl fun E' w' hm=> ?_
      exact z3j.out hV (hm.below lr) (hm.rowFresh lr (l:=27) rfl) (hm.rowFresh lr (l:=29) rfl)<|hm.rowFresh lr (l:=33) rfl
     ·
      refine QI<|QM<|Qw<|QA<|QC<|Yy 1 rfl<|Qs rfl<|z07 [6] rfl<|Qw<|QO<|z0h tok rfl ?_
      have hsm:t.free c.by_ c.lo c.hi=t:=by
       rcases z2m (z3t c.by_ c.lo c.hi) t.H with⟨e1,e2⟩|⟨i,x,e1,e2,hx,_⟩
       ·
        rcases z2m (z3t c.by_ c.lo c.hi) t.Q with⟨e3,e4⟩|⟨i,x,e3,e4,hx,_⟩
        · rw[Tb.free,e1];dsimp only;rw[e3]
        · rw[e2,e4]at h;simp at h
       · rw[e2]at h;simp at h
      rw[hsm]
      intro E' w' hm _
      exact z3j.same hV (hm.below lr) hT
    ·
     rw[hk]at h
     exact absurd h (by decide)
theorem zuv(hk:c.kind=4):Cl 96 #[g.val,tv,c.val] w (z59 V (t.apply g.blocks c) w):=by
 have hT:=h
 obtain⟨a,n,c0,a2,n2,c2,a3,n3,c3,rfl,h1,h2,h3⟩:=id h
 clear h
 have hss:=ht.s
 have hh:=ht.h
 have hq:=ht.q
 have hlim:lim=4398046511104:=rfl
 have hS:=h1.mono hV
 have hres0:t.apply g.blocks c=t.claim c.by_ c.dead c.was:=by rw[Tb.apply,hk];rfl
 rw[hres0]
 refine Qf [.a (.v g.val), .a (.v (.agg #[.slice a n c0, .slice a2 n2 c2, .slice a3 n3 c3])), .a (.v c.val)] Tryz.func96 rfl<|QA<|QC<|QE 4 [3,4,5,6] rfl<|Qw<|QA<|QC<|Yy 3 rfl<|Qc (.a (.v _)) rfl z3z (fun hg E w1 hm=>by exact z3v V a n c0 _ _ t.S c.by_ _ (hV.trans hm.leV) h1 (by omega)) ?_
 refine QE 5 [3,4,5,6,7,8] rfl<|Qw<|QA<|QC<|Yy 3 rfl<|Qc (.a (.v _)) rfl z3z (fun hg E w1 hm=>by exact z3v V a n c0 _ _ t.S c.dead _ (hV.trans hm.leV) h1 (by omega)) ?_
 refine QE 5 [3,4,5,6,7,8,9,10] rfl<|Qw<|QA<|QA<|QC<|QE 2 [3,4,5,6,7,8,9,10,32] rfl<|Qw<|QJ<|QA<|QC<|QE 2 [3,4,5,6,7,8,9,10,32,33] rfl<|Qw<|Qn rfl (fun h=> ?_) fun h=> ?_
 ·
  rw[hk]at h
  exact absurd h (by decide)
 ·
  clear h
  refine QA<|QC<|QE 2 [3,4,5,6,7,8,9,10,32,63] rfl<|Qw<|Qn rfl (fun h=> ?_) fun h=> ?_
  ·
   rw[hk]at h
   exact absurd h (by decide)
  ·
   clear h
   refine QA<|QC<|QE 2 [3,4,5,6,8,9,10,32,69] rfl<|Qw<|Qn rfl (fun h=> ?_) fun h=> ?_
   ·
    rw[hk]at h
    exact absurd h (by decide)
   ·
    clear h
    refine QA<|QC<|QE 2 [4,5,6,9,10,32,112] rfl<|Qw<|Qn rfl (fun h=> ?_) fun h=> ?_
    ·
     rw[hk]at h
     exact absurd h (by decide)
    ·
     clear h
     refine QA<|QC<|QE 2 [4,5,6,9,10,32,138] rfl<|Qw<|Qn rfl (fun h=> ?_) fun h=> ?_
     ·
      clear h
      rcases z1x t c.dead with⟨e1,e2⟩|⟨k,e1,e2,hkl⟩
      ·
       have hres:t.claim c.by_ c.dead c.was=t:=by rw[Tb.claim,e1]
       rw[hres,e2,show decide ((0:Int)≤ -1)=false from rfl,show max (-1:Int) 0=((0:Nat):Int)from rfl]
       refine QA<|z11 mixed (by kernel_rfl)<|Dm 5 rfl<|Qd rfl (z0c tok rfl (fun hg=>hS.sl) (fun hg=>by cases hg)) ?_
       refine Qd rfl (z1f tok rfl (fun hg=>hS.sl) (fun hg=>by cases hg)) ?_
       refine Qd rfl (z08 tok 0 1 ⟨0,0⟩ rfl (fun hg=>hS) (fun hg=>by cases hg) rfl rfl) ?_
       refine Dm 11 rfl<|z1z [4,5,6,9,158] rfl<|Qw<|Qn rfl (fun h=> ?_) fun h=> ?_
       ·
        cases h
       ·
        refine QI<|QM<|Qw<|QA<|QC<|Yy 1 rfl<|Qs rfl<|z07 [6] rfl<|Qw<|QO<|Qb rfl fun E' w' hm=> ?_
        exact z3j.same hV (hm.below lr) hT
      ·
       obtain⟨x,hx⟩: ∃x,t.S[k]? =some x:=⟨_,List.getElem?_eq_getElem hkl⟩
       have hres:t.claim c.by_ c.dead c.was=if x.claim=c.was∧c.by_≠c.dead then⟨t.S.set k ⟨x.key,c.by_⟩,t.H,t.Q⟩else t:=by rw[Tb.claim,e1];dsimp only;rw[z32 hx,z5g hx]
       rw[hres,e2,show max (k:Int) 0=k by omega,decide_eq_true (by omega:(0:Int)≤k)]
       refine QA<|z11 mixed (by kernel_rfl)<|Dm 5 rfl<|Qd rfl (z0c tok rfl (fun hg=>hS.sl) (fun hg=>⟨by omega,by omega⟩))<|Qd rfl (z1f tok rfl (fun hg=>hS.sl) (fun hg=>by omega))<|Qd rfl (z08 tok k 1 x rfl (fun hg=>hS) (fun hg=>hx) rfl rfl)<|Dm 11 rfl<|z1z [4,5,6,9,158] rfl<|Qw<|Qn rfl (fun h=> ?_) fun h=> ?_
       ·
        have hc:x.claim=c.was∧c.by_≠c.dead:=by simpa using h
        rw[if_pos hc]
        clear h
        refine QA<|QC<|Yy 1 rfl<|QZ rfl (z3x (fun _:Unit=>True) (fun _=> .agg [.row 4, .row 6, .row 8]) (fun _=>[(4,(slR t.S).cel),(6,(hoR t.H).cel),(8,(hoR t.Q).cel)]) 9 rfl z9c (fun E w1 hm=>z8x V _ t w1 ht (hV.trans hm.leV) hT)) fun _ _=>Yy 1 rfl<|Qs rfl<|z07 [5,6,9,16] rfl<|Qw<|QA<|QC<|Yy 5 rfl<|QY rfl (z0p (s:= .a (.rel 8 (k*2))) 8 rfl rfl (fun v V' hv=>z14 tok (k*2) rfl (by simp) (fun hg=>hv) (fun hg=>by first|omega|(dsimp only[slR];omega)))) ?_
        refine QY rfl (z0p (s:= .a (.rel 8 (k*2+1))) 8 rfl rfl (fun v V' hv=>z1f tok rfl (fun hg=>hv) (fun hg=>by first|omega|(dsimp only[slR];omega))))<|z2q rfl rfl rfl rfl (z5m tok rfl rfl (by simp[Value.oneCell']) (by simp only[List.length_singleton];first|omega|(dsimp only[slR];omega)) (by first|omega|(dsimp only[slR];omega))) fun _ _=> ?_
        refine z07 [6,16] rfl<|Qw<|QA<|QC<|Yy 1 rfl<|Qs rfl<|z07 [6] rfl<|Qw<|QO<|QP<|QL<|z0h tok rfl ?_
        rw[show z25 (k*2+1) _ _=_ from zfd hx c.by_]
        intro E' w' hm _
        exact z3j.out (t:=⟨t.S.set k ⟨x.key,c.by_⟩,t.H,t.Q⟩) hV (hm.below lr) (by dsimp only;rw[List.length_set];exact hm.rowFresh lr (l:=8) rfl) (hm.rowFresh lr (l:=10) rfl)<|hm.rowFresh lr (l:=12) rfl
       ·
        refine QI<|QM<|Qw<|QA<|QC<|Yy 1 rfl<|Qs rfl<|z07 [6] rfl<|Qw<|QO<|z0h tok rfl ?_
        have hc: ¬(x.claim=c.was∧c.by_≠c.dead):=by
         intro hc
         simp[hc.1,hc.2]at h
        rw[if_neg hc]
        intro E' w' hm _
        exact z3j.same hV (hm.below lr) hT
     ·
      rw[hk]at h
      exact absurd h (by decide)
theorem zss(hk:c.kind=5):Cl 96 #[g.val,tv,c.val] w (z59 V (t.apply g.blocks c) w):=by
 have hT:=h
 obtain⟨a,n,c0,a2,n2,c2,a3,n3,c3,rfl,h1,h2,h3⟩:=id h
 clear h
 have hss:=ht.s
 have hh:=ht.h
 have hq:=ht.q
 have hlim:lim=4398046511104:=rfl
 have hS:=h1.mono hV
 have hres0:t.apply g.blocks c=t.purge c.by_ c.dead:=by rw[Tb.apply,hk];rfl
 rw[hres0]
 refine Qf [.a (.v g.val), .a (.v (.agg #[.slice a n c0, .slice a2 n2 c2, .slice a3 n3 c3])), .a (.v c.val)] Tryz.func96 rfl<|QA<|QC<|QE 4 [3,4,5,6] rfl<|Qw<|QA<|QC<|Yy 3 rfl<|Qc (.a (.v _)) rfl z3z (fun hg E w1 hm=>by exact z3v V a n c0 _ _ t.S c.by_ _ (hV.trans hm.leV) h1 (by omega)) ?_
 refine QE 5 [3,4,5,6,7,8] rfl<|Qw<|QA<|QC<|Yy 3 rfl<|Qc (.a (.v _)) rfl z3z (fun hg E w1 hm=>by exact z3v V a n c0 _ _ t.S c.dead _ (hV.trans hm.leV) h1 (by omega)) ?_
 refine QE 5 [3,4,5,6,7,8,9,10] rfl<|Qw<|QA<|QA<|QC<|QE 2 [3,4,5,6,7,8,9,10,32] rfl<|Qw<|QJ<|QA<|QC<|QE 2 [3,4,5,6,7,8,9,10,32,33] rfl<|Qw<|Qn rfl (fun h=> ?_) fun h=> ?_
 ·
  rw[hk]at h
  exact absurd h (by decide)
 ·
  clear h
  refine QA<|QC<|QE 2 [3,4,5,6,7,8,9,10,32,63] rfl<|Qw<|Qn rfl (fun h=> ?_) fun h=> ?_
  ·
   rw[hk]at h
   exact absurd h (by decide)
  ·
   clear h
   refine QA<|QC<|QE 2 [3,4,5,6,8,9,10,32,69] rfl<|Qw<|Qn rfl (fun h=> ?_) fun h=> ?_
   ·
    rw[hk]at h
    exact absurd h (by decide)
   ·
    clear h
    refine QA<|QC<|QE 2 [4,5,6,9,10,32,112] rfl<|Qw<|Qn rfl (fun h=> ?_) fun h=> ?_
    ·
     rw[hk]at h
     exact absurd h (by decide)
    ·
     clear h
     refine QA<|QC<|QE 2 [4,5,6,9,10,32,138] rfl<|Qw<|Qn rfl (fun h=> ?_) fun h=> ?_
     ·
      rw[hk]at h
      exact absurd h (by decide)
     ·
      clear h
      refine QA<|QC<|QE 2 [4,5,6,9,10,169] rfl<|Qw<|Qn rfl (fun h=> ?_) fun h=> ?_
      ·
       clear h
       rcases z1x t c.dead with⟨e1,e2⟩|⟨k,e1,e2,hkl⟩
       ·
        have hres:t.purge c.by_ c.dead=t:=by rw[Tb.purge,e1]
        rw[hres,e2,show decide ((0:Int)≤ -1)=false from rfl,show max (-1:Int) 0=((0:Nat):Int)from rfl]
        refine QA<|z11 mixed (by kernel_rfl)<|Dm 10 rfl<|Qd rfl (z0c tok rfl (fun hg=>hS.sl) (fun hg=>by cases hg)) ?_
        refine Qd rfl (z1f tok rfl (fun hg=>hS.sl) (fun hg=>by cases hg)) ?_
        refine Qd rfl (z08 tok 0 1 ⟨0,0⟩ rfl (fun hg=>hS) (fun hg=>by cases hg) rfl rfl) ?_
        refine Dm 4 rfl<|z1z [4,6,9,187] rfl<|Qw<|Qn rfl (fun h=> ?_) fun h=> ?_
        ·
         cases h
        ·
         refine QI<|QM<|Qw<|QA<|QC<|Yy 1 rfl<|Qs rfl<|z07 [6] rfl<|Qw<|QO<|Qb rfl fun E' w' hm=> ?_
         exact z3j.same hV (hm.below lr) hT
       ·
        obtain⟨x,hx⟩: ∃x,t.S[k]? =some x:=⟨_,List.getElem?_eq_getElem hkl⟩
        have hres:t.purge c.by_ c.dead=if c.by_≠0∧x.claim=c.by_ then t.clear k else t:=by rw[Tb.purge,e1];dsimp only;rw[z32 hx]
        rw[hres,e2,show max (k:Int) 0=k by omega,decide_eq_true (by omega:(0:Int)≤k)]
        refine QA<|z11 mixed (by kernel_rfl)<|Dm 10 rfl<|Qd rfl (z0c tok rfl (fun hg=>hS.sl) (fun hg=>⟨by omega,by omega⟩))<|Qd rfl (z1f tok rfl (fun hg=>hS.sl) (fun hg=>by omega))<|Qd rfl (z08 tok k 1 x rfl (fun hg=>hS) (fun hg=>hx) rfl rfl)<|Dm 4 rfl<|z1z [4,6,9,187] rfl<|Qw<|Qn rfl (fun h=> ?_) fun h=> ?_
        ·
         have hc:c.by_≠0∧x.claim=c.by_:=by simpa using h
         rw[if_pos hc]
         clear h
         refine QA<|QC<|Yy 2 rfl<|QZ rfl (z3x (fun _:Unit=>True) (fun _=> .agg [.row 22, .row 24, .row 28]) (fun _=>[(22,(slR (t.clear k).S).cel),(24,(hoR (t.clear k).H).cel),(28,(hoR (t.clear k).Q).cel)]) 29 rfl zt0 (fun E w1 hm=>znn V _ t k x hx w1 ht (hV.trans hm.leV) hT)) fun _ _=>Qs rfl<|z07 [6] rfl<|Qw<|QO<|QP<|QL<|Qb rfl fun E' w' hm=> ?_
         exact z3j.out hV (hm.below lr) (hm.rowFresh lr (l:=26) rfl) (hm.rowFresh lr (l:=28) rfl)<|hm.rowFresh lr (l:=32) rfl
        ·
         refine QI<|QM<|Qw<|QA<|QC<|Yy 1 rfl<|Qs rfl<|z07 [6] rfl<|Qw<|QO<|z0h tok rfl ?_
         have hc: ¬(c.by_≠0∧x.claim=c.by_):=by
          intro hc
          rw[hc.2]at h
          have h1:=hc.1
          simp[h1]at h
         rw[if_neg hc]
         intro E' w' hm _
         exact z3j.same hV (hm.below lr) hT
      ·
       rw[hk]at h
       exact absurd h (by decide)
theorem zq8(hk:c.kind<0∨5<c.kind):Cl 96 #[g.val,tv,c.val] w (z59 V (t.apply g.blocks c) w):=by
 have hT:=h
 obtain⟨a,n,c0,a2,n2,c2,a3,n3,c3,rfl,h1,h2,h3⟩:=id h
 clear h
 have hss:=ht.s
 have hh:=ht.h
 have hq:=ht.q
 have hlim:lim=4398046511104:=rfl
 have hS:=h1.mono hV
 have hres0:t.apply g.blocks c=t:=by rw[Tb.apply];repeat rw[if_neg (by omega)]
 rw[hres0]
 refine Qf [.a (.v g.val), .a (.v (.agg #[.slice a n c0, .slice a2 n2 c2, .slice a3 n3 c3])), .a (.v c.val)] Tryz.func96 rfl<|QA<|QC<|QE 4 [3,4,5,6] rfl<|Qw<|QA<|QC<|Yy 3 rfl<|Qc (.a (.v _)) rfl z3z (fun hg E w1 hm=>by exact z3v V a n c0 _ _ t.S c.by_ _ (hV.trans hm.leV) h1 (by omega)) ?_
 refine QE 5 [3,4,5,6,7,8] rfl<|Qw<|QA<|QC<|Yy 3 rfl<|Qc (.a (.v _)) rfl z3z (fun hg E w1 hm=>by exact z3v V a n c0 _ _ t.S c.dead _ (hV.trans hm.leV) h1 (by omega)) ?_
 refine QE 5 [3,4,5,6,7,8,9,10] rfl<|Qw<|QA<|QA<|QC<|QE 2 [3,4,5,6,7,8,9,10,32] rfl<|Qw<|QJ<|QA<|QC<|QE 2 [3,4,5,6,7,8,9,10,32,33] rfl<|Qw<|Qn rfl (fun h=> ?_) fun h=> ?_
 ·
  simp only[beq_iff_eq]at h
  omega
 ·
  clear h
  refine QA<|QC<|QE 2 [3,4,5,6,7,8,9,10,32,63] rfl<|Qw<|Qn rfl (fun h=> ?_) fun h=> ?_
  ·
   simp only[beq_iff_eq]at h
   omega
  ·
   clear h
   refine QA<|QC<|QE 2 [3,4,5,6,8,9,10,32,69] rfl<|Qw<|Qn rfl (fun h=> ?_) fun h=> ?_
   ·
    simp only[beq_iff_eq]at h
    omega
   ·
    clear h
    refine QA<|QC<|QE 2 [4,5,6,9,10,32,112] rfl<|Qw<|Qn rfl (fun h=> ?_) fun h=> ?_
    ·
     simp only[beq_iff_eq]at h
     omega
    ·
     clear h
     refine QA<|QC<|QE 2 [4,5,6,9,10,32,138] rfl<|Qw<|Qn rfl (fun h=> ?_) fun h=> ?_
     ·
      simp only[beq_iff_eq]at h
      omega
     ·
      clear h
      refine QA<|QC<|QE 2 [4,5,6,9,10,169] rfl<|Qw<|Qn rfl (fun h=> ?_) fun h=> ?_
      ·
       simp only[beq_iff_eq]at h
       omega
      ·
       refine QI<|QM<|Qw<|QA<|QC<|Yy 1 rfl<|Qs rfl<|z07 [6] rfl<|Qw<|QO<|Qb rfl fun E' w' hm=> ?_
       exact z3j.same hV (hm.below lr) hT
theorem zxm:Cl 96 #[g.val,tv,c.val] w (z59 V (t.apply g.blocks c) w):=by
 rcases(by omega:c.kind=0∨c.kind=1∨c.kind=2∨c.kind=3∨c.kind=4∨c.kind=5∨(c.kind<0∨5<c.kind))with hk|hk|hk|hk|hk|hk|hk
 · exact ztv V g tv t c w ht hq1 hV h hk
 · exact zqe V g tv t c w ht hq1 hV h hk
 · exact ztg V g tv t c w ht hq1 hV h hk
 · exact zq6 V g tv t c w ht hq1 hV h hk
 · exact zuv V g tv t c w ht hq1 hV h hk
 · exact zss V g tv t c w ht hq1 hV h hk
 · exact zq8 V g tv t c w ht hq1 hV h hk
end
theorem zfa: ∀k:Nat,z6z k [I 0,I 0]=(List.replicate k (⟨0,0⟩:Slot)).flatMap Slot.cells
 |0=>rfl
 |k+1=>by rw[List.replicate_succ,List.flatMap_cons,←zfa k];rfl
theorem j94(V:Vw)(g:Geo)(w:World)(hV:V.le (vw w)):Cl 115 #[g.val] w (z59 V (zi4 g.slots) w):=by
 have hk:min (max g.slots 0) 16=((zad g.slots:Nat):Int):=by rw[zad];omega
 have hk16:zad g.slots≤16:=by rw[zad];omega
 refine Qf [.a (.v g.val)] Tryz.func115 rfl<|QA<|QC<|QE 2 [1,2] rfl<|Qw<|QA<|QC<|Yy 2 rfl ?_
 iterate 2 refine zhw rfl rfl rfl (j2f rfl) ?_
 rw[show(bif false then max (bif true then max g.slots 0 else min g.slots 0) 16 else min (bif true then max g.slots 0 else min g.slots 0) 16)=((zad g.slots:Nat):Int)from hk]
 refine QZ rfl (z2z tok (zad g.slots) (zad g.slots) rfl rfl rfl (Nat.le_refl _) (by show 16*zad g.slots≤_;omega) (by simp only[maxLen];omega)) fun _ _=> ?_
 refine Yy 1 rfl<|Qs rfl<|z07 [2] rfl<|Qw<|QO<|Qb rfl fun E' w' hm=> ?_
 have hrow:=hm.rowFresh lr (l:=2) rfl
 rw[show z6z (zad g.slots) _=_ from zfa (zad g.slots)]at hrow
 exact z3j.out (t:=zi4 g.slots) hV (hm.below lr) (by show World.ownsRow _ _ _ _ _ (List.replicate (zad g.slots) (⟨0,0⟩:Slot)).length _;rw[List.length_replicate];exact hrow) (World.ownsRow_nil w' w.heap.size _ _)<|World.ownsRow_nil w' w.heap.size _ _
theorem za5(t:Tb):t.grant.H.length+t.grant.Q.length=t.H.length+t.Q.length:=by
 have:=zpw t.Q t.H []
 simp only[List.length_nil,Nat.add_zero]at this
 exact this
theorem ziv(t:Tb)(k:Nat):(t.clear k).H.length+(t.clear k).Q.length≤t.H.length+t.Q.length:=by
 rw[Tb.clear,za5]
 have h1:=List.length_filter_le (fun h:Hold=> !(h.key==z68 t.S k)) t.H
 have h2:=List.length_filter_le (fun h:Hold=> !(h.key==z68 t.S k)) t.Q
 dsimp only
 omega
theorem zjr(blocks:Int)(t:Tb)(c:Cmd):(t.apply blocks c).H.length+(t.apply blocks c).Q.length≤t.H.length+t.Q.length+1:=by
 unfold Tb.apply
 split
 ·
  unfold Tb.mount
  split
  · omega
  · split<;>first|omega|(dsimp only;omega)
 ·
  split
  ·
   unfold Tb.leave
   split
   · have:=ziv t (by assumption);omega
   · omega
  ·
   split
   ·
    unfold Tb.ask
    split
    · rw[za5];dsimp only;rw[List.length_append];dsimp only[List.length];omega
    · omega
   ·
    split
    ·
     unfold Tb.free
     split
     · rw[za5];dsimp only;have:=(z4t t.H (by assumption)).length_le;omega
     ·
      split
      · rw[za5];dsimp only;have:=(z4t t.Q (by assumption)).length_le;omega
      · omega
    ·
     split
     ·
      unfold Tb.claim
      split
      · split<;>first|omega|(dsimp only;omega)
      · omega
     ·
      split
      ·
       unfold Tb.purge
       split
       ·
        split
        · have:=ziv t (by assumption);omega
        · omega
       · omega
      · omega
theorem TbOk.fitS{n blocks:Int}{t:Tb}(h:TbOk n blocks t)(hn:n≤16)(hs:t.H.length+t.Q.length≤90000):t.Fit∧t.Q.length+1≤100000:=by
 have:=h.n
 exact⟨⟨by omega,by omega,by omega⟩,by omega⟩
theorem zif{c:Cmd}(h:z57 c=true):16≤c.by_:=by
 simp only[z57,Bool.and_eq_true]at h
 have:=h.1.1.1
 simp only[zbt,Bool.and_eq_true,decide_eq_true_eq]at this
 exact this.1
theorem z1w{V V0:Vw}{Φ:Value→Vw→Prop}{n:Nat}{w1 w':World}{e:Ending}(hn:n≤w1.heap.size)(hV:V.le V0)(h0:V0.le (vw w1))
  (h: ∃v V2,e= .returned v∧Below w1.heap.size w1 w'∧Vext w1.heap.size V V2 w'∧Φ v V2):
  ∃v V',e= .returned v∧Below w1.heap.size w1 w'∧Vext w1.heap.size V0 V' w'∧ ∃V2:Vw,V2.le V'∧V.le V2∧(∀k o,V2.get k=some o→V.get k=some o∨n≤k)∧Φ v V2:=by
 obtain⟨v,V2,e1,hb,hx,hp⟩:=h
 refine⟨v,V0.grown w1 w',e1,hb,Vext.grown h0 hb,V2,⟨?_, ?_, ?_, ?_⟩,hx.le,fun k o hk=>(hx.get k o hk).2.imp id (Nat.le_trans hn),hp⟩
 ·
  intro k o hk
  obtain⟨h1,h2⟩:=hx.get k o hk
  simp only[Vw.grown]
  rcases h2 with h2|h2
  ·
   rw[if_pos (h0.lt (hV.get _ _ h2))]
   exact hV.get _ _ h2
  ·
   rw[if_neg (by omega)]
   exact h1
 · exact hV.os.trans hx.le.os.symm
 · exact hV.tape.trans hx.le.tape.symm
 · exact hV.output.trans hx.le.output.symm
def z5r(blocks:Int)(t:Tb)(l:List Cmd):Tb:=l.foldl (fun t c=>t.apply blocks c) t
theorem zxb(V:Vw)(g:Geo)(lv:Value)(l:List Cmd)(w:World)(hV:V.le (vw w))(hs0:SlOf V Cmd.cells 8 lv l)(hl:l.length≤5000)(hcm: ∀c∈l,z57 c=true):
  Cl 90 #[g.val,lv] w (z59 V (z5r g.blocks (zi4 g.slots) l) w):=by
 obtain⟨a0,n0,c0,rfl⟩:=z04 hs0.sl
 have hs:=hs0.mono hV
 refine Qf [.a (.v g.val), .a (.v (.slice a0 n0 c0))] Tryz.func90 rfl<|QA<|QC<|QE 2 [1,2,4] rfl<|Qw<|QA<|zdl [] ([(0, .lit (g.cells.map .v) 23)]) mixed (by repeat (first|exact oN|refine oC rfl ?_)) (by first|rfl|simp[z0u,z26]) ?_
 refine QT [0,2,5] rfl<|QS<|Qo 1<|z4e 1 (fun v V'=> ∃V2:Vw,V2.le V'∧V.le V2∧(∀k o,V2.get k=some o→V.get k=some o∨w.heap.size≤k)∧z3j V2 v (zi4 g.slots)) rfl rfl rfl j46 rfl rfl (fun hg E w1 hm=>by exact(j94 V g _ (hV.trans hm.leV)).mono fun e w' h=>z1w (hm.below lr).size hV hm.leV h) ?_
 rintro v1 W0 hle0 hv0
 obtain⟨W1,hW10,hle1,hget1,hT1⟩:=hv0 rfl
 obtain⟨d1,m1,e1,d2,m2,e2,d3,m3,e3,rfl,_⟩:=id hT1
 refine Qx [3] rfl<|Qo 4<|Qk 4 rfl rfl rfl rfl<|Qo 6<|jbf 6 rfl rfl rfl rfl rfl rfl rfl j3g Tryz.func116 rfl rfl rfl fun E=>QA<|QC<|QE 1 [0,1] rfl<|Qw<|QA<|QA<|QC<|Yy 1 rfl<|QY rfl (z0l tok rfl (fun hg=>(hs0.mono hV|>.mono hle0).sl))<|QE 1 [0,7,8,9] rfl<|Qw<|QJ<|Lv [0,7,8] [2] rfl rfl (σ:=Nat×Value×Value×Value×Tb×Vw×Vw) (fun(i,s,u,q,t,W,Z)=>[(9, .a (.v (I i)))]) (fun(i,s,u,q,t,W,Z)=>[(2, .lit ([.v s, .v u, .v q]++g.cells.map .v++[.v (I i)]) 185)]) (fun(i,s,u,q,t,W,Z)=>W) (fun(i,s,u,q,t,W,Z)=>(i≤l.length∧t.H.length+t.Q.length≤i∧t=z5r g.blocks (zi4 g.slots) (l.take i))∧((vw w).le W∧Z.le W)∧V.le Z∧z3j Z (.agg #[s,u,q]) t∧TbOk (zad g.slots) g.blocks t∧ ∀k o,Z.get k=some o→V.get k=some o∨w.heap.size≤k) (fun(i,s,u,q,t,W,Z)=>l.length - i) ((0,_,_,_,zi4 g.slots,W0,W1)) (⟨⟨by omega,Nat.le_refl _,rfl⟩,⟨hle0,hW10⟩,hle1,hT1,TbOk.new _ _,hget1⟩) ?_
 rintro⟨i,s,u,q,t,W,Z⟩ ⟨⟨hi,hsum,hbe⟩,⟨hwW,hZW⟩,hle,hT,hok,hgt⟩
 dsimp only at hi hsum hbe hwW hZW hle hT hok hgt⊢
 have hn16:((zad g.slots:Nat):Int)≤16:=by rw[zad];omega
 have hs':=(hs0.mono hle).mono hZW
 have hfit:=hok.fitS hn16 (by omega)
 refine QA<|QC<|QE 1 [0,7,8,9,10] rfl<|Qw<|QA<|QX rfl (fun h=> ?_) fun h=> ?_
 ·
  refine QI<|Qw<|QA<|QJ<|QA<|QC ?_
  obtain⟨c,h_c⟩:=hs'.at (k:=i) (by omega)
  have hlt_c:=z01 h_c
  refine QY rfl (z0c tok rfl (fun hg=>hs'.sl) (fun hg=>⟨by omega,by omega⟩))<|QY rfl (z08 tok (i) 0 (c) rfl (fun hg=>hs') (fun hg=>h_c) rfl rfl)<|Yy 1 rfl<|Qs rfl<|z07 [0,6,7,8,9] rfl<|Qw<|QA<|Rb [13] rfl<|QD [0,1,2,3,4,5,6,7,8,9] rfl<|QS<|Qo 10 ?_
  have hcB:=hcm c (List.mem_of_getElem? h_c)
  have hck: -128≤c.kind∧c.kind≤127:=by have:=(zkz hcB).kind;omega
  have hok2:=hok.apply (c:=c) (zif hcB)
  have hsum2:=zjr g.blocks t c
  have hwi:IntKind.i64.wrap ((i:Int)+1)=((i+1:Nat):Int):=z06 (by omega) (by omega)
  have hbe2:t.apply g.blocks c=z5r g.blocks (zi4 g.slots) (l.take (i+1)):=by
   rw[z0y h_c,z5r,List.foldl_append,hbe];rfl
  refine z4e 10 (fun v V'=> ∃V2:Vw,V2.le V'∧Z.le V2∧(∀k o,V2.get k=some o→Z.get k=some o∨w.heap.size≤k)∧z3j V2 v (t.apply g.blocks c)) rfl rfl rfl j03 rfl rfl (fun hg E w1 hm=>by exact(zzu Z g _ t hfit.1 hfit.2 c hck _ (hZW.trans hm.leV) hT).mono fun e w' h=>z1w (hm.below hwW).size hZW hm.leV h) ?_
  rintro v2 W2 hle2 hv2
  obtain⟨Z2,hZ2,hZZ,hgt2,hT2⟩:=hv2 rfl
  obtain⟨x1,y1,z1,x2,y2,z2,x3,y3,z3,rfl,_⟩:=id hT2
  refine Qx [11,12] rfl<|Qo 13<|Qj 13 rfl<|Qe [0,7,8,9] rfl<|Qw<|QC<|Yy 7 rfl<|Qs rfl<|z07 [0,7,8,9] rfl<|QM<|Qw<|QC<|QE 2 [0,7,8,9] rfl<|Qw ?_
  rw[hwi]
  refine Qr ((i+1,_,_,_,t.apply g.blocks c,W2,Z2))<|⟨⟨by dsimp only;omega,by dsimp only;omega,hbe2⟩,⟨hwW.trans hle2,hZ2⟩,hle.trans hZZ,hT2,hok2,fun k o hk=>(hgt2 k o hk).elim (hgt k o) .inr⟩
 ·
  have hil:i=l.length:=by simp at h;omega
  clear h
  subst hil
  rw[List.take_length]at hbe
  obtain⟨x1,y1,z1,x2,y2,z2,x3,y3,z3,hv,_⟩:=id hT
  simp only[Value.agg.injEq,Array.mk.injEq,List.cons.injEq,and_true]at hv
  obtain⟨rfl,rfl,rfl⟩:=hv
  refine QN<|QK<|QK<|QQ<|Qw<|QA<|QC<|QE 2 [4] rfl<|Qw<|QO<|z0h tok rfl ?_
  intro E1 w1 hm1 hok1
  refine z67 (E:=E) hm1 hok1 rfl rfl (by repeat (first|exact z1c.zero|refine z1c.succ rfl ?_)) rfl (by repeat (first|exact oN|refine oC rfl ?_)) rfl ?_
  clear hm1 hok1 w1 E1 E
  refine⟨.inr ⟨(by repeat (first|exact oN|refine oC rfl ?_)),rfl,by first|exact lr|assumption⟩, ?_⟩
  refine Qx [7,8,9] rfl<|Qo 10<|Qi 10 rfl<|Qe [4] rfl<|Qw<|QO<|Qb rfl fun E' w' hm=> ?_
  exact⟨_,Z,rfl,hm.below hwW,⟨hle,fun k o hk=>⟨(hZW.trans hm.leV).get k o hk,hgt k o hk⟩⟩,hbe▸hT⟩
end Go.Proofs.YtkoiogkdiifgfaaGreat

/- Where everything stands: the program's regions. -/
set_option linter.unusedVariables false
set_option linter.unusedSimpArgs false
set_option maxRecDepth 100000
namespace Go.Proofs.YtkoiogkdiifgfaaGreat
open Go Go.Eng Go.RowKit
structure Reg where
 first:Int
 many:Int
 kind:Int
 per:Int
abbrev Reg.cells(r:Reg):List Value:=[I r.first,I r.many,I8 r.kind,I r.per]
abbrev Reg.val(r:Reg):Value:= .agg #[I r.first,I r.many,I8 r.kind,I r.per]
def z2b(g:Geo):Int:=1+2*g.nodes+g.log+g.slots*(1+g.journal)
def zpm(g:Geo):List Reg:=
 [⟨0,1,1,1⟩,⟨1,g.nodes,2,1⟩,⟨1+g.nodes,g.nodes,3,1⟩,⟨1+2*g.nodes,g.log,4,1⟩,⟨1+2*g.nodes+g.log,g.slots*(1+g.journal),6,1+g.journal⟩,⟨z2b g,g.blocks*g.per,7,g.per⟩]
theorem z35(a b:Int)(w:World):Rt 85 #[.agg #[I a,I b]] w (I (IntKind.i64.wrap (a+b))):=by
 refine Qf [.a (.v (.agg #[I a,I b]))] Tryz.func85 rfl<|QA<|QC<|QE 2 [1] rfl<|Qw<|QA<|QC<|QE 6 [2] rfl<|Qw<|QO<|Qb rfl fun E w' hm=>⟨?_,hm.below lr⟩
 rfl
theorem zmh(a b k:Int)(w:World):Rt 107 #[.agg #[I a,I b],I k] w (I (if k<0∨b≤k then -1 else IntKind.i64.wrap (a+k))):=by
 refine Qf [.a (.v (.agg #[I a,I b])), .a (.v (I k))] Tryz.func107 rfl<|QA<|QC<|QE 2 [1,2] rfl<|Qw<|QA<|QA<|QC<|QE 8 [1,2,12] rfl<|Qw<|QX rfl (fun h=> ?_) fun h=> ?_
 ·
  refine QA<|QC<|QE 1 [4] rfl<|Qw<|QO<|QL<|Qb rfl fun E w' hm=>⟨?_,hm.below lr⟩
  rw[if_pos (by omega)];rfl
 ·
  refine QI<|Qw<|QA<|QC<|QE 5 [4] rfl<|Qw<|QO<|Qb rfl fun E w' hm=>⟨?_,hm.below lr⟩
  rw[if_neg (by omega)];rfl
theorem z0b{g:Geo}(h:z2y g=true):(1≤g.nodes∧g.nodes≤16)∧(1≤g.slots∧g.slots≤g.nodes)∧(1≤g.blocks∧g.blocks≤64)∧(1≤g.per∧g.per≤8)∧(g.per+2≤g.journal∧g.journal≤64)∧
 (8*g.slots≤g.log∧g.log≤512)∧(1≤g.lease∧g.lease<g.wait∧g.wait≤1048576):=by simpa[z2y]using h
theorem z37{a b A B:Int}(ha:0≤a)(hb:0≤b)(h1:a≤A)(h2:b≤B):0≤a*b∧a*b≤A*B:=
 ⟨Int.mul_nonneg ha hb,Int.le_trans (Int.mul_le_mul_of_nonneg_right h1 hb) (Int.mul_le_mul_of_nonneg_left h2 (by omega))⟩
theorem z8d(l:List Reg): ∀u∈l.flatMap Reg.cells,u.oneCell'=true:=by
 intro u hu
 obtain⟨x,_,hx⟩:=List.mem_flatMap.1 hu
 simp only[Reg.cells,List.mem_cons,List.not_mem_nil,or_false]at hx
 rcases hx with rfl|rfl|rfl|rfl<;>rfl
theorem zup(g:Geo)(ok:g.Ok)(w:World):
  Cl 112 #[g.val] w fun e w'=>((z2y g=true∧ ∃v,e= .returned v∧w'.ownsRow w.heap.size 142 4 v 6 ((zpm g).flatMap Reg.cells))∨(z2y g=false∧e= .returned (.slice none 0 0)))∧Below w.heap.size w w':=by
 refine Qf [.a (.v g.val)] Tryz.func112 rfl<|QA<|QC<|QE 2 [1,2] rfl<|Qw<|QA<|QA<|QC<|Yy 1 rfl<|Qc (.a (.v _)) rfl zcr (fun hg E w1 hm=>by exact z73 g ok _) ?_
 refine QE 1 [1,2,7] rfl<|Qw<|QX rfl (fun h=> ?_) fun h=> ?_
 ·
  refine QA<|QC<|Qs rfl<|z07 [2] rfl<|Qw<|QO<|QL<|Qb rfl fun E w' hm=> ?_
  exact⟨.inr ⟨by simpa using h,rfl⟩,hm.below lr⟩
 ·
  refine QI<|Qw<|QA<|QC<|Yy 1 rfl<|Qs rfl<|z07 [1,2,3] rfl<|Qw<|QA<|QC<|QE 2 [1,2,4] rfl<|Qw<|QA<|QC<|Yy 1 rfl ?_
  have hgeo:z2y g=true:=by simpa using h
  clear h
  have hf:=z0b hgeo
  have hs:=z37 (a:=g.slots) (b:=1+g.journal) (A:=16) (B:=65) (by omega) (by omega) (by omega) (by omega)
  have hb:=z37 (a:=g.blocks) (b:=g.per) (A:=64) (B:=8) (by omega) (by omega) (by omega) (by omega)
  have hda:z2b g=1+2*g.nodes+g.log+g.slots*(1+g.journal):=rfl
  refine z9r 1 0 142 4 rfl rfl<|zh8 rfl rfl rfl rfl rfl zak Tryz.func142 rfl rfl rfl fun E=>QA<|QC<|Yy 9 rfl<|Qs rfl<|z07 [3,4,8] rfl<|Qw<|QA<|QC<|Yy 2 rfl ?_
  rw[show IntKind.i64.wrap (1*1)=1 by rw[z06 (by omega) (by omega)];try omega]
  refine QZ rfl (z1q tok 4 rfl rfl rfl) fun _ _=>QZ rfl (z0g tok (⟨0,1,1,1⟩:Reg).cells rfl (fun E w hm=>z09 (hm.row _ _ _ _ _ rfl)) (fun _ _ _=>by simpa using z8d [(⟨0,1,1,1⟩:Reg)]) (by dsimp only;omega)) fun _ _=> ?_
  refine Qs rfl<|z07 [3,8] rfl<|Qw<|QC<|Yy 2 rfl<|Qc (.a (.v _)) rfl zdr (fun hg E w1 hm=>by exact z35 _ _ _) ?_
  refine Qs rfl<|z07 [] rfl<|z55 tok rfl ?_
  rw[show IntKind.i64.wrap (0+1)=1 by rw[z06 (by omega) (by omega)];try omega]
  intro E1 w1 hm1 hok1
  refine z67 (E:=E) hm1 hok1 rfl rfl (by repeat (first|exact z1c.zero|refine z1c.succ rfl ?_)) rfl (by repeat (first|exact oN|refine oC rfl ?_)) rfl ?_
  clear hm1 hok1 w1 E1 E
  refine z00 3 10 rfl<|zdg (l:=[(1, .a (.ptr 0 0)),(2, .a (.ptr 1 0)),(4, .a (.fn 142 [(2,0),(1,0)]))]) (O':=[(0, .lit (g.cells.map .v) 23),(1, .lit [.row 3] 182),(2, .lit [.v (I (1))] 3),(3, .row 142 4 1 (((zpm g).take 1).flatMap Reg.cells))]) (nl':=4) ?_ (by repeat (first|exact fN|refine fC rfl ?_)) (by repeat (first|exact oN|refine oC rfl ?_)) rfl<|Vw.le.refl _
  refine z07 [1,2,4] rfl<|Qw<|QA<|QC<|Yy 3 rfl<|zh8 rfl rfl rfl rfl rfl zak Tryz.func142 rfl rfl rfl fun E=>QA<|QC<|Yy 9 rfl<|Qs rfl<|z07 [3,4,8] rfl<|Qw<|QA<|QC<|Yy 2 rfl ?_
  rw[show IntKind.i64.wrap (g.nodes*1)=g.nodes by rw[z06 (by omega) (by omega)];try omega]
  refine QZ rfl (z1q tok 4 rfl rfl rfl) fun _ _=>QZ rfl (z0g tok (⟨1,g.nodes,2,1⟩:Reg).cells rfl (fun E w hm=>z09 (hm.row _ _ _ _ _ rfl)) (fun _ _ _=>by simpa using z8d [(⟨1,g.nodes,2,1⟩:Reg)]) (by dsimp only;omega)) fun _ _=> ?_
  refine Qs rfl<|z07 [3,8] rfl<|Qw<|QC<|Yy 2 rfl<|Qc (.a (.v _)) rfl zdr (fun hg E w1 hm=>by exact z35 _ _ _) ?_
  refine Qs rfl<|z07 [] rfl<|z55 tok rfl ?_
  rw[show IntKind.i64.wrap (1+g.nodes)=1+g.nodes by rw[z06 (by omega) (by omega)];try omega]
  intro E1 w1 hm1 hok1
  refine z67 (E:=E) hm1 hok1 rfl rfl (by repeat (first|exact z1c.zero|refine z1c.succ rfl ?_)) rfl (by repeat (first|exact oN|refine oC rfl ?_)) rfl ?_
  clear hm1 hok1 w1 E1 E
  refine z00 3 10 rfl<|zdg (l:=[(1, .a (.ptr 0 0)),(2, .a (.ptr 1 0)),(4, .a (.fn 142 [(2,0),(1,0)]))]) (O':=[(0, .lit (g.cells.map .v) 23),(1, .lit [.row 3] 182),(2, .lit [.v (I (1+g.nodes))] 3),(3, .row 142 4 2 (((zpm g).take 2).flatMap Reg.cells))]) (nl':=4) ?_ (by repeat (first|exact fN|refine fC rfl ?_)) (by repeat (first|exact oN|refine oC rfl ?_)) rfl<|Vw.le.refl _
  refine z07 [1,2,4] rfl<|Qw<|QA<|QC<|Yy 3 rfl<|zh8 rfl rfl rfl rfl rfl zak Tryz.func142 rfl rfl rfl fun E=>QA<|QC<|Yy 9 rfl<|Qs rfl<|z07 [3,4,8] rfl<|Qw<|QA<|QC<|Yy 2 rfl ?_
  rw[show IntKind.i64.wrap (g.nodes*1)=g.nodes by rw[z06 (by omega) (by omega)];try omega]
  refine QZ rfl (z1q tok 4 rfl rfl rfl) fun _ _=>QZ rfl (z0g tok (⟨1+g.nodes,g.nodes,3,1⟩:Reg).cells rfl (fun E w hm=>z09 (hm.row _ _ _ _ _ rfl)) (fun _ _ _=>by simpa using z8d [(⟨1+g.nodes,g.nodes,3,1⟩:Reg)]) (by dsimp only;omega)) fun _ _=> ?_
  refine Qs rfl<|z07 [3,8] rfl<|Qw<|QC<|Yy 2 rfl<|Qc (.a (.v _)) rfl zdr (fun hg E w1 hm=>by exact z35 _ _ _) ?_
  refine Qs rfl<|z07 [] rfl<|z55 tok rfl ?_
  rw[show IntKind.i64.wrap ((1+g.nodes)+g.nodes)=1+2*g.nodes by rw[z06 (by omega) (by omega)];try omega]
  intro E1 w1 hm1 hok1
  refine z67 (E:=E) hm1 hok1 rfl rfl (by repeat (first|exact z1c.zero|refine z1c.succ rfl ?_)) rfl (by repeat (first|exact oN|refine oC rfl ?_)) rfl ?_
  clear hm1 hok1 w1 E1 E
  refine z00 3 10 rfl<|zdg (l:=[(1, .a (.ptr 0 0)),(2, .a (.ptr 1 0)),(4, .a (.fn 142 [(2,0),(1,0)]))]) (O':=[(0, .lit (g.cells.map .v) 23),(1, .lit [.row 3] 182),(2, .lit [.v (I (1+2*g.nodes))] 3),(3, .row 142 4 3 (((zpm g).take 3).flatMap Reg.cells))]) (nl':=4) ?_ (by repeat (first|exact fN|refine fC rfl ?_)) (by repeat (first|exact oN|refine oC rfl ?_)) rfl<|Vw.le.refl _
  refine z07 [1,2,4] rfl<|Qw<|QA<|QC<|Yy 3 rfl<|zh8 rfl rfl rfl rfl rfl zak Tryz.func142 rfl rfl rfl fun E=>QA<|QC<|Yy 9 rfl<|Qs rfl<|z07 [3,4,8] rfl<|Qw<|QA<|QC<|Yy 2 rfl ?_
  rw[show IntKind.i64.wrap (g.log*1)=g.log by rw[z06 (by omega) (by omega)];try omega]
  refine QZ rfl (z1q tok 4 rfl rfl rfl) fun _ _=>QZ rfl (z0g tok (⟨1+2*g.nodes,g.log,4,1⟩:Reg).cells rfl (fun E w hm=>z09 (hm.row _ _ _ _ _ rfl)) (fun _ _ _=>by simpa using z8d [(⟨1+2*g.nodes,g.log,4,1⟩:Reg)]) (by dsimp only;omega)) fun _ _=> ?_
  refine Qs rfl<|z07 [3,8] rfl<|Qw<|QC<|Yy 2 rfl<|Qc (.a (.v _)) rfl zdr (fun hg E w1 hm=>by exact z35 _ _ _) ?_
  refine Qs rfl<|z07 [] rfl<|z55 tok rfl ?_
  rw[show IntKind.i64.wrap ((1+2*g.nodes)+g.log)=1+2*g.nodes+g.log by rw[z06 (by omega) (by omega)];try omega]
  intro E1 w1 hm1 hok1
  refine z67 (E:=E) hm1 hok1 rfl rfl (by repeat (first|exact z1c.zero|refine z1c.succ rfl ?_)) rfl (by repeat (first|exact oN|refine oC rfl ?_)) rfl ?_
  clear hm1 hok1 w1 E1 E
  refine z00 3 10 rfl<|zdg (l:=[(1, .a (.ptr 0 0)),(2, .a (.ptr 1 0)),(4, .a (.fn 142 [(2,0),(1,0)]))]) (O':=[(0, .lit (g.cells.map .v) 23),(1, .lit [.row 3] 182),(2, .lit [.v (I (1+2*g.nodes+g.log))] 3),(3, .row 142 4 4 (((zpm g).take 4).flatMap Reg.cells))]) (nl':=4) ?_ (by repeat (first|exact fN|refine fC rfl ?_)) (by repeat (first|exact oN|refine oC rfl ?_)) rfl<|Vw.le.refl _
  refine z07 [1,2,4] rfl<|Qw<|QA<|QC<|Yy 6 rfl<|zh8 rfl rfl rfl rfl rfl zak Tryz.func142 rfl rfl rfl fun E=>QA<|QC<|Yy 9 rfl<|Qs rfl<|z07 [3,4,8] rfl<|Qw<|QA<|QC<|Yy 2 rfl ?_
  rw[z06 (n:=1+g.journal) (by omega) (by omega)]
  rw[show IntKind.i64.wrap (g.slots*(1+g.journal))=g.slots*(1+g.journal) by rw[z06 (by omega) (by omega)];try omega]
  refine QZ rfl (z1q tok 4 rfl rfl rfl) fun _ _=>QZ rfl (z0g tok (⟨1+2*g.nodes+g.log,g.slots*(1+g.journal),6,1+g.journal⟩:Reg).cells rfl (fun E w hm=>z09 (hm.row _ _ _ _ _ rfl)) (fun _ _ _=>by simpa using z8d [(⟨1+2*g.nodes+g.log,g.slots*(1+g.journal),6,1+g.journal⟩:Reg)]) (by dsimp only;omega)) fun _ _=> ?_
  refine Qs rfl<|z07 [3,8] rfl<|Qw<|QC<|Yy 2 rfl<|Qc (.a (.v _)) rfl zdr (fun hg E w1 hm=>by exact z35 _ _ _) ?_
  refine Qs rfl<|z07 [] rfl<|z55 tok rfl ?_
  rw[show IntKind.i64.wrap ((1+2*g.nodes+g.log)+g.slots*(1+g.journal))=z2b g by rw[z06 (by omega) (by omega)];try omega]
  intro E1 w1 hm1 hok1
  refine z67 (E:=E) hm1 hok1 rfl rfl (by repeat (first|exact z1c.zero|refine z1c.succ rfl ?_)) rfl (by repeat (first|exact oN|refine oC rfl ?_)) rfl ?_
  clear hm1 hok1 w1 E1 E
  refine z00 3 10 rfl<|zdg (l:=[(1, .a (.ptr 0 0)),(2, .a (.ptr 1 0)),(4, .a (.fn 142 [(2,0),(1,0)]))]) (O':=[(0, .lit (g.cells.map .v) 23),(1, .lit [.row 3] 182),(2, .lit [.v (I (z2b g))] 3),(3, .row 142 4 5 (((zpm g).take 5).flatMap Reg.cells))]) (nl':=4) ?_ (by repeat (first|exact fN|refine fC rfl ?_)) (by repeat (first|exact oN|refine oC rfl ?_)) rfl<|Vw.le.refl _
  refine z07 [1,2,4] rfl<|Qw<|QA<|QC<|Yy 5 rfl<|zh8 rfl rfl rfl rfl rfl zak Tryz.func142 rfl rfl rfl fun E=>QA<|QC<|Yy 9 rfl<|Qs rfl<|z07 [3,4,8] rfl<|Qw<|QA<|QC<|Yy 2 rfl ?_
  rw[show IntKind.i64.wrap (g.blocks*g.per)=g.blocks*g.per by rw[z06 (by omega) (by omega)];try omega]
  refine QZ rfl (z1q tok 4 rfl rfl rfl) fun _ _=>QZ rfl (z0g tok (⟨z2b g,g.blocks*g.per,7,g.per⟩:Reg).cells rfl (fun E w hm=>z09 (hm.row _ _ _ _ _ rfl)) (fun _ _ _=>by simpa using z8d [(⟨z2b g,g.blocks*g.per,7,g.per⟩:Reg)]) (by dsimp only;omega)) fun _ _=> ?_
  refine Qs rfl<|z07 [3,8] rfl<|Qw<|QC<|Yy 2 rfl<|Qc (.a (.v _)) rfl zdr (fun hg E w1 hm=>by exact z35 _ _ _) ?_
  refine Qs rfl<|z07 [] rfl<|z55 tok rfl ?_
  rw[show IntKind.i64.wrap (z2b g+g.blocks*g.per)=z2b g+g.blocks*g.per by rw[z06 (by omega) (by omega)];try omega]
  intro E1 w1 hm1 hok1
  refine z67 (E:=E) hm1 hok1 rfl rfl (by repeat (first|exact z1c.zero|refine z1c.succ rfl ?_)) rfl (by repeat (first|exact oN|refine oC rfl ?_)) rfl ?_
  clear hm1 hok1 w1 E1 E
  refine z07 [2] rfl<|Qw<|QA<|QC<|Yy 1 rfl<|Qs rfl<|z07 [2] rfl<|Qw<|QO<|Qb rfl fun E w' hm=>⟨.inl ⟨hgeo,E.κ 10,rfl, ?_⟩,hm.below lr⟩
  have hrow:=hm.rowFresh lr (l:=10) rfl
  simpa[zpm]using hrow
def zf4(g:Geo):List Reg:=if z2y g=true then zpm g else []
theorem zpv(V:Vw)(g:Geo)(ok:g.Ok)(w:World)(hV:V.le (vw w)):
  Cl 112 #[g.val] w fun e w'=> ∃x V',e= .returned x∧Below w.heap.size w w'∧Vext w.heap.size V V' w'∧SlOf V' Reg.cells 4 x (zf4 g):=by
 refine(zup g ok w).mono ?_
 rintro e w' ⟨⟨h,v,rfl,hown⟩|⟨h,rfl⟩,hb⟩
 ·
  obtain⟨V',hx,hsl⟩:=z1i hV hb hown
  exact⟨_,V',rfl,hb,hx,by rw[zf4,if_pos h];exact⟨hsl,fun _=>rfl⟩⟩
 · exact⟨_,V,rfl,hb,Vext.same hV hb,by rw[zf4,if_neg (by simp[h])];exact zij V Reg.cells 4 0 (fun _=>rfl)⟩
def z8s(k:Int):List Reg→Reg
 |[]=>⟨0,0,0,1⟩
 |r::t=>if r.kind=k then r else z8s k t
theorem zzb(g:Geo)(ok:g.Ok)(k:Int)(w:World):Cl 84 #[g.val,I8 k] w fun e w'=>e= .returned (z8s k (zf4 g)).val∧Below w.heap.size w w':=by
 refine Qf [.a (.v g.val), .a (.v (I8 k))] Tryz.func84 rfl<|QA<|QC<|QE 2 [1,2,4] rfl<|Qw<|QA<|QA<|QC<|Yy 1 rfl<|Qv (fun x V'=>SlOf V' Reg.cells 4 x (zf4 g)) rfl j3h (fun hg E w1 hm=>by exact zpv (vw w) g ok _ hm.leV) ?_
 rintro x V1 hle1 hx
 have hs:=hx rfl
 clear hx
 refine QY rfl (z0l tok rfl (fun hg=>hs.sl))<|QE 1 [1,4,8,9,10] rfl<|Qw<|QJ ?_
 have hl6:(zf4 g).length≤6:=by unfold zf4;split<;>simp[zpm]
 refine Lv [1,4,8,9] [] rfl rfl (σ:=Nat) (fun i=>[(10, .a (.v (I i)))]) (fun i=>[]) (fun i=>V1) (fun i=>i≤(zf4 g).length∧z8s k (zf4 g)=z8s k ((zf4 g).drop i)) (fun i=>(zf4 g).length - i) (0) (⟨by omega,rfl⟩) ?_
 rintro i ⟨hi,heq⟩
 refine QA<|QC<|QE 1 [1,4,8,9,10,11] rfl<|Qw<|QA<|QX rfl (fun h=> ?_) fun h=> ?_
 ·
  refine QI<|Qw<|QA<|QJ<|QA<|QC ?_
  obtain⟨r,h_r⟩:=hs.at (k:=i) (by omega)
  rw[z27 h_r,z8s]at heq
  have hlt_r:=z01 h_r
  refine QY rfl (z0c tok rfl (fun hg=>hs.sl) (fun hg=>⟨by omega,by omega⟩))<|QY rfl (z08 tok (i) 0 (r) rfl (fun hg=>hs) (fun hg=>h_r) rfl rfl)<|Yy 1 rfl<|Qs rfl<|z07 [1,4,6,8,9,10] rfl<|Qw<|QA<|QC<|QE 4 [1,4,6,8,9,10,17] rfl<|Qw<|QX rfl (fun h=> ?_) fun h=> ?_
  ·
   refine QA<|QC<|Yy 1 rfl<|Qs rfl<|z07 [4] rfl<|Qw<|QO<|QP<|QL<|QL<|QP<|QL<|z0h tok rfl ?_
   rw[if_pos h]at heq
   intro E w' hm _
   refine⟨?_,hm.below (hle1)⟩
   rw[heq];rfl
  ·
   refine QI<|QM<|Qw<|QC<|QE 2 [1,4,8,9,10] rfl<|Qw ?_
   rw[if_neg h]at heq
   rw[z06 (n:=(i:Int)+1) (by omega) (by omega)]
   refine Qr (i+1)<|⟨by omega,heq⟩
 ·
  refine QN<|QK<|QK<|QQ<|Qw<|QA<|QC<|Yy 1 rfl<|Qs rfl<|z07 [4] rfl<|Qw<|QO<|z0h tok rfl ?_
  have hkL:i=(zf4 g).length:=by omega
  subst hkL
  rw[List.drop_length,z8s]at heq
  intro E w' hm _
  refine⟨?_,hm.below (hle1)⟩
  rw[heq];rfl
theorem zlj(g:Geo)(ok:g.Ok)(kd i k:Int)(r:Reg)(hr:z8s kd (zf4 g)=r)(m:Int)(hm0:0≤m)(hm:r.many=m*r.per)(hp:1≤r.per)(hb:m*r.per≤4096)(hf:0≤r.first)(hf2:r.first≤4096)(v:Int)(hv:v=if i<0∨m≤i∨k<0∨r.per≤k then -1 else r.first+i*r.per+k)(w:World):
  Rt 79 #[g.val,I8 kd,I i,I k] w (I v):=by
 have hq:r.many.tdiv r.per=m:=by rw[hm];exact Int.mul_tdiv_cancel m (by omega)
 have hpb:r.per≤m*r.per∨m=0:=by
  by_cases h:m=0
  · exact .inr h
  ·
   left
   have:=Int.mul_le_mul_of_nonneg_right (show 1≤m by omega) (show 0≤r.per by omega)
   omega
 have hmb:m≤m*r.per:=by
  have:=Int.mul_le_mul_of_nonneg_left hp hm0
  omega
 refine Qf [.a (.v g.val), .a (.v (I8 kd)), .a (.v (I i)), .a (.v (I k))] Tryz.func79 rfl<|QA<|QC<|QE 2 [1,2,3,4] rfl<|Qw<|QA<|QC<|Yy 2 rfl<|Qc (.a (.v _)) rfl zzo (fun hg E w1 hm=>by exact zzb g ok kd _) ?_
 refine Yy 1 rfl<|Qs rfl<|z07 [2,3,9] rfl<|Qw<|QA<|QA<|QC<|Yy 9 rfl ?_
 rw[hr]
 have hqw:IntKind.i64.wrap (r.many.tdiv r.per)=m:=by rw[hq,z06 (by omega) (by omega)]
 refine QY rfl (zx1 rfl (fun hg=>by omega))<|QE 12 [2,3,9,34] rfl<|Qw<|QX rfl (fun h=> ?_) fun h=> ?_
 ·
  refine QA<|QC<|QE 1 [8] rfl<|Qw<|QO<|QL<|Qb rfl fun E w' hm=>⟨?_,hm.below lr⟩
  rw[hv,if_pos (by omega)];rfl
 ·
  refine QI<|Qw<|QA<|QC<|Yy 8 rfl ?_
  have hik:=z37 (a:=i) (b:=r.per) (A:=m) (B:=r.per) (by omega) (by omega) (by omega) (by omega)
  have h2:i*r.per+r.per≤m*r.per:=by
   have:=Int.mul_le_mul_of_nonneg_right (show i+1≤m by omega) (show 0≤r.per by omega)
   rw[Int.add_mul,Int.one_mul]at this
   exact this
  rw[z06 (n:=i*r.per) (by omega) (by omega),z06 (n:=i*r.per+k) (by omega) (by omega)]
  refine Qc (.a (.v _)) rfl j1b (fun hg E w1 hm=>by exact zmh r.first r.many _ _) ?_
  refine QE 1 [8] rfl<|Qw<|QO<|Qb rfl fun E w' hm=>⟨?_,hm.below lr⟩
  rw[hv,if_neg (by omega),if_neg (by omega),z06 (by omega) (by omega),Int.add_assoc];rfl
def z3w(g:Geo)(b k:Int):Int:=if z2y g=true∧0≤b∧b<g.blocks∧0≤k∧k<g.per then z2b g+b*g.per+k else -1
def z1o(g:Geo)(s:Int):Int:=if z2y g=true∧0≤s∧s<g.slots then 1+2*g.nodes+g.log+s*(1+g.journal)else -1
def z65(g:Geo)(s lsn:Int):Int:=if z1o g s<0∨lsn<0 then -1 else z1o g s+1+lsn%g.journal
def z5j(g:Geo):Int:=if z2y g=true then z2b g+g.blocks*g.per else 0
theorem ze3(g:Geo):z8s 7 (zf4 g)=if z2y g=true then⟨z2b g,g.blocks*g.per,7,g.per⟩else⟨0,0,0,1⟩:=by
 unfold zf4
 split<;>simp[zpm,z8s]
theorem ze4(g:Geo):z8s 6 (zf4 g)=if z2y g=true then⟨1+2*g.nodes+g.log,g.slots*(1+g.journal),6,1+g.journal⟩else⟨0,0,0,1⟩:=by
 unfold zf4
 split<;>simp[zpm,z8s]
theorem z2d{g:Geo}(h:z2y g=true):0≤g.slots*(1+g.journal)∧g.slots*(1+g.journal)≤1040∧0≤g.blocks*g.per∧g.blocks*g.per≤512∧1≤z2b g∧z2b g≤1585:=by
 have hf:=z0b h
 have hs:=z37 (a:=g.slots) (b:=1+g.journal) (A:=16) (B:=65) (by omega) (by omega) (by omega) (by omega)
 have hb:=z37 (a:=g.blocks) (b:=g.per) (A:=64) (B:=8) (by omega) (by omega) (by omega) (by omega)
 unfold z2b
 omega
theorem zyu(g:Geo)(ok:g.Ok)(b k:Int)(w:World):Rt 70 #[g.val,I b,I k] w (I (z3w g b k)):=by
 refine Qf [.a (.v g.val), .a (.v (I b)), .a (.v (I k))] Tryz.func70 rfl<|QA<|QC<|QE 2 [1,2,3] rfl<|Qw<|QA<|QC<|Yy 3 rfl ?_
 cases hgg:z2y g with
 |false=>
  have hr:=ze3 g
  rw[if_neg (by simp[hgg])]at hr
  refine Qc (.a (.v _)) rfl zd1 (fun hg E w1 hm=>by exact zlj g ok 7 b k _ hr 0 (by omega) (by simp) (by simp) (by simp) (by simp) (by simp) (z3w g b k) (by rw[z3w,if_neg (by simp[hgg]),if_pos (by dsimp only;omega)]) _) ?_
  refine QE 1 [6] rfl<|Qw<|QO<|Qb rfl fun E w' hm=>⟨?_,hm.below lr⟩
  rfl
 |true=>
  have hr:=ze3 g
  rw[if_pos hgg]at hr
  have hf:=z0b hgg
  have hz:=z2d hgg
  have hv:z3w g b k=if b<0∨g.blocks≤b∨k<0∨g.per≤k then -1 else z2b g+b*g.per+k:=by
   unfold z3w
   by_cases h:0≤b∧b<g.blocks∧0≤k∧k<g.per
   · rw[if_pos ⟨hgg,h⟩,if_neg (by omega)]
   · rw[if_neg (by rintro⟨_,hc⟩;exact h hc),if_pos (by omega)]
  refine Qc (.a (.v _)) rfl zd1 (fun hg E w1 hm=>by exact zlj g ok 7 b k _ hr g.blocks (by omega) rfl (by dsimp only;omega) (by dsimp only;omega) (by dsimp only;omega) (by dsimp only;omega) _ hv _) ?_
  refine QE 1 [6] rfl<|Qw<|QO<|Qb rfl fun E w' hm=>⟨?_,hm.below lr⟩
  rfl
theorem zuw(g:Geo)(ok:g.Ok)(s:Int)(w:World):Rt 56 #[g.val,I s] w (I (z1o g s)):=by
 refine Qf [.a (.v g.val), .a (.v (I s))] Tryz.func56 rfl<|QA<|QC<|QE 2 [1,2] rfl<|Qw<|QA<|QC<|Yy 2 rfl ?_
 cases hgg:z2y g with
 |false=>
  have hr:=ze4 g
  rw[if_neg (by simp[hgg])]at hr
  refine Qc (.a (.v _)) rfl zd1 (fun hg E w1 hm=>by exact zlj g ok 6 s 0 _ hr 0 (by omega) (by simp) (by simp) (by simp) (by simp) (by simp) (z1o g s) (by rw[z1o,if_neg (by simp[hgg]),if_pos (by dsimp only;omega)]) _) ?_
  refine QE 1 [4] rfl<|Qw<|QO<|Qb rfl fun E w' hm=>⟨?_,hm.below lr⟩
  rfl
 |true=>
  have hr:=ze4 g
  rw[if_pos hgg]at hr
  have hf:=z0b hgg
  have hz:=z2d hgg
  have hv:z1o g s=if s<0∨g.slots≤s∨(0:Int)<0∨1+g.journal≤0 then -1 else 1+2*g.nodes+g.log+s*(1+g.journal)+0:=by
   unfold z1o
   by_cases h:0≤s∧s<g.slots
   · rw[if_pos ⟨hgg,h⟩,if_neg (by omega),Int.add_zero]
   · rw[if_neg (by rintro⟨_,hc⟩;exact h hc),if_pos (by omega)]
  refine Qc (.a (.v _)) rfl zd1 (fun hg E w1 hm=>by exact zlj g ok 6 s 0 _ hr g.slots (by omega) rfl (by dsimp only;omega) (by dsimp only;omega) (by dsimp only;omega) (by dsimp only;omega) _ hv _) ?_
  refine QE 1 [4] rfl<|Qw<|QO<|Qb rfl fun E w' hm=>⟨?_,hm.below lr⟩
  rfl
theorem zhp{g:Geo}{s:Int}(h:0≤z1o g s):z2y g=true∧0≤s∧s<g.slots:=by
 unfold z1o at h
 split at h
 · assumption
 · omega
theorem zcm{a b:Int}(ha:0≤a)(hb:0<b):a.tmod b=a%b∧0≤a%b∧a%b<b:=
 ⟨Int.tmod_eq_emod_of_nonneg ha,Int.emod_nonneg _ (by omega),Int.emod_lt_of_pos _ hb⟩
theorem j7l(g:Geo)(ok:g.Ok)(s lsn:Int)(w:World):Rt 119 #[g.val,I s,I lsn] w (I (z65 g s lsn)):=by
 refine Qf [.a (.v g.val), .a (.v (I s)), .a (.v (I lsn))] Tryz.func119 rfl<|QA<|QC<|QE 2 [1,2,3] rfl<|Qw<|QA<|QA<|QC<|Yy 5 rfl<|Qc (.a (.v _)) rfl zr2 (fun hg E w1 hm=>by exact zuw g ok s _) ?_
 refine QE 2 [1,2,3,14] rfl<|Qw<|QX rfl (fun h=> ?_) fun h=> ?_
 ·
  refine QA<|QC<|QE 1 [6] rfl<|Qw<|QO<|QL<|Qb rfl fun E w' hm=>⟨?_,hm.below lr⟩
  rw[z65,if_pos (by omega)];rfl
 ·
  obtain⟨hgg,h1,h2⟩:=zhp (g:=g) (s:=s) (by omega)
  have hf:=z0b hgg
  have hz:=z2d hgg
  obtain⟨e1,e2,e3⟩:=zcm (a:=lsn) (b:=g.journal) (by omega) (by omega)
  have hh:z1o g s=1+2*g.nodes+g.log+s*(1+g.journal):=by rw[z1o,if_pos ⟨hgg,h1,h2⟩]
  have hr:=ze4 g
  rw[if_pos hgg]at hr
  refine QI<|Qw<|QA<|z11 mixed (by kernel_rfl)<|Dm 5 rfl<|Qd rfl (zkn rfl (fun hg=>by omega))<|Dm 1 rfl ?_
  rw[e1,z06 (n:=1+lsn%g.journal) (by omega) (by omega)]
  have hv:z65 g s lsn=if s<0∨g.slots≤s∨1+lsn%g.journal<0∨1+g.journal≤1+lsn%g.journal then -1 else 1+2*g.nodes+g.log+s*(1+g.journal)+(1+lsn%g.journal):=by
   rw[z65,if_neg (by omega),hh,if_neg (by omega),←Int.add_assoc]
  refine Qq (.a (.v _)) rfl zd1 (fun hg E w1 hm=>by exact zlj g ok 6 s (1+lsn%g.journal) _ hr g.slots (by omega) rfl (by dsimp only;omega) (by dsimp only;omega) (by dsimp only;omega) (by dsimp only;omega) _ hv _) ?_
  refine Dm 1 rfl<|z1z [6] rfl<|Qw<|QO<|Qb rfl fun E w' hm=>⟨?_,hm.below lr⟩
  rfl
theorem zi3(g:Geo)(ok:g.Ok)(w:World):Rt 53 #[g.val] w (I (z5j g)):=by
 refine Qf [.a (.v g.val)] Tryz.func53 rfl<|QA<|QC<|QE 2 [1] rfl<|Qw<|QA<|QC<|Yy 1 rfl<|Qc (.a (.v _)) rfl zzo (fun hg E w1 hm=>by exact zzb g ok 7 _) ?_
 refine Yy 1 rfl<|Qc (.a (.v _)) rfl zdr (fun hg E w1 hm=>by exact z35 _ _ _) ?_
 refine QE 1 [2] rfl<|Qw<|QO<|Qb rfl fun E w' hm=>⟨?_,hm.below lr⟩
 rw[ze3,z5j]
 cases hg:z2y g with
 |false=>rfl
 |true=>
  have hz:=z2d hg
  show Ending.returned (I (IntKind.i64.wrap (z2b g+g.blocks*g.per)))=_
  rw[z06 (by omega) (by omega)];rfl
/-! The document's. -/
theorem z7e(n a b:Int):inB n a b=decide (a≤n∧n≤b):=by
 unfold inB;rw[Bool.eq_iff_iff];simp
theorem z5k(g:Geo)(ok:g.Ok)(s:Int)(w:World):Rt 33 #[g.val,I s] w (I (z1o g s)):=by
 refine Qf [.a (.v g.val), .a (.v (I s))] Tryz.func33 rfl<|QA<|QC<|QE 2 [1,2] rfl<|Qw<|QA<|QA<|QC<|Yy 1 rfl<|Qc (.a (.v _)) rfl z78 (fun hg E w1 hm=>by exact z3k g ok _) ?_
 refine Yy 6 rfl<|Qc (.a (.v _)) rfl z7k (fun hg E w1 hm=>by exact zt5 _ _ _ _) ?_
 refine QE 2 [1,2,15] rfl<|Qw<|Qn rfl (fun h=> ?_) fun h=> ?_
 ·
  refine QA<|QC<|QE 1 [4] rfl<|Qw<|QO<|QL<|z0h tok rfl ?_
  rw[z7e]at h
  simp only[Bool.or_eq_true,Bool.not_eq_true',decide_eq_false_iff_not]at h
  intro E w' hm _
  refine⟨?_,hm.below lr⟩
  rw[z1o,if_neg]
  · rfl
  ·
   rintro⟨h1,h2,h3⟩
   have hf:=z0b h1
   rw[z06 (by omega) (by omega)]at h
   rcases h with h|h
   · rw[h1]at h;cases h
   · omega
 ·
  rw[z7e]at h
  simp only[Bool.or_eq_false_iff,Bool.not_eq_false',decide_eq_true_eq]at h
  obtain⟨hg,h1⟩:=h
  have hf:=z0b hg
  have hz:=z2d hg
  rw[z06 (by omega) (by omega)]at h1
  have hp:=z37 (a:=s) (b:=1+g.journal) (A:=16) (B:=65) (by omega) (by omega) (by omega) (by omega)
  refine QI<|Qw<|QA<|QC<|QE 14 [4] rfl<|Qw<|QO<|Qb rfl fun E w' hm=>⟨?_,hm.below lr⟩
  rw[z1o,if_pos ⟨hg,by omega,by omega⟩,z06 (n:=2*g.nodes) (by omega) (by omega),z06 (n:=1+2*g.nodes) (by omega) (by omega),z06 (n:=1+2*g.nodes+g.log) (by omega) (by omega),z06 (n:=1+g.journal) (by omega) (by omega),
   z06 (n:=s*(1+g.journal)) (by omega) (by omega),z06 (by omega) (by omega)]
  rfl
theorem j3o{g:Geo}{s:Int}(hh:0≤z1o g s):z1o g s≤1585:=by
 obtain⟨hgg,h1,h2⟩:=zhp hh
 have hf:=z0b hgg
 have hz:=z2d hgg
 have hp:=z37 (a:=s) (b:=1+g.journal) (A:=16) (B:=65) (by omega) (by omega) (by omega) (by omega)
 rw[z1o,if_pos ⟨hgg,h1,h2⟩]
 omega
theorem zuo(g:Geo)(ok:g.Ok)(s lsn:Int)(w:World):Rt 99 #[g.val,I s,I lsn] w (I (z65 g s lsn)):=by
 refine Qf [.a (.v g.val), .a (.v (I s)), .a (.v (I lsn))] Tryz.func99 rfl<|QA<|QC<|QE 2 [1,2,3] rfl<|Qw<|QA<|QA<|QC<|Yy 2 rfl<|Qc (.a (.v _)) rfl zch (fun hg E w1 hm=>by exact z5k g ok s _) ?_
 refine QE 5 [1,2,3,14] rfl<|Qw<|QX rfl (fun h=> ?_) fun h=> ?_
 ·
  refine QA<|QC<|QE 1 [6] rfl<|Qw<|QO<|QL<|Qb rfl fun E w' hm=>⟨?_,hm.below lr⟩
  rw[z65,if_pos (by omega)];rfl
 ·
  obtain⟨hgg,h1,h2⟩:=zhp (g:=g) (s:=s) (by omega)
  have hf:=z0b hgg
  have hj:=j3o (g:=g) (s:=s) (by omega)
  obtain⟨e1,e2,e3⟩:=zcm (a:=lsn) (b:=g.journal) (by omega) (by omega)
  refine QI<|Qw<|QA<|z11 mixed (by kernel_rfl)<|Dm 2 rfl<|Qq (.a (.v _)) rfl zch (fun hg E w1 hm=>by exact z5k g ok s _) ?_
  refine Dm 4 rfl<|Qd rfl (zkn rfl (fun hg=>by omega))<|Dm 2 rfl<|z1z [6] rfl<|Qw<|QO<|z0h tok rfl ?_
  rw[e1,z06 (n:=z1o g s+1) (by omega) (by omega)]
  intro E w' hm _
  refine⟨?_,hm.below lr⟩
  rw[z65,if_neg (by omega),z06 (by omega) (by omega)];rfl
theorem zdt(g:Geo)(ok:g.Ok)(b k:Int)(w:World):Rt 68 #[g.val,I b,I k] w (I (z3w g b k)):=by
 refine Qf [.a (.v g.val), .a (.v (I b)), .a (.v (I k))] Tryz.func68 rfl<|QA<|QC<|QE 2 [1,2,3] rfl<|Qw<|QA<|QA<|QC<|Yy 1 rfl<|Qc (.a (.v _)) rfl z78 (fun hg E w1 hm=>by exact z3k g ok _) ?_
 refine Yy 6 rfl<|Qc (.a (.v _)) rfl z7k (fun hg E w1 hm=>by exact zt5 _ _ _ _) ?_
 refine Yy 7 rfl<|Qc (.a (.v _)) rfl z7k (fun hg E w1 hm=>by exact zt5 _ _ _ _) ?_
 refine QE 2 [1,2,3,25] rfl<|Qw<|Qn rfl (fun h=> ?_) fun h=> ?_
 ·
  refine QA<|QC<|QE 1 [6] rfl<|Qw<|QO<|QL<|z0h tok rfl ?_
  rw[z7e,z7e]at h
  simp only[Bool.or_eq_true,Bool.not_eq_true',decide_eq_false_iff_not]at h
  intro E w' hm _
  refine⟨?_,hm.below lr⟩
  rw[z3w,if_neg]
  · rfl
  ·
   rintro⟨h1,h2⟩
   have hf:=z0b h1
   rw[z06 (by omega) (by omega),z06 (by omega) (by omega),h1]at h
   simp only[Bool.true_eq_false,false_or]at h
   omega
 ·
  rw[z7e,z7e]at h
  simp only[Bool.or_eq_false_iff,Bool.not_eq_false',decide_eq_true_eq]at h
  obtain⟨⟨hgg,h1⟩,h2⟩:=h
  have hf:=z0b hgg
  have hz:=z2d hgg
  rw[z06 (by omega) (by omega)]at h1 h2
  have hp:=z37 (a:=b) (b:=g.per) (A:=64) (B:=8) (by omega) (by omega) (by omega) (by omega)
  have hda:z2b g=1+2*g.nodes+g.log+g.slots*(1+g.journal):=rfl
  refine QI<|Qw<|QA<|QC<|QE 22 [6] rfl<|Qw<|QO<|Qb rfl fun E w' hm=>⟨?_,hm.below lr⟩
  rw[z3w,if_pos ⟨hgg,by omega,by omega,by omega,by omega⟩,z06 (n:=2*g.nodes) (by omega) (by omega),z06 (n:=1+2*g.nodes) (by omega) (by omega),z06 (n:=1+2*g.nodes+g.log) (by omega) (by omega),z06 (n:=1+g.journal) (by omega) (by omega),
   z06 (n:=g.slots*(1+g.journal)) (by omega) (by omega),z06 (n:=1+2*g.nodes+g.log+g.slots*(1+g.journal)) (by omega) (by omega),←hda,z06 (n:=b*g.per) (by omega) (by omega),z06 (n:=z2b g+b*g.per) (by omega) (by omega),z06 (by omega) (by omega)]
  rfl
theorem z6k(g:Geo)(ok:g.Ok)(w:World):Rt 36 #[g.val] w (I (z5j g)):=by
 refine Qf [.a (.v g.val)] Tryz.func36 rfl<|QA<|QC<|QE 2 [1] rfl<|Qw<|QA<|QA<|QC<|Yy 1 rfl<|Qc (.a (.v _)) rfl z78 (fun hg E w1 hm=>by exact z3k g ok _) ?_
 refine QE 1 [1,5] rfl<|Qw<|QX rfl (fun h=> ?_) fun h=> ?_
 ·
  refine QA<|QC<|QE 1 [2] rfl<|Qw<|QO<|QL<|Qb rfl fun E w' hm=>⟨?_,hm.below lr⟩
  rw[z5j,if_neg (by simp[h])];rfl
 ·
  have hf:=z0b h
  have hz:=z2d h
  refine QI<|Qw<|QA<|QC<|Yy 7 rfl ?_
  rw[z06 (n:=g.blocks - 1) (by omega) (by omega),z06 (n:=g.per - 1) (by omega) (by omega)]
  refine Qc (.a (.v _)) rfl zqo (fun hg E w1 hm=>by exact zdt g ok _ _ _) ?_
  refine QE 2 [2] rfl<|Qw<|QO<|z0h tok rfl ?_
  have hb:=z37 (a:=g.blocks) (b:=g.per) (A:=64) (B:=8) (by omega) (by omega) (by omega) (by omega)
  have e:z3w g (g.blocks - 1) (g.per - 1)+1=z5j g:=by
   rw[z3w,if_pos ⟨h,by omega,by omega,by omega,by omega⟩,z5j,if_pos h,Int.sub_mul,Int.one_mul]
   omega
  have ht:z5j g≤2097∧0≤z5j g:=by rw[z5j,if_pos h];omega
  intro E w' hm _
  refine⟨?_,hm.below lr⟩
  rw[←e,z06 (by omega) (by omega)];rfl
theorem z0k(l:List ByteArray): ∀u∈l.flatMap z1a,u.oneCell'=true:=by
 intro u hu
 obtain⟨x,_,hx⟩:=List.mem_flatMap.1 hu
 simp only[z1a,List.mem_singleton]at hx
 subst hx
 rfl
def zeq(g:Geo):Int→List Block→Bool
 |_,[]=>true
 |last,x::r=>decide (last<x.n∧x.n<g.blocks∧(x.text.size:Int)≤g.per*256)&&zeq g x.n r
def zcl(g:Geo)(l:List Block):Bool:=z2y g&&zeq g (-1) l
theorem zcq{g:Geo}{last:Int}{x:Block}{r:List Block}:zeq g last (x::r)=true↔(last<x.n∧x.n<g.blocks∧(x.text.size:Int)≤g.per*256)∧zeq g x.n r=true:=by
 simp[zeq]
theorem zao{l:List Block}{i:Nat}{x:Block}(h:l[i]? =some x):z8r l (i+1)=x.n:=by rw[z8r,zxx h]
theorem zto(V:Vw)(g:Geo)(ok:g.Ok)(sv:Value)(l:List Block)(w:World)(hV:V.le (vw w))(hs0:SlOf V Block.cells 2 sv l)(hn:l.length≤maxLen):
  Rt 43 #[g.val,sv] w (.bool (zcl g l)):=by
 have hs:=hs0.mono hV
 simp only[maxLen]at hn
 refine Qf [.a (.v g.val), .a (.v sv)] Tryz.func43 rfl<|QA<|QC<|QE 2 [1,2] rfl<|Qw<|QA<|QA<|QC<|Yy 1 rfl<|Qc (.a (.v _)) rfl z78 (fun hg E w1 hm=>by exact z3k g ok _) ?_
 refine QE 1 [1,2,8] rfl<|Qw<|QX rfl (fun h=> ?_) fun h=> ?_
 ·
  refine QA<|QC<|QE 1 [4] rfl<|Qw<|QO<|QL<|Qb rfl fun E w' hm=>⟨?_,hm.below lr⟩
  rw[zcl,h];rfl
 ·
  have hgg:=h
  have hf:=z0b hgg
  clear h
  have hmL:zcl g l=zeq g (-1) l:=by rw[zcl,hgg,Bool.true_and]
  refine QI<|Qw<|QA<|QA<|QC<|QE 1 [1,2,5] rfl<|Qw<|QJ<|Ql [1,2] [] rfl rfl (σ:=Nat) (fun i=>[(5, .a (.v (I i)))]) (fun i=>[]) (fun i=>i≤l.length∧zeq g (-1) l=zeq g (z8r l i) (l.drop i)∧ -1≤z8r l i) (fun i=>l.length - i) (0) (⟨by omega,rfl,by simp[z8r]⟩) ?_
  rintro i ⟨hi,heq,hlast⟩
  have hlc:(i=0∧z8r l i= -1)∨(0<i∧z8r l i=(zpr l (i - 1)).n):=by
   cases i with
   |zero=>exact .inl ⟨rfl,rfl⟩
   |succ j=>exact .inr ⟨by omega,rfl⟩
  refine QA<|QA<|QC<|Yy 2 rfl<|QY rfl (z0l tok rfl (fun hg=>hs.sl))<|QE 1 [1,2,5,12] rfl<|Qw<|QX rfl (fun h=> ?_) fun h=> ?_
  ·
   refine QI<|Qw<|QA<|QJ<|QA<|z11 mixed (by kernel_rfl)<|Dm 2 rfl ?_
   obtain⟨x,h_x⟩:=hs.at (k:=i) (by omega)
   rw[z27 h_x]at heq
   have hlt_x:=z01 h_x
   refine Qd rfl (z0c tok rfl (fun hg=>hs.sl) (fun hg=>⟨by omega,by omega⟩))<|Qd rfl (z1f tok rfl (fun hg=>hs.sl) (fun hg=>by omega))<|Qd rfl (z08 tok (i) 0 (x) rfl (fun hg=>hs) (fun hg=>h_x) rfl rfl)<|Dm 4 rfl ?_
   have hlt_x:=z01 h_x
   refine Qd rfl (z0c tok rfl (fun hg=>hs.sl) (fun hg=>⟨by omega,by omega⟩))<|Qd rfl (z1f tok rfl (fun hg=>hs.sl) (fun hg=>by omega))<|Qd rfl (z08 tok (i) 0 (x) rfl (fun hg=>hs) (fun hg=>h_x) rfl rfl)<|Dm 10 rfl ?_
   have hlt_x:=z01 h_x
   refine Qd rfl (z0c tok rfl (fun hg=>hs.sl) (fun hg=>⟨by omega,by omega⟩))<|Qd rfl (z1f tok rfl (fun hg=>hs.sl) (fun hg=>by omega))<|Qd rfl (z08 tok (i) 0 (x) rfl (fun hg=>hs) (fun hg=>h_x) rfl rfl)<|Dm 3 rfl<|Qd rfl (z14 tok ((i - 1)*2) rfl (by rw[z06 (by omega) (by omega)];dsimp only;omega) (fun hg=>hs.sl) (fun hg=>by simp at hg;rw[z06 (by omega) (by omega)];omega)) ?_
   refine Qd rfl (z1f tok rfl (fun hg=>hs.sl) (fun hg=>by omega))<|Qd rfl (z08 tok (i - 1) 0 (zpr l (i - 1)) rfl (fun hg=>hs) (fun hg=>by rw[zpr,List.getD,List.getElem?_eq_getElem (by omega)];rfl) rfl rfl) ?_
   refine Dm 6 rfl ?_
   have hwp:IntKind.i64.wrap (g.per*256)=g.per*256:=z06 (by omega) (by omega)
   have hlt_x:=z01 h_x
   refine Qd rfl (z0c tok rfl (fun hg=>hs.sl) (fun hg=>⟨by omega,by omega⟩))<|Qd rfl (z1f tok rfl (fun hg=>hs.sl) (fun hg=>by omega))<|Qd rfl (z08 tok (i) 1 (x) rfl (fun hg=>hs) (fun hg=>h_x) rfl rfl)<|Dm 6 rfl<|z1z [1,2,5,60] rfl<|Qw<|QX rfl (fun h=> ?_) fun h=> ?_
   ·
    refine QA<|QC<|QE 1 [4] rfl<|Qw<|QO<|QP<|QL<|QL<|QP<|QL<|z0h tok rfl ?_
    have hno:zeq g (z8r l i) (x::l.drop (i+1))=false:=by
     rw[Bool.eq_false_iff]
     intro hc
     obtain⟨⟨h1,h2,h3⟩,_⟩:=zcq.1 hc
     omega
    intro E w' hm _
    refine⟨?_,hm.below lr⟩
    rw[hmL,heq,hno];rfl
   ·
    refine QI<|QM<|Qw<|QC<|QE 3 [1,2,5] rfl<|Qw ?_
    have hyes:zeq g (z8r l i) (x::l.drop (i+1))=zeq g x.n (l.drop (i+1)):=by
     rw[zeq,decide_eq_true (by omega),Bool.true_and]
    rw[z06 (n:=(i:Int)+1) (by omega) (by omega)]
    refine Qr (i+1)<|⟨by omega,by rw[heq,hyes,zao h_x],by rw[zao h_x];omega⟩
  ·
   refine QN<|QK<|QK<|QQ<|Qw<|QA<|QC<|QE 1 [4] rfl<|Qw<|QO<|z0h tok rfl ?_
   have hkL:i=l.length:=by omega
   subst hkL
   rw[List.drop_length,zeq]at heq
   intro E w' hm _
   refine⟨?_,hm.below lr⟩
   rw[hmL,heq];rfl
abbrev putV(v:Value)(i:Int):Value:= .agg #[v,I i]
section
variable{o:Oper}{n:Nat}{F:z05}{C:List Nat}{O:Go.Eng.Own}{nl:Nat}{V:Vw}
end
theorem z7g(kind:Int)(hk:R8 kind)(t:ByteArray)(V:Vw)(kv nv:Value)(ks ns:List Int)(w:World)(ht:t.size≤1099511627776)(hV:V.le (vw w))(hks:SlOf V z0a 1 kv ks)(hns:SlOf V z0a 1 nv ns)
  (hlen:ks.length=ns.length) (hn:ns.length≤1000) (hfit: ∀(i:Nat) (k n:Int),ks[i]? =some k→ns[i]? =some n→z5o k [n]=true) (hsz: ∀i:Nat,(z24 (ks.take i) (ns.take i)).length≤505):
  Rt 108 #[I8 kind,S t,kv,nv] w (.tuple #[S (zam kind (z0i (z24 ks ns)++t)).1,I (zam kind (z0i (z24 ks ns)++t)).2]):=by
 have hks':=hks.mono hV
 have hns':=hns.mono hV
 refine Qf [.a (.v (I8 kind)), .a (.v (S t)), .a (.v kv), .a (.v nv)] Tryz.func108 rfl<|QA<|QC<|QE 2 [0,1,2,3] rfl<|Qw<|QA<|QA<|QC<|Yy 1 rfl<|QY rfl (z0l tok rfl (fun hg=>hks'.sl))<|Yy 1 rfl<|QY rfl (z0l tok rfl (fun hg=>hns'.sl))<|QE 1 [0,1,2,3,18] rfl<|Qw<|QX rfl (fun h=> ?_) fun h=> ?_
 ·
  refine QA<|QC<|QE 2 [8,9] rfl<|Qw<|QO<|QL<|z0h tok rfl ?_
  omega
 ·
  clear h
  refine QI<|Qw<|QA<|QC<|QE 1 [0,1,2,3,10] rfl<|Qw<|QA<|QA<|QC<|QE 1 [0,1,2,3,10,11] rfl<|Qw<|QJ<|z6l 10 5 1 rfl rfl<|Ql [0,1,2,3] [0] rfl rfl (σ:=Nat) (fun i=>[(10, .a (.row 0)),(11, .a (.v (I i)))]) (fun i=>[(0, .row 5 1 (z24 (ks.take i) (ns.take i)).length ((z24 (ks.take i) (ns.take i)).flatMap z1e))]) (fun i=>i≤ns.length) (fun i=>ns.length - i) (0) (by omega) ?_
  rintro i hi
  refine QA<|QA<|QC<|Yy 2 rfl<|QY rfl (z0l tok rfl (fun hg=>hns'.sl))<|QE 1 [0,1,2,3,10,11,22] rfl<|Qw<|QX rfl (fun h=> ?_) fun h=> ?_
  ·
   refine QI<|Qw<|QA<|QJ<|QA<|Ra rfl<|QT [0,1,2] rfl ?_
   obtain⟨n,h_n⟩:=hns'.at (k:=i) (by omega)
   obtain⟨k,h_k⟩:=hks'.at (k:=i) (by omega)
   have hpi:=hsz i
   have hps:=hsz (i+1)
   have hlt_k:=z01 h_k
   refine Qt 3 rfl rfl (z0c tok rfl (fun hg=>hks'.sl) (fun hg=>⟨by omega,by omega⟩))<|Qt 4 rfl rfl (z08 tok (i) 0 (k) rfl (fun hg=>hks') (fun hg=>h_k) rfl rfl)<|QT [5,6] rfl ?_
   have hlt_n:=z01 h_n
   refine Qt 7 rfl rfl (z0c tok rfl (fun hg=>hns'.sl) (fun hg=>⟨by omega,by omega⟩))<|Qt 8 rfl rfl (z08 tok (i) 0 (n) rfl (fun hg=>hns') (fun hg=>h_n) rfl rfl)<|QS<|Qo 9<|Qg 9 rfl rfl (z1q tok 1 rfl rfl rfl) fun _ _=>Qo 10 ?_
   have hpp:z3f (z24 (ks.take i) (ns.take i)) k [n]=z24 (ks.take (i+1)) (ns.take (i+1)):=by rw[zxz,←zg0 h_k h_n]
   refine Qg 10 rfl rfl (z87 (z24 (ks.take i) (ns.take i)) k [n] rfl (hfit i k n h_k h_n) (by omega) (by simp) (fun E w hm=>⟨_,_,rfl,hm.rowOf (enc:=z1e) 0 rfl (fun _=>rfl),hm.rowOf (enc:=z0a) (L:=[n]) 1 rfl (fun _=>rfl)⟩)) fun _ _=>Qx [11] rfl<|z36 12 rfl (by kernel_rfl) rfl rfl rfl rfl (yV rfl) rfl<|z36 13 rfl (by kernel_rfl) rfl rfl rfl rfl (yV rfl) rfl<|Qx [14,15] rfl<|Qe [0,1,2,3,11,12,13] rfl ?_
   refine Qw<|QA<|QA<|QC<|QE 2 [0,1,2,3,11,12,40] rfl<|Qw<|QX rfl (fun h=> ?_) fun h=> ?_
   ·
    refine QA<|QC<|QE 2 [8,9] rfl<|Qw<|QO<|QL<|QP<|QL<|QL<|QP<|QL<|z0h tok rfl ?_
    contradiction
   ·
    clear h
    rw[hpp]
    refine QI<|Qw<|QA<|QC<|QE 2 [0,1,2,3,10,11] rfl<|Qw<|QA<|QC<|QE 3 [0,1,2,3,10,11,44] rfl<|Qw<|QX rfl (fun h=> ?_) fun h=> ?_
    ·
     refine QA<|QC<|QE 2 [8,9] rfl<|Qw<|QO<|QP<|QL<|QL<|QP<|QL<|z0h tok rfl ?_
     omega
    ·
     refine QI<|QM<|Qw<|QC<|QE 3 [0,1,2,3,10,11] rfl<|Qw ?_
     rw[z06 (n:=(i:Int)+1) (by omega) (by omega)]
     refine z00 0 2 rfl<|Qr (i+1) (by omega)
  ·
   have hil:i=ns.length:=by omega
   subst hil
   have hpi:=hsz ns.length
   rw[List.take_length,show ks.take ns.length=ks by rw[←hlen,List.take_length]]at hpi⊢
   refine QN<|QK<|QK<|QQ<|Qw<|QA<|QC<|Yy 2 rfl<|QY rfl (z0p (s:= .a (.v (.string (z0i (z24 ks ns))))) 0 rfl rfl (fun v V' hs=>zls tok _ rfl (fun hg=>hs)))<|Yy 1 rfl ?_
   have hst:=z16 (z24 ks ns)
   have hcs:(z0i (z24 ks ns)++t).size=(z24 ks ns).length+t.size:=by rw[ByteArray.size_append,hst]
   refine QY rfl (zwi rfl (fun hg=>by omega))<|Qc (.a (.v _)) rfl zu5 (fun hg E w1 hm=>by exact zjw kind hk (z0i (z24 ks ns)++t) (by simp only[maxLen];omega) _) ?_
   refine QE 4 [8,9] rfl<|Qw<|QO<|Qb rfl fun E w' hm=>⟨?_,hm.below lr⟩
   rfl
abbrev gW:List Int:=[2,2,2,2,2,2,4,4]
abbrev z56(g:Geo):List Int:=[g.nodes,g.slots,g.blocks,g.per,g.journal,g.log,g.lease,g.wait]
theorem zuy(w:World):Cl 86 #[] w fun e w'=> ∃v,e= .returned v∧w'.ownsRow w.heap.size 3 1 v gW.length (gW.flatMap z0a)∧Below w.heap.size w w':=by
 refine Qf [] Tryz.func86 rfl<|QA<|QC<|QE 1 [] rfl<|Qw<|QA<|QC<|QZ rfl (z1q tok 1 rfl rfl rfl) fun _ _=>QE 1 [0] rfl<|Qw<|QO<|Qb rfl fun E w' hm=> ?_
 exact⟨E.κ 0,rfl,hm.rowFresh lr (l:=0) rfl,hm.below lr⟩
theorem zg1(g:Geo)(ok:g.Ok)(b e0:Nat)(tl:List Value)(w:World)(hb:w.heap[b]? =some (.cells (g.cells++tl).toArray e0 (0,0))):
  Rt 88 #[Ptr b] w (.bool (z2y g)):=by
 refine z4n [.a (.ptr 0 0)] hb Tryz.func88 rfl rfl rfl rfl<|QA<|QC<|QE 1 [0] rfl<|Qw<|QA<|QC<|Yy 4 rfl<|Qc (.a (.v _)) rfl zcr (fun hg E w1 hm=>by exact z73 g ok _) ?_
 refine QE 1 [2] rfl<|Qw<|QO<|Qb rfl fun E w' hm=> ?_
 exact⟨rfl,z3g hb hm lr rfl rfl rfl⟩
abbrev j80(b:Nat)(k:Nat):List Value:=[.pointer (some ⟨b,k,none⟩)]
theorem zpq(V:Vw)(b:Nat)(w:World)(hV:V.le (vw w)):
  Cl 87 #[Ptr b] w fun e w'=> ∃x V',e= .returned x∧Below w.heap.size w w'∧Vext w.heap.size V V' w'∧SlOf V' (j80 b) 1 x (List.range 8):=by
 have key:Cl 87 #[Ptr b] w fun e w'=> ∃v,e= .returned v∧w'.ownsRow w.heap.size 150 1 v 8 ((List.range 8).flatMap (j80 b))∧Below w.heap.size w w':=by
  refine Qf [.a (.v (Ptr b))] Tryz.func87 rfl<|QA<|QC<|QE 1 [0] rfl<|Qw<|QA<|Ra rfl<|QT [0,1,2,3,4,5,6,7,8,9,10,11,12,13,14,15,16,17,18,19,20,21,22,23,24,25,26,27,28,29,30,31] rfl<|QS<|Qo 32<|Qg 32 rfl rfl (z1q tok 1 rfl rfl rfl) fun _ _=>Qx [33] rfl<|Qe [2] rfl<|Qw<|QO<|Qb rfl fun E w' hm=> ?_
  exact⟨E.κ 0,rfl,hm.rowFresh lr (l:=0) rfl,hm.below lr⟩
 refine key.mono ?_
 rintro e w' ⟨v,rfl,hown,hb⟩
 obtain⟨V',hx,hsl⟩:=z1i hV hb hown
 exact⟨v,V',rfl,hb,hx,⟨hsl,fun _=>rfl⟩⟩
theorem zoq(V:Vw)(b b':Nat)(he:b'=b)(w:World)(hV:V.le (vw w)):
  Cl 87 #[Ptr b'] w fun e w'=> ∃x V',e= .returned x∧Below w.heap.size w w'∧Vext w.heap.size V V' w'∧SlOf V' (j80 b) 1 x (List.range 8):=by
 subst he;exact zpq V _ w hV
def gbV(g:Geo):ByteArray:=if z2y g=true then z0i (z4m 1 (z24 gW (z56 g)))else ByteArray.empty
def gbE(g:Geo):Int:=if z2y g=true then 0 else 40
theorem z7t{g:Geo}(h:z2y g=true): ∀(i:Nat) (k n:Int),gW[i]? =some k→(z56 g)[i]? =some n→z1k n k=true:=by
 have m2:z6c (2:Int).toNat=65535:=by decide
 have m4:z6c (4:Int).toNat=4294967295:=by decide
 have hf:=z0b h
 intro i k n hk hn
 match i with
 |0=>cases hk;cases hn;rw[z1k,m2];simp[z0w];omega
 |1=>cases hk;cases hn;rw[z1k,m2];simp[z0w];omega
 |2=>cases hk;cases hn;rw[z1k,m2];simp[z0w];omega
 |3=>cases hk;cases hn;rw[z1k,m2];simp[z0w];omega
 |4=>cases hk;cases hn;rw[z1k,m2];simp[z0w];omega
 |5=>cases hk;cases hn;rw[z1k,m2];simp[z0w];omega
 |6=>cases hk;cases hn;rw[z1k,m4];simp[z0w];omega
 |7=>cases hk;cases hn;rw[z1k,m4];simp[z0w];omega
 |i+8=>simp[gW]at hk
theorem z6h(g:Geo)(i:Nat):(z24 (gW.take i) ((z56 g).take i)).length≤505:=by
 have h1:=zhj (gW.take i) ((z56 g).take i)
 have h2:((gW.take i).map Int.toNat).sum≤20:=by
  match i with
  |0=>decide
  |1=>decide
  |2=>decide
  |3=>decide
  |4=>decide
  |5=>decide
  |6=>decide
  |7=>decide
  |i+8=>rw[List.take_of_length_le (by simp[gW])];decide
 omega
theorem j9p(g:Geo):zam 1 (z0i (z24 gW (z56 g))++ByteArray.empty)=(z0i (z4m 1 (z24 gW (z56 g))),0):=by
 have h20:(z24 gW (z56 g)).length=20:=by simp[z24,gW,z56,leB,z0q]
 rw[zam,if_neg (by rw[ByteArray.size_append,z16];simp;omega)]
 congr 2
def zkh:List Int→Geo
 |[a,b,c,d,e,f,g,h]=>⟨a,b,c,d,e,f,g,h⟩
 |_=>⟨0,0,0,0,0,0,0,0⟩
abbrev j8l:Geo:=⟨0,0,0,0,0,0,0,0⟩
def zf6(s:ByteArray):Option Geo:=match z17 1 s gW with
 |some (l,r)=>if r.size=0∧z2y (zkh l)=true then some (zkh l)else none
 |none=>none
def srV(s:ByteArray):Geo:=(zf6 s).getD j8l
def srE(s:ByteArray):Int:=if(zf6 s).isSome then 0 else 50
theorem zur{l:List Int}(h:l.length=8): ∃a b c d e f g i,l=[a,b,c,d,e,f,g,i]:=by
 match l,h with
 |[a,b,c,d,e,f,g,i],_=>exact⟨a,b,c,d,e,f,g,i,rfl⟩
theorem zj1{kind:Int}{s:ByteArray}: ∀(ks acc:List Int) (r:ByteArray) {l:List Int} {q:ByteArray},(∀n∈acc,R64 n)→zf2 acc r ks=some (l,q)→ ∀n∈l,R64 n
 |[],acc,r,l,q,h,he=>by simp[zf2]at he;rw[←he.1];exact h
 |k::ks,acc,r,l,q,h,he=>by
  rw[zf2]at he
  split at he
  · cases he
  ·
   refine zj1 (kind:=kind) (s:=s) ks _ _ ?_ he
   intro n hn
   rcases List.mem_append.1 hn with hn|hn
   · exact h n hn
   ·
    simp at hn
    subst hn
    have:=zfj r 0 k
    unfold R64;omega
theorem zfq{kind:Int}{s:ByteArray}{ks l:List Int}{q:ByteArray}(h:z17 kind s ks=some (l,q)): ∀n∈l,R64 n:=by
 unfold z17 at h
 split at h
 · exact zj1 (kind:=kind) (s:=s) ks [] _ (by simp) h
 · cases h
theorem znc{l:List Int}(h8:l.length=8)(h: ∀n∈l,R64 n):(zkh l).Ok:=by
 obtain⟨a,b,c,d,e,f,g,i,rfl⟩:=zur h8
 constructor<;>exact h _ (by simp[zkh])
theorem j2e:j8l.Ok:=by constructor<;>simp[R64]
theorem z1t(r:ByteArray):(r.toList==(⟨#[]⟩:ByteArray).toList)=decide (r.size=0):=za0 r
def zj5(l:List Int)(i j:Nat):A:= .v (I (if j<i then l.getD j 0 else 0))
def zqp(l:List Int)(i:Nat):List A:=[zj5 l i 0,zj5 l i 1,zj5 l i 2,zj5 l i 3,zj5 l i 4,zj5 l i 5,zj5 l i 6,zj5 l i 7]
theorem zum{l:List Int}(h8:l.length=8){i:Nat}{n:Int}(hn:l[i]? =some n):(zqp l i).set i (.v (I n))=zqp l (i+1):=by
 have hlt:=(List.getElem?_eq_some_iff.1 hn).1
 obtain⟨a,b,c,d,e,f,g,h,rfl⟩:=zur h8
 match i,hlt with
 |0,_=>cases hn;rfl
 |1,_=>cases hn;rfl
 |2,_=>cases hn;rfl
 |3,_=>cases hn;rfl
 |4,_=>cases hn;rfl
 |5,_=>cases hn;rfl
 |6,_=>cases hn;rfl
 |7,_=>cases hn;rfl
 |i+8,hlt=>exact absurd hlt (by simp only[List.length_cons,List.length_nil];omega)
theorem j0b(s:ByteArray)(hs:s.size≤maxLen)(w:World):Rt 54 #[S s] w (.tuple #[(srV s).val,I (srE s)]):=by
 refine Qf [.a (.v (S s))] Tryz.func54 rfl<|QA<|QC<|QE 2 [0,2] rfl<|Qw<|QA<|QC<|QE 3 [0,2,4] rfl<|Qw<|QA<|QC<|Yy 1 rfl<|QZ rfl (z2j 3 1 gW.length (gW.flatMap z0a) rfl j7d (fun E w1 hm=>zuy w1)) fun _ _=>Qv (zxe 1 s gW) rfl znq (fun hg E w1 hm=>by exact z7m hm.leV (zcd 1 s (vw w1) _ gW w1 hs lr (hm.rowOf 2 rfl (fun _=>rfl)) (by simp))) ?_
 rintro x V1 hle1 hx
 have hx':=hx rfl
 clear hx
 rcases hx' with⟨l,r,v,hfr,rfl,hsl⟩|⟨hfr,rfl⟩
 rotate_left
 ·
  refine QE 7 [2,4,5,6,7] rfl<|Qw<|QA<|QA<|QC<|QE 2 [2,4,5,6,7,20] rfl<|Qw<|Qn rfl (fun h=> ?_) fun h=> ?_
  · exact absurd h (by decide)
  ·
   refine QI<|Qw<|QA<|QA<|QC<|Yy 8 rfl<|Qc (.a (.v _)) rfl zyi (fun hg E w1 hm=>by exact zg1 j8l j2e _ _ [] _ (hm.lit 1 _ _ rfl)) ?_
   refine QE 2 [2,4,46] rfl<|Qw<|Qn rfl (fun h=> ?_) fun h=> ?_
   ·
    refine QA<|QC<|Yy 1 rfl<|Qs rfl<|QE 1 [2,3] rfl<|Qw<|QO<|QL<|Qb rfl fun E w' hm=>⟨?_,hm.below (hle1)⟩
    have:zf6 s=none:=by rw[zf6,hfr]
    rw[srV,srE,this];rfl
   · exact absurd h (by decide)
 ·
  have hl8:l.length=8:=by rw[z39 hfr];rfl
  have hl64:=zfq hfr
  refine QE 7 [2,4,5,6,7] rfl<|Qw<|QA<|QA<|QC<|QE 2 [2,4,5,6,7,20] rfl<|Qw<|Qn rfl (fun h=> ?_) fun h=> ?_
  ·
   refine QA<|QC<|Yy 1 rfl ?_
   clear h
   refine jb9 1 rfl fun b=>Qv (fun x V'=>SlOf V' (j80 b) 1 x (List.range 8)) rfl j4v (fun hg E w1 hm=>by exact zoq V1 b _ (hm.pin 3 1 _ rfl).1 _ hm.leV) ?_
   rintro x V2 hle2 hx
   have hp:=hx rfl
   clear hx
   have hsl2:=hsl.mono hle2
   have h8:(List.range 8).length=8:=rfl
   refine QY rfl (z0l tok rfl (fun hg=>hp.sl))<|QE 1 [2,4,5,6,7,22,23,24] rfl<|Qw<|QJ<|Lv [2,4,5,6,7,22,23] [1] rfl rfl (σ:=Nat) (fun i=>[(24, .a (.v (I i)))]) (fun i=>[(1, .lit (zqp l i) 147)]) (fun i=>V2) (fun i=>i≤8) (fun i=>8 - i) (0) (by omega) ?_
   rintro i hi
   refine QA<|QC<|QE 1 [2,4,5,6,7,22,23,24,25] rfl<|Qw<|QA<|QX rfl (fun h=> ?_) fun h=> ?_
   ·
    refine QI<|Qw<|QA<|QJ<|QA<|QC<|Yy 1 rfl ?_
    have hri:(List.range 8)[i]? =some i:=by rw[List.getElem?_range (by omega)]
    obtain⟨n,hn⟩: ∃n,l[i]? =some n:=⟨l[i]'(by omega),by simp⟩
    have hlt_i:=z01 hri
    refine QY rfl (z0c tok rfl (fun hg=>hp.sl) (fun hg=>⟨by omega,by omega⟩))<|QY rfl (z08 tok (i) 0 (i) rfl (fun hg=>hp) (fun hg=>hri) rfl rfl)<|QE 2 [2,4,5,6,7,8,9,22,23,24] rfl<|Qw<|QC<|Yy 3 rfl ?_
    have hlt_n:=z01 hn
    refine QY rfl (z0c tok rfl (fun hg=>hsl2.sl) (fun hg=>⟨by omega,by omega⟩))<|QY rfl (z08 tok (i) 0 (n) rfl (fun hg=>hsl2) (fun hg=>hn) rfl rfl)<|Yy 1 rfl<|j0g 34 3 1 b i rfl rfl rfl<|z2q rfl rfl rfl rfl (j6e tok rfl rfl rfl (by simp only[zqp,List.length_cons,List.length_nil];omega)) fun _ _=> ?_
    refine z07 [2,4,5,6,7,22,23,24] rfl<|QM<|Qw<|QC<|QE 2 [2,4,5,6,7,22,23,24] rfl<|Qw ?_
    rw[zum hl8 hn,z06 (n:=(i:Int)+1) (by omega) (by omega)]
    refine Qr (i+1) (by omega)
   ·
    have hi8:i=8:=by omega
    subst hi8
    have hgt:zqp l 8=(zkh l).cells.map .v:=by
     obtain⟨a,b,c,d,e,f,g,i,rfl⟩:=zur hl8
     rfl
    rw[hgt]
    refine QN<|QK<|QK<|QQ<|Qw<|QA<|QA<|QC<|Yy 8 rfl ?_
    have okg:=znc hl8 hl64
    refine Qc (.a (.v _)) rfl zyi (fun hg E w1 hm=>by exact zg1 (zkh l) okg _ _ [] _ (hm.lit 1 _ _ rfl)) ?_
    refine QE 2 [2,4,46] rfl<|Qw<|Qn rfl (fun h=> ?_) fun h=> ?_
    ·
     refine QA<|QC<|Yy 1 rfl<|Qs rfl<|QE 1 [2,3] rfl<|Qw<|QO<|QL<|Qb rfl fun E w' hm=>⟨?_,hm.below ((hle1.trans hle2))⟩
     have:zf6 s=none:=by
      rw[zf6,hfr]
      simp only
      rw[if_neg]
      rintro⟨h1,h2⟩
      rw[z1t,h2]at h
      simp[h1]at h
     rw[srV,srE,this];rfl
    ·
     refine QI<|Qw<|QA<|QC<|Yy 4 rfl<|Qs rfl<|QE 1 [2,3] rfl<|Qw<|QO<|Qb rfl fun E w' hm=>⟨?_,hm.below ((hle1.trans hle2))⟩
     have:zf6 s=some (zkh l):=by
      rw[zf6,hfr]
      simp only
      rw[if_pos]
      rw[z1t]at h
      simpa using h
     rw[srV,srE,this];rfl
  ·
   refine QI<|Qw<|QA<|QA<|QC<|Yy 8 rfl ?_
   exact absurd h (by decide)
theorem zri{bv lv:Value}{w:World}(bl:List UInt8)(k:Int)(ls:List Int)(hok:z5o k ls=false)(hbn:bl.length≤1099511627776)(hln:ls.length≤1099511627776)(hb:SlOf (vw w) z1e 1 bv bl)(hl:SlOf (vw w) z0a 1 lv ls):
  Rt 138 #[bv,I k,lv] w (.tuple #[.slice none 0 0,I 2]):=by
 refine(znx (vw w) bv bl k lv ls w lr hb hl hbn hln).mono ?_
 rintro e w' ⟨⟨h,_⟩|⟨_,he⟩,hbl⟩
 · rw[hok]at h;cases h
 · exact⟨he,hbl⟩
def z3n(n:Int):ByteArray×Int:=if z1k n 6=true then(z0i (z4m 2 (leB 6 n)),0)else(ByteArray.empty,2)
theorem ziq{n:Int}:z5o 6 [n]=z1k n 6:=by simp[z5o,z0w]
theorem jan{n:Int}(h:z1k n 6=true):zam 2 (z0i (z24 [6] [n])++ByteArray.empty)=z3n n:=by
 have h6:(z24 [6] [n])=leB 6 n:=by simp[z24]
 have hl:(leB 6 n).length=6:=by simp[leB,z0q]
 rw[zam,if_neg (by rw[ByteArray.size_append,z16,h6];simp;omega),z3n,if_pos h,h6]
 congr 2
theorem zj7(kind:Int)(t:ByteArray)(V:Vw)(kv nv:Value)(n:Int)(w:World)(hV:V.le (vw w))(hks:SlOf V z0a 1 kv [6])(hns:SlOf V z0a 1 nv [n])(hfit:z1k n 6=false):
  Rt 108 #[I8 kind,S t,kv,nv] w (.tuple #[S ByteArray.empty,I 2]):=by
 have hks':=hks.mono hV
 have hns':=hns.mono hV
 refine Qf [.a (.v (I8 kind)), .a (.v (S t)), .a (.v kv), .a (.v nv)] Tryz.func108 rfl<|QA<|QC<|QE 2 [0,1,2,3] rfl<|Qw<|QA<|QA<|QC<|Yy 1 rfl<|QY rfl (z0l tok rfl (fun hg=>hks'.sl))<|Yy 1 rfl<|QY rfl (z0l tok rfl (fun hg=>hns'.sl))<|QE 1 [0,1,2,3,18] rfl<|Qw<|QX rfl (fun h=> ?_) fun h=> ?_
 ·
  refine QA<|QC<|QE 2 [8,9] rfl<|Qw<|QO<|QL<|z0h tok rfl ?_
  contradiction
 ·
  clear h
  refine QI<|Qw<|QA<|QC<|QE 1 [0,1,2,3,10] rfl<|Qw<|QA<|QA<|QC<|QE 1 [0,1,2,3,10,11] rfl<|Qw<|QJ<|z6l 10 5 1 rfl rfl<|Ql [0,1,2,3] [0] rfl rfl (σ:=Nat) (fun i=>[(10, .a (.row 0)),(11, .a (.v (I i)))]) (fun i=>[(0, .row 5 1 0 [])]) (fun i=>i=0) (fun i=>1 - i) (0) (rfl) ?_
  rintro i rfl
  refine QA<|QA<|QC<|Yy 2 rfl<|QY rfl (z0l tok rfl (fun hg=>hns'.sl))<|QE 1 [0,1,2,3,10,11,22] rfl<|Qw<|QX rfl (fun h=> ?_) fun h=> ?_
  ·
   refine QI<|Qw<|QA<|QJ<|QA<|Ra rfl<|QT [0,1,2] rfl ?_
   have e1:([n]:List Int)[0]? =some n:=rfl
   have e2:([6]:List Int)[0]? =some 6:=rfl
   have hlt__6___Int_:=z01 e2
   refine Qt 3 rfl rfl (z0c tok rfl (fun hg=>hks'.sl) (fun hg=>⟨by omega,by omega⟩))<|Qt 4 rfl rfl (z08 tok (0) 0 ((6:Int)) rfl (fun hg=>hks') (fun hg=>e2) rfl rfl)<|QT [5,6] rfl ?_
   have hlt_n:=z01 e1
   refine Qt 7 rfl rfl (z0c tok rfl (fun hg=>hns'.sl) (fun hg=>⟨by omega,by omega⟩))<|Qt 8 rfl rfl (z08 tok (0) 0 (n) rfl (fun hg=>hns') (fun hg=>e1) rfl rfl)<|QS<|Qo 9<|Qg 9 rfl rfl (z1q tok 1 rfl rfl rfl) fun _ _=>Qo 10<|Qh 10 (.a (.v _)) rfl rfl zuf (fun hg E w1 hm=>by exact zri [] 6 [n] (by rw[ziq,hfit]) (by simp) (by simp) (hm.rowOf (enc:=z1e) (L:=[]) 0 rfl (fun _=>rfl)) (hm.rowOf (enc:=z0a) (L:=[n]) 1 rfl (fun _=>rfl))) ?_
   refine Qx [11] rfl<|z36 12 rfl (by kernel_rfl) rfl rfl rfl rfl (yV rfl) rfl<|z36 13 rfl (by kernel_rfl) rfl rfl rfl rfl (yV rfl) rfl<|Qx [14,15] rfl<|Qe [0,1,2,3,11,12,13] rfl<|Qw<|QA<|QA<|QC<|QE 2 [0,1,2,3,11,12,40] rfl<|Qw<|Qn rfl (fun h=> ?_) fun h=> ?_
   ·
    refine QA<|QC<|QE 2 [8,9] rfl<|Qw<|QO<|QL<|QP<|QL<|QL<|QP<|QL<|Qb rfl fun E w' hm=>⟨?_,hm.below lr⟩
    rfl
   ·
    exact absurd h (by decide)
  ·
   exact absurd h (by simp)
theorem zp6(n:Int)(w:World):Rt 81 #[I n] w (.tuple #[S (z3n n).1,I (z3n n).2]):=by
 refine Qf [.a (.v (I n))] Tryz.func81 rfl<|QA<|QC<|QE 2 [0] rfl<|Qw<|QA<|QC<|zp7 tok rfl rfl rfl rfl fun b1 V1 hle1 hb1=>Yy 1 rfl<|zp7 tok rfl rfl rfl rfl fun b2 V2 hle2 hb2=> ?_
 have h1:=SlOf.ofBlock (enc:=z0a) (sz:=1) (l:=[6]) (hle2.get _ _ (hb1 rfl)) rfl (fun _=>rfl) (Nat.le_refl _)
 have h2:=SlOf.ofBlock (enc:=z0a) (sz:=1) (l:=[n]) (hb2 rfl) rfl (fun _=>rfl) (Nat.le_refl _)
 have key: ∀w1,V2.le (vw w1)→Cl 108 #[I8 2,S ByteArray.empty, .slice (some ⟨b1,0,none⟩) 1 1, .slice (some ⟨b2,0,none⟩) 1 1] w1 fun e w'=>e= .returned (.tuple #[S (z3n n).1,I (z3n n).2])∧Below w1.heap.size w1 w':=fun w1 hV=>by
  cases hf:z1k n 6 with
  |true=>
   have:=z7g 2 (by unfold R8;omega) ByteArray.empty V2 _ _ [6] [n] w1 (by simp) hV h1 h2 rfl (by simp) (fun i k m hk hn=>by
    cases i with
    |zero=>cases hk;cases hn;rw[ziq,hf]
    |succ i=>simp at hk) (fun i=>by
    have h:=zhj ([6].take i) ([n].take i)
    have:(([6].take i).map Int.toNat).sum≤6:=by
     match i with
     |0=>decide
     |i+1=>rw[List.take_of_length_le (by simp)];decide
    omega)
   rw[jan hf]at this
   exact this
  |false=>
   have:=zj7 2 ByteArray.empty V2 _ _ n w1 hV h1 h2 hf
   rw[z3n,if_neg (by simp[hf])]
   exact this
 refine Qc (.a (.v _)) rfl zl7 (fun hg E w1 hm=>by exact key _ hm.leV) ?_
 refine QE 4 [2,3] rfl<|Qw<|QO<|Qb rfl fun E w' hm=>⟨?_,hm.below ((hle1.trans hle2))⟩
 rfl
def z2s(s:ByteArray):Option Int:=match z17 2 s [6]with
 |some (l,r)=>if r.size=0 then l[0]? else none
 |none=>none
def z3l(s:ByteArray):Int:=(z2s s).getD 0
def z94(s:ByteArray):Int:=if(z2s s).isSome then 0 else 50
theorem zhy{l:List Int}(h:l.length=1): ∃a,l=[a]:=by
 match l,h with
 |[a],_=>exact⟨a,rfl⟩
theorem j0l(s:ByteArray)(hs:s.size≤maxLen)(w:World):Rt 55 #[S s] w (.tuple #[I (z3l s),I (z94 s)]):=by
 refine Qf [.a (.v (S s))] Tryz.func55 rfl<|QA<|QC<|QE 2 [0] rfl<|Qw<|QA<|QA<|QC<|Yy 1 rfl<|zp7 tok rfl rfl rfl rfl fun b1 V1 hle1 hb1=>Qv (zxe 2 s [6]) rfl znq (fun hg E w1 hm=>by exact z7m hm.leV (zcd 2 s V1 _ [6] w1 hs hm.leV (SlOf.ofBlock (enc:=z0a) (sz:=1) (l:=[6]) (hb1 rfl) rfl (fun _=>rfl) (Nat.le_refl _)) (by simp))) ?_
 rintro x V2 hle2 hx
 have hx':=hx rfl
 clear hx
 rcases hx' with⟨l,r,v,hfr,rfl,hsl⟩|⟨hfr,rfl⟩
 ·
  obtain⟨a,rfl⟩:=zhy (by rw[z39 hfr];rfl)
  have e1:([a]:List Int)[0]? =some a:=rfl
  refine QE 7 [4,5,6] rfl<|Qw<|QA<|QC<|QE 6 [4,19] rfl<|Qw<|Qn rfl (fun h=> ?_) fun h=> ?_
  ·
   refine QA<|QC<|Yy 1 rfl ?_
   have hlt_a:=z01 e1
   refine QY rfl (z0c tok rfl (fun hg=>hsl.sl) (fun hg=>⟨by omega,by omega⟩))<|QY rfl (z08 tok (0) 0 (a) rfl (fun hg=>hsl) (fun hg=>e1) rfl rfl)<|QE 2 [2,3] rfl<|Qw<|QO<|QL<|Qb rfl fun E w' hm=>⟨?_,hm.below ((hle1.trans hle2))⟩
   have:z2s s=some a:=by
    rw[z2s,hfr]
    simp only
    rw[z1t]at h
    rw[if_pos (by simpa using h)];rfl
   rw[z3l,z94,this];rfl
  ·
   refine QI<|Qw<|QA<|QC<|QE 2 [2,3] rfl<|Qw<|QO<|Qb rfl fun E w' hm=>⟨?_,hm.below ((hle1.trans hle2))⟩
   have:z2s s=none:=by
    rw[z2s,hfr]
    simp only
    rw[z1t]at h
    rw[if_neg (by simpa using h)]
   rw[z3l,z94,this];rfl
 ·
  refine QE 7 [4,5,6] rfl<|Qw<|QA<|QC<|QE 6 [4,19] rfl<|Qw<|Qn rfl (fun h=> ?_) fun h=> ?_
  · exact absurd h (by decide)
  ·
   refine QI<|Qw<|QA<|QC<|QE 2 [2,3] rfl<|Qw<|QO<|Qb rfl fun E w' hm=>⟨?_,hm.below ((hle1.trans hle2))⟩
   have:z2s s=none:=by rw[z2s,hfr]
   rw[z3l,z94,this];rfl
theorem zdm(w:World):Cl 69 #[] w fun e w'=> ∃v,e= .returned v∧w'.ownsRow w.heap.size 3 1 v gW.length (gW.flatMap z0a)∧Below w.heap.size w w':=by
 refine Qf [] Tryz.func69 rfl<|QA<|QC<|QE 1 [] rfl<|Qw<|QA<|QC<|QZ rfl (z1q tok 1 rfl rfl rfl) fun _ _=>QE 1 [0] rfl<|Qw<|QO<|Qb rfl fun E w' hm=> ?_
 exact⟨E.κ 0,rfl,hm.rowFresh lr (l:=0) rfl,hm.below lr⟩
def gMk(g:Geo):ByteArray×Int:=zam 1 (z0i (z24 gW (z56 g))++ByteArray.empty)
theorem zv2(g:Geo)(ok:g.Ok)(w:World):Rt 80 #[g.val] w (.tuple #[S (gbV g),I (gbE g)]):=by
 refine Qf [.a (.v g.val)] Tryz.func80 rfl<|QA<|QC<|QE 3 [1] rfl<|Qw<|QA<|QA<|QC<|Yy 1 rfl<|Qc (.a (.v _)) rfl z78 (fun hg E w1 hm=>by exact z3k g ok _) ?_
 refine QE 1 [1,6] rfl<|Qw<|QX rfl (fun h=> ?_) fun h=> ?_
 ·
  refine QA<|QC<|QE 2 [2,3] rfl<|Qw<|QO<|QL<|Qb rfl fun E w' hm=>⟨?_,hm.below lr⟩
  rw[gbV,gbE,if_neg (by simp[h]),if_neg (by simp[h])];rfl
 ·
  refine QI<|Qw<|QA ?_
  have hgg:=h
  clear h
  refine zi0 (σ:=Unit) (fun _=>[(2, .a (.v (S (gMk g).1))),(3, .a (.v (I (gMk g).2)))]) (fun _=>[]) (1) (fun _=>vw w) (fun _=>True) mixed ?_ ?_
  ·
   refine QT [1,2,3,4,5,6,7,8,9,10,11,12,13,14,15,16] rfl<|QS<|Qz 0 17 ?_ ?_
   ·
    refine Qg 0 rfl rfl (z2j 3 1 gW.length (gW.flatMap z0a) rfl zv0 (fun E w1 hm=>zdm w1)) fun _ _=>Qo 17<|Qg 17 rfl rfl (z1q tok 1 rfl rfl rfl) fun _ _=>Qo 18<|Qh 18 (.tup [.v (S (gMk g).1), .v (I (gMk g).2)]) rfl rfl zl7 (fun hg E w1 hm=>by first|exact z7g 1 (by unfold R8;omega) ByteArray.empty (vw w1) _ _ gW (z56 g) w1 (by simp) lr (hm.rowOf 1 rfl (fun _=>rfl)) (hm.rowOf (enc:=z0a) (L:=z56 g) 2 rfl (fun _=>rfl)) rfl (by simp) (fun i k n hk hn=>z8a (z7t hgg i k n hk hn)) (z6h g)|exact z7g 1 (by unfold R8;omega) ByteArray.empty (vw w1) _ _ gW (z56 g) w1 (by simp) lr (hm.rowOf 2 rfl (fun _=>rfl)) (hm.rowOf (enc:=z0a) (L:=z56 g) 1 rfl (fun _=>rfl)) rfl (by simp) (fun i k n hk hn=>z8a (z7t hgg i k n hk hn)) (z6h g)) ?_
    refine Qz 19 20 ?_ ?_
    ·
     refine yH 19 rfl rfl rfl rfl rfl<|Qx [20,21,22] rfl<|Qe [2,3] rfl ?_
     exact Qm () trivial
    ·
     refine yH 20 rfl rfl rfl rfl rfl<|Qx [19,21,22] rfl<|Qe [2,3] rfl ?_
     exact Qm () trivial
   ·
    refine Qg 17 rfl rfl (z1q tok 1 rfl rfl rfl) fun _ _=>Qo 0<|Qg 0 rfl rfl (z2j 3 1 gW.length (gW.flatMap z0a) rfl zv0 (fun E w1 hm=>zdm w1)) fun _ _=>Qo 18<|Qh 18 (.tup [.v (S (gMk g).1), .v (I (gMk g).2)]) rfl rfl zl7 (fun hg E w1 hm=>by first|exact z7g 1 (by unfold R8;omega) ByteArray.empty (vw w1) _ _ gW (z56 g) w1 (by simp) lr (hm.rowOf 1 rfl (fun _=>rfl)) (hm.rowOf (enc:=z0a) (L:=z56 g) 2 rfl (fun _=>rfl)) rfl (by simp) (fun i k n hk hn=>z8a (z7t hgg i k n hk hn)) (z6h g)|exact z7g 1 (by unfold R8;omega) ByteArray.empty (vw w1) _ _ gW (z56 g) w1 (by simp) lr (hm.rowOf 2 rfl (fun _=>rfl)) (hm.rowOf (enc:=z0a) (L:=z56 g) 1 rfl (fun _=>rfl)) rfl (by simp) (fun i k n hk hn=>z8a (z7t hgg i k n hk hn)) (z6h g)) ?_
    refine Qz 19 20 ?_ ?_
    ·
     refine yH 19 rfl rfl rfl rfl rfl<|Qx [20,21,22] rfl<|Qe [2,3] rfl ?_
     exact Qm () trivial
    ·
     refine yH 20 rfl rfl rfl rfl rfl<|Qx [19,21,22] rfl<|Qe [2,3] rfl ?_
     exact Qm () trivial
  rintro⟨⟩ -
  refine Qw<|QO<|Qb rfl fun E w' hm=>⟨?_,hm.below lr⟩
  rw[gbV,gbE,if_pos hgg,if_pos hgg,gMk,j9p];rfl
theorem zxa(s:ByteArray)(hs:s.size≤maxLen)(w:World):Rt 37 #[S s] w (.tuple #[(srV s).val,I (srE s)]):=by
 refine Qf [.a (.v (S s))] Tryz.func37 rfl<|QA<|QC<|QE 2 [0,2] rfl<|Qw<|QA<|QC<|Yy 1 rfl<|QZ rfl (z2j 3 1 gW.length (gW.flatMap z0a) rfl zv0 (fun E w1 hm=>zdm w1)) fun _ _=>Qv (zxe 1 s gW) rfl zn1 (fun hg E w1 hm=>by exact z7m hm.leV (z6r 1 s (vw w1) _ gW w1 hs lr (hm.rowOf 1 rfl (fun _=>rfl)) (by simp))) ?_
 rintro x V1 hle1 hx
 have hx':=hx rfl
 clear hx
 rcases hx' with⟨l,r,v,hfr,rfl,hsl⟩|⟨hfr,rfl⟩
 rotate_left
 ·
  refine QE 7 [2,4,5,6] rfl<|Qw<|QA<|QA<|QC<|QE 6 [2,4,20] rfl<|Qw<|Qn rfl (fun h=> ?_) fun h=> ?_
  ·
   refine QA<|QC<|Yy 1 rfl<|Qs rfl<|QE 1 [2,3] rfl<|Qw<|QO<|QL<|Qb rfl fun E w' hm=>⟨?_,hm.below (hle1)⟩
   have:zf6 s=none:=by rw[zf6,hfr]
   rw[srV,srE,this];rfl
  ·
   exact absurd h (by decide)
 ·
  have hl8:l.length=8:=by rw[z39 hfr];rfl
  have hl64:=zfq hfr
  obtain⟨a,b,c,d,e,f,g,i,rfl⟩:=zur hl8
  have hat: ∀j (h:j<8),∃n,([a,b,c,d,e,f,g,i]:List Int)[j]? =some n:=fun j h=>⟨([a,b,c,d,e,f,g,i]:List Int)[j]'(by simpa using h),by simp⟩
  refine QE 7 [2,4,5,6] rfl<|Qw<|QA<|QA<|QC<|QE 6 [2,4,20] rfl<|Qw<|Qn rfl (fun h=> ?_) fun h=> ?_
  ·
   refine QA<|QC<|Yy 1 rfl<|Qs rfl<|QE 1 [2,3] rfl<|Qw<|QO<|QL<|Qb rfl fun E w' hm=>⟨?_,hm.below (hle1)⟩
   have:zf6 s=none:=by
    rw[zf6,hfr]
    simp only
    rw[if_neg]
    rintro⟨h1,h2⟩
    rw[bne,z1t]at h
    simp[h1]at h
   rw[srV,srE,this];rfl
  ·
   have hr0:r.size=0:=by
    rw[bne,z1t]at h
    simpa using h
   clear h
   have e0:([a,b,c,d,e,f,g,i]:List Int)[0]? =some a:=rfl
   have e1:([a,b,c,d,e,f,g,i]:List Int)[1]? =some b:=rfl
   have e2:([a,b,c,d,e,f,g,i]:List Int)[2]? =some c:=rfl
   have e3:([a,b,c,d,e,f,g,i]:List Int)[3]? =some d:=rfl
   have e4:([a,b,c,d,e,f,g,i]:List Int)[4]? =some e:=rfl
   have e5:([a,b,c,d,e,f,g,i]:List Int)[5]? =some f:=rfl
   have e6:([a,b,c,d,e,f,g,i]:List Int)[6]? =some g:=rfl
   have e7:([a,b,c,d,e,f,g,i]:List Int)[7]? =some i:=rfl
   refine QI<|Qw<|QA<|Ra rfl<|QT [0] rfl ?_
   have hlt_a:=z01 e0
   refine Qt 1 rfl rfl (z0c tok rfl (fun hg=>hsl.sl) (fun hg=>⟨by omega,by omega⟩))<|Qt 2 rfl rfl (z08 tok (0) 0 (a) rfl (fun hg=>hsl) (fun hg=>e0) rfl rfl)<|QT [3] rfl ?_
   have hlt_b:=z01 e1
   refine Qt 4 rfl rfl (z0c tok rfl (fun hg=>hsl.sl) (fun hg=>⟨by omega,by omega⟩))<|Qt 5 rfl rfl (z08 tok (1) 0 (b) rfl (fun hg=>hsl) (fun hg=>e1) rfl rfl)<|QT [6] rfl ?_
   have hlt_c:=z01 e2
   refine Qt 7 rfl rfl (z0c tok rfl (fun hg=>hsl.sl) (fun hg=>⟨by omega,by omega⟩))<|Qt 8 rfl rfl (z08 tok (2) 0 (c) rfl (fun hg=>hsl) (fun hg=>e2) rfl rfl)<|QT [9] rfl ?_
   have hlt_d:=z01 e3
   refine Qt 10 rfl rfl (z0c tok rfl (fun hg=>hsl.sl) (fun hg=>⟨by omega,by omega⟩))<|Qt 11 rfl rfl (z08 tok (3) 0 (d) rfl (fun hg=>hsl) (fun hg=>e3) rfl rfl)<|QT [12] rfl ?_
   have hlt_e:=z01 e4
   refine Qt 13 rfl rfl (z0c tok rfl (fun hg=>hsl.sl) (fun hg=>⟨by omega,by omega⟩))<|Qt 14 rfl rfl (z08 tok (4) 0 (e) rfl (fun hg=>hsl) (fun hg=>e4) rfl rfl)<|QT [15] rfl ?_
   have hlt_f:=z01 e5
   refine Qt 16 rfl rfl (z0c tok rfl (fun hg=>hsl.sl) (fun hg=>⟨by omega,by omega⟩))<|Qt 17 rfl rfl (z08 tok (5) 0 (f) rfl (fun hg=>hsl) (fun hg=>e5) rfl rfl)<|QT [18] rfl ?_
   have hlt_g:=z01 e6
   refine Qt 19 rfl rfl (z0c tok rfl (fun hg=>hsl.sl) (fun hg=>⟨by omega,by omega⟩))<|Qt 20 rfl rfl (z08 tok (6) 0 (g) rfl (fun hg=>hsl) (fun hg=>e6) rfl rfl)<|QT [21] rfl ?_
   have hlt_i:=z01 e7
   refine Qt 22 rfl rfl (z0c tok rfl (fun hg=>hsl.sl) (fun hg=>⟨by omega,by omega⟩))<|Qt 23 rfl rfl (z08 tok (7) 0 (i) rfl (fun hg=>hsl) (fun hg=>e7) rfl rfl)<|QT [24] rfl<|QS<|Qo 25<|Qk 25 rfl rfl rfl rfl<|Qo 26<|Qi 26 rfl<|Qe [2,7] rfl<|Qw<|QA<|QA<|QC<|Yy 1 rfl ?_
   have okg:=znc hl8 hl64
   refine Qc (.a (.v _)) rfl z78 (fun hg E w1 hm=>by exact z3k (⟨a,b,c,d,e,f,g,i⟩:Geo) okg _) ?_
   refine QE 1 [2,7,49] rfl<|Qw<|QX rfl (fun h=> ?_) fun h=> ?_
   ·
    refine QA<|QC<|Yy 1 rfl<|Qs rfl<|QE 1 [2,3] rfl<|Qw<|QO<|QL<|Qb rfl fun E w' hm=>⟨?_,hm.below (hle1)⟩
    have:zf6 s=none:=by
     rw[zf6,hfr]
     simp only
     rw[if_neg]
     rintro⟨_,h2⟩
     have:z2y (⟨a,b,c,d,e,f,g,i⟩:Geo)=true:=h2
     rw[this]at h
     cases h
    rw[srV,srE,this];rfl
   ·
    refine QI<|Qw<|QA<|QC<|Yy 1 rfl<|Qs rfl<|QE 1 [2,3] rfl<|Qw<|QO<|Qb rfl fun E w' hm=>⟨?_,hm.below (hle1)⟩
    have:zf6 s=some ⟨a,b,c,d,e,f,g,i⟩:=by
     rw[zf6,hfr]
     simp only
     rw[if_pos ⟨hr0,h⟩];rfl
    rw[srV,srE,this];rfl
theorem zgu(s:ByteArray)(hs:s.size≤maxLen)(w:World):Rt 32 #[S s] w (.tuple #[I (z3l s),I (z94 s)]):=by
 refine Qf [.a (.v (S s))] Tryz.func32 rfl<|QA<|QC<|QE 2 [0] rfl<|Qw<|QA<|QC<|Yy 1 rfl<|zp7 tok rfl rfl rfl rfl fun b1 V1 hle1 hb1=>Qv (zxe 2 s [6]) rfl zn1 (fun hg E w1 hm=>by exact z7m hm.leV (z6r 2 s V1 _ [6] w1 hs hm.leV (SlOf.ofBlock (enc:=z0a) (sz:=1) (l:=[6]) (hb1 rfl) rfl (fun _=>rfl) (Nat.le_refl _)) (by simp))) ?_
 rintro x V2 hle2 hx
 have hx':=hx rfl
 clear hx
 rcases hx' with⟨l,r,v,hfr,rfl,hsl⟩|⟨hfr,rfl⟩
 ·
  obtain⟨a,rfl⟩:=zhy (by rw[z39 hfr];rfl)
  have e1:([a]:List Int)[0]? =some a:=rfl
  refine QE 7 [4,5,6] rfl<|Qw<|QA<|QA<|QC<|QE 6 [4,19] rfl<|Qw<|Qn rfl (fun h=> ?_) fun h=> ?_
  ·
   refine QA<|QC<|QE 2 [2,3] rfl<|Qw<|QO<|QL<|Qb rfl fun E w' hm=>⟨?_,hm.below ((hle1.trans hle2))⟩
   have:z2s s=none:=by
    rw[z2s,hfr]
    simp only
    rw[bne,z1t]at h
    rw[if_neg (by simpa using h)]
   rw[z3l,z94,this];rfl
  ·
   refine QI<|Qw<|QA<|QC<|Yy 1 rfl ?_
   have hlt_a:=z01 e1
   refine QY rfl (z0c tok rfl (fun hg=>hsl.sl) (fun hg=>⟨by omega,by omega⟩))<|QY rfl (z08 tok (0) 0 (a) rfl (fun hg=>hsl) (fun hg=>e1) rfl rfl)<|QE 2 [2,3] rfl<|Qw<|QO<|Qb rfl fun E w' hm=>⟨?_,hm.below ((hle1.trans hle2))⟩
   have:z2s s=some a:=by
    rw[z2s,hfr]
    simp only
    rw[bne,z1t]at h
    rw[if_pos (by simpa using h)];rfl
   rw[z3l,z94,this];rfl
 ·
  refine QE 7 [4,5,6] rfl<|Qw<|QA<|QA<|QC<|QE 6 [4,19] rfl<|Qw<|Qn rfl (fun h=> ?_) fun h=> ?_
  ·
   refine QA<|QC<|QE 2 [2,3] rfl<|Qw<|QO<|QL<|Qb rfl fun E w' hm=>⟨?_,hm.below ((hle1.trans hle2))⟩
   have:z2s s=none:=by rw[z2s,hfr]
   rw[z3l,z94,this];rfl
  ·
   exact absurd h (by decide)
theorem zt6{n:Int}(h:z1k n 6=true):z2s (z0i (z4m 2 (leB 6 n)))=some n:=by
 have h6:(z24 [6] [n])=leB 6 n:=by simp[z24]
 have hl:(leB 6 n).length=6:=by simp[leB,z0q]
 have hp:=zdi [6] [n] [] [] rfl (fun i k m hk hn=>by
  cases i with
  |zero=>cases hk;cases hn;exact h
  |succ i=>simp at hk)
 rw[List.append_nil,h6]at hp
 have ho:z47 (z0i (z4m 2 (leB 6 n)))=true:=zfk (by decide) (by decide) (by omega)
 have hof:ofB 2 (z0i (z4m 2 (leB 6 n)))=true:=by
  rw[ofB,ho,z9f,Bool.true_and];decide
 have hfr:z17 2 (z0i (z4m 2 (leB 6 n))) [6]=some ([]++[n],z0i []):=by
  rw[z17,if_pos hof,z9a,hp]
 rw[z2s,hfr]
 simp only
 rw[if_pos (by rw[z16];rfl)]
 rfl
theorem zic{n:Int}(h:z1k n 6=true):z3n n=(z0i (z4m 2 (leB 6 n)),0):=by rw[z3n,if_pos h]
theorem zug{n:Int}(h:z1k n 6=true):z2s (z3n n).1=some n:=by
 rw[zic h]
 exact zt6 h
def Geo.eqB(a b:Geo):Bool:=a.nodes==b.nodes&&(a.slots==b.slots&&(a.blocks==b.blocks&&(a.per==b.per&&(a.journal==b.journal&&(a.log==b.log&&(a.lease==b.lease&&a.wait==b.wait))))))
theorem j4p{op:BinOp}{ox oy:Operand}(a b:Geo)(w:World)(hop:op= .eql∨op= .neq):
  (do eqGuard op 23 ox oy a.val b.val;binOp op 23 a.val b.val:Sem Value).run Tryz.prog w= .ok (.bool (if op= .eql then a.eqB b else !(a.eqB b))) w:=by
 have hS:Tryz.prog.underlying 23=some (.struct (Tryz.prog.fieldsOf 23)):=by kernel_rfl
 have hp:Tryz.prog.stoodInHeld 23=false:=by kernel_rfl
 have hg:Tryz.prog.eqGuardType Tryz.prog.depth 23=false:=by kernel_rfl
 have key:(Op.equalIn 10000 23 a.val b.val).run Tryz.prog w= .ok (a.eqB b) w:=by
  have u3:=Tryz.underlying3
  have a3:=Tryz.isAgg3
  have z3:=Tryz.sizeOf3
  rw[show(10000:Nat)=9999+1 from rfl,run_equalIn_agg w 9999 23 _ _ hS hp]
  simp only[Program.fieldsOf,Tryz.underlying23]
  go_simp
  unfold Geo.eqB
  by_cases h1:a.nodes=b.nodes<;>simp[h1]
  by_cases h2:a.slots=b.slots<;>simp[h2]
  by_cases h3:a.blocks=b.blocks<;>simp[h3]
  by_cases h4:a.per=b.per<;>simp[h4]
  by_cases h5:a.journal=b.journal<;>simp[h5]
  by_cases h6:a.log=b.log<;>simp[h6]
  by_cases h7:a.lease=b.lease<;>simp[h7]
  by_cases h8:a.wait=b.wait<;>simp[h8]
 rw[Sem.run_bind,run_eqGuard_agg w _ _ _ _ _ _ hg]
 rcases hop with rfl|rfl
 · simp only[Result.andThen_ok,run_eql_struct,key];rfl
 · simp only[Result.andThen_ok,run_neq_struct,key];rfl
theorem Geo.eqB_refl(a:Geo):a.eqB a=true:=by simp[Geo.eqB]
end Go.Proofs.YtkoiogkdiifgfaaGreat
