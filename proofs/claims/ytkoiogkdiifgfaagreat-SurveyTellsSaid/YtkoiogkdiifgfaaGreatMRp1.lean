import Derived.Test.YtkoiogkdiifgfaaGreatMFmt
import Derived.Test.YtkoiogkdiifgfaaGreatEng39
/- What is whole of a journal's records; blocks where nothing is whole. -/
set_option linter.unusedVariables false
set_option linter.unusedSimpArgs false
set_option maxRecDepth 100000
namespace Go.Proofs.YtkoiogkdiifgfaaGreat
open Go Go.Eng Go.RowKit
theorem zim{V:Vw}{v:Value}{sz m:Nat}{xs:List Value}(h:z7i V v sz m xs): ∃a c,v= .slice a m c∧m≤c∧z7i V (.slice a m m) sz m xs:=by
 rcases h with⟨h0,⟨a,c,rfl,rfl⟩|⟨b,off,cap,cs,e,f,rfl,hg,hle,hx,hc⟩⟩
 · exact⟨a,c,rfl,Nat.zero_le _,h0, .inl ⟨a,0,rfl,rfl⟩⟩
 · exact⟨_,cap,rfl,hc,h0, .inr ⟨b,off,m,cs,e,f,rfl,hg,hle,hx,Nat.le_refl _⟩⟩
theorem j5d{V:Vw}{a:Option Addr}{m c sz:Nat}{xs:List Value}(h:z7i V (.slice a m c) sz m xs){k:Nat}(hk:k≤m):z7i V (.slice a k k) sz k (xs.take (k*sz)):=by
 obtain⟨h0,h1⟩:=h
 have hm:=Nat.mul_le_mul_right sz hk
 refine⟨by rw[List.length_take];omega, ?_⟩
 rcases h1 with⟨a',c',he,rfl⟩|⟨b,off,cap,cs,e,f,he,hg,hle,hx,hc⟩
 ·
  cases he
  have:k=0:=by omega
  subst this
  exact .inl ⟨_,_,rfl,rfl⟩
 ·
  cases he
  refine .inr ⟨b,off,k,cs,e,f,rfl,hg,by omega, ?_,Nat.le_refl _⟩
  rw[hx,List.take_take]
  congr 1
  omega
theorem zts{α:Type}{V:Vw}{enc:α→List Value}{sz:Nat}{a:Option Addr}{n c:Nat}{l:List α}(h:SlOf V enc sz (.slice a n c) l){k:Nat}(hk:k≤l.length):SlOf V enc sz (.slice a k k) (l.take k):=by
 obtain⟨a',c',he,_,_⟩:=zim h.sl
 cases he
 have:=j5d h.sl hk
 rw[z4o h.len]at this
 refine⟨?_,h.len⟩
 have hl:(l.take k).length=k:=by rw[List.length_take];omega
 rw[hl]
 exact this
theorem zo0(V:Vw)(a:Option Addr)(n c:Nat)(l:List Record)(w:World)(hV:V.le (vw w))(hs0:SlOf V Record.cells 6 (.slice a n c) l)(hn:l.length≤1000000):
  Rt 28 #[.slice a n c] w (.slice a (whole l) (whole l)):=by
 have hs:=hs0.mono hV
 have hwl:=za6 l
 obtain⟨a',c',he,hlc,_⟩:=zim hs.sl
 cases he
 refine Qf [.a (.v (.slice a l.length c))] Tryz.func28 rfl<|QA<|QC<|QE 1 [0] rfl<|Qw<|QA<|QC<|Yy 1 rfl<|Qc (.a (.v _)) rfl j4r (fun hg E w1 hm=>by exact j1r (vw w) _ l _ hm.leV hs (by simp only[lim];omega)) ?_
 refine QE 1 [0,3] rfl<|Qw<|QA<|QC<|Yy 3 rfl<|QY rfl (j5x tok rfl (fun hg=>⟨by omega,by omega,by omega⟩))<|QE 1 [2] rfl<|Qw<|QO<|z0h tok rfl ?_
 rw[Int.toNat_natCast]
 intro E w' hm _
 refine⟨?_,hm.below lr⟩
 rfl
theorem z7v{α:Type}{l:List α}{i:Nat}{x:α}(h:l[i]? =some x):l.take (i+1)=l.take i++[x]:=by
 rw[List.take_add_one,h];rfl
theorem zh2(V:Vw)(sv:Value)(l:List Record)(w:World)(hV:V.le (vw w))(hs0:SlOf V Record.cells 6 sv l)(hn:l.length≤1000000):
  Rt 31 #[sv] w (I (whole l)):=by
 have hs:=hs0.mono hV
 refine Qf [.a (.v sv)] Tryz.func31 rfl<|QA<|QC<|QE 1 [0] rfl<|Qw<|QA<|QC<|QE 1 [0,3] rfl<|Qw<|QA<|QA<|QC<|QE 1 [0,3,4] rfl<|Qw<|QJ<|Ql [0] [] rfl rfl (σ:=Nat×Nat) (fun(i,n)=>[(3, .a (.v (I n))),(4, .a (.v (I i)))]) (fun(i,n)=>[]) (fun(i,n)=>i≤l.length∧n≤i∧whole l=z31 (l.drop i) i n (i - n)) (fun(i,n)=>l.length - i) ((0,0)) (⟨by omega,by omega,rfl⟩) ?_
 rintro⟨i,n⟩ ⟨hi,hni,hw⟩
 dsimp only at hi hni hw⊢
 refine QA<|QA<|QC<|Yy 2 rfl<|QY rfl (z0l tok rfl (fun hg=>hs.sl))<|QE 1 [0,3,4,8] rfl<|Qw<|QX rfl (fun h=> ?_) fun h=> ?_
 ·
  refine QI<|Qw<|QA<|QJ<|QA<|QA<|QC<|Yy 2 rfl ?_
  obtain⟨r,h_r⟩:=hs.at (k:=i) (by omega)
  rw[z27 h_r,z31]at hw
  have hwi:IntKind.i64.wrap ((i:Int)+1)=((i+1:Nat):Int):=z06 (by omega) (by omega)
  have hlt_r:=z01 h_r
  refine QY rfl (z0c tok rfl (fun hg=>hs.sl) (fun hg=>⟨by omega,by omega⟩))<|QY rfl (z1f tok rfl (fun hg=>hs.sl) (fun hg=>by omega))<|QY rfl (z08 tok (i) 5 (r) rfl (fun hg=>hs) (fun hg=>h_r) rfl rfl)<|QE 1 [0,3,4,16] rfl<|Qw<|QX rfl (fun h=> ?_) fun h=> ?_
  ·
   refine QN<|QK<|QQ<|Qw<|QC<|QE 3 [0,3,4] rfl<|Qw ?_
   rw[if_pos h,show i - n+1=i+1 - n by omega]at hw
   rw[hwi]
   refine Qr ((i+1,n))<|⟨by dsimp only;omega,by dsimp only;omega,hw⟩
  ·
   rw[if_neg h]at hw
   clear h
   refine QI<|Qw<|QA<|QA<|QC<|Yy 2 rfl ?_
   have hwd:IntKind.i64.wrap ((i:Int) - n)=((i - n:Nat):Int):=by rw[z06 (by omega) (by omega)];omega
   have hlt_r:=z01 h_r
   refine QY rfl (z0c tok rfl (fun hg=>hs.sl) (fun hg=>⟨by omega,by omega⟩))<|QY rfl (z1f tok rfl (fun hg=>hs.sl) (fun hg=>by omega))<|QY rfl (z08 tok (i) 5 (r) rfl (fun hg=>hs) (fun hg=>h_r) rfl rfl)<|QE 4 [0,3,4,25] rfl<|Qw<|QX rfl (fun h=> ?_) fun h=> ?_
   ·
    refine QA<|QC<|QE 2 [2] rfl<|Qw<|QO<|QL<|QP<|QL<|QL<|QP<|QL<|z0h tok rfl ?_
    rw[hwd]at h
    rw[if_pos h]at hw
    intro E w' hm _
    refine⟨?_,hm.below lr⟩
    rw[hw];rfl
   ·
    refine QI<|Qw<|QC<|QE 3 [0,3,4] rfl<|QM<|Qw<|QC<|QE 3 [0,3,4] rfl<|Qw ?_
    rw[hwd]at h
    rw[if_neg (by simpa using h)]at hw
    rw[hwi]
    refine Qr ((i+1,i+1))<|⟨by dsimp only;omega,by dsimp only;omega,by dsimp only;rw[hw,Nat.sub_self]⟩
 ·
  refine QN<|QK<|QK<|QQ<|Qw<|QA<|QC<|QE 2 [2] rfl<|Qw<|QO<|z0h tok rfl ?_
  have hil:i=l.length:=by omega
  subst hil
  rw[List.drop_length,z31]at hw
  intro E w' hm _
  refine⟨?_,hm.below lr⟩
  rw[hw];rfl
def jar(L:List Record)(w:World)(e:Ending)(w':World):Prop:=
 (∃v,e= .returned v∧w'.ownsRow w.heap.size 74 6 v L.length (L.flatMap Record.cells))∧Below w.heap.size w w'
def zpl(L:List Record)(x:Value)(V':Vw):Prop:= ∃a n c,x= .slice a n c∧SlOf V' Record.cells 6 (.slice a n c) L
theorem zz1{V:Vw}{f:Nat}{L:List Record}{args:Array Value}{w:World}(hV:V.le (vw w))(h:Cl f args w (jar L w)):
  Cl f args w fun e w'=> ∃x V',e= .returned x∧Below w.heap.size w w'∧Vext w.heap.size V V' w'∧zpl L x V':=by
 refine h.mono ?_
 rintro e w' ⟨⟨v,rfl,hown⟩,hb⟩
 obtain⟨V',hx,hsl⟩:=z1i hV hb hown
 obtain⟨a,n,c,rfl⟩:=z04 hsl
 exact⟨_,V',rfl,hb,hx,a,n,c,rfl,hsl,fun _=>rfl⟩
theorem zp9(V:Vw)(sv:Value)(l:List Record)(w:World)(hV:V.le (vw w))(hs0:SlOf V Record.cells 6 sv l)(hn:l.length≤1000000):
  Cl 76 #[sv] w (jar (l.take (whole l)) w):=by
 have hs:=hs0.mono hV
 have hw:=za6 l
 have hl:(l.take (whole l)).length=whole l:=by rw[List.length_take];omega
 have hcut:SlOf (vw w) Record.cells 6 (z0n sv 0 (whole l) 6) (l.take (whole l)):=by
  have:=hs.cut (lo:=0) (hi:=whole l) (by omega) hw
  simpa using this
 refine Qf [.a (.v sv)] Tryz.func76 rfl<|QA<|QC<|QE 1 [0] rfl<|Qw<|QA<|QC<|QZ rfl (z1q tok 6 rfl rfl rfl) fun _ _=>Yy 2 rfl<|Qc (.a (.v _)) rfl ztc (fun hg E w1 hm=>by exact zh2 (vw w) _ l _ hm.leV hs hn) ?_
 refine QY rfl (zo7 tok rfl (fun hg=>hs.sl) (fun hg=>by dsimp only[Option.getD];omega)) ?_
 rw[show((some ((whole l:Nat):Int)).getD (l.length:Int)).toNat=whole l by simp[Option.getD]]
 refine QZ rfl (z0g tok ((l.take (whole l)).flatMap Record.cells) rfl (fun E w hm=>hcut.sl.src hm.get) (fun _ _ _=>zhb _) (by dsimp only;omega)) fun _ _=>QE 1 [2] rfl<|Qw<|QO<|z0h tok rfl ?_
 rw[List.nil_append,Nat.zero_add (l.take (whole l)).length]
 intro E w' hm _
 exact⟨⟨E.κ 1,rfl,hm.rowFresh lr (l:=1) rfl⟩,hm.below lr⟩
end Go.Proofs.YtkoiogkdiifgfaaGreat
