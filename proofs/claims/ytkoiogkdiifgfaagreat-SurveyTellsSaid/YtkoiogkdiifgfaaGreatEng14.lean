/-
 Appending to rows of one's own.
-/
import Derived.Test.YtkoiogkdiifgfaaGreatEng13
import Derived.Laws.AppendOwn
set_option linter.unusedSimpArgs false
set_option linter.unusedVariables false
namespace Go.Eng
open Go Go.RowKit
structure Src(P:Program)(sz:Nat)(x:Value)(m:Nat)(news:List Value)(w:World):Prop where
 len: ∀w',(Builtin.lenOf x).run P w'= .ok m w'
 cells: ∀w',w'.heap=w.heap→(Builtin.firstCells sz m x).run P w'= .ok news.toArray w'
 size:news.length=m*sz
theorem Src.slice{P:Program}{w:World}{sz m:Nat}{news:List Value}(a:Addr)(c:Nat)(hl:news.length=m*sz)(h: ∀j v,news[j]? =some v→w.cell? (a.add j)=some v):Src P sz (.slice (some a) m c) m news w:=
 ⟨fun w'=>by simp[Builtin.lenOf],fun w' hw=>run_firstCells_some (P:=P) w' sz m a m c news hl (fun j v hj=>by have:=h j v hj;simpa[World.cell?,hw]using this),hl⟩
theorem Src.none{P:Program}{w:World}{sz c:Nat}:Src P sz (.slice Option.none 0 c) 0 [] w:=
 ⟨fun w'=>by simp[Builtin.lenOf],fun w' hw=>by simp[Builtin.firstCells],by simp⟩
def zco(s:ByteArray):List Value:=s.data.toList.map fun b=> .int .u8 b.toNat
theorem Src.str{P:Program}{w:World}(s:ByteArray):Src P 1 (.string s) s.size (zco s) w:=by
 refine⟨fun w'=>by simp[Builtin.lenOf],fun w' hw=> ?_,by simp only[zco,List.length_map,Array.length_toList,Nat.mul_one];rfl⟩
 have:s.extract 0 s.size=s:=by
  apply ByteArray.ext
  rw[ByteArray.data_extract]
  exact Array.extract_size
 have h2:(s.data.map fun b=>Value.int .u8 b.toNat)=(zco s).toArray:=by
  apply Array.ext'
  simp only[zco,Array.toList_map]
 simp only[Builtin.firstCells,this,h2,Sem.run_pure]
theorem zb5{w:World}{b off e:Nat}{fz:Nat×Nat}{cs:Array Value}{k:Nat}{xs:List Value}(hb:w.heap[b]? =some (.cells cs e fz))(hx:xs=(cs.toList.drop off).take k):
  ∀j v,xs[j]? =some v→w.cell? ((⟨b,off,none⟩:Addr).add j)=some v:=by
 intro j v hj
 subst hx
 rw[List.getElem?_take]at hj
 split at hj
 ·
  rw[List.getElem?_drop]at hj
  simp only[Array.getElem?_toList]at hj
  by_cases h0:j=0
  · subst h0;simpa[World.cell?,Addr.add,hb]using hj
  · simpa[World.cell?,Addr.add,hb,h0]using hj
 · cases hj
theorem z7i.src{P:Program}{V:Vw}{v:Value}{sz n:Nat}{xs:List Value}{w:World}(h:z7i V v sz n xs)(hV: ∀k o,V.get k=some o→w.heap[k]? =some o):Src P sz v n xs w:=by
 rcases h.2 with⟨a,c,rfl,rfl⟩|⟨b,off,cap,cs,e,fz,rfl,hb,hle,hx,hc⟩
 ·
  have:xs=[]:=List.eq_nil_of_length_eq_zero (by simpa using h.1)
  subst this
  cases a with
  |none=>exact Src.none
  |some a=>exact Src.slice a c (by simp) (by simp)
 · exact Src.slice _ _ h.1 (zb5 (hV b _ hb) hx)
theorem z09{P:Program}{w:World}{e sz n:Nat}{v:Value}{xs:List Value}(h:w.ownsRow 0 e sz v n xs):Src P sz v n xs w:=by
 rcases h.2 with⟨rfl,rfl⟩|⟨g,cap,cur,rfl,_,hg,hnc,hcm,hcs,htake⟩
 ·
  have:xs=[]:=List.eq_nil_of_length_eq_zero (by simpa using h.1)
  subst this
  exact Src.none
 · exact Src.slice _ _ h.1 (zb5 hg (by simpa using htake.symm))
section
variable{P:Program}{w:World}
theorem zbn{t t2 ty e:TypeId}{i:TypeInfo}{z:Value}{d2:TypeDesc}(ht:P.underlying t=some (.slice e))(h2:P.underlying t2=some d2)(hd2:d2= .string∨ ∃e',d2= .slice e')(hi:P.info? e=some i)(hz:i.zero=some z)
  {base:Option Addr} {n cap:Nat} {olds:List Value} (ho:Src P i.size (.slice base n cap) n olds w) {x:Value} {m:Nat} {news:List Value} (hx:Src P i.size x m news w)
  (hg:cap<n+m) (h63:((n+m:Nat):Int)≤9223372036854775807) (hfit:Builtin.nextslicecap (n+m) cap*i.bytes≤281474976710656):
  (Builtin.append_ #[t,t2] ty #[.slice base n cap,x]).run P w=
   .ok (.slice (some ⟨w.heap.size,0,none⟩) (n+m) (grownCap w (n+m) cap e))
    (w.drew.alloc (.cells (olds.toArray++news.toArray++Builtin.zeroCells z.cells (grownCap w (n+m) cap e - (n+m))) e)):=by
 have hn: ¬(n+m≤cap):=by omega
 have h63': ¬(9223372036854775807<((n:Int)+(m:Int))):=by omega
 have h48': ¬(281474976710656<Builtin.nextslicecap (n+m) cap*i.bytes):=by omega
 have hf:=hx.cells w.drew rfl
 have hfo:=ho.cells w.drew rfl
 rcases hd2 with rfl|⟨e',rfl⟩<;>
   (simp[Builtin.append_,run_underlying ht,run_underlying h2,sizeOf,typeInfo,zeroValue,hi,hz,hx.len,hn,h63',h48',Question.forced,hf,hfo,newRow,grownCap];congr 2;apply Array.ext';simp[List.append_assoc])
theorem zbp{t t2 ty e:TypeId}{i:TypeInfo}{d2:TypeDesc}(ht:P.underlying t=some (.slice e))(h2:P.underlying t2=some d2)(hd2:d2= .string∨ ∃e',d2= .slice e')(hi:P.info? e=some i)
  {g n cap:Nat} {cur:Array Value} (hcur:w.heap[g]? =some (.cells cur e (0,0))) {x:Value} {m:Nat} {news:List Value} (hx:Src P i.size x m news w) (h1: ∀u∈news,u.oneCell'=true)
  (hg:n+m≤cap) (hfit:n*i.size+news.length≤cur.size):
  (Builtin.append_ #[t,t2] ty #[.slice (some ⟨g,0,none⟩) n cap,x]).run P w=
   .ok (.slice (some ⟨g,0,none⟩) (n+m) cap) (w.setRow g (cur.toList.take (n*i.size)++news++cur.toList.drop (n*i.size+news.length)).toArray):=by
 have hst:=run_storeCells_at P g (n*i.size) e news 0 cur w hcur (by simpa using hfit) h1
 simp only[Nat.add_zero]at hst
 have hadd:(⟨g,0,none⟩:Addr).add (n*i.size)=⟨g,n*i.size,none⟩:=by by_cases h:n*i.size=0<;>simp[Addr.add,h]
 have hf:=hx.cells w rfl
 rcases hd2 with rfl|⟨e',rfl⟩<;>
   (simp[Builtin.append_,run_underlying ht,run_underlying h2,sizeOf,typeInfo,hi,hx.len,hg,hf,hadd,hst])
theorem zkq{t t2 ty e:TypeId}{i:TypeInfo}{d2:TypeDesc}(ht:P.underlying t=some (.slice e))(h2:P.underlying t2=some d2)(hd2:d2= .string∨ ∃e',d2= .slice e')(hi:P.info? e=some i)
  {x:Value} {news:List Value} (hx:Src P i.size x 0 news w):
  (Builtin.append_ #[t,t2] ty #[.slice none 0 0,x]).run P w= .ok (.slice none 0 0) w:=by
 have hf:=hx.cells w rfl
 rcases hd2 with rfl|⟨e',rfl⟩<;>
   (simp[Builtin.append_,run_underlying ht,run_underlying h2,sizeOf,typeInfo,hi,hx.len,hf])
theorem z2n(z:Array Value)(n:Nat):(Builtin.zeroCells z n).size=n*z.size:=by simp[Builtin.zeroCells]
theorem j20{t t2 ty e:TypeId}{i:TypeInfo}{z:Value}{d2:TypeDesc}(ht:P.underlying t=some (.slice e))(h2:P.underlying t2=some d2)(hd2:d2= .string∨ ∃e',d2= .slice e')(hi:P.info? e=some i)(hz:i.zero=some z)
  (hzs:z.cells.size=i.size) {v:Value} {n:Nat} {olds:List Value} {x:Value} {m:Nat} {news:List Value} (hx:Src P i.size x m news w) (h1: ∀u∈news,u.oneCell'=true)
  (hb:(n+m)*i.bytes≤140737488355328) (h63:n+m≤maxLen) (hd:w.ownsRow 0 e i.size v n olds):
  ∃v' w',(Builtin.append_ #[t,t2] ty #[v,x]).run P w= .ok v' w'∧w'.ownsRow 0 e i.size v' (n+m) (olds++news)∧w.grownBy w' v.ownBlock∧(v'.ownBlock=v.ownBlock∨v'.ownBlock=some w.heap.size):=by
 have hlen:(olds++news).length=(n+m)*i.size:=by rw[List.length_append,hd.1,hx.size,Nat.add_mul]
 have h63':((n+m:Nat):Int)≤9223372036854775807:=by simp only[maxLen]at h63;omega
 have grow: ∀base cap,v= .slice base n cap→cap<n+m→ ∃v' w',(Builtin.append_ #[t,t2] ty #[v,x]).run P w= .ok v' w'∧w'.ownsRow 0 e i.size v' (n+m) (olds++news)∧w.grownBy w' v.ownBlock∧(v'.ownBlock=v.ownBlock∨v'.ownBlock=some w.heap.size):=by
  intro base cap hv hg
  have ho:=z09 (P:=P) hd
  subst hv
  refine⟨_,_,zbn ht h2 hd2 hi hz ho hx hg h63' (growslice_fits hg hb), ?_,⟨rfl,rfl,rfl,by simp,fun k hk _=>heap_alloc_old w.drew _ hk⟩, .inr rfl⟩
  have hge:=grownCap_ge w (n+m) cap e
  refine⟨hlen, .inr ⟨w.heap.size,_,_,rfl,Nat.zero_le _,heap_alloc_new w.drew _,hge,grownCap_le_maxLen w (n+m) cap e h63, ?_, ?_⟩⟩
  ·
   simp only[Array.size_append,List.size_toArray,z2n,hzs,hd.1,hx.size,←Nat.add_mul]
   congr 1
   omega
  ·
   simp only[Array.toList_append]
   rw[←hlen]
   exact List.take_left
 rcases hd.2 with⟨rfl,rfl⟩|⟨g,cap,cur,rfl,_,hg,hnc,hcm,hcs,htake⟩
 ·
  have ho:olds=[]:=List.eq_nil_of_length_eq_zero (by simpa using hd.1)
  subst ho
  rcases Nat.eq_zero_or_pos m with rfl|hm
  ·
   have hn:news=[]:=List.eq_nil_of_length_eq_zero (by simpa using hx.size)
   subst hn
   exact⟨_,_,zkq ht h2 hd2 hi hx,World.ownsRow_nil _ _ _ _,⟨rfl,rfl,rfl,Nat.le_refl _,fun _ _ _=>rfl⟩, .inl rfl⟩
  · exact grow none 0 rfl (by omega)
 ·
  by_cases hroom:n+m≤cap
  ·
   have hfit:n*i.size+news.length≤cur.size:=by rw[hx.size,hcs,←Nat.add_mul];exact Nat.mul_le_mul_right _ hroom
   refine⟨_,_,zbp ht h2 hd2 hi hg hx h1 hroom hfit,⟨hlen, .inr ⟨g,cap,_,rfl,Nat.zero_le _,setRow_heap w g cur _ e _ hg,hroom,hcm, ?_, ?_⟩⟩,
    ⟨rfl,rfl,rfl,by simp,fun k _ hk=>setRow_other w g k _ (fun h=>hk (by simp[Value.ownBlock,h]))⟩, .inl rfl⟩
   ·
    simp only[List.size_toArray,List.length_append,List.length_take,List.length_drop,Array.length_toList]
    omega
   ·
    rw[htake,←hlen]
    exact List.take_left
  · exact grow _ cap rfl (by omega)
end
section
variable{P:Program}{tt:List (Nat×TI)}{ops:Array Oper}{Q:Exit→Act→World→Prop}{o:Oper}{rest:List Oper}
 {n:Nat} {F:z05} {C:List Nat} {O:Own} {nl:Nat} {V:Vw} {K:Act→World→Prop}
theorem Mem.growO{E:Env}{w w':World}{l e sz m:Nat}{xs xs':List Value}{e' sz':Nat}{v':Value}(hm:Mem E O nl V w)(hl:lk O l=some (.row e sz n xs))
  (hr:w'.ownsRow 0 e' sz' v' m xs') (hg:w.grownBy w' (E.κ l).ownBlock) (hb:v'.ownBlock=(E.κ l).ownBlock∨ ∀k,v'.ownBlock=some k→w.heap.size≤k):
  Mem (E.setκ nl v') ((nl, .row e' sz' m xs')::(l, .gone)::O) (nl+1) V w':=by
 have hlt:=hm.lab _ _ hl
 have ag:E.agree nl (E.setκ nl v'):=Env.agree_setκ E v'
 -- an old cell's block is none of the row's
 have apart: ∀l' c k,l'≠l→lk O l'=some c→blk E l' c=some k→k<w.heap.size∧some k≠(E.κ l).ownBlock:=by
  intro l' c k hne hl' hk
  refine⟨hm.lt hl' hk,fun e=>hne (hm.sep _ _ _ _ k hl' hl hk ?_)⟩
  simpa[blk]using e.symm
 have old: ∀l' c,lk ((nl,Cel.row e' sz' m xs')::(l, .gone)::O) l'=some c→l'≠nl→(l'=l∧c= .gone)∨(l'≠l∧lk O l'=some c):=by
  intro l' c h hne
  rw[z1l,if_neg (fun h=>hne h.symm),z1l]at h
  by_cases hq:l=l'
  · rw[if_pos hq]at h;cases h;exact .inl ⟨hq.symm,rfl⟩
  · rw[if_neg hq]at h;exact .inr ⟨fun h=>hq h.symm,h⟩
 have heap: ∀k,k<w.heap.size→some k≠(E.κ l).ownBlock→w'.heap[k]? =w.heap[k]? :=hg.block
 refine⟨?_, ?_, ?_, ?_, ?_,hg.os.trans hm.os,hg.tape.trans hm.tape,hg.output.trans hm.output, ?_, ?_, ?_, ?_, ?_⟩
 ·
  intro l' cs q h
  by_cases hne:l'=nl
  · subst hne;rw[z0f]at h;cases h
  ·
   rcases old _ _ h hne with⟨_,h'⟩|⟨h',ho⟩
   · cases h'
   ·
    obtain⟨h1,h2⟩:=apart _ _ (E.ρ l') h' ho rfl
    have hok:=hm.labs _ _ _ ho
    rw[(ag l' (hm.lab _ _ ho)).1,heap _ h1 h2,hm.lit _ _ _ ho,A.map_agree ag hok]
 ·
  intro l' q s n' ys h
  by_cases hne:l'=nl
  ·
   subst hne
   rw[z0f]at h
   cases h
   simpa[Env.setκ]using hr
  ·
   rcases old _ _ h hne with⟨_,h'⟩|⟨h',ho⟩
   · cases h'
   ·
    rw[(ag l' (hm.lab _ _ ho)).2]
    have hro:=hm.row _ _ _ _ _ ho
    rcases hro.2 with h1|⟨g,cap,cur,hv,hb0,hgg,hrest⟩
    · exact⟨hro.1, .inl h1⟩
    ·
     obtain⟨h1,h2⟩:=apart _ _ g h' ho (by simp[blk,hv,Value.ownBlock])
     exact⟨hro.1, .inr ⟨g,cap,cur,hv,hb0,by rw[heap _ h1 h2];exact hgg,hrest⟩⟩
 ·
  -- apart
  have new_old: ∀l' c k,l'≠nl→lk ((nl,Cel.row e' sz' m xs')::(l, .gone)::O) l'=some c→blk (E.setκ nl v') l' c=some k→v'.ownBlock=some k→False:=by
   intro l' c k hne h hk hv
   rcases old _ _ h hne with⟨_,h'⟩|⟨h',ho⟩
   · subst h';simp[blk]at hk
   ·
    rw[z1p ag (hm.lab _ _ ho)]at hk
    obtain⟨h1,h2⟩:=apart _ _ k h' ho hk
    rcases hb with hb|hb
    · exact h2 (by rw[←hv,hb])
    · have:=hb _ hv;omega
  intro l1 l2 c1 c2 k h1 h2 hk1 hk2
  by_cases e1:l1=nl
  ·
   by_cases e2:l2=nl
   · rw[e1,e2]
   ·
    subst e1
    rw[z0f]at h1
    cases h1
    exact absurd (by simpa[blk,Env.setκ]using hk1) fun hv=>new_old _ _ _ e2 h2 hk2 hv
  ·
   by_cases e2:l2=nl
   ·
    subst e2
    rw[z0f]at h2
    cases h2
    exact absurd (by simpa[blk,Env.setκ]using hk2) fun hv=>new_old _ _ _ e1 h1 hk1 hv
   ·
    rcases old _ _ h1 e1 with⟨_,h'⟩|⟨h',ho⟩
    · subst h';simp[blk]at hk1
    ·
     rcases old _ _ h2 e2 with⟨_,h''⟩|⟨h'',ho'⟩
     · subst h'';simp[blk]at hk2
     ·
      rw[z1p ag (hm.lab _ _ ho)]at hk1
      rw[z1p ag (hm.lab _ _ ho')]at hk2
      exact hm.sep _ _ _ _ _ ho ho' hk1 hk2
 ·
  intro k ob hk
  have h1:=hm.get k ob hk
  have h2:k<w.heap.size:=(Array.getElem?_eq_some_iff.1 h1).1
  rw[heap k h2 (fun e=>by
   have:=hm.off l _ k hl (by simpa[blk]using e.symm)
   rw[hk]at this;cases this)]
  exact h1
 ·
  intro l' c k h hk
  by_cases hne:l'=nl
  ·
   subst hne
   rw[z0f]at h
   cases h
   have hv:v'.ownBlock=some k:=by simpa[blk,Env.setκ]using hk
   rcases hb with hb|hb
   · exact hm.off l _ k hl (by simpa[blk,←hb]using hv)
   ·
    have hge:=hb _ hv
    cases hq:V.get k with
    |none=>rfl
    |some ob=>
     have:=(Array.getElem?_eq_some_iff.1 (hm.get _ _ hq)).1
     omega
  ·
   rcases old _ _ h hne with⟨_,h'⟩|⟨h',ho⟩
   · subst h';simp[blk]at hk
   ·
    rw[z1p ag (hm.lab _ _ ho)]at hk
    exact hm.off _ _ _ ho hk
 ·
  intro l' c h
  by_cases hne:l'=nl
  · omega
  ·
   rcases old _ _ h hne with⟨h',_⟩|⟨_,ho⟩
   · subst h';omega
   · have:=hm.lab _ _ ho;omega
 ·
  intro l' cs q h
  by_cases hne:l'=nl
  · subst hne;rw[z0f]at h;cases h
  ·
   rcases old _ _ h hne with⟨_,h'⟩|⟨_,ho⟩
   · cases h'
   · exact z15 (Nat.le_succ nl) (hm.labs _ _ _ ho)
 ·
  intro l' q b h
  by_cases hne:l'=nl
  · subst hne;rw[z0f]at h;cases h
  ·
   rcases old _ _ h hne with⟨_,h'⟩|⟨_,ho⟩
   · cases h'
   ·
    obtain⟨h1,h2⟩:=hm.pin _ _ _ ho
    exact⟨(ag q h2).1.trans h1,Nat.lt_succ_of_lt h2⟩
 ·
  intro l' k h
  by_cases hne:l'=nl
  · subst hne;rw[z0f]at h;cases h
  ·
   rcases old _ _ h hne with⟨_,h'⟩|⟨_,ho⟩
   · cases h'
   · exact Nat.le_trans (hm.big _ _ ho) hg.size
 ·
  intro l' q b v h
  by_cases hne:l'=nl
  · subst hne;rw[z0f]at h;cases h
  ·
   rcases old _ _ h hne with⟨_,h'⟩|⟨_,ho⟩
   · cases h'
   ·
    obtain⟨h1,h2,h3⟩:=hm.kp _ _ _ _ ho
    exact⟨(ag q h3).1.trans h1,(ag q h3).2.trans h2,Nat.lt_succ_of_lt h3⟩
theorem Mem.grow{E:Env}{w w':World}{l e sz m:Nat}{xs xs':List Value}{e' sz':Nat}{v':Value}(hm:Mem E O nl V w)(hl:lk O l=some (.row e sz n xs))
  (hr:w'.ownsRow 0 e' sz' v' m xs') (hg:w.grownBy w' (E.κ l).ownBlock) (hb:v'.ownBlock=(E.κ l).ownBlock∨v'.ownBlock=some w.heap.size):
  Mem (E.setκ nl v') ((nl, .row e' sz' m xs')::(l, .gone)::O) (nl+1) V w':=
 hm.growO hl hr hg (hb.imp id (fun h k hk=>by rw[h]at hk;cases hk;exact Nat.le_refl _))
end
end Go.Eng
