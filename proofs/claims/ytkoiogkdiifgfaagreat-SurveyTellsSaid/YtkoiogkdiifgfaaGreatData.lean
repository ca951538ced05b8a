import Derived.Test.YtkoiogkdiifgfaaGreatJf
/- The types that come in: structures, and how they are read. Printed by rd.py. -/
set_option linter.unusedVariables false
set_option linter.unusedSimpArgs false
set_option maxRecDepth 100000
namespace Go.Proofs.YtkoiogkdiifgfaaGreat
open Go Go.Eng Go.RowKit Go.ChangeShapes Go.WideShapes Go.ChangeAt
def lim:Nat:=4398046511104
def R64(n:Int):Prop:= -9223372036854775808≤n∧n≤9223372036854775807
def R8(n:Int):Prop:= -128≤n∧n≤127
abbrev S(s:ByteArray):Value:= .string s
abbrev z1a(s:ByteArray):List Value:=[.string s]
abbrev z0a(n:Int):List Value:=[I n]
abbrev jbq(n:Int):List Value:=[.int .u64 n]
abbrev encU8(n:Int):List Value:=[.int .u8 n]
abbrev encB(b:Bool):List Value:=[.bool b]
structure Sl(α:Type) where
 v:Value
 l:List α
abbrev Sl.enc{α:Type}(s:Sl α):List Value:=[s.v]
structure SlGood{α:Type}(V:Vw)(enc:α→List Value)(sz:Nat)(Good:α→Prop)(s:Sl α):Prop where
 sl:SlOf V enc sz s.v s.l
 max:s.l.length≤maxLen
 all: ∀a∈s.l,Good a
structure Record where
 key:Int
 lsn:Int
 block:Int
 k:Int
 text:ByteArray
 count:Int
abbrev Record.cells(a:Record):List Value:=[I a.key,I a.lsn,I a.block,I a.k, .string a.text,I a.count]
abbrev Record.val(a:Record):Value:= .agg #[I a.key,I a.lsn,I a.block,I a.k, .string a.text,I a.count]
structure Record.Ok(a:Record):Prop where
 key:R64 a.key
 lsn:R64 a.lsn
 block:R64 a.block
 k:R64 a.k
 text:a.text.size≤maxLen
 count:R64 a.count
structure Block where
 n:Int
 text:ByteArray
abbrev Block.cells(a:Block):List Value:=[I a.n, .string a.text]
abbrev Block.val(a:Block):Value:= .agg #[I a.n, .string a.text]
structure Block.Ok(a:Block):Prop where
 n:R64 a.n
 text:a.text.size≤maxLen
structure Cell where
 sector:Int
 b:ByteArray
abbrev Cell.cells(a:Cell):List Value:=[I a.sector, .string a.b]
abbrev Cell.val(a:Cell):Value:= .agg #[I a.sector, .string a.b]
structure Cell.Ok(a:Cell):Prop where
 sector:R64 a.sector
 b:a.b.size≤maxLen
structure Slot where
 key:Int
 claim:Int
abbrev Slot.cells(a:Slot):List Value:=[I a.key,I a.claim]
abbrev Slot.val(a:Slot):Value:= .agg #[I a.key,I a.claim]
structure Slot.Ok(a:Slot):Prop where
 key:R64 a.key
 claim:R64 a.claim
structure Hold where
 key:Int
 lo:Int
 hi:Int
 mode:Int
abbrev Hold.cells(a:Hold):List Value:=[I a.key,I a.lo,I a.hi,I8 a.mode]
abbrev Hold.val(a:Hold):Value:= .agg #[I a.key,I a.lo,I a.hi,I8 a.mode]
structure Hold.Ok(a:Hold):Prop where
 key:R64 a.key
 lo:R64 a.lo
 hi:R64 a.hi
 mode:R8 a.mode
structure Table where
 slots:Sl Slot
 holds:Sl Hold
 queue:Sl Hold
abbrev Table.cells(a:Table):List Value:=[a.slots.v,a.holds.v,a.queue.v]
abbrev Table.val(a:Table):Value:= .agg #[a.slots.v,a.holds.v,a.queue.v]
structure Table.Ok(V:Vw)(a:Table):Prop where
 slots:SlGood V Slot.cells 2 (fun a=>Slot.Ok a) a.slots
 holds:SlGood V Hold.cells 4 (fun a=>Hold.Ok a) a.holds
 queue:SlGood V Hold.cells 4 (fun a=>Hold.Ok a) a.queue
structure Cmd where
 kind:Int
 by_:Int
 serial:Int
 dead:Int
 was:Int
 lo:Int
 hi:Int
 mode:Int
abbrev Cmd.cells(a:Cmd):List Value:=[I8 a.kind,I a.by_,I a.serial,I a.dead,I a.was,I a.lo,I a.hi,I8 a.mode]
abbrev Cmd.val(a:Cmd):Value:= .agg #[I8 a.kind,I a.by_,I a.serial,I a.dead,I a.was,I a.lo,I a.hi,I8 a.mode]
structure Cmd.Ok(a:Cmd):Prop where
 kind:R8 a.kind
 by_:R64 a.by_
 serial:R64 a.serial
 dead:R64 a.dead
 was:R64 a.was
 lo:R64 a.lo
 hi:R64 a.hi
 mode:R8 a.mode
structure Span where
 lo:Int
 hi:Int
abbrev Span.cells(a:Span):List Value:=[I a.lo,I a.hi]
abbrev Span.val(a:Span):Value:= .agg #[I a.lo,I a.hi]
structure Span.Ok(a:Span):Prop where
 lo:R64 a.lo
 hi:R64 a.hi
structure Fetching where
 block:Int
 k:Int
 parts:Sl ByteArray
abbrev Fetching.cells(a:Fetching):List Value:=[I a.block,I a.k,a.parts.v]
abbrev Fetching.val(a:Fetching):Value:= .agg #[I a.block,I a.k,a.parts.v]
structure Fetching.Ok(V:Vw)(a:Fetching):Prop where
 block:R64 a.block
 k:R64 a.k
 parts:SlGood V z1a 1 (fun a=>a.size≤maxLen) a.parts
structure Device where
 s:Sl ByteArray
 cache:Sl (Sl Cell)
 keys:Sl Int
 next_:Int
 fenced:Sl Int
abbrev Device.cells(a:Device):List Value:=[a.s.v,a.cache.v,a.keys.v,I a.next_,a.fenced.v]
abbrev Device.val(a:Device):Value:= .agg #[a.s.v,a.cache.v,a.keys.v,I a.next_,a.fenced.v]
structure Device.Ok(V:Vw)(a:Device):Prop where
 s:SlGood V z1a 1 (fun a=>a.size≤maxLen) a.s
 cache:SlGood V Sl.enc 1 (fun a=>SlGood V Cell.cells 2 (fun a=>Cell.Ok a) a) a.cache
 keys:SlGood V z0a 1 (fun a=>R64 a) a.keys
 next_:R64 a.next_
 fenced:SlGood V z0a 1 (fun a=>R64 a) a.fenced
structure View where
 key:Int
 claim:Int
 tail:Int
 records:Int
 whole:Int
 txns:Int
abbrev View.cells(a:View):List Value:=[I a.key,I a.claim,I a.tail,I a.records,I a.whole,I a.txns]
abbrev View.val(a:View):Value:= .agg #[I a.key,I a.claim,I a.tail,I a.records,I a.whole,I a.txns]
structure View.Ok(a:View):Prop where
 key:R64 a.key
 claim:R64 a.claim
 tail:R64 a.tail
 records:R64 a.records
 whole:R64 a.whole
 txns:R64 a.txns
structure Sight where
 now:ByteArray
 then_:ByteArray
 by_:Int
abbrev Sight.cells(a:Sight):List Value:=[.string a.now, .string a.then_,I a.by_]
abbrev Sight.val(a:Sight):Value:= .agg #[.string a.now, .string a.then_,I a.by_]
structure Sight.Ok(a:Sight):Prop where
 now:a.now.size≤maxLen
 then_:a.then_.size≤maxLen
 by_:R64 a.by_
structure Geo where
 nodes:Int
 slots:Int
 blocks:Int
 per:Int
 journal:Int
 log:Int
 lease:Int
 wait:Int
abbrev Geo.cells(a:Geo):List Value:=[I a.nodes,I a.slots,I a.blocks,I a.per,I a.journal,I a.log,I a.lease,I a.wait]
abbrev Geo.val(a:Geo):Value:= .agg #[I a.nodes,I a.slots,I a.blocks,I a.per,I a.journal,I a.log,I a.lease,I a.wait]
structure Geo.Ok(a:Geo):Prop where
 nodes:R64 a.nodes
 slots:R64 a.slots
 blocks:R64 a.blocks
 per:R64 a.per
 journal:R64 a.journal
 log:R64 a.log
 lease:R64 a.lease
 wait:R64 a.wait
theorem own:ownKnob Tryz.prog.godebug=none:=by kernel_rfl
theorem laidOut:laidOutB Tryz.prog=true:=by kernel_rfl
section
variable{H:Type}{enc:TypeId×Value→H}{w:World}{base:Nat}{spare:Nat→Bool}{held:Bool}
theorem zre{cs:List Value}{fuel:Nat}{x:DataW H×List MemPlace}(h:DataW.trod enc Tryz.prog w base spare held fuel 23 cs=some x): ∃a:Geo,Geo.cells a=cs∧Geo.Ok a:=by
 have h2:=z71 tok 8 23 _ rfl h
 match cs,h2 with
 |[c0,c1,c2,c3,c4,c5,c6,c7],⟨h0,h1,h2,h3,h4,h5,h6,h7,_⟩=>
  obtain⟨n0,rfl,b0⟩:=z23 tok rfl h0
  obtain⟨n1,rfl,b1⟩:=z23 tok rfl h1
  obtain⟨n2,rfl,b2⟩:=z23 tok rfl h2
  obtain⟨n3,rfl,b3⟩:=z23 tok rfl h3
  obtain⟨n4,rfl,b4⟩:=z23 tok rfl h4
  obtain⟨n5,rfl,b5⟩:=z23 tok rfl h5
  obtain⟨n6,rfl,b6⟩:=z23 tok rfl h6
  obtain⟨n7,rfl,b7⟩:=z23 tok rfl h7
  exact⟨⟨n0,n1,n2,n3,n4,n5,n6,n7⟩,rfl,⟨bounds_i64 b0,bounds_i64 b1,bounds_i64 b2,bounds_i64 b3,bounds_i64 b4,bounds_i64 b5,bounds_i64 b6,bounds_i64 b7⟩⟩
theorem zwu{cs:List Value}{fuel:Nat}{x:DataW H×List MemPlace}(h:DataW.trod enc Tryz.prog w base spare held fuel 9 cs=some x): ∃a:ByteArray,z1a a=cs∧a.size≤maxLen:=by
 have h2:=z71 tok 8 9 _ rfl h
 match cs,h2 with
 |[c0],⟨h0,_⟩=>
  obtain⟨n0,rfl,b0⟩:=zc6 tok rfl h0
  exact⟨n0,rfl,b0⟩
theorem zmc{cs:List Value}{fuel:Nat}{x:DataW H×List MemPlace}(h:DataW.trod enc Tryz.prog w base spare held fuel 171 cs=some x): ∃a:Cell,Cell.cells a=cs∧Cell.Ok a:=by
 have h2:=z71 tok 8 171 _ rfl h
 match cs,h2 with
 |[c0,c1],⟨h0,h1,_⟩=>
  obtain⟨n0,rfl,b0⟩:=z23 tok rfl h0
  obtain⟨n1,rfl,b1⟩:=zc6 tok rfl h1
  exact⟨⟨n0,n1⟩,rfl,⟨bounds_i64 b0,b1⟩⟩
theorem zk5{cs:List Value}{fuel:Nat}{x:DataW H×List MemPlace}(h:DataW.trod enc Tryz.prog w base spare held fuel 111 cs=some x): ∃a:Sl Cell,Sl.enc a=cs∧SlGood (vw w) Cell.cells 2 (fun a=>Cell.Ok a) a:=by
 have h2:=z71 tok 8 111 _ rfl h
 match cs,h2 with
 |[c0],⟨h0,_⟩=>
  obtain⟨l0,s0,m0,g0⟩:=z4h (enc':=Cell.cells) (Good:=fun a=>Cell.Ok a) tok rfl rfl rfl (fun _=>rfl) (fun _ _ _ hx=>zmc hx) h0
  exact⟨⟨c0,l0⟩,rfl,⟨s0,m0,g0⟩⟩
theorem zeg{cs:List Value}{fuel:Nat}{x:DataW H×List MemPlace}(h:DataW.trod enc Tryz.prog w base spare held fuel 3 cs=some x): ∃a:Int,z0a a=cs∧R64 a:=by
 have h2:=z71 tok 8 3 _ rfl h
 match cs,h2 with
 |[c0],⟨h0,_⟩=>
  obtain⟨n0,rfl,b0⟩:=z23 tok rfl h0
  exact⟨n0,rfl,bounds_i64 b0⟩
theorem zk3{cs:List Value}{fuel:Nat}{x:DataW H×List MemPlace}(h:DataW.trod enc Tryz.prog w base spare held fuel 28 cs=some x): ∃a:Device,Device.cells a=cs∧Device.Ok (vw w) a:=by
 have h2:=z71 tok 8 28 _ rfl h
 match cs,h2 with
 |[c0,c1,c2,c3,c4],⟨h0,h1,h2,h3,h4,_⟩=>
  obtain⟨l0,s0,m0,g0⟩:=z4h (enc':=z1a) (Good:=fun a=>a.size≤maxLen) tok rfl rfl rfl (fun _=>rfl) (fun _ _ _ hx=>zwu hx) h0
  obtain⟨l1,s1,m1,g1⟩:=z4h (enc':=Sl.enc) (Good:=fun a=>SlGood (vw w) Cell.cells 2 (fun a=>Cell.Ok a) a) tok rfl rfl rfl (fun _=>rfl) (fun _ _ _ hx=>zk5 hx) h1
  obtain⟨l2,s2,m2,g2⟩:=z4h (enc':=z0a) (Good:=fun a=>R64 a) tok rfl rfl rfl (fun _=>rfl) (fun _ _ _ hx=>zeg hx) h2
  obtain⟨n3,rfl,b3⟩:=z23 tok rfl h3
  obtain⟨l4,s4,m4,g4⟩:=z4h (enc':=z0a) (Good:=fun a=>R64 a) tok rfl rfl rfl (fun _=>rfl) (fun _ _ _ hx=>zeg hx) h4
  exact⟨⟨⟨c0,l0⟩,⟨c1,l1⟩,⟨c2,l2⟩,n3,⟨c4,l4⟩⟩,rfl,⟨⟨s0,m0,g0⟩,⟨s1,m1,g1⟩,⟨s2,m2,g2⟩,bounds_i64 b3,⟨s4,m4,g4⟩⟩⟩
theorem zlu{cs:List Value}{fuel:Nat}{x:DataW H×List MemPlace}(h:DataW.trod enc Tryz.prog w base spare held fuel 56 cs=some x): ∃a:Sight,Sight.cells a=cs∧Sight.Ok a:=by
 have h2:=z71 tok 8 56 _ rfl h
 match cs,h2 with
 |[c0,c1,c2],⟨h0,h1,h2,_⟩=>
  obtain⟨n0,rfl,b0⟩:=zc6 tok rfl h0
  obtain⟨n1,rfl,b1⟩:=zc6 tok rfl h1
  obtain⟨n2,rfl,b2⟩:=z23 tok rfl h2
  exact⟨⟨n0,n1,n2⟩,rfl,⟨b0,b1,bounds_i64 b2⟩⟩
theorem zov{cs:List Value}{fuel:Nat}{x:DataW H×List MemPlace}(h:DataW.trod enc Tryz.prog w base spare held fuel 54 cs=some x): ∃a:View,View.cells a=cs∧View.Ok a:=by
 have h2:=z71 tok 8 54 _ rfl h
 match cs,h2 with
 |[c0,c1,c2,c3,c4,c5],⟨h0,h1,h2,h3,h4,h5,_⟩=>
  obtain⟨n0,rfl,b0⟩:=z23 tok rfl h0
  obtain⟨n1,rfl,b1⟩:=z23 tok rfl h1
  obtain⟨n2,rfl,b2⟩:=z23 tok rfl h2
  obtain⟨n3,rfl,b3⟩:=z23 tok rfl h3
  obtain⟨n4,rfl,b4⟩:=z23 tok rfl h4
  obtain⟨n5,rfl,b5⟩:=z23 tok rfl h5
  exact⟨⟨n0,n1,n2,n3,n4,n5⟩,rfl,⟨bounds_i64 b0,bounds_i64 b1,bounds_i64 b2,bounds_i64 b3,bounds_i64 b4,bounds_i64 b5⟩⟩
theorem rd_23{v:Value}{d:DataW H}{p:List MemPlace}{r:Reach}{b:Nat}(hv:Value.okWide Tryz.prog w r b 23 v)(h:DataW.Trod enc Tryz.prog w base spare held 23 v d p): ∃a:Geo,v=a.val∧Geo.Ok a:=by
 obtain⟨cs,rfl,_⟩:=okWide_struct Tryz.underlying23 hv
 obtain⟨fuel,hf⟩:=h
 obtain⟨a,ha,hg⟩:=zre hf
 refine⟨a, ?_,hg⟩
 have:cs=a.cells.toArray:=by apply Array.ext';exact ha.symm
 rw[this]
theorem rd_28{v:Value}{d:DataW H}{p:List MemPlace}{r:Reach}{b:Nat}(hv:Value.okWide Tryz.prog w r b 28 v)(h:DataW.Trod enc Tryz.prog w base spare held 28 v d p): ∃a:Device,v=a.val∧Device.Ok (vw w) a:=by
 obtain⟨cs,rfl,_⟩:=okWide_struct Tryz.underlying28 hv
 obtain⟨fuel,hf⟩:=h
 obtain⟨a,ha,hg⟩:=zk3 hf
 refine⟨a, ?_,hg⟩
 have:cs=a.cells.toArray:=by apply Array.ext';exact ha.symm
 rw[this]
theorem rd_29{v:Value}{d:DataW H}{p:List MemPlace}{r:Reach}{b:Nat}(hv:Value.okWide Tryz.prog w r b 29 v)(h:DataW.Trod enc Tryz.prog w base spare held 29 v d p): ∃l:List Sight,SlOf (vw w) Sight.cells 3 v l∧l.length≤maxLen∧ ∀a∈l,Sight.Ok a:=by
 obtain⟨a,n,c,rfl⟩:=okWide_slice Tryz.underlying29 hv
 exact z4h (enc':=Sight.cells) (Good:=fun a=>Sight.Ok a) tok rfl rfl rfl (fun _=>rfl) (fun _ _ _ hx=>zlu hx) (zil h rfl)
theorem rd_30{v:Value}{d:DataW H}{p:List MemPlace}{r:Reach}{b:Nat}(hv:Value.okWide Tryz.prog w r b 30 v)(h:DataW.Trod enc Tryz.prog w base spare held 30 v d p): ∃l:List View,SlOf (vw w) View.cells 6 v l∧l.length≤maxLen∧ ∀a∈l,View.Ok a:=by
 obtain⟨a,n,c,rfl⟩:=okWide_slice Tryz.underlying30 hv
 exact z4h (enc':=View.cells) (Good:=fun a=>View.Ok a) tok rfl rfl rfl (fun _=>rfl) (fun _ _ _ hx=>zov hx) (zil h rfl)
end
end Go.Proofs.YtkoiogkdiifgfaaGreat
