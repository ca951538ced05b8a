import Derived.Test.YtlkkohkilelamaaGreatJf
/- A part of the proof of SurveySlots. -/
set_option linter.unusedVariables false
set_option linter.unusedSimpArgs false
set_option maxRecDepth 100000
namespace Go.Proofs.YtlkkohkilelamaaGreat
open Go Go.Eng Go.RowKit Go.ChangeShapes Go.WideShapes Go.ChangeAt
def eg:Nat:=4398046511104
def cK(n:Int):Prop:= -9223372036854775808<=n/\n<=9223372036854775807
def R8(n:Int):Prop:= -128<=n/\n<=127
abbrev S(s:Z5):Z7:=.string s
abbrev da(s:Z5):Z8 Z7:=[.string s]
abbrev cB(n:Int):Z8 Z7:=[I n]
structure Sl(α:Type) where
 v:Value
 l:List α
abbrev Sl.enc{α:Type}(s:Sl α):Z8 Z7:=[s.v]
structure SlGood{α:Type}(V:Vw)(enc:α->List Value)(sz:Nat)(Good:α->Prop)(s:Sl α):Prop where
 sl:SlOf V enc sz s.v s.l
 max:s.l.length<=maxLen
 all:∀a∈s.l,Good a
structure Record where
 key:Int
 lsn:Int
 block:Int
 k:Int
 text:ByteArray
 count:Int
abbrev Record.cells(a:Record):Z8 Z7:=[I a.key,I a.lsn,I a.block,I a.k,.string a.text,I a.count]
abbrev Record.val(a:Record):Z7:=.agg #[I a.key,I a.lsn,I a.block,I a.k,.string a.text,I a.count]
structure Record.Ok(a:Record):Prop where
 key:cK a.key
 lsn:cK a.lsn
 block:cK a.block
 k:cK a.k
 text:a.text.size<=maxLen
 count:cK a.count
structure Block where
 n:Int
 text:ByteArray
abbrev Block.cells(a:Block):Z8 Z7:=[I a.n,.string a.text]
abbrev Block.val(a:Block):Z7:=.agg #[I a.n,.string a.text]
structure Block.Ok(a:Block):Prop where
 n:cK a.n
 text:a.text.size<=maxLen
structure Cell where
 sector:Int
 b:ByteArray
abbrev Cell.cells(a:Cell):Z8 Z7:=[I a.sector,.string a.b]
abbrev Cell.val(a:Cell):Z7:=.agg #[I a.sector,.string a.b]
structure Cell.Ok(a:Cell):Prop where
 sector:cK a.sector
 b:a.b.size<=maxLen
structure Slot where
 key:Int
 claim:Int
abbrev Slot.cells(a:Slot):Z8 Z7:=[I a.key,I a.claim]
abbrev Slot.val(a:Slot):Z7:=.agg #[I a.key,I a.claim]
structure Slot.Ok(a:Slot):Prop where
 key:cK a.key
 claim:cK a.claim
structure Hold where
 key:Int
 lo:Int
 hi:Int
 mode:Int
abbrev Hold.cells(a:Hold):Z8 Z7:=[I a.key,I a.lo,I a.hi,I8 a.mode]
abbrev Hold.val(a:Hold):Z7:=.agg #[I a.key,I a.lo,I a.hi,I8 a.mode]
structure Hold.Ok(a:Hold):Prop where
 key:cK a.key
 lo:cK a.lo
 hi:cK a.hi
 mode:R8 a.mode
structure Table where
 slots:Sl Slot
 holds:Sl Hold
 queue:Sl Hold
abbrev Table.cells(a:Table):Z8 Z7:=[a.slots.v,a.holds.v,a.queue.v]
abbrev Table.val(a:Table):Z7:=.agg #[a.slots.v,a.holds.v,a.queue.v]
structure Table.Ok(V:Vw)(a:Table):Prop where
 slots:SlGood V Slot.cells 2 (λa=>Slot.Ok a) a.slots
 holds:SlGood V Hold.cells 4 (λa=>Hold.Ok a) a.holds
 queue:SlGood V Hold.cells 4 (λa=>Hold.Ok a) a.queue
structure Cmd where
 kind:Int
 by_:Int
 serial:Int
 dead:Int
 was:Int
 lo:Int
 hi:Int
 mode:Int
abbrev Cmd.cells(a:Cmd):Z8 Z7:=[I8 a.kind,I a.by_,I a.serial,I a.dead,I a.was,I a.lo,I a.hi,I8 a.mode]
abbrev Cmd.val(a:Cmd):Z7:=.agg #[I8 a.kind,I a.by_,I a.serial,I a.dead,I a.was,I a.lo,I a.hi,I8 a.mode]
structure Cmd.Ok(a:Cmd):Prop where
 kind:R8 a.kind
 by_:cK a.by_
 serial:cK a.serial
 dead:cK a.dead
 was:cK a.was
 lo:cK a.lo
 hi:cK a.hi
 mode:R8 a.mode
structure Span where
 lo:Int
 hi:Int
abbrev Span.cells(a:Span):Z8 Z7:=[I a.lo,I a.hi]
abbrev Span.val(a:Span):Z7:=.agg #[I a.lo,I a.hi]
structure Span.Ok(a:Span):Prop where
 lo:cK a.lo
 hi:cK a.hi
structure Fetching where
 block:Int
 k:Int
 parts:Sl ByteArray
abbrev Fetching.cells(a:Fetching):Z8 Z7:=[I a.block,I a.k,a.parts.v]
abbrev Fetching.val(a:Fetching):Z7:=.agg #[I a.block,I a.k,a.parts.v]
structure Fetching.Ok(V:Vw)(a:Fetching):Prop where
 block:cK a.block
 k:cK a.k
 parts:SlGood V da 1 (λa=>a.size<=maxLen) a.parts
structure Device where
 s:Sl ByteArray
 cache:Sl (Sl Cell)
 keys:Sl Int
 next_:Int
 fenced:Sl Int
abbrev Device.cells(a:Device):Z8 Z7:=[a.s.v,a.cache.v,a.keys.v,I a.next_,a.fenced.v]
abbrev Device.val(a:Device):Z7:=.agg #[a.s.v,a.cache.v,a.keys.v,I a.next_,a.fenced.v]
structure Device.Ok(V:Vw)(a:Device):Prop where
 s:SlGood V da 1 (λa=>a.size<=maxLen) a.s
 cache:SlGood V Sl.enc 1 (λa=>SlGood V Cell.cells 2 (λa=>Cell.Ok a) a) a.cache
 keys:SlGood V cB 1 (λa=>cK a) a.keys
 next_:cK a.next_
 fenced:SlGood V cB 1 (λa=>cK a) a.fenced
structure View where
 key:Int
 claim:Int
 tail:Int
 records:Int
 whole:Int
 txns:Int
abbrev View.cells(a:View):Z8 Z7:=[I a.key,I a.claim,I a.tail,I a.records,I a.whole,I a.txns]
abbrev View.val(a:View):Z7:=.agg #[I a.key,I a.claim,I a.tail,I a.records,I a.whole,I a.txns]
structure View.Ok(a:View):Prop where
 key:cK a.key
 claim:cK a.claim
 tail:cK a.tail
 records:cK a.records
 whole:cK a.whole
 txns:cK a.txns
structure Sight where
 now:ByteArray
 then_:ByteArray
 by_:Int
abbrev Sight.cells(a:Sight):Z8 Z7:=[.string a.now,.string a.then_,I a.by_]
abbrev Sight.val(a:Sight):Z7:=.agg #[.string a.now,.string a.then_,I a.by_]
structure Sight.Ok(a:Sight):Prop where
 now:a.now.size<=maxLen
 then_:a.then_.size<=maxLen
 by_:cK a.by_
structure Act where
 kind:Int
 sector:Int
 b:ByteArray
 key:Int
abbrev Act.cells(a:Act):Z8 Z7:=[I8 a.kind,I a.sector,.string a.b,I a.key]
abbrev Act.val(a:Act):Z7:=.agg #[I8 a.kind,I a.sector,.string a.b,I a.key]
structure Act.Ok(a:Act):Prop where
 kind:R8 a.kind
 sector:cK a.sector
 b:a.b.size<=maxLen
 key:cK a.key
structure Watch where
 key:Int
 count:Int
 since:Int
 looked:Bool
abbrev Watch.cells(a:Watch):Z8 Z7:=[I a.key,I a.count,I a.since,.bool a.looked]
abbrev Watch.val(a:Watch):Z7:=.agg #[I a.key,I a.count,I a.since,.bool a.looked]
structure Watch.Ok(a:Watch):Prop where
 key:cK a.key
 count:cK a.count
 since:cK a.since
 looked:True
structure Turn where
 kind:Int
 node:Int
 kept:Int
 opKind:Int
 lo:Int
 hi:Int
 mode:Int
 block:Int
 text:ByteArray
 opNode:Int
 key:Int
abbrev Turn.cells(a:Turn):Z8 Z7:=[I8 a.kind,I a.node,.int .u64 a.kept,I8 a.opKind,I a.lo,I a.hi,I8 a.mode,I a.block,.string a.text,I a.opNode,I a.key]
abbrev Turn.val(a:Turn):Z7:=.agg #[I8 a.kind,I a.node,.int .u64 a.kept,I8 a.opKind,I a.lo,I a.hi,I8 a.mode,I a.block,.string a.text,I a.opNode,I a.key]
structure Turn.Ok(a:Turn):Prop where
 kind:R8 a.kind
 node:cK a.node
 kept:0<=a.kept/\a.kept<=18446744073709551615
 opKind:R8 a.opKind
 lo:cK a.lo
 hi:cK a.hi
 mode:R8 a.mode
 block:cK a.block
 text:a.text.size<=maxLen
 opNode:cK a.opNode
 key:cK a.key
structure Op where
 kind:Int
 lo:Int
 hi:Int
 mode:Int
 block:Int
 text:ByteArray
 node:Int
 key:Int
abbrev Op.cells(a:Op):Z8 Z7:=[I8 a.kind,I a.lo,I a.hi,I8 a.mode,I a.block,.string a.text,I a.node,I a.key]
abbrev Op.val(a:Op):Z7:=.agg #[I8 a.kind,I a.lo,I a.hi,I8 a.mode,I a.block,.string a.text,I a.node,I a.key]
structure Op.Ok(a:Op):Prop where
 kind:R8 a.kind
 lo:cK a.lo
 hi:cK a.hi
 mode:R8 a.mode
 block:cK a.block
 text:a.text.size<=maxLen
 node:cK a.node
 key:cK a.key
structure Event where
 node:Int
 key:Int
 kind:Int
 lo:Int
 hi:Int
 mode:Int
 block:Int
 opText:ByteArray
 opNode:Int
 opKey:Int
 ends : Bool
 e:Int
 aText:ByteArray
 yes:Bool
abbrev Event.cells(a:Event):Z8 Z7:=[I a.node,I a.key,I8 a.kind,I a.lo,I a.hi,I8 a.mode,I a.block,.string a.opText,I a.opNode,I a.opKey,.bool a.ends,I a.e,.string a.aText,.bool a.yes]
abbrev Event.val(a:Event):Z7:=.agg #[I a.node,I a.key,I8 a.kind,I a.lo,I a.hi,I8 a.mode,I a.block,.string a.opText,I a.opNode,I a.opKey,.bool a.ends,I a.e,.string a.aText,.bool a.yes]
structure Event.Ok(a:Event):Prop where
 node:cK a.node
 key:cK a.key
 kind:R8 a.kind
 lo:cK a.lo
 hi:cK a.hi
 mode:R8 a.mode
 block:cK a.block
 opText:a.opText.size<=maxLen
 opNode:cK a.opNode
 opKey:cK a.opKey
 ends : True
 e:cK a.e
 aText:a.aText.size<=maxLen
 yes:True
structure Geo where
 nodes:Int
 slots:Int
 blocks:Int
 per:Int
 journal:Int
 log:Int
 lease:Int
 wait:Int
abbrev Geo.cells(a:Geo):Z8 Z7:=[I a.nodes,I a.slots,I a.blocks,I a.per,I a.journal,I a.log,I a.lease,I a.wait]
abbrev Geo.val(a:Geo):Z7:=.agg #[I a.nodes,I a.slots,I a.blocks,I a.per,I a.journal,I a.log,I a.lease,I a.wait]
structure Geo.Ok(a:Geo):Prop where
 nodes:cK a.nodes
 slots:cK a.slots
 blocks:cK a.blocks
 per:cK a.per
 journal:cK a.journal
 log:cK a.log
 lease:cK a.lease
 wait:cK a.wait
theorem own:ownKnob Tryz.prog.godebug=none:=by kernel_rfl
theorem laidOut:laidOutB Tryz.prog=true:=by kernel_rfl
section
variable{H:Type}{enc:TypeId×Z7->H}{w:Z6}{base:Nat}{spare:Nat->Bool}{held:Bool}
theorem VT{cs:Z8 Z7}{fuel:Nat}{x:DataW H×Z8 MemPlace}(h:DataW.trod enc Tryz.prog w base spare held fuel 23 cs=some x):∃a:Geo,Geo.cells a=cs/\Geo.Ok a:=by
 have h2:=Bt aJ 8 23 _ J h
 match cs,h2 with
 |[c0,c1,c2,c3,c4,c5,c6,c7],⟨h0,h1,h2,h3,h4,h5,h6,h7,_⟩=>obtain⟨n0,rfl,b0⟩:=jD aJ J h0;obtain⟨n1,rfl,b1⟩:=jD aJ J h1;obtain⟨n2,rfl,b2⟩:=jD aJ J h2;obtain⟨n3,rfl,b3⟩:=jD aJ J h3;obtain⟨n4,rfl,b4⟩:=jD aJ J h4;obtain⟨n5,rfl,b5⟩:=jD aJ J h5;obtain⟨n6,rfl,b6⟩:=jD aJ J h6;obtain⟨n7,rfl,b7⟩:=jD aJ J h7;exact⟨⟨n0,n1,n2,n3,n4,n5,n6,n7⟩,J,⟨bounds_i64 b0,bounds_i64 b1,bounds_i64 b2,bounds_i64 b3,bounds_i64 b4,bounds_i64 b5,bounds_i64 b6,bounds_i64 b7⟩⟩
theorem Np{cs:Z8 Z7}{fuel:Nat}{x:DataW H×Z8 MemPlace}(h:DataW.trod enc Tryz.prog w base spare held fuel 106 cs=some x):∃a:Turn,Turn.cells a=cs/\Turn.Ok a:=by
 have h2:=Bt aJ 8 106 _ J h
 match cs,h2 with
 |[c0,c1,c2,c3,c4,c5,c6,c7,c8,c9,c10],⟨h0,h1,h2,h3,h4,h5,h6,h7,h8,h9,h10,_⟩=>obtain⟨n0,rfl,b0⟩:=jD aJ J h0;obtain⟨n1,rfl,b1⟩:=jD aJ J h1;obtain⟨n2,rfl,b2⟩:=jD aJ J h2;obtain⟨n3,rfl,b3⟩:=jD aJ J h3;obtain⟨n4,rfl,b4⟩:=jD aJ J h4;obtain⟨n5,rfl,b5⟩:=jD aJ J h5;obtain⟨n6,rfl,b6⟩:=jD aJ J h6;obtain⟨n7,rfl,b7⟩:=jD aJ J h7;obtain⟨n8,rfl,b8⟩:=UB aJ J h8;obtain⟨n9,rfl,b9⟩:=jD aJ J h9;obtain⟨n10,rfl,b10⟩:=jD aJ J h10;exact⟨⟨n0,n1,n2,n3,n4,n5,n6,n7,n8,n9,n10⟩,J,⟨bounds_i8 b0,bounds_i64 b1,bounds_u64 b2,bounds_i8 b3,bounds_i64 b4,bounds_i64 b5,bounds_i8 b6,bounds_i64 b7,b8,bounds_i64 b9,bounds_i64 b10⟩⟩
theorem rd_23{v:Z7}{d:DataW H}{p:Z8 MemPlace}{r:Reach}{b:Nat}(hv:Value.okWide Tryz.prog w r b 23 v)(h:DataW.Trod enc Tryz.prog w base spare held 23 v d p):∃a:Geo,v=a.val/\Geo.Ok a:=by obtain⟨cs,rfl,_⟩:=okWide_struct Tryz.underlying23 hv;obtain⟨fuel,hf⟩:=h;obtain⟨a,ha,hg⟩:=VT hf;refine⟨a,?_,hg⟩;(have:cs=a.cells.toArray:=by apply YN;exact ha.symm);rw[this]
theorem rd_24{v:Z7}{d:DataW H}{p:Z8 MemPlace}{r:Reach}{b:Nat}(hv:Value.okWide Tryz.prog w r b 24 v)(h:DataW.Trod enc Tryz.prog w base spare held 24 v d p):∃l:Z8 Turn,SlOf (vw w) Turn.cells 11 v l/\l.length<=maxLen/\ ∀a∈l,Turn.Ok a:=by obtain⟨a,n,c,rfl⟩:=okWide_slice Tryz.underlying24 hv;exact MQ (enc':=Turn.cells) (Good:=λa=>Turn.Ok a) aJ J J J (λ_=>rfl) (λ_ _ _ hx=>Np hx) (TE h J)
