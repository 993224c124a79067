/- The things themselves, and their bytes: plain data. -/
import Derived.Test.YtddpmpbngcbokaaGreatDoorSpec
namespace Go.Proofs.YtddpmpbngcbokaaGreatDoor
set_option maxRecDepth 100000


abbrev Dig := Nat → UInt8
def digB (d : Dig) : List UInt8 := (List.range 32).map d
def eBool (b : Bool) : List UInt8 := if b then [1] else [0]
def eInts (l : List Int) : List UInt8 := join (l.map be8)

structure DSig where
  index : Int
  tag : Dig
def eSig (x : DSig) : List UInt8 := join [be8 x.index, digB x.tag]

structure DHeader where
  chain : Int
  epoch : Int
  height : Int
  view : Int
  parent : Dig
  txs : Dig
  root : Dig
  proposer : Int
def eHeader (x : DHeader) : List UInt8 := join [be8 x.chain, be8 x.epoch, be8 x.height, be8 x.view, digB x.parent, digB x.txs, digB x.root, be8 x.proposer]

structure DQC where
  chain : Int
  epoch : Int
  view : Int
  block : Dig
  signers : List Int
  sigs : List DSig
def eQC (x : DQC) : List UInt8 := join [be8 x.chain, be8 x.epoch, be8 x.view, digB x.block, eInts x.signers, join (x.sigs.map eSig)]

structure DCommit where
  path : List DHeader
  qc : DQC
def eCommit (x : DCommit) : List UInt8 := join [join (x.path.map eHeader), eQC x.qc]

structure DFact where
  commit : DCommit
  key : Dig
  value : List UInt8
  absent : Bool
  proof : List UInt8
def eFact (x : DFact) : List UInt8 := join [eCommit x.commit, digB x.key, x.value, eBool x.absent, x.proof]

structure DRecord where
  epoch : Int
  members : List Int
  seats : List (List Int)
def eRecord (x : DRecord) : List UInt8 := join [be8 x.epoch, eInts x.members, join (x.seats.map eInts)]

structure DTx where
  kind : Int
  frm : Int
  to_ : Int
  amount : Int
  nonce : Int
  dst : Int
  deadline : Int
  id_ : Dig
  member : Int
  facts : List DFact
def eTx (x : DTx) : List UInt8 := join [be8 x.kind, be8 x.frm, be8 x.to_, be8 x.amount, be8 x.nonce, be8 x.dst, be8 x.deadline, digB x.id_, be8 x.member, join (x.facts.map eFact)]

structure DBlock where
  header : DHeader
  justify : DQC
  handover : List DCommit
  txs : List DTx
  sig : DSig
def eBlock (x : DBlock) : List UInt8 := join [eHeader x.header, eQC x.justify, join (x.handover.map eCommit), join (x.txs.map eTx), eSig x.sig]

structure DVote where
  chain : Int
  epoch : Int
  view : Int
  block : Dig
  signer : Int
  sig : DSig
def eVote (x : DVote) : List UInt8 := join [be8 x.chain, be8 x.epoch, be8 x.view, digB x.block, be8 x.signer, eSig x.sig]

structure DTimeout where
  chain : Int
  epoch : Int
  view : Int
  high : DQC
  signer : Int
  sig : DSig
def eTimeout (x : DTimeout) : List UInt8 := join [be8 x.chain, be8 x.epoch, be8 x.view, eQC x.high, be8 x.signer, eSig x.sig]

structure DMessage where
  kind : Int
  chain : Int
  height : Int
  digest : Dig
  blocks : List DBlock
  votes : List DVote
  timeouts : List DTimeout
  commits : List DCommit
  txs : List DTx
def eMessage (x : DMessage) : List UInt8 := join [be8 x.kind, be8 x.chain, be8 x.height, digB x.digest, join (x.blocks.map eBlock), join (x.votes.map eVote), join (x.timeouts.map eTimeout), join (x.commits.map eCommit), join (x.txs.map eTx)]

end Go.Proofs.YtddpmpbngcbokaaGreatDoor
