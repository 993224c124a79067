/- How the things lie in memory. -/
import Derived.Test.YtddpmpbngcbokaaGreatDoorLists
import Derived.Test.YtddpmpbngcbokaaGreatDoorData
namespace Go.Proofs.YtddpmpbngcbokaaGreatDoor
open Go Go.RowKit
set_option maxRecDepth 100000


def digC (d : Dig) : List Value := (List.range 32).map fun i => bc (d i)
theorem digC_eq (d : Dig) : digC d = bcs (digB d) := by simp [digC, digB, bcs]
theorem digB_length (d : Dig) : (digB d).length = 32 := by simp [digB]
abbrev I64 (n : Int) : Prop := -9223372036854775808 ≤ n ∧ n ≤ 9223372036854775807
abbrev U64 (n : Int) : Prop := 0 ≤ n ∧ n ≤ 18446744073709551615
def cInt (_H : Heap) (cs : List Value) (n : Int) : Prop := cs = [.int .i64 n] ∧ I64 n
def RInts (H : Heap) (v : Value) (l : List Int) : Prop := RL 1 cInt H v l
theorem RInts.mono {H H' : Heap} {v : Value} {l : List Int} (h : RInts H v l) (hl : Hle H H') : RInts H' v l := RL.mono (R := cInt) (fun _ h => h) h hl
def cInts (H : Heap) (cs : List Value) (l : List Int) : Prop := ∃ v, cs = [v] ∧ RInts H v l
def RLL (H : Heap) (v : Value) (l : List (List Int)) : Prop := RL 1 cInts H v l
theorem RLL.mono {H H' : Heap} {v : Value} {l : List (List Int)} (h : RLL H v l) (hl : Hle H H') : RLL H' v l := RL.mono (R := cInts) (fun hle h => by obtain ⟨v, e, r⟩ := h; exact ⟨v, e, r.mono hle⟩) h hl
theorem RS.one {H : Heap} {v : Value} {n : Nat} {cells : List Value} (h : RS H v n cells) : v.oneCell' = true := by obtain ⟨ao, cap, rfl⟩ := h.form; rfl
theorem RL.form {α : Type} {s : Nat} {R : Heap → List Value → α → Prop} {H : Heap} {v : Value} {xs : List α} (h : RL s R H v xs) : ∃ ao cap, v = .slice ao xs.length cap := by obtain ⟨css, _, _, r⟩ := h; exact r.form
theorem RL.one {α : Type} {s : Nat} {R : Heap → List Value → α → Prop} {H : Heap} {v : Value} {xs : List α} (h : RL s R H v xs) : v.oneCell' = true := by obtain ⟨ao, cap, rfl⟩ := h.form; rfl
theorem digC_one (d : Dig) : ∀ u ∈ digC d, u.oneCell' = true := by rw [digC_eq]; exact bcs_one _
theorem mem_app {P : Value → Prop} {a b : List Value} (ha : ∀ u ∈ a, P u) (hb : ∀ u ∈ b, P u) : ∀ u ∈ a ++ b, P u := fun u hu => (List.mem_append.1 hu).elim (ha u) (hb u)
theorem one_of {v : Value} (h : v.oneCell' = true) : ∀ u ∈ [v], u.oneCell' = true := by intro u hu; simp at hu; subst hu; exact h

structure VSig where
  index : Int
  tag : Dig
def VSig.cells (v : VSig) : List Value := [.int .i64 v.index] ++ (digC v.tag)
def VSig.ok (v : VSig) : Prop := True
theorem VSig.one {v : VSig} (h : v.ok) : ∀ u ∈ v.cells, u.oneCell' = true := mem_app (one_of rfl) (digC_one _)
structure RSig (H : Heap) (v : VSig) (x : DSig) : Prop where
  index : v.index = x.index ∧ I64 x.index
  tag : v.tag = x.tag
theorem RSig.mono {H H' : Heap} {v : VSig} {x : DSig} (h : RSig H v x) (hl : Hle H H') : RSig H' v x := ⟨h.index, h.tag⟩
theorem RSig.ok {H : Heap} {v : VSig} {x : DSig} (h : RSig H v x) : v.ok := trivial
def cSig (H : Heap) (cs : List Value) (x : DSig) : Prop := ∃ v : VSig, cs = v.cells ∧ RSig H v x
theorem cSig.mono {H H' : Heap} {cs : List Value} {x : DSig} (hl : Hle H H') (h : cSig H cs x) : cSig H' cs x := by obtain ⟨v, e, r⟩ := h; exact ⟨v, e, r.mono hl⟩
theorem VSig.length (v : VSig) : v.cells.length = 33 := rfl

structure VHeader where
  chain : Int
  epoch : Int
  height : Int
  view : Int
  parent : Dig
  txs : Dig
  root : Dig
  proposer : Int
def VHeader.cells (v : VHeader) : List Value := [.int .i64 v.chain] ++ ([.int .i64 v.epoch] ++ ([.int .i64 v.height] ++ ([.int .i64 v.view] ++ (digC v.parent ++ (digC v.txs ++ (digC v.root ++ ([.int .i64 v.proposer])))))))
def VHeader.ok (v : VHeader) : Prop := True
theorem VHeader.one {v : VHeader} (h : v.ok) : ∀ u ∈ v.cells, u.oneCell' = true := mem_app (one_of rfl) (mem_app (one_of rfl) (mem_app (one_of rfl) (mem_app (one_of rfl) (mem_app (digC_one _) (mem_app (digC_one _) (mem_app (digC_one _) (one_of rfl)))))))
structure RHeader (H : Heap) (v : VHeader) (x : DHeader) : Prop where
  chain : v.chain = x.chain ∧ I64 x.chain
  epoch : v.epoch = x.epoch ∧ I64 x.epoch
  height : v.height = x.height ∧ I64 x.height
  view : v.view = x.view ∧ I64 x.view
  parent : v.parent = x.parent
  txs : v.txs = x.txs
  root : v.root = x.root
  proposer : v.proposer = x.proposer ∧ I64 x.proposer
theorem RHeader.mono {H H' : Heap} {v : VHeader} {x : DHeader} (h : RHeader H v x) (hl : Hle H H') : RHeader H' v x := ⟨h.chain, h.epoch, h.height, h.view, h.parent, h.txs, h.root, h.proposer⟩
theorem RHeader.ok {H : Heap} {v : VHeader} {x : DHeader} (h : RHeader H v x) : v.ok := trivial
def cHeader (H : Heap) (cs : List Value) (x : DHeader) : Prop := ∃ v : VHeader, cs = v.cells ∧ RHeader H v x
theorem cHeader.mono {H H' : Heap} {cs : List Value} {x : DHeader} (hl : Hle H H') (h : cHeader H cs x) : cHeader H' cs x := by obtain ⟨v, e, r⟩ := h; exact ⟨v, e, r.mono hl⟩
theorem VHeader.length (v : VHeader) : v.cells.length = 101 := rfl

structure VQC where
  chain : Int
  epoch : Int
  view : Int
  block : Dig
  signers : Value
  sigs : Value
def VQC.cells (v : VQC) : List Value := [.int .i64 v.chain] ++ ([.int .i64 v.epoch] ++ ([.int .i64 v.view] ++ (digC v.block ++ ([v.signers] ++ ([v.sigs])))))
def VQC.ok (v : VQC) : Prop := v.signers.oneCell' = true ∧ v.sigs.oneCell' = true
theorem VQC.one {v : VQC} (h : v.ok) : ∀ u ∈ v.cells, u.oneCell' = true := mem_app (one_of rfl) (mem_app (one_of rfl) (mem_app (one_of rfl) (mem_app (digC_one _) (mem_app (one_of h.1) (one_of h.2)))))
structure RQC (H : Heap) (v : VQC) (x : DQC) : Prop where
  chain : v.chain = x.chain ∧ I64 x.chain
  epoch : v.epoch = x.epoch ∧ I64 x.epoch
  view : v.view = x.view ∧ I64 x.view
  block : v.block = x.block
  signers : RInts H v.signers x.signers
  sigs : RL 33 cSig H v.sigs x.sigs
theorem RQC.mono {H H' : Heap} {v : VQC} {x : DQC} (h : RQC H v x) (hl : Hle H H') : RQC H' v x := ⟨h.chain, h.epoch, h.view, h.block, h.signers.mono hl, RL.mono (R := cSig) cSig.mono h.sigs hl⟩
theorem RQC.ok {H : Heap} {v : VQC} {x : DQC} (h : RQC H v x) : v.ok := ⟨h.signers.one, h.sigs.one⟩
def cQC (H : Heap) (cs : List Value) (x : DQC) : Prop := ∃ v : VQC, cs = v.cells ∧ RQC H v x
theorem cQC.mono {H H' : Heap} {cs : List Value} {x : DQC} (hl : Hle H H') (h : cQC H cs x) : cQC H' cs x := by obtain ⟨v, e, r⟩ := h; exact ⟨v, e, r.mono hl⟩
theorem VQC.length (v : VQC) : v.cells.length = 37 := rfl

structure VCommit where
  path : Value
  qc : VQC
def VCommit.cells (v : VCommit) : List Value := [v.path] ++ (v.qc.cells)
def VCommit.ok (v : VCommit) : Prop := v.path.oneCell' = true ∧ v.qc.ok
theorem VCommit.one {v : VCommit} (h : v.ok) : ∀ u ∈ v.cells, u.oneCell' = true := mem_app (one_of h.1) (VQC.one h.2)
structure RCommit (H : Heap) (v : VCommit) (x : DCommit) : Prop where
  path : RL 101 cHeader H v.path x.path
  qc : RQC H v.qc x.qc
theorem RCommit.mono {H H' : Heap} {v : VCommit} {x : DCommit} (h : RCommit H v x) (hl : Hle H H') : RCommit H' v x := ⟨RL.mono (R := cHeader) cHeader.mono h.path hl, h.qc.mono hl⟩
theorem RCommit.ok {H : Heap} {v : VCommit} {x : DCommit} (h : RCommit H v x) : v.ok := ⟨h.path.one, h.qc.ok⟩
def cCommit (H : Heap) (cs : List Value) (x : DCommit) : Prop := ∃ v : VCommit, cs = v.cells ∧ RCommit H v x
theorem cCommit.mono {H H' : Heap} {cs : List Value} {x : DCommit} (hl : Hle H H') (h : cCommit H cs x) : cCommit H' cs x := by obtain ⟨v, e, r⟩ := h; exact ⟨v, e, r.mono hl⟩
theorem VCommit.length (v : VCommit) : v.cells.length = 38 := rfl

structure VFact where
  commit : VCommit
  key : Dig
  value : Value
  absent : Bool
  proof : Value
def VFact.cells (v : VFact) : List Value := v.commit.cells ++ (digC v.key ++ ([v.value] ++ ([.bool v.absent] ++ ([v.proof]))))
def VFact.ok (v : VFact) : Prop := v.commit.ok ∧ v.value.oneCell' = true ∧ v.proof.oneCell' = true
theorem VFact.one {v : VFact} (h : v.ok) : ∀ u ∈ v.cells, u.oneCell' = true := mem_app (VCommit.one h.1) (mem_app (digC_one _) (mem_app (one_of h.2.1) (mem_app (one_of rfl) (one_of h.2.2))))
structure RFact (H : Heap) (v : VFact) (x : DFact) : Prop where
  commit : RCommit H v.commit x.commit
  key : v.key = x.key
  value : RB H v.value x.value
  absent : v.absent = x.absent
  proof : RB H v.proof x.proof
theorem RFact.mono {H H' : Heap} {v : VFact} {x : DFact} (h : RFact H v x) (hl : Hle H H') : RFact H' v x := ⟨h.commit.mono hl, h.key, h.value.mono hl, h.absent, h.proof.mono hl⟩
theorem RFact.ok {H : Heap} {v : VFact} {x : DFact} (h : RFact H v x) : v.ok := ⟨h.commit.ok, h.value.one, h.proof.one⟩
def cFact (H : Heap) (cs : List Value) (x : DFact) : Prop := ∃ v : VFact, cs = v.cells ∧ RFact H v x
theorem cFact.mono {H H' : Heap} {cs : List Value} {x : DFact} (hl : Hle H H') (h : cFact H cs x) : cFact H' cs x := by obtain ⟨v, e, r⟩ := h; exact ⟨v, e, r.mono hl⟩
theorem VFact.length (v : VFact) : v.cells.length = 73 := rfl

structure VRecord where
  epoch : Int
  members : Value
  seats : Value
def VRecord.cells (v : VRecord) : List Value := [.int .i64 v.epoch] ++ ([v.members] ++ ([v.seats]))
def VRecord.ok (v : VRecord) : Prop := v.members.oneCell' = true ∧ v.seats.oneCell' = true
theorem VRecord.one {v : VRecord} (h : v.ok) : ∀ u ∈ v.cells, u.oneCell' = true := mem_app (one_of rfl) (mem_app (one_of h.1) (one_of h.2))
structure RRecord (H : Heap) (v : VRecord) (x : DRecord) : Prop where
  epoch : v.epoch = x.epoch ∧ I64 x.epoch
  members : RInts H v.members x.members
  seats : RLL H v.seats x.seats
theorem RRecord.mono {H H' : Heap} {v : VRecord} {x : DRecord} (h : RRecord H v x) (hl : Hle H H') : RRecord H' v x := ⟨h.epoch, h.members.mono hl, h.seats.mono hl⟩
theorem RRecord.ok {H : Heap} {v : VRecord} {x : DRecord} (h : RRecord H v x) : v.ok := ⟨h.members.one, h.seats.one⟩
def cRecord (H : Heap) (cs : List Value) (x : DRecord) : Prop := ∃ v : VRecord, cs = v.cells ∧ RRecord H v x
theorem cRecord.mono {H H' : Heap} {cs : List Value} {x : DRecord} (hl : Hle H H') (h : cRecord H cs x) : cRecord H' cs x := by obtain ⟨v, e, r⟩ := h; exact ⟨v, e, r.mono hl⟩
theorem VRecord.length (v : VRecord) : v.cells.length = 3 := rfl

structure VTx where
  kind : Int
  frm : Int
  to_ : Int
  amount : Int
  nonce : Int
  dst : Int
  deadline : Int
  id_ : Dig
  member : Int
  facts : Value
def VTx.cells (v : VTx) : List Value := [.int .i64 v.kind] ++ ([.int .u64 v.frm] ++ ([.int .u64 v.to_] ++ ([.int .u64 v.amount] ++ ([.int .u64 v.nonce] ++ ([.int .i64 v.dst] ++ ([.int .i64 v.deadline] ++ (digC v.id_ ++ ([.int .i64 v.member] ++ ([v.facts])))))))))
def VTx.ok (v : VTx) : Prop := v.facts.oneCell' = true
theorem VTx.one {v : VTx} (h : v.ok) : ∀ u ∈ v.cells, u.oneCell' = true := mem_app (one_of rfl) (mem_app (one_of rfl) (mem_app (one_of rfl) (mem_app (one_of rfl) (mem_app (one_of rfl) (mem_app (one_of rfl) (mem_app (one_of rfl) (mem_app (digC_one _) (mem_app (one_of rfl) (one_of h)))))))))
structure RTx (H : Heap) (v : VTx) (x : DTx) : Prop where
  kind : v.kind = x.kind ∧ I64 x.kind
  frm : v.frm = x.frm ∧ U64 x.frm
  to_ : v.to_ = x.to_ ∧ U64 x.to_
  amount : v.amount = x.amount ∧ U64 x.amount
  nonce : v.nonce = x.nonce ∧ U64 x.nonce
  dst : v.dst = x.dst ∧ I64 x.dst
  deadline : v.deadline = x.deadline ∧ I64 x.deadline
  id_ : v.id_ = x.id_
  member : v.member = x.member ∧ I64 x.member
  facts : RL 73 cFact H v.facts x.facts
theorem RTx.mono {H H' : Heap} {v : VTx} {x : DTx} (h : RTx H v x) (hl : Hle H H') : RTx H' v x := ⟨h.kind, h.frm, h.to_, h.amount, h.nonce, h.dst, h.deadline, h.id_, h.member, RL.mono (R := cFact) cFact.mono h.facts hl⟩
theorem RTx.ok {H : Heap} {v : VTx} {x : DTx} (h : RTx H v x) : v.ok := h.facts.one
def cTx (H : Heap) (cs : List Value) (x : DTx) : Prop := ∃ v : VTx, cs = v.cells ∧ RTx H v x
theorem cTx.mono {H H' : Heap} {cs : List Value} {x : DTx} (hl : Hle H H') (h : cTx H cs x) : cTx H' cs x := by obtain ⟨v, e, r⟩ := h; exact ⟨v, e, r.mono hl⟩
theorem VTx.length (v : VTx) : v.cells.length = 41 := rfl

structure VBlock where
  header : VHeader
  justify : VQC
  handover : Value
  txs : Value
  sig : VSig
def VBlock.cells (v : VBlock) : List Value := v.header.cells ++ (v.justify.cells ++ ([v.handover] ++ ([v.txs] ++ (v.sig.cells))))
def VBlock.ok (v : VBlock) : Prop := v.header.ok ∧ v.justify.ok ∧ v.handover.oneCell' = true ∧ v.txs.oneCell' = true ∧ v.sig.ok
theorem VBlock.one {v : VBlock} (h : v.ok) : ∀ u ∈ v.cells, u.oneCell' = true := mem_app (VHeader.one h.1) (mem_app (VQC.one h.2.1) (mem_app (one_of h.2.2.1) (mem_app (one_of h.2.2.2.1) (VSig.one h.2.2.2.2))))
structure RBlock (H : Heap) (v : VBlock) (x : DBlock) : Prop where
  header : RHeader H v.header x.header
  justify : RQC H v.justify x.justify
  handover : RL 38 cCommit H v.handover x.handover
  txs : RL 41 cTx H v.txs x.txs
  sig : RSig H v.sig x.sig
theorem RBlock.mono {H H' : Heap} {v : VBlock} {x : DBlock} (h : RBlock H v x) (hl : Hle H H') : RBlock H' v x := ⟨h.header.mono hl, h.justify.mono hl, RL.mono (R := cCommit) cCommit.mono h.handover hl, RL.mono (R := cTx) cTx.mono h.txs hl, h.sig.mono hl⟩
theorem RBlock.ok {H : Heap} {v : VBlock} {x : DBlock} (h : RBlock H v x) : v.ok := ⟨h.header.ok, h.justify.ok, h.handover.one, h.txs.one, h.sig.ok⟩
def cBlock (H : Heap) (cs : List Value) (x : DBlock) : Prop := ∃ v : VBlock, cs = v.cells ∧ RBlock H v x
theorem cBlock.mono {H H' : Heap} {cs : List Value} {x : DBlock} (hl : Hle H H') (h : cBlock H cs x) : cBlock H' cs x := by obtain ⟨v, e, r⟩ := h; exact ⟨v, e, r.mono hl⟩
theorem VBlock.length (v : VBlock) : v.cells.length = 173 := rfl

structure VVote where
  chain : Int
  epoch : Int
  view : Int
  block : Dig
  signer : Int
  sig : VSig
def VVote.cells (v : VVote) : List Value := [.int .i64 v.chain] ++ ([.int .i64 v.epoch] ++ ([.int .i64 v.view] ++ (digC v.block ++ ([.int .i64 v.signer] ++ (v.sig.cells)))))
def VVote.ok (v : VVote) : Prop := v.sig.ok
theorem VVote.one {v : VVote} (h : v.ok) : ∀ u ∈ v.cells, u.oneCell' = true := mem_app (one_of rfl) (mem_app (one_of rfl) (mem_app (one_of rfl) (mem_app (digC_one _) (mem_app (one_of rfl) (VSig.one h)))))
structure RVote (H : Heap) (v : VVote) (x : DVote) : Prop where
  chain : v.chain = x.chain ∧ I64 x.chain
  epoch : v.epoch = x.epoch ∧ I64 x.epoch
  view : v.view = x.view ∧ I64 x.view
  block : v.block = x.block
  signer : v.signer = x.signer ∧ I64 x.signer
  sig : RSig H v.sig x.sig
theorem RVote.mono {H H' : Heap} {v : VVote} {x : DVote} (h : RVote H v x) (hl : Hle H H') : RVote H' v x := ⟨h.chain, h.epoch, h.view, h.block, h.signer, h.sig.mono hl⟩
theorem RVote.ok {H : Heap} {v : VVote} {x : DVote} (h : RVote H v x) : v.ok := h.sig.ok
def cVote (H : Heap) (cs : List Value) (x : DVote) : Prop := ∃ v : VVote, cs = v.cells ∧ RVote H v x
theorem cVote.mono {H H' : Heap} {cs : List Value} {x : DVote} (hl : Hle H H') (h : cVote H cs x) : cVote H' cs x := by obtain ⟨v, e, r⟩ := h; exact ⟨v, e, r.mono hl⟩
theorem VVote.length (v : VVote) : v.cells.length = 69 := rfl

structure VTimeout where
  chain : Int
  epoch : Int
  view : Int
  high : VQC
  signer : Int
  sig : VSig
def VTimeout.cells (v : VTimeout) : List Value := [.int .i64 v.chain] ++ ([.int .i64 v.epoch] ++ ([.int .i64 v.view] ++ (v.high.cells ++ ([.int .i64 v.signer] ++ (v.sig.cells)))))
def VTimeout.ok (v : VTimeout) : Prop := v.high.ok ∧ v.sig.ok
theorem VTimeout.one {v : VTimeout} (h : v.ok) : ∀ u ∈ v.cells, u.oneCell' = true := mem_app (one_of rfl) (mem_app (one_of rfl) (mem_app (one_of rfl) (mem_app (VQC.one h.1) (mem_app (one_of rfl) (VSig.one h.2)))))
structure RTimeout (H : Heap) (v : VTimeout) (x : DTimeout) : Prop where
  chain : v.chain = x.chain ∧ I64 x.chain
  epoch : v.epoch = x.epoch ∧ I64 x.epoch
  view : v.view = x.view ∧ I64 x.view
  high : RQC H v.high x.high
  signer : v.signer = x.signer ∧ I64 x.signer
  sig : RSig H v.sig x.sig
theorem RTimeout.mono {H H' : Heap} {v : VTimeout} {x : DTimeout} (h : RTimeout H v x) (hl : Hle H H') : RTimeout H' v x := ⟨h.chain, h.epoch, h.view, h.high.mono hl, h.signer, h.sig.mono hl⟩
theorem RTimeout.ok {H : Heap} {v : VTimeout} {x : DTimeout} (h : RTimeout H v x) : v.ok := ⟨h.high.ok, h.sig.ok⟩
def cTimeout (H : Heap) (cs : List Value) (x : DTimeout) : Prop := ∃ v : VTimeout, cs = v.cells ∧ RTimeout H v x
theorem cTimeout.mono {H H' : Heap} {cs : List Value} {x : DTimeout} (hl : Hle H H') (h : cTimeout H cs x) : cTimeout H' cs x := by obtain ⟨v, e, r⟩ := h; exact ⟨v, e, r.mono hl⟩
theorem VTimeout.length (v : VTimeout) : v.cells.length = 74 := rfl

structure VMessage where
  kind : Int
  chain : Int
  height : Int
  digest : Dig
  blocks : Value
  votes : Value
  timeouts : Value
  commits : Value
  txs : Value
def VMessage.cells (v : VMessage) : List Value := [.int .i64 v.kind] ++ ([.int .i64 v.chain] ++ ([.int .i64 v.height] ++ (digC v.digest ++ ([v.blocks] ++ ([v.votes] ++ ([v.timeouts] ++ ([v.commits] ++ ([v.txs]))))))))
def VMessage.ok (v : VMessage) : Prop := v.blocks.oneCell' = true ∧ v.votes.oneCell' = true ∧ v.timeouts.oneCell' = true ∧ v.commits.oneCell' = true ∧ v.txs.oneCell' = true
theorem VMessage.one {v : VMessage} (h : v.ok) : ∀ u ∈ v.cells, u.oneCell' = true := mem_app (one_of rfl) (mem_app (one_of rfl) (mem_app (one_of rfl) (mem_app (digC_one _) (mem_app (one_of h.1) (mem_app (one_of h.2.1) (mem_app (one_of h.2.2.1) (mem_app (one_of h.2.2.2.1) (one_of h.2.2.2.2))))))))
structure RMessage (H : Heap) (v : VMessage) (x : DMessage) : Prop where
  kind : v.kind = x.kind ∧ I64 x.kind
  chain : v.chain = x.chain ∧ I64 x.chain
  height : v.height = x.height ∧ I64 x.height
  digest : v.digest = x.digest
  blocks : RL 173 cBlock H v.blocks x.blocks
  votes : RL 69 cVote H v.votes x.votes
  timeouts : RL 74 cTimeout H v.timeouts x.timeouts
  commits : RL 38 cCommit H v.commits x.commits
  txs : RL 41 cTx H v.txs x.txs
theorem RMessage.mono {H H' : Heap} {v : VMessage} {x : DMessage} (h : RMessage H v x) (hl : Hle H H') : RMessage H' v x := ⟨h.kind, h.chain, h.height, h.digest, RL.mono (R := cBlock) cBlock.mono h.blocks hl, RL.mono (R := cVote) cVote.mono h.votes hl, RL.mono (R := cTimeout) cTimeout.mono h.timeouts hl, RL.mono (R := cCommit) cCommit.mono h.commits hl, RL.mono (R := cTx) cTx.mono h.txs hl⟩
theorem RMessage.ok {H : Heap} {v : VMessage} {x : DMessage} (h : RMessage H v x) : v.ok := ⟨h.blocks.one, h.votes.one, h.timeouts.one, h.commits.one, h.txs.one⟩
def cMessage (H : Heap) (cs : List Value) (x : DMessage) : Prop := ∃ v : VMessage, cs = v.cells ∧ RMessage H v x
theorem cMessage.mono {H H' : Heap} {cs : List Value} {x : DMessage} (hl : Hle H H') (h : cMessage H cs x) : cMessage H' cs x := by obtain ⟨v, e, r⟩ := h; exact ⟨v, e, r.mono hl⟩
theorem VMessage.length (v : VMessage) : v.cells.length = 40 := rfl

end Go.Proofs.YtddpmpbngcbokaaGreatDoor
