/- The program's types in plain Lean. Printed by program. -/
import Derived.Test.YtoppcdecolponaaDoorV7
namespace Go.Proofs.YtoppcdecolponaaDoor.AL
open Go
set_option linter.unusedVariables false
def i64 (x : Int) : Prop := -9223372036854775808 ≤ x ∧ x ≤ 9223372036854775807
structure MConf where
 weight : Int
 prio : Bool
 every : Int
 cap : Int
 deriving DecidableEq
def MConf.wf (x : MConf) : Prop := i64 x.weight ∧ i64 x.every ∧ i64 x.cap
structure Bucket where
 tokens : Int
 count : Int
 deriving DecidableEq
def Bucket.wf (x : Bucket) : Prop := i64 x.tokens ∧ i64 x.count
structure Wrr where
 pos : Int
 credit : Int
 deriving DecidableEq
def Wrr.wf (x : Wrr) : Prop := i64 x.pos ∧ i64 x.credit
structure Beat where
 live : Bool
 who : Int
 num : Int
 first : Bool
 via : Int
 left : Int
 resp : Int
 second : Bool
 deriving DecidableEq
def Beat.wf (x : Beat) : Prop := i64 x.who ∧ i64 x.num ∧ i64 x.via ∧ i64 x.left ∧ i64 x.resp
structure Done where
 cycle : Int
 who : Int
 write : Bool
 addr : Int
 size : Int
 value : Int
 resp : Int
 deriving DecidableEq
def Done.wf (x : Done) : Prop := i64 x.cycle ∧ i64 x.who ∧ i64 x.addr ∧ i64 x.size ∧ i64 x.value ∧ i64 x.resp
structure Wave where
 cycle : Int
 addr : Int
 kind : Int
 who : Int
 data : Int
 src : Int
 ready : Bool
 resp : Int
 got : Int
 deriving DecidableEq
def Wave.wf (x : Wave) : Prop := i64 x.cycle ∧ i64 x.addr ∧ i64 x.kind ∧ i64 x.who ∧ i64 x.data ∧ i64 x.src ∧ i64 x.resp ∧ i64 x.got
structure Apb where
 state : Int
 left : Int
 deriving DecidableEq
def Apb.wf (x : Apb) : Prop := i64 x.state ∧ i64 x.left
structure Req where
 write : Bool
 addr : Int
 size : Int
 burst : Int
 lock : Bool
 data : List Int
 deriving DecidableEq
def Req.wf (x : Req) : Prop := i64 x.addr ∧ i64 x.size ∧ i64 x.burst ∧ (x.data.length ≤ 140737488355328 ∧ ∀ y, y ∈ x.data → i64 y)
structure Conf where
 masters : List MConf
 quantum : Int
 maxWait : Int
 maxRetry : Int
 maxSplit : Int
 lockMost : Int
 deriving DecidableEq
def Conf.wf (x : Conf) : Prop := (x.masters.length ≤ 140737488355328 ∧ ∀ y, y ∈ x.masters → MConf.wf y) ∧ i64 x.quantum ∧ i64 x.maxWait ∧ i64 x.maxRetry ∧ i64 x.maxSplit ∧ i64 x.lockMost
structure Post where
 moment : Int
 who : Int
 req : Req
 deriving DecidableEq
def Post.wf (x : Post) : Prop := i64 x.moment ∧ i64 x.who ∧ Req.wf x.req
structure Script where
 posts : List Post
 waits : List Int
 says : List Int
 deriving DecidableEq
def Script.wf (x : Script) : Prop := (x.posts.length ≤ 140737488355328 ∧ ∀ y, y ∈ x.posts → Post.wf y) ∧ (x.waits.length ≤ 140737488355328 ∧ ∀ y, y ∈ x.waits → i64 y) ∧ (x.says.length ≤ 140737488355328 ∧ ∀ y, y ∈ x.says → i64 y)
structure Dev where
 regs : List Int
 timer : Int
 fifo : List Int
 deriving DecidableEq
def Dev.wf (x : Dev) : Prop := (x.regs.length ≤ 140737488355328 ∧ ∀ y, y ∈ x.regs → i64 y) ∧ i64 x.timer ∧ (x.fifo.length ≤ 140737488355328 ∧ ∀ y, y ∈ x.fifo → i64 y)
structure Model where
 ram : List Int
 dev : Dev
 deriving DecidableEq
def Model.wf (x : Model) : Prop := (x.ram.length ≤ 140737488355328 ∧ ∀ y, y ∈ x.ram → i64 y) ∧ Dev.wf x.dev
structure Mst where
 queue : List Req
 beat : Int
 done : Int
 tries : Int
 parted : Bool
 broken : Bool
 deriving DecidableEq
def Mst.wf (x : Mst) : Prop := (x.queue.length ≤ 140737488355328 ∧ ∀ y, y ∈ x.queue → Req.wf y) ∧ i64 x.beat ∧ i64 x.done ∧ i64 x.tries
structure Bus where
 conf : Conf
 now : Int
 ms : List Mst
 arb : Wrr
 buckets : List Bucket
 splits : List Int
 holder : Int
 kept : Int
 last : Int
 addr : Beat
 data : Beat
 model : Model
 picks : Int
 log : List Done
 deriving DecidableEq
def Bus.wf (x : Bus) : Prop := Conf.wf x.conf ∧ i64 x.now ∧ (x.ms.length ≤ 140737488355328 ∧ ∀ y, y ∈ x.ms → Mst.wf y) ∧ Wrr.wf x.arb ∧ (x.buckets.length ≤ 140737488355328 ∧ ∀ y, y ∈ x.buckets → Bucket.wf y) ∧ (x.splits.length ≤ 140737488355328 ∧ ∀ y, y ∈ x.splits → i64 y) ∧ i64 x.holder ∧ i64 x.kept ∧ i64 x.last ∧ Beat.wf x.addr ∧ Beat.wf x.data ∧ Model.wf x.model ∧ i64 x.picks ∧ (x.log.length ≤ 140737488355328 ∧ ∀ y, y ∈ x.log → Done.wf y)
end Go.Proofs.YtoppcdecolponaaDoor.AL
