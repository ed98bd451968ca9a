/- The program's types as data. Printed by program. -/
import Derived.Test.YtoppcdecolponaaDoorTy
namespace Go.Proofs.YtoppcdecolponaaDoor.AL
open Go
set_option linter.unusedVariables false
def iR (x : Int) : List V := [.w (.int .i64 x)]
def bR (x : Bool) : List V := [.w (.bool x)]
def uR (x : Int) : List V := [.w (.int .u8 x)]
abbrev u8 (x : Int) : Prop := 0 ≤ x ∧ x ≤ 255
def sR (x : ByteArray) : List V := [.w (.string x)]
def MConf.r (x : MConf) : List V := [.w (.int .i64 x.weight), .w (.bool x.prio), .w (.int .i64 x.every), .w (.int .i64 x.cap)]
def Bucket.r (x : Bucket) : List V := [.w (.int .i64 x.tokens), .w (.int .i64 x.count)]
def Wrr.r (x : Wrr) : List V := [.w (.int .i64 x.pos), .w (.int .i64 x.credit)]
def Beat.r (x : Beat) : List V := [.w (.bool x.live), .w (.int .i64 x.who), .w (.int .i64 x.num), .w (.bool x.first), .w (.int .i64 x.via), .w (.int .i64 x.left), .w (.int .i64 x.resp), .w (.bool x.second)]
def Done.r (x : Done) : List V := [.w (.int .i64 x.cycle), .w (.int .i64 x.who), .w (.bool x.write), .w (.int .i64 x.addr), .w (.int .i64 x.size), .w (.int .i64 x.value), .w (.int .i64 x.resp)]
def Wave.r (x : Wave) : List V := [.w (.int .i64 x.cycle), .w (.int .i64 x.addr), .w (.int .i64 x.kind), .w (.int .i64 x.who), .w (.int .i64 x.data), .w (.int .i64 x.src), .w (.bool x.ready), .w (.int .i64 x.resp), .w (.int .i64 x.got)]
def Apb.r (x : Apb) : List V := [.w (.int .i64 x.state), .w (.int .i64 x.left)]
def Req.r (x : Req) : List V := [.w (.bool x.write), .w (.int .i64 x.addr), .w (.int .i64 x.size), .w (.int .i64 x.burst), .w (.bool x.lock), .sl 1 (x.data.map iR)]
def Conf.r (x : Conf) : List V := [.sl 4 (x.masters.map MConf.r), .w (.int .i64 x.quantum), .w (.int .i64 x.maxWait), .w (.int .i64 x.maxRetry), .w (.int .i64 x.maxSplit), .w (.int .i64 x.lockMost)]
def Post.r (x : Post) : List V := [.w (.int .i64 x.moment), .w (.int .i64 x.who), .w (.bool x.req.write), .w (.int .i64 x.req.addr), .w (.int .i64 x.req.size), .w (.int .i64 x.req.burst), .w (.bool x.req.lock), .sl 1 (x.req.data.map iR)]
def Script.r (x : Script) : List V := [.sl 8 (x.posts.map Post.r), .sl 1 (x.waits.map iR), .sl 1 (x.says.map iR)]
def Dev.r (x : Dev) : List V := [.sl 1 (x.regs.map iR), .w (.int .i64 x.timer), .sl 1 (x.fifo.map iR)]
def Model.r (x : Model) : List V := [.sl 1 (x.ram.map iR), .sl 1 (x.dev.regs.map iR), .w (.int .i64 x.dev.timer), .sl 1 (x.dev.fifo.map iR)]
def Mst.r (x : Mst) : List V := [.sl 6 (x.queue.map Req.r), .w (.int .i64 x.beat), .w (.int .i64 x.done), .w (.int .i64 x.tries), .w (.bool x.parted), .w (.bool x.broken)]
def Bus.r (x : Bus) : List V := [.sl 4 (x.conf.masters.map MConf.r), .w (.int .i64 x.conf.quantum), .w (.int .i64 x.conf.maxWait), .w (.int .i64 x.conf.maxRetry), .w (.int .i64 x.conf.maxSplit), .w (.int .i64 x.conf.lockMost), .w (.int .i64 x.now), .sl 6 (x.ms.map Mst.r), .w (.int .i64 x.arb.pos), .w (.int .i64 x.arb.credit), .sl 2 (x.buckets.map Bucket.r), .sl 1 (x.splits.map iR), .w (.int .i64 x.holder), .w (.int .i64 x.kept), .w (.int .i64 x.last), .w (.bool x.addr.live), .w (.int .i64 x.addr.who), .w (.int .i64 x.addr.num), .w (.bool x.addr.first), .w (.int .i64 x.addr.via), .w (.int .i64 x.addr.left), .w (.int .i64 x.addr.resp), .w (.bool x.addr.second), .w (.bool x.data.live), .w (.int .i64 x.data.who), .w (.int .i64 x.data.num), .w (.bool x.data.first), .w (.int .i64 x.data.via), .w (.int .i64 x.data.left), .w (.int .i64 x.data.resp), .w (.bool x.data.second), .sl 1 (x.model.ram.map iR), .sl 1 (x.model.dev.regs.map iR), .w (.int .i64 x.model.dev.timer), .sl 1 (x.model.dev.fifo.map iR), .w (.int .i64 x.picks), .sl 7 (x.log.map Done.r)]
end Go.Proofs.YtoppcdecolponaaDoor.AL
