/- States of a run in pieces. (Printed by a program.) -/
import Derived.Test.YtfcnpmiaglmjmaaGreatLocalS4
set_option linter.unusedVariables false
set_option maxRecDepth 100000
namespace Go.Proofs.YtfcnpmiaglmjmaaGreat.localRun
open Go Go.Abs
noncomputable section
def h269:=upsL h219 [(74,(.cells t80 2))]
def k270:List Fr:=(.seq 4 [1, 1, 1, 1, 1])::k236
def k271:List Fr:=(.cl 21 0 80 0 4 [0, 1, 1, 1, 1] 1 77 (⟨n78, h269, 80, 0⟩) [⟨(some [74]), (some []), false⟩])::k270
def k272:List Fr:=(.seq 21 [1, 1])::k271
def k273:List Fr:=(.cl 27 0 5 0 21 [0, 1] 1 2 (⟨n82, h83, 5, 0⟩) [⟨(some [0]), (some []), false⟩])::k272
def k274:List Fr:=(.seq 27 [1, 1, 1, 1])::k273
def k275:List Fr:=(.blk 0)::k274
def k276:List Fr:=(.lp 27 [0, 1, 0, 1, 1, 1])::k275
def k277:List Fr:=(.seq 27 [1, 1, 1, 0, 0, 1, 0, 1, 1, 1])::k276
def k278:List Fr:=(.blk 1)::k277
def k279:List Fr:=(.seq 27 [1, 1, 1, 0, 0, 1, 1, 0, 0, 1, 0, 1, 1, 1])::k278
def k280:List Fr:=(.blk 2)::k279
def k281:List Fr:=(.lp 27 [0, 1, 0, 1, 1, 0, 0, 1, 1, 0, 0, 1, 0, 1, 1, 1])::k280
def k282:List Fr:=(.seq 27 [1, 0, 0, 1, 0, 1, 1, 0, 0, 1, 1, 0, 0, 1, 0, 1, 1, 1])::k281
def t283:=mk (c (i64 2)<|c (i64 5)<|c (i64 8)<|c (i64 11)<|c (i64 17)<|c (i64 20)<|c (i64 23)<|c (i64 26)<|[])
def t284:=mk (c (i64 0)<|c (i64 1)<|c (i64 2)<|c (i64 3)<|c (i64 4)<|c (i64 5)<|c (i64 6)<|c (i64 7)<|c (i64 8)<|c (i64 9)<|c (i64 10)<|c (i64 11)<|c (i64 12)<|c (i64 14)<|c (i64 15)<|c (i64 16)<|c (i64 17)<|c (i64 18)<|c (i64 19)<|c (i64 20)<|c (i64 21)<|c (i64 22)<|c (i64 23)<|c (i64 24)<|c (i64 25)<|c (i64 26)<|[])
def n285:=sets [(0,a77),(1,(i64 1)),(2,(hp 0)),(4,(hp 1)),(5,(.vp (mk (c (u t6 3 20)<|v_ t74 27 26<|c a75<|[])) 0)),(6,(hp 7)),(7,(.hs 12 0 27 1 27 true)),(8,(i64 14)),(9,ff),(10,ff),(12,(i64 26)),(13,a77),(14,(.vp (mk (c (u t6 3 20)<|v_ t74 27 26<|c a75<|[])) 0)),(15,a100),(16,(i64 1)),(17,(.agg (c (.fn (.func 110) [] [])<|[]))),(18,(.vp (mk (c (u t6 3 20)<|v_ t74 27 26<|c a75<|[])) 0)),(19,(i64 27)),(20,(.hs 12 0 27 1 27 true)),(21,(.hs 12 0 27 1 27 true)),(22,(i64 27)),(23,(i64 14)),(24,tt),(25,(i64 14)),(26,a77),(27,(i64 14)),(28,ff),(29,a77),(30,(i64 14)),(31,ff),(32,(.vp (mk (c (u t6 3 20)<|v_ t74 27 26<|c a75<|[])) 0)),(33,(i64 14)),(34,(v t283 8 1)),(35,(i64 8)),(36,(i64 0)),(37,tt),(38,(.vp t284 25)),(39,(i64 26)),(40,ff),(41,ff),(42,a77),(43,(i64 26)),(44,tt),(45,tt),(46,ff),(47,ff),(48,t0),(49,t0),(50,t0),(51,ff),(52,(i64 26)),(53,(.hs 12 0 27 1 27 true)),(54,(i64 13)),(55,(hp 7)),(56,(.fn (.func 110) [] [])),(57,tt),(58,ff),(59,tt),(60,(.hp 12 13)),(61,(i64 14))]
def t286:=mk (c ff<|c ff<|c ff<|c ff<|c ff<|c ff<|c ff<|c ff<|c ff<|c ff<|c ff<|c ff<|c ff<|c tt<|c ff<|c ff<|c ff<|c ff<|c ff<|c ff<|c ff<|c ff<|c ff<|c ff<|c ff<|c ff<|c ff<|[])
def h287:=upsL T.nil [(0,(.cells t80 2)),(1,(.cells (mk (c nP<|c nS<|[])) 2)),(7,b102),(12,(.cells t286 27))]
def s288:S:=⟨n285, h287, 1666, 0⟩
def m5 : M := .out (.nrm s288) k282
end
end Go.Proofs.YtfcnpmiaglmjmaaGreat.localRun
