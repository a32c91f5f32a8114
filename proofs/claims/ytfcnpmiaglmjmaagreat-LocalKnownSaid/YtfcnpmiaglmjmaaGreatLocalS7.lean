/- States of a run in pieces. (Printed by a program.) -/
import Derived.Test.YtfcnpmiaglmjmaaGreatLocalS6
set_option linter.unusedVariables false
set_option maxRecDepth 100000
namespace Go.Proofs.YtfcnpmiaglmjmaaGreat.localRun
open Go Go.Abs
noncomputable section
def n409:=sets [(0,ff),(1,(hp 4)),(2,(hp 5)),(3,(hp 6)),(4,(hp 11)),(5,tt),(6,(i64 0)),(7,ff),(8,(i64 0)),(9,a106),(10,(.agg (f3<|[]))),(11,(.agg (f 1<|f 1<|f 1<|[]))),(12,(.agg (f 1<|f0<|f0<|[]))),(13,(.tuple (c tt<|c (i64 0)<|[]))),(14,a106),(15,(.agg (f 1<|f0<|f0<|[]))),(16,a106),(17,(.agg (f 2<|f0<|f0<|[]))),(18,(.tuple (c tt<|c (i64 0)<|[]))),(19,tt),(20,(i64 0)),(21,(.tuple (c ff<|c (i64 0)<|[]))),(22,a106),(23,(.agg (f 1<|f0<|f0<|[]))),(24,a106),(25,(.agg (f0<|f 1<|f0<|[]))),(26,(.tuple (c ff<|c (i64 0)<|[]))),(27,ff),(28,(i64 0)),(29,a106),(30,(.agg (f3<|[]))),(31,tt),(32,tt),(33,a106),(34,(.agg (f3<|[])))]
def n410:=sets [(0,a106),(1,(.agg (f3<|[]))),(2,(hp 0)),(3,(hp 1)),(4,(i64 0)),(6,a106),(7,(.agg (f3<|[])))]
def h411:=upsL T.nil [(0,(.cells t108 2)),(1,(.cells (mk (f3<|[])) 15))]
def h412:=upsL T.nil [(0,(.cells t108 2)),(1,(.cells (mk (f3<|[])) 15)),(2,(.cells (mk (c nP<|c nS<|[])) 2)),(6,(.cells (mk (c a111<|[])) 1))]
def k413:List Fr:=(.seq 17 [1, 1, 1, 1, 1, 1])::k234
def k414:List Fr:=(.cl 13 0 107 4 17 [0, 1, 1, 1, 1, 1] 6 33 (⟨n409, h290, 107, 4⟩) [⟨(some [5]), (some []), false⟩, ⟨(some [4]), (some []), false⟩, ⟨(some []), (some []), false⟩, ⟨(some []), (some []), false⟩, ⟨(some [5]), (some []), false⟩, ⟨(some [4]), (some []), false⟩])::k413
def k415:List Fr:=(.seq 13 [1, 1])::k414
def k416:List Fr:=(.seq 13 [1, 0, 1])::k415
def k417:List Fr:=(.cl 5 0 8 0 13 [0, 0, 1] 2 3 (⟨n410, h411, 8, 0⟩) [⟨(some [1]), (some []), false⟩, ⟨(some [0]), (some []), false⟩])::k416
def k418:List Fr:=(.seq 5 [1, 1, 1])::k417
def k419:List Fr:=(.cl 23 2 19 0 5 [0, 1, 1] 4 8 (⟨n112, h412, 19, 0⟩) [⟨(some []), (some []), false⟩, ⟨(some []), (some []), false⟩, ⟨(some [1]), (some []), false⟩, ⟨(some [0]), (some []), false⟩])::k418
def k420:List Fr:=(.seq 23 [1, 1, 1, 1, 1, 1, 1, 1])::k419
def k421:List Fr:=(.blk 0)::k420
def k422:List Fr:=(.lp 23 [0, 1, 0, 1, 1, 1, 1, 1, 1, 1])::k421
def k423:List Fr:=(.seq 23 [1, 1, 0, 0, 1, 0, 1, 1, 1, 1, 1, 1, 1])::k422
def a424:AV:=.tuple (c (.vp (mk (c (u t6 3 20)<|v_ t74 27 26<|c a75<|[])) 0)<|c (i64 0)<|[])
def a425:AV:=.agg (v_ (mk (p<|q<|o<|[])) 3 1<|c (i64 2)<|f0<|g 1<|f 1<|[])
def n426:=sets [(0,(u t6 3 20)),(1,(.fn (.func 25) [] [(hp 6), (hp 1)])),(4,(hp 19)),(5,(i64 0)),(6,(i64 0)),(7,(.vp (mk (c (u t6 3 20)<|v_ t74 27 26<|c a75<|[])) 0)),(8,(.hs 43 0 27 1 27 true)),(9,(i64 19)),(10,(hp 475)),(11,(i64 0)),(12,(.fn (.func 25) [] [(hp 6), (hp 1)])),(13,ff),(15,(.tuple (c (u t6 3 20)<|c (i64 0)<|[]))),(16,(v t6 3 20)),(17,(.tuple (c (u t6 3 20)<|c (i64 0)<|[]))),(18,(u t6 3 20)),(19,(i64 0)),(20,(i64 0)),(21,ff),(24,a424),(25,(u t6 3 20)),(26,a424),(27,(.vp (mk (c (u t6 3 20)<|v_ t74 27 26<|c a75<|[])) 0)),(28,(i64 0)),(29,(i64 0)),(30,ff),(33,(.vp (mk (c (u t6 3 20)<|v_ t74 27 26<|c a75<|[])) 0)),(34,(i64 27)),(35,(.hs 43 0 27 1 27 true)),(36,(.hs 43 0 27 1 27 true)),(37,(i64 27)),(38,(i64 20)),(39,tt),(40,(i64 19)),(41,(.tuple (c a425<|c (i64 0)<|[]))),(42,(.vp (mk (c (u t6 3 20)<|v_ t74 27 26<|c a75<|[])) 0)),(43,(i64 19)),(44,(.tuple (c a425<|c (i64 0)<|[]))),(45,a425),(46,(i64 0)),(47,(.hs 43 0 27 1 27 true)),(48,(i64 19)),(49,(.fn (.func 25) [] [(hp 6), (hp 1)])),(50,(.hp 475 2)),(51,(.agg (f0<|g 1<|f 1<|[]))),(52,ff),(53,(.hp 43 19)),(54,(i64 20))]
def t427:=mk (c ff<|c ff<|c ff<|c ff<|c ff<|c ff<|c ff<|c ff<|c ff<|c ff<|c ff<|c ff<|c ff<|c tt<|c tt<|c ff<|c tt<|c tt<|c ff<|c ff<|c ff<|c ff<|c ff<|c ff<|c ff<|c ff<|c ff<|[])
def b428:Blk:=.cells (mk (v_ (mk (q<|q<|q<|[])) 3 1<|c (i64 3)<|g 1<|g 1<|g 1<|[])) 17
def b429:Blk:=.cells (mk (v_ (mk (q<|q<|o<|[])) 3 1<|c (i64 2)<|f0<|g 1<|g 1<|[])) 17
def b430:Blk:=.cells (mk (v_ (mk (q<|q<|p<|[])) 3 1<|c (i64 3)<|f 1<|g 1<|g 1<|[])) 17
def b431:Blk:=.cells (mk (v_ (mk (q<|o<|q<|[])) 3 1<|c (i64 2)<|g 1<|f0<|g 1<|[])) 17
def b432:Blk:=.cells (mk (v_ (mk (q<|o<|o<|[])) 3 1<|c (i64 1)<|f0<|f0<|g 1<|[])) 17
def b433:Blk:=.cells (mk (v_ (mk (q<|o<|p<|[])) 3 1<|c (i64 2)<|f 1<|f0<|g 1<|[])) 17
def b434:Blk:=.cells (mk (v_ (mk (q<|p<|q<|[])) 3 1<|c (i64 3)<|g 1<|f 1<|g 1<|[])) 17
def b435:Blk:=.cells (mk (v_ (mk (q<|p<|o<|[])) 3 1<|c (i64 2)<|f0<|f 1<|g 1<|[])) 17
def b436:Blk:=.cells (mk (v_ (mk (q<|p<|p<|[])) 3 1<|c (i64 3)<|f 1<|f 1<|g 1<|[])) 17
def b437:Blk:=.cells (mk (v_ (mk (o<|q<|q<|[])) 3 1<|c (i64 2)<|g 1<|g 1<|f0<|[])) 17
def b438:Blk:=.cells (mk (v_ (mk (o<|q<|o<|[])) 3 1<|c (i64 1)<|f0<|g 1<|f0<|[])) 17
def b439:Blk:=.cells (mk (v_ (mk (o<|q<|p<|[])) 3 1<|c (i64 2)<|f 1<|g 1<|f0<|[])) 17
def b440:Blk:=.cells (mk (v_ (mk (o<|o<|q<|[])) 3 1<|c (i64 1)<|g 1<|f0<|f0<|[])) 17
def b441:Blk:=.cells (mk (v_ (mk (o<|o<|o<|[])) 3 1<|c (i64 0)<|f3<|[])) 17
def b442:Blk:=.cells (mk (v_ (mk (o<|o<|p<|[])) 3 1<|c (i64 1)<|f 1<|f0<|f0<|[])) 17
def b443:Blk:=.cells (mk (v_ (mk (o<|p<|q<|[])) 3 1<|c (i64 2)<|g 1<|f 1<|f0<|[])) 17
def b444:Blk:=.cells (mk (v_ (mk (o<|p<|o<|[])) 3 1<|c (i64 1)<|f0<|f 1<|f0<|[])) 17
def b445:Blk:=.cells (mk (v_ (mk (o<|p<|p<|[])) 3 1<|c (i64 2)<|f 1<|f 1<|f0<|[])) 17
def b446:Blk:=.cells (mk (v_ (mk (p<|q<|q<|[])) 3 1<|c (i64 3)<|g 1<|g 1<|f 1<|[])) 17
def b447:Blk:=.cells (mk (v_ (mk (p<|q<|o<|[])) 3 1<|c (i64 2)<|f0<|g 1<|f 1<|[])) 17
def h448:=upsL T.nil [(0,(.cells t108 2)),(1,(.cells (mk (f3<|[])) 15)),(2,(.cells (mk (c nP<|c nS<|[])) 2)),(6,(.cells (mk (c a111<|[])) 1)),(19,(.cells (mk (c nP<|c nS<|[])) 2)),(43,(.cells t427 27)),(57,b428),(79,b429),(101,b430),(123,b431),(145,b432),(167,b433),(189,b434),(211,b435),(233,b436),(255,b437),(277,b438),(299,b439),(321,b440),(343,b441),(365,b442),(387,b443),(409,b444),(431,b445),(453,b446),(475,b447)]
def s449:S:=⟨n426, h448, 489, 19⟩
def m7 : M := .code 23 [0, 1, 0, 0, 1, 0, 1, 1, 1, 1, 1, 1, 1] s449 k423
end
end Go.Proofs.YtfcnpmiaglmjmaaGreat.localRun
