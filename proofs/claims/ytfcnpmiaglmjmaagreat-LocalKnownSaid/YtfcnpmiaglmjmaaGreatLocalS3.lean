/- States of a run in pieces. (Printed by a program.) -/
import Derived.Test.YtfcnpmiaglmjmaaGreatLocalS2
set_option linter.unusedVariables false
set_option maxRecDepth 100000
namespace Go.Proofs.YtfcnpmiaglmjmaaGreat.localRun
open Go Go.Abs
noncomputable section
def t180:=mk (c ff<|c ff<|c ff<|c ff<|c ff<|c ff<|c ff<|c ff<|c ff<|c ff<|c ff<|c ff<|c ff<|c tt<|c tt<|c ff<|c tt<|c tt<|c ff<|c ff<|c ff<|c ff<|c tt<|c tt<|c ff<|c tt<|c ff<|[])
def a181:AV:=.agg (c (.vp (mk (c (u t6 3 20)<|v_ t74 27 26<|c a75<|[])) 0)<|v_ t180 27 1<|[])
def t182:=mk (c ff<|c nS<|c nS<|c nS<|c nS<|c nS<|c nS<|c nS<|c (u32 0)<|c (u32 0)<|c (i64 3)<|f3<|[])
def t183:=mk (c nS<|c (u t182 1 26)<|c (.vm [((str []), (i64 0))])<|[])
def n184:=sets [(0,ff),(1,(hp 3)),(2,(hp 4)),(3,(hp 10)),(4,(hp 12)),(5,(hp 16)),(6,a106),(7,(.agg (f3<|[]))),(8,a106),(9,(.agg (f3<|[]))),(10,a106),(11,a106),(12,a181),(13,a181),(14,a106),(15,(.agg (f 7<|f0<|f 9<|[]))),(16,tt),(17,tt),(18,a106),(19,(.agg (g 1<|f0<|f0<|[]))),(20,ff),(21,tt),(22,tt),(23,tt),(24,a106),(25,(v t6 3 20)),(26,(i64 3)),(27,tt),(28,tt),(29,tt),(30,(.agg (c nP<|c nS<|[]))),(31,(.agg (f3<|[]))),(32,(.agg (c (.vp t183 0)<|v_ (mk (c ff<|[])) 1 1<|[]))),(33,tt),(34,tt),(35,tt),(36,(.agg (c (.vp t183 0)<|c (u (mk (c tt<|[])) 1 1)<|[]))),(37,(.agg (f3<|[]))),(38,(.agg (c (.vp t183 0)<|v_ (mk (c tt<|[])) 1 1<|[]))),(39,tt),(40,tt),(41,tt),(42,a181),(43,(.agg (f 1<|f 1<|f0<|[])))]
def t185:=mk (c (.vp (mk (c (u t6 3 20)<|v_ t74 27 26<|c a75<|[])) 0)<|v_ t180 27 1<|[])
def h186:=upsL h109 [(10,(.cells t108 2)),(12,(.cells (mk (c nP<|c nS<|[])) 2)),(16,(.cells t185 2))]
def n187:=sets [(0,a181),(1,(.agg (f 1<|f 1<|f0<|[]))),(2,(hp 0)),(3,(hp 1)),(4,(i64 0)),(6,a181),(7,(.agg (f 1<|f 1<|f0<|[])))]
def h188:=upsL T.nil [(0,(.cells t185 2)),(1,(.cells (mk (f 1<|f 1<|f0<|[])) 15))]
def a189:AV:=.fn (.func 60) [] [(.vp (mk (v_ (mk (o<|p<|p<|[])) 3 1<|[])) 0), (.vp (mk (v_ t6 3 20<|[])) 0), (.vp t185 0), (.vp t110 0)]
def n190:=sets [(0,a181),(1,(.agg (f 1<|f 1<|f0<|[]))),(2,(hp 0)),(3,(hp 1)),(4,(hp 2)),(5,(hp 6)),(8,a181),(9,(.agg (f 1<|f 1<|f0<|[]))),(10,a189),(12,a181),(13,(.agg (f 1<|f 1<|f0<|[]))),(14,(v (mk (f0<|f0<|f 1<|f0<|[])) 1 20)),(15,(.fn (.func 25) [] [(hp 6), (hp 1)]))]
def h191:=upsL h113 [(0,(.cells t185 2)),(1,(.cells (mk (f 1<|f 1<|f0<|[])) 15)),(6,(.cells (mk (c a189<|[])) 1))]
def a192:AV:=.tuple (c (u (mk (f0<|f0<|f 1<|f0<|[])) 1 20)<|c (i64 0)<|[])
def n193:=sets [(0,(u (mk (f0<|f0<|f 1<|f0<|[])) 1 20)),(1,(.fn (.func 25) [] [(hp 6), (hp 1)])),(4,(hp 19)),(5,(i64 0)),(6,(i64 0)),(12,(.fn (.func 25) [] [(hp 6), (hp 1)])),(13,ff),(15,a192),(16,(v (mk (f0<|f0<|f 1<|f0<|[])) 1 20)),(17,a192),(18,(u (mk (f0<|f0<|f 1<|f0<|[])) 1 20)),(19,(i64 0)),(20,(i64 0)),(21,ff),(25,(u (mk (f0<|f0<|f 1<|f0<|[])) 1 20))]
def h194:=upsL h115 [(0,(.cells t185 2)),(1,(.cells (mk (f 1<|f 1<|f0<|[])) 15)),(6,(.cells (mk (c a189<|[])) 1))]
def a195:AV:=.agg (c (u (mk (f0<|f0<|f 1<|f0<|[])) 1 20)<|c (.hs 24 0 1 26 1 true)<|c (.hm 25)<|[])
def n196:=sets [(0,(u (mk (f0<|f0<|f 1<|f0<|[])) 1 20)),(2,nP),(3,(i64 0)),(5,(hp 11)),(6,(hp 27)),(7,(i64 0)),(8,(hp 36)),(11,(u (mk (f0<|f0<|f 1<|f0<|[])) 1 20)),(12,(u (mk (f0<|f0<|f 1<|f0<|[])) 1 20)),(13,(u (mk (f0<|f0<|f 1<|f0<|[])) 1 20)),(14,(i64 1)),(15,(i64 1)),(16,ff),(17,(.vp (mk (f0<|f0<|f 1<|f0<|[])) 0)),(18,(.agg (f0<|f0<|f 1<|f0<|[]))),(19,(.agg (f0<|f0<|f 1<|f0<|[]))),(20,(i64 1)),(21,ff),(22,(i64 1)),(23,(u (mk (f0<|f0<|f 1<|f0<|[])) 1 20)),(24,(i64 1)),(25,ff),(26,(u (mk (f0<|f0<|f 1<|f0<|[])) 1 20)),(27,a127),(28,(.hs 24 0 1 26 1 true)),(29,(.hm 25)),(30,a195),(31,(hp 27)),(32,(u (mk (f0<|f0<|f 1<|f0<|[])) 1 20)),(33,(i64 1)),(34,(i64 0)),(35,tt),(36,(i64 0)),(37,(.vp (mk (f0<|f0<|f 1<|f0<|[])) 0)),(38,(.agg (f0<|f0<|f 1<|f0<|[]))),(39,(hp 27)),(40,(hp 27)),(41,(hp 27)),(42,(.hp 27 1)),(43,(.hs 24 0 1 26 1 true)),(44,(.agg (f0<|f0<|f 1<|f0<|[]))),(45,(i64 0))]
def t197:=mk (c (u (mk (f0<|f0<|f 1<|f0<|[])) 1 20)<|c (.hs 24 0 1 26 1 true)<|c (.hm 25)<|[])
def h198:=upsL T.nil [(11,(.cells (mk (f0<|f0<|f 1<|f0<|[])) 20)),(24,(.cells t131 26)),(25,(.map [])),(27,(.cells t197 3)),(36,(.cells (mk (f0<|f0<|f 1<|f0<|[])) 20))]
def k199:List Fr:=(.seq 3 [1, 1, 1, 1, 1, 1])::k84
def k200:List Fr:=(.cl 13 0 88 3 3 [0, 1, 1, 1, 1, 1] 30 18 (⟨n184, h186, 88, 3⟩) [⟨(some []), (some []), false⟩, ⟨(some [16]), (some []), false⟩, ⟨(some []), (some []), false⟩, ⟨(some []), (some []), false⟩, ⟨(some []), (some []), false⟩, ⟨(some []), (some []), false⟩, ⟨(some [4]), (some []), false⟩, ⟨(some []), (some []), false⟩, ⟨(some []), (some []), false⟩, ⟨(some []), (some []), false⟩, ⟨(some []), (some []), false⟩, ⟨(some []), (some []), false⟩, ⟨(some [4]), (some []), false⟩, ⟨(some [12]), (some []), false⟩, ⟨(some []), (some []), false⟩, ⟨(some []), (some []), false⟩, ⟨(some []), (some []), false⟩, ⟨(some []), (some []), false⟩, ⟨(some []), (some []), false⟩, ⟨(some [10]), (some []), false⟩, ⟨(some []), (some []), false⟩, ⟨(some []), (some []), false⟩, ⟨(some []), (some []), false⟩, ⟨(some []), (some []), false⟩, ⟨(some []), (some []), false⟩, ⟨(some [10]), (some []), false⟩, ⟨(some []), (some []), false⟩, ⟨(some []), (some []), false⟩, ⟨(some []), (some []), false⟩, ⟨(some [10]), (some []), false⟩])::k199
def k201:List Fr:=(.seq 13 [1, 1])::k200
def k202:List Fr:=(.seq 13 [1, 0, 1])::k201
def k203:List Fr:=(.cl 5 0 8 0 13 [0, 0, 1] 2 3 (⟨n187, h188, 8, 0⟩) [⟨(some [1]), (some []), false⟩, ⟨(some [0]), (some []), false⟩])::k202
def k204:List Fr:=(.seq 5 [1, 1, 1])::k203
def k205:List Fr:=(.cl 23 2 19 0 5 [0, 1, 1] 4 8 (⟨n190, h191, 19, 0⟩) [⟨(some []), (some []), false⟩, ⟨(some []), (some []), false⟩, ⟨(some [1]), (some []), false⟩, ⟨(some [0]), (some []), false⟩])::k204
def k206:List Fr:=(.seq 23 [1, 1, 1, 1, 1])::k205
def k207:List Fr:=(.cl 33 0 39 19 23 [0, 1, 1, 1, 1] 1 32 (⟨n193, h194, 39, 19⟩) [⟨(some []), (some []), false⟩])::k206
def k208:List Fr:=(.seq 33 [1, 1, 1, 1, 1, 1])::k207
def k209:List Fr:=(.blk 2)::k208
def k210:List Fr:=(.lp 33 [0, 1, 0, 1, 1, 1, 1, 1])::k209
def k211:List Fr:=(.seq 33 [1, 1, 1, 0, 0, 1, 0, 1, 1, 1, 1, 1])::k210
def k212:List Fr:=(.blk 3)::k211
def k213:List Fr:=(.cl 74 2 50 11 33 [1, 0, 0, 1, 1, 0, 0, 1, 0, 1, 1, 1, 1, 1] 7 39 (⟨n196, h198, 50, 11⟩) [⟨(some []), (some []), false⟩, ⟨(some [36]), (some []), false⟩, ⟨(some [27]), (some []), false⟩, ⟨(some []), (some []), false⟩, ⟨(some []), (some []), false⟩, ⟨(some []), (some []), false⟩, ⟨(some []), (some []), false⟩])::k212
def n214:=sets [(0,(.hs 24 0 1 26 1 true)),(1,(.agg (f0<|f0<|f 1<|f0<|[]))),(2,(i64 0)),(4,(hp 50)),(6,nS)]
def h215:=upsL T.nil [(11,(.cells (mk (f0<|f0<|f 1<|f0<|[])) 20)),(24,(.cells t131 26)),(25,(.map [])),(27,(.cells t197 3)),(36,(.cells (mk (f0<|f0<|f 1<|f0<|[])) 20)),(50,(.cells (mk (f0<|f0<|f 1<|f0<|[])) 20))]
def m3 : M := .code 74 [1] (⟨n214, h215, 52, 50⟩) k213
end
end Go.Proofs.YtfcnpmiaglmjmaaGreat.localRun
