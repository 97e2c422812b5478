/- Part of the proof of TopAny. -/
import Derived.Test.YthpphdegpinepaaGreatY
import Derived.KernelRfl
namespace Go.Proofs.YthpphdegpinepaaGreat
open Go GL Tryz
open Go.Proofs.Tryz renaming prog -> H
open List renaming replicate -> dr
open Option renaming bind -> ab
open Int renaming toNat -> qP
open Nat renaming beq -> ct
set_option linter.all false
set_option maxRecDepth 100000
set_option maxHeartbeats 20000000
noncomputable section
abbrev CT:=gl H
structure fB where
 At:Int
 bO:List UInt8
 deriving Inhabited,DecidableEq
instance:Rp fB:=Rp.dH inferInstance λx=>(x.At,x.bO)
instance:eM λx:fB=>[te x.At,te x.bO]:=eR
instance:fS λT(y:fB)=>[tr y.At,tT T y.bO]:=fO
structure aU where
 aJ:List (List UInt8)
 eg:List fB
 dS:Bool
 deriving Inhabited,DecidableEq
instance:Rp aU:=Rp.dH inferInstance λx=>(x.aJ,x.eg,x.dS)
instance:eM λx:aU=>[te x.aJ,te x.eg,te x.dS]:=eR
instance:fS λT(y:aU)=>[tT T y.aJ,tT T y.eg,tr y.dS]:=fO
structure J where
 Id:UInt32
 aw:Int
 bz:Int
 bb:Int
 K:Int
 aE:Int
 deriving Inhabited,DecidableEq
instance:Rp J:=Rp.dH inferInstance λx=>(x.Id,x.aw,x.bz,x.bb,x.K,x.aE)
instance:eM λx:J=>[te x.Id,te x.aw,te x.bz,te x.bb,te x.K,te x.aE]:=eR
instance:fS λ_(y:J)=>[tr y.Id,tr y.aw,tr y.bz,tr y.bb,tr y.K,tr y.aE]:=fO
instance:Flat J:=kn
structure aZ where
 bG:UInt8
 At:Int
 eZ:Int
 bO:List UInt8
 deriving Inhabited,DecidableEq
instance:Rp aZ:=Rp.dH inferInstance λx=>(x.bG,x.At,x.eZ,x.bO)
instance:eM λx:aZ=>[te x.bG,te x.At,te x.eZ,te x.bO]:=eR
instance:fS λT(y:aZ)=>[tr y.bG,tr y.At,tr y.eZ,tT T y.bO]:=fO
structure iA where
 bG:UInt8
 aZ:aZ
 A:Int
 B:Int
 On:Bool
 GY:List Bool
 deriving Inhabited,DecidableEq
instance:Rp iA:=Rp.dH inferInstance λx=>(x.bG,x.aZ,x.A,x.B,x.On,x.GY)
instance:eM λx:iA=>[te x.bG,te x.aZ,te x.A,te x.B,te x.On,te x.GY]:=eR
instance:fS λT(y:iA)=>[tr y.bG,ts 4 [tr y.aZ.bG,tr y.aZ.At,tr y.aZ.eZ,tT T y.aZ.bO],tr y.A,tr y.B,tr y.On,tT T y.GY]:=fO
structure X where
 cZ:UInt32
 bZ:Int
 dt:Bool
 Pos:Int
 cN:Int
 cn:Bool
 cO:Bool
 deriving Inhabited,DecidableEq
instance:Rp X:=Rp.dH inferInstance λx=>(x.cZ,x.bZ,x.dt,x.Pos,x.cN,x.cn,x.cO)
instance:eM λx:X=>[te x.cZ,te x.bZ,te x.dt,te x.Pos,te x.cN,te x.cn,te x.cO]:=eR
instance:fS λ_(y:X)=>[tr y.cZ,tr y.bZ,tr y.dt,tr y.Pos,tr y.cN,tr y.cn,tr y.cO]:=fO
instance:Flat X:=kn
structure aM where
 L:Int
 aJ:List (List UInt8)
 a_:List Bool
 aG:UInt8
 cG:Bool
 Seq:UInt32
 deriving Inhabited,DecidableEq
instance:Rp aM:=Rp.dH inferInstance λx=>(x.L,x.aJ,x.a_,x.aG,x.cG,x.Seq)
instance:eM λx:aM=>[te x.L,te x.aJ,te x.a_,te x.aG,te x.cG,te x.Seq]:=eR
instance:fS λT(y:aM)=>[tr y.L,tT T y.aJ,tT T y.a_,tr y.aG,tr y.cG,tr y.Seq]:=fO
structure j where
 Seq:UInt32
 L:Int
 aJ:Int
 bP:Bool
 dC:Bool
 cH:Bool
 deriving Inhabited,DecidableEq
instance:Rp j:=Rp.dH inferInstance λx=>(x.Seq,x.L,x.aJ,x.bP,x.dC,x.cH)
instance:eM λx:j=>[te x.Seq,te x.L,te x.aJ,te x.bP,te x.dC,te x.cH]:=eR
instance:fS λ_(y:j)=>[tr y.Seq,tr y.L,tr y.aJ,tr y.bP,tr y.dC,tr y.cH]:=fO
instance:Flat j:=kn
structure K where
 bR:UInt32
 Seq:UInt32
 ca:Int
 cg:Int
 j:List j
 deriving Inhabited,DecidableEq
instance:Rp K:=Rp.dH inferInstance λx=>(x.bR,x.Seq,x.ca,x.cg,x.j)
instance:eM λx:K=>[te x.bR,te x.Seq,te x.ca,te x.cg,te x.j]:=eR
instance:fS λT(y:K)=>[tr y.bR,tr y.Seq,tr y.ca,tr y.cg,tT T y.j]:=fO
structure dq where
 dR:Int
 aZ:aZ
 fY:List UInt8
 iU:List UInt32
 bO:List (List UInt8)
 deriving Inhabited,DecidableEq
instance:Rp dq:=Rp.dH inferInstance λx=>(x.dR,x.aZ,x.fY,x.iU,x.bO)
instance:eM λx:dq=>[te x.dR,te x.aZ,te x.fY,te x.iU,te x.bO]:=eR
instance:fS λT(y:dq)=>[tr y.dR,ts 4 [tr y.aZ.bG,tr y.aZ.At,tr y.aZ.eZ,tT T y.aZ.bO],tT T y.fY,tT T y.iU,tT T y.bO]:=fO
structure N where
 J:J
 ee:Bool
 X:X
 aE:List aM
 K:K
 du:List dq
 Next:Int
 eU:Bool
 deriving Inhabited,DecidableEq
instance:Rp N:=Rp.dH inferInstance λx=>(x.J,x.ee,x.X,x.aE,x.K,x.du,x.Next,x.eU)
instance:eM λx:N=>[te x.J,te x.ee,te x.X,te x.aE,te x.K,te x.du,te x.Next,te x.eU]:=eR
instance:fS λT(y:N)=>[ts 6 [tr y.J.Id,tr y.J.aw,tr y.J.bz,tr y.J.bb,tr y.J.K,tr y.J.aE],tr y.ee,ts 7 [tr y.X.cZ,tr y.X.bZ,tr y.X.dt,tr y.X.Pos,tr y.X.cN,tr y.X.cn,tr y.X.cO],tT T y.aE,ts 5 [tr y.K.bR,tr y.K.Seq,tr y.K.ca,tr y.K.cg,tT T y.K.j],tT T y.du,tr y.Next,tr y.eU]:=fO
structure eQ where
 N:N
 f_:List aU
 Up:Bool
 deriving Inhabited,DecidableEq
instance:Rp eQ:=Rp.dH inferInstance λx=>(x.N,x.f_,x.Up)
instance:eM λx:eQ=>[te x.N,te x.f_,te x.Up]:=eR
instance:fS λT(y:eQ)=>[ts 23 [ts 6 [tr y.N.J.Id,tr y.N.J.aw,tr y.N.J.bz,tr y.N.J.bb,tr y.N.J.K,tr y.N.J.aE],tr y.N.ee,ts 7 [tr y.N.X.cZ,tr y.N.X.bZ,tr y.N.X.dt,tr y.N.X.Pos,tr y.N.X.cN,tr y.N.X.cn,tr y.N.X.cO],tT T y.N.aE,ts 5 [tr y.N.K.bR,tr y.N.K.Seq,tr y.N.K.ca,tr y.N.K.cg,tT T y.N.K.j],tT T y.N.du,tr y.N.Next,tr y.N.eU],tT T y.f_,tr y.Up]:=fO
structure kQ where
 dR:Int
 Error:Int
 bO:List UInt8
 eZ:Int
 deriving Inhabited,DecidableEq
instance:Rp kQ:=Rp.dH inferInstance λx=>(x.dR,x.Error,x.bO,x.eZ)
instance:eM λx:kQ=>[te x.dR,te x.Error,te x.bO,te x.eZ]:=eR
structure iY where
 e0:Int
 e1:Int
 e2:Int
 deriving Inhabited,DecidableEq
instance:Rp iY:=Rp.dH inferInstance λx=>(x.e0,x.e1,x.e2)
instance:eM λx:iY=>[te x.e0,te x.e1,te x.e2]:=eR
instance:Flat iY:=kn
structure cQ where
 Id:UInt32
 cZ:UInt32
 aw:Int
 bz:Int
 bb:Int
 K:Int
 Me:Int
 bZ:Int
 cN:Int
 Open:Bool
 deriving Inhabited,DecidableEq
instance:Rp cQ:=Rp.dH inferInstance λx=>(x.Id,x.cZ,x.aw,x.bz,x.bb,x.K,x.Me,x.bZ,x.cN,x.Open)
instance:eM λx:cQ=>[te x.Id,te x.cZ,te x.aw,te x.bz,te x.bb,te x.K,te x.Me,te x.bZ,te x.cN,te x.Open]:=eR
instance:fS λ_(y:cQ)=>[tr y.Id,tr y.cZ,tr y.aw,tr y.bz,tr y.bb,tr y.K,tr y.Me,tr y.bZ,tr y.cN,tr y.Open]:=fO
instance:Flat cQ:=kn
structure Field where
 n:Int
 at_:Int
 size:Int
 deriving Inhabited,DecidableEq
instance:Rp Field:=Rp.dH inferInstance λx=>(x.n,x.at_,x.size)
instance:eM λx:Field=>[te x.n,te x.at_,te x.size]:=eR
instance:fS λ_(y:Field)=>[tr y.n,tr y.at_,tr y.size]:=fO
instance:Flat Field:=kn
structure fT where
 Id:UInt32
 bR:UInt32
 Seq:UInt32
 ca:Int
 deriving Inhabited,DecidableEq
instance:Rp fT:=Rp.dH inferInstance λx=>(x.Id,x.bR,x.Seq,x.ca)
instance:eM λx:fT=>[te x.Id,te x.bR,te x.Seq,te x.ca]:=eR
instance:fS λ_(y:fT)=>[tr y.Id,tr y.bR,tr y.Seq,tr y.ca]:=fO
instance:Flat fT:=kn
structure lM where
 b:List UInt8
 at_:Int
 e:Int
 deriving Inhabited,DecidableEq
instance:Rp lM:=Rp.dH inferInstance λx=>(x.b,x.at_,x.e)
instance:eM λx:lM=>[te x.b,te x.at_,te x.e]:=eR
instance:fS λT(y:lM)=>[tT T y.b,tr y.at_,tr y.e]:=fO
structure World where
 World:eQ
 told:List kQ
 deriving Inhabited,DecidableEq
instance:Rp World:=Rp.dH inferInstance λx=>(x.World,x.told)
instance:eM λx:World=>[te x.World,te x.told]:=eR
structure cd where
 aU:Int
 bG:UInt8
 At:Int
 bO:List UInt8
 deriving Inhabited,DecidableEq
instance:Rp cd:=Rp.dH inferInstance λx=>(x.aU,x.bG,x.At,x.bO)
instance:eM λx:cd=>[te x.aU,te x.bG,te x.At,te x.bO]:=eR
instance:fS λT(y:cd)=>[tr y.aU,tr y.bG,tr y.At,tT T y.bO]:=fO
structure lU where
 labels:cm 16 cQ
 right:cm 16 Bool
 cA:cQ
 deriving Inhabited,DecidableEq
instance:Rp lU:=Rp.dH inferInstance λx=>(x.labels,x.right,x.cA)
instance:eM λx:lU=>[te x.labels,te x.right,te x.cA]:=eR
instance:fS λ_(y:lU)=>[ta 160 y.labels,ta 16 y.right,ts 10 [tr y.cA.Id,tr y.cA.cZ,tr y.cA.aw,tr y.cA.bz,tr y.cA.bb,tr y.cA.K,tr y.cA.Me,tr y.cA.bZ,tr y.cA.cN,tr y.cA.Open]]:=fO
instance:Flat lU:=kn
structure bl where
 L:Int
 eD:List Int
 aJ:List (List UInt8)
 bP:List UInt8
 deriving Inhabited,DecidableEq
instance:Rp bl:=Rp.dH inferInstance λx=>(x.L,x.eD,x.aJ,x.bP)
instance:eM λx:bl=>[te x.L,te x.eD,te x.aJ,te x.bP]:=eR
instance:fS λT(y:bl)=>[tr y.L,tT T y.eD,tT T y.aJ,tT T y.bP]:=fO
structure fj where
 bR:UInt32
 Seq:UInt32
 bl:bl
 deriving Inhabited,DecidableEq
instance:Rp fj:=Rp.dH inferInstance λx=>(x.bR,x.Seq,x.bl)
instance:eM λx:fj=>[te x.bR,te x.Seq,te x.bl]:=eR
instance:fS λT(y:fj)=>[tr y.bR,tr y.Seq,ts 4 [tr y.bl.L,tT T y.bl.eD,tT T y.bl.aJ,tT T y.bl.bP]]:=fO
structure fJ where
 Slot:UInt8
 rj:Bool
 Sum:UInt32
 deriving Inhabited,DecidableEq
instance:Rp fJ:=Rp.dH inferInstance λx=>(x.Slot,x.rj,x.Sum)
instance:eM λx:fJ=>[te x.Slot,te x.rj,te x.Sum]:=eR
instance:fS λ_(y:fJ)=>[tr y.Slot,tr y.rj,tr y.Sum]:=fO
instance:Flat fJ:=kn
structure iO where
 Id:UInt32
 bR:UInt32
 Seq:UInt32
 L:Int
 fo:List fJ
 deriving Inhabited,DecidableEq
instance:Rp iO:=Rp.dH inferInstance λx=>(x.Id,x.bR,x.Seq,x.L,x.fo)
instance:eM λx:iO=>[te x.Id,te x.bR,te x.Seq,te x.L,te x.fo]:=eR
instance:fS λT(y:iO)=>[tr y.Id,tr y.bR,tr y.Seq,tr y.L,tT T y.fo]:=fO
structure sw where
 N:N
 gi:List cd
 e:Int
 deriving Inhabited,DecidableEq
instance:Rp sw:=Rp.dH inferInstance λx=>(x.N,x.gi,x.e)
instance:eM λx:sw=>[te x.N,te x.gi,te x.e]:=eR
structure jS where
 J:J
 n:Int
 deriving Inhabited,DecidableEq
instance:Rp jS:=Rp.dH inferInstance λx=>(x.J,x.n)
instance:eM λx:jS=>[te x.J,te x.n]:=eR
instance:fS λ_(y:jS)=>[ts 6 [tr y.J.Id,tr y.J.aw,tr y.J.bz,tr y.J.bb,tr y.J.K,tr y.J.aE],tr y.n]:=fO
instance:Flat jS:=kn
structure Ring where
 K:K
 c:J
 deriving Inhabited,DecidableEq
instance:Rp Ring:=Rp.dH inferInstance λx=>(x.K,x.c)
instance:eM λx:Ring=>[te x.K,te x.c]:=eR
structure Form where
 tW:Int
 bytes:Bool
 writes:Bool
 deriving Inhabited,DecidableEq
instance:Rp Form:=Rp.dH inferInstance λx=>(x.tW,x.bytes,x.writes)
instance:eM λx:Form=>[te x.tW,te x.bytes,te x.writes]:=eR
instance:fS λ_(y:Form)=>[tr y.tW,tr y.bytes,tr y.writes]:=fO
instance:Flat Form:=kn
structure ky where
 L:Int
 Slot:Int
 yf:Int
 deriving Inhabited,DecidableEq
instance:Rp ky:=Rp.dH inferInstance λx=>(x.L,x.Slot,x.yf)
instance:eM λx:ky=>[te x.L,te x.Slot,te x.yf]:=eR
instance:fS λ_(y:ky)=>[tr y.L,tr y.Slot,tr y.yf]:=fO
instance:Flat ky:=kn
structure au where
 bG:UInt8
 dR:Int
 Block:Int
 L:Int
 deriving Inhabited,DecidableEq
instance:Rp au:=Rp.dH inferInstance λx=>(x.bG,x.dR,x.Block,x.L)
instance:eM λx:au=>[te x.bG,te x.dR,te x.Block,te x.L]:=eR
instance:fS λ_(y:au)=>[tr y.bG,tr y.dR,tr y.Block,tr y.L]:=fO
instance:Flat au:=kn
structure oC where
 N:N
 gi:List cd
 e:Int
 deriving Inhabited,DecidableEq
instance:Rp oC:=Rp.dH inferInstance λx=>(x.N,x.gi,x.e)
instance:eM λx:oC=>[te x.N,te x.gi,te x.e]:=eR
structure g6 where
 d:N
 B5:List aU
 deriving Inhabited,DecidableEq
instance:Rp g6:=Rp.dH inferInstance λx=>(x.d,x.B5)
instance:eM λx:g6=>[te x.d,te x.B5]:=eR
instance:fS λT(y:g6)=>[ts 23 [ts 6 [tr y.d.J.Id,tr y.d.J.aw,tr y.d.J.bz,tr y.d.J.bb,tr y.d.J.K,tr y.d.J.aE],tr y.d.ee,ts 7 [tr y.d.X.cZ,tr y.d.X.bZ,tr y.d.X.dt,tr y.d.X.Pos,tr y.d.X.cN,tr y.d.X.cn,tr y.d.X.cO],tT T y.d.aE,ts 5 [tr y.d.K.bR,tr y.d.K.Seq,tr y.d.K.ca,tr y.d.K.cg,tT T y.d.K.j],tT T y.d.du,tr y.d.Next,tr y.d.eU],tT T y.B5]:=fO
structure kV where
 au:au
 tf:kM [146,147] g6
 deriving Inhabited,DecidableEq
instance:Rp kV:=Rp.dH inferInstance λx=>(x.au,x.tf)
instance:eM λx:kV=>[te x.au,te x.tf]:=eR
instance:fS λT(y:kV)=>[ts 4 [tr y.au.bG,tr y.au.dR,tr y.au.Block,tr y.au.L],tT T y.tf]:=fO
structure eE where
 bG:UInt8
 Reads:List Int
 deriving Inhabited,DecidableEq
instance:Rp eE:=Rp.dH inferInstance λx=>(x.bG,x.Reads)
instance:eM λx:eE=>[te x.bG,te x.Reads]:=eR
instance:fS λT(y:eE)=>[tr y.bG,tT T y.Reads]:=fO
structure oG where
 g:K
 back:Bool
 oO:Bool
 deriving Inhabited,DecidableEq
instance:Rp oG:=Rp.dH inferInstance λx=>(x.g,x.back,x.oO)
instance:eM λx:oG=>[te x.g,te x.back,te x.oO]:=eR
instance:fS λT(y:oG)=>[ts 5 [tr y.g.bR,tr y.g.Seq,tr y.g.ca,tr y.g.cg,tT T y.g.j],tr y.back,tr y.oO]:=fO
structure State where
 X:X
 deriving Inhabited,DecidableEq
instance:Rp State:=Rp.dH inferInstance λx=>x.X
instance:eM λx:State=>[te x.X]:=eR
instance:Flat State:=kn
structure Cz where
 e0:bI [215,216,217]
 e1:bI [215,216,217]
 e2:bI [215,216,217]
 e3:bI [215,216,217]
 deriving Inhabited,DecidableEq
instance:Rp Cz:=Rp.dH inferInstance λx=>(x.e0,x.e1,x.e2,x.e3)
instance:eM λx:Cz=>[te x.e0,te x.e1,te x.e2,te x.e3]:=eR
instance:Flat Cz:=kn
instance:gV H 43 5 UInt8:=gR underlying43
instance:cp H 198 (cm 128 UInt8):=cr
instance:cp H 5 UInt8:=cr
theorem iz:Ty H 5 UInt8:=cj.h
instance:dV H 25 [(0,1),(1,1),(2,1),(3,1),(4,1),(5,1)] [tw,ti,ti,ti,ti,ti]:=eP underlying25
instance:dF H 25 [tw,ti,ti,ti,ti,ti]:=dZ
instance:cp H 25 J:=cr
instance:dV H 45 [(0,1),(1,1),(2,1),(3,1)] [tc,ti,ti,tn]:=eP underlying45
instance:dV H 48 [(0,1),(1,4),(5,1),(6,1),(7,1),(8,1)] [tc,ts 4 [tc,ti,ti,tn],ti,ti,tb,tn]:=eP underlying48
instance:gV H 54 48 iA:=gR underlying54
instance:dF H 37 [tw,ti,ti,ti,ti,ti,tb,tw,ti,tb,ti,ti,tb,tb,tn,tw,tw,ti,ti,tn,tn,ti,tb,tn,tb]:=dZ
instance:aY H 25 2 2 1:=bc underlying25
instance:cp H 3 Int:=cr
theorem N9:Ty H 3 Int:=cj.h
instance:aY H 25 3 3 1:=bc underlying25
instance:aY H 25 1 1 1:=bc underlying25
instance:lT H 125 [(0,1),(1,1),(2,1)] [ti,ti,ti]:=uy 1 underlying125
instance:aY H 25 5 5 1:=bc underlying25
instance:gV H 199 125 iY:=gR underlying199
instance:gM H 199 125 iY:=gN underlying199
instance:cp H 125 iY:=cr
instance:dF H 125 [ti,ti,ti]:=dZ
instance:aY H 25 4 4 1:=bc underlying25
instance:dF H 96 [tn,tn,tb]:=dZ
instance:gV H 77 43 (List UInt8):=gR underlying77
instance:dV H 96 [(0,1),(1,1),(2,1)] [tn,tn,tb]:=eP underlying96
instance:cp H 96 aU:=cr
instance:aY H 25 0 0 1:=bc underlying25
instance:cp H 23 UInt32:=cr
theorem tR:Ty H 23 UInt32:=cj.h
instance:dV H 183 [(0,1),(1,1),(2,1),(3,1),(4,1),(5,1),(6,1),(7,1),(8,1),(9,1)] [tw,tw,ti,ti,ti,ti,ti,ti,ti,tb]:=eP underlying183
instance:cp H 183 cQ:=cr
instance:aY H 183 0 0 1:=bc underlying183
instance:aY H 183 2 2 1:=bc underlying183
instance:aY H 183 3 3 1:=bc underlying183
instance:aY H 183 4 4 1:=bc underlying183
instance:aY H 183 5 5 1:=bc underlying183
instance:aY H 183 1 1 1:=bc underlying183
instance:aY H 183 6 6 1:=bc underlying183
instance:aY H 183 8 8 1:=bc underlying183
instance:aY H 183 7 7 1:=bc underlying183
instance:dF H 3 [ti]:=dZ
instance:aY H 183 9 9 1:=bc underlying183
instance:cp H 4 Bool:=cr
theorem mL:Ty H 4 Bool:=cj.h
instance:gV H 250 253 Field:=gR underlying250
instance:gM H 250 253 Field:=gN underlying250
instance:cp H 253 Field:=cr
instance:dF H 253 [ti,ti,ti]:=dZ
instance:aY H 253 1 1 1:=bc underlying253
instance:aY H 253 2 2 1:=bc underlying253
instance:aY H 253 0 0 1:=bc underlying253
instance:gM H 43 5 UInt8:=gN underlying43
instance:lT H 365 [(0,1),(1,1),(2,1),(3,1),(4,1),(5,1),(6,1),(7,1),(8,1),(9,1),(10,1),(11,1),(12,1),(13,1),(14,1),(15,1)] [tw,tw,tw,tw,tw,tw,tw,tw,tw,tw,tw,tw,tw,tw,tw,tw]:=uy 1 underlying365
instance:cp H 365 (cm 16 UInt32):=cr
instance:aY H 96 0 0 1:=bc underlying96
instance:cp H 77 (List (List UInt8)):=cr
instance:aY H 96 1 1 1:=bc underlying96
instance:cp H 94 (List fB):=cr
instance:gM H 77 43 (List UInt8):=gN underlying77
instance:cp H 43 (List UInt8):=cr
instance:gM H 94 123 fB:=gN underlying94
instance:cp H 123 fB:=cr
instance:aY H 123 0 0 1:=bc underlying123
instance:aY H 123 1 1 1:=bc underlying123
instance:aY H 96 2 2 1:=bc underlying96
instance:dF H 123 [ti,tn]:=dZ
instance:dV H 123 [(0,1),(1,1)] [ti,tn]:=eP underlying123
instance:gV H 94 123 fB:=gR underlying94
instance:gV H 22 96 aU:=gR underlying22
instance:dV H 187 [(0,1),(1,1),(2,1),(3,1)] [tw,tw,tw,ti]:=eP underlying187
instance:cp H 187 fT:=cr
instance:aY H 187 1 1 1:=bc underlying187
theorem SX:mE H 187 1 1 1:=aY.h
instance:aY H 187 2 2 1:=bc underlying187
theorem V':mE H 187 2 2 1:=aY.h
instance:aY H 187 3 3 1:=bc underlying187
instance:dV H 260 [(0,1),(1,1),(2,1)] [tn,ti,ti]:=eP underlying260
instance:dF H 260 [tn,ti,ti]:=dZ
instance:aY H 260 2 2 1:=bc underlying260
instance:cp H 40 Int:=cr
instance:aY H 260 0 0 1:=bc underlying260
instance:aY H 260 1 1 1:=bc underlying260
instance:cp H 260 lM:=cr
instance:aY H 187 0 0 1:=bc underlying187
theorem Ro:mE H 187 0 0 1:=aY.h
instance:dV H 35 [(0,6),(6,1),(7,7),(14,1),(15,5),(20,1),(21,1),(22,1)] [ts 6 [tw,ti,ti,ti,ti,ti],tb,ts 7 [tw,ti,tb,ti,ti,tb,tb],tn,ts 5 [tw,tw,ti,ti,tn],tn,ti,tb]:=eP underlying35
instance:dV H 37 [(0,23),(23,1),(24,1)] [ts 23 [ts 6 [tw,ti,ti,ti,ti,ti],tb,ts 7 [tw,ti,tb,ti,ti,tb,tb],tn,ts 5 [tw,tw,ti,ti,tn],tn,ti,tb],tn,tb]:=eP underlying37
instance:dV H 67 [(0,25),(25,1)] [ts 25 [ts 23 [ts 6 [tw,ti,ti,ti,ti,ti],tb,ts 7 [tw,ti,tb,ti,ti,tb,tb],tn,ts 5 [tw,tw,ti,ti,tn],tn,ti,tb],tn,tb],tn]:=eP underlying67
instance:aY H 67 0 0 25:=bc underlying67
instance:aY H 37 2 24 1:=bc underlying37
instance:dF H 35 [tw,ti,ti,ti,ti,ti,tb,tw,ti,tb,ti,ti,tb,tb,tn,tw,tw,ti,ti,tn,tn,ti,tb]:=dZ
instance:aY H 37 1 23 1:=bc underlying37
instance:cp H 22 (List aU):=cr
instance:aY H 37 0 0 23:=bc underlying37
instance:aY H 35 0 0 6:=bc underlying35
instance:aY H 35 1 6 1:=bc underlying35
instance:dF H 28 [tw,ti,tb,ti,ti,tb,tb]:=dZ
instance:gM H 22 96 aU:=gN underlying22
instance:gM H 141 233 cd:=gN underlying141
instance:cp H 233 cd:=cr
instance:dF H 233 [ti,tc,ti,tn]:=dZ
instance:aY H 288 0 0 1:=bc underlying288
instance:aY H 288 1 1 1:=bc underlying288
instance:lT H 327 [(0,1),(1,1),(2,1),(3,1)] [tr (⟨0⟩ : bI [215, 216, 217]),tr (⟨0⟩ : bI [215, 216, 217]),tr (⟨0⟩ : bI [215, 216, 217]),tr (⟨0⟩ : bI [215, 216, 217])]:=uy 1 underlying327
instance:dF H 327 [tr (⟨0⟩ : bI [215, 216, 217]),tr (⟨0⟩ : bI [215, 216, 217]),tr (⟨0⟩ : bI [215, 216, 217]),tr (⟨0⟩ : bI [215, 216, 217])]:=dZ
instance:cp H 327 Cz:=cr
instance:cp H 286 (bI [215, 216, 217]):=cr
instance:aY H 288 2 2 1:=bc underlying288
instance:aY H 288 3 3 1:=bc underlying288
instance:dF H 332 [ta 160 (cm.mk (dr 16 (cQ.mk (0 : UInt32) (0 : UInt32) (0 : Int) (0 : Int) (0 : Int) (0 : Int) (0 : Int) (0 : Int) (0 : Int) false)) : cm 16 cQ),ta 16 (cm.mk (dr 16 false) : cm 16 Bool),tw,tw,ti,ti,ti,ti,ti,ti,ti,tb]:=⟨⟨⟨((dr 16 [.int .u32 0, .int .u32 0, .int .i64 0, .int .i64 0, .int .i64 0, .int .i64 0, .int .i64 0, .int .i64 0, .int .i64 0, .bool false]).flatten ++ ((dr 16 [.bool false]).flatten ++ (.int .u32 0 :: (.int .u32 0 :: (.int .i64 0 :: (.int .i64 0 :: (.int .i64 0 :: (.int .i64 0 :: (.int .i64 0 :: (.int .i64 0 :: (.int .i64 0 :: (.bool false :: [])))))))))))), by kernel_rfl, λg w => by exact bk.za (λ_ _ => cm.zero 16 (⟨[.int .u32 0], [.int .u32 0, .int .i64 0, .int .i64 0, .int .i64 0, .int .i64 0, .int .i64 0, .int .i64 0, .int .i64 0, .bool false], rfl, rfl, ⟨[.int .u32 0], [.int .i64 0, .int .i64 0, .int .i64 0, .int .i64 0, .int .i64 0, .int .i64 0, .int .i64 0, .bool false], rfl, rfl, ⟨[.int .i64 0], [.int .i64 0, .int .i64 0, .int .i64 0, .int .i64 0, .int .i64 0, .int .i64 0, .bool false], rfl, rfl, ⟨[.int .i64 0], [.int .i64 0, .int .i64 0, .int .i64 0, .int .i64 0, .int .i64 0, .bool false], rfl, rfl, ⟨[.int .i64 0], [.int .i64 0, .int .i64 0, .int .i64 0, .int .i64 0, .bool false], rfl, rfl, ⟨[.int .i64 0], [.int .i64 0, .int .i64 0, .int .i64 0, .bool false], rfl, rfl, ⟨[.int .i64 0], [.int .i64 0, .int .i64 0, .bool false], rfl, rfl, ⟨[.int .i64 0], [.int .i64 0, .bool false], rfl, rfl, ⟨[.int .i64 0], [.bool false], rfl, rfl, rfl⟩⟩⟩⟩⟩⟩⟩⟩⟩)) (bk.za (λ_ _ => cm.zero 16 (rfl)) (bk.zr (λ_ _ => rfl) (bk.zr (λ_ _ => rfl) (bk.zr (λ_ _ => rfl) (bk.zr (λ_ _ => rfl) (bk.zr (λ_ _ => rfl) (bk.zr (λ_ _ => rfl) (bk.zr (λ_ _ => rfl) (bk.zr (λ_ _ => rfl) (bk.zr (λ_ _ => rfl) (bk.zr (λ_ _ => rfl) (rfl))))))))))))⟩⟩⟩
instance:dF H 183 [tw,tw,ti,ti,ti,ti,ti,ti,ti,tb]:=dZ
instance:dF H 43 [tn]:=dZ
instance:dF H 40 [ti]:=dZ
instance:gV H 162 3 Int:=gR underlying162
instance:gM H 162 3 Int:=gN underlying162
instance:aY H 332 0 0 160:=bc underlying332
instance:aY H 332 1 160 16:=bc underlying332
instance:gV H 373 183 cQ:=gR underlying373
instance:dV H 332 [(0,160),(160,16),(176,10)] [ta 160 (cm.mk (dr 16 (cQ.mk (0 : UInt32) (0 : UInt32) (0 : Int) (0 : Int) (0 : Int) (0 : Int) (0 : Int) (0 : Int) (0 : Int) false)) : cm 16 cQ),ta 16 (cm.mk (dr 16 false) : cm 16 Bool),ts 10 [tw,tw,ti,ti,ti,ti,ti,ti,ti,tb]]:=⟨⟨⟨_, ((dr 16 [.int .u32 0, .int .u32 0, .int .i64 0, .int .i64 0, .int .i64 0, .int .i64 0, .int .i64 0, .int .i64 0, .int .i64 0, .bool false]).flatten ++ ((dr 16 [.bool false]).flatten ++ ([.int .u32 0, .int .u32 0, .int .i64 0, .int .i64 0, .int .i64 0, .int .i64 0, .int .i64 0, .int .i64 0, .int .i64 0, .bool false] ++ []))), by kernel_rfl, underlying332, (λg w => by exact bk.za (λ_ _ => cm.zero 16 (⟨[.int .u32 0], [.int .u32 0, .int .i64 0, .int .i64 0, .int .i64 0, .int .i64 0, .int .i64 0, .int .i64 0, .int .i64 0, .bool false], rfl, rfl, ⟨[.int .u32 0], [.int .i64 0, .int .i64 0, .int .i64 0, .int .i64 0, .int .i64 0, .int .i64 0, .int .i64 0, .bool false], rfl, rfl, ⟨[.int .i64 0], [.int .i64 0, .int .i64 0, .int .i64 0, .int .i64 0, .int .i64 0, .int .i64 0, .bool false], rfl, rfl, ⟨[.int .i64 0], [.int .i64 0, .int .i64 0, .int .i64 0, .int .i64 0, .int .i64 0, .bool false], rfl, rfl, ⟨[.int .i64 0], [.int .i64 0, .int .i64 0, .int .i64 0, .int .i64 0, .bool false], rfl, rfl, ⟨[.int .i64 0], [.int .i64 0, .int .i64 0, .int .i64 0, .bool false], rfl, rfl, ⟨[.int .i64 0], [.int .i64 0, .int .i64 0, .bool false], rfl, rfl, ⟨[.int .i64 0], [.int .i64 0, .bool false], rfl, rfl, ⟨[.int .i64 0], [.bool false], rfl, rfl, rfl⟩⟩⟩⟩⟩⟩⟩⟩⟩)) (bk.za (λ_ _ => cm.zero 16 (rfl)) (bk.zs (c1 := [.int .u32 0, .int .u32 0, .int .i64 0, .int .i64 0, .int .i64 0, .int .i64 0, .int .i64 0, .int .i64 0, .int .i64 0, .bool false]) (bk.zr (λ_ _ => rfl) (bk.zr (λ_ _ => rfl) (bk.zr (λ_ _ => rfl) (bk.zr (λ_ _ => rfl) (bk.zr (λ_ _ => rfl) (bk.zr (λ_ _ => rfl) (bk.zr (λ_ _ => rfl) (bk.zr (λ_ _ => rfl) (bk.zr (λ_ _ => rfl) (bk.zr (λ_ _ => rfl) (rfl))))))))))) (rfl)))), by kernel_rfl⟩⟩⟩
instance:cp H 332 lU:=cr
instance:gM H 373 183 cQ:=gN underlying373
instance:cp H 329 (cm 16 cQ):=cr
instance:aY H 332 2 176 10:=bc underlying332
instance:cp H 28 X:=cr
instance:dV H 28 [(0,1),(1,1),(2,1),(3,1),(4,1),(5,1),(6,1)] [tw,ti,tb,ti,ti,tb,tb]:=eP underlying28
instance:aY H 28 1 1 1:=bc underlying28
instance:aY H 28 2 2 1:=bc underlying28
instance:aY H 28 3 3 1:=bc underlying28
instance:aY H 28 4 4 1:=bc underlying28
instance:cp H 35 N:=cr
instance:dV H 295 [(0,23),(23,1),(24,1)] [ts 23 [ts 6 [tw,ti,ti,ti,ti,ti],tb,ts 7 [tw,ti,tb,ti,ti,tb,tb],tn,ts 5 [tw,tw,ti,ti,tn],tn,ti,tb],tn,ti]:=eP underlying295
instance:dF H 293 [(false,1,.top)]:=⟨⟨⟨[.pointer none], by kernel_rfl, λg w => bk.zp rfl (rfl)⟩⟩⟩
instance:dF H 187 [tw,tw,tw,ti]:=dZ
instance:dF H 296 [tn]:=dZ
instance:cp H 296 (List fj):=cr
instance:dF H 344 [tw,tw,ti,tn,tn,tn]:=dZ
instance:dF H 415 [tw,tw,tw,ti,tn]:=dZ
instance:dV H 441 [(0,1),(1,1)] [tn,ti]:=eP underlying441
instance:dF H 106 [(false,1,.top)]:=dZ
instance:cp H 106 Int:=cr
instance:aY H 415 0 0 1:=bc underlying415
instance:aY H 415 1 1 1:=bc underlying415
instance:aY H 415 2 2 1:=bc underlying415
instance:aY H 415 3 3 1:=bc underlying415
instance:aY H 415 4 4 1:=bc underlying415
instance:cp H 413 (List fJ):=cr
instance:dV H 422 [(0,1),(1,1),(2,1)] [tc,tb,tw]:=eP underlying422
instance:gV H 413 422 fJ:=gR underlying413
instance:cp H 415 iO:=cr
instance:gM H 413 422 fJ:=gN underlying413
instance:cp H 422 fJ:=cr
instance:dF H 422 [tc,tb,tw]:=dZ
instance:aY H 422 0 0 1:=bc underlying422
instance:aY H 422 1 1 1:=bc underlying422
instance:aY H 422 2 2 1:=bc underlying422
instance:dV H 415 [(0,1),(1,1),(2,1),(3,1),(4,1)] [tw,tw,tw,ti,tn]:=eP underlying415
instance:dV H 344 [(0,1),(1,1),(2,4)] [tw,tw,ts 4 [ti,tn,tn,tn]]:=eP underlying344
instance:cp H 344 fj:=cr
instance:dV H 342 [(0,1),(1,1),(2,1),(3,1)] [ti,tn,tn,tn]:=eP underlying342
instance:aY H 344 2 2 4:=bc underlying344
instance:aY H 342 3 3 1:=bc underlying342
instance:aY H 342 1 1 1:=bc underlying342
instance:cp H 162 (List Int):=cr
instance:aY H 342 2 2 1:=bc underlying342
instance:cp H 342 bl:=cr
instance:aY H 342 0 0 1:=bc underlying342
instance:cp H 380 Int:=cr
instance:aY H 344 1 1 1:=bc underlying344
instance:aY H 344 0 0 1:=bc underlying344
instance:gV H 296 344 fj:=gR underlying296
instance:cp H 293 Int:=cr
instance:aY H 295 0 0 23:=bc underlying295
instance:aY H 35 2 7 7:=bc underlying35
instance:aY H 28 5 5 1:=bc underlying28
instance:dF H 32 [tw,tw,ti,ti,tn]:=dZ
instance:dV H 32 [(0,1),(1,1),(2,1),(3,1),(4,1)] [tw,tw,ti,ti,tn]:=eP underlying32
instance:cp H 32 K:=cr
instance:aY H 35 4 15 5:=bc underlying35
instance:aY H 295 2 24 1:=bc underlying295
instance:aY H 28 0 0 1:=bc underlying28
instance:aY H 28 6 6 1:=bc underlying28
instance:dV H 233 [(0,1),(1,1),(2,1),(3,1)] [ti,tc,ti,tn]:=eP underlying233
instance:gV H 141 233 cd:=gR underlying141
instance:aY H 295 1 23 1:=bc underlying295
instance:cp H 141 (List cd):=cr
instance:dF H 304 [tn]:=dZ
instance:dF H 141 [tn]:=dZ
instance:gM H 296 344 fj:=gN underlying296
instance:dV H 351 [(0,1),(1,1)] [(false,1,.top),tn]:=⟨⟨⟨_, [.map none, .slice none 0 0], by kernel_rfl, underlying351, (λg w => bk.zp rfl (bk.M (rfl))), by kernel_rfl⟩⟩⟩
instance:dF H 348 [(false,1,.top)]:=⟨⟨⟨[.pointer none], by kernel_rfl, λg w => bk.zp rfl (rfl)⟩⟩⟩
instance:cp H 348 Int:=cr
instance:aY H 351 0 0 1:=bc underlying351
instance:cp H 349 Int:=cr
instance:aY H 351 1 1 1:=bc underlying351
instance:dV H 430 [(0,6),(6,1),(7,1),(8,1)] [ts 6 [tw,ti,ti,ti,ti,ti],ti,ti,tn]:=eP underlying430
instance:aY H 430 0 0 6:=bc underlying430
instance:aY H 430 2 7 1:=bc underlying430
instance:dF H 105 [tw,ti,ti,ti,ti,ti,ti]:=dZ
instance:dV H 105 [(0,6),(6,1)] [ts 6 [tw,ti,ti,ti,ti,ti],ti]:=eP underlying105
instance:cp H 105 jS:=cr
instance:aY H 105 1 6 1:=bc underlying105
instance:aY H 105 0 0 6:=bc underlying105
instance:aY H 430 1 6 1:=bc underlying430
instance:aY H 430 3 8 1:=bc underlying430
instance:gV H 304 342 bl:=gR underlying304
instance:cp H 304 (List bl):=cr
instance:gM H 304 342 bl:=gN underlying304
instance:dF H 342 [ti,tn,tn,tn]:=dZ
instance:aY H 32 0 0 1:=bc underlying32
instance:aY H 32 1 1 1:=bc underlying32
instance:aY H 32 2 2 1:=bc underlying32
instance:dV H 269 [(0,5),(5,6)] [ts 5 [tw,tw,ti,ti,tn],ts 6 [tw,ti,ti,ti,ti,ti]]:=eP underlying269
instance:aY H 269 1 5 6:=bc underlying269
instance:aY H 269 0 0 5:=bc underlying269
instance:aY H 32 4 4 1:=bc underlying32
instance:cp H 30 (List j):=cr
instance:aY H 32 3 3 1:=bc underlying32
instance:gM H 30 133 j:=gN underlying30
instance:cp H 133 j:=cr
instance:dF H 133 [tw,ti,ti,tb,tb,tb]:=dZ
instance:aY H 133 1 1 1:=bc underlying133
instance:aY H 133 2 2 1:=bc underlying133
instance:aY H 133 0 0 1:=bc underlying133
instance:aY H 133 4 4 1:=bc underlying133
instance:dF H 4 [tb]:=dZ
instance:dF H 208 [(false,1,.top)]:=⟨⟨⟨[.map none], by kernel_rfl, λg w => bk.zp rfl (rfl)⟩⟩⟩
instance:aY H 133 5 5 1:=bc underlying133
instance:aY H 133 3 3 1:=bc underlying133
instance:cp H 208 Int:=cr
instance:gV H 30 133 j:=gR underlying30
instance:dF H 77 [tn]:=dZ
instance:dV H 133 [(0,1),(1,1),(2,1),(3,1),(4,1),(5,1)] [tw,ti,ti,tb,tb,tb]:=eP underlying133
instance:dF H 79 [ti,tn,tn,tc,tb,tw]:=dZ
instance:gV H 46 4 Bool:=gR underlying46
instance:dV H 79 [(0,1),(1,1),(2,1),(3,1),(4,1),(5,1)] [ti,tn,tn,tc,tb,tw]:=eP underlying79
instance:cp H 79 aM:=cr
instance:aY H 79 0 0 1:=bc underlying79
instance:aY H 79 1 1 1:=bc underlying79
instance:aY H 79 2 2 1:=bc underlying79
instance:cp H 46 (List Bool):=cr
instance:aY H 79 3 3 1:=bc underlying79
instance:gM H 46 4 Bool:=gN underlying46
instance:aY H 79 5 5 1:=bc underlying79
instance:aY H 79 4 4 1:=bc underlying79
instance:aY H 35 3 14 1:=bc underlying35
instance:cp H 29 (List aM):=cr
instance:gM H 29 79 aM:=gN underlying29
instance:gV H 29 79 aM:=gR underlying29
instance:aY H 35 6 21 1:=bc underlying35
instance:aY H 233 0 0 1:=bc underlying233
instance:aY H 233 1 1 1:=bc underlying233
instance:cp H 37 eQ:=cr
instance:gM H 54 48 iA:=gN underlying54
instance:cp H 48 iA:=cr
instance:dF H 48 [tc,tc,ti,ti,tn,ti,ti,tb,tn]:=dZ
instance:aY H 35 5 20 1:=bc underlying35
instance:cp H 33 (List dq):=cr
instance:gM H 33 120 dq:=gN underlying33
instance:cp H 120 dq:=cr
instance:dF H 120 [ti,tc,ti,ti,tn,tn,tn,tn]:=dZ
instance:aY H 120 1 1 4:=bc underlying120
instance:cp H 45 aZ:=cr
instance:aY H 45 0 0 1:=bc underlying45
instance:dF H 276 [ti,tb,tb]:=dZ
instance:aY H 276 1 1 1:=bc underlying276
instance:aY H 276 2 2 1:=bc underlying276
instance:aY H 276 0 0 1:=bc underlying276
instance:cp H 276 Form:=cr
instance:aY H 45 1 1 1:=bc underlying45
instance:aY H 45 2 2 1:=bc underlying45
instance:aY H 45 3 3 1:=bc underlying45
instance:aY H 120 0 0 1:=bc underlying120
instance:aY H 120 2 5 1:=bc underlying120
instance:aY H 120 4 7 1:=bc underlying120
instance:aY H 120 3 6 1:=bc underlying120
instance:cp H 118 (List UInt32):=cr
instance:gM H 118 23 UInt32:=gN underlying118
instance:dF H 72 [ti,ti,ti]:=dZ
instance:dV H 72 [(0,1),(1,1),(2,1)] [ti,ti,ti]:=eP underlying72
instance:cp H 72 ky:=cr
instance:aY H 72 0 0 1:=bc underlying72
instance:aY H 72 1 1 1:=bc underlying72
instance:aY H 48 0 0 1:=bc underlying48
instance:lT H 91 [(0,1),(1,1),(2,1),(3,1),(4,1),(5,1),(6,1),(7,1),(8,1),(9,1),(10,1),(11,1)] [tr (⟨0⟩ : bI [29, 30, 31, 32, 33, 34, 35, 36, 37, 38, 39]),tr (⟨0⟩ : bI [29, 30, 31, 32, 33, 34, 35, 36, 37, 38, 39]),tr (⟨0⟩ : bI [29, 30, 31, 32, 33, 34, 35, 36, 37, 38, 39]),tr (⟨0⟩ : bI [29, 30, 31, 32, 33, 34, 35, 36, 37, 38, 39]),tr (⟨0⟩ : bI [29, 30, 31, 32, 33, 34, 35, 36, 37, 38, 39]),tr (⟨0⟩ : bI [29, 30, 31, 32, 33, 34, 35, 36, 37, 38, 39]),tr (⟨0⟩ : bI [29, 30, 31, 32, 33, 34, 35, 36, 37, 38, 39]),tr (⟨0⟩ : bI [29, 30, 31, 32, 33, 34, 35, 36, 37, 38, 39]),tr (⟨0⟩ : bI [29, 30, 31, 32, 33, 34, 35, 36, 37, 38, 39]),tr (⟨0⟩ : bI [29, 30, 31, 32, 33, 34, 35, 36, 37, 38, 39]),tr (⟨0⟩ : bI [29, 30, 31, 32, 33, 34, 35, 36, 37, 38, 39]),tr (⟨0⟩ : bI [29, 30, 31, 32, 33, 34, 35, 36, 37, 38, 39])]:=uy 1 underlying91
instance:cp H 91 (cm 12 (bI [29, 30, 31, 32, 33, 34, 35, 36, 37, 38, 39])):=cr
instance:cp H 61 (bI [29, 30, 31, 32, 33, 34, 35, 36, 37, 38, 39]):=cr
theorem Q9:Ty H 61 (bI [29, 30, 31, 32, 33, 34, 35, 36, 37, 38, 39]):=cj.h
instance:gV H 118 23 UInt32:=gR underlying118
instance:gV H 33 120 dq:=gR underlying33
theorem N_:gu H 33 120 dq:=de.h
instance:aY H 67 1 25 1:=bc underlying67
instance:cp H 39 (List kQ):=cr
instance:aY H 48 2 5 1:=bc underlying48
instance:aY H 48 3 6 1:=bc underlying48
instance:dV H 243 [(0,1),(1,1),(2,1),(3,1)] [tc,ti,ti,ti]:=eP underlying243
instance:gV H 168 171 (gQ [243, 245, 247] au):=gR underlying168
instance:lT H 310 [(0,1),(1,1),(2,1)] [tc,tc,tc]:=uy 1 underlying310
instance:dV H 245 [(0,1),(1,1),(2,1),(3,1)] [tc,ti,ti,ti]:=eP underlying245
instance:dV H 247 [(0,1),(1,1),(2,1),(3,1)] [tc,ti,ti,ti]:=eP underlying247
instance:gM H 168 171 (gQ [243, 245, 247] au):=gN underlying168
instance:cp H 171 (gQ [243, 245, 247] au):=cr
instance:aY H 243 1 1 1:=bc underlying243
instance:aY H 243 2 2 1:=bc underlying243
instance:dF H 45 [tc,ti,ti,tn]:=dZ
instance:aY H 245 3 3 1:=bc underlying245
instance:aY H 245 0 0 1:=bc underlying245
instance:dV H 475 [(0,23),(23,1),(24,1)] [ts 23 [ts 6 [tw,ti,ti,ti,ti,ti],tb,ts 7 [tw,ti,tb,ti,ti,tb,tb],tn,ts 5 [tw,tw,ti,ti,tn],tn,ti,tb],tn,ti]:=eP underlying475
instance:aY H 475 2 24 1:=bc underlying475
instance:dF H 472 [(false,1,.top)]:=⟨⟨⟨[.pointer none], by kernel_rfl, λg w => bk.zp rfl (rfl)⟩⟩⟩
instance:cp H 472 Int:=cr
instance:aY H 475 0 0 23:=bc underlying475
instance:dF H 23 [tw]:=dZ
instance:cp H 522 Int:=cr
instance:aY H 475 1 23 1:=bc underlying475
instance:aY H 247 0 0 1:=bc underlying247
instance:dF H 145 [tc,ti,ti,ti]:=dZ
instance:dF H 243 [tc,ti,ti,ti]:=dZ
instance:cp H 243 au:=cr
instance:cp H 145 au:=cr
instance:dF H 245 [tc,ti,ti,ti]:=dZ
instance:cp H 245 au:=cr
instance:dF H 247 [tc,ti,ti,ti]:=dZ
instance:cp H 247 au:=cr
instance:gV H 49 145 au:=gR underlying49
instance:dV H 175 [(0,23),(23,1)] [ts 23 [ts 6 [tw,ti,ti,ti,ti,ti],tb,ts 7 [tw,ti,tb,ti,ti,tb,tb],tn,ts 5 [tw,tw,ti,ti,tn],tn,ti,tb],tn]:=eP underlying175
instance:aY H 175 0 0 23:=bc underlying175
instance:dV H 145 [(0,1),(1,1),(2,1),(3,1)] [tc,ti,ti,ti]:=eP underlying145
instance:cp H 175 g6:=cr
instance:dV H 179 [(0,4),(4,1)] [ts 4 [tc,ti,ti,ti],(false,1,.top)]:=eP underlying179
instance:gV H 173 179 kV:=gR underlying173
instance:gM H 173 179 kV:=gN underlying173
instance:cp H 179 kV:=cr
instance:dF H 179 [tc,ti,ti,ti,(false,1,.top)]:=dZ
instance:aY H 179 0 0 4:=bc underlying179
instance:gM H 49 145 au:=gN underlying49
instance:aY H 145 0 0 1:=bc underlying145
instance:dF H 5 [tc]:=dZ
instance:dF H 496 [tc,tn]:=dZ
instance:dV H 496 [(0,1),(1,1)] [tc,tn]:=eP underlying496
instance:cp H 496 eE:=cr
instance:aY H 496 1 1 1:=bc underlying496
instance:gV H 510 496 eE:=gR underlying510
instance:gM H 510 496 eE:=gN underlying510
instance:dF H 112 [(false,1,.top)]:=dZ
instance:cp H 112 Int:=cr
instance:dF H 516 [(false,1,.fz H [] ((none : Option (Option (List Int))) : Option (Option (List Int)))),(false,1,.fz H [] ((none : Option (Option (List Int))) : Option (Option (List Int)))),(false,1,.fz H [] ((none : Option (Option (List Int))) : Option (Option (List Int)))),(false,1,.fz H [] ((none : Option (Option (List Int))) : Option (Option (List Int))))]:=dZ
instance:lT H 516 [(0,1),(1,1),(2,1),(3,1)] [(false,1,.fz H [] ((none : Option (Option (List Int))) : Option (Option (List Int)))),(false,1,.fz H [] ((none : Option (Option (List Int))) : Option (Option (List Int)))),(false,1,.fz H [] ((none : Option (Option (List Int))) : Option (Option (List Int)))),(false,1,.fz H [] ((none : Option (Option (List Int))) : Option (Option (List Int))))]:=uy 1 underlying516
instance:cp H 516 (Int × Int × Int × Int):=cr
instance:aY H 496 0 0 1:=bc underlying496
instance:cp H 515 Int:=cr
instance:dV H 325 [(0,5),(5,1),(6,1)] [ts 5 [tw,tw,ti,ti,tn],tb,tb]:=eP underlying325
instance:aY H 325 1 5 1:=bc underlying325
instance:cp H 325 oG:=cr
instance:aY H 325 0 0 5:=bc underlying325
instance:dV H 58 [(0,1),(1,1),(2,1),(3,1)] [ti,ti,tn,ti]:=eP underlying58
instance:gV H 39 58 kQ:=gR underlying39
instance:aY H 179 1 4 1:=bc underlying179
instance:cp H 177 Int:=cr
instance:aY H 145 3 3 1:=bc underlying145
instance:aY H 175 1 23 1:=bc underlying175
instance:dV H 225 [(0,7)] [ts 7 [tw,ti,tb,ti,ti,tb,tb]]:=eP underlying225
instance:aY H 225 0 0 7:=bc underlying225
instance:aY H 48 1 1 4:=bc underlying48
instance:dV H 120 [(0,1),(1,4),(5,1),(6,1),(7,1)] [ti,ts 4 [tc,ti,ti,tn],tn,tn,tn]:=eP underlying120
instance:gM H 39 58 kQ:=gN underlying39
instance:aY H 58 0 0 1:=bc underlying58
instance:aY H 58 1 1 1:=bc underlying58
instance:dh H 2 (.int .i64):=⟨underlying2⟩
instance:dh H 3 (.int .i64):=⟨underlying3⟩
instance:dh H 4 (.bool):=⟨underlying4⟩
instance:dh H 5 (.int .u8):=⟨underlying5⟩
instance:dh H 9 (.string):=⟨underlying9⟩
instance:dh H 22 (.slice 96):=⟨underlying22⟩
instance:dh H 23 (.int .u32):=⟨underlying23⟩
instance:dh H 29 (.slice 79):=⟨underlying29⟩
instance:dh H 30 (.slice 133):=⟨underlying30⟩
instance:dh H 33 (.slice 120):=⟨underlying33⟩
instance:dh H 39 (.slice 58):=⟨underlying39⟩
instance:dh H 43 (.slice 5):=⟨underlying43⟩
instance:dh H 46 (.slice 4):=⟨underlying46⟩
instance:dh H 49 (.slice 145):=⟨underlying49⟩
instance:dh H 54 (.slice 48):=⟨underlying54⟩
instance:dh H 61 (.func #[64, 48] #[40] false):=⟨underlying61⟩
instance:dh H 77 (.slice 43):=⟨underlying77⟩
instance:dh H 91 (.array 12 61):=⟨underlying91⟩
instance:dh H 94 (.slice 123):=⟨underlying94⟩
instance:dh H 118 (.slice 23):=⟨underlying118⟩
instance:dh H 125 (.array 3 3):=⟨underlying125⟩
instance:dh H 130 (.map 3 5):=⟨underlying130⟩
instance:dh H 141 (.slice 233):=⟨underlying141⟩
instance:dh H 162 (.slice 3):=⟨underlying162⟩
instance:dh H 168 (.slice 171):=⟨underlying168⟩
instance:dh H 173 (.slice 179):=⟨underlying173⟩
instance:dh H 198 (.array 128 5):=⟨underlying198⟩
instance:dh H 199 (.slice 125):=⟨underlying199⟩
instance:dh H 208 (.map 3 3):=⟨underlying208⟩
instance:dh H 250 (.slice 253):=⟨underlying250⟩
instance:dh H 286 (.func #[288, 96] #[96, 40] false):=⟨underlying286⟩
instance:dh H 296 (.slice 344):=⟨underlying296⟩
instance:dh H 304 (.slice 342):=⟨underlying304⟩
instance:dh H 310 (.array 3 5):=⟨underlying310⟩
instance:dh H 327 (.array 4 286):=⟨underlying327⟩
instance:dh H 329 (.array 16 183):=⟨underlying329⟩
instance:dh H 330 (.array 16 4):=⟨underlying330⟩
instance:dh H 349 (.map 3 354):=⟨underlying349⟩
instance:dh H 354 (.pointer 342):=⟨underlying354⟩
instance:dh H 365 (.array 16 23):=⟨underlying365⟩
instance:dh H 367 (.int .u64):=⟨underlying367⟩
instance:dh H 373 (.slice 183):=⟨underlying373⟩
instance:dh H 400 (.map 3 4):=⟨underlying400⟩
instance:dh H 405 (.pointer 23):=⟨underlying405⟩
instance:dh H 406 (.map 405 3):=⟨underlying406⟩
instance:dh H 411 (.pointer 40):=⟨underlying411⟩
instance:dh H 413 (.slice 422):=⟨underlying413⟩
instance:dh H 510 (.slice 496):=⟨underlying510⟩
instance:dh H 515 (.func #[] #[162] false):=⟨underlying515⟩
instance:dh H 516 (.array 4 515):=⟨underlying516⟩
instance:lP 332 (λl=>[gL l 0,gL l 1,(true,10, .aK [gL l 2,gL l 3,gL l 4,gL l 5,gL l 6,gL l 7,gL l 8,gL l 9,gL l 10,gL l 11])]):=⟨trivial⟩
instance:lP 344 (λl=>[gL l 0,gL l 1,(true,4, .aK [gL l 2,gL l 3,gL l 4,gL l 5])]):=⟨trivial⟩
instance:lP 105 (λl=>[(true,6, .aK [gL l 0,gL l 1,gL l 2,gL l 3,gL l 4,gL l 5]),gL l 6]):=⟨trivial⟩
instance:lP 35 (λl=>[(true,6, .aK [gL l 0,gL l 1,gL l 2,gL l 3,gL l 4,gL l 5]),gL l 6,(true,7, .aK [gL l 7,gL l 8,gL l 9,gL l 10,gL l 11,gL l 12,gL l 13]),gL l 14,(true,5, .aK [gL l 15,gL l 16,gL l 17,gL l 18,gL l 19]),gL l 20,gL l 21,gL l 22]):=⟨trivial⟩
instance:lP 37 (λl=>[(true,23, .aK [(true,6, .aK [gL l 0,gL l 1,gL l 2,gL l 3,gL l 4,gL l 5]),gL l 6,(true,7, .aK [gL l 7,gL l 8,gL l 9,gL l 10,gL l 11,gL l 12,gL l 13]),gL l 14,(true,5, .aK [gL l 15,gL l 16,gL l 17,gL l 18,gL l 19]),gL l 20,gL l 21,gL l 22]),gL l 23,gL l 24]):=⟨trivial⟩
instance:lP 120 (λl=>[gL l 0,(true,4, .aK [gL l 1,gL l 2,gL l 3,gL l 4]),gL l 5,gL l 6,gL l 7]):=⟨trivial⟩
instance:lP 175 (λl=>[(true,23, .aK [(true,6, .aK [gL l 0,gL l 1,gL l 2,gL l 3,gL l 4,gL l 5]),gL l 6,(true,7, .aK [gL l 7,gL l 8,gL l 9,gL l 10,gL l 11,gL l 12,gL l 13]),gL l 14,(true,5, .aK [gL l 15,gL l 16,gL l 17,gL l 18,gL l 19]),gL l 20,gL l 21,gL l 22]),gL l 23]):=⟨trivial⟩
instance:lP 325 (λl=>[(true,5, .aK [gL l 0,gL l 1,gL l 2,gL l 3,gL l 4]),gL l 5,gL l 6]):=⟨trivial⟩
instance:lP 48 (λl=>[gL l 0,(true,4, .aK [gL l 1,gL l 2,gL l 3,gL l 4]),gL l 5,gL l 6,gL l 7,gL l 8]):=⟨trivial⟩
instance:kq iA (λl=>[gL l 0,(true,4, .aK [gL l 1,gL l 2,gL l 3,gL l 4]),gL l 5,gL l 6,gL l 7,gL l 8]):=⟨trivial⟩
instance:kq dq (λl=>[gL l 0,(true,4, .aK [gL l 1,gL l 2,gL l 3,gL l 4]),gL l 5,gL l 6,gL l 7]):=⟨trivial⟩
instance:kq N (λl=>[(true,6, .aK [gL l 0,gL l 1,gL l 2,gL l 3,gL l 4,gL l 5]),gL l 6,(true,7, .aK [gL l 7,gL l 8,gL l 9,gL l 10,gL l 11,gL l 12,gL l 13]),gL l 14,(true,5, .aK [gL l 15,gL l 16,gL l 17,gL l 18,gL l 19]),gL l 20,gL l 21,gL l 22]):=⟨trivial⟩
instance:kq eQ (λl=>[(true,23, .aK [(true,6, .aK [gL l 0,gL l 1,gL l 2,gL l 3,gL l 4,gL l 5]),gL l 6,(true,7, .aK [gL l 7,gL l 8,gL l 9,gL l 10,gL l 11,gL l 12,gL l 13]),gL l 14,(true,5, .aK [gL l 15,gL l 16,gL l 17,gL l 18,gL l 19]),gL l 20,gL l 21,gL l 22]),gL l 23,gL l 24]):=⟨trivial⟩
instance:kq World (λl=>[(true,25, .aK [(true,23, .aK [(true,6, .aK [gL l 0,gL l 1,gL l 2,gL l 3,gL l 4,gL l 5]),gL l 6,(true,7, .aK [gL l 7,gL l 8,gL l 9,gL l 10,gL l 11,gL l 12,gL l 13]),gL l 14,(true,5, .aK [gL l 15,gL l 16,gL l 17,gL l 18,gL l 19]),gL l 20,gL l 21,gL l 22]),gL l 23,gL l 24]),gL l 25]):=⟨trivial⟩
instance:kq fj (λl=>[gL l 0,gL l 1,(true,4, .aK [gL l 2,gL l 3,gL l 4,gL l 5])]):=⟨trivial⟩
instance:kq sw (λl=>[(true,23, .aK [(true,6, .aK [gL l 0,gL l 1,gL l 2,gL l 3,gL l 4,gL l 5]),gL l 6,(true,7, .aK [gL l 7,gL l 8,gL l 9,gL l 10,gL l 11,gL l 12,gL l 13]),gL l 14,(true,5, .aK [gL l 15,gL l 16,gL l 17,gL l 18,gL l 19]),gL l 20,gL l 21,gL l 22]),gL l 23,gL l 24]):=⟨trivial⟩
instance:kq jS (λl=>[(true,6, .aK [gL l 0,gL l 1,gL l 2,gL l 3,gL l 4,gL l 5]),gL l 6]):=⟨trivial⟩
instance:kq Ring (λl=>[(true,5, .aK [gL l 0,gL l 1,gL l 2,gL l 3,gL l 4]),(true,6, .aK [gL l 5,gL l 6,gL l 7,gL l 8,gL l 9,gL l 10])]):=⟨trivial⟩
instance:kq oC (λl=>[(true,23, .aK [(true,6, .aK [gL l 0,gL l 1,gL l 2,gL l 3,gL l 4,gL l 5]),gL l 6,(true,7, .aK [gL l 7,gL l 8,gL l 9,gL l 10,gL l 11,gL l 12,gL l 13]),gL l 14,(true,5, .aK [gL l 15,gL l 16,gL l 17,gL l 18,gL l 19]),gL l 20,gL l 21,gL l 22]),gL l 23,gL l 24]):=⟨trivial⟩
instance:kq g6 (λl=>[(true,23, .aK [(true,6, .aK [gL l 0,gL l 1,gL l 2,gL l 3,gL l 4,gL l 5]),gL l 6,(true,7, .aK [gL l 7,gL l 8,gL l 9,gL l 10,gL l 11,gL l 12,gL l 13]),gL l 14,(true,5, .aK [gL l 15,gL l 16,gL l 17,gL l 18,gL l 19]),gL l 20,gL l 21,gL l 22]),gL l 23]):=⟨trivial⟩
instance:kq kV (λl=>[(true,4, .aK [gL l 0,gL l 1,gL l 2,gL l 3]),gL l 4]):=⟨trivial⟩
instance:kq oG (λl=>[(true,5, .aK [gL l 0,gL l 1,gL l 2,gL l 3,gL l 4]),gL l 5,gL l 6]):=⟨trivial⟩
instance:kq State (λl=>[(true,7, .aK [gL l 0,gL l 1,gL l 2,gL l 3,gL l 4,gL l 5,gL l 6])]):=⟨trivial⟩
abbrev C1{α0 β:Type}[Rp α0](k:FuncId)(F:α0->Option β)(o:β->bm)(t:List Nat:=[]):Prop:=∀a⦃r⦄,F a=some r->CT k [.rep 0 a] (o r) t
abbrev C2{α0 α1 β:Type}[Rp α0][Rp α1](k:FuncId)(F:α0->α1->Option β)(o:β->bm)(t:List Nat:=[]):Prop:=∀a b⦃r⦄,F a b=some r->CT k [.rep 0 a,.rep 0 b] (o r) t
abbrev C3{α0 α1 α2 β:Type}[Rp α0][Rp α1][Rp α2](k:FuncId)(F:α0->α1->α2->Option β)(o:β->bm)(t:List Nat:=[]):Prop:=∀a b c⦃r⦄,F a b c=some r->CT k [.rep 0 a,.rep 0 b,.rep 0 c] (o r) t
abbrev C4{α0 α1 α2 α3 β:Type}[Rp α0][Rp α1][Rp α2][Rp α3](k:FuncId)(F:α0->α1->α2->α3->Option β)(o:β->bm)(t:List Nat:=[]):Prop:=∀a b c d⦃r⦄,F a b c d=some r->CT k [.rep 0 a,.rep 0 b,.rep 0 c,.rep 0 d] (o r) t
abbrev C5{α0 α1 α2 α3 α4 β:Type}[Rp α0][Rp α1][Rp α2][Rp α3][Rp α4](k:FuncId)(F:α0->α1->α2->α3->α4->Option β)(o:β->bm)(t:List Nat:=[]):Prop:=∀a b c d e⦃r⦄,F a b c d e=some r->CT k [.rep 0 a,.rep 0 b,.rep 0 c,.rep 0 d,.rep 0 e] (o r) t
abbrev C6{α0 α1 α2 α3 α4 α5 β:Type}[Rp α0][Rp α1][Rp α2][Rp α3][Rp α4][Rp α5](k:FuncId)(F:α0->α1->α2->α3->α4->α5->Option β)(o:β->bm)(t:List Nat:=[]):Prop:=∀a b c d e f⦃r⦄,F a b c d e f=some r->CT k [.rep 0 a,.rep 0 b,.rep 0 c,.rep 0 d,.rep 0 e,.rep 0 f] (o r) t
abbrev C7{α0 α1 α2 α3 α4 α5 α6 β:Type}[Rp α0][Rp α1][Rp α2][Rp α3][Rp α4][Rp α5][Rp α6](k:FuncId)(F:α0->α1->α2->α3->α4->α5->α6->Option β)(o:β->bm)(t:List Nat:=[]):Prop:=∀a b c d e f g⦃r⦄,F a b c d e f g=some r->CT k [.rep 0 a,.rep 0 b,.rep 0 c,.rep 0 d,.rep 0 e,.rep 0 f,.rep 0 g] (o r) t
abbrev qo(l:List j->bm)(r:K):bm:=.aK [(false,1,.fl r.bR),(false,1,.fl r.Seq),(false,1,.fl r.ca),(false,1,.fl r.cg),(false,1,l r.j)]
abbrev gv(h:List aM->bm)(l:List j->bm)(f:List dq->bm)(r:N):bm:=.aK [(true,6,.fl r.J),(false,1,.fl r.ee),(true,7,.fl r.X),(false,1,h r.aE),(true,5,qo l r.K),(false,1,f r.du),(false,1,.fl r.Next),(false,1,.fl r.eU)]
abbrev nn(b:List (List UInt8)->bm)(d:List Bool->bm)(r:aM):bm:=.aK [(false,1,.fl r.L),(false,1,b r.aJ),(false,1,d r.a_),(false,1,.fl r.aG),(false,1,.fl r.cG),(false,1,.fl r.Seq)]
abbrev qj(b:List (List UInt8)->bm)(w:List fB->bm)(r:aU):bm:=.aK [(false,1,b r.aJ),(false,1,w r.eg),(false,1,.fl r.dS)]
theorem mF:jh H 198 5 128 (UInt8) (0:UInt8):=jh.of underlying198 rfl (by kernel_rfl) (by kernel_rfl) (λ_=>rfl)
theorem AT:nq H 5 (0:UInt8):=⟨.int .u8 0,by kernel_rfl,λ_=>rfl⟩
theorem Bm:rl H 125 3 3 1:=⟨underlying125,by kernel_rfl⟩
theorem GJ:nq H 43 ([]:List UInt8):=⟨.slice none 0 0,by kernel_rfl,λ_=>Gi⟩
theorem mT:GZ H 198 (Field) (λn s a=>Field.mk n a s):=TK (λn s a j w=>⟨_,⟨[_],_,rfl,rfl,[_],_,rfl,rfl,rfl⟩,rfl⟩)
theorem aI:Tryz.prog.follows .mixedOrders=true:=by kernel_rfl
theorem Ea:jh H 365 23 16 (UInt32) (0:UInt32):=jh.of underlying365 rfl (by kernel_rfl) (by kernel_rfl) (λ_=>rfl)
theorem R2:nq H 123 (fB.mk (0:Int) ([]:List UInt8)):=⟨.agg #[.int .i64 0, .slice none 0 0],by kernel_rfl,λ_=>⟨[.int .i64 0],[.slice none 0 0],rfl,rfl,Gi⟩⟩
theorem RX:rl H 327 286 4 1:=⟨underlying327,by kernel_rfl⟩
theorem Zv:jh H 329 183 16 (cQ) (cQ.mk (0:UInt32) (0:UInt32) (0:Int) (0:Int) (0:Int) (0:Int) (0:Int) (0:Int) (0:Int) false):=jh.of underlying329 rfl (by kernel_rfl) (by kernel_rfl) (λ_=>⟨[.int .u32 0],[.int .u32 0, .int .i64 0, .int .i64 0, .int .i64 0, .int .i64 0, .int .i64 0, .int .i64 0, .int .i64 0, .bool false],rfl,rfl,⟨[.int .u32 0],[.int .i64 0, .int .i64 0, .int .i64 0, .int .i64 0, .int .i64 0, .int .i64 0, .int .i64 0, .bool false],rfl,rfl,⟨[.int .i64 0],[.int .i64 0, .int .i64 0, .int .i64 0, .int .i64 0, .int .i64 0, .int .i64 0, .bool false],rfl,rfl,⟨[.int .i64 0],[.int .i64 0, .int .i64 0, .int .i64 0, .int .i64 0, .int .i64 0, .bool false],rfl,rfl,⟨[.int .i64 0],[.int .i64 0, .int .i64 0, .int .i64 0, .int .i64 0, .bool false],rfl,rfl,⟨[.int .i64 0],[.int .i64 0, .int .i64 0, .int .i64 0, .bool false],rfl,rfl,⟨[.int .i64 0],[.int .i64 0, .int .i64 0, .bool false],rfl,rfl,⟨[.int .i64 0],[.int .i64 0, .bool false],rfl,rfl,⟨[.int .i64 0],[.bool false],rfl,rfl,rfl⟩⟩⟩⟩⟩⟩⟩⟩⟩)
theorem wQ:jh H 330 4 16 (Bool) false:=jh.of underlying330 rfl (by kernel_rfl) (by kernel_rfl) (λ_=>rfl)
theorem S5:Er H 329 183 16:=⟨underlying329⟩
theorem Vg:Ty H 293 mK:=Ty.of (by kernel_rfl)
theorem Zm:Ty H 106 mK:=Ty.of (by kernel_rfl)
theorem Vp:Ty H 348 mK:=Ty.of (by kernel_rfl)
theorem yB:pq H 349 3 354:=pq.of underlying349 underlying3 (by kernel_rfl)
theorem Ww:nq H 3 (0:Int):=⟨.int .i64 0,by kernel_rfl,λ_=>rfl⟩
theorem ZV:Fw H 260 3:=λ_ _ _ _ _ _ _ u a q w o j r=>Wo u a q w o j r
theorem OE:Fw H 261 43:=λ_ _ _ _ _ _ _ u a q w o j r=>UY u a q w o j r
theorem Xw:Ty H 208 mK:=Ty.of (by kernel_rfl)
theorem B6:kL H 208 3 3 (0:Int):=kL.of underlying208 underlying3 (by kernel_rfl)
theorem Gz:kL H 400 3 4 false:=kL.of underlying400 underlying3 (by kernel_rfl)
theorem M_:dN j Bool 4 (λx=>x.dC) (λx y=>{x with dC:=y}):=dN.Et (dN.Eu (inferInstance:Rp (UInt32×Int×Int×Bool×Bool×Bool)) (λx:j=>(x.Seq,x.L,x.aJ,x.bP,x.dC,x.cH)) (dN.inr (dN.inr (dN.inr (dN.inr (dN.inl dN.Ew))))) (λx=>x.dC) (λx y=>{x with dC:=y}) (λ_=>rfl) (λ_ _=>rfl)) rfl (λ_=>rfl) (λ_ _=>rfl)
theorem Qs:nq H 4 false:=⟨.bool false,by kernel_rfl,λ_=>rfl⟩
theorem ZK:Qh H 293 79 (Rp.n aM):=λ_ _ _ _ _ _ h j a o=>Tu h j a o
theorem R5:Qr H 294 79 (Rp.n aM):=λ_ _ _ _ _ _ r a q u o j=>Zq r a q u o j
theorem L9:kL H 130 3 5 (0:UInt8):=kL.of underlying130 underlying3 (by kernel_rfl)
theorem MN:jh H 91 61 12 (bI [29,30,31,32,33,34,35,36,37,38,39]) (⟨0⟩:bI [29,30,31,32,33,34,35,36,37,38,39]):=jh.of underlying91 rfl (by kernel_rfl) (by kernel_rfl) (λ_=>rfl)
theorem M3:wW H 243:=⟨⟨_,underlying243,rfl⟩⟩
theorem Pt:Er H 310 5 3:=⟨underlying310⟩
theorem Qj:wW H 245:=⟨⟨_,underlying245,rfl⟩⟩
theorem NT:wW H 247:=⟨⟨_,underlying247,rfl⟩⟩
theorem HY:Ty H 472 mK:=Ty.of (by kernel_rfl)
theorem VP:nq H 171 (⟨3,default⟩:gQ [243,245,247] au):=⟨.nilIface,by kernel_rfl,λ_=>Xs⟩
theorem Yz:zY H 243 (au.mk (0:UInt8) (0:Int) (0:Int) (0:Int)):=⟨⟨#[.int .u8 0, .int .i64 0, .int .i64 0, .int .i64 0],by kernel_rfl,rfl,λ_=>⟨[.int .u8 0],[.int .i64 0, .int .i64 0, .int .i64 0],rfl,rfl,⟨[.int .i64 0],[.int .i64 0, .int .i64 0],rfl,rfl,⟨[.int .i64 0],[.int .i64 0],rfl,rfl,rfl⟩⟩⟩⟩⟩
theorem V1:zY H 245 (au.mk (0:UInt8) (0:Int) (0:Int) (0:Int)):=⟨⟨#[.int .u8 0, .int .i64 0, .int .i64 0, .int .i64 0],by kernel_rfl,rfl,λ_=>⟨[.int .u8 0],[.int .i64 0, .int .i64 0, .int .i64 0],rfl,rfl,⟨[.int .i64 0],[.int .i64 0, .int .i64 0],rfl,rfl,⟨[.int .i64 0],[.int .i64 0],rfl,rfl,rfl⟩⟩⟩⟩⟩
theorem TQ:zY H 247 (au.mk (0:UInt8) (0:Int) (0:Int) (0:Int)):=⟨⟨#[.int .u8 0, .int .i64 0, .int .i64 0, .int .i64 0],by kernel_rfl,rfl,λ_=>⟨[.int .u8 0],[.int .i64 0, .int .i64 0, .int .i64 0],rfl,rfl,⟨[.int .i64 0],[.int .i64 0, .int .i64 0],rfl,rfl,⟨[.int .i64 0],[.int .i64 0],rfl,rfl,rfl⟩⟩⟩⟩⟩
theorem K8:Tryz.prog.eqGuardType Tryz.prog.depth 145=false:=by kernel_rfl
theorem Sq:Ty H 112 mK:=Ty.of (by kernel_rfl)
theorem Mj:rl H 516 515 4 1:=⟨underlying516,by kernel_rfl⟩
theorem Y9:dN j Int 1 (λx=>x.L) (λx y=>{x with L:=y}):=dN.Et (dN.Eu (inferInstance:Rp (UInt32×Int×Int×Bool×Bool×Bool)) (λx:j=>(x.Seq,x.L,x.aJ,x.bP,x.dC,x.cH)) (dN.inr (dN.inl dN.Ew)) (λx=>x.L) (λx y=>{x with L:=y}) (λ_=>rfl) (λ_ _=>rfl)) rfl (λ_=>rfl) (λ_ _=>rfl)
theorem RM:dN j Bool 3 (λx=>x.bP) (λx y=>{x with bP:=y}):=dN.Et (dN.Eu (inferInstance:Rp (UInt32×Int×Int×Bool×Bool×Bool)) (λx:j=>(x.Seq,x.L,x.aJ,x.bP,x.dC,x.cH)) (dN.inr (dN.inr (dN.inr (dN.inl dN.Ew)))) (λx=>x.bP) (λx y=>{x with bP:=y}) (λ_=>rfl) (λ_ _=>rfl)) rfl (λ_=>rfl) (λ_ _=>rfl)
theorem IV:dN j Bool 5 (λx=>x.cH) (λx y=>{x with cH:=y}):=dN.Et (dN.Eu (inferInstance:Rp (UInt32×Int×Int×Bool×Bool×Bool)) (λx:j=>(x.Seq,x.L,x.aJ,x.bP,x.dC,x.cH)) (dN.inr (dN.inr (dN.inr (dN.inr (dN.inr dN.Ew))))) (λx=>x.cH) (λx y=>{x with cH:=y}) (λ_=>rfl) (λ_ _=>rfl)) rfl (λ_=>rfl) (λ_ _=>rfl)
theorem W8:nq H 23 (0:UInt32):=⟨.int .u32 0,by kernel_rfl,λ_=>rfl⟩
theorem MK:gA H 2 145 (au):=(gA.S9 underlying145 (by kernel_rfl) (mo.cons (gA.mono (k':=1) (gA.u8 underlying5) (by decide)) cj.h rfl rfl (mo.cons (gA.mono (k':=1) (gA.i64 underlying3) (by decide)) cj.h rfl rfl (mo.cons (gA.mono (k':=1) (gA.i64 underlying3) (by decide)) cj.h rfl rfl (mo.one (gA.mono (k':=1) (gA.i64 underlying3) (by decide)) cj.h rfl rfl)))) (λx y h=>by cases x;cases y;simpa using h))
abbrev gF:=List kQ
abbrev bH:=List j
abbrev bn:=List dq
abbrev cu:=List aU
abbrev bw:=List aM
abbrev u0:=UInt32×Int×Int×Int×Int×Int×Bool×UInt32×Int×Bool×Int×Int×Bool×Bool×bw×UInt32×UInt32×Int×Int×bH×bn×Int×Bool×cu×gF
abbrev cY:=List cd
abbrev gw:=cY×Int
abbrev qY:=N×gw
abbrev bD:=Option qY
abbrev cq:=List UInt8
abbrev bV:=List cq
abbrev fR:=Bool×Int
abbrev FZ:=bw×UInt32×UInt32×Int×Int×bH×bn×Int×fR
abbrev n7:=UInt32×Int×Int×Int×Int×Int×Bool×UInt32×Int×Bool×Int×Int×Bool×Bool×FZ
abbrev bE:=Option Bool
abbrev oy:=gQ [243,245,247] au
abbrev iT:=List oy
abbrev df:=List Int
abbrev vQ:=UInt32×Int×Int×Int×Int×Int×Bool×UInt32×Int×Bool×Int×Int×Bool×Bool×bw×UInt32×UInt32×Int×Int×bH×bn×Int×Bool×cu×Bool
abbrev kX:=List fJ
abbrev wL:=UInt32×UInt32×Int×df×bV×cq×Int×UInt32×UInt32×UInt32×Int×kX
abbrev fg:=Option (aM×Int)
abbrev ea:=Int×Int
abbrev fA:=List Bool
abbrev m3:=Int×Int×bV×fA×UInt8×Bool×UInt32
abbrev m2:=Int×bV×fA×UInt8×Bool×UInt32×Int
abbrev dv:=Option Int
abbrev iF:=J×X×fR
abbrev nr:=UInt32×UInt32×Int×Int×bH×Int×bw
abbrev yq:=J×Bool×X×bw×UInt32×UInt32×Int×Int×bH×bn×Int×Bool×gw
abbrev qf:=df×List cW
abbrev tN:=Option (ak (Int×cY×qf) (cY×qf))
abbrev mU:=Option (ak Int (Int⊕Unit))
abbrev tU:=UInt32×UInt32×Int×Int×Int×Int×Int×Int×Int×Bool
abbrev lz:=cq×Int
abbrev iW:=Option lz
abbrev kx:=Option (N×Int)
abbrev ns:=UInt32×UInt32×Int×Int×bH
abbrev mG:=df×Int
abbrev ov:=Option (ak mG df)
abbrev pJ:=Option (ak Int (Unit⊕Unit))
abbrev ub:=Option (ak (Int×u0) (Int×u0⊕u0))
abbrev oU:=Option (eQ×gF×Int)
abbrev mQ:=Option (ak ea Int)
abbrev kJ:=List fj
abbrev ri:=Option (ak (Int×bV) bV)
abbrev rP:=cm 16 cQ×cm 16 Bool
abbrev mZ:=bn×Int
abbrev xY:=Option (ak (bn×mZ) (bn×bn))
abbrev zU:=cY×Int×UInt32×Int×Bool×Int×Int×Bool×Bool
abbrev Ng:=Int×UInt32×Int×Int×Int×Int×Int×Bool×UInt32×Int×Bool×Int×Int×Bool×Bool×bw×UInt32×UInt32×Int×Int×bH×bn×Int×Bool×gF
abbrev p7:=Option (ak Int Unit)
abbrev oa:=Option (aU×Int)
abbrev tJ:=Option (ak (Int×cq) cq)
abbrev iH:=List bl
abbrev jx:=Option ea
abbrev AJ:=Int×bV×fA×UInt8×Bool×UInt32×Bool
abbrev Ah:=Option (ak (Int×df×bV) (df×bV))
abbrev lI:=List fB
abbrev wA:=Option (ak (iT×Int) iT)
abbrev DM:=Option (ak (bV×ea) (bV×Int))
abbrev tK:=Option (fj×ea)
abbrev uU:=Option (Form×Bool)
abbrev s_:=Option (X×Int)
abbrev JH:=Option (ak (Int×kX×bV) (kX×bV))
abbrev BB:=Option (ak (Int×bw) bw)
abbrev yX:=Option (eQ×Int)
abbrev Jk:=Option (ak (Int×df×df) (df×df))
abbrev td:=Option (K×gw)
abbrev QN:=Option (ak (Int×wL) (UInt32×UInt32×UInt32×Int×kX⊕wL⊕wL))
abbrev rZ:=List au×Int
abbrev lS:=List eE
abbrev tM:=List (Int×Bool)
abbrev JF:=Option (ak (Int×kJ) (kJ⊕kJ))
abbrev nN:=List cQ
abbrev JO:=Option (ak (lI×ea) (lI×Int))
abbrev HJ:=Option (ak (df×ea) mG)
abbrev Fp:=UInt32×UInt32×Int×Int×bH×gw
abbrev H7:=Option (ak (iT×ea) (iT×Int))
abbrev uB:=fT×kJ×Int
abbrev oH:=Option cq
abbrev wP:=Option (K×Int)
abbrev pK:=List UInt32
abbrev lV:=cu×Int
abbrev r9:=List kV
abbrev Fi:=Option (N×cY×gF×Int)
abbrev A7:=Option (ak gw cY)
abbrev tL:=Int×List ea
def vD(a:cq):Option (cm 128 UInt8×Int):=
 cond ((a.length:Int) !=0&&(a.length:Int) !=128) none<|some ((cm.mk (ob (dr 128 (0:UInt8)) a):cm 128 UInt8),0)
def xU(b a:Int):bE:=
 some (a>=1&&a<=4&&b>=0&&b<=wI (128 - a))
def M6(c d:Int)(e:cm 128 UInt8×Int):ea->mQ:=
 λ (b,a)=>cond (a<d) (ab (b_ 128 (wI (c+a))) λf=>ab (e.1.l[f]?) λg=>ab (sg (wI g.toNat) (wI (8 * a))) λh=>some (ak.next (Ao b h,wI (a+1))))<|some (ak.aT b)
def iC(d:cq)(a b:Int):jx:=
 ab (vD d) λc=>cond (c.2 !=0) none<|ab (xU a b) λe=>cond (!e) none<|ab (bf (M6 a b c) aP (0,0)) λf=>some (f,0)
def Km(c:List iY):Int->pJ:=
 λb=>cond (b<c.length) (ab (idx c b) λa=>cond (a.e0<a.e1||a.e0>a.e2) (some (ak.aT (Sum.inl ())))<|some (ak.next (wI (b+1))))<|some (ak.aT (Sum.inr ()))
def xx(a:List iY):bE:=
 ab (bf (Km a) aP 0) λb=>Sum.elim (λc=>some false) (λd=>some true) b
def ng(a:J):dv:=
 ab (xx [iY.mk a.aw 3 16,iY.mk a.bz 1 8,iY.mk a.bb 1 8,iY.mk a.aE 2 8]) λb=>cond (!!b) (ab (xx [iY.mk a.K (wI (wI (a.aw+1) * wI (a.aE+1))) 255]) λc=>cond (!c) (some 8)<|some 0)<|some 8
def pW(b:J)(c:Int):jx:=
 ab (ng b) λa=>cond (a !=0) (some (0,a))<|some (c,0)
def BX(a:J):jx:=
 ab (pW a (wI (wI (a.bz * a.bb)+1))) λb=>some (b.1,b.2)
def uT(a:J):jx:=
 ab (pW a (wI (a.K+1))) λb=>some (b.1,b.2)
def Ja(a:Int):oa:=
 cond (a<1||a>256) none<|ab (lW ([]:List UInt8) a) λb=>some (aU.mk b [] false,0)
def kv(a:J):jx:=
 ab (pW a (wI (a.bz * a.bb))) λb=>some (b.1,b.2)
def Bv(a:cQ):dv:=
 ab (kv (J.mk a.Id a.aw a.bz a.bb a.K 2)) λb=>cond (b.2 !=0||(a.cZ.toNat:Int)>((2147483648:UInt32).toNat:Int)||a.Me<0||a.Me>=a.aw||a.cN<0||a.cN>b.1||a.bZ< -1||a.bZ>=a.aw||a.bZ== -1&&a.cN>0) (some 8)<|some 0
def CS(a:cQ)(b:Int):Int->Option (List Field):=
 λc=>some [Field.mk 76 0 1,Field.mk (wI a.Id.toNat) (wI (0+1)) 4,Field.mk (wI a.cZ.toNat) (wI (wI (0+1)+4)) 4,Field.mk a.aw (wI (wI (wI (0+1)+4)+4)) 1,Field.mk a.bz (wI (wI (wI (wI (0+1)+4)+4)+1)) 1,Field.mk a.bb (wI (wI (wI (wI (wI (0+1)+4)+4)+1)+1)) 1,Field.mk a.K (wI (wI (wI (wI (wI (wI (0+1)+4)+4)+1)+1)+1)) 1,Field.mk a.Me (wI (wI (wI (wI (wI (wI (wI (0+1)+4)+4)+1)+1)+1)+1)) 1,Field.mk b (wI (wI (wI (wI (wI (wI (wI (wI (0+1)+4)+4)+1)+1)+1)+1)+1)) 1,Field.mk a.cN (wI (wI (wI (wI (wI (wI (wI (wI (wI (0+1)+4)+4)+1)+1)+1)+1)+1)+1)) 1,Field.mk c (wI (wI (wI (wI (wI (wI (wI (wI (wI (wI (0+1)+4)+4)+1)+1)+1)+1)+1)+1)+1)) 1]
def Cm(a:cQ):Int->Option (List Field):=
 λb=>cond a.Open (CS a b 1)<|CS a b 0
def v_(a:cQ):Option (List Field):=
 cond (a.bZ== -1) (Cm a 255)<|Cm a a.bZ
def QQ(c d e:Int):Int×cq->tJ:=
 λ (a,b)=>cond (a<d) (ab (oP e (wI (8 * a))) λf=>ab (b_ 128 (wI (c+a))) λg=>some (ak.next (wI (a+1),b.set g (ny.of f))))<|some (ak.aT b)
def rh(f:cq)(c b a:Int):iW:=
 ab (vD f) λd=>cond (d.2 !=0) none<|ab (xU c b) λe=>ab (gO (!(!e||a<0)) (oP a (wI (8 * b)))) λg=>cond (!e||a<0||g !=0) none<|ab (bf (QQ c b a) aP (0,d.1.l)) λh=>some (h,0)
def LY:Option (cm 16 UInt32):=
 some (cm.mk [0,274646895,549293790,820201905,1098587580,1361435347,1640403810,1905808397,2197175160,2460548119,2722870694,2987750089,3280807620,3553878443,3811616794,4084100981]:cm 16 UInt32)
def K6(d:cq)(e:cm 16 UInt32):UInt32×Int->Option (ak (UInt32×Int) UInt32):=
 λ (a,b)=>cond (b<d.length) (ab (idx d b) λc=>ab (b_ 16 ((a^^^dP.of (c.toNat:Int))&&&15).toNat) λg=>ab (e.l[g]?) λf=>ab (b_ 16 ((nI (a^^^dP.of (c.toNat:Int)) 4^^^f)&&&15).toNat) λh=>ab (e.l[h]?) λi=>some (ak.next (nI (nI (a^^^dP.of (c.toNat:Int)) 4^^^f) 4^^^i,wI (b+1))))<|some (ak.aT a)
def Af(a:UInt32)(b:cq):Option UInt32:=
 ab LY λc=>ab (bf (K6 b c) aP (4294967295^^^a,0)) λd=>some (4294967295^^^d)
def nt(a:cq):Option UInt32:=
 ab (Af 0 a) λb=>some b
def LO(c:List Field):lz->Option (ak lz cq):=
 λ (d,a)=>cond (a<c.length) (ab (idx c a) λb=>ab (rh d b.at_ b.size b.n) λe=>cond (e.2 !=0) none<|some (ak.next (e.1,wI (a+1))))<|some (ak.aT d)
def uw(a:cQ):iW:=
 ab (Bv a) λb=>cond (b !=0) (some ([],b))<|ab (v_ a) λe=>ab (bf (LO e) aP ([],0)) λc=>ab (fy c 0 124) λf=>ab (nt f) λg=>ab (rh c 124 4 (wI g.toNat)) λd=>some (d.1,d.2)
def WD(b:bV)(c:cq->bE):Int->mU:=
 λa=>cond (a<b.length) (ab (idx b a) λd=>ab (c d) λe=>cond e (some (ak.aT (Sum.inl a)))<|some (ak.next (wI (a+1))))<|some (ak.aT (Sum.inr ()))
def JZ(a:bV)(b:cq->bE):dv:=
 ab (bf (WD a b) aP 0) λc=>Sum.elim (λd=>some d) (λe=>some (-1:Int)) c
def sb(a:bV)(b:cq->bE):bE:=
 ab (JZ a b) λc=>some (decide (c>=0))
def tY(a:cq):bE:=
 some ((a.length:Int) !=0&&(a.length:Int) !=128)
def Ux(b:lI)(c:fB->bE):Int->mU:=
 λa=>cond (a<b.length) (ab (idx b a) λd=>ab (c d) λe=>cond e (some (ak.aT (Sum.inl a)))<|some (ak.next (wI (a+1))))<|some (ak.aT (Sum.inr ()))
def Av(a:lI)(b:fB->bE):dv:=
 ab (bf (Ux a b) aP 0) λc=>Sum.elim (λd=>some d) (λe=>some (-1:Int)) c
def IT(a:lI)(b:fB->bE):bE:=
 ab (Av a b) λc=>some (decide (c>=0))
def DE(a:fB)(b:Int):bE:=
 ab (gO (!(a.At<0||a.At>=b)) (tY a.bO)) λc=>some (a.At<0||a.At>=b||c)
def Im(a:cq):bE:=
 some (decide ((a.length:Int)>0))
def my(a:aU):dv:=
 ab (gO (!((a.aJ.length:Int)<1||(a.aJ.length:Int)>256||(a.eg.length:Int)>1024)) (sb a.aJ λb=>tY b)) λc=>cond ((a.aJ.length:Int)<1||(a.aJ.length:Int)>256||(a.eg.length:Int)>1024||c) (some 8)<|ab (IT a.eg λb=>DE b a.aJ.length) λd=>cond d (some 8)<|ab (gO (a.dS&& !((a.eg.length:Int)>0)) (sb a.aJ λb=>Im b)) λe=>cond (a.dS&&((a.eg.length:Int)>0||e)) (some 8)<|some 0
def vL(a:aU)(b:Int):dv:=
 ab (my a) λc=>cond (c !=0) none<|cond (b<0||b>=a.aJ.length) none<|some 0
def yI(a:aU)(b:Int)(c:cq):dv:=
 ab (vL a b) λd=>cond (d !=0) none<|ab (tY c) λe=>cond e none<|cond a.dS none<|some 0
def js(a:cq):oH:=
 ab (app ([]:List UInt8) a) λb=>some b
def BN(b:aU):Int×bV->ri:=
 λ (a,c)=>cond (a<b.aJ.length) (ab (idx b.aJ a) λd=>ab (js d) λe=>ab (app c [e]) λf=>some (ak.next (wI (a+1),f)))<|some (ak.aT c)
def Be(b:aU):Int×lI->Option (ak (Int×lI) lI):=
 λ (a,c)=>cond (a<b.eg.length) (ab (idx b.eg a) λd=>ab (js d.bO) λe=>ab (app c [fB.mk d.At e]) λf=>some (ak.next (wI (a+1),f)))<|some (ak.aT c)
def nE(a:aU):Option aU:=
 ab (bf (BN a) aP (0,[])) λb=>ab (bf (Be a) aP (0,[])) λc=>some (aU.mk b c a.dS)
def r_(a:cq):oH:=
 cond ((a.length:Int)==0) (ab (lW (0:UInt8) (128:Int)) λb=>some b)<|ab (js a) λc=>some c
def QW(a:fB)(b:Int):bE:=
 some (a.At==b)
def CM(a:aU)(b:cq)(c:Nat):lI->oa:=
 λd=>some (aU.mk (a.aJ.set c b) d a.dS,0)
def C9(a:Int):lI×Int->JO:=
 λ (b,c)=>some (ak.next (b,c,wI (a+1)))
def GP(e:Int)(a:lI)(b c:Int)(d:fB):Unit->JO:=
 λ_=>cond (!d.At==e) (ab (b_ a.length b) λf=>C9 c (a.set f d,wI (b+1)))<|C9 c (a,b)
def Qy(d:Int):lI×ea->JO:=
 λ (a,c,b)=>cond (b<a.length) (ab (idx a b) λe=>GP d a c b e ())<|some (ak.aT (a,c))
def uD(e:aU)(c:Int)(f:cq):oa:=
 ab (yI e c f) λi=>cond (i !=0) none<|ab (nE e) λb=>ab (r_ f) λg=>ab (b_ b.aJ.length c) λh=>ab (Av b.eg λj=>QW j c) λd=>cond (d== -1) (CM b g h b.eg)<|ab (bf (Qy c) aP (b.eg,d,wI (d+1))) λa=>ab (fy a.1 a.2 a.1.length) λl=>ab (fy (a.1.take (qP a.2)++dr (a.1.length - qP a.2) (fB.mk 0 [])) 0 a.2) λk=>CM b g h k
def DI(a:UInt32):bE:=
 some (decide (((dP.of ((a.toNat:Int) - ((1:UInt32).toNat:Int))).toNat:Int)<((2147483648:UInt32).toNat:Int)))
def wc(a:fT):dv:=
 ab (DI a.bR) λb=>ab (gO b (DI a.Seq)) λc=>cond (b&&c&&a.ca>=0&&a.ca<255) (some 0)<|some 8
def oz(a:lM)(f c:Int):Option lM:=
 cond (a.e !=0) none<|ab (rh a.b a.at_ c f) λd=>some (lM.mk d.1 (wI (a.at_+c)) d.2)
def BR(a:lM):iW:=
 cond (a.e !=0) none<|ab (fy a.b 0 124) λd=>ab (nt d) λf=>ab (oz (lM.mk a.b 124 a.e) (wI f.toNat) 4) λc=>some (c.b,c.e)
def rM(a:fT):iW:=
 ab (wc a) λb=>cond (b !=0) (some ([],b))<|ab (oz (lM.mk [] 0 0) 83 1) λd=>ab (oz d (wI a.Id.toNat) 4) λe=>ab (oz e (wI a.bR.toNat) 4) λf=>ab (oz f (wI a.Seq.toNat) 4) λg=>ab (oz g a.ca 1) λh=>ab (BR h) λc=>some (c.1,c.2)
def X9(a:J)(d:ea):lV->Option (ak lV cu):=
 λ (c,b)=>cond (b<a.aw) (ab (Ja d.1) λe=>ab (uw (cQ.mk a.Id 1 a.aw a.bz a.bb a.K b (-1) 0 false)) λf=>ab (uD e.1 0 f.1) λg=>ab (app c [g.1]) λh=>some (ak.next (h,wI (b+1))))<|some (ak.aT c)
def Pv(a:J):Option lV:=
 ab (BX a) λb=>cond (b.2 !=0) none<|ab (uT a) λc=>ab (bf (X9 a b) aP ([],0)) λd=>ab (Ja c.1) λe=>ab (rM (fT.mk a.Id 1 1 0)) λf=>ab (uD e.1 0 f.1) λg=>ab (app d [g.1]) λh=>some (h,0)
def WM(b:cu)(c:aU->bE):Int->mU:=
 λa=>cond (a<b.length) (ab (idx b a) λd=>ab (c d) λe=>cond e (some (ak.aT (Sum.inl a)))<|some (ak.next (wI (a+1))))<|some (ak.aT (Sum.inr ()))
def FR(a:cu)(b:aU->bE):dv:=
 ab (bf (WM a b) aP 0) λc=>Sum.elim (λd=>some d) (λe=>some (-1:Int)) c
def FB(a:cu)(b:aU->bE):bE:=
 ab (FR a b) λc=>some (decide (c>=0))
def wx(a:aU):bE:=
 ab (my a) λb=>some (b !=0)
def Da(a:cu):dv:=
 ab (gO (!((a.length:Int)<1||(a.length:Int)>17)) (FB a λb=>wx b)) λc=>cond ((a.length:Int)<1||(a.length:Int)>17||c) none<|some 0
def vI(a:UInt8):Option (bI [215,216,217]):=
 cond (wI a.toNat>=4) none<|ab (b_ 4 a.toNat) λb=>ab (([(⟨0⟩:bI [215,216,217]),(⟨1⟩:bI [215,216,217]),(⟨2⟩:bI [215,216,217]),(⟨3⟩:bI [215,216,217])]:List (bI [215,216,217]))[b]?) λc=>some c
def BF(a:cd)(b:cu):bE:=
 ab (gO (!(a.aU<0||a.aU>=(b.length:Int))) (vI a.bG)) λc=>cond (a.aU<0||a.aU>=(b.length:Int)||(jl [215,216,217] c.i).isNone) none<|cond (a.bG==3) (some (a.At==0&&(a.bO.length:Int)==0))<|ab (gO (decide (a.At>=0)) (idx b a.aU)) λd=>some (a.At>=0&&a.At<(d.aJ.length:Int)&&((a.bO.length:Int)==0||(a.bO.length:Int)==128))
def PG(b:cY)(c:cu):Int->p7:=
 λa=>cond (a<b.length) (ab (idx b a) λd=>ab (BF d c) λe=>cond (!e) none<|some (ak.next (wI (a+1))))<|some (ak.aT ())
def vJ(a:cY)(b:cu):dv:=
 ab (Da b) λc=>cond (c !=0) none<|cond ((a.length:Int)>1024) (some 4)<|ab (bf (PG a b) aP 0) λd=>some 0
def I9(a:aU)(b:Int):iW:=
 ab (vL a b) λc=>cond (c !=0) none<|cond a.dS (some ([],40))<|ab (idx a.aJ b) λd=>ab (r_ d) λe=>some (e,0)
def PR(c:aU)(d:Int):Int->Option (ak Int (cq⊕Unit)):=
 λa=>cond (a>=0) (ab (idx c.eg a) λb=>cond (b.At==d) (ab (r_ b.bO) λe=>some (ak.aT (Sum.inl e)))<|some (ak.next (wI (a - 1))))<|some (ak.aT (Sum.inr ()))
def ES(a:aU)(b:Int)(c:lz):Unit->iW:=
 λ_=>ab (bf (PR a b) aP (wI (a.eg.length - 1))) λd=>Sum.elim (λe=>some (e,(0:Int))) (λf=>some (c.1,(0:Int))) d
def oR(b:aU)(c:Int):iW:=
 ab (I9 b c) λa=>cond (a.2 !=0) (some ([],a.2))<|ES b c a ()
def I0(a b:cq):bE:=
 some ((kp.mk a).s==(kp.mk b).s)
def Lw(f:cq)(b:List Field):mG->ov:=
 λ (c,a)=>cond (a<b.length) (ab (idx b a) λd=>ab (iC f d.at_ d.size) λe=>cond (e.2 !=0) none<|ab (app c [e.1]) λg=>some (ak.next (g,wI (a+1))))<|some (ak.aT c)
def Dj(l:cq)(b c d e f g h i j:Int):Int->Option (cQ×Int):=
 λk=>ab (uw (cQ.mk (dP.of b) (dP.of c) d e f g h k i (j==1))) λa=>ab (gO (!a.2 !=0) (I0 a.1 l)) λm=>cond (a.2 !=0|| !m) (some (cQ.mk 0 0 0 0 0 0 0 0 0 false,90))<|some (cQ.mk (dP.of b) (dP.of c) d e f g h k i (j==1),0)
def Br(b:cq):Option (cQ×Int):=
 ab (v_ (cQ.mk 0 0 0 0 0 0 0 0 0 false)) λm=>ab (bf (Lw b m) aP ([],0)) λa=>ab (idx a 1) λc=>ab (idx a 2) λd=>ab (idx a 3) λe=>ab (idx a 4) λf=>ab (idx a 5) λg=>ab (idx a 6) λh=>ab (idx a 7) λi=>ab (idx a 8) λj=>ab (idx a 9) λk=>ab (idx a 10) λl=>cond (j==255) (Dj b c d e f g h i k l (-1))<|Dj b c d e f g h i k l j
def Eg(b:cu)(c:Int):Option (cQ×Bool):=
 ab (idx b c) λe=>ab (oR e 0) λd=>cond (d.2 !=0) (some (cQ.mk 0 0 0 0 0 0 0 0 0 false,false))<|ab (Br d.1) λa=>some (a.1,a.2==0&&a.1.Me==c&&a.1.aw==wI (b.length - 1))
def DN(a:Int):tU->Option (ak (Int×tU) tU):=
 λ (b,c,d,e,f,g,h,i,j,k)=>some (ak.next (wI (a+1),b,c,d,e,f,g,h,i,j,k))
def L1(c:nN)(n:cQ×cQ->dv):Int×tU->Option (ak (Int×tU) tU):=
 λ (b,d,e,f,g,h,i,j,k,l,m)=>cond (b<c.length) (ab (idx c b) λo=>ab (n (o,cQ.mk d e f g h i j k l m)) λp=>cond (p>0) (ab (idx c b) λa=>DN b (a.Id,a.cZ,a.aw,a.bz,a.bb,a.K,a.Me,a.bZ,a.cN,a.Open))<|DN b (d,e,f,g,h,i,j,k,l,m))<|some (ak.aT (d,e,f,g,h,i,j,k,l,m))
def JS(c:nN)(d:cQ×cQ->dv):Unit->Option cQ:=
 λ_=>ab (idx c 0) λa=>ab (bf (L1 c d) aP (1,a.Id,a.cZ,a.aw,a.bz,a.bb,a.K,a.Me,a.bZ,a.cN,a.Open)) λb=>some (cQ.mk b.1 b.2.1 b.2.2.1 b.2.2.2.1 b.2.2.2.2.1 b.2.2.2.2.2.1 b.2.2.2.2.2.2.1 b.2.2.2.2.2.2.2.1 b.2.2.2.2.2.2.2.2.1 b.2.2.2.2.2.2.2.2.2)
def DG(a:nN)(b:cQ×cQ->dv):Option cQ:=
 cond ((a.length:Int)<1) none<|JS a b ()
def AV(a:UInt32):bE:=
 some ((a.toNat:Int) !=(a.toNat:Int))
def Gg(a b:UInt32):dv:=
 ab (AV a) λd=>ab (AV b) λc=>cond d (cond c (some 0)<|some (-1))<|cond c (some 1)<|cond ((a.toNat:Int)<(b.toNat:Int)) (some (-1))<|cond ((a.toNat:Int)>(b.toNat:Int)) (some 1)<|some 0
def Aa(a b:cQ):dv:=
 ab (Gg a.cZ b.cZ) λc=>some c
def Bd(a:Int):nN×rP->Option (ak (nN×Int×rP) (nN×rP)):=
 λ (b,c,d)=>some (ak.next (b,wI (a+1),c,d))
def KZ(f:cu):nN×Int×rP->Option (ak (nN×Int×rP) (nN×rP)):=
 λ (c,a,d,e)=>cond (a<wI (f.length - 1)) (ab (Eg f a) λb=>ab (b_ 16 a) λg=>ab (b_ 16 a) λh=>cond b.2 (ab (app c [b.1]) λi=>Bd a (i,(⟨d.l.set g b.1⟩:cm 16 cQ),(⟨e.l.set h b.2⟩:cm 16 Bool)))<|Bd a (c,(⟨d.l.set g b.1⟩:cm 16 cQ),(⟨e.l.set h b.2⟩:cm 16 Bool)))<|some (ak.aT (c,d,e))
def LF(e:nN×rP)(b:cQ):Int×cm 16 Bool->Option (ak (Int×cm 16 Bool) (cm 16 Bool)):=
 λ (a,d)=>cond (a<16) (ab (idx e.2.1.l a) λc=>ab (b_ 16 a) λf=>ab (d.l[f]?) λg=>ab (b_ 16 a) λh=>some (ak.next (wI (a+1),(⟨d.l.set h (g&&(c.Id.toNat:Int)==(b.Id.toNat:Int)&&c.bz==b.bz&&c.bb==b.bb&&c.K==b.K)⟩:cm 16 Bool))))<|some (ak.aT d)
def DA(d:cu):Option (lU×Bool):=
 ab (bf (KZ d) aP ([],0,(cm.mk (dr 16 (cQ.mk 0 0 0 0 0 0 0 0 0 false)):cm 16 cQ),(cm.mk (dr 16 false):cm 16 Bool))) λa=>cond ((a.1.length:Int)==0) (some (lU.mk (cm.mk (dr 16 (cQ.mk 0 0 0 0 0 0 0 0 0 false)):cm 16 cQ) (cm.mk (dr 16 false):cm 16 Bool) (cQ.mk 0 0 0 0 0 0 0 0 0 false),false))<|ab (DG a.1 λb=>Aa b.1 b.2) λc=>ab (bf (LF a c) aP (0,a.2.2)) λe=>some (lU.mk a.2.1 e c,true)
def Aj(c:Int)(a:aU):Int->pJ:=
 λb=>ab (gO (!a.aJ.length !=b) (my a)) λd=>cond (a.aJ.length !=b||d !=0) (some (ak.aT (Sum.inl ())))<|some (ak.next (wI (c+1)))
def KV(b:J)(c:cu)(e:ea):Int->pJ:=
 λa=>cond (a<c.length) (ab (idx c a) λd=>cond (a==b.aw) (ab (uT b) λf=>Aj a d f.1)<|Aj a d e.1)<|some (ak.aT (Sum.inr ()))
def nO(a:J)(b:cu):dv:=
 ab (BX a) λc=>cond (c.2 !=0||b.length !=wI (a.aw+1)) (some 8)<|ab (bf (KV a b c) aP 0) λd=>Sum.elim (λe=>some (8:Int)) (λf=>some (0:Int)) d
def Cl(a:Int):Int->Option (ak ea (Unit⊕Int)):=
 λb=>some (ak.next (wI (a+1),b))
def LG(c:lU):ea->Option (ak ea (Unit⊕Int)):=
 λ (a,b)=>cond (a<c.cA.aw) (ab (b_ 16 a) λd=>ab (c.right.l[d]?) λe=>cond e (Cl a b)<|cond (b != -1&&b !=a) (some (ak.aT (Sum.inl ())))<|Cl a a)<|some (ak.aT (Sum.inr b))
def DX(a:lU)(b:Int):Bool×ea->s_:=
 λ (c,d,e)=>some (X.mk a.cA.cZ b c d e false false,0)
def Cj(a:lU):s_:=
 ab (bf (LG a) aP (0,a.cA.bZ)) λc=>Sum.elim (λf=>some (X.mk 0 0 false 0 0 false false,(230:Int))) (λb=>ab (gO (a.cA.bZ != -1) (b_ 16 a.cA.bZ)) λd=>ab (gO (a.cA.bZ != -1) (a.right.l[d]?)) λe=>cond (a.cA.bZ != -1&&e) (DX a b (true,a.cA.cN,a.cA.cN))<|DX a b (false,0,0)) c
def AB(b:cu)(d:Int):Option iF:=
 ab (gO (!((b.length:Int)<=3)) (vJ [] b)) λe=>cond ((b.length:Int)<=3||e !=0) none<|ab (DA b) λa=>cond (!a.2) (some (J.mk 0 0 0 0 0 0,X.mk 0 0 false 0 0 false false,false,230))<|ab (nO (J.mk a.1.cA.Id a.1.cA.aw a.1.cA.bz a.1.cA.bb a.1.cA.K d) b) λf=>cond (f !=0) (some (J.mk 0 0 0 0 0 0,X.mk 0 0 false 0 0 false false,false,8))<|ab (Cj a.1) λc=>cond (c.2 !=0) (some (J.mk 0 0 0 0 0 0,c.1,false,c.2))<|some (J.mk a.1.cA.Id a.1.cA.aw a.1.cA.bz a.1.cA.bb a.1.cA.K d,c.1,a.1.cA.Open,0)
def Dt(a:cq):Option (fT×Int):=
 ab (iC a 1 4) λb=>cond (b.2 !=0) none<|ab (iC a 5 4) λc=>cond (c.2 !=0) none<|ab (iC a 9 4) λd=>cond (d.2 !=0) none<|ab (iC a 13 1) λe=>ab (rM (fT.mk (dP.of b.1) (dP.of c.1) (dP.of d.1) e.1)) λf=>cond (f.2 !=0|| !(kp.mk f.1).s==(kp.mk a).s) (some (fT.mk 0 0 0 0,90))<|some (fT.mk (dP.of b.1) (dP.of c.1) (dP.of d.1) e.1,0)
def nL:Nat->Int
 |0=>1
 |1=>5
 |_=>9
def uk(a:List Nat)(b:Nat)(c:UInt32):UInt32:=
 cond (a.contains b) c 0
def RU(s:(Nat->Bool)×List Nat)(L:Nat->Bool):Prop:=s.1=L/\s.2.Nodup/\(∀k,k∈s.2↔k<3/\L (2 * k+2)=true)/\(L 0=false->s.2=[]/\L 7=false/\L 8=false)/\(L 8=true->L 0=true)
def C0(b:J)(c:aU):Option (fT×Int):=
 ab (uT b) λe=>cond (e.2 !=0) none<|ab (my c) λf=>cond (f !=0||c.aJ.length !=e.1) none<|ab (oR c 0) λd=>cond (d.2 !=0) (some (fT.mk 0 0 0 0,d.2))<|ab (Dt d.1) λa=>cond (a.2 !=0||(a.1.Id.toNat:Int) !=(b.Id.toNat:Int)||a.1.ca>=b.K) (some (fT.mk 0 0 0 0,90))<|some (a.1,0)
def BA(a b:Int):bE:=
 some (a>=1&&a<=255&&b>=0&&b<a)
def Dz(a:Int)(d:UInt8)(b e:Int):Int->jx:=
 λf=>ab (BA a b) λc=>ab (gO (!!c) (BA a f)) λg=>cond (!c|| !g) none<|cond (d==1) none<|ab (mI (wI (b+e)) a) λh=>some (h,0)
def Hs(c:Int)(b:UInt8)(d a:Int):jx:=
 cond (b==0) (cond (a<0) none<|Dz c b d a (max (wI (a - 1)) (0:Int)))<|Dz c b d a a
def oo(b c d:Int):jx:=
 ab (Hs b 0 c d) λa=>some (a.1,a.2)
def KH(c:iO):Int×fR->Option (ak (Int×fR) Bool):=
 λ (e,d,a)=>cond (a<c.fo.length) (ab (idx c.fo a) λb=>some (ak.next (wI b.Slot.toNat,d&&wI b.Slot.toNat>e&&(wI b.Slot.toNat==255&&a>0&&a==wI (c.fo.length - 1)||wI b.Slot.toNat<=14),wI (a+1))))<|some (ak.aT d)
def Bx(a:iO):dv:=
 ab (bf (KH a) aP (-1,(a.fo.length:Int)>=1&&(a.fo.length:Int)<=16&&(a.bR.toNat:Int)>=((1:UInt32).toNat:Int)&&(a.bR.toNat:Int)<=((2147483648:UInt32).toNat:Int)&&(a.Seq.toNat:Int)>=((1:UInt32).toNat:Int)&&(a.Seq.toNat:Int)<=((2147483648:UInt32).toNat:Int)&&a.L>=0&&a.L<64,0)) λb=>cond (!b) (some 8)<|some 0
def Ov(e b:Int)(c:df):lz->Option (ak lz cq):=
 λ (d,a)=>cond (a<c.length) (ab (idx c a) λf=>ab (rh d (wI (e+wI (a * b))) b f) λg=>some (ak.next (g.1,wI (a+1))))<|some (ak.aT d)
def oj(a:cq)(b c:Int)(d:df):oH:=
 ab (bf (Ov b c d) aP (a,0)) λe=>some e
def D1(a:Int)(c:cq)(b:fJ):Int->tJ:=
 λd=>ab (oj c (wI (15+wI (6 * a))) 1 [wI b.Slot.toNat,d]) λe=>ab (oj e (wI (wI (15+wI (6 * a))+2)) 4 [wI b.Sum.toNat]) λf=>some (ak.next (wI (a+1),f))
def O9(d:iO):Int×cq->tJ:=
 λ (a,b)=>cond (a<d.fo.length) (ab (idx d.fo a) λc=>cond c.rj (D1 a b c 1)<|D1 a b c 0)<|some (ak.aT b)
def IU(b:iO)(c:cq):Unit->iW:=
 λ_=>ab (bf (O9 b) aP (0,c)) λa=>ab (fy a 0 124) λd=>ab (nt d) λe=>ab (oj a 124 4 [wI e.toNat]) λf=>some (f,0)
def xV(a:iO):iW:=
 ab (Bx a) λb=>cond (b !=0) (some ([],b))<|ab (oj [] 0 1 [78]) λc=>ab (oj c 1 4 [wI a.Id.toNat,wI a.bR.toNat,wI a.Seq.toNat]) λd=>ab (oj d 13 1 [a.L,a.fo.length]) λe=>IU a e ()
def O'(b:cq)(e:ea):Int×kX×Int->Option (ak (Int×kX×Int) (kX×Int)):=
 λ (c,d,a)=>cond (c<min e.1 (17:Int)) (ab (iC b a 1) λf=>ab (iC b (wI (a+1)) 1) λg=>ab (iC b (wI (wI (a+1)+1)) 4) λh=>ab (app d [fJ.mk (ny.of f.1) (g.1==1) (dP.of h.1)]) λi=>some (ak.next (wI (c+1),i,wI (wI (wI (a+1)+1)+4))))<|some (ak.aT (d,a))
def JJ(a:cq)(b c d e h:ea):Unit->Option (iO×Int):=
 λ_=>ab (bf (O' a h) aP (0,[],wI (wI (wI (wI (wI (1+4)+4)+4)+1)+1))) λf=>ab (xV (iO.mk (dP.of b.1) (dP.of c.1) (dP.of d.1) e.1 f.1)) λg=>cond (g.2 !=0|| !(kp.mk g.1).s==(kp.mk a).s) (some (iO.mk 0 0 0 0 [],90))<|some (iO.mk (dP.of b.1) (dP.of c.1) (dP.of d.1) e.1 f.1,0)
def CN(a:cq):Option (iO×Int):=
 ab (iC a 0 1) λb=>cond (b.2 !=0) none<|ab (iC a 1 4) λc=>ab (iC a (wI (1+4)) 4) λd=>ab (iC a (wI (wI (1+4)+4)) 4) λe=>ab (iC a (wI (wI (wI (1+4)+4)+4)) 1) λf=>ab (iC a (wI (wI (wI (wI (1+4)+4)+4)+1)) 1) λg=>JJ a c d e f g ()
def Fq(a:cq):bE:=
 some ((a.length:Int) !=0&&(a.length:Int) !=128)
def MA(d:J)(c:df):ea->Option (ak ea (Unit⊕Unit)):=
 λ (e,a)=>cond (a<c.length) (ab (idx c a) λb=>cond (b<=e||b>wI (d.aw - 2)) (some (ak.aT (Sum.inl ())))<|some (ak.next (b,wI (a+1))))<|some (ak.aT (Sum.inr ()))
def Bi(b:J)(a:df):bE:=
 ab (bf (MA b a) aP (-1,0)) λc=>Sum.elim (λd=>some false) (λe=>some (decide ((a.length:Int)>0))) c
def pS(c:J)(a:bl):dv:=
 ab (kv c) λb=>cond (b.2 !=0) none<|ab (sb a.aJ λe=>Fq e) λd=>ab (gO (!(d||a.L<0||a.L>=b.1)) (Bi c a.eD)) λf=>cond (d||a.L<0||a.L>=b.1|| !f||(a.aJ.length:Int) !=(a.eD.length:Int)||(a.bP.length:Int) !=0&&(a.bP.length:Int) !=128) (some 8)<|some 0
def vU(e:J):wL->tK:=
 λ (f,g,a,b,c,d,j,k,l,m,n,h)=>ab (pS e (bl.mk a b c d)) λi=>cond (i !=0) (some (fj.mk 0 0 (bl.mk 0 [] [] []),0,130))<|some (fj.mk f g (bl.mk a b c d),wI (1+(h.length:Int)),0)
def uC(a:Int)(b c:UInt32)(d:Int)(e:df)(f:bV)(o:cq)(g:Int)(h i j:UInt32)(k:Int)(l:kX)(m:fJ):cq->QN:=
 λn=>cond (m.Slot==255) (some (ak.next (wI (a+1),b,c,d,e,f,n,g,h,i,j,k,l)))<|ab (app e [wI m.Slot.toNat]) λp=>ab (app f [n]) λq=>some (ak.next (wI (a+1),b,c,d,p,q,o,g,h,i,j,k,l))
def Pu(q:J)(t:aU)(u:Int):Int×wL->QN:=
 λ (b,j,k,l,m,n,o,p,f,g,h,i,d)=>cond (b<q.K) (ab (oo q.K u b) λv=>ab (oR t (wI (1+v.1))) λe=>cond (b==0) (ab (CN e.1) λa=>cond (a.2 !=0||(a.1.Id.toNat:Int) !=(q.Id.toNat:Int)) (some (ak.aT (Sum.inl (a.1.Id,a.1.bR,a.1.Seq,a.1.L,a.1.fo))))<|some (ak.next (wI (b+1),a.1.bR,a.1.Seq,a.1.L,[],[],[],a.2,a.1.Id,a.1.bR,a.1.Seq,a.1.L,a.1.fo)))<|cond (b>d.length) (some (ak.aT (Sum.inr (Sum.inl (j,k,l,m,n,o,p,f,g,h,i,d)))))<|ab (idx d (wI (b - 1))) λc=>ab (nt e.1) λr=>ab (gO (!(r.toNat:Int) !=(c.Sum.toNat:Int)) (idx e.1 0)) λs=>ab (gO (!((r.toNat:Int) !=(c.Sum.toNat:Int)||s==78)&&c.rj) (idx e.1 0)) λw=>cond ((r.toNat:Int) !=(c.Sum.toNat:Int)||s==78||c.rj&&w !=0) (some (ak.aT (Sum.inl (f,g,h,i,d))))<|cond c.rj (ab (b_ e.1.length 0) λx=>uC b j k l m n o p f g h i d c (e.1.set x (78:UInt8)))<|uC b j k l m n o p f g h i d c e.1)<|some (ak.aT (Sum.inr (Sum.inr (j,k,l,m,n,o,p,f,g,h,i,d))))
def Ax(c:J)(d:aU)(e:Int):Unit->tK:=
 λ_=>ab (bf (Pu c d e) aP (0,0,0,0,[],[],[],0,0,0,0,0,[])) λf=>Sum.elim (λh=>some (fj.mk 0 0 (bl.mk 0 [] [] []),(0:Int),(130:Int))) (λg=>Sum.elim (λa=>vU c (a.1,a.2.1,a.2.2.1,a.2.2.2.1,a.2.2.2.2.1,a.2.2.2.2.2.1,a.2.2.2.2.2.2.1,a.2.2.2.2.2.2.2.1,a.2.2.2.2.2.2.2.2.1,a.2.2.2.2.2.2.2.2.2.1,a.2.2.2.2.2.2.2.2.2.2.1,a.2.2.2.2.2.2.2.2.2.2.2)) (λb=>vU c (b.1,b.2.1,b.2.2.1,b.2.2.2.1,b.2.2.2.2.1,b.2.2.2.2.2.1,b.2.2.2.2.2.2.1,b.2.2.2.2.2.2.2.1,b.2.2.2.2.2.2.2.2.1,b.2.2.2.2.2.2.2.2.2.1,b.2.2.2.2.2.2.2.2.2.2.1,b.2.2.2.2.2.2.2.2.2.2.2)) g) f
def Fo(a:J)(b:aU)(c:Int):Unit->tK:=
 λ_=>Ax a b c ()
def DQ(b:J)(a:aU)(c:Int):Bool->tK:=
 λd=>cond d none<|cond a.dS none<|Fo b a c ()
def Ep(b:J)(c:aU)(a:Int):Bool->tK:=
 λd=>cond d none<|cond (a<0) (DQ b c a (decide (a<0)))<|DQ b c a (decide (a>=b.K))
def Ej(b:J)(a:aU)(c:Int):tK:=
 ab (uT b) λd=>cond (d.2 !=0) none<|ab (my a) λe=>cond (e !=0) (Ep b a c (e !=0))<|Ep b a c (a.aJ.length !=d.1)
def Cu(a:fT×Int):kJ->Option uB:=
 λb=>some (a.1,b,0)
def E0(a:kJ):Int->JF:=
 λb=>some (ak.aT (Sum.inl a))
def A_:Bool×Int×kJ->JF:=
 λ (b,c,a)=>cond b (some (ak.next (c,a)))<|some (ak.aT (Sum.inr a))
def Mk(d:J)(f:aU)(e:fT×Int):Int×kJ->JF:=
 λ (b,c)=>cond (b<d.K) (ab (oo d.K e.1.ca b) λg=>ab (Ej d f g.1) λa=>cond (a.2.2==0) (cond (wI (b+a.2.1)>d.K||(a.1.Seq.toNat:Int) !=((dP.of ((e.1.Seq.toNat:Int)+((dP.of (c.length:Int)).toNat:Int))).toNat:Int)||(a.1.bR.toNat:Int) !=(e.1.bR.toNat:Int)) (E0 c (wI (b+a.2.1)))<|ab (app c [a.1]) λh=>A_ (true,wI (b+a.2.1),h))<|A_ (false,wI (b+a.2.1),c))<|some (ak.aT (Sum.inr c))
def EP(b:J)(c:aU)(a:fT×Int):Unit->Option uB:=
 λ_=>ab (bf (Mk b c a) aP (0,[])) λd=>Sum.elim (λe=>Cu a e) (λf=>Cu a f) d
def A'(b:J)(c:aU):Option uB:=
 ab (C0 b c) λa=>cond (a.2 !=0) (some (fT.mk 0 0 0 0,[],a.2))<|EP b c a ()
def ue(a b:UInt32)(c:Int):wP:=
 ab (wc (fT.mk 0 a b c)) λd=>cond (d !=0) (some (K.mk 0 0 0 0 [],2))<|some (K.mk a b c 0 [],0)
def oq(b:J)(a:X):dv:=
 ab (kv b) λc=>cond (c.2 !=0||(a.cZ.toNat:Int)>((2147483648:UInt32).toNat:Int)||a.bZ< -1||a.bZ>=b.aw||a.cN<0||a.cN>a.Pos||a.Pos>c.1) none<|cond (a.dt&&a.bZ== -1|| !a.dt&&a.Pos>0) none<|some 0
def DZ(a:Int):cY->A7:=
 λb=>some (ak.next (b,wI (a+1)))
def PX(a:J)(c:X)(f:Bool):gw->A7:=
 λ (d,b)=>cond (b<a.aw) (cond (b==c.bZ&& !c.dt) (DZ b d)<|ab (uw (cQ.mk a.Id (dP.of ((c.cZ.toNat:Int)+((1:UInt32).toNat:Int))) a.aw a.bz a.bb a.K b c.bZ c.cN f)) λe=>cond (e.2 !=0) none<|ab (app d [cd.mk b 2 0 e.1]) λg=>DZ b g)<|some (ak.aT d)
def t_(b:J)(a:X)(c:Bool):Option (X×gw):=
 ab (oq b a) λd=>cond (d !=0) none<|cond a.cO none<|cond ((a.cZ.toNat:Int)==((2147483648:UInt32).toNat:Int)) (some (X.mk 0 0 false 0 0 false false,[],9))<|ab (bf (PX b a c) aP ([],0)) λe=>some (X.mk (dP.of ((a.cZ.toNat:Int)+((1:UInt32).toNat:Int))) a.bZ a.dt a.Pos a.cN a.cn a.cO,e,0)
def Rh(a:sw):bD:=
 cond (a.e !=0) (some (N.mk (J.mk 0 0 0 0 0 0) false (X.mk 0 0 false 0 0 false false) [] (K.mk 0 0 0 0 []) [] 0 false,[],a.e))<|some (a.N,a.gi,0)
def OO(b:kJ)(c:fj->dv):Int->p7:=
 λa=>cond (a<b.length) (ab (idx b a) λd=>ab (c d) λe=>cond (e !=0) none<|some (ak.next (wI (a+1))))<|some (ak.aT ())
def Du(a:kJ)(b:fj->dv):dv:=
 ab (bf (OO a b) aP 0) λc=>some 0
def HW(a:fj)(b:J):dv:=
 ab (pS b a.bl) λc=>some c
def VX(b:df)(c:Int->bE):Int->mU:=
 λa=>cond (a<b.length) (ab (idx b a) λd=>ab (c d) λe=>cond e (some (ak.aT (Sum.inl a)))<|some (ak.next (wI (a+1))))<|some (ak.aT (Sum.inr ()))
def Gv(a:df)(b:Int->bE):dv:=
 ab (bf (VX a b) aP 0) λc=>Sum.elim (λd=>some d) (λe=>some (-1:Int)) c
def EU(a:Int)(b:bl):bE:=
 some (a==b.L)
def cmp_isNaN_int(a:Int):bE:=
 some (a !=a)
def cmp_Less_int(a b:Int):bE:=
 ab (cmp_isNaN_int a) λc=>ab (gO c (cmp_isNaN_int b)) λd=>some (c&& !d||a<b)
def zX(a:Int):bE:=
 some (a !=a)
def Pz(c:df)(d:Int):ea->mQ:=
 λ (a,b)=>cond (a<b) (ab (idx c (wI (lL (oJ.of (wI (a+b))) 1).toNat)) λe=>ab (cmp_Less_int e d) λf=>cond f (some (ak.next (wI (wI (lL (oJ.of (wI (a+b))) 1).toNat+1),b)))<|some (ak.next (a,wI (lL (oJ.of (wI (a+b))) 1).toNat)))<|some (ak.aT a)
def D7(a:df)(c:Int):Option (Int×Bool):=
 ab (bf (Pz a c) aP (0,a.length)) λb=>ab (gO (decide (b<a.length)) (idx a b)) λd=>ab (gO (b<a.length&& !d==c) (idx a b)) λf=>ab (gO (b<a.length&& !d==c) (zX f)) λe=>ab (gO (b<a.length&& !d==c&&e) (zX c)) λg=>some (b,b<a.length&&(d==c||e&&g))
def og(a:cq):oH:=
 ab (app ([]:List UInt8) a) λb=>some b
def vu(a:X)(b:Int):Bool->jx:=
 λc=>cond c none<|cond (a.dt&&b<a.Pos) (some (-1,0))<|some (a.bZ,0)
def qD(c:J)(b:X)(a:Int):jx:=
 ab (oq c b) λd=>cond (d !=0) none<|ab (kv c) λe=>cond (a<0) (vu b a (decide (a<0)))<|vu b a (decide (a>=e.1))
def xA(b:J)(a:Int):bE:=
 some (a>= -1&&a<b.aw)
def mz(a b:Int):jx:=
 ab (oK a b) λc=>ab (mI a b) λd=>some (c,d)
def tP(a:J)(b:Int):Bool->Option (jS×Int):=
 λc=>cond c none<|ab (mz b a.bz) λd=>some (jS.mk a d.1,0)
def uP(b:J)(a c e:Int):Option (jS×Int):=
 ab (kv b) λd=>cond (d.2 !=0) none<|cond (a<0) (tP b a (decide (a<0)))<|cond (a>=d.1) (tP b a (decide (a>=d.1)))<|cond (c<0) (tP b a (decide (c<0)))<|tP b a (decide (c>=e))
def yi(a:jS):dv:=
 ab (mz a.n a.J.aw) λb=>some (wI (wI (a.J.aw - 1) - b.2))
def wM(a:jS)(b:Int):dv:=
 ab (yi a) λc=>ab (mz (wI (wI (c+1)+b)) a.J.aw) λd=>some d.2
def uO(a:J)(d b:Int):jx:=
 ab (uP a d b a.aw) λc=>cond (c.2 !=0) none<|ab (wM c.1 b) λe=>some (e,0)
def Hk:cY->Option gw:=
 λa=>some (a,0)
def DK(a:Int):cY->Option (ak (Int×cY) cY):=
 λb=>some (ak.next (wI (a+1),b))
def LL(f:J)(g:Int)(a:bl):Int×cY->Option (ak (Int×cY) cY):=
 λ (b,c)=>cond (b<(a.eD.length:Int)) (ab (idx a.eD b) λh=>ab (idx a.aJ b) λi=>ab (uO f a.L h) λd=>cond (d.1==g) (DK b c)<|ab (js i) λe=>cond ((e.length:Int)==0) none<|ab (app c [cd.mk d.1 1 (wI (a.L+1)) e]) λj=>DK b j)<|some (ak.aT c)
def z9:cY->Option gw:=
 λa=>Hk a
def vR(b:J)(c:Int)(a:bl):Option gw:=
 ab (bf (LL b c a) aP (0,[])) λd=>ab (uO b a.L (wI (b.aw - 1))) λe=>cond (e.1==c) (z9 d)<|ab (js a.bP) λf=>cond ((f.length:Int)==0) none<|ab (app d [cd.mk e.1 1 (wI (a.L+1)) f]) λg=>z9 g
def Bl(a:J)(c:Int)(b:bl):Option gw:=
 ab (pS a b) λe=>cond (e !=0) none<|ab (xA a c) λf=>cond (!f) none<|cond ((b.bP.length:Int)==0) none<|ab (vR a c b) λd=>some (d.1,d.2)
def OX(b:df)(f:List cW):iH×Int->Option (ak (iH×Int) iH):=
 λ (c,a)=>cond (a<b.length) (ab (idx b a) λd=>ab (rO f d) λe=>ab (app c [bl.mk d e.2.1 e.2.2 []]) λg=>some (ak.next (g,wI (a+1))))<|some (ak.aT c)
def Gd:cY×qf->Option (cY×iH×Int):=
 λ (a,b,c)=>ab (bf (OX b c) aP ([],0)) λd=>some (a,d,0)
def Dd(a:Int):Int×cY×qf->tN:=
 λ (b,c,d,e)=>cond (b !=0) none<|some (ak.next (wI (a+1),c,d,e))
def tS(b:J)(i:X)(c:Int)(d:cY)(a:fj):qf->tN:=
 λ (e,f)=>cond ((a.bl.bP.length:Int)==0) (Dd c (0,d,e,f))<|ab (qD b i a.bl.L) λg=>cond (g.2 !=0) none<|ab (Bl b g.1 a.bl) λh=>ab (app d h.1) λj=>Dd c (h.2,j,e,f)
def yg(a:J)(b:X)(c:Int)(d:cY)(e:fj):qf->tN:=
 λ (f,g)=>tS a b c d e (f,g)
def zO(b:J)(c:X)(d:Int)(e:cY)(f:List cW)(a:fj):df->tN:=
 λg=>yg b c d e a (g,ly f a.bl.L)
def AX(a:Int):mG->HJ:=
 λ (b,c)=>some (ak.next (b,c,wI (a+1)))
def IA(e:fj)(a:df)(b c d:Int):Unit->HJ:=
 λ_=>cond (!d==e.bl.L) (ab (b_ a.length b) λf=>AX c (a.set f d,wI (b+1)))<|AX c (a,b)
def JE(d:fj):df×ea->HJ:=
 λ (a,c,b)=>cond (b<a.length) (ab (idx a b) λe=>IA d a c b e ())<|some (ak.aT (a,c))
def DP(c:fj)(a:Int)(d:Int×Bool):df×bV->Ah:=
 λ (e,b)=>ab (idx c.bl.aJ a) λf=>ab (og f) λg=>ab (b_ b.length d.1) λh=>some (ak.next (wI (a+1),e,b.set h g))
def KJ(b:fj):Int×df×bV->Ah:=
 λ (c,d,e)=>cond (c<b.bl.eD.length) (ab (idx b.bl.eD c) λf=>ab (D7 d f) λa=>cond (!a.2) (ab (rL d a.1 f) λg=>ab (rL e a.1 ([]:List UInt8)) λh=>DP b c a (g,h))<|DP b c a (d,e))<|some (ak.aT (d,e))
def yk(c:J)(d:X)(e:Int)(f:cY)(a:fj):df×bV×qf->tN:=
 λ (g,h,i,j)=>ab (bf (KJ a) aP (0,g,h)) λb=>tS c d e f a (i,pD j a.bl.L (a.bl.L,b.1,b.2))
def Kv(g:J)(h:X)(j:kJ):Int×cY×qf->tN:=
 λ (d,f,e,b)=>cond (d<(j.length:Int)) (ab (idx j d) λa=>cond ((a.bl.bP.length:Int)>0) (cond (ez b a.bl.L) (ab (Gv e λk=>EU k a.bl) λi=>cond (i== -1) (zO g h d f b a e)<|ab (bf (JE a) aP (e,i,wI (i+1))) λc=>ab (fy c.1 c.2 c.1.length) λo=>ab (fy (c.1.take (qP c.2)++dr (c.1.length - qP c.2) (0:Int)) 0 c.2) λl=>zO g h d f b a l)<|yg g h d f a (e,b))<|cond (!ez b a.bl.L) (ab (app e [a.bl.L]) λm=>ab (pE b a.bl.L) λn=>yk g h d f a ([],[],m,n))<|yk g h d f a ((jz b a.bl.L).2.1,(jz b a.bl.L).2.2,e,b))<|some (ak.aT (f,e,b))
def D5(a:J)(d:X)(b:kJ):Option (cY×iH×Int):=
 ab (oq a d) λe=>cond (e !=0) none<|cond ((b.length:Int)>255) (some ([],[],4))<|ab (Du b λf=>HW f a) λg=>cond (g !=0) none<|ab (bf (Kv a d b) aP (0,[],[],[])) λc=>Gd (c.1,c.2.1,c.2.2)
def LM(c:J):gw->A7:=
 λ (b,a)=>cond (a<c.aw) (ab (app b [cd.mk a 3 0 []]) λd=>some (ak.next (d,wI (a+1))))<|some (ak.aT b)
def yy(a:J):Option gw:=
 ab (ng a) λb=>cond (b !=0) none<|ab (bf (LM a) aP ([],0)) λc=>some (c,0)
def yn(a:bl):dv:=
 some (wI (wI (1+(a.eD.length:Int))+min (a.bP.length:Int) (1:Int)))
def KF(b:kJ):ea->mQ:=
 λ (c,a)=>cond (a<b.length) (ab (idx b a) λd=>ab (yn d.bl) λe=>some (ak.next (wI (c+e),wI (a+1))))<|some (ak.aT c)
def Pk(b:iH):ea->mQ:=
 λ (c,a)=>cond (a<b.length) (ab (idx b a) λd=>ab (yn d) λe=>some (ak.next (wI (c+e),wI (a+1))))<|some (ak.aT c)
def B4(a:sw)(b:fT)(c:kJ)(d:iH):Option (K×Bool):=
 ab (bf (KF c) aP (0,0)) λe=>ab (bf (Pk d) aP (0,0)) λg=>ab (oo a.N.J.K b.ca e) λh=>ab (ue (dP.of ((b.bR.toNat:Int)+((1:UInt32).toNat:Int))) (dP.of ((b.Seq.toNat:Int)+((dP.of (c.length:Int)).toNat:Int))) h.1) λf=>some (f.1,f.2==0&&wI (e+g)<=a.N.J.K&&d.length<=a.N.J.aE)
def BJ(a:J):jx:=
 ab (pW a (wI (a.aw+1))) λb=>some (b.1,b.2)
def AG(a:UInt32):bE:=
 some ((a.toNat:Int)>=((1:UInt32).toNat:Int)&&(a.toNat:Int)<=((2147483648:UInt32).toNat:Int))
def Dy(c:Int)(a:j):List ea->Option (ak tL (List ea)):=
 λb=>cond (a.cH&&(!a.dC||(fU b a.L).getD (0:Int)==0)) none<|some (ak.next (wI (c - 1),b))
def Ot(d:Ring):tL->Option (ak tL (List ea)):=
 λ (b,c)=>cond (b>=0) (ab (idx d.K.j b) λa=>cond (a.cH&&a.bP) (Dy b a (ko c a.L (1:Int)))<|Dy b a c)<|some (ak.aT c)
def JM(a:Ring):Unit->bE:=
 λ_=>ab (bf (Ot a) aP (wI (a.K.j.length - 1),[])) λb=>some true
def Dx(a:Ring):bE:=
 JM a ()
def By(a:Int):tM->Option (ak (Int×tM) tM):=
 λb=>some (ak.next (wI (a+1),b))
def Mn(d:Ring):Int×tM->Option (ak (Int×tM) tM):=
 λ (a,c)=>cond (a<d.K.j.length) (ab (idx d.K.j a) λb=>cond b.bP (By a (kI (ko c b.L true) b.L))<|By a (ko c b.L true))<|some (ak.aT c)
def Bz(a:Ring):dv:=
 ab (bf (Mn a) aP (0,[])) λb=>some b.length
def wB(a:Ring):bE:=
 ab (BJ a.c) λb=>ab (gO (decide (a.K.cg<=a.c.K)) (Bz a)) λd=>some (a.K.cg<=a.c.K&&wI (a.c.K - a.K.cg)>=wI (b.1 * d))
def OP(b:Ring)(e f:ea):Int×fR->Option (ak (Int×fR) Int):=
 λ (d,g,c)=>cond (c<b.K.j.length) (ab (idx b.K.j c) λa=>cond (a.L<0||a.L>=e.1||a.aJ<2||a.aJ>f.1||(a.Seq.toNat:Int)==((0:UInt32).toNat:Int)||(a.Seq.toNat:Int) !=((dP.of ((b.K.Seq.toNat:Int) - ((dP.of (wI (b.K.j.length - c))).toNat:Int))).toNat:Int)||a.dC&& !g) none<|some (ak.next (wI (d+a.aJ),a.dC,wI (c+1))))<|some (ak.aT d)
def FQ(a:Ring):bE:=
 ab (kv a.c) λf=>ab (BJ a.c) λg=>ab (AG a.K.bR) λd=>ab (gO (!!d) (AG a.K.Seq)) λh=>cond (!d|| !h||a.K.ca<0||a.K.ca>=a.c.K||a.K.j.length>a.c.K||a.K.cg>a.c.K) none<|ab (bf (OP a f g) aP (0,true,0)) λb=>ab (gO (b==a.K.cg&&wI a.K.Seq.toNat>a.K.j.length) (Dx a)) λe=>ab (gO (b==a.K.cg&&wI a.K.Seq.toNat>a.K.j.length&&e) (wB a)) λi=>some (b==a.K.cg&&wI a.K.Seq.toNat>a.K.j.length&&e&&i)
def oh(a:J)(b:K):dv:=
 ab (ng a) λc=>cond (!c !=0) (ab (FQ (Ring.mk b a)) λd=>cond (!d) none<|some 0) none
def rI(a:bH):Option bH:=
 ab (app ([]:List j) a) λb=>some b
def qF(a:K):Option K:=
 ab (rI a.j) λb=>some (K.mk a.bR a.Seq a.ca a.cg b)
def wS(a:cq):oH:=
 ab (lW (0:UInt8) (128:Int)) λb=>ab (tB b a) λc=>some c
def EM(a:Int):kX×bV->JH:=
 λ (b,c)=>some (ak.next (wI (a+1),b,c))
def AD(b:Int)(c:kX)(d:bV)(e:Int)(f:UInt8):cq->JH:=
 λa=>ab (nt a) λg=>ab (app c [fJ.mk (ny.of e) (f==78) g]) λh=>ab (app d [a]) λi=>EM b (h,i)
def Li(c:bl):Int×kX×bV->JH:=
 λ (a,d,e)=>cond (a<c.aJ.length) (ab (idx c.aJ a) λh=>ab (idx c.eD a) λg=>ab (wS h) λb=>ab (idx b 0) λf=>cond (f==78) (ab (b_ b.length 0) λi=>AD a d e g f (b.set i (0:UInt8)))<|AD a d e g f b)<|some (ak.aT (d,e))
def uu(b:J)(c d:UInt32)(e:bl):kX×bV->Option (bV×Int):=
 λ (f,g)=>ab (xV (iO.mk b.Id c d e.L f)) λa=>cond (a.2 !=0) none<|ab (rL g (0:Int) a.1) λh=>some (h,0)
def E8(a:J)(b c:UInt32)(d:bl):kX×bV->Option (bV×Int):=
 λ (e,f)=>uu a b c d (e,f)
def CU(c:J)(d e:UInt32)(f:bl)(a:kX×bV)(g:UInt8):cq->Option (bV×Int):=
 λb=>ab (nt b) λh=>ab (app a.1 [fJ.mk (ny.of (255:Int)) (g==78) h]) λi=>ab (app a.2 [b]) λj=>E8 c d e f (i,j)
def CC(b:J)(e f:UInt32)(a:bl):Option (bV×Int):=
 ab (pS b a) λh=>cond (h !=0) none<|ab (bf (Li a) aP (0,[],[])) λc=>cond ((a.bP.length:Int)>0) (ab (wS a.bP) λd=>ab (idx d 0) λg=>cond (g==78) (ab (b_ d.length 0) λi=>CU b e f a c g (d.set i (0:UInt8)))<|CU b e f a c g d)<|uu b e f a (c.1,c.2)
def ME(b:J)(c:K)(d:bV×Int):gw->A7:=
 λ (e,a)=>cond (a<d.1.length) (ab (idx d.1 a) λf=>ab (oo b.K c.ca c.cg) λg=>ab (oo b.K g.1 a) λh=>ab (app e [cd.mk b.aw 1 (wI (1+h.1)) f]) λi=>some (ak.next (i,wI (a+1))))<|some (ak.aT e)
def EG(c:J)(a:K)(d:bl)(e f:UInt32)(g h:Int)(o:bH):Int->td:=
 λk=>cond (k !=0) none<|ab (CC c a.bR a.Seq d) λb=>cond (b.2 !=0||(a.Seq.toNat:Int)==((2147483648:UInt32).toNat:Int)) (some (K.mk 0 0 0 0 [],[],9))<|ab (app o [j.mk a.Seq d.L b.1.length (decide ((d.bP.length:Int)>0)) false false]) λi=>ab (wB (Ring.mk (K.mk e (dP.of ((f.toNat:Int)+((1:UInt32).toNat:Int))) g (wI (h+(b.1.length:Int))) i) c)) λl=>cond (!l) (some (K.mk 0 0 0 0 [],[],9))<|ab (bf (ME c a b) aP ([],0)) λm=>some (K.mk e (dP.of ((f.toNat:Int)+((1:UInt32).toNat:Int))) g (wI (h+(b.1.length:Int))) i,m,0)
def Hm(a:J)(c:K)(b:bl):ns->td:=
 λ (d,e,f,g,h)=>ab (pS a b) λi=>EG a c b d e f g h i
def yz(c:J)(b:K)(d:bl):td:=
 ab (oh c b) λe=>cond (e !=0) none<|ab (qF b) λa=>Hm c b d (a.bR,a.Seq,a.ca,a.cg,a.j)
def Pp(d:bH):Int×bH->Option (ak (Int×bH) bH):=
 λ (b,a)=>cond (b<d.length) (ab (b_ a.length b) λc=>ab (a[c]?) λe=>some (ak.next (wI (b+1),a.set c {e with dC:=true})))<|some (ak.aT a)
def GF:ns->wP:=
 λ (b,c,d,e,a)=>ab (bf (Pp a) aP (0,a)) λf=>some (K.mk b c d e f,0)
def xG(c:J)(b:K):wP:=
 ab (oh c b) λd=>cond (d !=0) none<|ab (qF b) λa=>GF (a.bR,a.Seq,a.ca,a.cg,a.j)
def B_(a:J)(b:Int):Bool->fg:=
 λc=>cond c none<|ab (lW ([]:List UInt8) a.aw) λd=>ab (lW false (wI (a.aw - 1))) λe=>some (aM.mk b d e 0 false 0,0)
def oS(b:J)(a:Int):fg:=
 ab (kv b) λc=>cond (c.2 !=0) none<|cond (a<0) (B_ b a (decide (a<0)))<|B_ b a (decide (a>=c.1))
def mc(a:cq):bE:=
 some ((a.length:Int) !=0&&(a.length:Int) !=128)
def N5(b:aM):fR->Option (ak fR Bool):=
 λ (d,a)=>cond (a<(b.a_.length:Int)) (ab (idx b.a_ a) λc=>ab (gO c (idx b.aJ a)) λe=>cond (c&&(e.length:Int)==0) none<|some (ak.next (d||c,wI (a+1))))<|some (ak.aT d)
def jL(b:J)(a:aM):dv:=
 ab (kv b) λc=>ab (gO (!(c.2 !=0||a.L<0||a.L>=c.1||(a.aJ.length:Int) !=b.aw||(a.a_.length:Int) !=wI (b.aw - 1)||(a.aG.toNat:Int)>((4:UInt8).toNat:Int))) (sb a.aJ λe=>mc e)) λf=>cond (c.2 !=0||a.L<0||a.L>=c.1||(a.aJ.length:Int) !=b.aw||(a.a_.length:Int) !=wI (b.aw - 1)||(a.aG.toNat:Int)>((4:UInt8).toNat:Int)||f) none<|ab (bf (N5 a) aP (false,0)) λd=>ab (idx a.aJ (wI (b.aw - 1))) λg=>cond ((a.aG==0)==decide ((g.length:Int)>0)|| !a.aG==0&& !d||(a.aG.toNat:Int)<=((1:UInt8).toNat:Int)&&(a.Seq.toNat:Int) !=((0:UInt32).toNat:Int)||a.cG&&(!d||(a.aG.toNat:Int)>((1:UInt8).toNat:Int))) none<|some 0
def A5(a:fA):Option fA:=
 ab (app ([]:List Bool) a) λb=>some b
def El(b:aM):Int×bV->ri:=
 λ (a,c)=>cond (a<b.aJ.length) (ab (idx b.aJ a) λd=>ab (js d) λe=>ab (app c [e]) λf=>some (ak.next (wI (a+1),f)))<|some (ak.aT c)
def mb(a:aM):Option aM:=
 ab (A5 a.a_) λb=>ab (bf (El a) aP (0,[])) λc=>some (aM.mk a.L c b a.aG a.cG a.Seq)
def yK(a:cq):oH:=
 cond ((a.length:Int)==0) none<|ab (js a) λb=>some b
def B7:Int×bV×fA×Bool×UInt32×Int->fg:=
 λ (a,b,c,d,e,f)=>some (aM.mk a b c 0 d e,f)
def IJ(a:aM):bV×fA->fg:=
 λ (b,c)=>B7 (a.L,b,c,a.cG,a.Seq,0)
def E_(a:aM):bV×fA->fg:=
 λ (b,c)=>IJ a (b,c)
def w9(c:J)(d:aM)(b:Int)(e:cq):fg:=
 ab (jL c d) λf=>cond (f !=0) (B7 (0,[],[],false,0,f))<|cond (b<0||b>=wI (c.aw - 1)) none<|ab (mc e) λh=>cond h none<|ab (mb d) λa=>cond ((a.aG.toNat:Int)>((1:UInt8).toNat:Int)) none<|ab (b_ a.aJ.length (wI (c.aw - 1))) λg=>ab (yK e) λi=>ab (b_ (a.aJ.set g ([]:List UInt8)).length b) λj=>ab (b_ a.a_.length b) λk=>E_ a ((a.aJ.set g ([]:List UInt8)).set j i,a.a_.set k true)
def Xc(b:bw)(c:aM->bE):Int->mU:=
 λa=>cond (a<b.length) (ab (idx b a) λd=>ab (c d) λe=>cond e (some (ak.aT (Sum.inl a)))<|some (ak.next (wI (a+1))))<|some (ak.aT (Sum.inr ()))
def Dh(a:bw)(b:aM->bE):dv:=
 ab (bf (Xc a b) aP 0) λc=>Sum.elim (λd=>some d) (λe=>some (-1:Int)) c
def P1(a:aM)(b:Int):bE:=
 some (a.L==b)
def sV(a:bw)(b:Int):dv:=
 ab (Dh a λc=>P1 c b) λd=>some d
def KL(e:J)(b:bw):Int->p7:=
 λa=>cond (a<b.length) (ab (idx b a) λd=>ab (jL e d) λc=>ab (gO (!c !=0) (fy b 0 a)) λf=>ab (gO (!c !=0) (sV f d.L)) λg=>cond (c !=0||g>=0) none<|some (ak.next (wI (a+1))))<|some (ak.aT ())
def qt(a:J)(b:bw):dv:=
 ab (ng a) λc=>cond (c !=0||b.length>a.aE) none<|ab (bf (KL a b) aP 0) λd=>some 0
def Az(a:bw):Option bw:=
 ab (app ([]:List aM) a) λb=>some b
def NP(c:bw):Int×bw->BB:=
 λ (b,a)=>cond (b<c.length) (ab (b_ a.length b) λd=>ab (a[d]?) λe=>ab (mb e) λf=>ab (b_ a.length b) λg=>some (ak.next (wI (b+1),a.set g f)))<|some (ak.aT a)
def tQ(b:bw):Option bw:=
 ab (Az b) λa=>ab (bf (NP a) aP (0,a)) λc=>some c
def CF(a:aM):bw->Option bw:=
 λb=>ab (mb a) λc=>ab (rr b c) λd=>some d
def I5(d:bw)(b:aM)(a:Int):Option bw:=
 ab (tQ d) λc=>cond (a>=0) (ab (vW c a (wI (a+1))) λe=>CF b e)<|CF b c
def l_(b:J)(a:bw)(c:aM):Option (bw×Int):=
 ab (qt b a) λd=>ab (gO (!d !=0) (jL b c)) λf=>cond (d !=0||f !=0) none<|ab (sV a c.L) λe=>cond (e<0&&a.length==b.aE) none<|ab (I5 a c e) λg=>some (g,0)
def AA:J×Bool×X×UInt32×UInt32×Int×Int×bH×Int×gw->bD:=
 λ (a,b,c,d,e,f,g,h,i,j,k)=>some (N.mk a b c [] (K.mk d e f g h) [] i false,j,k)
def DW(c:Bool)(d:iF)(a:K×Int):UInt32×Int×Bool×Int×Int×Bool×Bool×gw->bD:=
 λ (e,f,g,h,i,o,k,l,b)=>cond (b !=0) (AA (J.mk 0 0 0 0 0 0,false,X.mk 0 0 false 0 0 false false,0,0,0,0,[],0,[],b))<|AA (d.1,c,X.mk e f g h i o k,a.1.bR,a.1.Seq,a.1.ca,a.1.cg,a.1.j,1,l,0)
def Jn(b:Bool)(c:iF)(d:K×Int):zU->bD:=
 λ (l,a,e,f,g,h,i,j,k)=>cond (a==0) (ab (app ([]:List cd) l) λm=>DW b c d (e,f,g,h,i,j,k,m,a))<|DW b c d (e,f,g,h,i,j,k,[],a)
def EH(a:Bool)(b:iF)(c:K×Int):zU->bD:=
 λ (d,e,f,g,h,i,j,k,l)=>Jn a b c (d,e,f,g,h,i,j,k,l)
def wF:J×Bool×X×bw×UInt32×UInt32×Int×Int×bH×Int×gw->bD:=
 λ (a,b,c,d,e,f,g,h,i,j,k,l)=>some (N.mk a b c d (K.mk e f g h i) [] j false,k,l)
def wj(b:Bool)(c:iF)(d e:UInt32)(f g:Int)(h:bH)(i:UInt32)(j:Int)(k:Bool)(l m:Int)(n o:Bool)(p:cY)(a:Int):bw->bD:=
 λq=>cond (a !=0) (wF (J.mk 0 0 0 0 0 0,false,X.mk 0 0 false 0 0 false false,[],0,0,0,0,[],0,[],a))<|wF (c.1,b,X.mk i j k l m n o,q,d,e,f,g,h,1,p,0)
def Hp(a:Bool)(b:iF)(c d:UInt32)(e f:Int)(g:bH)(h:UInt32)(i:Int)(j:Bool)(k l:Int)(m n:Bool)(o:cY)(p:Int):bw->bD:=
 λq=>wj a b c d e f g h i j k l m n o p q
def Lr(j:iF)(c:bl):m3->Option (ak m3 (Int×bV×fA×UInt8×Bool×UInt32)):=
 λ (b,d,e,f,g,h,i)=>cond (b<c.eD.length) (ab (idx c.eD b) λk=>ab (idx c.aJ b) λl=>ab (w9 j.1 (aM.mk d e f g h i) k l) λa=>some (ak.next (wI (b+1),a.1.L,a.1.aJ,a.1.a_,a.1.aG,a.1.cG,a.1.Seq)))<|some (ak.aT (d,e,f,g,h,i))
def GQ(c:iF)(e:iH):Int×bw->BB:=
 λ (d,f)=>cond (d<e.length) (ab (idx e d) λg=>ab (oS c.1 g.L) λa=>ab (bf (Lr c g) aP (0,a.1.L,a.1.aJ,a.1.a_,a.1.aG,a.1.cG,a.1.Seq)) λb=>ab (l_ c.1 f (aM.mk b.1 b.2.1 b.2.2.1 b.2.2.2.1 true b.2.2.2.2.2)) λh=>some (ak.next (wI (d+1),h.1)))<|some (ak.aT f)
def ru(c:Bool)(a:iF)(q:iH)(d e:UInt32)(f g:Int)(h:bH):UInt32×Int×Bool×Int×Int×Bool×Bool×gw->bD:=
 λ (i,j,k,l,m,n,o,p,b)=>cond (b==0) (ab (bf (GQ a q) aP (0,[])) λr=>Hp c a d e f g h i j k l m n o p b r)<|wj c a d e f g h i j k l m n o p b []
def Ga(b:Bool)(c:iF)(d:iH)(e f:UInt32)(g h:Int)(i:bH)(j:cY):zU->bD:=
 λ (r,a,k,l,m,n,o,p,q)=>cond (a==0) (ab (app j r) λs=>ru b c d e f g h i (k,l,m,n,o,p,q,s,a))<|ru b c d e f g h i (k,l,m,n,o,p,q,j,a)
def FK(a:Bool)(b:iF)(c:iH)(d e:UInt32)(f g:Int)(h:bH)(i:cY):zU->bD:=
 λ (j,k,l,m,n,o,p,q,r)=>Ga a b c d e f g h i (j,k,l,m,n,o,p,q,r)
def uL(c:Bool)(a:iF)(d:iH):Fp->bD:=
 λ (e,f,g,h,i,j,k)=>cond (k !=0) (ru c a d e f g h i (a.2.1.cZ,a.2.1.bZ,a.2.1.dt,a.2.1.Pos,a.2.1.cN,a.2.1.cn,a.2.1.cO,j,k))<|ab (t_ a.1 a.2.1 true) λb=>FK c a d e f g h i j (b.2.1,b.2.2,b.1.cZ,b.1.bZ,b.1.dt,b.1.Pos,b.1.cN,b.1.cn,b.1.cO)
def C8(b:Bool)(c:iF)(d:iH)(e:cY):cY×Int×ns->bD:=
 λ (k,a,f,g,h,i,j)=>cond (a==0) (ab (app e k) λl=>uL b c d (f,g,h,i,j,l,a))<|uL b c d (f,g,h,i,j,e,a)
def pO(a:Bool)(b:iF)(c:iH)(d:cY):cY×Int×ns->bD:=
 λ (e,f,g,h,i,j,k)=>C8 a b c d (e,f,g,h,i,j,k)
def MX(o:iF)(c:iH):cY×Int×ns->Option (ak (cY×Int×ns) (Int⊕cY×ns)):=
 λ (d,b,e,f,g,h,i)=>cond (b<c.length) (ab (idx c b) λk=>ab (yz o.1 (K.mk e f g h i) k) λa=>cond (a.2.2 !=0) (some (ak.aT (Sum.inl a.2.2)))<|ab (app d a.2.1) λl=>some (ak.next (l,wI (b+1),a.1.bR,a.1.Seq,a.1.ca,a.1.cg,a.1.j)))<|some (ak.aT (Sum.inr (d,e,f,g,h,i)))
def xZ(d:Bool)(c:iF)(e:iH)(f:cY)(g:lz)(b:cY×ns):cY->bD:=
 λh=>ab (xG c.1 (K.mk b.2.1 b.2.2.1 b.2.2.2.1 b.2.2.2.2.1 b.2.2.2.2.2)) λa=>ab (app h [cd.mk c.1.aw 2 0 g.1]) λi=>pO d c e f (i,a.2,a.1.bR,a.1.Seq,a.1.ca,a.1.cg,a.1.j)
def wK(e:Bool)(a:iF)(b:iH)(f:cY)(c:K×Bool)(g:lz):cY->bD:=
 λh=>ab (bf (MX a b) aP (h,0,c.1.bR,c.1.Seq,c.1.ca,c.1.cg,c.1.j)) λi=>Sum.elim (λo=>pO e a b f ([],o,0,0,0,0,[])) (λd=>cond ((b.length:Int)>0) (ab (app d.1 [cd.mk a.1.aw 3 0 []]) λk=>xZ e a b f g d k)<|xZ e a b f g d d.1) i
def wY(d:Bool)(a:iF)(h:uB):iH×gw->bD:=
 λ (c,e,f)=>cond (f !=0) (uL d a c (0,0,0,0,[],e,f))<|ab (B4 (sw.mk (N.mk a.1 d a.2.1 [] (K.mk 0 0 0 0 []) [] 1 false) e f) h.1 h.2.1 c) λb=>cond (!b.2) (pO d a c e ([],9,0,0,0,0,[]))<|ab (rM (fT.mk a.1.Id b.1.bR b.1.Seq b.1.ca)) λg=>cond (g.2 !=0) none<|cond ((c.length:Int)>0) (ab (app ([]:List cd) [cd.mk a.1.aw 2 (wI (1+b.1.ca)) []]) λi=>wK d a c e b g i)<|wK d a c e b g []
def FH(b:Bool)(c:iF)(d:uB):cY×Int×iH->bD:=
 λ (f,a,e)=>cond (a==0) (ab (app ([]:List cd) f) λg=>wY b c d (e,g,a))<|wY b c d (e,[],a)
def yc(a:Bool)(b:iF)(c:uB):cY×Int×iH->bD:=
 λ (d,e,f)=>FH a b c (d,e,f)
def Dr(f:cu)(g:Int)(d:Bool):bD:=
 ab (AB f g) λa=>cond (a.2.2.2 !=0) (some (N.mk (J.mk 0 0 0 0 0 0) false (X.mk 0 0 false 0 0 false false) [] (K.mk 0 0 0 0 []) [] 0 false,[],a.2.2.2))<|ab (idx f a.1.aw) λh=>ab (A' a.1 h) λe=>cond (e.2.2 !=0) (cond (a.2.2.1||d) (some (N.mk (J.mk 0 0 0 0 0 0) false (X.mk 0 0 false 0 0 false false) [] (K.mk 0 0 0 0 []) [] 0 false,[],230))<|ab (ue 1 1 0) λi=>ab (t_ a.1 (X.mk a.2.1.cZ a.2.1.bZ a.2.1.dt a.2.1.Pos a.2.1.cN true a.2.1.cO) false) λb=>EH d a i (b.2.1,b.2.2,b.1.cZ,b.1.bZ,b.1.dt,b.1.Pos,b.1.cN,b.1.cn,b.1.cO))<|ab (D5 a.1 a.2.1 e.2.1) λc=>cond ((c.1.length:Int)>0) (ab (yy a.1) λj=>ab (app c.1 j.1) λk=>yc d a e (k,c.2.2,c.2.1))<|yc d a e (c.1,c.2.2,c.2.1)
def CI(b:World):bD:=
 ab (Dr b.World.f_ b.World.N.J.aE b.World.N.ee) λa=>some (N.mk a.1.J a.1.ee a.1.X a.1.aE a.1.K a.1.du b.World.N.Next a.1.eU,a.2.1,a.2.2)
def EI(b:cu):lV->Option (ak lV cu):=
 λ (c,a)=>cond (a<b.length) (ab (idx b a) λd=>ab (nE d) λe=>ab (app c [e]) λf=>some (ak.next (f,wI (a+1))))<|some (ak.aT c)
def DR(a:cu):Option cu:=
 ab (bf (EI a) aP ([],0)) λb=>some b
def AO(a:aU)(c:Int)(d:cq):oa:=
 ab (yI a c d) λe=>cond (e !=0) none<|cond ((a.eg.length:Int)==1024) (some (aU.mk [] [] false,9))<|ab (nE a) λb=>ab (r_ d) λf=>ab (app b.eg [fB.mk c f]) λg=>some (aU.mk b.aJ g b.dS,0)
def Iu(a:cd)(c:aU):oa:=
 ab (AO c a.At a.bO) λb=>some (b.1,b.2)
def IL(a:cd)(c:aU):oa:=
 ab (uD c a.At a.bO) λb=>some (b.1,b.2)
def Oz(c:aU):Int×bV->ri:=
 λ (a,b)=>cond (a<c.eg.length) (ab (idx c.eg a) λd=>ab (b_ b.length d.At) λe=>some (ak.next (wI (a+1),b.set e d.bO)))<|some (ak.aT b)
def DS(a:aU):oa:=
 ab (my a) λc=>cond (c !=0) none<|cond a.dS none<|ab (nE a) λb=>ab (bf (Oz b) aP (0,b.aJ)) λd=>ab (nE (aU.mk d [] b.dS)) λe=>some (e,0)
def EJ(c:cd)(b:aU):oa:=
 ab (DS b) λa=>some (a.1,a.2)
def MT(m:bI [215,216,217])(a:cd)(j:aU):oa:=
 match m.i with
 |1=>Iu a j
 |2=>IL a j
 |3=>EJ a j
 |_=>none
def D2(a:Int):cu->Option (ak lV (Int⊕cu)):=
 λb=>some (ak.next (b,wI (a+1)))
def O5(e:cY):lV->Option (ak lV (Int⊕cu)):=
 λ (a,b)=>cond (b<e.length) (ab (idx e b) λc=>ab (idx a c.aU) λf=>cond f.dS (D2 b a)<|ab (vI c.bG) λg=>ab (MT g c f) λd=>cond (d.2 !=0) (some (ak.aT (Sum.inl d.2)))<|ab (b_ a.length c.aU) λh=>D2 b (a.set h d.1))<|some (ak.aT (Sum.inr a))
def sW(c:cu)(a:cY)(b:Int):Option lV:=
 ab (vJ a c) λd=>cond (d !=0) (some ([],d))<|cond (b<0||b>a.length) none<|ab (DR c) λe=>ab (fy a 0 b) λf=>ab (bf (O5 f) aP (e,0)) λg=>Sum.elim (λh=>some (([]:List aU),h)) (λi=>some (i,(0:Int))) g
def IY:Int×vQ->yX:=
 λ (a,b,c,d,e,f,g,h,i,j,k,l,m,n,o,p,q,r,s,t,u,v,w,x,y,z)=>cond (a !=0) none<|some (eQ.mk (N.mk (J.mk b c d e f g) h (X.mk i j k l m n o) p (K.mk q r s t u) v w x) y z,0)
def L4(a:qY):Int×cu->yX:=
 λ (b,c)=>IY (b,a.1.J.Id,a.1.J.aw,a.1.J.bz,a.1.J.bb,a.1.J.K,a.1.J.aE,a.1.ee,a.1.X.cZ,a.1.X.bZ,a.1.X.dt,a.1.X.Pos,a.1.X.cN,a.1.X.cn,a.1.X.cO,a.1.aE,a.1.K.bR,a.1.K.Seq,a.1.K.ca,a.1.K.cg,a.1.K.j,a.1.du,a.1.Next,a.1.eU,c,true)
def Nf(a:qY):Int×cu->yX:=
 λ (b,c)=>L4 a (b,c)
def F3(a:qY)(b:lV):cu->yX:=
 λc=>Nf a (b.2,c)
def Oh(a:J)(e:Bool):yX:=
 ab (Pv a) λc=>cond (c.2 !=0) none<|ab (CI (World.mk (eQ.mk (N.mk a e (X.mk 0 0 false 0 0 false false) [] (K.mk 0 0 0 0 []) [] 1 false) c.1 false) [])) λb=>cond (b.2.2 !=0) (IY (b.2.2,a.Id,a.aw,a.bz,a.bb,a.K,a.aE,e,0,0,false,0,0,false,false,[],0,0,0,0,[],[],1,false,c.1,false))<|ab (sW c.1 b.2.1 (min (b.2.1.length:Int) (b.2.1.length:Int))) λd=>cond (d.2==0) (F3 b d d.1)<|F3 b d c.1
def E3(a:J):jx:=
 ab (pW a (wI (wI (a.bz * a.bb) * wI (a.aw - 1)))) λb=>some (b.1,b.2)
def Gy:Int×Bool×Bool->uU:=
 λ (a,b,c)=>some (Form.mk a b c,true)
def HO:Bool×Bool->uU:=
 λ (a,b)=>Gy (8,a,b)
def Jx:Bool->uU:=
 λa=>HO (a,true)
def FX:Bool->uU:=
 λa=>cond a (Gy (0,false,false)) none
def I_(a:UInt8):Bool->uU:=
 λb=>cond b (Jx true)<|cond (a==5) (Jx false)<|cond (a==1) (HO (false,false))<|cond (a==4) (FX (a==4))<|FX (a==6)
def Ko(a:UInt8):uU:=
 cond (a==2) (I_ a (a==2))<|I_ a (a==3)
def Ht(a:aZ):Int->dv:=
 λb=>cond (a.bO.length !=b) none<|some 0
def Jm(d:J)(a:aZ):dv:=
 ab (E3 d) λc=>cond (c.2 !=0) none<|ab (Ko a.bG) λb=>cond (!b.2||a.At<0||a.eZ<min b.1.tW (1:Int)||a.eZ>b.1.tW) none<|cond (a.At>wI (c.1 - a.eZ)||b.1.tW==0&&a.At>0) none<|cond b.1.bytes (Ht a (wI (a.eZ * 128)))<|Ht a 0
def ZM(b:aZ):mG->ov:=
 λ (c,a)=>cond (a<b.eZ) (ab (app c [wI (b.At+a)]) λd=>some (ak.next (d,wI (a+1))))<|some (ak.aT c)
def Hz(b:J)(a:aZ):Option mG:=
 ab (Jm b a) λc=>cond (c !=0) none<|ab (bf (ZM a) aP ([],0)) λd=>some (d,0)
def PW(a:aZ):bE:=
 some (a.bG==1)
def G5(a:dq)(b:Int):bE:=
 ab (idx a.fY b) λc=>ab (idx a.fY b) λg=>ab (gO (!((c.toNat:Int)>((3:UInt8).toNat:Int))) (idx a.iU b)) λd=>cond ((c.toNat:Int)>((3:UInt8).toNat:Int)||(c==2) !=decide ((d.toNat:Int)>((0:UInt32).toNat:Int))) none<|ab (PW a.aZ) λe=>cond e none<|ab (idx a.bO b) λf=>some ((f.length:Int)==0)
def Xr(b:dq)(c:mG):Int->p7:=
 λa=>cond (a<c.1.length) (ab (G5 b a) λd=>cond (!d) none<|some (ak.next (wI (a+1))))<|some (ak.aT ())
def PH(c:J)(a:dq):bE:=
 ab (Hz c a.aZ) λb=>cond (a.aZ.bG==4) none<|cond (b.2 !=0||a.dR<1||(a.fY.length:Int) !=(b.1.length:Int)||(a.bO.length:Int) !=(b.1.length:Int)||(a.iU.length:Int) !=(b.1.length:Int)) none<|ab (bf (Xr a b) aP 0) λd=>some true
def Sw(b:cq)(c:UInt8->bE):Int->mU:=
 λa=>cond (a<b.length) (ab (idx b a) λd=>ab (c d) λe=>cond e (some (ak.aT (Sum.inl a)))<|some (ak.next (wI (a+1))))<|some (ak.aT (Sum.inr ()))
def Oo(a:cq)(b:UInt8->bE):dv:=
 ab (bf (Sw a b) aP 0) λc=>Sum.elim (λd=>some d) (λe=>some (-1:Int)) c
def LH(a:cq)(b:UInt8->bE):bE:=
 ab (Oo a b) λc=>some (decide (c>=0))
def L2(a:UInt8):bE:=
 some (a !=0)
def Su(b:bn)(c:dq->bE):Int->mU:=
 λa=>cond (a<b.length) (ab (idx b a) λd=>ab (c d) λe=>cond e (some (ak.aT (Sum.inl a)))<|some (ak.next (wI (a+1))))<|some (ak.aT (Sum.inr ()))
def tq(a:bn)(b:dq->bE):dv:=
 ab (bf (Su a b) aP 0) λc=>Sum.elim (λd=>some d) (λe=>some (-1:Int)) c
def DB(a:bn)(b:dq->bE):bE:=
 ab (tq a b) λc=>some (decide (c>=0))
def No(j:dq)(a:J)(o:bn)(q:Int):bE:=
 none
def A9(c:J)(a:bn)(b:Int):bE:=
 ab (fy a 0 b) λd=>ab (DB d λe=>No e c a b) λf=>some (!f)
def Pn(d:J)(b:bn):Int->p7:=
 λa=>cond (a<b.length) (ab (idx b a) λc=>ab (PH d c) λe=>ab (gO (!!e&&a>0) (idx b (wI (a - 1)))) λg=>cond (!e||a>0&&c.dR<=g.dR) none<|ab (LH c.fY λh=>L2 h) λf=>ab (gO f (A9 d b a)) λi=>cond (f&& !i) none<|some (ak.next (wI (a+1))))<|some (ak.aT ())
def oi(a:J)(b:bn):dv:=
 ab (ng a) λc=>cond (c !=0||(b.length:Int)>8) none<|ab (bf (Pn a b) aP 0) λd=>some 0
def K9(a:dq)(b:N):bE:=
 some (decide (a.dR>=b.Next))
def D0(a:N):bE:=
 ab (ng a.J) λb=>ab (gO (b==0) (oq a.J a.X)) λc=>ab (gO (b==0&&c==0) (qt a.J a.aE)) λd=>ab (gO (b==0&&c==0&&d==0) (oh a.J a.K)) λe=>ab (gO (b==0&&c==0&&d==0&&e==0) (oi a.J a.du)) λf=>ab (gO (b==0&&c==0&&d==0&&e==0&&f==0&&a.Next>=1&&a.Next<=2147483648) (DB a.du λg=>K9 g a)) λh=>some (b==0&&c==0&&d==0&&e==0&&f==0&&a.Next>=1&&a.Next<=2147483648&& !h)
def Iw(a:J)(d:Int):Bool->Option (ky×Int):=
 λe=>cond e none<|ab (mz d a.bz) λc=>ab (mz c.1 (wI (a.aw - 1))) λb=>ab (wM (jS.mk a b.1) b.2) λf=>some (ky.mk (wI (wI (b.1 * a.bz)+c.2)) b.2 f,0)
def wR(b:J)(a:Int):Option (ky×Int):=
 ab (E3 b) λc=>cond (c.2 !=0) none<|cond (a<0) (Iw b a (decide (a<0)))<|Iw b a (decide (a>=c.1))
def wG(a:bw)(b:aM->bE):bE:=
 ab (Dh a b) λc=>some (decide (c>=0))
def O8(a:aM)(b:ky):bE:=
 ab (gO (a.L==b.L&&(a.aG.toNat:Int)<=((1:UInt8).toNat:Int)) (idx a.a_ b.Slot)) λc=>some (a.L==b.L&&(a.aG.toNat:Int)<=((1:UInt8).toNat:Int)&&c)
def WO(c:N)(b:dq):Int->p7:=
 λa=>cond (a<b.fY.length) (ab (idx b.fY a) λd=>ab (wR c.J (wI (b.aZ.At+a))) λe=>ab (gO (d==1) (wG c.aE λf=>O8 f e.1)) λg=>cond (d==1&& !g) none<|some (ak.next (wI (a+1))))<|some (ak.aT ())
def Om(a:N):Int->p7:=
 λb=>cond (b<a.du.length) (ab (idx a.du b) λc=>ab (bf (WO a c) aP 0) λd=>some (ak.next (wI (b+1))))<|some (ak.aT ())
def B0(a:N):bE:=
 ab (bf (Om a) aP 0) λb=>some true
def CW(a:Int):List ea->Option (ak tL Unit):=
 λb=>some (ak.next (wI (a+1),b))
def L7(d:bH):tL->Option (ak tL Unit):=
 λ (a,b)=>cond (a<d.length) (ab (idx d a) λc=>cond (!c.cH) (CW a (ko b c.L (1:Int)))<|cond ((fU b c.L).getD (0:Int)>0) none<|CW a b)<|some (ak.aT ())
def wD(a:bH):bE:=
 ab (bf (L7 a) aP (0,[])) λb=>some false
def K0(a:aM):bE:=
 some (a.cG||a.aG==2||a.aG==3)
def Np(c:N)(d:Int):Int->Option (ak Int (UInt32×Int×Int×Bool×Bool×Bool⊕Unit)):=
 λb=>cond (b>=0) (ab (idx c.K.j b) λa=>cond (a.L==d) (some (ak.aT (Sum.inl (a.Seq,a.L,a.aJ,a.bP,a.dC,a.cH))))<|some (ak.next (wI (b - 1))))<|some (ak.aT (Sum.inr ()))
def Ik(b:N)(c:Int):Unit->Option (j×Bool):=
 λ_=>ab (bf (Np b c) aP (wI (b.K.j.length - 1))) λd=>Sum.elim (λa=>some (j.mk a.1 a.2.1 a.2.2.1 a.2.2.2.1 a.2.2.2.2.1 a.2.2.2.2.2,true)) (λe=>some (j.mk 0 0 0 false false false,false)) d
def yG(a:N)(b:Int):Option (j×Bool):=
 Ik a b ()
def BK(c:N)(b:aM):bE:=
 ab (yG c b.L) λa=>cond (b.cG !=(a.2&& !a.1.bP)) none<|some ((b.aG.toNat:Int)<=((1:UInt8).toNat:Int)||a.2&&(a.1.Seq.toNat:Int)==(b.Seq.toNat:Int)&&a.1.bP&& !a.1.cH&&a.1.dC==decide ((b.aG.toNat:Int)>((2:UInt8).toNat:Int)))
def Lm(a:N):Int×List (Int×UInt8)->Option (ak (Int×List (Int×UInt8)) (List (Int×UInt8))):=
 λ (b,d)=>cond (b<a.aE.length) (ab (idx a.aE b) λc=>ab (BK a c) λe=>cond (!e) none<|some (ak.next (wI (b+1),ko d c.L c.aG)))<|some (ak.aT d)
def MG(b:N)(c:List (Int×UInt8)):Int->p7:=
 λd=>cond (d<b.K.j.length) (ab (idx b.K.j d) λa=>ab (yG b a.L) λe=>cond (!e.1.bP&& !(fU c a.L).isSome||e.1.bP&& !e.1.cH&&(!(fU c a.L).isSome||(((fU c a.L).getD (0:UInt8)).toNat:Int)<=((1:UInt8).toNat:Int))) none<|some (ak.next (wI (d+1))))<|some (ak.aT ())
def jU(a:N):dv:=
 ab (D0 a) λb=>ab (gO (!!b) (B0 a)) λc=>ab (gO (!(!b|| !c)) (wD a.K.j)) λd=>cond (!b|| !c||d) none<|cond a.X.cn (ab (gO (!((a.K.j.length:Int)>0)) (wG a.aE λe=>K0 e)) λf=>cond ((a.K.j.length:Int)>0||f) none<|some 0)<|ab (bf (Lm a) aP (0,[])) λg=>ab (bf (MG a g) aP 0) λh=>some 0
def qE(a:eQ):dv:=
 ab (ng a.N.J) λb=>ab (gO (!b !=0) (nO a.N.J a.f_)) λc=>ab (gO (!(b !=0||c !=0||a.N.Next<1||a.N.Next>2147483648)&&a.Up) (jU a.N)) λd=>cond (b !=0||c !=0||a.N.Next<1||a.N.Next>2147483648||a.Up&&d !=0) (some 8)<|some 0
def DT(a:UInt8):Option (bI [29,30,31,32,33,34,35,36,37,38,39]):=
 cond (wI a.toNat>=12) none<|ab (b_ 12 a.toNat) λb=>ab ((cm.mk [(⟨0⟩:bI [29,30,31,32,33,34,35,36,37,38,39]),(⟨1⟩:bI [29,30,31,32,33,34,35,36,37,38,39]),(⟨2⟩:bI [29,30,31,32,33,34,35,36,37,38,39]),(⟨3⟩:bI [29,30,31,32,33,34,35,36,37,38,39]),(⟨4⟩:bI [29,30,31,32,33,34,35,36,37,38,39]),(⟨5⟩:bI [29,30,31,32,33,34,35,36,37,38,39]),(⟨6⟩:bI [29,30,31,32,33,34,35,36,37,38,39]),(⟨7⟩:bI [29,30,31,32,33,34,35,36,37,38,39]),(⟨8⟩:bI [29,30,31,32,33,34,35,36,37,38,39]),(⟨9⟩:bI [29,30,31,32,33,34,35,36,37,38,39]),(⟨10⟩:bI [29,30,31,32,33,34,35,36,37,38,39]),(⟨11⟩:bI [29,30,31,32,33,34,35,36,37,38,39])]:cm 12 (bI [29,30,31,32,33,34,35,36,37,38,39])).l[b]?) λc=>some c
def PB(a:UInt8):bE:=
 some (a==5||a==6||a==7)
def IZ(a:pK):Option pK:=
 ab (app ([]:List UInt32) a) λb=>some b
def Ai(a:bV):Option bV:=
 ab (app ([]:List (List UInt8)) a) λb=>some b
def M5(c:bV):Int×bV->ri:=
 λ (b,a)=>cond (b<c.length) (ab (b_ a.length b) λd=>ab (a[d]?) λe=>ab (og e) λf=>ab (b_ a.length b) λg=>some (ak.next (wI (b+1),a.set g f)))<|some (ak.aT a)
def xK(c:bn):mZ->Option (ak mZ bn):=
 λ (d,b)=>cond (b<c.length) (ab (idx c b) λa=>ab (og a.aZ.bO) λf=>ab (js a.fY) λg=>ab (IZ a.iU) λh=>ab (Ai a.bO) λe=>ab (bf (M5 e) aP (0,e)) λi=>ab (app d [dq.mk a.dR (aZ.mk a.aZ.bG a.aZ.At a.aZ.eZ f) g h i]) λj=>some (ak.next (j,wI (b+1))))<|some (ak.aT d)
def mO(a:bn):Option bn:=
 ab (bf (xK a) aP ([],0)) λb=>some b
def ku(a:N):Option N:=
 ab (tQ a.aE) λb=>ab (qF a.K) λc=>ab (mO a.du) λd=>some (N.mk a.J a.ee a.X b c d a.Next a.eU)
def FU(a:cu):Option cu:=
 ab (app ([]:List aU) a) λb=>some b
def Fy(c:cu):Int×cu->Option (ak (Int×cu) cu):=
 λ (b,a)=>cond (b<c.length) (ab (b_ a.length b) λd=>ab (a[d]?) λe=>ab (nE e) λf=>ab (b_ a.length b) λg=>some (ak.next (wI (b+1),a.set g f)))<|some (ak.aT a)
def Ca(a:eQ):Option eQ:=
 ab (ku a.N) λc=>ab (FU a.f_) λb=>ab (bf (Fy b) aP (0,b)) λd=>some (eQ.mk c d a.Up)
def GX(a:World)(b:Bool)(c:Int):dv:=
 cond a.World.N.X.cO none<|cond (!b) none<|some 0
def Zc(a:dq):iT×Int->wA:=
 λ (c,b)=>cond (b<a.aZ.eZ) (ab (app c [(⟨0,au.mk 1 a.dR (wI (a.aZ.At+b)) 0⟩:gQ [243,245,247] au)]) λd=>some (ak.next (d,wI (b+1))))<|some (ak.aT c)
def NV(b:N):iT×Int->wA:=
 λ (c,a)=>cond (a<b.du.length) (ab (idx b.du a) λd=>ab (bf (Zc d) aP (c,0)) λe=>some (ak.next (e,wI (a+1))))<|some (ak.aT c)
def MO(c:aM):iT×Int->wA:=
 λ (b,a)=>cond (a<3) (ab (idx ([(2:UInt8),(3:UInt8),(5:UInt8)]:List UInt8) a) λd=>ab (app b [(⟨1,au.mk d 0 0 c.L⟩:gQ [243,245,247] au)]) λe=>some (ak.next (e,wI (a+1))))<|some (ak.aT b)
def Oy(b:N):iT×Int->wA:=
 λ (c,a)=>cond (a<b.aE.length) (ab (idx b.aE a) λd=>ab (bf (MO d) aP (c,0)) λe=>some (ak.next (e,wI (a+1))))<|some (ak.aT c)
def Qd:iT×Int->wA:=
 λ (b,a)=>cond (a<3) (ab (idx ([(4:UInt8),(6:UInt8),(7:UInt8)]:List UInt8) a) λc=>ab (app b [(⟨2,au.mk c 0 0 0⟩:gQ [243,245,247] au)]) λd=>some (ak.next (d,wI (a+1))))<|some (ak.aT b)
def AU(a:N):Option iT:=
 ab (bf (NV a) aP ([],0)) λb=>ab (bf (Oy a) aP (b,0)) λc=>ab (bf Qd aP (c,0)) λd=>some d
def ZZ(b:iT)(c:oy->bE):Int->mU:=
 λa=>cond (a<b.length) (ab (idx b a) λd=>ab (c d) λe=>cond e (some (ak.aT (Sum.inl a)))<|some (ak.next (wI (a+1))))<|some (ak.aT (Sum.inr ()))
def Ec(a:iT)(b:oy->bE):dv:=
 ab (bf (ZZ a b) aP 0) λc=>Sum.elim (λd=>some d) (λe=>some (-1:Int)) c
def M4(a:dq)(b:Int):bE:=
 some (a.dR==b)
def JG(d:bn)(e b:Int):Option (Int×Int×Bool):=
 ab (tq d λf=>M4 f e) λc=>cond (c<0) none<|ab (idx d c) λa=>some (c,wI (b - a.aZ.At),b>=a.aZ.At&&wI (b - a.aZ.At)<a.aZ.eZ)
def H4(b:J)(a:bn)(d e:Int):Option fR:=
 ab (oi b a) λf=>cond (f !=0) none<|ab (JG a d e) λc=>cond (!c.2.2) none<|ab (A9 b a c.1) λg=>some (g,0)
def Qi(a:dq)(b:au):bE:=
 some (a.dR==b.dR)
def lY(c:J)(a:bw)(d:Int):jx:=
 ab (qt c a) λe=>cond (e !=0) none<|ab (sV a d) λb=>cond (b<0) (some (0,6))<|some (b,0)
def CL(a:N)(c:Int):Option (aM×Bool):=
 ab (lY a.J a.aE c) λb=>cond (b.2 !=0) (some (aM.mk 0 [] [] 0 false 0,false))<|ab (idx a.aE b.1) λd=>some (d,true)
def Lf(a:bw):dv:=
 none
def uR(b:J)(a:bw):Option fR:=
 ab (qt b a) λc=>cond (c !=0) none<|ab (gO (!(a.length<b.aE)) (Lf a)) λd=>some (a.length<b.aE||d>=0,0)
def rW(a:N):bE:=
 some (!a.X.cn)
def LU(j:N)(a:Int):bE:=
 none
def NL(c:au)(a:N):bE:=
 ab (H4 a.J a.du c.dR c.Block) λb=>ab (tq a.du λh=>Qi h c) λd=>ab (gO (!(b.2 !=0|| !b.1)) (idx a.du d)) λi=>ab (gO (!(b.2 !=0|| !b.1)) (idx a.du d)) λj=>ab (gO (!(b.2 !=0|| !b.1)) (idx i.fY (wI (c.Block - j.aZ.At)))) λk=>cond (b.2 !=0|| !b.1||k !=0) (some false)<|ab (idx a.du d) λl=>cond (l.aZ.bG==1) none<|ab (wR a.J c.Block) λf=>ab (CL a f.1.L) λe=>ab (uR a.J a.aE) λm=>cond (e.2&&(e.1.aG.toNat:Int)>((1:UInt8).toNat:Int)|| !e.2&& !m.1) none<|ab (gO (!!a.ee) (rW a)) λg=>ab (gO (!(!a.ee|| !g)) (LU a f.1.L)) λn=>some (!a.ee|| !g|| !n)
def PK(b:fA)(c:Bool):Int->mU:=
 λa=>cond (a<b.length) (ab (idx b a) λd=>cond (c==d) (some (ak.aT (Sum.inl a)))<|some (ak.next (wI (a+1))))<|some (ak.aT (Sum.inr ()))
def E9(a:fA)(b:Bool):dv:=
 ab (bf (PK a b) aP 0) λc=>Sum.elim (λd=>some d) (λe=>some (-1:Int)) c
def lZ(a:fA)(b:Bool):bE:=
 ab (E9 a b) λc=>some (decide (c>=0))
def Xa(a:oC)(c:Int):Option (aM×Bool):=
 ab (lY a.N.J a.N.aE c) λb=>cond (b.2 !=0) (some (aM.mk 0 [] [] 0 false 0,false))<|ab (idx a.N.aE b.1) λd=>some (d,true)
def mJ(b:Int)(a:UInt8):bE:=
 cond (b==0) (some (a==0))<|cond (b==1) (some (a==1))<|cond (b==2) (some (a==2))<|cond (b==3) (some (a==1||a==3))<|some (a==4)
def Jf:m2->fg:=
 λ (a,b,c,d,e,f,g)=>some (aM.mk a b c d e f,g)
def Ee:m2->fg:=
 λ (a,b,c,d,e,f,g)=>Jf (a,b,c,d,e,f,g)
def z_:m3->fg:=
 λ (a,b,c,d,e,f,g)=>Ee (b,c,d,e,f,g,a)
def An(a:aM):Int×UInt8×Bool×UInt32->fg:=
 λ (b,c,d,e)=>cond (b==0) (z_ (b,a.L,a.aJ,a.a_,c,d,e))<|z_ (b,0,[],[],0,false,0)
def Hv(a:UInt32)(b:aM):Unit->fg:=
 λ_=>An b (0,2,false,a)
def uX(b:J)(c:aM)(f:UInt32):fg:=
 ab (jL b c) λd=>cond (d !=0) (Ee (0,[],[],0,false,0,d))<|cond ((0:Int)<(0:Int)||0>=wI (b.aw - 1)) none<|ab (mc []) λg=>cond g none<|ab (mb c) λa=>ab (mJ 1 a.aG) λe=>ab (gO (!!e&&(1:Int)==(0:Int)) (lZ a.a_ true)) λh=>cond (!e||(1:Int)==(0:Int)&& !h) (An a (6,a.aG,a.cG,a.Seq))<|Hv f a ()
def A1(a:Int):df×bV->Ah:=
 λ (b,c)=>some (ak.next (wI (a+1),b,c))
def Pl(b:aM):Int×df×bV->Ah:=
 λ (a,c,d)=>cond (a<b.a_.length) (ab (idx b.a_ a) λe=>cond e (ab (app c [a]) λf=>ab (idx b.aJ a) λg=>ab (js g) λh=>ab (app d [h]) λi=>A1 a (f,i))<|A1 a (c,d))<|some (ak.aT (c,d))
def wN(b:J)(a:aM):Option (bl×Int):=
 ab (jL b a) λd=>cond (d !=0) none<|cond (a.aG==0) none<|ab (idx a.aJ (wI (b.aw - 1))) λe=>ab (js e) λf=>ab (bf (Pl a) aP (0,[],[])) λc=>some (bl.mk a.L c.1 c.2 f,0)
def DL(b:J)(c d:Int):jx:=
 ab (uP b c d (wI (b.aw - 1))) λa=>cond (a.2 !=0) none<|ab (mz c a.1.J.bz) λe=>some (wI (wI (wI (wI (a.1.n * wI (a.1.J.aw - 1))+d) * a.1.J.bz)+e.2),0)
def L8(b:J)(d:Int):mG->ov:=
 λ (c,a)=>cond (a<wI (b.aw - 1)) (ab (DL b d a) λe=>ab (app c [e.1]) λf=>some (ak.next (f,wI (a+1))))<|some (ak.aT c)
def Dp(a:J)(b:Int):Option df:=
 ab (bf (L8 a b) aP ([],0)) λc=>some c
def Qn(b:df)(c:Int):Int->mU:=
 λa=>cond (a<b.length) (ab (idx b a) λd=>cond (c==d) (some (ak.aT (Sum.inl a)))<|some (ak.next (wI (a+1))))<|some (ak.aT (Sum.inr ()))
def HM(a:df)(b:Int):dv:=
 ab (bf (Qn a b) aP 0) λc=>Sum.elim (λd=>some d) (λe=>some (-1:Int)) c
def yu(a:df)(b:Int):bE:=
 ab (HM a b) λc=>some (decide (c>=0))
def vS{α:Type}:List α->Option α
 |[y]=>some y
 |_=>none
def IG(a:Int):pK×cq->Option (ak (Int×cq×pK) (cq×pK)):=
 λ (b,c)=>some (ak.next (wI (a+1),c,b))
def Uu(g:df)(h:UInt32)(d:dq):Int×cq×pK->Option (ak (Int×cq×pK) (cq×pK)):=
 λ (a,b,c)=>cond (a<d.fY.length) (ab (b_ b.length a) λe=>ab (b[e]?) λf=>ab (gO (f==1) (yu g (wI (d.aZ.At+a)))) λi=>cond (f==1&&i) (ab (b_ c.length a) λj=>IG a (c.set j h,b.set e (2:UInt8)))<|IG a (c,b))<|some (ak.aT (b,c))
def w6(f:J)(b:bn)(c:df)(d:UInt32):Option mZ:=
 ab (oi f b) λg=>cond (g !=0) none<|cond ((c.length:Int)>1000) none<|cond ((d.toNat:Int)==((0:UInt32).toNat:Int)) none<|cond b.isEmpty (some ([],0))<|ab (vS b) λi=>ab (mO b) λh=>ab (vS h) λa=>cond (!a.bO.all (·.isEmpty)) none<|ab (bf (Uu c d a) aP (0,a.fY,a.iU)) λe=>some ([dq.mk a.dR a.aZ e.1 e.2 a.bO],0)
def Yb(a:oC):bD:=
 cond (a.e !=0) (some (N.mk (J.mk 0 0 0 0 0 0) false (X.mk 0 0 false 0 0 false false) [] (K.mk 0 0 0 0 []) [] 0 false,[],a.e))<|some (a.N,a.gi,0)
def wX:yq->bD:=
 λ (a,b,c,d,e,f,g,h,i,j,k,l,m,n)=>some (N.mk a b c d (K.mk e f g h i) j k l,m,n)
def yE(b:UInt32)(c d e f g:Int)(h:Bool)(i:UInt32)(j:Int)(k:Bool)(l m:Int)(n o:Bool)(p:Int)(q:Bool)(r:bw)(s t:UInt32)(u v:Int)(w:bH)(x:cY):mZ->bD:=
 λ (y,a)=>cond (a !=0) (wX (J.mk 0 0 0 0 0 0,false,X.mk 0 0 false 0 0 false false,[],0,0,0,0,[],[],0,false,[],a))<|wX (J.mk b c d e f g,h,X.mk i j k l m n o,r,s,t,u,v,w,y,p,q,x,0)
def rH(A:Int)(a:UInt32)(b c d e f:Int)(g:Bool)(h:UInt32)(i:Int)(j:Bool)(k l:Int)(m n:Bool)(B:UInt32)(o:bn)(p:Int)(q:Bool):bw×Fp->bD:=
 λ (r,s,t,u,v,w,x,y)=>cond (y==0) (ab (Dp (J.mk a b c d e f) A) λC=>ab (w6 (J.mk a b c d e f) o C B) λz=>yE a b c d e f g h i j k l m n p q r s t u v w x (z.1,z.2))<|yE a b c d e f g h i j k l m n p q r s t u v w x (o,y)
def Di(g:Int)(a:UInt32)(b c d e f:Int)(h:Bool)(i:UInt32)(j:Int)(k:Bool)(l m:Int)(n o:Bool)(p:bw)(q:UInt32)(r:bn)(s:Int)(t:Bool)(B:Int)(C:bV)(D:fA)(E:UInt8)(F:Bool)(G u v:UInt32)(w x:Int)(y:bH)(z:cY):fR->bD:=
 λ (K,A)=>cond K (ab (l_ (J.mk a b c d e f) p (aM.mk B C D E F G)) λI=>rH g a b c d e f h i j k l m n o q r s t (I.1,u,v,w,x,y,z,A))<|rH g a b c d e f h i j k l m n o q r s t (p,u,v,w,x,y,z,A)
def yN(b:Int)(c:UInt32)(d e f g h:Int)(i:Bool)(j:UInt32)(k:Int)(l:Bool)(m n:Int)(o p:Bool)(q:bw)(r:UInt32)(s:bn)(t:Int)(u:Bool)(v:Int)(w:bV)(x:fA)(y:UInt8)(z:Bool)(A B C:UInt32)(D E:Int)(F:bH)(G:cY):Int->bD:=
 λa=>Di b c d e f g h i j k l m n o p q r s t u v w x y z A B C D E F G (a==0,a)
def uH(a:Int)(b:UInt32)(c d e f g:Int)(h:Bool)(i:UInt32)(j:Int)(k:Bool)(l m:Int)(n o:Bool)(p:bw)(q:UInt32)(r:bn)(s:Int)(t:Bool)(u:Int):Int×bV×fA×UInt8×Bool×UInt32×Int×UInt32×UInt32×Int×Int×bH×cY->bD:=
 λ (v,w,x,y,z,A,B,C,D,E,F,G,I)=>cond (u==0&& !B==0) (yN a b c d e f g h i j k l m n o p q r s t v w x y z A C D E F G I B)<|yN a b c d e f g h i j k l m n o p q r s t v w x y z A C D E F G I u
def BV(c:Int)(d:UInt32)(e f g h i:Int)(z:Bool)(k:UInt32)(l:Int)(m:Bool)(n o:Int)(p q:Bool)(r:bw)(s:UInt32)(t:bn)(u:Int)(v:Bool)(w:Int)(a:aM×Int)(b:K×gw):cY->bD:=
 λx=>uH c d e f g h i z k l m n o p q r s t u v w (a.1.L,a.1.aJ,a.1.a_,a.1.aG,a.1.cG,a.1.Seq,b.2.2,b.1.bR,b.1.Seq,b.1.ca,b.1.cg,b.1.j,x)
def Bu(o:Int)(a:UInt32)(b c d e f:Int)(p:Bool)(q:UInt32)(r:Int)(s:Bool)(t u:Int)(v w:Bool)(x:bw)(y g:UInt32)(z A:Int)(B:bH)(C:bn)(D:Int)(E:Bool):m3->bD:=
 λ (F,h,i,j,k,l,m)=>ab (uX (J.mk a b c d e f) (aM.mk h i j k l m) g) λn=>cond (n.2 !=0) (uH o a b c d e f p q r s t u v w x g C D E F (h,i,j,k,l,m,n.2,y,g,z,A,B,[]))<|ab (wN (J.mk a b c d e f) (aM.mk h i j k l m)) λL=>ab (yz (J.mk a b c d e f) (K.mk y g z A B) L.1) λG=>ab (app ([]:List cd) G.2.1) λI=>BV o a b c d e f p q r s t u v w x g C D E F n G I
def MQ(b:Int)(c:UInt32)(d e f g h:Int)(j:Bool)(k:UInt32)(l:Int)(m:Bool)(n o:Int)(p q:Bool)(r:bw)(s i:UInt32)(t u:Int)(v:bH)(w:bn)(x:Int)(y:Bool):fR->bD:=
 λ (A,z)=>cond (!A) (rH b c d e f g h j k l m n o p q i w x y (r,s,i,t,u,v,[],z))<|ab (oS (J.mk c d e f g h) b) λa=>Bu b c d e f g h j k l m n o p q r s i t u v w x y (z,a.1.L,a.1.aJ,a.1.a_,a.1.aG,a.1.cG,a.1.Seq)
def Gq(b:Int)(c:UInt32)(d e f g h:Int)(i:Bool)(j:UInt32)(k:Int)(l:Bool)(m n:Int)(o p:Bool)(q:bw)(r s:UInt32)(t u:Int)(v:bH)(w:bn)(x:Int)(y:Bool):Int->bD:=
 λa=>MQ b c d e f g h i j k l m n o p q r s t u v w x y (a==0,a)
def GK(b:Int)(c:UInt32)(d e f g h:Int)(i:Bool)(j:UInt32)(k:Int)(l:Bool)(m n:Int)(o p:Bool)(q:bw)(r a:UInt32)(s t:Int)(u:bH)(v:bn)(w:Int)(x:Bool)(z:Int)(A:bV)(B:fA)(C:UInt8)(D:Bool)(E:UInt32):fR->bD:=
 λ (F,y)=>cond (!F) (rH b c d e f g h i j k l m n o p a v w x (q,r,a,s,t,u,[],y))<|Bu b c d e f g h i j k l m n o p q r a s t u v w x (y,z,A,B,C,D,E)
def AW(b:Int)(c:UInt32)(d e f g h:Int)(i:Bool)(j:UInt32)(k:Int)(l:Bool)(m n:Int)(o p:Bool)(q:bw)(r s:UInt32)(t u:Int)(v:bH)(w:bn)(x:Int)(y:Bool)(z:Int)(A:bV)(B:fA)(C:UInt8)(D:Bool)(E:UInt32):Int->bD:=
 λa=>GK b c d e f g h i j k l m n o p q r s t u v w x y z A B C D E (a==0,a)
def AE(h:Int)(a:UInt32)(b c d e f:Int)(i:Bool)(j:UInt32)(k:Int)(l:Bool)(m n:Int)(o p:Bool)(g:bw)(q r:UInt32)(s t:Int)(u:bH)(v:bn)(w:Int)(x:Bool)(y:Int):AJ->bD:=
 λ (z,A,B,C,D,E,F)=>cond (!F&&false) (ab (uR (J.mk a b c d e f) g) λG=>cond (y==0&& !G.1) (Gq h a b c d e f i j k l m n o p g q r s t u v w x 9)<|Gq h a b c d e f i j k l m n o p g q r s t u v w x y)<|cond (y==0&& !F) (AW h a b c d e f i j k l m n o p g q r s t u v w x z A B C D E 6)<|AW h a b c d e f i j k l m n o p g q r s t u v w x z A B C D E y
def Jp(c:Int)(d:UInt32)(e f g h i:Int)(j:Bool)(k:UInt32)(l:Int)(m:Bool)(n o:Int)(p q:Bool)(b:bw)(r s:UInt32)(t u:Int)(v:bH)(w:bn)(x:Int)(y:Bool):fR->bD:=
 λ (B,z)=>ab (lY (J.mk d e f g h i) b c) λA=>cond (A.2 !=0) (AE c d e f g h i j k l m n o p q b r s t u v w x y z (0,[],[],0,false,0,false))<|ab (idx b A.1) λa=>AE c d e f g h i j k l m n o p q b r s t u v w x y z (a.L,a.aJ,a.a_,a.aG,a.cG,a.Seq,true)
def Ck(b:Int)(c:UInt32)(d e f g h:Int)(i:Bool)(j:UInt32)(k:Int)(l:Bool)(m n:Int)(o p:Bool)(q:bw)(r s:UInt32)(t u:Int)(v:bH)(w:bn)(x:Int)(y:Bool):Int->bD:=
 λa=>Jp b c d e f g h i j k l m n o p q r s t u v w x y (a==0,a)
def JC(z:N)(a:Int):n7->bD:=
 λ (b,c,d,e,f,g,h,i,j,k,l,m,n,o,p,q,r,s,t,u,v,w,x,y)=>cond (y==0&& !!z.X.cn) (Ck a b c d e f g h i j k l m n o p q r s t u v w x 6)<|Ck a b c d e f g h i j k l m n o p q r s t u v w x y
def ud(b:N)(d:Int):bD:=
 ab (ku b) λa=>ab (jU b) λc=>cond (c==0&&b.X.cO) none<|JC b d (a.J.Id,a.J.aw,a.J.bz,a.J.bb,a.J.K,a.J.aE,a.ee,a.X.cZ,a.X.bZ,a.X.dt,a.X.Pos,a.X.cN,a.X.cn,a.X.cO,a.aE,a.K.bR,a.K.Seq,a.K.ca,a.K.cg,a.K.j,a.du,a.Next,a.eU,c)
def Ef(b:au)(c:N):bE:=
 ab (CL c b.L) λa=>cond (!a.2) none<|cond (b.bG==2) (ab (gO (a.1.aG==0) (lZ a.1.a_ true)) λd=>some (a.1.aG==0&&d))<|cond (b.bG==5) (ab (gO (!a.1.aG==3&&a.1.aG==1) (rW c)) λe=>some (a.1.aG==3||a.1.aG==1&& !e))<|ab (ud c b.L) λf=>some (f.2.2==0)
def Xe(b:bH)(c:j->bE):Int->mU:=
 λa=>cond (a<b.length) (ab (idx b a) λd=>ab (c d) λe=>cond e (some (ak.aT (Sum.inl a)))<|some (ak.next (wI (a+1))))<|some (ak.aT (Sum.inr ()))
def F6(a:bH)(b:j->bE):dv:=
 ab (bf (Xe a b) aP 0) λc=>Sum.elim (λd=>some d) (λe=>some (-1:Int)) c
def yC(a:bH)(b:j->bE):bE:=
 ab (F6 a b) λc=>some (decide (c>=0))
def Kr(a:j):bE:=
 some (!a.dC)
def NI(a:aM):bE:=
 some (a.aG==4)
def Cf(c:au)(a:N):bE:=
 cond (c.bG==4) (ab (rW a) λd=>ab (gO d (yC a.K.j λb=>Kr b)) λf=>some (d&&f))<|cond (c.bG==6) (ab (wG a.aE λb=>NI b) λg=>some g)<|ab (rW a) λe=>ab (gO (e&&(a.K.j.length:Int)>0) (idx a.K.j 0)) λh=>some (e&&(a.K.j.length:Int)>0&&h.cH)
def mC(m:oy)(a:N):bE:=
 match m.i with
 |0=>NL m.x a
 |1=>Ef m.x a
 |2=>Cf m.x a
 |_=>none
def qV(a:oy)(b:N):bE:=
 ab (mC a b) λc=>some (!c)
def Em:iT->Option iT:=
 λa=>some a
def AQ(a:Int):iT×Int->H7:=
 λ (b,c)=>some (ak.next (b,c,wI (a+1)))
def JP(a:iT)(b c:Int)(d:oy):Bool->H7:=
 λe=>cond (!e) (ab (b_ a.length b) λf=>AQ c (a.set f d,wI (b+1)))<|AQ c (a,b)
def EY(e:N):iT×ea->H7:=
 λ (a,c,b)=>cond (b<a.length) (ab (idx a b) λd=>ab (mC d e) λf=>JP a c b d (!f))<|some (ak.aT (a,c))
def v5(b:N):Option iT:=
 cond b.X.cO none<|ab (AU b) λc=>ab (Ec c λe=>qV e b) λd=>cond (d== -1) (Em c)<|ab (bf (EY b) aP (c,d,wI (d+1))) λa=>ab (fy a.1 a.2 a.1.length) λg=>ab (fy (a.1.take (qP a.2)++dr (a.1.length - qP a.2) (⟨3,default⟩:gQ [243,245,247] au)) 0 a.2) λf=>Em f
def Bq(a:oy):Option au:=
 cond (ct a.i 0) (some (cond (ct a.i 0) a.x<|au.mk 0 0 0 0))<|cond (ct a.i 1) (some (cond (ct a.i 1) a.x<|au.mk 0 0 0 0))<|some (cond (ct a.i 2) a.x<|au.mk 0 0 0 0)
def P7(b:iT):rZ->Option (ak rZ (List au)):=
 λ (c,a)=>cond (a<b.length) (ab (idx b a) λd=>ab (Bq d) λe=>ab (app c [e]) λf=>some (ak.next (f,wI (a+1))))<|some (ak.aT c)
def As(a:N):Option rZ:=
 ab (jU a) λb=>cond (b !=0) none<|ab (v5 a) λc=>ab (bf (P7 c) aP ([],0)) λd=>some (d,0)
def w_(a:N)(c:Int):Option UInt8:=
 ab (lY a.J a.aE c) λb=>cond (b.2 !=0) (some 0)<|ab (idx a.aE b.1) λd=>some d.aG
def yL:r9->Option r9:=
 λa=>some a
def uY(a:g6):r9->Option r9:=
 λb=>cond (a.d.X.cN<a.d.X.Pos) (ab (app b [kV.mk (au.mk 9 0 0 0) (⟨2,a⟩:kM [146,147] g6)]) λc=>yL c)<|yL b
def ni(a:g6):Option r9:=
 cond (a.d.X.cO|| !a.d.X.dt) (some [])<|ab (kv a.d.J) λb=>ab (gO (decide (a.d.X.Pos<b.1)) (w_ a.d a.d.X.Pos)) λc=>cond (a.d.X.Pos<b.1&&c==0) (ab (app ([]:List kV) [kV.mk (au.mk 8 0 0 a.d.X.Pos) (⟨1,a⟩:kM [146,147] g6)]) λe=>uY a e)<|uY a []
def Mg(b:r9):rZ->Option (ak rZ (List au)):=
 λ (c,a)=>cond (a<b.length) (ab (idx b a) λd=>ab (app c [d.au]) λe=>some (ak.next (e,wI (a+1))))<|some (ak.aT c)
def CX(a:N):Option rZ:=
 ab (jU a) λb=>cond (b !=0) none<|ab (ni (g6.mk a [])) λc=>ab (bf (Mg c) aP ([],0)) λd=>some (d,0)
def tv(a:World):Option (List au):=
 ab (As a.World.N) λb=>ab (CX a.World.N) λc=>ab (app b.1 c.1) λd=>some d
def vN(a:oy)(b:au):bE:=
 ab (Bq a) λc=>some (decide (c=b))
def Qz(a:dq)(b:Int):bE:=
 some (a.dR==b)
def LQ(f:J)(c:bn)(m n:Int)(d:UInt8)(g:UInt32)(h:cq):Option mZ:=
 ab (vS c) λt=>ab (oi f c) λo=>cond (o !=0) none<|ab (JG c m n) λb=>ab (gO (!!b.2.2) (A9 f c b.1)) λe=>ab (gO (!(!b.2.2|| !e)) (idx c b.1)) λp=>ab (gO (!(!b.2.2|| !e)) (idx p.fY b.2.1)) λq=>cond (!b.2.2|| !e||(q.toNat:Int)>=(d.toNat:Int)) none<|ab (mO c) λr=>ab (vS r) λa=>cond (b.1 !=0|| !a.bO.all (·.isEmpty)|| !h.isEmpty) none<|ab (og h) λi=>ab (b_ a.fY.length b.2.1) λj=>ab (b_ a.iU.length b.2.1) λk=>ab (b_ a.bO.length b.2.1) λl=>ab (G5 (dq.mk a.dR a.aZ (a.fY.set j d) (a.iU.set k g) (a.bO.set l i)) b.2.1) λs=>cond (!s) none<|some ([dq.mk a.dR a.aZ (a.fY.set j d) (a.iU.set k g) (a.bO.set l i)],0)
def GG:J×Bool×X×FZ->bD:=
 λ (a,b,c,d,e,f,g,h,i,j,k,l,m)=>some (N.mk a b c d (K.mk e f g h i) j k l,[],m)
def Kx(b:UInt32)(c d e f g:Int)(h:Bool)(i:UInt32)(j:Int)(k:Bool)(l m:Int)(n o:Bool)(p q:UInt32)(r s:Int)(t:bH)(u:Int)(v:Bool):bw×mZ->bD:=
 λ (w,x,a)=>cond (a !=0) (GG (J.mk 0 0 0 0 0 0,false,X.mk 0 0 false 0 0 false false,[],0,0,0,0,[],[],0,false,a))<|GG (J.mk b c d e f g,h,X.mk i j k l m n o,w,p,q,r,s,t,x,u,v,0)
def Ig(a:UInt32)(b c d e f:Int)(g:Bool)(h:UInt32)(i:Int)(j:Bool)(k l:Int)(m n:Bool)(o p:UInt32)(q r:Int)(s:bH)(t:Int)(u:Bool)(v:bw):mZ->bD:=
 λ (w,x)=>Kx a b c d e f g h i j k l m n o p q r s t u (v,w,x)
def vY(z A:Int)(a:UInt32)(b c d e f:Int)(g:Bool)(h:UInt32)(i:Int)(j:Bool)(k l:Int)(m n:Bool)(o p:UInt32)(q r:Int)(s:bH)(t:bn)(u:Int)(v:Bool):bw×Int->bD:=
 λ (w,x)=>cond (x==0) (ab (LQ (J.mk a b c d e f) t z A 1 0 []) λy=>Ig a b c d e f g h i j k l m n o p q r s u v w (y.1,y.2))<|Ig a b c d e f g h i j k l m n o p q r s u v w (t,x)
def PY(g h:Int)(a:UInt32)(b c d e f:Int)(i:Bool)(j:UInt32)(k:Int)(l:Bool)(m n:Int)(o p:Bool)(q:bw)(r s:UInt32)(t u:Int)(v:bH)(w:bn)(x:Int)(y:Bool)(A:Int)(B:bV)(C:fA)(D:UInt8)(E:Bool)(F:UInt32):fR->bD:=
 λ (G,z)=>cond G (ab (l_ (J.mk a b c d e f) q (aM.mk A B C D E F)) λI=>vY g h a b c d e f i j k l m n o p r s t u v w x y (I.1,z))<|vY g h a b c d e f i j k l m n o p r s t u v w x y (q,z)
def E5(b c:Int)(d:UInt32)(e f g h i:Int)(j:Bool)(k:UInt32)(l:Int)(m:Bool)(n o:Int)(p q:Bool)(r:bw)(s t:UInt32)(u v:Int)(w:bH)(x:bn)(y:Int)(z:Bool)(A:Int)(B:bV)(C:fA)(D:UInt8)(E:Bool)(F:UInt32):Int->bD:=
 λa=>PY b c d e f g h i j k l m n o p q r s t u v w x y z A B C D E F (a==0,a)
def Po(a b:Int)(c:UInt32)(d e f g h:Int)(i:Bool)(j:UInt32)(k:Int)(l:Bool)(m n:Int)(o p:Bool)(q:bw)(r s:UInt32)(t u:Int)(v:bH)(w:bn)(x:Int)(y:Bool)(z:Int):m2->bD:=
 λ (A,B,C,D,E,F,G)=>cond (z==0&& !G==0) (E5 a b c d e f g h i j k l m n o p q r s t u v w x y A B C D E F G)<|E5 a b c d e f g h i j k l m n o p q r s t u v w x y A B C D E F z
def G2(j k:Int)(b:UInt32)(c d e f g:Int)(h:Bool)(l:UInt32)(m:Int)(n:Bool)(o p:Int)(i q:Bool)(r:bw)(s t:UInt32)(u v:Int)(w:bH)(x:bn)(y:Int)(z:Bool)(A:ky×Int)(B:cq):m3->bD:=
 λ (C,D,E,F,G,K,I)=>ab (w9 (J.mk b c d e f g) (aM.mk D E F G K I) A.1.Slot B) λa=>cond (a.2 !=0|| !h||i) (Po j k b c d e f g h l m n o p i q r s t u v w x y z C (a.1.L,a.1.aJ,a.1.a_,a.1.aG,a.1.cG,a.1.Seq,a.2)) none
def Lc(h i:Int)(b:UInt32)(c d e f g:Int)(j:Bool)(k:UInt32)(l:Int)(m:Bool)(n o:Int)(p q:Bool)(r:bw)(s t:UInt32)(u v:Int)(w:bH)(x:bn)(y:Int)(z:Bool)(A:ky×Int)(C:cq):fR->bD:=
 λ (D,B)=>cond (!D) (vY h i b c d e f g j k l m n o p q s t u v w x y z (r,B))<|ab (oS (J.mk b c d e f g) A.1.L) λa=>G2 h i b c d e f g j k l m n o p q r s t u v w x y z A C (B,a.1.L,a.1.aJ,a.1.a_,a.1.aG,a.1.cG,a.1.Seq)
def Ii(b c:Int)(d:UInt32)(e f g h i:Int)(j:Bool)(k:UInt32)(l:Int)(m:Bool)(n o:Int)(p q:Bool)(r:bw)(s t:UInt32)(u v:Int)(w:bH)(x:bn)(y:Int)(z:Bool)(A:ky×Int)(B:cq):Int->bD:=
 λa=>Lc b c d e f g h i j k l m n o p q r s t u v w x y z A B (a==0,a)
def LI(a b:Int)(c:UInt32)(d e f g h:Int)(i:Bool)(j:UInt32)(k:Int)(l:Bool)(m n:Int)(o p:Bool)(q:bw)(r s:UInt32)(t u:Int)(v:bH)(w:bn)(x:Int)(y:Bool)(A:ky×Int)(B:cq)(C:Int)(D:bV)(E:fA)(F:UInt8)(G:Bool)(J:UInt32):fR->bD:=
 λ (I,z)=>cond (!I) (vY a b c d e f g h i j k l m n o p r s t u v w x y (q,z))<|G2 a b c d e f g h i j k l m n o p q r s t u v w x y A B (z,C,D,E,F,G,J)
def II(b c:Int)(d:UInt32)(e f g h i:Int)(j:Bool)(k:UInt32)(l:Int)(m:Bool)(n o:Int)(p q:Bool)(r:bw)(s t:UInt32)(u v:Int)(w:bH)(x:bn)(y:Int)(z:Bool)(A:ky×Int)(B:cq)(C:Int)(D:bV)(E:fA)(F:UInt8)(G:Bool)(I:UInt32):Int->bD:=
 λa=>LI b c d e f g h i j k l m n o p q r s t u v w x y z A B C D E F G I (a==0,a)
def EV(h i:Int)(a:UInt32)(b c d e f:Int)(j:Bool)(k:UInt32)(l:Int)(m:Bool)(n o:Int)(p q:Bool)(g:bw)(r s:UInt32)(t u:Int)(v:bH)(w:bn)(x:Int)(y:Bool)(z:Int)(A:ky×Int)(B:cq):AJ->bD:=
 λ (C,D,E,F,G,K,I)=>cond (!I&&true) (ab (uR (J.mk a b c d e f) g) λL=>cond (z==0&& !L.1) (Ii h i a b c d e f j k l m n o p q g r s t u v w x y A B 9)<|Ii h i a b c d e f j k l m n o p q g r s t u v w x y A B z)<|cond (z==0&& !I) (II h i a b c d e f j k l m n o p q g r s t u v w x y A B C D E F G K 6)<|II h i a b c d e f j k l m n o p q g r s t u v w x y A B C D E F G K z
def KX(F:N)(l b:Int)(e:UInt32)(f g h i j:Int)(m:Bool)(n:UInt32)(o:Int)(p:Bool)(q r:Int)(s t:Bool)(d:bw)(u v:UInt32)(w x:Int)(y:bH)(z:bn)(A:Int)(B:Bool)(c:dq):fR->bD:=
 λ (G,C)=>cond (!G) none<|ab (wR F.J b) λk=>cond (c.aZ.bG==1) none<|cond (c.aZ.bG==5) none<|ab (fy c.aZ.bO (wI (wI (b - c.aZ.At) * 128)) (wI (wI (wI (b - c.aZ.At)+1) * 128))) λD=>ab (lY (J.mk e f g h i j) d k.1.L) λE=>cond (E.2 !=0) (EV l b e f g h i j m n o p q r s t d u v w x y z A B C k D (0,[],[],0,false,0,false))<|ab (idx d E.1) λa=>EV l b e f g h i j m n o p q r s t d u v w x y z A B C k D (a.L,a.aJ,a.a_,a.aG,a.cG,a.Seq,true)
def Ju(b:N)(c d:Int)(e:UInt32)(f g h i j:Int)(k:Bool)(l:UInt32)(m:Int)(n:Bool)(o p:Int)(q r:Bool)(s:bw)(t u:UInt32)(v w:Int)(x:bH)(y:bn)(z:Int)(A:Bool)(B:dq):Int->bD:=
 λa=>KX b c d e f g h i j k l m n o p q r s t u v w x y z A B (a==0,a)
def NJ(e:N)(c d:Int)(f:UInt32)(g h i j k:Int)(l:Bool)(m:UInt32)(n:Int)(o:Bool)(p q:Int)(r s:Bool)(t:bw)(u v:UInt32)(w x:Int)(y:bH)(a:bn)(z:Int)(A:Bool):fR->bD:=
 λ (C,B)=>cond (!C) none<|ab (tq a λD=>Qz D c) λE=>ab (idx a E) λb=>ab (idx b.fY (wI (d - b.aZ.At))) λF=>cond (B==0&& !F==0) (Ju e c d f g h i j k l m n o p q r s t u v w x y a z A b 6)<|Ju e c d f g h i j k l m n o p q r s t u v w x y a z A b B
def IQ(b:N)(c d:Int)(e:UInt32)(f g h i j:Int)(k:Bool)(l:UInt32)(m:Int)(n:Bool)(o p:Int)(q r:Bool)(s:bw)(t u:UInt32)(v w:Int)(x:bH)(y:bn)(z:Int)(A:Bool):Int->bD:=
 λa=>NJ b c d e f g h i j k l m n o p q r s t u v w x y z A (a==0,a)
def O1(a:N)(b c:Int):n7->bD:=
 λ (e,f,g,h,i,j,k,l,m,n,o,p,q,r,s,t,u,v,w,x,y,z,A,d)=>cond (d !=0) none<|ab (H4 a.J a.du b c) λB=>cond (d==0&& !(B.2==0&&B.1)) (IQ a b c e f g h i j k l m n o p q r s t u v w x y z A 6)<|IQ a b c e f g h i j k l m n o p q r s t u v w x y z A d
def G_(a:N)(b c:Int)(d:UInt32)(e f g h i:Int)(j:Bool)(k:UInt32)(l:Int)(m:Bool)(n o:Int)(p q:Bool)(r:bw)(s t:UInt32)(u v:Int)(w:bH)(x:bn)(y:Int)(z:Bool)(A:Int):Unit->bD:=
 λ_=>O1 a b c (d,e,f,g,h,i,j,k,l,m,n,o,p,q,r,s,t,u,v,w,x,y,z,A)
def PS(b:N)(B:cu)(c d:Int):n7->bD:=
 λ (e,f,g,h,i,j,k,l,m,n,o,p,q,r,s,t,u,v,w,x,y,z,A,a)=>cond (a==0||a==230) (ab (nO b.J B) λC=>cond (C !=0) none<|G_ b c d e f g h i j k l m n o p q r s t u v w x y z A a ())<|G_ b c d e f g h i j k l m n o p q r s t u v w x y z A a ()
def Mt(b:N)(d:cu)(e f:Int):bD:=
 ab (ku b) λa=>ab (jU b) λc=>cond (c==0&&b.X.cO) none<|PS b d e f (a.J.Id,a.J.aw,a.J.bz,a.J.bb,a.J.K,a.J.aE,a.ee,a.X.cZ,a.X.bZ,a.X.dt,a.X.Pos,a.X.cN,a.X.cn,a.X.cO,a.aE,a.K.bR,a.K.Seq,a.K.ca,a.K.cg,a.K.j,a.du,a.Next,a.eU,c)
def rz(a:oC)(b:Int):dv:=
 ab (qD a.N.J a.N.X b) λc=>some c.1
def Jy(a:jS)(b:Int):dv:=
 ab (yi a) λc=>ab (mz (wI (wI (wI (b+a.J.aw) - c) - 1)) a.J.aw) λd=>some d.2
def wZ(a:J)(d b:Int):jx:=
 ab (uP a d b a.aw) λc=>cond (c.2 !=0) none<|ab (Jy c.1 b) λe=>some (e,0)
def E'(b:J)(c a:Int):dv:=
 cond (a== -1) (some (-1))<|ab (wZ b c a) λd=>some d.1
def DO(a:Int):lS->Option (ak (lS×Int) lS):=
 λb=>some (ak.next (b,wI (a+1)))
def MV(e:Int)(c:lS):lS×Int->Option (ak (lS×Int) lS):=
 λ (b,a)=>cond (a<c.length) (ab (idx c a) λd=>ab (yu d.Reads e) λf=>cond (!f) (ab (app b [d]) λg=>DO a g)<|DO a b)<|some (ak.aT b)
def D9(a:Int)(b:lS):Option lS:=
 ab (bf (MV a b) aP ([],0)) λc=>some c
def Cr(a:Int):UInt8×df->Option (ak (Int×UInt8×df) (UInt8×df)):=
 λ (b,c)=>some (ak.next (wI (a+1),b,c))
def Of(b:lS)(f:eE×eE->dv):Int×UInt8×df->Option (ak (Int×UInt8×df) (UInt8×df)):=
 λ (a,c,d)=>cond (a<b.length) (ab (idx b a) λg=>ab (f (g,eE.mk c d)) λh=>cond (h<0) (ab (idx b a) λe=>Cr a (e.bG,e.Reads))<|Cr a (c,d))<|some (ak.aT (c,d))
def E1(a:lS)(d:eE×eE->dv):Unit->Option eE:=
 λ_=>ab (idx a 0) λb=>ab (bf (Of a d) aP (1,b.bG,b.Reads)) λc=>some (eE.mk c.1 c.2)
def Iq(a:lS)(b:eE×eE->dv):Option eE:=
 cond ((a.length:Int)<1) none<|E1 a b ()
def JA(a b:Int):dv:=
 ab (cmp_isNaN_int a) λd=>ab (cmp_isNaN_int b) λc=>cond d (cond c (some 0)<|some (-1))<|cond c (some 1)<|cond (a<b) (some (-1))<|cond (a>b) (some 1)<|some 0
def H_(a b:eE):dv:=
 ab (JA a.Reads.length b.Reads.length) λc=>some c
def CH(a:Int):df×df->Jk:=
 λ (b,c)=>some (ak.next (wI (a+1),b,c))
def Cb(d:aM)(a:Int)(b:df):df->Jk:=
 λc=>ab (idx d.aJ a) λe=>cond ((e.length:Int)==0) (ab (app b [a]) λf=>CH a (f,c))<|CH a (b,c)
def Kk(b:aM):Int×df×df->Jk:=
 λ (a,c,d)=>cond (a<b.a_.length) (ab (idx b.a_ a) λe=>cond e (ab (app d [a]) λf=>Cb b a c f)<|Cb b a c d)<|some (ak.aT (c,d))
def Cy(b:J)(a:aM)(c:Int):Option (eE×Int):=
 ab (jL b a) λf=>cond (f !=0) none<|cond (c< -1||c>=b.aw) none<|ab (gO (!a.aG !=0) (lZ a.a_ true)) λg=>cond (a.aG !=0|| !g) none<|ab (bf (Kk a) aP (0,[],[])) λd=>cond ((d.1.length:Int)==0) (some (eE.mk 1 [],0))<|ab (app d.2 [wI (b.aw - 1)]) λh=>ab (E' b a.L c) λi=>ab (D9 i [eE.mk 2 d.1,eE.mk 3 h]) λj=>ab (Iq j λe=>H_ e.1 e.2) λk=>some (k,0)
def Cg(a:Int):cq->tJ:=
 λb=>some (ak.next (wI (a+1),b))
def P6(c:cq):Int×cq->tJ:=
 λ (a,b)=>cond (a<c.length) (ab (idx c a) λd=>ab (b_ 128 a) λe=>ab (b[e]?) λf=>ab (b_ 128 a) λg=>some (ak.next (wI (a+1),b.set g (f^^^d))))<|some (ak.aT b)
def Mu(d:bV):Int×cq->tJ:=
 λ (a,b)=>cond (a<(d.length:Int)) (ab (idx d a) λc=>cond ((c.length:Int)==0) (Cg a b)<|cond ((c.length:Int)==128) (ab (bf (P6 c) aP (0,b)) λe=>Cg a e) none)<|some (ak.aT b)
def rb(a:bV):iW:=
 cond ((a.length:Int)>16) none<|ab (bf (Mu a) aP (0,dr 128 (0:UInt8))) λb=>some (b,0)
def zG(a:Int)(b:bV):lz->ri:=
 λ (c,d)=>cond (d !=0) none<|ab (app b [c]) λe=>some (ak.next (wI (a+1),e))
def Mr(f:J)(c:cu)(d g:Int)(h:ea):Int×bV->ri:=
 λ (a,b)=>cond (a<f.aw) (cond (a !=h.1) (ab (gO (!a==d) (idx c a)) λi=>cond (a==d||i.dS) (zG a b ([],230))<|ab (idx c a) λj=>ab (oR j (wI (g+1))) λe=>zG a b (e.1,e.2))<|some (ak.next (wI (a+1),b)))<|some (ak.aT b)
def FO(b:J)(c:cu)(d e:Int)(f:ea):Unit->iW:=
 λ_=>ab (bf (Mr b c d e f) aP (0,[])) λg=>ab (rb g) λa=>some (a.1,a.2)
def zH(a:J)(b:cu)(c d:Int)(e:ea):lz->iW:=
 λ (f,g)=>cond (g==0) (some (f,0))<|FO a b c d e ()
def vX(c:J)(d:cu)(b e g:Int):iW:=
 ab (nO c d) λh=>cond (h !=0) none<|ab (uO c e g) λa=>cond (a.2 !=0||b< -1||b>=c.aw) none<|ab (gO (!a.1==b) (idx d a.1)) λi=>cond (a.1==b||i.dS) (zH c d b e a ([],230))<|ab (idx d a.1) λj=>ab (oR j (wI (e+1))) λf=>zH c d b e a (f.1,f.2)
def vB:Option df:=
 some []
def A6(a:Int):df->ov:=
 λb=>some (ak.next (b,wI (a+1)))
def BU(c:aM):mG->ov:=
 λ (b,a)=>cond (a<(c.a_.length:Int)) (ab (idx c.aJ a) λd=>cond ((d.length:Int)==0) (ab (app b [a]) λe=>A6 a e)<|A6 a b)<|some (ak.aT b)
def p'(a:aM):Option df:=
 ab (bf (BU a) aP ([],0)) λb=>some b
def Es(a:Int):df->ov:=
 λb=>some (ak.next (b,wI (a+1)))
def QG(c:aM):mG->ov:=
 λ (b,a)=>cond (a<c.a_.length) (ab (idx c.a_ a) λd=>cond d (ab (app b [a]) λe=>Es a e)<|Es a b)<|some (ak.aT b)
def rm(a:aM)(b:J):Option df:=
 ab (bf (QG a) aP ([],0)) λc=>ab (app c [wI (b.aw - 1)]) λd=>some d
def LD(b c:df):Int->pJ:=
 λa=>cond (a<b.length) (ab (idx b a) λd=>ab (idx c a) λe=>cond (d !=e) (some (ak.aT (Sum.inl ())))<|some (ak.next (wI (a+1))))<|some (ak.aT (Sum.inr ()))
def DF(a b:df):bE:=
 cond ((a.length:Int) !=(b.length:Int)) (some false)<|ab (bf (LD a b) aP 0) λc=>Sum.elim (λd=>some false) (λe=>some true) c
def EL(a:cq):bE:=
 some ((a.length:Int) !=0&&(a.length:Int) !=128)
def P8(b:aM)(c:eE):Int×bV->ri:=
 λ (a,d)=>cond (a<(b.a_.length:Int)) (ab (idx b.a_ a) λe=>ab (gO (e|| !c.bG==3) (idx b.aJ a)) λf=>ab (gO ((e|| !c.bG==3)&&(f.length:Int)>0) (idx b.aJ a)) λg=>cond ((e|| !c.bG==3)&&(f.length:Int)>0) (ab (app d [g]) λh=>some (ak.next (wI (a+1),h)))<|some (ak.next (wI (a+1),d)))<|some (ak.aT d)
def D3(b:aM)(c:eE)(d:bV):Unit->iW:=
 λ_=>ab (bf (P8 b c) aP (0,[])) λe=>ab (rb d) λf=>ab (rb e) λg=>ab (rb [f.1,g.1]) λa=>some (a.1,a.2)
def ur(c:aM)(b:eE)(a:bV):Bool->iW:=
 λd=>cond d none<|cond ((a.length:Int) !=(b.Reads.length:Int)) none<|ab (sb a λe=>EL e) λf=>cond f none<|D3 c b a ()
def vV(b:aM)(a:eE)(c:bV):Option (Option df)×Option (Option df)×Option (Option df)->iW:=
 λ (d,e,f)=>cond (wI a.bG.toNat>=4) (ur b a c (decide (wI a.bG.toNat>=4)))<|ab (b_ 4 a.bG.toNat) λh=>ab (([(none:Option (Option (List Int))),d,e,f]:List (Option (Option (List Int))))[h]?) λg=>cond g.isNone (ur b a c g.isNone)<|ab (b_ 4 a.bG.toNat) λi=>ab (([(none:Option (Option (List Int))),d,e,f]:List (Option (Option (List Int))))[i]?) λj=>ab (ab j id) λk=>ab (DF k a.Reads) λl=>ur b a c (!l)
def Fx(d:J)(a:aM)(b:eE)(c:bV):df->iW:=
 λe=>cond ((e.length:Int)==0) (vV a b c (some vB,(none:Option (Option (List Int))),(none:Option (Option (List Int)))))<|vV a b c ((none:Option (Option (List Int))),some (p' a),some (rm a d))
def Fj(a:Int):df->ov:=
 λb=>some (ak.next (b,wI (a+1)))
def Fk(c:aM):mG->ov:=
 λ (b,a)=>cond (a<(c.a_.length:Int)) (ab (idx c.aJ a) λd=>cond ((d.length:Int)==0) (ab (app b [a]) λe=>Fj a e)<|Fj a b)<|some (ak.aT b)
def Ek(b:J)(a:aM)(c:eE)(d:bV):iW:=
 ab (jL b a) λe=>cond (e !=0) none<|ab (gO (!a.aG !=0) (lZ a.a_ true)) λf=>cond (a.aG !=0|| !f) none<|ab (bf (Fk a) aP ([],0)) λg=>Fx b a c d g
def FL:m2->fg:=
 λ (a,b,c,d,e,f,g)=>some (aM.mk a b c d e f,g)
def Dn:m2->fg:=
 λ (a,b,c,d,e,f,g)=>FL (a,b,c,d,e,f,g)
def A0:m3->fg:=
 λ (a,b,c,d,e,f,g)=>Dn (b,c,d,e,f,g,a)
def CO(a:aM):Int×bV×UInt8->fg:=
 λ (b,c,d)=>cond (b==0) (A0 (b,a.L,c,a.a_,d,a.cG,a.Seq))<|A0 (b,0,[],[],0,false,0)
def G4(a:aM):bV->fg:=
 λb=>CO a (0,b,1)
def vx(b:J)(c:aM)(d:cq):fg:=
 ab (jL b c) λg=>cond (g !=0) none<|ab (mc d) λh=>cond h none<|ab (jL b c) λe=>cond (e !=0) (Dn (0,[],[],0,false,0,e))<|cond ((0:Int)<(0:Int)||0>=wI (b.aw - 1)) none<|ab (mc []) λi=>cond i none<|ab (mb c) λa=>ab (mJ 0 a.aG) λf=>ab (gO (!!f&&(0:Int)==(0:Int)) (lZ a.a_ true)) λj=>cond (!f||(0:Int)==(0:Int)&& !j) (CO a (6,a.aJ,a.aG))<|ab (yK d) λk=>ab (b_ a.aJ.length (wI (b.aw - 1))) λl=>G4 a (a.aJ.set l k)
def Dl:J×Bool×X×FZ->kx:=
 λ (a,b,c,d,e,f,g,h,i,j,k,l,m)=>some (N.mk a b c d (K.mk e f g h i) j k l,m)
def tO(b:UInt32)(c d e f g:Int)(h:Bool)(i:UInt32)(j:Int)(k:Bool)(l m:Int)(n o:Bool)(p q:UInt32)(r s:Int)(t:bH)(u:bn)(v:Int)(w:Bool):bw×Int->kx:=
 λ (x,a)=>cond (a !=0) (Dl (J.mk 0 0 0 0 0 0,false,X.mk 0 0 false 0 0 false false,[],0,0,0,0,[],[],0,false,a))<|Dl (J.mk b c d e f g,h,X.mk i j k l m n o,x,p,q,r,s,t,u,v,w,0)
def F5(a:UInt32)(b c d e f:Int)(g:Bool)(h:UInt32)(i:Int)(j:Bool)(k l:Int)(m n:Bool)(o:bw)(p q:UInt32)(r s:Int)(t:bH)(u:bn)(v:Int)(w:Bool)(y:Int)(z:bV)(A:fA)(B:UInt8)(C:Bool)(D:UInt32):fR->kx:=
 λ (E,x)=>cond E (ab (l_ (J.mk a b c d e f) o (aM.mk y z A B C D)) λF=>tO a b c d e f g h i j k l m n p q r s t u v w (F.1,x))<|tO a b c d e f g h i j k l m n p q r s t u v w (o,x)
def AF(b:UInt32)(c d e f g:Int)(h:Bool)(i:UInt32)(j:Int)(k:Bool)(l m:Int)(n o:Bool)(p:bw)(q r:UInt32)(s t:Int)(u:bH)(v:bn)(w:Int)(x:Bool)(y:Int)(z:bV)(A:fA)(B:UInt8)(C:Bool)(D:UInt32):Int->kx:=
 λa=>F5 b c d e f g h i j k l m n o p q r s t u v w x y z A B C D (a==0,a)
def Ix(a:UInt32)(b c d e f:Int)(g:Bool)(h:UInt32)(i:Int)(j:Bool)(k l:Int)(m n:Bool)(o:bw)(p q:UInt32)(r s:Int)(t:bH)(u:bn)(v:Int)(w:Bool):Int×bV×fA×UInt8×Bool×UInt32×ea->kx:=
 λ (x,y,z,A,B,C,D,E)=>cond (E==0&& !D==0) (AF a b c d e f g h i j k l m n o p q r s t u v w x y z A B C D)<|AF a b c d e f g h i j k l m n o p q r s t u v w x y z A B C E
def Ft(a:bV)(b:Int):lz->DM:=
 λ (c,d)=>ab (app a [c]) λe=>some (ak.next (e,wI (b+1),d))
def HZ(a:bV)(b:Int)(c:lz):fR->DM:=
 λ (e,d)=>Ft a b (c.1,d)
def CJ(b:bV)(c:Int)(d:lz):Int->DM:=
 λa=>HZ b c d (a==0,a)
def Ml(m:cu)(e:Int)(f:UInt32)(g h i j k:Int)(n:Bool)(o:UInt32)(p:Int)(q:Bool)(r s:Int)(t u:Bool)(v:bw)(w x:UInt32)(y z:Int)(A:bH)(B:bn)(C:Int)(D:Bool)(l:eE×Int):bV×ea->DM:=
 λ (d,a,b)=>cond (a<l.1.Reads.length) (ab (idx l.1.Reads a) λE=>ab (rz (oC.mk (N.mk (J.mk f g h i j k) n (X.mk o p q r s t u) v (K.mk w x y z A) B C D) [] b) e) λF=>ab (vX (J.mk f g h i j k) m F e E) λc=>cond (b==0&& !c.2==0) (CJ d a c c.2)<|CJ d a c b)<|some (ak.aT (d,b))
def Db(S:cu)(G:Int)(b:UInt32)(c d e f g:Int)(h:Bool)(i:UInt32)(E:Int)(k:Bool)(l m:Int)(n o:Bool)(p:bw)(q r:UInt32)(s t:Int)(u:bH)(v:bn)(w:Int)(x:Bool):m3->kx:=
 λ (O,y,z,A,B,C,D)=>ab (rz (oC.mk (N.mk (J.mk b c d e f g) h (X.mk i E k l m n o) p (K.mk q r s t u) v w x) [] O) G) λQ=>ab (Cy (J.mk b c d e f g) (aM.mk y z A B C D) Q) λj=>cond (j.2 !=0) none<|ab (bf (Ml S G b c d e f g h i E k l m n o p q r s t u v w x j) aP ([],0,O)) λF=>ab (Ek (J.mk b c d e f g) (aM.mk y z A B C D) j.1 F.1) λI=>cond (F.2 !=0||I.2 !=0) none<|ab (vx (J.mk b c d e f g) (aM.mk y z A B C D) I.1) λa=>Ix b c d e f g h i E k l m n o p q r s t u v w x (a.1.L,a.1.aJ,a.1.a_,a.1.aG,a.1.cG,a.1.Seq,a.2,F.2)
def OU(A:cu)(h:Int)(b:UInt32)(c d e f g:Int)(i:Bool)(j:UInt32)(k:Int)(l:Bool)(m n:Int)(o p:Bool)(q:bw)(r s:UInt32)(t u:Int)(v:bH)(w:bn)(x:Int)(y:Bool):fR->kx:=
 λ (B,z)=>cond (!B) (tO b c d e f g i j k l m n o p r s t u v w x y (q,z))<|ab (oS (J.mk b c d e f g) h) λa=>Db A h b c d e f g i j k l m n o p q r s t u v w x y (z,a.1.L,a.1.aJ,a.1.a_,a.1.aG,a.1.cG,a.1.Seq)
def E4(b:cu)(c:Int)(d:UInt32)(e f g h i:Int)(j:Bool)(k:UInt32)(l:Int)(m:Bool)(n o:Int)(p q:Bool)(r:bw)(s t:UInt32)(u v:Int)(w:bH)(x:bn)(y:Int)(z:Bool):Int->kx:=
 λa=>OU b c d e f g h i j k l m n o p q r s t u v w x y z (a==0,a)
def IW(y:cu)(z:Int)(a:UInt32)(b c d e f:Int)(g:Bool)(h:UInt32)(i:Int)(j:Bool)(k l:Int)(m n:Bool)(o:bw)(p q:UInt32)(r s:Int)(t:bH)(u:bn)(v:Int)(w:Bool)(A:Int)(B:bV)(C:fA)(D:UInt8)(E:Bool)(F:UInt32):fR->kx:=
 λ (G,x)=>cond (!G) (tO a b c d e f g h i j k l m n p q r s t u v w (o,x))<|Db y z a b c d e f g h i j k l m n o p q r s t u v w (x,A,B,C,D,E,F)
def Cc(b:cu)(c:Int)(d:UInt32)(e f g h i:Int)(j:Bool)(k:UInt32)(l:Int)(m:Bool)(n o:Int)(p q:Bool)(r:bw)(s t:UInt32)(u v:Int)(w:bH)(x:bn)(y:Int)(z:Bool)(A:Int)(B:bV)(C:fA)(D:UInt8)(E:Bool)(F:UInt32):Int->kx:=
 λa=>IW b c d e f g h i j k l m n o p q r s t u v w x y z A B C D E F (a==0,a)
def Dv(h:cu)(i:Int)(a:UInt32)(b c d e f:Int)(j:Bool)(k:UInt32)(l:Int)(m:Bool)(n o:Int)(p q:Bool)(g:bw)(r s:UInt32)(t u:Int)(v:bH)(w:bn)(x:Int)(y:Bool)(z:Int):AJ->kx:=
 λ (A,B,C,D,E,F,G)=>cond (!G&&false) (ab (uR (J.mk a b c d e f) g) λI=>cond (z==0&& !I.1) (E4 h i a b c d e f j k l m n o p q g r s t u v w x y 9)<|E4 h i a b c d e f j k l m n o p q g r s t u v w x y z)<|cond (z==0&& !G) (Cc h i a b c d e f j k l m n o p q g r s t u v w x y A B C D E F 6)<|Cc h i a b c d e f j k l m n o p q g r s t u v w x y A B C D E F z
def Gn(j:cu)(c:Int):n7->kx:=
 λ (d,e,f,g,h,i,k,l,m,n,o,p,q,r,b,s,t,u,v,w,x,y,z,A)=>ab (lY (J.mk d e f g h i) b c) λB=>cond (B.2 !=0) (Dv j c d e f g h i k l m n o p q r b s t u v w x y z A (0,[],[],0,false,0,false))<|ab (idx b B.1) λa=>Dv j c d e f g h i k l m n o p q r b s t u v w x y z A (a.L,a.aJ,a.a_,a.aG,a.cG,a.Seq,true)
def Bb(a:cu)(b:Int)(c:UInt32)(d e f g h:Int)(i:Bool)(j:UInt32)(k:Int)(l:Bool)(m n:Int)(o p:Bool)(q:bw)(r s:UInt32)(t u:Int)(v:bH)(w:bn)(x:Int)(y:Bool)(z:Int):Unit->kx:=
 λ_=>Gn a b (c,d,e,f,g,h,i,j,k,l,m,n,o,p,q,r,s,t,u,v,w,x,y,z)
def Gt(A:N)(b:cu)(c:Int):n7->kx:=
 λ (d,e,f,g,h,i,j,k,l,m,n,o,p,q,r,s,t,u,v,w,x,y,z,a)=>cond (a==0||a==230) (ab (nO A.J b) λB=>cond (B !=0) none<|Bb b c d e f g h i j k l m n o p q r s t u v w x y z a ())<|Bb b c d e f g h i j k l m n o p q r s t u v w x y z a ()
def A2(b:N)(d:cu)(e:Int):kx:=
 ab (ku b) λa=>ab (jU b) λc=>cond (c==0&&b.X.cO) none<|Gt b d e (a.J.Id,a.J.aw,a.J.bz,a.J.bb,a.J.K,a.J.aE,a.ee,a.X.cZ,a.X.bZ,a.X.dt,a.X.Pos,a.X.cN,a.X.cn,a.X.cO,a.aE,a.K.bR,a.K.Seq,a.K.ca,a.K.cg,a.K.j,a.du,a.Next,a.eU,c)
def FY:m2->fg:=
 λ (a,b,c,d,e,f,g)=>some (aM.mk a b c d e f,g)
def Bn:m2->fg:=
 λ (a,b,c,d,e,f,g)=>FY (a,b,c,d,e,f,g)
def zK:m3->fg:=
 λ (a,b,c,d,e,f,g)=>Bn (b,c,d,e,f,g,a)
def zS(a:aM):Int×UInt8×Bool->fg:=
 λ (b,c,d)=>cond (b==0) (zK (b,a.L,a.aJ,a.a_,c,d,a.Seq))<|zK (b,0,[],[],0,false,0)
def Gb(a:aM):Unit->fg:=
 λ_=>zS a (0,4,false)
def wu(b:J)(c:aM):fg:=
 ab (jL b c) λd=>cond (d !=0) (Bn (0,[],[],0,false,0,d))<|cond ((0:Int)<(0:Int)||0>=wI (b.aw - 1)) none<|ab (mc []) λf=>cond f none<|ab (mb c) λa=>ab (mJ 3 a.aG) λe=>ab (gO (!!e&&(3:Int)==(0:Int)) (lZ a.a_ true)) λg=>cond (!e||(3:Int)==(0:Int)&& !g) (zS a (6,a.aG,a.cG))<|Gb a ()
def BI(a:J)(b:Int)(c:aM):Option gw:=
 ab (jL a c) λf=>cond (f !=0) none<|ab (xA a b) λg=>cond (!g) none<|ab (wN a c) λd=>cond (d.2 !=0) none<|ab (vR a b d.1) λe=>some (e.1,e.2)
def Bh:yq->bD:=
 λ (a,b,c,d,e,f,g,h,i,j,k,l,m,n)=>some (N.mk a b c d (K.mk e f g h i) j k l,m,n)
def uK(b:N)(c:UInt32)(d e f g h:Int)(i:Bool)(j:UInt32)(k:Int)(l:Bool)(m n:Int)(o p:Bool)(q r:UInt32)(s t:Int)(u:bH)(v:bn)(w:Int)(x:Bool):bw×gw->bD:=
 λ (y,z,a)=>cond (a==0&&b.X.cn) none<|cond (a !=0) (Bh (J.mk 0 0 0 0 0 0,false,X.mk 0 0 false 0 0 false false,[],0,0,0,0,[],[],0,false,[],a))<|Bh (J.mk c d e f g h,i,X.mk j k l m n o p,y,q,r,s,t,u,v,w,x,z,0)
def H3(g:N)(a:UInt32)(b c d e f:Int)(h:Bool)(i:UInt32)(j:Int)(k:Bool)(l m:Int)(n o:Bool)(p:bw)(q r:UInt32)(s t:Int)(u:bH)(v:bn)(w:Int)(x:Bool)(A:Int)(B:bV)(C:fA)(D:UInt8)(E:Bool)(F:UInt32)(y:cY):fR->bD:=
 λ (G,z)=>cond G (ab (l_ (J.mk a b c d e f) p (aM.mk A B C D E F)) λI=>uK g a b c d e f h i j k l m n o q r s t u v w x (I.1,y,z))<|uK g a b c d e f h i j k l m n o q r s t u v w x (p,y,z)
def Cs(b:N)(c:UInt32)(d e f g h:Int)(i:Bool)(j:UInt32)(k:Int)(l:Bool)(m n:Int)(o p:Bool)(q:bw)(r s:UInt32)(t u:Int)(v:bH)(w:bn)(x:Int)(y:Bool)(z:Int)(A:bV)(B:fA)(C:UInt8)(D:Bool)(E:UInt32)(F:cY):Int->bD:=
 λa=>H3 b c d e f g h i j k l m n o p q r s t u v w x y z A B C D E F (a==0,a)
def G0(a:N)(b:UInt32)(c d e f g:Int)(h:Bool)(i:UInt32)(j:Int)(k:Bool)(l m:Int)(n o:Bool)(p:bw)(q r:UInt32)(s t:Int)(u:bH)(v:bn)(w:Int)(x:Bool)(y:Int):Int×bV×fA×UInt8×Bool×UInt32×Int×cY->bD:=
 λ (z,A,B,C,D,E,F,G)=>cond (y==0&& !F==0) (Cs a b c d e f g h i j k l m n o p q r s t u v w x z A B C D E G F)<|Cs a b c d e f g h i j k l m n o p q r s t u v w x z A B C D E G y
def Ed(b:N)(c:UInt32)(d e f g h:Int)(i:Bool)(j:UInt32)(k:Int)(l:Bool)(m n:Int)(o p:Bool)(q:bw)(r s:UInt32)(t u:Int)(v:bH)(w:bn)(x:Int)(y:Bool)(z:Int)(a:aM×Int):cY->bD:=
 λA=>G0 b c d e f g h i j k l m n o p q r s t u v w x y z (a.1.L,a.1.aJ,a.1.a_,a.1.aG,a.1.cG,a.1.Seq,a.2,A)
def FN(a:N)(b:UInt32)(c d e f g:Int)(h:Bool)(i:UInt32)(j:Int)(k:Bool)(l m:Int)(n o:Bool)(p:bw)(q r:UInt32)(s t:Int)(u:bH)(v:bn)(w:Int)(x:Bool)(y:Int)(z:aM×Int):cY->bD:=
 λA=>Ed a b c d e f g h i j k l m n o p q r s t u v w x y z A
def zI(g:N)(G:Int)(a:UInt32)(b c d e f:Int)(h:Bool)(i:UInt32)(j:Int)(k:Bool)(l m:Int)(n o:Bool)(p:bw)(q r:UInt32)(s t:Int)(u:bH)(v:bn)(w:Int)(x:Bool):m3->bD:=
 λ (y,B,C,D,z,E,F)=>cond (z==1&& !g.X.cn) none<|ab (wu (J.mk a b c d e f) (aM.mk B C D z E F)) λA=>cond (A.2==0) (ab (rz (oC.mk (N.mk (J.mk a b c d e f) h (X.mk i j k l m n o) p (K.mk q r s t u) v w x) [] y) G) λO=>ab (BI (J.mk a b c d e f) O (aM.mk B C D z E F)) λI=>ab (app ([]:List cd) I.1) λL=>FN g a b c d e f h i j k l m n o p q r s t u v w x y A L)<|Ed g a b c d e f h i j k l m n o p q r s t u v w x y A []
def K4(h:N)(i:Int)(b:UInt32)(c d e f g:Int)(j:Bool)(k:UInt32)(l:Int)(m:Bool)(n o:Int)(p q:Bool)(r:bw)(s t:UInt32)(u v:Int)(w:bH)(x:bn)(y:Int)(z:Bool):fR->bD:=
 λ (B,A)=>cond (!B) (uK h b c d e f g j k l m n o p q s t u v w x y z (r,[],A))<|ab (oS (J.mk b c d e f g) i) λa=>zI h i b c d e f g j k l m n o p q r s t u v w x y z (A,a.1.L,a.1.aJ,a.1.a_,a.1.aG,a.1.cG,a.1.Seq)
def IC(b:N)(c:Int)(d:UInt32)(e f g h i:Int)(j:Bool)(k:UInt32)(l:Int)(m:Bool)(n o:Int)(p q:Bool)(r:bw)(s t:UInt32)(u v:Int)(w:bH)(x:bn)(y:Int)(z:Bool):Int->bD:=
 λa=>K4 b c d e f g h i j k l m n o p q r s t u v w x y z (a==0,a)
def IH(a:N)(z:Int)(b:UInt32)(c d e f g:Int)(h:Bool)(i:UInt32)(j:Int)(k:Bool)(l m:Int)(n o:Bool)(p:bw)(q r:UInt32)(s t:Int)(u:bH)(v:bn)(w:Int)(x:Bool)(A:Int)(B:bV)(C:fA)(D:UInt8)(E:Bool)(F:UInt32):fR->bD:=
 λ (G,y)=>cond (!G) (uK a b c d e f g h i j k l m n o q r s t u v w x (p,[],y))<|zI a z b c d e f g h i j k l m n o p q r s t u v w x (y,A,B,C,D,E,F)
def Ci(b:N)(c:Int)(d:UInt32)(e f g h i:Int)(j:Bool)(k:UInt32)(l:Int)(m:Bool)(n o:Int)(p q:Bool)(r:bw)(s t:UInt32)(u v:Int)(w:bH)(x:bn)(y:Int)(z:Bool)(A:Int)(B:bV)(C:fA)(D:UInt8)(E:Bool)(F:UInt32):Int->bD:=
 λa=>IH b c d e f g h i j k l m n o p q r s t u v w x y z A B C D E F (a==0,a)
def Ae(h:N)(i:Int)(a:UInt32)(b c d e f:Int)(j:Bool)(k:UInt32)(l:Int)(m:Bool)(n o:Int)(p q:Bool)(g:bw)(r s:UInt32)(t u:Int)(v:bH)(w:bn)(x:Int)(y:Bool)(z:Int):AJ->bD:=
 λ (A,B,C,D,E,F,G)=>cond (!G&&false) (ab (uR (J.mk a b c d e f) g) λI=>cond (z==0&& !I.1) (IC h i a b c d e f j k l m n o p q g r s t u v w x y 9)<|IC h i a b c d e f j k l m n o p q g r s t u v w x y z)<|cond (z==0&& !G) (Ci h i a b c d e f j k l m n o p q g r s t u v w x y A B C D E F 6)<|Ci h i a b c d e f j k l m n o p q g r s t u v w x y A B C D E F z
def IF(j:N)(c:Int):n7->bD:=
 λ (d,e,f,g,h,i,k,l,m,n,o,p,q,r,b,s,t,u,v,w,x,y,z,A)=>ab (lY (J.mk d e f g h i) b c) λB=>cond (B.2 !=0) (Ae j c d e f g h i k l m n o p q r b s t u v w x y z A (0,[],[],0,false,0,false))<|ab (idx b B.1) λa=>Ae j c d e f g h i k l m n o p q r b s t u v w x y z A (a.L,a.aJ,a.a_,a.aG,a.cG,a.Seq,true)
def D'(b:N)(d:Int):bD:=
 ab (ku b) λa=>ab (jU b) λc=>cond (c==0&&b.X.cO) none<|IF b d (a.J.Id,a.J.aw,a.J.bz,a.J.bb,a.J.K,a.J.aE,a.ee,a.X.cZ,a.X.bZ,a.X.dt,a.X.Pos,a.X.cN,a.X.cn,a.X.cO,a.aE,a.K.bR,a.K.Seq,a.K.ca,a.K.cg,a.K.j,a.du,a.Next,a.eU,c)
def NM(a:j):bE:=
 some (!a.dC)
def E7:m2->fg:=
 λ (a,b,c,d,e,f,g)=>some (aM.mk a b c d e f,g)
def Bs:m2->fg:=
 λ (a,b,c,d,e,f,g)=>E7 (a,b,c,d,e,f,g)
def BC:m3->fg:=
 λ (a,b,c,d,e,f,g)=>Bs (b,c,d,e,f,g,a)
def D4(a:aM):Int×UInt8->fg:=
 λ (b,c)=>cond (b==0) (BC (b,a.L,a.aJ,a.a_,c,a.cG,a.Seq))<|BC (b,0,[],[],0,false,0)
def Ir(a:aM):Unit->fg:=
 λ_=>D4 a (0,3)
def DJ(b:J)(c:aM):fg:=
 ab (jL b c) λd=>cond (d !=0) (Bs (0,[],[],0,false,0,d))<|cond ((0:Int)<(0:Int)||0>=wI (b.aw - 1)) none<|ab (mc []) λf=>cond f none<|ab (mb c) λa=>ab (mJ 2 a.aG) λe=>ab (gO (!!e&&(2:Int)==(0:Int)) (lZ a.a_ true)) λg=>cond (!e||(2:Int)==(0:Int)&& !g) (D4 a (6,a.aG))<|Ir a ()
def Ar(a:Int):bw->BB:=
 λb=>some (ak.next (wI (a+1),b))
def Ff(d:UInt32)(e f g h i:Int)(j:bw):Int×bw->BB:=
 λ (b,a)=>cond (b<j.length) (ab (b_ a.length b) λk=>ab (a[k]?) λl=>ab (DJ (J.mk d e f g h i) l) λc=>cond (c.2==0) (ab (b_ a.length b) λm=>Ar b (a.set m c.1))<|Ar b a)<|some (ak.aT a)
def Cd:yq->bD:=
 λ (a,b,c,d,e,f,g,h,i,j,k,l,m,n)=>some (N.mk a b c d (K.mk e f g h i) j k l,m,n)
def Hj(c:UInt32)(d e f g h:Int)(i:Bool)(w:UInt32)(k:Int)(l:Bool)(m n:Int)(o p:Bool)(q:bn)(r:Int)(s:Bool)(b:Int)(a:K×Int)(t:bw):cY->bD:=
 λu=>cond (b !=0) (Cd (J.mk 0 0 0 0 0 0,false,X.mk 0 0 false 0 0 false false,[],0,0,0,0,[],[],0,false,[],b))<|Cd (J.mk c d e f g h,i,X.mk w k l m n o p,t,a.1.bR,a.1.Seq,a.1.ca,a.1.cg,a.1.j,q,r,s,u,0)
def HU(b:UInt32)(a c d e f:Int)(h:Bool)(i:UInt32)(j:Int)(k:Bool)(l m:Int)(n o:Bool)(g:bw)(p q:UInt32)(r s:Int)(t:bH)(u:bn)(v:Int)(w:Bool):fR->bD:=
 λ (x,y)=>cond (!x) none<|ab (xG (J.mk b a c d e f) (K.mk p q r s t)) λz=>ab (bf (Ff b a c d e f g) aP (0,g)) λA=>ab (app ([]:List cd) [cd.mk a 3 0 []]) λB=>Hj b a c d e f h i j k l m n o u v w y z A B
def CE(b:UInt32)(c d e f g:Int)(h:Bool)(i:UInt32)(j:Int)(k:Bool)(l m:Int)(n o:Bool)(p:bw)(q r:UInt32)(s t:Int)(u:bH)(v:bn)(w:Int)(x:Bool):Int->bD:=
 λa=>HU b c d e f g h i j k l m n o p q r s t u v w x (a==0,a)
def HN(y:N):n7->bD:=
 λ (b,c,d,e,f,g,h,i,j,k,l,m,n,o,p,q,r,s,t,a,u,v,w,x)=>ab (yC a λz=>NM z) λA=>cond (x==0&& !(A&& !y.X.cn)) (CE b c d e f g h i j k l m n o p q r s t a u v w 6)<|CE b c d e f g h i j k l m n o p q r s t a u v w x
def zV(b:N):bD:=
 ab (ku b) λa=>ab (jU b) λc=>cond (c==0&&b.X.cO) none<|HN b (a.J.Id,a.J.aw,a.J.bz,a.J.bb,a.J.K,a.J.aE,a.ee,a.X.cZ,a.X.bZ,a.X.dt,a.X.Pos,a.X.cN,a.X.cn,a.X.cO,a.aE,a.K.bR,a.K.Seq,a.K.ca,a.K.cg,a.K.j,a.du,a.Next,a.eU,c)
def E2:m2->fg:=
 λ (a,b,c,d,e,f,g)=>some (aM.mk a b c d e f,g)
def Aq:m2->fg:=
 λ (a,b,c,d,e,f,g)=>E2 (a,b,c,d,e,f,g)
def zW:m3->fg:=
 λ (a,b,c,d,e,f,g)=>Aq (b,c,d,e,f,g,a)
def Ag(b:aM):Int×bV×fA×UInt8×UInt32->fg:=
 λ (a,c,d,e,f)=>cond (a==0) (zW (a,b.L,c,d,e,b.cG,f))<|zW (a,0,[],[],0,false,0)
def Jh(a:aM):bV->fg:=
 λb=>Ag a (0,b,dr a.a_.length false,0,0)
def wV(b:J)(c:aM):fg:=
 ab (jL b c) λd=>cond (d !=0) (Aq (0,[],[],0,false,0,d))<|cond ((0:Int)<(0:Int)||0>=wI (b.aw - 1)) none<|ab (mc []) λf=>cond f none<|ab (mb c) λa=>ab (mJ 4 a.aG) λe=>ab (gO (!!e&&(4:Int)==(0:Int)) (lZ a.a_ true)) λg=>cond (!e||(4:Int)==(0:Int)&& !g) (Ag a (6,a.aJ,a.a_,a.aG,a.Seq))<|ab (b_ a.aJ.length (wI (b.aw - 1))) λh=>Jh a (a.aJ.set h ([]:List UInt8))
def zL(a:Int):Bool×bH->Option (ak (Bool×Int×bH) (Bool×bH)):=
 λ (b,c)=>some (ak.next (b,wI (a - 1),c))
def L6(h:Int):Bool×Int×bH->Option (ak (Bool×Int×bH) (Bool×bH)):=
 λ (b,d,a)=>cond (d>=0) (ab (b_ a.length d) λc=>ab (a[c]?) λi=>cond (i.L !=h) (zL d (b,a))<|ab (gO (!b) (a[c]?)) λe=>ab (gO (!b&&e.bP) (a[c]?)) λf=>ab (gO (!b&&(e.bP&&f.dC)) (a[c]?)) λg=>ab (a[c]?) λj=>ab (a[c]?) λk=>zL d (b||e.bP&&f.dC&& !g.cH,a.set c {k with cH:=j.cH||(b||e.bP&&f.dC&& !g.cH)}))<|some (ak.aT (b,a))
def He(d:J)(a:Int):ns->wP:=
 λ (e,f,g,h,b)=>ab (kv d) λi=>cond (a<0||a>=i.1) none<|ab (bf (L6 a) aP (false,wI (b.length - 1),b)) λc=>cond (!c.1) none<|some (K.mk e f g h c.2,0)
def Cp(b:J)(c:K)(d:Int):wP:=
 ab (oh b c) λe=>cond (e !=0) none<|ab (qF c) λa=>He b d (a.bR,a.Seq,a.ca,a.cg,a.j)
def v7(a:Int):Bool×nr->Option (ak (Bool×Int×nr) (Bool×nr)):=
 λ (b,c,d,e,f,g,h,i)=>some (ak.next (b,wI (a+1),c,d,e,f,g,h,i))
def Oq(t:N)(k:UInt32)(l m n o p:Int)(u:bw):Bool×Int×nr->Option (ak (Bool×Int×nr) (Bool×nr)):=
 λ (q,b,d,e,f,g,h,i,a)=>cond (b<u.length) (ab (b_ a.length b) λv=>ab (a[v]?) λr=>ab (wV (J.mk k l m n o p) r) λw=>cond (w.2 !=0||i !=0) (v7 b (q,d,e,f,g,h,i,a))<|ab (b_ a.length b) λs=>cond (!t.X.cn) (ab (Cp (J.mk k l m n o p) (K.mk d e f g h) r.L) λc=>v7 b (true,c.1.bR,c.1.Seq,c.1.ca,c.1.cg,c.1.j,c.2,a.set s w.1))<|v7 b (true,d,e,f,g,h,i,a.set s w.1))<|some (ak.aT (q,d,e,f,g,h,i,a))
def BH:yq->bD:=
 λ (a,b,c,d,e,f,g,h,i,j,k,l,m,n)=>some (N.mk a b c d (K.mk e f g h i) j k l,m,n)
def Ay(c:UInt32)(d e f g h:Int)(i:Bool)(j:UInt32)(k:Int)(l:Bool)(m n:Int)(o p:Bool)(q:bn)(r:Int)(s:Bool)(a:Bool×nr):gw->bD:=
 λ (t,b)=>cond (b !=0) (BH (J.mk 0 0 0 0 0 0,false,X.mk 0 0 false 0 0 false false,[],0,0,0,0,[],[],0,false,[],b))<|BH (J.mk c d e f g h,i,X.mk j k l m n o p,a.2.2.2.2.2.2.2,a.2.1,a.2.2.1,a.2.2.2.1,a.2.2.2.2.1,a.2.2.2.2.2.1,q,r,s,t,0)
def G9(a:UInt32)(b c d e f:Int)(g:Bool)(h:UInt32)(i:Int)(j:Bool)(k l:Int)(m n:Bool)(o:bn)(p:Int)(q:Bool)(r:Bool×nr)(s:Int):cY->bD:=
 λt=>Ay a b c d e f g h i j k l m n o p q r (t,s)
def Iv(a:UInt32)(b c d e f:Int)(g:Bool)(h:UInt32)(i:Int)(j:Bool)(k l:Int)(m n:Bool)(o:bn)(p:Int)(q:Bool)(r:Bool×nr):fR->bD:=
 λ (t,s)=>cond t (ab (yy (J.mk a b c d e f)) λu=>ab (app ([]:List cd) u.1) λv=>G9 a b c d e f g h i j k l m n o p q r s v)<|Ay a b c d e f g h i j k l m n o p q r ([],s)
def Df(b:UInt32)(c d e f g:Int)(h:Bool)(i:UInt32)(j:Int)(k:Bool)(l m:Int)(n o:Bool)(p:bn)(q:Int)(r:Bool)(s:Bool×nr):Int->bD:=
 λa=>Iv b c d e f g h i j k l m n o p q r s (a==0,a)
def JW(t:N):n7->bD:=
 λ (b,c,d,e,f,g,h,i,j,k,l,m,n,o,p,u,v,w,x,y,q,r,s,z)=>ab (bf (Oq t b c d e f g p) aP (false,0,u,v,w,x,y,z,p)) λa=>cond (a.2.2.2.2.2.2.1==0&& !a.1) (Df b c d e f g h i j k l m n o q r s a 6)<|Df b c d e f g h i j k l m n o q r s a a.2.2.2.2.2.2.1
def Au(b:N):bD:=
 ab (ku b) λa=>ab (jU b) λc=>cond (c==0&&b.X.cO) none<|JW b (a.J.Id,a.J.aw,a.J.bz,a.J.bb,a.J.K,a.J.aE,a.ee,a.X.cZ,a.X.bZ,a.X.dt,a.X.Pos,a.X.cN,a.X.cn,a.X.cO,a.aE,a.K.bR,a.K.Seq,a.K.ca,a.K.cg,a.K.j,a.du,a.Next,a.eU,c)
def ND(d:J):Int×Int×bH->Option (ak (Int×Int×bH) (Int×Int×bH)):=
 λ (b,c,a)=>ab (gO (decide ((a.length:Int)>0)) (idx a 0)) λe=>cond ((a.length:Int)>0&&e.cH) (ab (idx a 0) λf=>ab (oo d.K b f.aJ) λg=>ab (idx a 0) λh=>ab (fy a 1 a.length) λi=>some (ak.next (g.1,wI (c - h.aJ),i)))<|some (ak.aT (b,c,a))
def A8(b:J)(c e:UInt32)(a:Int×Int×bH):UInt32->td:=
 λf=>ab (rM (fT.mk b.Id c f a.1)) λd=>cond (d.2 !=0) none<|ab (rI a.2.2) λg=>some (K.mk c e a.1 a.2.1 g,[cd.mk b.aw 2 0 d.1],0)
def Jw(b:J)(e:K):ns->td:=
 λ (d,c,f,g,h)=>ab (bf (ND b) aP (f,g,h)) λa=>cond ((a.2.2.length:Int)==(e.j.length:Int)) none<|cond ((a.2.2.length:Int)>0) (ab (idx a.2.2 0) λi=>A8 b d c a i.Seq)<|A8 b d c a c
def Dk(c:J)(b:K):td:=
 ab (oh c b) λd=>cond (d !=0) none<|ab (qF b) λa=>Jw c b (a.bR,a.Seq,a.ca,a.cg,a.j)
def z6:yq->bD:=
 λ (a,b,c,d,e,f,g,h,i,j,k,l,m,n)=>some (N.mk a b c d (K.mk e f g h i) j k l,m,n)
def D8(b:UInt32)(c d e f g:Int)(h:Bool)(i:UInt32)(j:Int)(k:Bool)(l m:Int)(n o:Bool)(p:bw)(q:bn)(r:Int)(s:Bool):Fp->bD:=
 λ (t,u,v,w,x,y,a)=>cond (a !=0) (z6 (J.mk 0 0 0 0 0 0,false,X.mk 0 0 false 0 0 false false,[],0,0,0,0,[],[],0,false,[],a))<|z6 (J.mk b c d e f g,h,X.mk i j k l m n o,p,t,u,v,w,x,q,r,s,y,0)
def E6(b:UInt32)(c d e f g:Int)(h:Bool)(i:UInt32)(w:Int)(k:Bool)(l m:Int)(n o:Bool)(p:bw)(q:bn)(r:Int)(s:Bool)(a:K×gw)(t:Int):cY->bD:=
 λu=>D8 b c d e f g h i w k l m n o p q r s (a.1.bR,a.1.Seq,a.1.ca,a.1.cg,a.1.j,u,t)
def G7(b:UInt32)(c d e f g:Int)(h:Bool)(i:UInt32)(j:Int)(k:Bool)(l m:Int)(n o:Bool)(p:bw)(q:bn)(r:Int)(s:Bool)(a:K×gw):fR->bD:=
 λ (v,t)=>ab (app ([]:List cd) a.2.1) λu=>E6 b c d e f g h i j k l m n o p q r s a t u
def BG(b:UInt32)(c d e f g:Int)(h:Bool)(i:UInt32)(j:Int)(k:Bool)(l m:Int)(n o:Bool)(p:bw)(q:bn)(r:Int)(s:Bool)(t:K×gw):Int->bD:=
 λa=>G7 b c d e f g h i j k l m n o p q r s t (a==0,a)
def GM(a:UInt32)(b c d e f:Int)(h:Bool)(i:UInt32)(j:Int)(k:Bool)(l m:Int)(n o:Bool)(p:bw)(u v:UInt32)(w x:Int)(y:bH)(q:bn)(r:Int)(s:Bool):fR->bD:=
 λ (z,t)=>cond z (ab (Dk (J.mk a b c d e f) (K.mk u v w x y)) λg=>cond (t==0&& !g.2.2==0) (BG a b c d e f h i j k l m n o p q r s g g.2.2)<|BG a b c d e f h i j k l m n o p q r s g t)<|D8 a b c d e f h i j k l m n o p q r s (u,v,w,x,y,[],t)
def BD(b:UInt32)(c d e f g:Int)(h:Bool)(i:UInt32)(j:Int)(k:Bool)(l m:Int)(n o:Bool)(p:bw)(q r:UInt32)(s t:Int)(u:bH)(v:bn)(w:Int)(x:Bool):Int->bD:=
 λa=>GM b c d e f g h i j k l m n o p q r s t u v w x (a==0,a)
def HT(y:N):n7->bD:=
 λ (a,b,c,d,e,f,g,h,i,j,k,l,m,n,o,p,q,r,s,t,u,v,w,x)=>cond (x==0&& !!y.X.cn) (BD a b c d e f g h i j k l m n o p q r s t u v w 6)<|BD a b c d e f g h i j k l m n o p q r s t u v w x
def Bw(b:N):bD:=
 ab (ku b) λa=>ab (jU b) λc=>cond (c==0&&b.X.cO) none<|HT b (a.J.Id,a.J.aw,a.J.bz,a.J.bb,a.J.K,a.J.aE,a.ee,a.X.cZ,a.X.bZ,a.X.dt,a.X.Pos,a.X.cN,a.X.cn,a.X.cO,a.aE,a.K.bR,a.K.Seq,a.K.ca,a.K.cg,a.K.j,a.du,a.Next,a.eU,c)
def O_(b:au)(c:N)(d:cu):bD:=
 ab (Mt c d b.dR b.Block) λa=>some (a.1,a.2.1,a.2.2)
def pr(a:au)(b:N)(f:cu):bD:=
 cond (a.bG==2) (ab (A2 b f a.L) λe=>some (e.1,[],e.2))<|cond (a.bG==5) (ab (D' b a.L) λc=>some (c.1,c.2.1,c.2.2))<|ab (ud b a.L) λd=>some (d.1,d.2.1,d.2.2)
def pQ(e:au)(a:N)(f:cu):bD:=
 cond (e.bG==4) (ab (zV a) λb=>some (b.1,b.2.1,b.2.2))<|cond (e.bG==6) (ab (Au a) λc=>some (c.1,c.2.1,c.2.2))<|ab (Bw a) λd=>some (d.1,d.2.1,d.2.2)
def HF(m:oy)(j:N)(a:cu):bD:=
 match m.i with
 |0=>O_ m.x j a
 |1=>pr m.x j a
 |2=>pQ m.x j a
 |_=>none
def HG(a:Int):bn×bn->xY:=
 λ (b,c)=>some (ak.next (b,c,wI (a+1)))
def Ul(e:bn)(f:dq×Bool->bE):bn×mZ->xY:=
 λ (a,b,c)=>cond (c<e.length) (ab (idx e c) λd=>ab (f (d,wI ((b.length:Int)+(a.length:Int))==0)) λg=>cond g (ab (app a [d]) λh=>HG c (h,b))<|ab (app b [d]) λi=>HG c (a,i))<|some (ak.aT (a,b))
def Sn(b:bn)(c:dq×Bool->bE):Option (bn×bn):=
 ab (bf (Ul b c) aP ([],[],0)) λa=>some (a.1,a.2)
def Pq(a:j)(b:UInt32)(c:Bool):bE:=
 some (!a.dC&&((a.Seq.toNat:Int)==(b.toNat:Int)||c&&(a.Seq.toNat:Int)<(b.toNat:Int)))
def OV(a:oG)(b:UInt32)(c:Bool):bE:=
 ab (yC a.g.j λd=>Pq d b c) λe=>some (!e)
def L3(a b:Int)(c:cq):Unit->mQ:=
 λ_=>some (ak.next (wI (a+c.length),wI (b+1)))
def To(c:bV):ea->mQ:=
 λ (a,b)=>cond (b<c.length) (ab (idx c b) λd=>cond (d.length>wI (9223372036854775807 - a)) none<|L3 a b d ())<|some (ak.aT a)
def Gk(a:bV):Int->oH:=
 λb=>ab (bf (To a) aP (b,0)) λc=>none
def NQ(a:bV)(b:cq):Unit->oH:=
 λ_=>Gk a (wI (0+wI (b.length * wI (a.length - 1))))
def MM(a:bV)(b:cq):oH:=
 cond ((a.length:Int)==0) (some [])<|cond ((a.length:Int)==1) (ab (idx a 0) λc=>ab (app ([]:List UInt8) c) λd=>some d)<|cond ((b.length:Int)>0) (ab (oK (9223372036854775807:Int) (wI ((a.length:Int) - 1))) λe=>cond ((b.length:Int)>=e) none<|NQ a b ())<|Gk a 0
def K3(c:bn):gF×Int->Option (ak (gF×Int) gF):=
 λ (d,a)=>cond (a<c.length) (ab (idx c a) λb=>ab (MM b.bO []) λe=>ab (app d [kQ.mk b.dR 0 e b.aZ.eZ]) λf=>some (ak.next (f,wI (a+1))))<|some (ak.aT d)
def F7:bn×bn->Option (bn×gF×Int):=
 λ (a,b)=>ab (bf (K3 a) aP ([],0)) λc=>ab (mO b) λd=>some (d,c,0)
def F8(a:Int):bn×bn->xY:=
 λ (b,c)=>some (ak.next (b,c,wI (a+1)))
def IM(a b:bn)(c:Int)(d:dq):Bool->xY:=
 λe=>cond e (ab (app a [d]) λf=>F8 c (f,b))<|ab (app b [d]) λg=>F8 c (a,g)
def We(e:K)(c f:Bool)(a:dq):Int->pJ:=
 λd=>cond (d<a.fY.length) (ab (idx a.fY d) λb=>ab (gO (b !=3&& !b !=2&& !(c&&a.aZ.bG !=3)) (idx a.iU d)) λg=>ab (gO (b !=3&& !b !=2&& !(c&&a.aZ.bG !=3)) (OV (oG.mk e c f) g false)) λh=>cond (b !=3&&(b !=2|| !(c&&a.aZ.bG !=3)&& !h)) (some (ak.aT (Sum.inl ())))<|some (ak.next (wI (d+1))))<|some (ak.aT (Sum.inr ()))
def N8(e:bn)(f:K)(g h:Bool):bn×mZ->xY:=
 λ (c,d,b)=>cond (b<e.length) (ab (idx e b) λa=>cond (a.aZ.bG==4) none<|cond (a.aZ.bG==6) none<|ab (bf (We f g h a) aP 0) λi=>Sum.elim (λj=>IM c d b a false) (λk=>IM c d b a true) i)<|some (ak.aT (c,d))
def JY(a:J)(b:bn)(c:K)(e f:Bool):Option (bn×gF×Int):=
 ab (oi a b) λg=>cond (g !=0) none<|ab (oh a c) λh=>cond (h !=0) none<|ab (bf (N8 b c e f) aP ([],[],0)) λd=>F7 (d.1,d.2)
def Nl(a:N):gF×bn->Option (ak (gF×bn) (gF×bn)):=
 λ (c,d)=>ab (JY a.J d a.K a.ee a.X.cn) λb=>cond (b.2.2 !=0||(b.2.1.length:Int)==0) (some (ak.aT (c,d)))<|ab (app c b.2.1) λe=>some (ak.next (e,b.1))
def xQ(a:N):Option (N×gF):=
 ab (bf (Nl a) aP ([],a.du)) λb=>some (N.mk a.J a.ee a.X a.aE a.K b.2 a.Next a.eU,b.1)
def Bk(a:N)(f:cu)(g:au):Bool->Fi:=
 λh=>cond h none<|cond a.X.cO none<|ab (v5 a) λc=>ab (Ec c λi=>vN i g) λd=>cond (d<0) none<|ab (idx c d) λj=>ab (HF j a f) λb=>cond (b.2.2 !=0) none<|ab (xQ b.1) λe=>some (e.1,b.2.1,e.2,0)
def uJ(a:N)(b:cu)(c:au):Fi:=
 ab (jU a) λd=>cond (d !=0) (Bk a b c (d !=0))<|ab (nO a.J b) λe=>Bk a b c (e !=0)
def JT(a:N)(c:cu):dv:=
 ab (jU a) λb=>ab (gO (!b !=0) (nO a.J c)) λd=>cond (b !=0||d !=0) none<|cond a.X.cO none<|some 0
def EF(b:J)(a:X):s_:=
 ab (oq b a) λc=>cond (c !=0) none<|ab (kv b) λd=>cond (!a.dt||a.Pos==d.1) none<|some (X.mk a.cZ a.bZ a.dt (wI (a.Pos+1)) a.cN a.cn a.cO,0)
def Dg(a:X):Int×Bool×ea->s_:=
 λ (b,c,d,e)=>some (X.mk a.cZ b c d e a.cn a.cO,0)
def I7(a:X):Unit->s_:=
 λ_=>Dg a (-1,false,0,0)
def BY(b:J)(a:X):s_:=
 ab (oq b a) λc=>cond (c !=0) none<|cond (!a.dt||a.cN==a.Pos) none<|ab (kv b) λd=>cond (a.Pos==d.1) (I7 a ())<|Dg a (a.bZ,a.dt,a.Pos,a.Pos)
def CQ(c:g6)(b:Int):bD:=
 ab (ku c.d) λa=>ab (wZ a.J b a.X.bZ) λf=>ab (vX a.J c.B5 a.X.bZ b f.1) λe=>cond (e.2 !=0) none<|ab (EF a.J a.X) λg=>some (N.mk a.J a.ee g.1 a.aE a.K a.du a.Next a.eU,[cd.mk a.X.bZ 1 (wI (b+1)) e.1],0)
def Bf(c:g6)(g:Int):bD:=
 ab (ku c.d) λa=>ab (BY a.J a.X) λe=>ab (t_ a.J e.1 true) λb=>cond (b.2.2 !=0) (some (N.mk (J.mk 0 0 0 0 0 0) false (X.mk 0 0 false 0 0 false false) [] (K.mk 0 0 0 0 []) [] 0 false,[],b.2.2))<|ab (app [cd.mk a.X.bZ 3 0 []] b.2.1) λf=>some (N.mk a.J a.ee b.1 a.aE a.K a.du a.Next a.eU,f,0)
def FE(m:kM [146,147] g6)(a:Int):bD:=
 match m.i with
 |1=>CQ m.x a
 |2=>Bf m.x a
 |_=>none
def QL(c:au)(d:r9):Int->Option (ak Int (cY×Int×UInt32×Int×Int×Int×Int×Int×Bool×UInt32×Int×Bool×Int×Int×Bool×Bool×bw×UInt32×UInt32×Int×Int×bH×bn×Int×Bool⊕Unit)):=
 λb=>cond (b<d.length) (ab (idx d b) λe=>cond (e.au=c) (ab (FE e.tf c.L) λa=>some (ak.aT (Sum.inl (a.2.1,a.2.2,a.1.J.Id,a.1.J.aw,a.1.J.bz,a.1.J.bb,a.1.J.K,a.1.J.aE,a.1.ee,a.1.X.cZ,a.1.X.bZ,a.1.X.dt,a.1.X.Pos,a.1.X.cN,a.1.X.cn,a.1.X.cO,a.1.aE,a.1.K.bR,a.1.K.Seq,a.1.K.ca,a.1.K.cg,a.1.K.j,a.1.du,a.1.Next,a.1.eU))))<|some (ak.next (wI (b+1))))<|some (ak.aT (Sum.inr ()))
def uA(b:N)(c:cu)(d:au):bD:=
 ab (JT b c) λe=>cond (e !=0) none<|ab (ni (g6.mk b c)) λf=>ab (bf (QL d f) aP 0) λg=>Sum.elim (λa=>some (N.mk (J.mk a.2.2.1 a.2.2.2.1 a.2.2.2.2.1 a.2.2.2.2.2.1 a.2.2.2.2.2.2.1 a.2.2.2.2.2.2.2.1) a.2.2.2.2.2.2.2.2.1 (X.mk a.2.2.2.2.2.2.2.2.2.1 a.2.2.2.2.2.2.2.2.2.2.1 a.2.2.2.2.2.2.2.2.2.2.2.1 a.2.2.2.2.2.2.2.2.2.2.2.2.1 a.2.2.2.2.2.2.2.2.2.2.2.2.2.1 a.2.2.2.2.2.2.2.2.2.2.2.2.2.2.1 a.2.2.2.2.2.2.2.2.2.2.2.2.2.2.2.1) a.2.2.2.2.2.2.2.2.2.2.2.2.2.2.2.2.1 (K.mk a.2.2.2.2.2.2.2.2.2.2.2.2.2.2.2.2.2.1 a.2.2.2.2.2.2.2.2.2.2.2.2.2.2.2.2.2.2.1 a.2.2.2.2.2.2.2.2.2.2.2.2.2.2.2.2.2.2.2.1 a.2.2.2.2.2.2.2.2.2.2.2.2.2.2.2.2.2.2.2.2.1 a.2.2.2.2.2.2.2.2.2.2.2.2.2.2.2.2.2.2.2.2.2.1) a.2.2.2.2.2.2.2.2.2.2.2.2.2.2.2.2.2.2.2.2.2.2.1 a.2.2.2.2.2.2.2.2.2.2.2.2.2.2.2.2.2.2.2.2.2.2.2.1 a.2.2.2.2.2.2.2.2.2.2.2.2.2.2.2.2.2.2.2.2.2.2.2.2,a.1,a.2.1)) (λh=>none) g
def TO(a:World)(c:au):Fi:=
 cond ((c.bG.toNat:Int)<((8:UInt8).toNat:Int)) (ab (uJ a.World.N a.World.f_ c) λb=>some (b.1,b.2.1,b.2.2.1,b.2.2.2))<|ab (uA a.World.N a.World.f_ c) λd=>some (d.1,d.2.1,[],d.2.2)
def MS(a:bn):Option bn:=
 ab (fy a 0 a.length) λb=>some b
def QU(e:J)(a:bn)(b:Int)(d:aZ)(n:UInt32):Option mZ:=
 ab (oi e a) λf=>cond (f !=0) none<|ab (Hz e d) λc=>cond (c.2 !=0) none<|ab (gO (!(b<1)&&(a.length:Int)>0) (idx a (wI ((a.length:Int) - 1)))) λg=>cond (b<1||(a.length:Int)>0&&b<=g.dR) none<|cond ((a.length:Int)==8) none<|ab (lW (0:UInt8) (c.1.length:Int)) λh=>ab (lW (0:UInt32) (c.1.length:Int)) λi=>ab (lW ([]:List UInt8) (c.1.length:Int)) λj=>cond (d.bG==4) none<|ab (MS a) λk=>ab (yV k [dq.mk b d h i j]) λl=>ab (mO l) λm=>some (m,0)
def Qa(a:N)(c:aZ):Option (N×Int×gF×Int):=
 ab (jU a) λf=>cond (f !=0) none<|cond a.X.cO none<|ab (Jm a.J c) λg=>cond (g !=0) none<|cond (a.Next==2147483648||(a.du.length:Int)==8) none<|ab (ku a) λb=>ab (QU a.J a.du a.Next c (dP.of ((a.K.Seq.toNat:Int) - ((1:UInt32).toNat:Int)))) λd=>cond (d.2 !=0) none<|ab (xQ (N.mk b.J b.ee b.X b.aE b.K d.1 (wI (b.Next+1)) b.eU)) λe=>some (e.1,a.Next,e.2,0)
def wJ:Int×vQ->oU:=
 λ (a,b,c,d,e,f,g,h,i,j,k,l,m,n,o,p,q,r,s,t,u,v,w,x,y,z)=>cond (a !=0) (some (eQ.mk (N.mk (J.mk 0 0 0 0 0 0) false (X.mk 0 0 false 0 0 false false) [] (K.mk 0 0 0 0 []) [] 0 false) [] false,[],a))<|some (eQ.mk (N.mk (J.mk b c d e f g) h (X.mk i j k l m n o) p (K.mk q r s t u) v w x) y z,[],0)
def HD(a:qY):Int×cu->oU:=
 λ (b,c)=>wJ (b,a.1.J.Id,a.1.J.aw,a.1.J.bz,a.1.J.bb,a.1.J.K,a.1.J.aE,a.1.ee,a.1.X.cZ,a.1.X.bZ,a.1.X.dt,a.1.X.Pos,a.1.X.cN,a.1.X.cn,a.1.X.cO,a.1.aE,a.1.K.bR,a.1.K.Seq,a.1.K.ca,a.1.K.cg,a.1.K.j,a.1.du,a.1.Next,a.1.eU,c,true)
def GB(a:qY):Int×cu->oU:=
 λ (b,c)=>HD a (b,c)
def AS(a:qY)(b:lV):cu->oU:=
 λc=>GB a (b.2,c)
def v8(b:eQ):Int×u0->oU:=
 λ (a,c,d,e,f,g,h,i,j,k,l,m,n,o,p,q,r,s,t,u,v,w,x,y,z,A)=>cond (a !=0) (some (eQ.mk (N.mk (J.mk 0 0 0 0 0 0) false (X.mk 0 0 false 0 0 false false) [] (K.mk 0 0 0 0 []) [] 0 false) [] false,[],a))<|some (eQ.mk (N.mk (J.mk c d e f g h) i (X.mk j k l m n o p) q (K.mk r s t u v) w x y) z b.Up,A,0)
def oQ(A:Int):Int×u0->ub:=
 λ (a,b,c,d,e,f,g,h,i,j,k,l,m,n,o,p,q,r,s,t,u,v,w,x,y,z)=>cond (a==0) (some (ak.next (wI (A+1),b,c,d,e,f,g,h,i,j,k,l,m,n,o,p,q,r,s,t,u,v,w,x,y,z)))<|cond (a==6) (some (ak.aT (Sum.inl (0,b,c,d,e,f,g,h,i,j,k,l,m,n,o,p,q,r,s,t,u,v,w,x,y,z))))<|some (ak.aT (Sum.inl (a,b,c,d,e,f,g,h,i,j,k,l,m,n,o,p,q,r,s,t,u,v,w,x,y,z)))
def Jc(c:Int)(g:UInt32)(h i j k l:Int)(m:Bool)(n:UInt32)(o:Int)(p:Bool)(q r:Int)(s t:Bool)(u:bw)(v w:UInt32)(x y:Int)(z:bH)(A:bn)(B:Int)(C:Bool)(d:gF)(b:J)(D:Bool)(a:X)(S:bw)(F G:UInt32)(H I:Int)(Q:bH)(E:bn)(L:Int)(U:Bool)(N:gF):Int×cu->ub:=
 λ (e,f)=>cond (e !=0) (oQ c (e,g,h,i,j,k,l,m,n,o,p,q,r,s,t,u,v,w,x,y,z,A,B,C,f,d))<|ab (app d N) λO=>oQ c (0,b.Id,b.aw,b.bz,b.bb,b.K,b.aE,D,a.cZ,a.bZ,a.dt,a.Pos,a.cN,a.cn,a.cO,S,F,G,H,I,Q,E,L,U,f,O)
def Hw(a:Int)(b:UInt32)(c d e f g:Int)(h:Bool)(i:UInt32)(K:Int)(k:Bool)(l m:Int)(n o:Bool)(p:bw)(q r:UInt32)(s t:Int)(u:bH)(v:bn)(w:Int)(x:Bool)(y:gF)(z:J)(A:Bool)(B:X)(C:bw)(D E:UInt32)(F G:Int)(S:bH)(I:bn)(O:Int)(j:Bool)(L:gF):Int×cu->ub:=
 λ (Q,N)=>Jc a b c d e f g h i K k l m n o p q r s t u v w x y z A B C D E F G S I O j L (Q,N)
def AN(a:Int)(b:UInt32)(c d e f g:Int)(h:Bool)(i:UInt32)(K:Int)(k:Bool)(l m:Int)(n o:Bool)(p:bw)(q r:UInt32)(s t:Int)(u:bH)(v:bn)(w:Int)(x:Bool)(y:gF)(z:J)(A:Bool)(B:X)(C:bw)(D E:UInt32)(F G:Int)(S:bH)(I:bn)(O:Int)(j:Bool)(L:gF)(Q:lV):cu->ub:=
 λN=>Hw a b c d e f g h i K k l m n o p q r s t u v w x y z A B C D E F G S I O j L (Q.2,N)
def x'(b:Int)(c:UInt32)(d e f g h:Int)(i:Bool)(j:UInt32)(k:Int)(l:Bool)(m n:Int)(o p:Bool)(q:bw)(r s:UInt32)(t u:Int)(v:bH)(w:bn)(x:Int)(y:Bool)(z:cu)(A:gF):J×Bool×X×bw×UInt32×UInt32×Int×Int×bH×bn×Int×Bool×cY×gF×Int->ub:=
 λ (C,D,E,F,G,U,K,Q,I,L,S,N,B,O,P)=>cond (P !=0) (oQ b (P,c,d,e,f,g,h,i,j,k,l,m,n,o,p,q,r,s,t,u,v,w,x,y,z,A))<|ab (sW z B (min (B.length:Int) (B.length:Int))) λa=>cond (a.2==0) (AN b c d e f g h i j k l m n o p q r s t u v w x y A C D E F G U K Q I L S N O a a.1)<|AN b c d e f g h i j k l m n o p q r s t u v w x y A C D E F G U K Q I L S N O a z
def Hc(G:iA)(O:eQ):Int×u0->ub:=
 λ (C,c,d,e,f,g,h,i,E,k,l,m,n,o,p,q,r,s,t,u,v,w,x,y,z,D)=>cond (C<G.B) (ab (tv (World.mk (eQ.mk (N.mk (J.mk c d e f g h) i (X.mk E k l m n o p) q (K.mk r s t u v) w x y) z O.Up) D)) λI=>cond ((I.length:Int)==0) (oQ C (6,c,d,e,f,g,h,i,E,k,l,m,n,o,p,q,r,s,t,u,v,w,x,y,z,D))<|ab (mI (wI (G.A * wI (C+1))) (I.length:Int)) λL=>ab (idx I L) λF=>cond ((F.bG.toNat:Int)<((8:UInt8).toNat:Int)) (ab (uJ (N.mk (J.mk c d e f g h) i (X.mk E k l m n o p) q (K.mk r s t u v) w x y) z F) λa=>x' C c d e f g h i E k l m n o p q r s t u v w x y z D (a.1.J,a.1.ee,a.1.X,a.1.aE,a.1.K.bR,a.1.K.Seq,a.1.K.ca,a.1.K.cg,a.1.K.j,a.1.du,a.1.Next,a.1.eU,a.2.1,a.2.2.1,a.2.2.2))<|ab (uA (N.mk (J.mk c d e f g h) i (X.mk E k l m n o p) q (K.mk r s t u v) w x y) z F) λb=>x' C c d e f g h i E k l m n o p q r s t u v w x y z D (b.1.J,b.1.ee,b.1.X,b.1.aE,b.1.K.bR,b.1.K.Seq,b.1.K.ca,b.1.K.cg,b.1.K.j,b.1.du,b.1.Next,b.1.eU,b.2.1,[],b.2.2))<|some (ak.aT (Sum.inr (c,d,e,f,g,h,i,E,k,l,m,n,o,p,q,r,s,t,u,v,w,x,y,z,D)))
def PN(a:eQ):Ng->oU:=
 λ (b,c,d,e,f,g,h,i,j,k,l,m,n,o,p,q,r,s,t,u,v,w,x,y,z)=>cond (b !=0) (some (eQ.mk (N.mk (J.mk 0 0 0 0 0 0) false (X.mk 0 0 false 0 0 false false) [] (K.mk 0 0 0 0 []) [] 0 false) [] false,[],b))<|some (eQ.mk (N.mk (J.mk c d e f g h) i (X.mk j k l m n o p) q (K.mk r s t u v) w x y) a.f_ a.Up,z,0)
def Jz(a:eQ):Ng->oU:=
 λ (b,c,d,e,f,g,h,i,j,k,l,m,n,o,p,q,r,s,t,u,v,w,x,y,z)=>PN a (b,c,d,e,f,g,h,i,j,k,l,m,n,o,p,q,r,s,t,u,v,w,x,y,z)
def qs(f:eQ)(d:iA):oU:=
 ab (qE f) λo=>cond (o !=0) (some (eQ.mk (N.mk (J.mk 0 0 0 0 0 0) false (X.mk 0 0 false 0 0 false false) [] (K.mk 0 0 0 0 []) [] 0 false) [] false,[],o))<|ab (DT d.bG) λg=>cond (jl [29,30,31,32,33,34,35,36,37,38,39] g.i).isNone none<|ab (gO (!f.Up) (PB d.bG)) λk=>cond (!f.Up&& !k) none<|ab (Ca f) λa=>cond (ct g.i 1) (ab (Qa a.N d.aZ) λb=>cond (b.2.2.2==0) (Jz a (b.2.2.2,b.1.J.Id,b.1.J.aw,b.1.J.bz,b.1.J.bb,b.1.J.K,b.1.J.aE,b.1.ee,b.1.X.cZ,b.1.X.bZ,b.1.X.dt,b.1.X.Pos,b.1.X.cN,b.1.X.cn,b.1.X.cO,b.1.aE,b.1.K.bR,b.1.K.Seq,b.1.K.ca,b.1.K.cg,b.1.K.j,b.1.du,b.1.Next,b.1.eU,b.2.2.1))<|Jz a (b.2.2.2,a.N.J.Id,a.N.J.aw,a.N.J.bz,a.N.J.bb,a.N.J.K,a.N.J.aE,a.N.ee,a.N.X.cZ,a.N.X.bZ,a.N.X.dt,a.N.X.Pos,a.N.X.cN,a.N.X.cn,a.N.X.cO,a.N.aE,a.N.K.bR,a.N.K.Seq,a.N.K.ca,a.N.K.cg,a.N.K.j,a.N.du,a.N.Next,a.N.eU,b.2.2.1))<|cond (ct g.i 3) (ab (GX (World.mk a []) (d.A>=0&&d.A<=4096&&d.B>=0&&d.B<=4096) 2) λl=>cond (l !=0) none<|ab (bf (Hc d a) aP (0,a.N.J.Id,a.N.J.aw,a.N.J.bz,a.N.J.bb,a.N.J.K,a.N.J.aE,a.N.ee,a.N.X.cZ,a.N.X.bZ,a.N.X.dt,a.N.X.Pos,a.N.X.cN,a.N.X.cn,a.N.X.cO,a.N.aE,a.N.K.bR,a.N.K.Seq,a.N.K.ca,a.N.K.cg,a.N.K.j,a.N.du,a.N.Next,a.N.eU,a.f_,[])) λm=>Sum.elim (λc=>v8 a (c.1,c.2.1,c.2.2.1,c.2.2.2.1,c.2.2.2.2.1,c.2.2.2.2.2.1,c.2.2.2.2.2.2.1,c.2.2.2.2.2.2.2.1,c.2.2.2.2.2.2.2.2.1,c.2.2.2.2.2.2.2.2.2.1,c.2.2.2.2.2.2.2.2.2.2.1,c.2.2.2.2.2.2.2.2.2.2.2.1,c.2.2.2.2.2.2.2.2.2.2.2.2.1,c.2.2.2.2.2.2.2.2.2.2.2.2.2.1,c.2.2.2.2.2.2.2.2.2.2.2.2.2.2.1,c.2.2.2.2.2.2.2.2.2.2.2.2.2.2.2.1,c.2.2.2.2.2.2.2.2.2.2.2.2.2.2.2.2.1,c.2.2.2.2.2.2.2.2.2.2.2.2.2.2.2.2.2.1,c.2.2.2.2.2.2.2.2.2.2.2.2.2.2.2.2.2.2.1,c.2.2.2.2.2.2.2.2.2.2.2.2.2.2.2.2.2.2.2.1,c.2.2.2.2.2.2.2.2.2.2.2.2.2.2.2.2.2.2.2.2.1,c.2.2.2.2.2.2.2.2.2.2.2.2.2.2.2.2.2.2.2.2.2.1,c.2.2.2.2.2.2.2.2.2.2.2.2.2.2.2.2.2.2.2.2.2.2.1,c.2.2.2.2.2.2.2.2.2.2.2.2.2.2.2.2.2.2.2.2.2.2.2.1,c.2.2.2.2.2.2.2.2.2.2.2.2.2.2.2.2.2.2.2.2.2.2.2.2.1,c.2.2.2.2.2.2.2.2.2.2.2.2.2.2.2.2.2.2.2.2.2.2.2.2.2)) (λn=>none) m)<|cond (ct g.i 5) (cond a.Up none<|ab (CI (World.mk a [])) λe=>cond (e.2.2 !=0) (wJ (e.2.2,a.N.J.Id,a.N.J.aw,a.N.J.bz,a.N.J.bb,a.N.J.K,a.N.J.aE,a.N.ee,a.N.X.cZ,a.N.X.bZ,a.N.X.dt,a.N.X.Pos,a.N.X.cN,a.N.X.cn,a.N.X.cO,a.N.aE,a.N.K.bR,a.N.K.Seq,a.N.K.ca,a.N.K.cg,a.N.K.j,a.N.du,a.N.Next,a.N.eU,a.f_,a.Up))<|ab (sW a.f_ e.2.1 (min (e.2.1.length:Int) (e.2.1.length:Int))) λh=>cond (h.2==0) (AS e h h.1)<|AS e h a.f_) none
def Uj(c:List iA):gF×Int×vQ->Option (ak (gF×Int×vQ) (gF×vQ)):=
 λ (d,b,e,f,g,h,i,E,k,l,m,n,o,p,q,r,s,t,u,v,w,x,y,z,A,B,C)=>cond (b<c.length) (ab (idx c b) λD=>ab (qs (eQ.mk (N.mk (J.mk e f g h i E) k (X.mk l m n o p q r) s (K.mk t u v w x) y z A) B C) D) λa=>cond (a.2.2 !=0) none<|ab (app d a.2.1) λG=>some (ak.next (G,wI (b+1),a.1.N.J.Id,a.1.N.J.aw,a.1.N.J.bz,a.1.N.J.bb,a.1.N.J.K,a.1.N.J.aE,a.1.N.ee,a.1.N.X.cZ,a.1.N.X.bZ,a.1.N.X.dt,a.1.N.X.Pos,a.1.N.X.cN,a.1.N.X.cn,a.1.N.X.cO,a.1.N.aE,a.1.N.K.bR,a.1.N.K.Seq,a.1.N.K.ca,a.1.N.K.cg,a.1.N.K.j,a.1.N.du,a.1.N.Next,a.1.N.eU,a.1.f_,a.1.Up)))<|some (ak.aT (d,e,f,g,h,i,E,k,l,m,n,o,p,q,r,s,t,u,v,w,x,y,z,A,B,C))
def N4(d:J)(e:Bool)(c:List iA):oU:=
 cond ((c.length:Int)>64) none<|ab (Oh d e) λa=>cond (a.2 !=0) none<|ab (bf (Uj c) aP ([],0,a.1.N.J.Id,a.1.N.J.aw,a.1.N.J.bz,a.1.N.J.bb,a.1.N.J.K,a.1.N.J.aE,a.1.N.ee,a.1.N.X.cZ,a.1.N.X.bZ,a.1.N.X.dt,a.1.N.X.Pos,a.1.N.X.cN,a.1.N.X.cn,a.1.N.X.cO,a.1.N.aE,a.1.N.K.bR,a.1.N.K.Seq,a.1.N.K.ca,a.1.N.K.cg,a.1.N.K.j,a.1.N.du,a.1.N.Next,a.1.N.eU,a.1.f_,a.1.Up)) λb=>some (eQ.mk (N.mk (J.mk b.2.1 b.2.2.1 b.2.2.2.1 b.2.2.2.2.1 b.2.2.2.2.2.1 b.2.2.2.2.2.2.1) b.2.2.2.2.2.2.2.1 (X.mk b.2.2.2.2.2.2.2.2.1 b.2.2.2.2.2.2.2.2.2.1 b.2.2.2.2.2.2.2.2.2.2.1 b.2.2.2.2.2.2.2.2.2.2.2.1 b.2.2.2.2.2.2.2.2.2.2.2.2.1 b.2.2.2.2.2.2.2.2.2.2.2.2.2.1 b.2.2.2.2.2.2.2.2.2.2.2.2.2.2.1) b.2.2.2.2.2.2.2.2.2.2.2.2.2.2.2.1 (K.mk b.2.2.2.2.2.2.2.2.2.2.2.2.2.2.2.2.1 b.2.2.2.2.2.2.2.2.2.2.2.2.2.2.2.2.2.1 b.2.2.2.2.2.2.2.2.2.2.2.2.2.2.2.2.2.2.1 b.2.2.2.2.2.2.2.2.2.2.2.2.2.2.2.2.2.2.2.1 b.2.2.2.2.2.2.2.2.2.2.2.2.2.2.2.2.2.2.2.2.1) b.2.2.2.2.2.2.2.2.2.2.2.2.2.2.2.2.2.2.2.2.2.1 b.2.2.2.2.2.2.2.2.2.2.2.2.2.2.2.2.2.2.2.2.2.2.1 b.2.2.2.2.2.2.2.2.2.2.2.2.2.2.2.2.2.2.2.2.2.2.2.1) b.2.2.2.2.2.2.2.2.2.2.2.2.2.2.2.2.2.2.2.2.2.2.2.2.1 b.2.2.2.2.2.2.2.2.2.2.2.2.2.2.2.2.2.2.2.2.2.2.2.2.2,b.1,0)
def KO(a:eQ)(d:Int):iW:=
 ab (qE a) λe=>cond (e !=0) none<|ab (wR a.N.J d) λc=>cond (!a.Up) none<|cond a.N.X.cO none<|cond (c.2 !=0) none<|ab (lY a.N.J a.N.aE c.1.L) λb=>ab (gO (b.2==0) (idx a.N.aE b.1)) λf=>ab (gO (b.2==0) (idx f.aJ c.1.Slot)) λg=>cond (b.2==0&&(g.length:Int)>0) (ab (idx a.N.aE b.1) λh=>ab (idx h.aJ c.1.Slot) λi=>ab (js i) λj=>some (j,0)) none
def Gr:bE:=
 ab (lW (0:UInt8) (128:Int)) λc=>ab (b_ c.length 0) λd=>ab (N4 (J.mk 0 3 1 1 12 2) false [iA.mk 1 (aZ.mk 2 0 1 (c.set d (7:UInt8))) 0 0 false [],iA.mk 3 (aZ.mk 0 0 0 []) 0 20 false []]) λa=>ab (KO a.1 0) λb=>ab (gO (a.2.2==0&&b.2==0&&(a.2.1.length:Int)==1) (idx a.2.1 0)) λe=>ab (gO (a.2.2==0&&b.2==0&&(a.2.1.length:Int)==1&&e.dR==1) (idx a.2.1 0)) λf=>some (a.2.2==0&&b.2==0&&(a.2.1.length:Int)==1&&e.dR==1&&f.Error==0&&(kp.mk b.1).s==(kp.mk (c.set d (7:UInt8))).s)
def Z1(b:aM):ea->mQ:=
 λ (c,a)=>cond (a<b.aJ.length&&a<100) (ab (idx b.aJ a) λd=>some (ak.next (wI (c+wI (8+min (d.length:Int) (100000:Int))),wI (a+1))))<|some (ak.aT c)
def Pr(a:aM):bE:=
 ab (bf (Z1 a) aP (0,0)) λb=>some ((a.aJ.length:Int)>60||(a.a_.length:Int)>60||b>10000)
def Yv(b:bw):Int->pJ:=
 λa=>cond (a<b.length&&a<20) (ab (idx b a) λc=>ab (Pr c) λd=>cond d (some (ak.aT (Sum.inl ())))<|some (ak.next (wI (a+1))))<|some (ak.aT (Sum.inr ()))
def Io(a:bw):bE:=
 ab (bf (Yv a) aP 0) λb=>Sum.elim (λc=>some true) (λd=>some (decide ((a.length:Int)>20))) b
def Hr(a:K):bE:=
 some (decide ((a.j.length:Int)>600))
def Z8(b:bn)(c:Int):Int->pJ:=
 λa=>ab (idx b c) λd=>cond (a<(d.bO.length:Int)) (ab (idx b c) λe=>ab (idx e.bO a) λf=>cond ((f.length:Int)>1000) (some (ak.aT (Sum.inl ())))<|some (ak.next (wI (a+1))))<|some (ak.aT (Sum.inr ()))
def Zl(b:bn):Int->pJ:=
 λa=>cond (a<(b.length:Int)) (ab (idx b a) λc=>ab (gO (!((c.aZ.bO.length:Int)>5000)) (idx b a)) λd=>ab (gO (!((c.aZ.bO.length:Int)>5000||(d.fY.length:Int)>100)) (idx b a)) λe=>ab (gO (!((c.aZ.bO.length:Int)>5000||(d.fY.length:Int)>100||(e.iU.length:Int)>100)) (idx b a)) λf=>cond ((c.aZ.bO.length:Int)>5000||(d.fY.length:Int)>100||(e.iU.length:Int)>100||(f.bO.length:Int)>100) (some (ak.aT (Sum.inl ())))<|ab (bf (Z8 b a) aP 0) λg=>Sum.elim (λh=>some (ak.aT (Sum.inl ()))) (λi=>some (ak.next (wI (a+1)))) g)<|some (ak.aT (Sum.inr ()))
def F4(a:bn):bE:=
 cond ((a.length:Int)>50) (some true)<|ab (bf (Zl a) aP 0) λb=>Sum.elim (λc=>some true) (λd=>some false) b
def O2(b:aU):ea->mQ:=
 λ (c,a)=>cond (a<b.aJ.length&&a<400) (ab (idx b.aJ a) λd=>some (ak.next (wI (c+wI (8+min (d.length:Int) (100000:Int))),wI (a+1))))<|some (ak.aT c)
def K1(b:aU):ea->mQ:=
 λ (c,a)=>cond (a<b.eg.length&&a<1200) (ab (idx b.eg a) λd=>some (ak.next (wI (c+wI (8+min (d.bO.length:Int) (100000:Int))),wI (a+1))))<|some (ak.aT c)
def B'(a:aU):bE:=
 ab (bf (O2 a) aP (0,0)) λb=>ab (bf (K1 a) aP (b,0)) λc=>some ((a.aJ.length:Int)>300||(a.eg.length:Int)>1100||c>60000)
def Mq(b:cu)(c:Int):ea->mQ:=
 λ (d,a)=>ab (idx b c) λe=>cond (a<e.aJ.length) (ab (idx b c) λf=>ab (idx f.aJ a) λg=>some (ak.next (wI (d+wI (8+(g.length:Int))),wI (a+1))))<|some (ak.aT d)
def Lb(b:cu)(c:Int):ea->mQ:=
 λ (d,a)=>ab (idx b c) λe=>cond (a<e.eg.length) (ab (idx b c) λf=>ab (idx f.eg a) λg=>some (ak.next (wI (d+wI (8+(g.bO.length:Int))),wI (a+1))))<|some (ak.aT d)
def NZ(b:cu):ea->Option (ak ea (Unit⊕Unit)):=
 λ (d,a)=>cond (a<b.length&&a<30) (ab (idx b a) λe=>ab (B' e) λf=>cond f (some (ak.aT (Sum.inl ())))<|ab (bf (Mq b a) aP (d,0)) λg=>ab (bf (Lb b a) aP (g,0)) λc=>cond (c>60000) (some (ak.aT (Sum.inl ())))<|some (ak.next (c,wI (a+1))))<|some (ak.aT (Sum.inr ()))
def yr(a:cu):bE:=
 ab (bf (NZ a) aP (0,0)) λb=>Sum.elim (λc=>some true) (λd=>some (decide ((a.length:Int)>30))) b
def G6(b:N)(e:cu):bE:=
 ab (Io b.aE) λa=>ab (gO (!a) (Hr b.K)) λc=>ab (gO (!(a||c)) (F4 b.du)) λd=>ab (gO (!(a||c||d)) (yr e)) λf=>some (a||c||d||f)
def C'(a:eQ):bE:=
 ab (G6 a.N a.f_) λb=>some b
def Ak(a:eQ):Option rZ:=
 ab (qE a) λb=>cond (b !=0) none<|cond (!a.Up) none<|ab (tv (World.mk a [])) λc=>some (c,0)
def zM(c:cu)(d:J)(e:Bool)(h:UInt8):bE:=
 ab Gr λf=>ab (C' (eQ.mk (N.mk d e (X.mk 0 0 false 0 0 false false) [] (K.mk 0 0 0 0 []) [] 1 false) c false)) λi=>cond (i|| !f) (some f)<|ab (qs (eQ.mk (N.mk d e (X.mk 0 0 false 0 0 false false) [] (K.mk 0 0 0 0 []) [] 1 false) c false) (iA.mk 5 (aZ.mk 0 0 0 []) 0 0 false [])) λb=>cond (b.2.2 !=0) (some (!b.1.Up&&(b.1.f_.length:Int)==0))<|ab (qs b.1 (iA.mk 3 (aZ.mk 0 0 0 []) (wI h.toNat) 1500 false [])) λa=>cond (a.2.2 !=0) (some (a.2.2==230||a.2.2==9))<|ab (Ak a.1) λg=>some (b.1.Up&&g.2==0&&((g.1.length:Int)==0&&(a.1.N.K.j.length:Int)==0||(a.1.N.K.Seq.toNat:Int)>=((2147483648:UInt32).toNat:Int)))
end
end Go.Proofs.YthpphdegpinepaaGreat
