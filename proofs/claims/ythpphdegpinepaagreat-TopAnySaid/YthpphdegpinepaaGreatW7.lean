/- Part of the proof of TopAny. -/
import Derived.Test.YthpphdegpinepaaGreatW6
namespace Go.Proofs.YthpphdegpinepaaGreat
open Go GL Tryz
open And renaming left -> iw, right -> jr
open List renaming replicate -> dr
set_option linter.all false
set_option maxRecDepth 100000
set_option maxHeartbeats 20000000
noncomputable section
section
attribute [local irreducible] aO br aH GL.ah GL.au
theorem UW:C2 362 D' (s3 (gv (.own 0 (some 1) 79) (.own 2 none 133) (.own 3 (some 4) 120)) (.own 5 (some 6) 233)) [4]:=λC aG r hm=>(cv [[84,171],[85,172],[86],[87],[0,88],[163],[161,162]] func362) λ_ _=>by
 refine U<|zs (yb 10 ck)<|zs (yb 34 fc)<|zs (ya 36)<|z2 I I<|zz<|zo xR ?_;refine il hm (IF C aG) [2,3,4,50010] (λk (a,b,c,d,e,f,g,h,i,j,l,m,n,o,q,r,t,v,w,x,y,z,A,B)=>W 9 (.aL 90)<|V8 91 a b c d e f g h<|V6 99 i j l m n o<|Y 105 (.ow [84] [85] 79 q)<|V4 106 r t v w<|Y 110 (.ow [86] [] 133 x)<|Y 111 (.ow [87] [0,88] 120 y)<|V2 112 z A<|Y 114 (.dM)<|V 115 B<|O 90 25<|k) func346 cF ?_ ?_
 .refine λa8=>iu 1 [2,3,4] [50010] ?_;refine U<|zs (yb 60 bT)<|zo I<|M<|za<|bB hm λbs a' hm=>bB hm λbn bd hm=>?_;refine zQ aI (S:=p5 xR (kC [0] 84 (mw _ a')) xR (kC [0] 89 (lv _ bd)) bU<|aq (sE (.ae 9 _::(kR 90 [_,_,_,_,_,_,_,_,_,_,_,_,_,_,_,_,_,_,_,_,_,_,_,_,_,_] (kK 90 26 []))) (yb 90 dW))<|o1 I<|aN) (h:=zt<|za<|U<|z5 E xc xf xl xe<|zo E<|g3 rfl rfl (λ_=>⟨xf,xf,xl⟩)<|zo xw<|M<|zx hm λu hm=>zk<|zt<|U<|z2 E I<|M<|zr ?_);exact bS (_,_,_,_,_,_,_,_,_,_,_,_,_,_,_,_,_,_,_,_,_,_,_,_) hm
 .rintro⟨aw,ao,az,ap,al,an,am,ar,ay,ag,N,ac,L,ak,aE,J,K,af,Q,X,ad,D,G,bm⟩ hm;refine zs (ya 116) ?_;refine ws (au.tZ (i:=0) (f:=aa.aL 90) rfl HY rfl (aV (ai rfl) (Cv.eG rfl)) rfl (One.obj (ai rfl) rfl) (ai rfl) rfl)<|zz<|z3 xl xl xF ?_;refine il hm (uK C aw ao az ap al an am ar ay ag N ac L ak J K af Q X ad D G) [2,4,7,24010,24036,15090,8106,2116] (λk (a,b,c)=>W 13 (.top)<|Y 105 (.ow [84,171] [85,172] 79 a)<|Y 114 (.ow [163] [161,162] 233 b)<|V 115 c<|k) func350 cF ?_ ?_
  .refine λa8=>iu 1 [2,4,7] [50010,28090] ?_;refine U<|z2 E E ?_;refine il hm (Ae C aG aw ao az ap al an am ar ay ag N ac L ak aE J K af Q X ad D G bm) [0,1,2,3,902002,902004,902007,50010,28090] (λk (a,b,c,d,e,f,g)=>W 17 (.cP (aa.aK [tr a,(false,1,aa.rep [85] b),(false,1,aa.rep [85] c),tr d,tr e,tr f]) (R1 g))<|k) func347 cF ?_ ?_
   .refine λaH=>iu 2 [0,1,2,3] [902002,902004,902007,50010,28090] ?_;refine U<|zs (ya 118)<|zo I<|M<|za<|bB hm λbw bl hm=>?_;refine zQ aI (S:=p6 E xc xf xf xP E<|p6 xc xf xf xl E (kC [84,85] 125 (pA _ _ _ bl))<|p5 E aC aB I I<|aN) (h:=zt<|za<|U<|z2 E xq<|M<|zd hm (λu hm=>?_) λu hm=>?_)
    .exact U<|zo bU<|zs (yo aF)<|zo I<|M<|zr<|zR<|dU (_,_,_,_,_,_,_) hm
    .exact zk<|zt<|U<|z5 E xc xf xf xl<|zo E<|bB hm λbv ba hm=>z2 (xJ ba) xs<|zs (yo aA)<|zo I<|M<|zr<|dU (_,_,_,_,_,_,_) hm
   .rintro⟨a4,aO,a6,a3,a2,aU,_⟩ hm;refine z3 E aC aB<|zs (ya 126)<|zs (yo aF)<|zo I<|M ?_;refine jn hm (zI C aG aw ao az ap al an am ar ay ag N ac L ak aE J K af Q X ad D G) [0,3,8,902002,902004,902007,50010,25090,2116,1126] (λk (a,b,c,d,e,f,g)=>V 115 a<|V 127 b<|Y 128 (.rep [85,134] c)<|Y 129 (.rep [85,135] d)<|V3 130 e f g<|k) ?_ ?_
    .rintro⟨aJ,_,_,_,_,_,_⟩ hm;refine U<|z2 E xr ?_;refine il hm (G0 C aw ao az ap al an am ar ay ag N ac L ak aE J K af Q X ad D G aJ) [0,902002,902004,902007,24010,24036,24090,3115] (λk (a,b,c,d,e,f,g,h)=>W 60 (.cP (aa.aK [tr a,(false,1,aa.ow [150] [151] 43 b),(false,1,aa.ow [152] [] 4 c),tr d,tr e,tr f]) (R1 g))<|Y 114 (.ow [163] [161,162] 233 h)<|k) func369 cV ?_ ?_
     .refine λaH=>iu 2 [0] [902002,902004,902007,50010,28090] ?_;refine U<|zs (yb 136 aF)<|zs (ya 143)<|zo I<|M<|za<|U<|z4 xf xl xb E<|g4 rfl rfl (λ_=>⟨xf,xf,xl,xN⟩)<|zo xw<|M<|zx hm λu hm=>zk<|zt<|za<|bB hm λaR a9 hm=>?_;refine zQ aI (S:=p6 xl xc xf xf xP xr<|p4 (kC [85,134,135] 150 (WN _ _ a9)) E aC aB<|aq (sE (.ae 7 _::(kR 153 [_,_,_,_,_,_,_] (kK 153 7 []))) (ya 153))<|aq (sE (kR 153 [_,_,_,_,_,_,_] (.av 153::(kK 154 6 []))) (yo aF))<|o1 I<|aN) (h:=zt ?_);refine jn hm (Ed C aw ao az ap al an am ar ay ag N ac L ak aE J K af Q X ad D G aJ aR) [5,7,8,902002,902004,902007,904000,24010,24036,24090,3115,7143,7153] (λk p=>Y 114 (.ow [163] [161,162] 233 p)<|k) ?_ ?_
      .rintro br hm;exact U<|z2 xr E<|zs (yo aF)<|zo I<|M<|zr<|dU (_,_,_,_,_,_,_,_) hm
      .refine U<|z2 E xe<|M<|zd hm (λu hm=>?_) λu hm=>?_
       .refine za<|bB hm λbH bi hm=>bB hm λbz be hm=>?_;refine zQ aI (S:=p6 xl xc xf xf xP xl<|p6 xl (kC [0,84,85,86,87,88,90] 160 (EK _ _ bi)) xr (kC [85,134,135] 161 (Wb _ _ _ be)) E aC<|p3 aB I I<|aN) (h:=zt<|zb<|z2 xl E ?_);refine il hm (FN C aw ao az ap al an am ar ay ag N ac L ak aE J K af Q X ad D G aJ aR) [5,7,8,902002,902004,902007,904000,24010,24036,24090,3115,7143,7153] (λk p=>W 48 (.top)<|Y 114 (.ow [163] [161,162] 233 p)<|k) func354 cF ?_ ?_
        .refine λbL=>iu 3 [5,7,8] [902002,902004,902007,904000,24010,24036,28090,7143,7153] ?_;refine zb<|z5 E E xc xf xl<|zo E<|bB hm λbG bb hm=>z3 (xv [161,162] 163 bb) xc xf<|zs (yt)<|zw ?_;exact eW (dK _ hm)
        .rintro bC hm;exact zw<|zJ _ hm
       .exact zk<|zJ _ hm
     .rintro⟨a0,aQ,a5,a1,aZ,aY,_,a7⟩ hm;refine z3 E aC aB<|zs (ya 164)<|zs (yo aF)<|zo I<|zz<|z4 E E xe E ?_;refine il hm (H3 C aw ao az ap al an am ar ay ag N ac L ak aE J K af Q X ad D G a0 aQ a5 a1 aZ aY a7) [0,12,902002,902004,902007,24010,24036,25090,2116,7164] (λk (a,b)=>Z 67 a<|V 115 b<|k) func340 cF ?_ ?_
      .refine λaH=>iu 2 [0,12] [902002,902004,902007,24010,24036,28090,7164] ?_;refine U<|zo I<|M ?_;refine jn hm (Cs C aw ao az ap al an am ar ay ag N ac L ak aE J K af Q X ad D G a0 aQ a5 a1 aZ aY a7) [0,902002,902004,902007,904000,904012,24010,24036,25090,2116,7164] (λk p=>V 115 p<|k) ?_ ?_
       .rintro bD hm;exact U<|z5 E xc xf xl xe<|zo I<|M<|zr<|bS (_,_) hm
       .refine U<|z5 E xc xf xl xe<|zo E<|g2 rfl rfl (λ_=>⟨E,xN⟩)<|zo xw<|M<|zd hm (λu hm=>?_) λu hm=>?_
        .exact zb<|z4 E E xc xf<|zs (yt)<|zw<|zJ _ hm
        .exact zk<|zJ _ hm
      .rintro⟨_,_⟩ hm;refine M<|zd hm (λu hm=>?_) λu hm=>?_
       .refine bB hm λbI a_ hm=>?_;refine zQ aI (S:=p6 E E xc xf xf xP<|p6 E xc xf xf xl xr<|p6 (kC [84,85,150,151,152] 171 (vF _ _ _ a_)) E aC aB xc xf<|o1 xf<|aq (sE [.ae 100105 _,.ae 100090 _,.av 90,.bp 105] (yt))<|aN) (h:=?_);exact eW (dK (_,_,_) hm)
       .refine zk ?_;exact eW (dK (_,_,_) hm)
    .refine U<|z3 E xN E<|zg rfl rfl (λ_=>E)<|zo xw<|M<|zd hm (λu hm=>?_) λu hm=>?_
     .refine za<|bB hm λbJ bc hm=>?_;refine zQ aI (S:=p6 E xc xf xf xP E<|p6 xc xf xf xl (kC [84,85] 133 (vM _ _ bc)) E<|p4 aC aB I I<|aN) (h:=zt<|za<|U<|z2 E E ?_);refine il hm (K4 C aG aw ao az ap al an am ar ay ag N ac L ak aE J K af Q X ad D G) [0,1,3,8,902002,902004,902007,50010,25090,2116,7126] (λk (a,b)=>Z 41 a<|V 115 b<|k) func340 cF ?_ ?_
      .refine λaH=>iu 2 [0,1,3,8] [902002,902004,902007,50010,28090,7126] ?_;refine U<|zo I<|M ?_;refine jn hm (IC C aG aw ao az ap al an am ar ay ag N ac L ak aE J K af Q X ad D G) [0,902002,902004,902007,904000,904001,904003,904008,50010,25090,2116,7126] (λk p=>V 115 p<|k) ?_ ?_
       .rintro bA hm;exact U<|z5 E xc xf xl xe<|zo I<|M<|zr<|bS (_,_) hm
       .refine U<|z5 E xc xf xl xe<|zo E<|g2 rfl rfl (λ_=>⟨E,xN⟩)<|zo xw<|M<|zd hm (λu hm=>?_) λu hm=>?_
        .exact zb<|z4 E E xc xf<|zs (yt)<|zw<|zJ _ hm
        .exact zk<|zJ _ hm
      .rintro⟨_,_⟩ hm;refine zo xN<|M<|zd hm (λu hm=>?_) λu hm=>?_
       .exact zr<|zR<|zR<|dK (_,_,_) hm
       .exact zk<|zt<|zb<|z5 E xc xf xf xP<|zo E<|bB hm λbq bg hm=>z4 (kC [] 134 (wi _ _ bg)) E aC aB<|zs (yo aF)<|zw<|zJ (_,_,_,_,_,_,_) hm
     .refine U<|z2 E E ?_;refine il hm (IH C aG aw ao az ap al an am ar ay ag N ac L ak aE J K af Q X ad D G a4 aO a6 a3 a2 aU) [0,3,8,902002,902004,902007,50010,25090,2116,7126] (λk (a,b)=>Z 55 a<|V 115 b<|k) func340 cF ?_ ?_
      .refine λaH=>iu 2 [0,3,8] [902002,902004,902007,50010,28090,7126] ?_;refine U<|zo I<|M ?_;refine jn hm (Ci C aG aw ao az ap al an am ar ay ag N ac L ak aE J K af Q X ad D G a4 aO a6 a3 a2 aU) [0,902002,902004,902007,904000,904003,904008,50010,25090,2116,7126] (λk p=>V 115 p<|k) ?_ ?_
       .rintro bE hm;exact U<|z5 E xc xf xl xe<|zo I<|M<|zr<|bS (_,_) hm
       .refine U<|z5 E xc xf xl xe<|zo E<|g2 rfl rfl (λ_=>⟨E,xN⟩)<|zo xw<|M<|zd hm (λu hm=>?_) λu hm=>?_
        .exact zb<|z4 E E xc xf<|zs (yt)<|zw<|zJ _ hm
        .exact zk<|zJ _ hm
      .rintro⟨_,_⟩ hm;refine zo xN<|M<|zd hm (λu hm=>?_) λu hm=>?_
       .exact zr<|zR<|dK (_,_,_) hm
       .exact zk<|zJ (_,_,_,_,_,_,_) hm
  .rintro⟨_,_,_⟩ hm;refine M<|za<|U<|z5 xl xc xf xl xe<|zo E<|g3 rfl rfl (λ_=>⟨xf,xf,xl⟩)<|zo xw<|M<|zx hm λu hm=>zk<|zt<|U<|zo xl ?_;refine il hm Bh [4,24036] (λk (a,b,c,d,e,f,g,h,i,j,l,m,n,o)=>W 28 (.eV (aa.aK [(true,6,aa.rep [] a),tr b,(true,7,aa.rep [] c),(false,1,aa.ow [84,171] [85,172] 79 d),(true,5,aa.aK [tr e,tr f,tr g,tr h,(false,1,aa.ow [86] [] 133 i)]),(false,1,aa.ow [87] [0,88] 120 j),tr l,tr m]) (aa.ow [163] [161,162] 233 n) (R1 o))<|k) func339 cF ?_ ?_
   .refine λa8=>iu 1 [4] [24036,26090] ?_;refine U<|zs (ya 173)<|z2 I I<|M<|za<|U<|z5 E xc xf xl xq<|M<|zd hm (λu hm=>?_) λu hm=>?_
    .refine za ?_;refine zQ aI (S:=p5 bU E xc xf xl<|aq (sE (kR 173 [_,_,_,_,_,_,_,_,_,_,_,_,_,_,_,_,_,_,_,_,_,_,_,_] (.av 173::(kK 174 23 []))) (yo bT))<|p2 I I<|aN) (h:=zt<|zr<|zR ?_);exact jo (_,_,_,_,_,_,_,_,_,_,_,_,_,_) hm
    .refine zk<|zt<|za ?_;refine zQ aI (S:=p6 E xc xf hX E xc<|p2 xf xl<|aq (sE (kR 173 [_,_,_,_,_,_,_,_,_,_,_,_,_,_,_,_,_,_,_,_,_,_,_,_] (.av 173::(kK 174 23 []))) (yo bT))<|p2 I I<|aN) (h:=zt<|zr ?_);exact jo (_,_,_,_,_,_,_,_,_,_,_,_,_,_) hm
   .rintro⟨_,_,_,_,_,_,_,_,_,_,_,_,_,_⟩ hm;refine z3 eJ eI eL<|zs (yo dW)<|z2 I I<|M<|zr ?_;cases hm;exact dL
theorem Rz:C1 408 NM .fl:=λj r a=>(cv [[]] func408) λ_ _=>by refine U<|zs (yb 10 aA)<|zo I<|zz<|z4 xf xl xN I<|M<|zr ?_;cases a;exact az
theorem TG:C2 409 DJ (s2 (nn (.own 0 (some 1) 43) (.own 2 none 4))):=λaw ay r j=>(cv [[79],[80],[81]] func409) λ_ _=>by
 refine U<|zs (yb 10 aA)<|zs (yb 17 aA)<|zs (ya 24)<|zo I<|zz<|z2 xr xr ?_;refine il j E7 [4,7024] (λk (a,b,c,d,e,f,g)=>W 8 (.cP (aa.aK [tr a,(false,1,aa.ow [79] [80] 43 b),(false,1,aa.ow [81] [] 4 c),tr d,tr e,tr f]) (R1 g))<|k) func388 cF ?_ ?_
 .refine λar=>iu 1 [4] [7024] ?_;refine U<|zs (yb 31 aF)<|zs (yb 38 aF)<|zs (yb 45 fc) ?_;refine ws (au.pR (ls:=[(false,1,aa.ef 413 [] [])]) 47 rfl rfl rfl rfl (eY.ef (ai rfl)))<|zs (ya 49)<|zo I<|zz<|z3 xr xr xF ?_;refine il j Bs [8,902004,7024,7049] (λk (a,b,c,d,e,f,g)=>W 13 (.cP (aa.aK [tr a,(false,1,aa.ow [79] [80] 43 b),(false,1,aa.ow [81] [] 4 c),tr d,tr e,tr f]) (R1 g))<|k) func267 cF ?_ ?_
  .refine λaz=>iu 2 [8] [902004,7024,11045] ?_;refine U<|zs (yb 56 aF)<|zs (yb 63 aF)<|zs (ya 70)<|zo I<|M<|za<|U<|z2 xr xr<|bB j λO z j=>z2 (kC [0] 77 (lj _ _ z)) I<|zz<|z2 E xq<|M<|zd j (λo j=>?_) λo j=>?_
   .exact zr<|zR<|dU ((0:Int),([]:List (List UInt8)),([]:List Bool),(0:UInt8),false,(0:UInt32),O) j
   .refine zk<|zt<|za<|U<|z3 E xi E<|g4 rfl rfl (λ_=>⟨E,xf,xl,xz⟩)<|zg rfl rfl (λ_=>xh)<|zo xo<|M<|zx j λo j=>zk<|zt<|za<|U<|zo E<|bB j λap A j=>zo (kC [] 78 (pz _ A))<|M<|zx j λo j=>zk<|zt<|U<|zo xr<|bB j λq C j=>zo (kC [0] 79 (qp _ C))<|zs (ya 82)<|zs (yo aF)<|M ?_;refine jn j BC [10,902004,904008,7024,7049,1070] (λk (a,b,c,d,e,f,g)=>Z 11 a<|V 71 b<|Y 72 (.ow [79] [80] 43 c)<|Y 73 (.ow [81] [] 4 d)<|V3 74 e f g<|k) ?_ ?_
    .rintro⟨af,ac,N,ae,D,G,X⟩ j;exact zr<|dU (ac,N,ae,D,G,X,af) j
    .refine U<|zo E ?_;refine il j (D4 q) [10,12,902004,904008,7024,7049,7070,4082,2087] (λk (a,b)=>Z 34 a<|V 86 b<|k) func398 cV ?_ ?_
     .refine λaE=>iu 3 [10,12] [902004,904008,7024,11045,7070,7082] ?_;refine U<|zo I<|M<|za<|za<|bB j λao w j=>bB j λan B j=>?_;refine zQ aI (S:=p6 xl E xc xf xl (kC [] 89 (vH _ _ w))<|p2 xN E<|w3 (q3 (h:=λ_=>⟨xl,xe,xM⟩))<|aq (qu (h:=λ_=>E))<|aq (qu (h:=λ_=>xc))<|aq (qu (h:=λ_=>xf))<|aq (qu (h:=λ_=>xl))<|aq (cI.jY rfl rfl rfl (λo=>ah.jI [81] 90 rfl (by kernel_rfl) (px q.a_ true (bM B (ib (cS (iw o)) (jr o)))) (bX.cons (Has.m (aV (dD rfl o) (bq Cv.iS (Cv.iR (T':=[81]) rfl rfl))) rfl) (bX.cons (fG Has.bool) bX.nil))))<|aq (qu (h:=λ_=>xN))<|aq (qg (h:=λ_=>xW))<|o1 xo<|aN) (h:=zt<|zd j (λo j=>?_) λo j=>?_)
      .exact U<|zo I<|M<|zr<|zR<|bS ((6:Int),q.aG) j
      .refine zk<|zt<|U ?_;refine wo (ic (α:=Int) (i:=0) cj.h rfl (aV (ai rfl) (Cv.eG rfl)) rfl (aW rfl))<|zo E ?_;refine il j (Ir q) [902004,904008,906010,906012,7024,7049,7070,4082,2087] (λk p=>W 26 (.top)<|V 86 ((3:UInt8):UInt8)<|k) func413 cV ?_ ?_
       .refine λav=>iu 4 [] [902004,904008,906010,906012,7024,7049,7070,7082] ?_;refine zb<|z3 E xc xf ?_;refine ws (au.nj (i:=3) (f:=aa.rep [] ((3:UInt8):UInt8)) rfl iz rfl (ai rfl) rfl (Has.u8 3 rfl) (Has.u8 3 rfl) rfl)<|zw ?_;exact eW (dK () j)
       .rintro _ j;exact zz<|zo I<|M<|zr<|bS ((0:Int),(3:UInt8)) j
     .rintro⟨u,Q⟩ j;refine zo I<|zz<|z2 E xe<|M<|zd j (λo j=>?_) λo j=>?_
      .exact zb<|zo xr<|zs (yo aF)<|zw<|zJ (u,q.L,q.aJ,q.a_,Q,q.cG,q.Seq) j
      .exact zk<|zJ (u,(0:Int),([]:List (List UInt8)),([]:List Bool),(0:UInt8),false,(0:UInt32)) j
  .rintro⟨al,am,ag,K,ad,J,ak⟩ j;exact z2 aC aB<|zs (yo aF)<|zo I<|M<|zr<|dU (al,am,ag,K,ad,J,ak) j
 .rintro⟨_,_,_,_,_,_,_⟩ j;refine z2 aC aB<|zs (yo aF)<|zo I<|M<|zr ?_;cases j;exact bC
theorem Sm:C1 403 zV (s3 (gv (.own 0 (some 1) 79) (.own 2 none 133) (.own 3 (some 4) 120)) (.own 5 (some 6) 233)) [4]:=λa6 r hm=>(cv [[116],[83,124,125,126],[115],[85],[0,86],[135],[134]] func403) λ_ _=>by
 refine U<|zs (yb 10 ck)<|zs (ya 34)<|z2 I I<|zz<|zo xR ?_;refine il hm (HN a6) [1,2,48010] (λk (a,b,c,d,e,f,g,h,i,j,l,m,n,o,q,r,t,v,w,x,y,z,A,B)=>W 12 (.aL 88)<|V8 89 a b c d e f g h<|V6 97 i j l m n o<|Y 103 (.ow [82] [83] 79 q)<|V4 104 r t v w<|Y 108 (.ow [84] [] 133 x)<|Y 109 (.ow [85] [0,86] 120 y)<|V2 110 z A<|Y 112 (.dM)<|V 113 B<|O 88 25<|k) func346 cF ?_ ?_
 .refine λad=>iu 1 [1,2] [48010] ?_;refine U<|zs (yb 58 bT)<|zo I<|M<|za<|bB hm λa9 aQ hm=>bB hm λa7 a0 hm=>?_;refine zQ aI (S:=p5 xR (kC [0] 82 (mw _ aQ)) xR (kC [0] 87 (lv _ a0)) bU<|aq (sE (.ae 9 _::(kR 88 [_,_,_,_,_,_,_,_,_,_,_,_,_,_,_,_,_,_,_,_,_,_,_,_,_,_] (kK 88 26 []))) (yb 88 dW))<|o1 I<|aN) (h:=zt<|za<|U<|z5 E xc xf xl xe<|zo E<|g3 rfl rfl (λ_=>⟨xf,xf,xl⟩)<|zo xw<|M<|zx hm λu hm=>zk<|zt<|U<|z2 E I<|M<|zr ?_);exact bS (_,_,_,_,_,_,_,_,_,_,_,_,_,_,_,_,_,_,_,_,_,_,_,_) hm
 .rintro⟨am,C,ao,ak,ac,ag,af,al,an,Q,K,L,J,X,aH,aw,ay,aG,aE,az,N,D,G,_⟩ hm;refine zo I<|zz<|z5 E xc xf xf xf<|zo xl<|bB hm λbg aO hm=>z2 (kC [84] 114 (HX _ _ aO) (H2 (ma λy _=>@Rz y _))) I<|M<|za<|U<|z3 E E E<|g4 rfl rfl (λ_=>⟨xf,xf,xl,xN⟩)<|zo xw ?_;refine il hm (HU am C ao ak ac ag af al an Q K L J X aH aw ay aG aE az N D G) [2,5,24034,25088] (λk (a,b)=>Z 28 a<|V 113 b<|k) func340 cF ?_ ?_
  .refine λad=>iu 1 [2,5] [24034,26088] ?_;refine U<|zo I<|M ?_;refine jn hm (CE am C ao ak ac ag af al an Q K L J X aH aw ay aG aE az N D G) [0,902002,902005,24034,25088] (λk p=>V 113 p<|k) ?_ ?_
   .rintro bd hm;exact U<|z5 E xc xf xl xe<|zo I<|M<|zr<|bS (_,_) hm
   .refine U<|z5 E xc xf xl xe<|zo E<|g2 rfl rfl (λ_=>⟨E,xN⟩)<|zo xw<|M<|zd hm (λu hm=>?_) λu hm=>?_
    .exact zb<|z4 E E xc xf<|zs (yt)<|zw<|zJ _ hm
    .exact zk<|zJ _ hm
  .rintro⟨_,a4⟩ hm;refine zo xN<|M<|zx hm λu hm=>zk<|zt<|za<|bB hm λa3 aU hm=>?_;refine zQ aI (S:=p6 E E xc xf xf xP<|p6 E xc xf xf xP (kC [84] 115 (OY _ _ aU))<|p6 E aC aB xc xf xf<|aq (sE (.ae 100088 _::(kR 104 [_,_,_,_,_] (.av 88::(kK 104 5 [])))) (yS 15 20 (hx:=aF)))<|aN) (h:=zt<|za<|za ?_);refine ei (Ad.d_ (i:=103) 116 rfl rfl rfl (ev.bj rfl) rfl (Cv.gT (T:=[82]) (te:=[83]) (T':=[82]) (te':=[83]) rfl rfl))<|zb<|z5 E xc xf xf xl<|z2 xn E<|M<|zl<|bB hm λa2 aR hm=>?_;refine lp aR [2,5,57,58,24034,26088] (λk (a,b)=>Z 59 a<|W 100116 (.own 116 [83,124,125,126] 79 b)<|k) (λk b=>(.exit 0,W 100116 (.own 116 [83,124,125,126] 79 b)<|k)) ?_ ?_
   .rintro⟨a5,_⟩ a_ hm;refine U<|zo xi<|M<|za<|zd hm (λu hm=>?_) λu hm=>?_
    .refine zk<|zt ?_;refine jn hm (Ar a5) [2,5,57,58,59,24034,26088] (λk p=>W 100116 (.own 116 [83,124,125,126] 79 p)<|k) ?_ ?_
     .rintro a8 hm;exact zb<|z2 xy E<|zw<|zN hm
     .refine zl<|U<|zo E<|bB hm λbc aM hm=>zo (xu aM)<|bB hm λba aJ hm=>?_;refine wo (ah.tG aJ cj.h (ai rfl) rfl)<|zs (ya 117)<|zo I<|zs (yo aA)<|M<|za<|bB hm λa1 aZ hm=>?_;refine zQ aI (S:=p6 E xc xf xf xP xr<|p4 (kC [83,124,125,126] 124 (TG _ _ aZ)) E aC aB<|aq (sE (.ae 9 _::(kR 127 [_,_,_,_,_,_,_] (kK 127 7 []))) (ya 127))<|aq (sE (kR 127 [_,_,_,_,_,_,_] (.av 127::(kK 128 6 []))) (yo aF))<|o1 I<|aN) (h:=zt<|U<|z2 E xe<|M<|zd hm (λu hm=>?_) λu hm=>?_)
      .refine bB hm λa' ar hm=>?_;exact zQ aI (S:=p6 E xc xf xf xl E<|p2 xr (xu ar)<|aq (sE [.ae 100116 _,.av 116] (yW [83,124,125,126] ar (T:=[124,125,126]) (y:=a1.1)))<|aN) (h:=zh<|zJ _ hm)
      .exact zk<|zh<|zJ _ hm
    .exact ze<|zE<|zB hm
   .intro _;refine zj<|zt<|U<|z5 E E xc xf xf<|z4 xf xl bU (xt [] 134 [(cd.mk C (3:UInt8) (0:Int) ([]:List UInt8))]) ?_;refine il hm (Hj am C ao ak ac ag af al an Q K L J X N D G a4 a3 a2) [2,5,24034,24088,1113,1116] (λk p=>W 94 (.top)<|Y 112 (.ow [135] [134] 233 p)<|k) func354 cF ?_ ?_
    .refine λad=>iu 1 [2,5] [24034,26088,1116] ?_;refine zb<|z5 E E xc xf xl<|zo E<|bB hm λbe aY hm=>z3 (xv [134] 135 aY) xc xf<|zs (yt)<|zw ?_;exact eW (dK _ hm)
    .rintro bb hm;refine zz<|zo E ?_;refine il hm Cd [2,24034] (λk (a,b,c,d,e,f,g,h,i,j,l,m,n,o)=>W 96 (.eV (aa.aK [(true,6,aa.rep [] a),tr b,(true,7,aa.rep [] c),(false,1,aa.ow [116] [83,124,125,126] 79 d),(true,5,aa.aK [tr e,tr f,tr g,tr h,(false,1,aa.ow [115] [] 133 i)]),(false,1,aa.ow [85] [0,86] 120 j),tr l,tr m]) (aa.ow [135] [134] 233 n) (R1 o))<|k) func339 cF ?_ ?_
     .refine λad=>iu 1 [2] [24034,26088,1116] ?_;refine U<|zs (ya 136)<|z2 I I<|M<|za<|U<|z5 E xc xf xl xq<|M<|zd hm (λu hm=>?_) λu hm=>?_
      .refine za ?_;refine zQ aI (S:=p5 bU E xc xf xl<|aq (sE (kR 136 [_,_,_,_,_,_,_,_,_,_,_,_,_,_,_,_,_,_,_,_,_,_,_,_] (.av 136::(kK 137 23 []))) (yo bT))<|p2 I I<|aN) (h:=zt<|zr<|zR ?_);exact jo (_,_,_,_,_,_,_,_,_,_,_,_,_,_) hm
      .refine zk<|zt<|za ?_;refine zQ aI (S:=p6 E xc xf hX E xc<|p2 xf xl<|aq (sE (kR 136 [_,_,_,_,_,_,_,_,_,_,_,_,_,_,_,_,_,_,_,_,_,_,_,_] (.av 136::(kK 137 23 []))) (yo bT))<|p2 I I<|aN) (h:=zt<|zr ?_);exact jo (_,_,_,_,_,_,_,_,_,_,_,_,_,_) hm
     .rintro⟨_,_,_,_,_,_,_,_,_,_,_,_,_,_⟩ hm;refine z3 eJ eI eL<|zs (yo dW)<|z2 I I<|M<|zr ?_;cases hm;exact dL
theorem ZY:C2 410 wV (s2 (nn (.own 0 (some 1) 43) (.own 2 none 4))):=λX ac r j=>(cv [[79,91],[80],[81,92]] func410) λ_ _=>by
 refine U<|zs (yb 10 aA)<|zs (yb 17 aA)<|zs (ya 24)<|zo I<|zz<|z3 xr xr xF ?_;refine il j E2 [4,7024] (λk (a,b,c,d,e,f,g)=>W 9 (.cP (aa.aK [tr a,(false,1,aa.ow [79,91] [80] 43 b),(false,1,aa.ow [81,92] [] 4 c),tr d,tr e,tr f]) (R1 g))<|k) func388 cF ?_ ?_
 .refine λO=>iu 1 [4] [7010,7024] ?_;refine U<|zs (yb 31 aF)<|zs (yb 38 aF)<|zs (yb 45 fc) ?_;refine ws (au.pR (ls:=[(false,1,aa.ef 414 [] [aa.aL 10])]) 47 rfl rfl rfl rfl (eY.ef (ai rfl)))<|zs (ya 49)<|zo I<|zz<|z3 xr xr xF ?_;refine il j Aq [8,902004,7024,7049] (λk (a,b,c,d,e,f,g)=>W 13 (.cP (aa.aK [tr a,(false,1,aa.ow [79,91] [80] 43 b),(false,1,aa.ow [81,92] [] 4 c),tr d,tr e,tr f]) (R1 g))<|k) func267 cF ?_ ?_
  .refine λad=>iu 2 [8] [902004,7010,7024,11045] ?_;refine U<|zs (yb 56 aF)<|zs (yb 63 aF)<|zs (ya 70)<|zo I<|M<|za<|U<|z2 xr xr<|bB j λL w j=>z2 (kC [0] 77 (lj _ _ w)) I<|zz<|z2 E xq<|M<|zd j (λo j=>?_) λo j=>?_
   .exact zr<|zR<|dU (_,_,_,_,_,_,_) j
   .refine zk<|zt<|za<|U<|z3 E xi E<|g4 rfl rfl (λ_=>⟨E,xf,xl,xz⟩)<|zg rfl rfl (λ_=>xh)<|zo xo<|M<|zx j λo j=>zk<|zt<|za<|U<|zo E<|bB j λN z j=>zo (kC [] 78 (pz _ z))<|M<|zx j λo j=>zk<|zt<|U<|zo xr<|bB j λq A j=>zo (kC [0] 79 (qp _ A))<|zs (ya 82)<|zs (yo aF)<|M ?_;refine jn j zW [10,902004,904008,7024,7049,1070] (λk (a,b,c,d,e,f,g)=>Z 11 a<|V 71 b<|Y 72 (.ow [79,91] [80] 43 c)<|Y 73 (.ow [81,92] [] 4 d)<|V3 74 e f g<|k) ?_ ?_
    .rintro⟨_,_,_,_,_,_,_⟩ j;exact zr<|dU (_,_,_,_,_,_,_) j
    .refine U<|zo E ?_;refine il j (Ag q) [10,12,902004,904008,7024,7049,7070,2082,1087] (λk (a,b,c,d,e)=>Z 34 a<|Y 84 (.ow [79,91] [80] 43 b)<|Y 85 (.ow [81,92] [] 4 c)<|V 86 d<|V 88 e<|k) func398 cV ?_ ?_
     .refine λaf=>iu 3 [10,12] [902004,904008,7010,7024,11045,7070,7082] ?_;refine U<|zo I<|M<|za<|za<|bB j λG B j=>bB j λJ C j=>?_;refine zQ aI (S:=p6 xl E xc xf xl (kC [] 89 (vH _ _ B))<|p2 xN E<|w3 (q3 (h:=λ_=>⟨xl,xe,xM⟩))<|aq (qu (h:=λ_=>E))<|aq (qu (h:=λ_=>xc))<|aq (qu (h:=λ_=>xf))<|aq (qu (h:=λ_=>xl))<|aq (cI.jY rfl rfl rfl (λo=>ah.jI [81] 90 rfl (by kernel_rfl) (px q.a_ true (bM C (ib (cS (iw o)) (jr o)))) (bX.cons (Has.m (aV (dD rfl o) (bq Cv.iS (Cv.iR (T':=[81]) rfl rfl))) rfl) (bX.cons (fG Has.bool) bX.nil))))<|aq (qu (h:=λ_=>xN))<|aq (qg (h:=λ_=>xW))<|o1 xo<|aN) (h:=zt<|zd j (λo j=>?_) λo j=>?_)
      .exact U<|zo I<|M<|zr<|zR<|bS (_,_,_,_,_) j
      .refine zk<|zt<|U ?_;refine wo (ic (α:=Int) (i:=0) cj.h rfl (aV (ai rfl) (Cv.eG rfl)) rfl (aW rfl))<|zo E ?_;refine il j (Jh q) [902004,904008,906010,906012,7024,7049,7070,2082,1087] (λk p=>W 26 (.top)<|Y 84 (.aL 91)<|Y 85 (.aL 92)<|V 86 ((0:UInt8):UInt8)<|V 88 ((0:UInt32):UInt32)<|W 100091 (.own 91 [80] 43 p)<|W 100092 (.own 92 [] 4 (dr (q.a_).length false:List Bool))<|k) func414 cV ?_ ?_
       .refine λQ=>iu 4 [] [902004,904008,906010,906012,7010,7024,7049,7070,7082] ?_;refine U<|z4 E E xc xf ?_;refine ws (au.nj (i:=3) (f:=aa.rep [] ((0:UInt8):UInt8)) rfl iz rfl (ai rfl) rfl (Has.u8 0 rfl) (Has.u8 0 rfl) rfl)<|z2 xc xf ?_;refine ws (au.nj (i:=5) (f:=aa.rep [] ((0:UInt32):UInt32)) rfl tR rfl (ai rfl) rfl (Has.u32 0 rfl) (Has.u32 0 rfl) rfl)<|M<|za ?_;refine ei (Ad.d_ (i:=84) 91 rfl rfl rfl (ev.bj rfl) rfl (Cv.gT (T:=[79]) (te:=[80]) (T':=[79]) (te':=[80]) rfl rfl))<|bB j λK u j=>?_;refine zQ aI (S:=p6 E xc xf xl xf xl<|p2 xz (xu u)<|aq (sE [.ae 100091 _,.av 91] (yW [80] u))<|aN) (h:=zt ?_);refine ei (Ad.d_ (i:=85) 92 rfl rfl rfl ev.flat rfl (Cv.d_ (T:=[81]) (te:=[]) (T':=[81]) (te':=[]) rfl))<|zb<|z4 E xc xf xl ?_;refine ws (au.Z_ de.h Qs rfl (ai rfl) rfl)<|zw ?_;exact eW (dK _ j)
       .rintro D j;exact zz<|zo I<|M<|zr<|bS (_,_,_,_,_) j
     .rintro⟨_,_,_,_,_⟩ j;refine zo I<|zz<|z2 E xe<|M<|zd j (λo j=>?_) λo j=>?_
      .exact zb<|zo xr<|zs (yo aF)<|zw<|zJ (_,_,_,_,_,_,_) j
      .exact zk<|zJ (_,_,_,_,_,_,_) j
  .rintro⟨_,_,_,_,_,_,_⟩ j;exact z2 aC aB<|zs (yo aF)<|zo I<|M<|zr<|dU (_,_,_,_,_,_,_) j
 .rintro⟨_,_,_,_,_,_,_⟩ j;refine z2 aC aB<|zs (yo aF)<|zo I<|M<|zr ?_;cases j;exact bC
theorem TD:C3 411 Cp (s2 (qo (.own 0 none 133))):=λq ay V r j=>(cv [[43,57]] func411) λ_ _=>by
 refine U<|zs (yb 10 aA)<|zs (yb 17 aA)<|zs (ya 23)<|zo I<|zz<|z2 xr xr ?_;refine il j (He q V) [2,3,6,7010,6023] (λk (a,b,c,d,e)=>W 18 (.cP (aa.aL 44) (R1 ((0:Int):Int)))<|V4 45 a b c d<|Y 49 (.ow [43] [] 133 e)<|V6 50 q.Id q.aw q.bz q.bb q.K q.aE<|O 44 11<|k) func265 cF ?_ ?_
 .refine λav=>iu 1 [2,3,6] [7010,6023] ?_;refine U<|zs (yb 29 aF)<|zs (yb 36 aF)<|z2 I I<|M<|za<|U<|z2 xr xr<|bB j λam A j=>z2 (kC [0] 42 (tE _ _ A)) I<|zz<|z2 E xq<|M<|zx j λo j=>zk<|zt<|za<|bB j λal L j=>?_;refine zQ aI (S:=p4 xr (kC [0] 43 (wk _ L)) xr bU<|aq (sE (.ae 17 _::(kR 44 [_,_,_,_,_,_,_,_,_,_,_,_] (kK 44 12 []))) (yb 44 bT))<|p2 I I<|aN) (h:=zt<|zr ?_);exact dU (_,_,_,_,_) j
 .rintro⟨_,_,_,_,_⟩ j;refine z5 E aC aB I I<|M<|za<|U<|z2 E xq<|M<|zF<|zk<|zt<|za<|U<|zo xr<|bB j λar N j=>z5 (kC [] 56 (lJ _ N)) E aC aB I<|zo I<|zz<|z3 E xi E<|g3 rfl rfl (λ_=>⟨E,E,xh⟩)<|zo xo<|M<|zx j λo j=>zk<|zt<|U<|zo I<|M<|za<|U<|z5 E xc xf xf xl<|z3 xn xz I<|M<|zl<|bB j λad G j=>?_;refine lp G [2,6,8,6023,5044,6050] (λk (a,b,c)=>Z 12 a<|Z 13 b<|Y 49 (.ow [43,57] [] 133 c)<|k) (λk (a,b)=>(.exit 0,Z 12 a<|Y 49 (.ow [43,57] [] 133 b)<|k)) ?_ ?_
  .rintro⟨_,Q,_⟩ ak j;refine za<|U<|z2 E xh<|M<|zd j (λo j=>?_) λo j=>?_
   .refine zk<|zt ?_;refine jn j (zL Q) [2,6,8,13,6023,5044,6050] (λk (a,b)=>Z 12 a<|Y 49 (.aL 57)<|W 100057 (.own 57 [] 133 b)<|k) ?_ ?_
    .rintro⟨_,_⟩ j;exact zb<|z3 E xz I<|zw<|zN j
    .refine zl<|za ?_;refine ei (Ad.d_ (i:=49) 57 rfl rfl rfl ev.flat rfl (Cv.d_ (T:=[43,57]) (te:=[]) (T':=[43,57]) (te':=[]) rfl))<|zb<|z5 E xc xf xf xl<|zo E<|bB j λaf C j=>z2 (xu C) I<|M<|za<|U<|zo E ?_;refine wo (ah.mW (ai rfl))<|zo xf<|bB j λag B j=>?_;refine wo ((ah.w5 Y9 B N9 (ai rfl) rfl).flat (T':=[]))<|z2 E xq<|M<|zd j (λo j=>?_) λo j=>?_
     .exact ze<|zE<|zj<|zJ (_,_) j
     .refine zk<|zt<|U<|z2 E E<|zg rfl rfl (λ_=>E) ?_;refine wg rfl rfl (λo=>ah.mW (dD rfl o))<|zg rfl rfl (λ_=>xf)<|bB j λao u j=>?_;refine wg rfl rfl (λo=>(ah.w5 RM (bM u (cS o)) mL (dD rfl o) rfl).flat (T':=[]))<|zg rfl rfl (λ_=>xM)<|zu rfl rfl (λ_=>E) ?_;refine br.jY rfl rfl rfl (λo=>ah.mW (dD rfl o))<|zu rfl rfl (λ_=>xf)<|bB j λan z j=>?_;refine br.jY rfl rfl rfl (λo=>(ah.w5 M_ (bM z (ib (cS o.1) o.2)) mL (dD rfl o) rfl).flat (T':=[])) ?_;refine g2 rfl rfl (λ_=>⟨xW,xM⟩)<|zu rfl rfl (λ_=>E) ?_;refine br.jY rfl rfl rfl (λo=>ah.mW (dD rfl o))<|zu rfl rfl (λ_=>xf)<|bB j λac D j=>?_;refine br.jY rfl rfl rfl (λo=>(ah.w5 IV (bM D (ib (cS o.1) o.2)) mL (dD rfl o) rfl).flat (T':=[]))<|zu rfl rfl (λ_=>xN)<|zg rfl rfl (λ_=>xW)<|z2 xo I<|M<|zb<|z2 E E ?_;refine wo (ah.mW (ai rfl))<|zo xf<|bB j λap J j=>?_;refine wo ((ah.w5 IV J mL (ai rfl) rfl).flat (T':=[]))<|zo E<|zg rfl rfl (λ_=>E)<|zo xo ?_;refine wo (ah.mW (ai rfl))<|zo xf<|bB j λX w j=>?_;exact ws (au.Nd (te':=[]) IV rfl w mL (ai rfl) rfl (ai rfl) cC.flat cC.flat)<|zw<|zh<|zJ (_,_) j
   .exact ze<|zE<|zB j
  .intro _;refine zj<|zt<|za<|U<|z2 E xN<|M<|zx j λo j=>zk<|zt<|U<|z4 E xc xf xP<|zs (yo aF)<|zo I<|M<|zr ?_;cases j;exact bC
end
end
end Go.Proofs.YthpphdegpinepaaGreat
