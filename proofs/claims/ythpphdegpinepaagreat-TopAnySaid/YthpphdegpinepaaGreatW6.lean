/- Part of the proof of TopAny. -/
import Derived.Test.YthpphdegpinepaaGreatW5
namespace Go.Proofs.YthpphdegpinepaaGreat
open Go GL Tryz
open And renaming left -> iw, right -> jr
set_option linter.all false
set_option maxRecDepth 100000
set_option maxHeartbeats 20000000
noncomputable section
section
attribute [local irreducible] aO br aH GL.ah GL.au
theorem SL:C3 361 A2 (s2 (gv (.own 0 (some 1) 79) (.own 2 none 133) (.own 3 (some 4) 120))) [4]:=λb7 aE aG r hm=>(cv [[110,197],[111,198],[112],[113],[0,114]] func361) λ_ _=>by
 refine U<|zs (yb 10 ck)<|zs (yb 34 fc)<|zs (yb 36 fc)<|zs (ya 38)<|zo I<|zz<|z2 xR xl ?_;refine il hm (Gn aE aG) [4,5,6,28034] (λk (a,b,c,d,e,f,g,h,i,j,l,m,n,o,q,r,t,v,w,x,y,z,A,B)=>W 14 (.aL 116)<|V8 117 a b c d e f g h<|V6 125 i j l m n o<|Y 131 (.ow [110] [111] 79 q)<|V4 132 r t v w<|Y 136 (.ow [112] [] 133 x)<|Y 137 (.ow [113] [0,114] 120 y)<|V2 138 z A<|Y 140 (.dM)<|V 141 B<|O 116 25<|k) func338 cF ?_ ?_
 .refine λa8=>iu 1 [4,5,6] [28034] ?_;refine U<|zs (yb 62 bT)<|zo I<|zz<|zo xR ?_;refine il hm (Gt b7 aE aG) [1,2,902004,902005,902006,52034] (λk (a,b,c,d,e,f,g,h,i,j,l,m,n,o,q,r,t,v,w,x,y,z,A,B)=>W 8 (.aL 116)<|V8 117 a b c d e f g h<|V6 125 i j l m n o<|Y 131 (.ow [110] [111] 79 q)<|V4 132 r t v w<|Y 136 (.ow [112] [] 133 x)<|Y 137 (.ow [113] [0,114] 120 y)<|V2 138 z A<|Y 140 (.dM)<|V 141 B<|O 116 25<|k) func346 cF ?_ ?_
  .refine λaH=>iu 2 [1,2] [902004,902005,902006,52034] ?_;refine U<|zs (yb 86 bT)<|zo I<|M<|za<|bB hm λb8 a_ hm=>bB hm λb9 a' hm=>?_;refine zQ aI (S:=p5 xR (kC [0] 110 (mw _ a_)) xR (kC [0] 115 (lv _ a')) bU<|aq (sE (.ae 9 _::(kR 116 [_,_,_,_,_,_,_,_,_,_,_,_,_,_,_,_,_,_,_,_,_,_,_,_,_,_] (kK 116 26 []))) (yb 116 dW))<|o1 I<|aN) (h:=zt<|za<|U<|z5 E xc xf xl xe<|zo E<|g3 rfl rfl (λ_=>⟨xf,xf,xl⟩)<|zo xw<|M<|zx hm λu hm=>zk<|zt<|U<|z2 E I<|M<|zr ?_);exact bS (_,_,_,_,_,_,_,_,_,_,_,_,_,_,_,_,_,_,_,_,_,_,_,_) hm
  .rintro⟨b3,b1,b0,b4,b6,b5,bD,bc,bL,ba,bn,be,bq,bN,bI,bl,br,bw,bJ,bg,bP,bE,bM,bG⟩ hm;refine zo I<|M ?_;refine jn hm (Bb aE aG b3 b1 b0 b4 b6 b5 bD bc bL ba bn be bq bN bI bl br bw bJ bg bP bE bM bG) [5,902004,902005,902006,28034,26116] (λk p=>k) ?_ ?_
   .rintro _ hm;exact U<|z2 E I<|M<|zr<|bS (_,_,_,_,_,_,_,_,_,_,_,_,_,_,_,_,_,_,_,_,_,_,_,_) hm
   .refine U<|z5 E xc xf xl xe<|zo E<|g4 rfl rfl (λ_=>⟨E,xc,xf,xl⟩)<|zg rfl rfl (λ_=>xe)<|zo xo<|M<|zd hm (λu hm=>?_) λu hm=>?_
    .exact U<|z3 xf xP E<|bB hm λb_ a9 hm=>z2 (kC [0] 142 (rA _ _ a9)) I<|zz<|z2 E xq<|M<|zx hm λu hm=>zk<|zJ () hm
    .exact zk<|zJ () hm
 .rintro⟨ap,aw,ar,ak,am,al,an,ao,ay,ag,K,L,J,G,az,Q,ad,ac,af,X,D,N,C,b2⟩ hm;refine zs (ya 143) ?_;refine ws (au.tZ (i:=0) (f:=aa.aL 116) rfl HY rfl (aV (ai rfl) (Cv.eG rfl)) rfl (One.obj (ai rfl) rfl) (ai rfl) rfl)<|zz<|z3 xl xl xF ?_;refine il hm (tO ap aw ar ak am al an ao ay ag K L J G Q ad ac af X D N C) [6,8,24038,15116,9132,2143] (λk (a,b)=>W 18 (.top)<|Y 131 (.ow [110,197] [111,198] 79 a)<|V 141 b<|k) func350 cF ?_ ?_
  .refine λa8=>iu 1 [6,8] [28034,26116,2143] ?_;refine U<|z2 E E ?_;refine il hm (Dv aE aG ap aw ar ak am al an ao ay ag K L J G az Q ad ac af X D N C b2) [0,1,2,3,902006,902008,28034,26116,2143] (λk (a,b,c,d,e,f,g)=>W 17 (.cP (aa.aK [tr a,(false,1,aa.rep [111] b),(false,1,aa.rep [111] c),tr d,tr e,tr f]) (R1 g))<|k) func347 cF ?_ ?_
   .refine λaH=>iu 2 [0,1,2,3] [902006,902008,28034,26116,2143] ?_;refine U<|zs (ya 145)<|zo I<|M<|za<|bB hm λcp bV hm=>?_;refine zQ aI (S:=p6 E xc xf xf xP E<|p6 xc xf xf xl E (kC [110,111] 152 (pA _ _ _ bV))<|p5 E aC aB I I<|aN) (h:=zt<|za<|U<|z2 E xq<|M<|zd hm (λu hm=>?_) λu hm=>?_)
    .exact U<|zo bU<|zs (yo aF)<|zo I<|M<|zr<|zR<|dU (_,_,_,_,_,_,_) hm
    .exact zk<|zt<|U<|z5 E xc xf xf xl<|zo E<|bB hm λce bi hm=>z2 (xJ bi) xs<|zs (yo aA)<|zo I<|M<|zr<|dU (_,_,_,_,_,_,_) hm
   .rintro⟨aZ,a2,a7,aQ,a4,a5,_⟩ hm;refine z3 E aC aB<|zs (ya 153)<|zs (yo aF)<|zo I<|M ?_;refine jn hm (Db aE aG ap aw ar ak am al an ao ay ag K L J G az Q ad ac af X D N C) [0,3,8,902006,902008,28034,25116,2143,1153] (λk (a,b,c,d,e,f,g)=>V 141 a<|V 154 b<|Y 155 (.rep [111,161] c)<|Y 156 (.rep [111,162] d)<|V3 157 e f g<|k) ?_ ?_
    .rintro⟨_,_,_,_,_,_,_⟩ hm;refine U<|z2 E xr ?_;refine il hm (Ix ap aw ar ak am al an ao ay ag K L J G az Q ad ac af X D N C) [0,902006,902008,24038,25116,2143] (λk (a,b,c,d,e,f,g,h)=>W 60 (.cP (aa.aK [tr a,(false,1,aa.ow [187] [188] 43 b),(false,1,aa.ow [189] [] 4 c),tr d,tr e,tr f]) (R1 g))<|V 141 h<|k) func365 cV ?_ ?_
     .refine λaH=>iu 2 [0] [902006,902008,28034,26116,2143] ?_;refine U<|zs (yb 163 aF)<|zs (ya 170)<|zo I<|M<|za<|bB hm λcw bs hm=>bB hm λcu bd hm=>?_;refine zQ aI (S:=p6 xl xc xf xf xP xr<|p6 xl xl (kC [0,110,111,112,113,114,116] 177 (EK _ _ bs)) (kC [111,161,162] 178 (Ve _ _ _ bd)) E aC<|o1 aB<|aq (sE (.ae 7 _::(kR 179 [_,_,_] (kK 179 3 []))) (ya 179))<|aq (sE (kR 179 [_,_,_] (.av 179::.bp 180::.bp 181::[])) (yo aF))<|o1 I<|aN) (h:=zt<|za<|U<|z2 E xq<|M<|zx hm λu hm=>zk<|zt<|U<|zo I<|M<|za<|U<|z4 xf xl xn E<|M<|zl<|bB hm λcg bR hm=>?_);refine lp bR [1,2,3,4,5,7,31,32,902006,902008,904000,28034,25116,2143,14163,3179] (λk (a,b,c)=>W 9 (.ow [185] [183,184] 43 a)<|Z 33 b<|V 141 c<|k) (λk (a,b)=>(.exit 0,W 9 (.ow [185] [183,184] 43 a)<|V 141 b<|k)) ?_ ?_
      .rintro⟨aM,aO,_⟩ cr hm;refine U<|zo xi<|M<|za<|zd hm (λu hm=>?_) λu hm=>?_
       .refine zk<|zt<|za<|zl<|U<|bB hm λb' bQ hm=>z3 (xI bQ) xD I<|M<|zb<|z5 E xl xl xl E ?_;refine il hm (Ft aM aO) [1,2,3,4,5,7,31,32,33,37,902006,902008,904000,28034,25116,2143,14163,3179] (λk (a,b)=>W 42 (.sl [183] [] a)<|V 141 b<|k) func348 cF ?_ ?_
        .refine λcx=>iu 3 [1,2,3,4,5,7,31,32,33,37] [902006,902008,904000,28034,26116,2143,14163,3179] ?_;refine U<|zo I<|M<|za<|bB hm λcc bH hm=>bB hm λaY bm hm=>?_;refine zQ aI (S:=p6 E xc xf xf xP E<|p6 E E (kC [0,110,111,112,113,114,116] 182 (EK _ _ bH)) E E (kC [0] 183 (MD _ _ _ _ _ bm))<|p5 E aC aB I I<|aN) (h:=zt<|U<|z4 E E xe E ?_);refine il hm (HZ aM aO aY) [9,902006,902008,904000,906001,906002,906003,906004,906005,906007,906031,906032,906033,906037,28034,25116,2143,14163,3179] (λk (a,b)=>Z 30 a<|V 141 b<|k) func340 cF ?_ ?_
         .refine λcz=>iu 4 [9] [902006,902008,904000,906001,906002,906003,906004,906005,906007,906031,906032,906033,906037,28034,26116,2143,14163,3179] ?_;refine U<|zo I<|M ?_;refine jn hm (CJ aM aO aY) [0,902006,902008,904000,906001,906002,906003,906004,906005,906007,906031,906032,906033,906037,908009,28034,25116,2143,14163,3179] (λk p=>V 141 p<|k) ?_ ?_
          .rintro cq hm;exact U<|z5 E xc xf xl xe<|zo I<|M<|zr<|bS (_,_) hm
          .refine U<|z5 E xc xf xl xe<|zo E<|g2 rfl rfl (λ_=>⟨E,xN⟩)<|zo xw<|M<|zd hm (λu hm=>?_) λu hm=>?_
           .exact zb<|z4 E E xc xf<|zs (yt)<|zw<|zJ _ hm
           .exact zk<|zJ _ hm
         .rintro⟨_,_⟩ hm;exact zz<|z2 E I<|M<|zr<|bS (_,_) hm
        .rintro⟨_,_⟩ hm;exact zo (xt [183] 184 [_])<|bB hm λcd bO hm=>zs (yA [183,184] bO)<|zo I<|zw<|zh<|zt<|zb<|z2 xy E<|zw<|zN hm
       .exact ze<|zE<|zB hm
      .intro _;refine zj<|zt<|za<|bB hm λci bZ hm=>?_;refine zQ aI (S:=p6 xl xc xf xf xP xr<|p6 xr E (kC [111,161,162,178,183,184,185] 186 (Sg _ _ _ _ bZ)) E aC aB<|p2 I I<|aN) (h:=zt<|za<|U<|z5 xl xc xf xl xq<|zo E<|g2 rfl rfl (λ_=>⟨E,xq⟩)<|zo xo<|M<|zx hm λu hm=>zk<|zt<|za<|bB hm λca bz hm=>?_);refine zQ aI (S:=p6 xl xc xf xf xP xr<|p4 E (kC [111,161,162,186] 187 (Ts _ _ _ bz)) aC aB<|aq (sE (kR 170 [_,_,_,_,_,_,_] (.av 170::(kK 171 6 []))) (yo aF))<|o1 I<|aN) (h:=zt<|zr ?_);exact dU (_,_,_,_,_,_,_,_) hm
     .rintro⟨aU,a0,a3,aR,a6,a1,_,_⟩ hm;refine z3 E aC aB<|zs (ya 190)<|zs (yo aF)<|zo I<|zz<|z4 E E xe E ?_;refine il hm (F5 ap aw ar ak am al an ao ay ag K L J G az Q ad ac af X D N C aU a0 a3 aR a6 a1) [0,12,902006,902008,24038,25116,2143,7190] (λk (a,b)=>Z 67 a<|V 141 b<|k) func340 cF ?_ ?_
      .refine λaH=>iu 2 [0,12] [902006,902008,24038,26116,2143,7190] ?_;refine U<|zo I<|M ?_;refine jn hm (AF ap aw ar ak am al an ao ay ag K L J G az Q ad ac af X D N C aU a0 a3 aR a6 a1) [0,902006,902008,904000,904012,24038,25116,2143,7190] (λk p=>V 141 p<|k) ?_ ?_
       .rintro cm hm;exact U<|z5 E xc xf xl xe<|zo I<|M<|zr<|bS (_,_) hm
       .refine U<|z5 E xc xf xl xe<|zo E<|g2 rfl rfl (λ_=>⟨E,xN⟩)<|zo xw<|M<|zd hm (λu hm=>?_) λu hm=>?_
        .exact zb<|z4 E E xc xf<|zs (yt)<|zw<|zJ _ hm
        .exact zk<|zJ _ hm
      .rintro⟨_,_⟩ hm;refine M<|zd hm (λu hm=>?_) λu hm=>?_
       .refine bB hm λcj bb hm=>?_;refine zQ aI (S:=p6 E E xc xf xf xP<|p6 E xc xf xf xl xr<|p6 (kC [110,111,187,188,189] 197 (vF _ _ _ bb)) E aC aB xc xf<|o1 xf<|aq (sE [.ae 100131 _,.ae 100116 _,.av 116,.bp 131] (yt))<|aN) (h:=?_);exact eW (dK (_,_) hm)
       .refine zk ?_;exact eW (dK (_,_) hm)
    .refine U<|z3 E xN E<|zg rfl rfl (λ_=>E)<|zo xw<|M<|zd hm (λu hm=>?_) λu hm=>?_
     .refine za<|bB hm λco bv hm=>?_;refine zQ aI (S:=p6 E xc xf xf xP E<|p6 xc xf xf xl (kC [110,111] 160 (vM _ _ bv)) E<|p4 aC aB I I<|aN) (h:=zt<|za<|U<|z2 E E ?_);refine il hm (OU aE aG ap aw ar ak am al an ao ay ag K L J G az Q ad ac af X D N C) [0,1,3,8,902006,902008,28034,25116,2143,7153] (λk (a,b)=>Z 41 a<|V 141 b<|k) func340 cF ?_ ?_
      .refine λaH=>iu 2 [0,1,3,8] [902006,902008,28034,26116,2143,7153] ?_;refine U<|zo I<|M ?_;refine jn hm (E4 aE aG ap aw ar ak am al an ao ay ag K L J G az Q ad ac af X D N C) [0,902006,902008,904000,904001,904003,904008,28034,25116,2143,7153] (λk p=>V 141 p<|k) ?_ ?_
       .rintro cb hm;exact U<|z5 E xc xf xl xe<|zo I<|M<|zr<|bS (_,_) hm
       .refine U<|z5 E xc xf xl xe<|zo E<|g2 rfl rfl (λ_=>⟨E,xN⟩)<|zo xw<|M<|zd hm (λu hm=>?_) λu hm=>?_
        .exact zb<|z4 E E xc xf<|zs (yt)<|zw<|zJ _ hm
        .exact zk<|zJ _ hm
      .rintro⟨_,_⟩ hm;refine zo xN<|M<|zd hm (λu hm=>?_) λu hm=>?_
       .exact zr<|zR<|zR<|dK (_,_) hm
       .exact zk<|zt<|zb<|z5 E xc xf xf xP<|zo E<|bB hm λch bA hm=>z4 (kC [] 161 (wi _ _ bA)) E aC aB<|zs (yo aF)<|zw<|zJ (_,_,_,_,_,_,_) hm
     .refine U<|z2 E E ?_;refine il hm (IW aE aG ap aw ar ak am al an ao ay ag K L J G az Q ad ac af X D N C aZ a2 a7 aQ a4 a5) [0,3,8,902006,902008,28034,25116,2143,7153] (λk (a,b)=>Z 55 a<|V 141 b<|k) func340 cF ?_ ?_
      .refine λaH=>iu 2 [0,3,8] [902006,902008,28034,26116,2143,7153] ?_;refine U<|zo I<|M ?_;refine jn hm (Cc aE aG ap aw ar ak am al an ao ay ag K L J G az Q ad ac af X D N C aZ a2 a7 aQ a4 a5) [0,902006,902008,904000,904003,904008,28034,25116,2143,7153] (λk p=>V 141 p<|k) ?_ ?_
       .rintro cn hm;exact U<|z5 E xc xf xl xe<|zo I<|M<|zr<|bS (_,_) hm
       .refine U<|z5 E xc xf xl xe<|zo E<|g2 rfl rfl (λ_=>⟨E,xN⟩)<|zo xw<|M<|zd hm (λu hm=>?_) λu hm=>?_
        .exact zb<|z4 E E xc xf<|zs (yt)<|zw<|zJ _ hm
        .exact zk<|zJ _ hm
      .rintro⟨_,_⟩ hm;refine zo xN<|M<|zd hm (λu hm=>?_) λu hm=>?_
       .exact zr<|zR<|dK (_,_) hm
       .exact zk<|zJ (_,_,_,_,_,_,_) hm
  .rintro⟨_,_⟩ hm;refine zz<|zo xl ?_;refine il hm Dl [6,24038] (λk (a,b,c,d,e,f,g,h,i,j,l,m,n)=>W 21 (.eV (aa.aK [(true,6,aa.rep [] a),tr b,(true,7,aa.rep [] c),(false,1,aa.ow [110,197] [111,198] 79 d),(true,5,aa.aK [tr e,tr f,tr g,tr h,(false,1,aa.ow [112] [] 133 i)]),(false,1,aa.ow [113] [0,114] 120 j),tr l,tr m]) (aa.dM) (R1 n))<|k) func339 cF ?_ ?_
   .refine λa8=>iu 1 [6] [24038,26116] ?_;refine U<|zs (ya 199)<|z2 I I<|M<|za<|U<|z5 E xc xf xl xq<|M<|zd hm (λu hm=>?_) λu hm=>?_
    .refine za ?_;refine zQ aI (S:=p5 bU E xc xf xl<|aq (sE (kR 199 [_,_,_,_,_,_,_,_,_,_,_,_,_,_,_,_,_,_,_,_,_,_,_,_] (.av 199::(kK 200 23 []))) (yo bT))<|p2 I I<|aN) (h:=zt<|zr<|zR ?_);exact jo (_,_,_,_,_,_,_,_,_,_,_,_,_) hm
    .refine zk<|zt<|za ?_;refine zQ aI (S:=p6 E xc xf hX E xc<|p2 xf xl<|aq (sE (kR 199 [_,_,_,_,_,_,_,_,_,_,_,_,_,_,_,_,_,_,_,_,_,_,_,_] (.av 199::(kK 200 23 []))) (yo bT))<|p2 I I<|aN) (h:=zt<|zr ?_);exact jo (_,_,_,_,_,_,_,_,_,_,_,_,_) hm
   .rintro⟨_,_,_,_,_,_,_,_,_,_,_,_,_⟩ hm;refine z4 E eJ eI eL<|zs (ya 223)<|zs (yo dW)<|z2 I I<|zz<|z2 xR E<|zs (yo bT)<|zo I<|M<|zr ?_;cases hm;exact bC
theorem WN:C2 370 wu (s2 (nn (.own 0 (some 1) 43) (.own 2 none 4))):=λay az r j=>(cv [[79],[80],[81]] func370) λ_ _=>by
 refine U<|zs (yb 10 aA)<|zs (yb 17 aA)<|zs (ya 24)<|zo I<|zz<|z2 xr xr ?_;refine il j FY [4,7024] (λk (a,b,c,d,e,f,g)=>W 8 (.cP (aa.aK [tr a,(false,1,aa.ow [79] [80] 43 b),(false,1,aa.ow [81] [] 4 c),tr d,tr e,tr f]) (R1 g))<|k) func388 cF ?_ ?_
 .refine λav=>iu 1 [4] [7024] ?_;refine U<|zs (yb 31 aF)<|zs (yb 38 aF)<|zs (yb 45 fc) ?_;refine ws (au.pR (ls:=[(false,1,aa.ef 390 [] [])]) 47 rfl rfl rfl rfl (eY.ef (ai rfl)))<|zs (ya 49)<|zo I<|zz<|z3 xr xr xF ?_;refine il j Bn [8,902004,7024,7049] (λk (a,b,c,d,e,f,g)=>W 13 (.cP (aa.aK [tr a,(false,1,aa.ow [79] [80] 43 b),(false,1,aa.ow [81] [] 4 c),tr d,tr e,tr f]) (R1 g))<|k) func267 cF ?_ ?_
  .refine λaE=>iu 2 [8] [902004,7024,11045] ?_;refine U<|zs (yb 56 aF)<|zs (yb 63 aF)<|zs (ya 70)<|zo I<|M<|za<|U<|z2 xr xr<|bB j λal w j=>z2 (kC [0] 77 (lj _ _ w)) I<|zz<|z2 E xq<|M<|zd j (λo j=>?_) λo j=>?_
   .exact zr<|zR<|dU ((0:Int),([]:List (List UInt8)),([]:List Bool),(0:UInt8),false,(0:UInt32),al) j
   .refine zk<|zt<|za<|U<|z3 E xi E<|g4 rfl rfl (λ_=>⟨E,xf,xl,xz⟩)<|zg rfl rfl (λ_=>xh)<|zo xo<|M<|zx j λo j=>zk<|zt<|za<|U<|zo E<|bB j λar z j=>zo (kC [] 78 (pz _ z))<|M<|zx j λo j=>zk<|zt<|U<|zo xr<|bB j λq B j=>zo (kC [0] 79 (qp _ B))<|zs (ya 82)<|zs (yo aF)<|M ?_;refine jn j zK [10,902004,904008,7024,7049,1070] (λk (a,b,c,d,e,f,g)=>Z 11 a<|V 71 b<|Y 72 (.ow [79] [80] 43 c)<|Y 73 (.ow [81] [] 4 d)<|V3 74 e f g<|k) ?_ ?_
    .rintro⟨af,ac,O,ae,D,G,X⟩ j;exact zr<|dU (ac,O,ae,D,G,X,af) j
    .refine U<|zo E ?_;refine il j (zS q) [10,12,902004,904008,7024,7049,7070,4082,1088] (λk (a,b,c)=>Z 34 a<|V2 86 b c<|k) func398 cV ?_ ?_
     .refine λaH=>iu 3 [10,12] [902004,904008,7024,11045,7070,7082] ?_;refine U<|zo I<|M<|za<|za<|bB j λao A j=>bB j λap C j=>?_;refine zQ aI (S:=p6 xl E xc xf xl (kC [] 89 (vH _ _ A))<|p2 xN E<|w3 (q3 (h:=λ_=>⟨xl,xe,xM⟩))<|aq (qu (h:=λ_=>E))<|aq (qu (h:=λ_=>xc))<|aq (qu (h:=λ_=>xf))<|aq (qu (h:=λ_=>xl))<|aq (cI.jY rfl rfl rfl (λo=>ah.jI [81] 90 rfl (by kernel_rfl) (px q.a_ true (bM C (ib (cS (iw o)) (jr o)))) (bX.cons (Has.m (aV (dD rfl o) (bq Cv.iS (Cv.iR (T':=[81]) rfl rfl))) rfl) (bX.cons (fG Has.bool) bX.nil))))<|aq (qu (h:=λ_=>xN))<|aq (qg (h:=λ_=>xW))<|o1 xo<|aN) (h:=zt<|zd j (λo j=>?_) λo j=>?_)
      .exact U<|zo I<|M<|zr<|zR<|bS ((6:Int),q.aG,q.cG) j
      .refine zk<|zt<|U ?_;refine wo (ic (α:=Int) (i:=0) cj.h rfl (aV (ai rfl) (Cv.eG rfl)) rfl (aW rfl))<|zo E ?_;refine il j (Gb q) [902004,904008,906010,906012,7024,7049,7070,4082,1088] (λk p=>W 26 (.top)<|V2 86 ((4:UInt8):UInt8) false<|k) func390 cV ?_ ?_
       .refine λaw=>iu 4 [] [902004,904008,906010,906012,7024,7049,7070,7082] ?_;refine zb<|z4 E E xc xf ?_;refine ws (au.nj (i:=3) (f:=aa.rep [] ((4:UInt8):UInt8)) rfl iz rfl (ai rfl) rfl (Has.u8 4 rfl) (Has.u8 4 rfl) rfl)<|z2 xc xf<|zs (yt)<|zw ?_;exact eW (dK () j)
       .rintro _ j;exact zz<|zo I<|M<|zr<|bS ((0:Int),(4:UInt8),false) j
     .rintro⟨u,Q,J⟩ j;refine zo I<|zz<|z2 E xe<|M<|zd j (λo j=>?_) λo j=>?_
      .exact zb<|zo xr<|zs (yo aF)<|zw<|zJ (u,q.L,q.aJ,q.a_,Q,J,q.Seq) j
      .exact zk<|zJ (u,(0:Int),([]:List (List UInt8)),([]:List Bool),(0:UInt8),false,(0:UInt32)) j
  .rintro⟨am,an,ag,N,ad,K,ak⟩ j;exact z2 aC aB<|zs (yo aF)<|zo I<|M<|zr<|dU (am,an,ag,N,ad,K,ak) j
 .rintro⟨_,_,_,_,_,_,_⟩ j;refine z2 aC aB<|zs (yo aF)<|zo I<|M<|zr ?_;cases j;exact bC
theorem Wb:C3 371 BI (s2 (.own 0 (some 1) 233)):=λG A D r a=>(cv [[35],[36]] func371) λ_ _=>by refine U<|zs (yb 10 aA)<|zs (yb 17 aA)<|z2 I I<|M<|za<|U<|z2 xr xr<|bB a λC w a=>z2 (kC [0] 24 (lj _ _ w)) I<|zz<|z2 E xq<|M<|zx a λj a=>zk<|zt<|za<|U<|z2 xr E<|bB a λz u a=>z2 (kC [] 25 (QJ _ _ u)) xN<|M<|zx a λj a=>zk<|zt<|U<|z2 xr xr<|bB a λB o a=>z4 (kC [0] 26 (LK _ _ o)) E aC aB<|zs (ya 30)<|zs (yo aF)<|zo I<|M<|za<|U<|z2 E xq<|M<|zx a λj a=>zk<|zt<|U<|z3 xr E xr<|bB a λJ q a=>z5 (kC [26,27,28,29] 35 (Kt _ _ _ q)) aC aB I I<|M<|zr ?_;cases a;exact bC
end
end
end Go.Proofs.YthpphdegpinepaaGreat
