/- Part of the proof of TopAny. -/
import Derived.Test.YthpphdegpinepaaGreatW2B
namespace Go.Proofs.YthpphdegpinepaaGreat
open Go GL Tryz
open Go.Proofs.Tryz renaming prog -> H
open And renaming left -> iw, right -> jr
set_option linter.all false
set_option maxRecDepth 100000
set_option maxHeartbeats 20000000
noncomputable section
section
attribute [local irreducible] aO br aH GL.ah GL.au
theorem Wj:C3 128 Dr (s3 (gv (.own 0 (some 1) 79) (.own 2 none 133) (.own 0 none 120)) (.own 3 (some 4) 233)):=λb7 b8 u r j=>(cv [[169],[170],[87,148],[90,123],[88,89,117,118,121,122,136,137,138,145,146,147,149,150,151]] func128) λ_ _=>by
 refine U<|zs (ya 10)<|z2 I I<|zz<|z2 E E<|bB j λq bi j=>z5 (kC [0] 34 (VS _ _ bi)) E we x_ yU<|zo wa<|zs (ya 35)<|zs (ya 42)<|zs (yo aA)<|zs (yo aA)<|z2 I I<|M<|za<|U<|zo E<|zo xq<|M<|zd j (λo j=>?_) λo j=>?_
 .refine U<|z2 bU E<|zs (yo bT)<|z2 I I<|M<|zr<|zR ?_;cases j;exact dL
 .refine zk<|zt<|U<|z5 xr E xr bU bU<|zs (yb 50 bT)<|zs (ya 76) ?_;refine ws (au.tZ (i:=0) (f:=aa.aL 50) rfl Vg rfl (aV (ai rfl) (Cv.eG rfl)) rfl (One.obj (ai rfl) rfl) (ai rfl) rfl)<|M<|za<|bB j λb6 bg j=>bB j λN be j=>?_;refine zQ aI (S:=p6 xr E xf xl (xI bg) xd<|p5 (kC [0] 78 (YV _ _ be)) E eJ eI eL<|aq (sE (.ae 14 _::(kR 80 [_,_,_,_,_] (kK 80 5 []))) (ya 80))<|aq (sE [.ae 15 _,.ae 100085 _,.ae 100086 _,.bp 85,.bp 86] (ya 85))<|aq (sE (kR 80 [_,_,_,_,_] (.av 80::(kK 81 4 []))) (yo aA))<|aq (sE [.ae 100086 _,.ae 100085 _,.av 85,.bp 86] (yt))<|o1 I<|aN) (h:=zt<|za<|U<|z2 E xq<|M<|zd j (λo j=>?_) λo j=>?_)
  .refine za<|U<|z2 E E<|zg rfl rfl (λ_=>E)<|zo xo<|M<|zd j (λo j=>?_) λo j=>?_
   .refine U<|zo bU<|zs (yo bT)<|z2 I I<|M<|zr<|zR<|zR ?_;cases j;exact dL
   .refine zk<|zt<|U<|z5 xl xc xf xf xf<|zs (yt)<|M<|za<|bB j λL bl j=>?_;refine zQ aI (S:=p6 xl (kC [] 87 (KI _ _ _ bl)) E aC aB xc<|p2 xf xf<|aq (sE (.ae 100050 _::(kR 66 [_,_,_,_,_] (.av 50::(kK 66 5 [])))) (yS 15 20 (hx:=aF)))<|aN) (h:=zt<|U<|z2 xl xF ?_);refine il j (DW u q L) [6,13,24010,8050,9065,2076] (λk (a,b,c,d,e,f,g,h,i)=>W 68 (.top)<|V7 58 a b c d e f g<|Y 74 (.ow [90] [88,89] 233 h)<|V 75 i<|k) func183 cF ?_ ?_
    .refine λz=>iu 1 [6,13] [24010,28050] ?_;refine za<|U<|z5 E xc xf xl xq<|M<|zF<|zk<|zt<|U<|zo I<|zz<|z2 E E ?_;refine il j (Jn u q L) [0,11,902006,902013,24010,8050,13065] (λk (a,b,c,d,e,f,g,h,i)=>W 13 (.cP (aa.ow [88] [89] 233 a) (R1 b))<|V7 58 c d e f g h i<|k) func184 cV ?_ ?_
     .refine λO=>iu 2 [0,11] [902006,902013,24010,28050] ?_;refine U<|z2 I I<|zz<|zo xl ?_;refine il j (EH u q L) [902006,902013,904000,904011,24010,8050,13065] (λk (a,b,c,d,e,f,g,h,i)=>W 4 (.cP (aa.ow [88] [89] 233 a) (R1 b))<|V7 58 c d e f g h i<|k) func185 cF ?_ ?_
      .refine λar=>iu 3 [] [902006,902013,904000,904011,24010,28050] ?_;refine U<|z2 I I<|M<|za<|bB j λbS a4 j=>?_;refine zQ aI (S:=p6 E E xc xf xf xP<|p6 E xc xf xf xP E<|p6 (kC [] 88 (Hi _ _ _ a4)) E eJ eI eL xc<|p2 xf xf<|aq (sE (.ae 100050 _::(kR 58 [_,_,_,_,_,_,_] (.av 50::(kK 58 7 [])))) (yS 7 14 (hx:=aA)))<|p2 I I<|aN) (h:=zt<|U<|z4 E E I I<|M<|zr ?_);exact dU (_,_,_,_,_,_,_,_,_) j
      .rintro⟨_,_,_,_,_,_,_,_,_⟩ j;exact z4 aC aB I I<|M<|zr<|dU (_,_,_,_,_,_,_,_,_) j
     .rintro⟨_,_,_,_,_,_,_,_,_⟩ j;refine z5 E aC aB I xc<|zo xf<|zs (yt)<|zz<|z5 E xc xf xl xe<|M<|zd j (λo j=>?_) λo j=>?_
      .refine zb<|z5 E E xc xf xl<|zo E<|bB j λbR ba j=>z3 (xv [88,89] 90 ba) xc xf<|zs (yt)<|zw ?_;exact eW (dK (_,_,_,_,_,_,_,_,_) j)
      .refine zk ?_;exact eW (dK (_,_,_,_,_,_,_,_,_) j)
    .rintro⟨_,_,_,_,_,_,_,_,_⟩ j;refine zz<|zo xl ?_;refine il j AA [6,24010] (λk (a,b,c,d,e,f,g,h,i,Q,l)=>W 70 (.eV (aa.aK [(true,6,aa.rep [] a),tr b,(true,7,aa.rep [] c),(false,1,aa.dM),(true,5,aa.aK [tr d,tr e,tr f,tr g,(false,1,aa.ow [87] [] 133 h)]),(false,1,aa.dM),tr i,tr false]) (aa.ow [90] [88,89] 233 Q) (R1 l))<|k) func186 cF ?_ ?_
     .refine λz=>iu 1 [6] [24010,26050] ?_;refine U<|zs (ya 91)<|z2 I I<|M<|za<|U<|z5 E xc xf xl xq<|M<|zd j (λo j=>?_) λo j=>?_
      .refine za ?_;refine zQ aI (S:=p5 bU E xc xf xl<|aq (sE (kR 91 [_,_,_,_,_,_,_,_,_,_,_,_,_,_,_,_,_,_,_,_,_,_,_,_] (.av 91::(kK 92 23 []))) (yo bT))<|p2 I I<|aN) (h:=zt<|zr<|zR ?_);exact jo (_,_,_,_,_,_,_,_,_,_,_) j
      .refine zk<|zt<|za ?_;refine zQ aI (S:=p6 E xc xf hX E xc<|p2 xf xl<|aq (sE (kR 91 [_,_,_,_,_,_,_,_,_,_,_,_,_,_,_,_,_,_,_,_,_,_,_,_] (.av 91::(kK 92 23 []))) (yo bT))<|p2 I I<|aN) (h:=zt<|zr ?_);exact jo (_,_,_,_,_,_,_,_,_,_,_) j
     .rintro⟨_,_,_,_,_,_,_,_,_,_,_⟩ j;refine z3 eJ eI eL<|zs (yo dW)<|z2 I I<|M<|zr<|zR ?_;cases j;exact dL
  .refine zk<|zt<|U<|zs (ya 115)<|zz<|z2 xl xF ?_;refine il j (wY u q N) [6,13,14,15,16,24010,24050,2076,7080,1115] (λk (a,b,c)=>W 76 (.top)<|Y 116 (.ow [119] [120] 342 a)<|Y 74 (.ow [123] [117,118,121,122] 233 b)<|V 75 c<|k) func183 cF ?_ ?_
   .refine λz=>iu 1 [6,13,14,15,16] [24010,7035,28050,7080,2115] ?_;refine za<|U<|z5 E xc xf xl xq<|M<|zF<|zk<|zt<|U<|zo I<|zz<|z2 E E ?_;refine il j (FH u q N) [0,11,902006,902013,902014,902015,902016,24010,28050,7080,1115] (λk (a,b,c)=>W 13 (.cP (aa.ow [117] [118,121,122] 233 a) (R1 b))<|Y 116 (.ow [119] [120] 342 c)<|k) func187 cV ?_ ?_
    .refine λO=>iu 2 [0,11] [902006,902013,902014,902015,902016,24010,7035,28050,7080,2115] ?_;refine U<|z2 I I<|M ?_;refine jn j (yc u q N) [902006,902013,902014,902015,902016,904000,904011,24010,28050,7080,1115] (λk (a,b,c)=>W 4 (.ow [117] [118,121,122] 233 a)<|Z 5 b<|Y 116 (.ow [119] [120] 342 c)<|k) ?_ ?_
     .rintro⟨_,_,_⟩ j;exact U<|z4 E E I I<|M<|zr<|dU (_,_,_) j
     .refine za<|bB j λbq aQ j=>?_;refine zQ aI (S:=p6 xr xl xc xf xf xP<|p6 xl (kC [78,79] 117 (TM _ _ _ aQ)) E eJ eI eL<|o1 I<|aq (sE [.ae 100116 _,.ae 100115 _,.av 115,.bp 116] (yt))<|o1 I<|aN) (h:=zt<|U<|z3 E xn xg<|M<|zd j (λo j=>?_) λo j=>?_)
      .exact U<|zo xr<|bB j λbs az j=>z5 (kC [] 121 (QF _ az)) E aC aB I<|zo I<|M<|zb<|z2 E E<|bB j λbG aH j=>zs (yA [118,121,122] aH)<|zo I<|zw<|zJ (_,_,_) j
      .exact zk<|zJ (_,_,_) j
    .rintro⟨_,_,_⟩ j;refine z5 E aC aB I xc<|zo xf<|zs (yt)<|zz<|z5 E xc xf xl xe<|M<|zd j (λo j=>?_) λo j=>?_
     .refine zb<|z5 E E xc xf xl<|zo E<|bB j λbD ay j=>z3 (xv [117,118,121,122] 123 ay) xc xf<|zs (yt)<|zw ?_;exact eW (dK (_,_,_) j)
     .refine zk ?_;exact eW (dK (_,_,_) j)
   .rintro⟨w,J,_⟩ j;refine zz<|z2 xl xF ?_;refine il j (uL u q w) [6,13,16,24010,16050,3071,2076,2115] (λk (a,b,c,d,e,f,g)=>W 79 (.top)<|V4 66 a b c d<|Y 70 (.ow [148] [] 133 e)<|Y 74 (.ow [123] [117,118,121,122,136,137,138,145,146,147,149] 233 f)<|V 75 g<|k) func183 cF ?_ ?_
    .refine λz=>iu 1 [6,13,16] [24010,28050,7080,2115] ?_;refine za<|U<|z5 E xc xf xl xq<|M<|zd j (λo j=>?_) λo j=>?_
     .exact zr<|zR<|dK (_,_,_,_,_,_,_) j
     .refine zk<|zt<|U<|zo I<|zz<|z2 E E ?_;refine il j (C8 u q w J) [0,11,902006,902013,902016,24010,16050,7071,2115] (λk (a,b,c,d,e,f,g)=>W 13 (.cP (aa.ow [138] [136,137,145,146,147,149] 233 a) (R1 b))<|V4 66 c d e f<|Y 70 (.ow [148] [] 133 g)<|k) func189 cV ?_ ?_
      .refine λO=>iu 2 [0,11] [902006,902013,902016,24010,28050,7080,2115] ?_;refine U<|z2 I I<|zz<|z4 xl xr xl xl ?_;refine il j (pO u q w J) [902006,902013,902016,904000,904011,24010,16050,7071,2115] (λk (a,b,c,d,e,f,g)=>W 10 (.cP (aa.ow [138] [136,137,145,146,147,149] 233 a) (R1 b))<|V4 66 c d e f<|Y 70 (.ow [148] [] 133 g)<|k) func190 cF ?_ ?_
       .refine λar=>iu 3 [] [902006,902013,902016,904000,904011,24010,28050,2115] ?_;refine U<|zs (yb 124 aF)<|z2 I I<|zz<|z4 E xr E E<|bB j λX a0 j=>z4 (kC [50,78,79,117,118,119,120,121,122,123] 129 (WG _ _ _ _ a0)) E aC aB<|zs (ya 130)<|zs (yo aF)<|zo I<|M<|za<|U<|z2 E xN<|M<|zd j (λo j=>?_) λo j=>?_
        .exact U<|z2 I I<|M<|zr<|zR<|dU (_,_,_,_,_,_,_) j
        .refine zk<|zt<|U<|z5 E xc xf xf xf<|z2 xl I<|M<|za<|bB j λK aU j=>?_;refine zQ aI (S:=p6 E xc xf xf xf xl<|p6 xf xl xf xl xf xl<|p6 bU (kC [] 136 (AI _ aU)) E aC aB I<|o1 I<|aN) (h:=zt<|za<|U<|z2 E xq<|M<|zx j λo j=>zk<|zt ?_);refine jn j (wK u q w J X K) [0,3,10,12,13,902006,902013,902016,904000,904011,24010,28050,2115,6130] (λk p=>W 8 (.ow [138] [137] 233 p)<|k) ?_ ?_
         .rintro bE j;refine za<|U<|z3 E xn E<|M<|zl<|bB j λa7 aR j=>?_;refine lp aR [0,3,10,12,13,64,65,902006,902013,902016,904000,904011,24010,28050,2115,1130] (λk (a,b,c,d,e,f,g)=>W 8 (.ow [138] [137,145,146] 233 a)<|Z 66 b<|V4 131 c d e f<|Y 135 (.ow [129,144] [] 133 g)<|k) (λk=>Sum.elim (λb=>(.ret,W 8 (.dM)<|Z 9 b<|k)) (λ(a,b,c,d,e,f)=>(.exit 0,W 8 (.ow [138] [137,145,146] 233 a)<|V4 131 b c d e<|Y 135 (.ow [129,144] [] 133 f)<|k))) ?_ ?_
          .rintro⟨_,_,_,_,_,_,_⟩ bv j;refine U<|zo xi<|M<|za<|zd j (λo j=>?_) λo j=>?_
           .refine zk<|zt<|za<|zl<|U<|bB j λbM aG j=>z2 (xJ aG) xs<|zs (ya 139)<|zs (yo aA)<|zz<|zo I<|M<|za<|za<|bB j λbz aM j=>?_;refine zQ aI (S:=p6 E xc xf xf xP xr<|p6 xr (kC [120,129,144] 144 (Mp _ _ _ aM)) E eJ eI eL<|aq (sE (kR 130 [_,_,_,_,_,_] (.av 130::(kK 131 5 []))) (yo aF))<|p2 I I<|aN) (h:=zt<|U<|z2 E xq<|M<|zd j (λo j=>?_) λo j=>?_)
            .exact U<|z3 E I I<|M<|zr<|zR<|zi<|zR<|zB j
            .exact zk<|zt<|zb<|z2 E E<|bB j λbC aY j=>zs (yA [137,145,146] aY)<|zo I<|zw<|zh<|zt<|zb<|z2 xy E<|zw<|zN j
           .exact ze<|zE<|zB j
          .intro _;rcases a7 with bJ|a'
           .have j:=fN j;exact zi<|zR<|dU (_,_,_,_,_,_,_) j
           .have j:=fI j;refine zj<|zt ?_;refine jn j (xZ u q w J K a') [0,10,12,13,902006,902013,902016,904000,904011,24010,28050,2115,6130] (λk p=>W 8 (.ow [138] [137,145,146,147] 233 p)<|k) ?_ ?_
            .rintro bL j;refine za<|bB j λbI aZ j=>?_;refine zQ aI (S:=p6 E E xc xf xf xP<|p6 xr (kC [129,144] 148 (OY _ _ aZ)) E aC aB xc<|p2 xf xf<|aq (sE (.ae 100050 _::(kR 66 [_,_,_,_,_] (.av 50::(kK 66 5 [])))) (yS 15 20 (hx:=aF)))<|o1 I<|aN) (h:=zt<|U<|z5 E E E bU (xt [136] 149 [(cd.mk q.1.aw (2:UInt8) (0:Int) K.1)])<|bB j λbH a3 j=>zs (yA [136,137,145,146,147,149] a3)<|z3 E I I<|M<|zr ?_);exact dU (_,_,_,_,_,_,_) j
            .refine U<|z3 E xn xg<|M<|zd j (λo j=>?_) λo j=>?_
             .exact zb<|z4 E E bU (xt [] 147 [(cd.mk q.1.aw (3:UInt8) (0:Int) ([]:List UInt8))])<|bB j λbr a2 j=>zs (yA [137,145,146,147] a2)<|zo I<|zw<|zJ _ j
             .exact zk<|zJ _ j
         .refine U<|z3 E xn xg<|M<|zd j (λo j=>?_) λo j=>?_
          .exact zb<|z5 E E xf xl xy<|z2 bU (xt [] 137 [(cd.mk q.1.aw (2:UInt8) (wI ((1:Int)+X.1.ca)) ([]:List UInt8))])<|bB j λbn aE j=>z2 (xv [137] 138 aE) I<|zw<|zJ _ j
          .exact zk<|zJ _ j
       .rintro⟨_,_,_,_,_,_,_⟩ j;exact z4 aC aB I I<|M<|zr<|dU (_,_,_,_,_,_,_) j
      .rintro⟨_,_,_,_,_,_,_⟩ j;refine z5 E aC aB I xc<|zo xf<|zs (yt)<|zz<|z5 E xc xf xl xe<|M<|zd j (λo j=>?_) λo j=>?_
       .refine zb<|z5 E E xc xf xl<|zo E<|bB j λbw aO j=>zs (yA [117,118,121,122,136,137,138,145,146,147,149] aO)<|z2 xc xf<|zs (yt)<|zw ?_;exact eW (dK (_,_,_,_,_,_,_) j)
       .refine zk ?_;exact eW (dK (_,_,_,_,_,_,_) j)
    .rintro⟨D,C,A,B,G,ao,_⟩ j;refine zz<|z2 xl xF ?_;refine il j (ru u q w D C A B G) [6,13,16,24010,8050,9065,2076,2115] (λk (a,b,c,d,e,f,g,h,i)=>W 82 (.top)<|V7 58 a b c d e f g<|Y 74 (.ow [123] [117,118,121,122,136,137,138,145,146,147,149,150,151] 233 h)<|V 75 i<|k) func183 cF ?_ ?_
     .refine λz=>iu 1 [6,13,16] [24010,28050,2115] ?_;refine za<|U<|z5 E xc xf xl xq<|M<|zd j (λo j=>?_) λo j=>?_
      .exact zr<|zR<|dK (_,_,_,_,_,_,_,_,_) j
      .refine zk<|zt<|U<|zo I<|zz<|z2 E E ?_;refine il j (Ga u q w D C A B G ao) [0,11,902006,902013,902016,24010,8050,13065,2115] (λk (a,b,c,d,e,f,g,h,i)=>W 13 (.cP (aa.ow [150] [151] 233 a) (R1 b))<|V7 58 c d e f g h i<|k) func191 cV ?_ ?_
       .refine λO=>iu 2 [0,11] [902006,902013,902016,24010,28050,2115] ?_;refine U<|z2 I I<|zz<|zo xl ?_;refine il j (FK u q w D C A B G ao) [902006,902013,902016,904000,904011,24010,8050,13065,2115] (λk (a,b,c,d,e,f,g,h,i)=>W 4 (.cP (aa.ow [150] [151] 233 a) (R1 b))<|V7 58 c d e f g h i<|k) func185 cF ?_ ?_
        .refine λar=>iu 3 [] [902006,902013,902016,904000,904011,24010,28050,2115] ?_;refine U<|z2 I I<|M<|za<|bB j λbA aJ j=>?_;refine zQ aI (S:=p6 E E xc xf xf xP<|p6 E xc xf xf xP E<|p6 (kC [] 150 (Hi _ _ _ aJ)) E eJ eI eL xc<|p2 xf xf<|aq (sE (.ae 100050 _::(kR 58 [_,_,_,_,_,_,_] (.av 50::(kK 58 7 [])))) (yS 7 14 (hx:=aA)))<|p2 I I<|aN) (h:=zt<|U<|z4 E E I I<|M<|zr ?_);exact dU (_,_,_,_,_,_,_,_,_) j
        .rintro⟨_,_,_,_,_,_,_,_,_⟩ j;exact z4 aC aB I I<|M<|zr<|dU (_,_,_,_,_,_,_,_,_) j
       .rintro⟨_,_,_,_,_,_,_,_,_⟩ j;refine z5 E aC aB I xc<|zo xf<|zs (yt)<|zz<|z5 E xc xf xl xe<|M<|zd j (λo j=>?_) λo j=>?_
        .refine zb<|z5 E E xc xf xl<|zo E<|bB j λbm a1 j=>zs (yA [117,118,121,122,136,137,138,145,146,147,149,150,151] a1)<|z2 xc xf<|zs (yt)<|zw ?_;exact eW (dK (_,_,_,_,_,_,_,_,_) j)
        .refine zk ?_;exact eW (dK (_,_,_,_,_,_,_,_,_) j)
     .rintro⟨af,al,ac,ap,ak,ag,an,ad,am⟩ j;refine M ?_;refine jn j (wj u q D C A B G af al ac ap ak ag an ad am) [6,13,24010,15050,12066] (λk p=>Y 65 (.ow [169] [170] 79 p)<|k) ?_ ?_
      .rintro b4 j;refine U<|zo xl ?_;refine il j wF [6,24010] (λk (a,b,c,d,e,f,g,h,i,Q,l,m)=>W 92 (.eV (aa.aK [(true,6,aa.rep [] a),tr b,(true,7,aa.rep [] c),(false,1,aa.ow [169] [170] 79 d),(true,5,aa.aK [tr e,tr f,tr g,tr h,(false,1,aa.ow [148] [] 133 i)]),(false,1,aa.dM),tr Q,tr false]) (aa.ow [123] [117,118,121,122,136,137,138,145,146,147,149,150,151] 233 l) (R1 m))<|k) func186 cF ?_ ?_
       .refine λz=>iu 1 [6] [24010,26050] ?_;refine U<|zs (ya 171)<|z2 I I<|M<|za<|U<|z5 E xc xf xl xq<|M<|zd j (λo j=>?_) λo j=>?_
        .refine za ?_;refine zQ aI (S:=p5 bU E xc xf xl<|aq (sE (kR 171 [_,_,_,_,_,_,_,_,_,_,_,_,_,_,_,_,_,_,_,_,_,_,_,_] (.av 171::(kK 172 23 []))) (yo bT))<|p2 I I<|aN) (h:=zt<|zr<|zR ?_);exact jo (_,_,_,_,_,_,_,_,_,_,_,_) j
        .refine zk<|zt<|za ?_;refine zQ aI (S:=p6 E xc xf hX E xc<|p2 xf xl<|aq (sE (kR 171 [_,_,_,_,_,_,_,_,_,_,_,_,_,_,_,_,_,_,_,_,_,_,_,_] (.av 171::(kK 172 23 []))) (yo bT))<|p2 I I<|aN) (h:=zt<|zr ?_);exact jo (_,_,_,_,_,_,_,_,_,_,_,_) j
       .rintro⟨_,_,_,_,_,_,_,_,_,_,_,_⟩ j;refine z3 eJ eI eL<|zs (yo dW)<|z2 I I<|M<|zr ?_;cases j;exact dL
      .refine U<|z5 xl xc xf xl xe<|M<|zd j (λo j=>?_) λo j=>?_
       .refine zb<|z2 xl xl ?_;refine il j (Hp u q D C A B G af al ac ap ak ag an ad am) [6,13,24010,15050,12066] (λk p=>W 90 (.top)<|Y 65 (.ow [169] [170] 79 p)<|k) func192 cF ?_ ?_
        .refine λz=>iu 1 [6,13] [24010,28050] ?_;refine U<|z3 E xn E<|M<|zl<|bB j λb5 a9 j=>?_;refine lp a9 [0,10,11,902006,902013,24010,15050,12066] (λk (a,b)=>Z 12 a<|Y 65 (.ow [169] [170] 79 b)<|k) (λk b=>(.exit 0,Y 65 (.ow [169] [170] 79 b)<|k)) ?_ ?_
         .rintro⟨_,_⟩ bV j;refine U<|zo xi<|M<|za<|zd j (λo j=>?_) λo j=>?_
          .refine zk<|zt<|za<|zl<|U<|bB j λb0 a8 j=>z2 (xJ a8) xs<|zs (ya 152)<|zs (yo aA)<|M<|za<|bB j λbQ bd j=>?_;refine zQ aI (S:=p6 E xc xf xf xP xf<|p5 xl (kC [] 157 (wi _ _ bd)) E aC aB<|aq (sE (.ae 6 _::(kR 159 [_,_,_,_,_,_,_] (kK 159 7 []))) (ya 159))<|aq (sE (kR 159 [_,_,_,_,_,_,_] (.av 159::(kK 160 6 []))) (yo aF))<|o1 I<|aN) (h:=zt<|za<|U<|z4 xf xl xn E<|M<|zl<|bB j λb2 a_ j=>?_);refine lp a_ [0,5,6,10,11,12,28,29,902006,902013,24010,28050,5152,1159] (λk (a,b,c,d,e,f,g)=>Z 30 a<|V 160 b<|Y 161 (.ow [157,166] [167] 43 c)<|Y 162 (.ow [158,168] [] 4 d)<|V3 163 e f g<|k) (λk (a,b,c,d,e,f)=>(.exit 2,V 160 a<|Y 161 (.ow [157,166] [167] 43 b)<|Y 162 (.ow [158,168] [] 4 c)<|V3 163 d e f<|k)) ?_ ?_
           .rintro⟨_,_,_,_,_,_,_⟩ bP j;refine U<|zo xi<|M<|za<|zd j (λo j=>?_) λo j=>?_
            .refine zk<|zt<|za<|zl<|U<|zo E<|bB j λbN bb j=>z4 (xI bb) xD I I<|M<|bB j λbZ bc j=>bB j λbO a5 j=>?_;exact zQ aI (S:=p6 E xc xf xf xP xr<|p6 E xf xl E (xI bc) xd<|p4 (kC [120,157,158,166,167,168] 166 (KY _ _ _ _ a5)) E aC aB<|aq (sE (kR 159 [_,_,_,_,_,_,_] (.av 159::(kK 160 6 []))) (yo aF))<|aN) (h:=zh<|zt<|zb<|z2 xy E<|zw<|zN j)
            .exact ze<|zE<|zB j
           .intro _;refine zj<|zt<|U<|zo xf<|zs (yt)<|M<|bB j λb3 a6 j=>?_;exact zQ aI (S:=p6 E E xc xf xf xP<|p6 E xc xf xf xl xr<|p6 (kC [157,158,166,167,168,169,170] 169 (vF _ _ _ a6)) E aC aB xc xf<|o1 xf<|aq (sE [.ae 100065 _,.ae 100050 _,.av 50,.bp 65] (yt))<|aN) (h:=zh<|zt<|zb<|z2 xy E<|zw<|zN j)
          .exact ze<|zE<|zB j
         .intro _;refine zj ?_;exact eW (dK _ j)
        .rintro b1 j;exact zw<|zJ _ j
       .exact zk<|zJ _ j
theorem Qq(a0){r}(a:CI a0=some r):CT 77 [.ptr 0 a0] (.eV (gv (.own 2 (some 0) 79) (.own 1 none 133) (.own 2 none 120) r.1) (.own 3 (some 4) 233 r.2.1) (.fl r.2.2)) []:=by refine cw [[35],[36],[34],[37],[38]] func77 λw0 om=>?_;refine U<|zs (ya 10)<|z2 I I<|M<|za<|bB a λo j a=>?_;refine zQ aI (S:=p6 E xC xp xp xd E<|p6 xC xp xp xp xp xD<|p6 E xC xp xp xp xD<|p5 (kC [0] 34 (Wj _ _ _ j)) E eJ eI eL<|aq (sE (.ae 5 _::(kR 39 [_,_,_,_,_,_,_,_,_,_,_,_,_,_,_,_,_,_,_,_,_,_,_,_] (kK 39 24 []))) (ya 39))<|aq (sE (kR 39 [_,_,_,_,_,_,_,_,_,_,_,_,_,_,_,_,_,_,_,_,_,_,_,_] (.av 39::(kK 40 23 []))) (yo dW))<|p2 I I<|aN) (h:=zt<|U<|z5 E xC xp xp xp<|z2 xD xf<|zs (yt)<|zz<|z3 xR E E<|zs (yo bT)<|z2 I I<|M<|zr ?_);cases a;exact dL
theorem S6:C1 177 DR (.own 0 (some 1) 96):=λC r j=>(cv [[19],[14,15,16,17,18]] func177) λ_ _=>by
 refine U<|zo I<|zz<|zo I<|M<|za<|U<|z3 E xn E<|M<|zl<|bB j λJ o j=>?_;refine lp o [6,7] (λk (a,b)=>W 3 (.ow [19] [14,15,16,17,18] 96 a)<|Z 8 b<|k) (λk b=>(.exit 0,W 3 (.ow [19] [14,15,16,17,18] 96 b)<|k)) ?_ ?_
 .rintro⟨_,_⟩ B j;refine U<|zo xi<|M<|za<|zd j (λA j=>?_) λA j=>?_
  .exact zk<|zt<|za<|zl<|U<|bB j λD u j=>z2 (xI u) xd<|zs (ya 10)<|zs (yo aA)<|M<|zb<|z2 E xr<|bB j λz q j=>z2 (kC [0] 14 (uF _ q)) (xt [14,15,16,17] 18 [z])<|bB j λG w j=>zs (yA [14,15,16,17,18] w)<|zo I<|zw<|zh<|zt<|zb<|z2 xy E<|zw<|zN j
  .exact ze<|zE<|zB j
 .intro _;refine zj<|zt<|U<|z2 E I<|M<|zr ?_;cases j;exact az
theorem Zu:C3 243 AO (s2 (qj (.own 0 (some 1) 43) (.own 2 (some 3) 123))):=λG z D r a=>(cv [[19],[20],[21],[22,23,24]] func243) λ_ _=>by
 refine U<|zs (yb 10 aA)<|zs (ya 14)<|zo I<|M<|za<|U<|z3 xr E E<|bB a λC w a=>z2 (kC [0] 18 (NY _ _ _ w)) I<|zz<|z2 E xq<|M<|zx a λj a=>zk<|zt<|za<|U<|z4 xf xl xn xe<|M<|zd a (λj a=>?_) λj a=>?_
 .refine U<|zo bU<|zs (yo aF)<|zo I<|M<|zr<|zR ?_;cases a;exact bC
 .refine zk<|zt<|U<|zo xr<|bB a λB u a=>zo (kC [0] 19 (uF _ u))<|zs (yo aF)<|M<|za<|bB a λA o a=>bB a λJ q a=>?_;refine zQ aI (S:=p6 xf xl E E (kC [0] 23 (AK _ o)) bU<|o1 (xt [23] 24 [(fB.mk z A)])<|aq (sE [.ae 31 _,.av 21] (yA [22,23,24] q))<|o1 xf<|aq (sE [.ae 100012 _,.ae 100010 _,.av 10,.bp 12] (yt))<|aN) (h:=zt<|U<|zo xr<|zs (yo aF)<|zo I<|M<|zr ?_);cases a;exact bC
theorem Vr:C2 215 Iu (s2 (qj (.own 0 (some 1) 43) (.own 2 (some 3) 123))):=λu o r a=>(cv [[23],[24],[25],[26]] func215) λ_ _=>by refine U<|zs (yb 10 aA)<|zs (yb 15 aA)<|zs (ya 19)<|zo I<|zz<|z5 xr xf xl xf xl<|bB a λq j a=>z3 (kC [0] 23 (Zu _ _ _ j)) aC aB<|zs (yo aF)<|zo I<|M<|zr ?_;cases a;exact bC
theorem X4:C2 216 IL (s2 (qj (.own 0 (some 1) 43) (.own 2 (some 3) 123))):=λu o r a=>(cv [[23],[24],[25],[26]] func216) λ_ _=>by refine U<|zs (yb 10 aA)<|zs (yb 15 aA)<|zs (ya 19)<|zo I<|zz<|z5 xr xf xl xf xl<|bB a λq j a=>z3 (kC [0] 23 (FM _ _ _ j)) aC aB<|zs (yo aF)<|zo I<|M<|zr ?_;cases a;exact bC
theorem X7:C1 244 DS (s2 (qj (.own 0 (some 1) 43) (.own 2 (some 3) 123))):=λN r j=>(cv [[27],[28],[29],[30]] func244) λ_ _=>by
 refine U<|zs (yb 10 aA)<|zs (ya 14)<|zo I<|M<|za<|U<|zo xr<|bB j λK B j=>z2 (kC [0] 18 (uj _ B)) I<|zz<|z2 E xq<|M<|zx j λo j=>zk<|zt<|za<|U<|z2 xf xl<|M<|zx j λo j=>zk<|zt<|U<|zo xr<|bB j λD z j=>zo (kC [0] 19 (uF _ z))<|zs (yo aF)<|M<|za<|U<|z4 xf xl xn E<|M<|zl<|bB j λG w j=>?_;refine lp w [1,2,19,20,1010,6012] (λk (a,b)=>Z 21 a<|Y 11 (.ow [19,26] [20,22] 43 b)<|k) (λk b=>(.exit 0,Y 11 (.ow [19,26] [20,22] 43 b)<|k)) ?_ ?_
 .rintro⟨_,_⟩ C j;refine U<|zo xi<|M<|za<|zd j (λo j=>?_) λo j=>?_
  .refine zk<|zt<|za<|zl<|U<|bB j λO A j=>z2 (xJ A) xs<|zs (ya 23)<|zs (yo aA)<|M ?_;exact ei (Ad.d_ (i:=11) 26 rfl rfl rfl (ev.bj rfl) rfl (Cv.gT (T:=[19,26]) (te:=[20,22]) (T':=[19,26]) (te':=[20,22]) rfl rfl))<|zb<|z5 xf xl xf xl xf<|zo xl<|bB j λJ q j=>zo (xu q)<|zs (yW [20,22] q)<|zw<|zh<|zt<|zb<|z2 xy E<|zw<|zN j
  .exact ze<|zE<|zB j
 .intro _;refine zj<|zt<|U<|zo xf<|zs (yt)<|zz<|zo xr<|bB j λL u j=>zo (kC [19,20,22,26] 27 (uF _ u))<|zs (yo aF)<|zo I<|M<|zr ?_;cases j;exact bC
theorem Tp:C2 217 EJ (s2 (qj (.own 0 (some 1) 43) (.own 2 (some 3) 123))):=λu o r a=>(cv [[23],[24],[25],[26]] func217) λ_ _=>by refine U<|zs (yb 10 aA)<|zs (yb 15 aA)<|zs (ya 19)<|zo I<|zz<|zo xr<|bB a λq j a=>z3 (kC [0] 23 (X7 _ j)) aC aB<|zs (yo aF)<|zo I<|M<|zr ?_;cases a;exact bC
theorem Sz(m:bI [215,216,217])(j:cd)(o:aU){r:aU×Int}(a:MT m j o=some r):∃k,jl [215,216,217] m.i=some k/\enters H k=true/\gl H k [.rep 0 j, .rep 0 o] (.cP (.aK [(false,1,(.own 0 (some 1) 43 r.1.aJ)),(false,1,(.own 2 (some 3) 123 r.1.eg)),(false,1,(.fl r.1.dS))]) (.fl r.2)) []:=by
 obtain⟨i⟩:=m
 match i,a with
 |0,a=>cases a
 |1,a=>exact⟨215,rfl,(by kernel_rfl),Vr j o a⟩
 |2,a=>exact⟨216,rfl,(by kernel_rfl),X4 j o a⟩
 |3,a=>exact⟨217,rfl,(by kernel_rfl),Tp j o a⟩
 |_+4,a=>cases a
theorem Ia:C3 125 sW (s2 (.own 0 (some 1) 96)):=λaf ak am r j=>(cv [[11,31],[12,23,24,25,26]] func125) λ_ _=>by
 refine U<|z2 I I<|M<|za<|U<|z2 E E<|bB j λal J j=>z2 (kC [0] 10 (N' _ _ J)) I<|zz<|z2 E xq<|M<|zd j (λo j=>?_) λo j=>?_
 .refine U<|z3 E I I<|M<|zr<|zR ?_;cases j;exact bC
 .refine zk<|zt<|za<|U<|z3 E xi E<|g4 rfl rfl (λ_=>⟨E,E,xn,xg⟩)<|zo xo<|M<|zx j λo j=>zk<|zt<|U<|zo E<|bB j λac D j=>z2 (kC [0] 11 (S6 _ D)) I<|M<|za<|U<|z2 E E<|bB j λad C j=>z3 (th C) xn E<|M<|zl<|bB j λO B j=>?_;refine lp B [33,34] (λk (a,b)=>W 9 (.ow [11,31] [12,23,24,25,26] 96 a)<|Z 35 b<|k) (λk=>Sum.elim (λb=>(.ret,W 6 (.dM)<|Z 7 b<|k)) (λb=>(.exit 0,W 9 (.ow [11,31] [12,23,24,25,26] 96 b)<|k))) ?_ ?_
  .rintro⟨_,Q⟩ ag j;refine U<|zo xi<|M<|za<|zd j (λo j=>?_) λo j=>?_
   .refine zk<|zt ?_;refine jn j (D2 Q) [33,34,35] (λk p=>W 9 (.ow [11,31] [12,23,24,25,26] 96 p)<|k) ?_ ?_
    .rintro aa j;exact zb<|z2 xy E<|zw<|zN j
    .refine zl<|U<|bB j λu G j=>z2 (xI G) xd<|zs (ya 13)<|zs (yo aA)<|zz<|z3 E xf xl<|bB j λw K j=>z2 (xJ K) xs<|zs (ya 18)<|zs (yo aA)<|M<|za<|U<|z2 xf xl<|M<|zd j (λo j=>?_) λo j=>?_
     .exact ze<|zE<|zj<|zJ _ j
     .refine zk<|zt<|za<|bB j λN A j=>bB j λL z j=>?_;refine zQ aI (S:=p6 xf xl (kC [] 22 (My _ A)) xr xr (ah.UI (xs:=[.tmp 50, .tmp 51]) [0,12,23,24,25,26] 23 rfl (ai rfl) (Sz N u w z) (bX.cons (Has.m (aV (ai rfl) (bq (di (vf (vf (vf (aX.cons (Cv.m rfl) aX.nil))))) (dG (T:=[0]) (dg.h u)))) rfl) (bX.cons (Has.m (aV (ai rfl) (bq (di (aX.cons (Cv.m rfl) (aX.cons (Cv.m rfl) (vf aX.nil)))) (dG (T:=[12,23,24,25,26]) (dg.h w)))) rfl) bX.nil)))<|p3 E aC aB<|aq (sE (.ae 13 _::(kR 27 [_,_,_,_] (kK 27 4 []))) (ya 27))<|aq (sE (kR 27 [_,_,_,_] (.av 27::(kK 28 3 []))) (yo aF))<|o1 I<|aN) (h:=zt<|za<|U<|z2 E xq<|M<|zd j (λo j=>?_) λo j=>?_)
      .exact U<|z3 E I I<|M<|zr<|zR<|zi<|zR<|zB j
      .refine zk<|zt ?_;exact ei (Ad.ow (s:=9) 31 rfl rfl (ev.bj rfl) rfl (Cv.gT (T:=[11,31]) (te:=[12,23,24,25,26]) (T':=[11,31]) (te':=[12,23,24,25,26]) rfl rfl))<|zb<|z4 E xf xl xr<|bB j λX q j=>zo (xu q)<|zs (yW [12,23,24,25,26] q (T:=[23,24,25,26]) (y:=L.1))<|zw<|zh<|zJ _ j
   .exact ze<|zE<|zB j
  .intro _;rcases O with V|Y
   .have j:=fN j;refine zi<|zR ?_;cases j;exact bC
   .have j:=fI j;refine zj<|zt<|U<|z3 E I I<|M<|zr ?_;cases j;exact bC
theorem Sx:C2 16 Oh (λr=>.cP (.aK [(true,23,gv (.own 2 (some 0) 79) (.own 1 none 133) (.own 2 none 120) r.1.N),(false,1,.own 3 (some 4) 96 r.1.f_),(false,1,.fl r.1.Up)]) (.fl r.2)):=λad aa r j=>(cv [[82],[83],[84],[43,111],[44,112]] func16) λ_ _=>by
 refine U<|zs (yb 10 aA)<|zs (ya 17)<|zo I<|zz<|zo xr<|bB j λac O j=>z5 (kC [] 43 (Yf _ O)) E aC aB I<|zo I<|M<|za<|U<|z2 E xq<|M<|zx j λu j=>zk<|zt<|U<|z5 xr E bU E bU<|zo bU<|zs (yb 45 bT)<|zo I<|M<|za<|U<|z2 E bU ?_;refine il j IY [4,8,26017,1045,1071] (λk (a,b,c,d,e,f,g,h,i,Q,l,m,n,o,q,r,t,v,w,x,y,z,A,B,C,D)=>Z 28 a<|V8 46 b c d e f g h i<|V6 54 Q l m n o q<|Y 60 (.ow [84] [82] 79 r)<|V4 61 t v w x<|Y 65 (.ow [83] [] 133 y)<|Y 66 (.ow [84] [] 120 z)<|V2 67 A B<|Y 69 (.ow [43,111] [44,112] 96 C)<|V 70 D<|k) func33 cF ?_ ?_
 .refine λae=>iu 1 [4,8] [26017,27045] ?_;refine U<|zs (yb 72 bT)<|zo I<|M<|za<|U<|z5 E xc xf xf xl<|M<|zF<|zk<|zt<|U<|zo E<|bB j λG J j=>z5 (kC [43,44,45] 82 (Qq _ J)) E eJ eI eL<|zs (ya 87)<|zs (yo dW)<|z2 I I<|M<|za<|U<|z2 E xq<|M<|zd j (λu j=>?_) λu j=>?_
  .exact U<|z2 E I<|M<|zr<|zR<|bS (_,_,_,_,_,_,_,_,_,_,_,_,_,_,_,_,_,_,_,_,_,_,_,_,_,_) j
  .refine zk<|zt<|U<|z5 E E xR xc xf<|zo xf<|zs (yS 0 23 (hx:=bT))<|z3 xc xf xf<|zs (yt)<|zz<|z2 E E ?_;refine il j (L4 G) [902004,902008,26017,24045,2070] (λk (a,b)=>Z 33 a<|Y 69 (.ow [43,111] [44,112] 96 b)<|k) func78 cF ?_ ?_
   .refine λW=>iu 2 [] [902004,902008,26017,27045] ?_;refine U<|zo I<|zz<|z4 E E E xn ?_;refine il j (Nf G) [902004,902008,26017,24045,2070] (λk (a,b)=>Z 9 a<|Y 69 (.ow [43,111] [44,112] 96 b)<|k) func75 cF ?_ ?_
    .refine λX=>iu 3 [] [902004,902008,26017,27045] ?_;refine U<|zo I<|zz<|z5 E xc xf xf xl<|z5 E E E xn n9<|bB j λL K j=>z5 (kC [43,44,85,86] 111 (Ia _ _ _ K)) E aC aB I<|zo I<|M ?_;refine jn j (F3 G L) [8,902004,902008,26017,24045,2070] (λk p=>Y 69 (.ow [43,111] [44,112] 96 p)<|k) ?_ ?_
     .rintro S j;exact U<|z2 E I<|M<|zr<|bS (_,_) j
     .refine U<|z2 E xe<|M<|zd j (λu j=>?_) λu j=>?_
      .exact zb<|z5 E E xc xf xf<|zs (yt)<|zw<|zJ _ j
      .exact zk<|zJ _ j
    .rintro⟨_,_⟩ j;exact zo I<|M<|zr<|bS (_,_) j
   .rintro⟨_,_⟩ j;exact zo I<|M<|zr<|bS (_,_,_,_,_,_,_,_,_,_,_,_,_,_,_,_,_,_,_,_,_,_,_,_,_,_) j
 .rintro⟨_,_,_,_,_,_,_,_,_,_,_,_,_,_,_,_,_,_,_,_,_,_,_,_,_,_⟩ j;refine zo I<|zz<|z2 E xq<|M<|zx j λu j=>zk<|zt<|U<|z4 E xc xf hX<|zs (yo bT)<|zo I<|M<|zr ?_;cases j;exact bC
theorem O4:C1 46 E3 (s2 .fl):=λq r a=>(cv [[]] func46) λ_ _=>by refine U<|zs (yb 10 aA)<|z2 I I<|zz<|z5 xr xf xl xf xl<|z5 xk xf xl xz xk<|bB a λo j a=>z5 (kC [] 17 (vZ _ _ j)) aC aB I I<|M<|zr ?_;cases a;exact bC
theorem YX:C1 170 Ko (s2 .fl):=λq r j=>(cv [[]] func170) λ_ _=>by
 refine U<|zs (ya 10)<|zo I<|M ?_;refine jn j Gy [2,1010] (λk (a,b,c)=>V3 11 a b c<|k) ?_ ?_
 .rintro⟨_,_,_⟩ j;refine U<|zo xr<|zs (yo aF)<|zo I<|M<|zr ?_;cases j;exact bC
 .refine U<|zo E<|M<|zl<|za<|zl<|za<|zl ?_;refine jn j HO [2,2010] (λk (a,b)=>V2 12 a b<|k) ?_ ?_
  .rintro⟨_,_⟩ j;refine U<|zo xf<|zs (yt)<|M<|ze ?_;refine aH.jZ rfl<|zE ?_;exact aH.jZ rfl<|zE<|zj<|zJ (_,_,_) j
  .refine zl ?_;refine jn j Jx [2,2010,1013] (λk p=>V 12 p<|k) ?_ ?_
   .rintro w j;exact zb<|zo xf<|zs (yt)<|zw<|zh<|zJ (_,_) j
   .refine zl<|za<|zl<|za<|za ?_;refine jn j (I_ q) [2,4,4010] (λk p=>Z 5 p<|k) ?_ ?_
    .rintro u j;refine zd j (λo j=>?_) λo j=>?_
     .exact ze<|zE<|zE<|zj<|zt<|zb<|zo xf<|zs (yt)<|zw<|zh<|zJ _ j
     .refine zk<|zt<|za<|U<|z2 xb I<|M<|zd j (λo j=>?_) λo j=>?_
      .refine ze<|zE<|zE ?_;exact aH.jZ rfl<|zE<|zj<|zJ _ j
      .refine zk<|zt<|za<|U<|z2 xb I<|M<|zd j (λo j=>?_) λo j=>?_
       .refine ze<|zE<|zE ?_;refine aH.jZ rfl<|zE ?_;exact aH.jZ rfl<|zE<|zj<|zJ (_,_) j
       .refine zk<|zt ?_;refine jn j FX [2,4010] (λk p=>Z 12 p<|k) ?_ ?_
        .rintro z j;refine zd j (λo j=>?_) λo j=>?_
         .refine ze<|zE ?_;refine aH.jZ rfl<|zE ?_;refine aH.jZ rfl<|zE ?_;refine aH.jZ rfl<|zE<|zj<|zt<|ze ?_;exact aH.jZ rfl<|zE<|zj<|zJ (_,_,_) j
         .refine zk<|zt<|ze ?_;refine aH.jZ rfl<|zE ?_;refine aH.jZ rfl<|zE ?_;refine aH.jZ rfl<|zE ?_;refine aH.jZ rfl<|zE<|zj<|zt ?_;exact nomatch j
        .refine U<|z2 xb I<|M<|zd j (λo j=>?_) λo j=>?_
         .exact zk<|zJ _ j
         .exact zb<|z2 xb I<|zw<|zJ _ j
    .refine U<|z2 xb I<|M<|zd j (λo j=>?_) λo j=>?_
     .exact zk<|zJ _ j
     .exact zb<|z2 xb I<|zw<|zJ _ j
theorem Qg:C2 120 Jm .fl:=λB u r a=>(cv [[]] func120) λ_ _=>by
 refine U<|zs (yb 10 aA)<|zs (yb 17 aA)<|zo I<|zz<|zo xr<|bB a λz q a=>z5 (kC [] 22 (O4 _ q)) E aC aB I<|zo I<|M<|za<|U<|z2 E xq<|M<|zx a λj a=>zk<|zt<|U<|z2 xf xl<|bB a λw o a=>z4 (kC [] 23 (YX _ o)) E aC aB<|zs (ya 24)<|zs (yo aA)<|zo I<|M<|za<|U<|z3 E xN E<|g3 rfl rfl (λ_=>⟨xf,xl,xi⟩)<|z2 xo E<|g4 rfl rfl (λ_=>⟨xf,xl,xf,xl⟩)<|g2 rfl rfl (λ_=>⟨n9,xi⟩)<|z2 xo E<|g4 rfl rfl (λ_=>⟨xf,xl,xf,xl⟩)<|zg rfl rfl (λ_=>xg)<|zo xo<|M<|zx a λj a=>zk<|zt<|za<|U<|z5 xf xl E xf xl<|z3 xz xg E<|g4 rfl rfl (λ_=>⟨xf,xl,xe,xM⟩)<|zu rfl rfl (λ_=>xf)<|zu rfl rfl (λ_=>xl)<|zu rfl rfl (λ_=>xg)<|zg rfl rfl (λ_=>xW)<|zo xo<|M<|zx a λj a=>zk<|zt<|U<|zo I<|M ?_;refine jn a (Ht u) [3,5017] (λk p=>Z 9 p<|k) ?_ ?_
 .rintro A a;refine za<|U<|z5 xf xl xn E xq<|M<|zx a λj a=>zk<|zt<|U<|zo I<|M<|zr ?_;cases a;exact az
 .refine U<|z2 xf xl<|M<|zd a (λj a=>?_) λj a=>?_
  .exact zb<|z4 xf xl xk I<|zw<|zJ _ a
  .exact zk<|zJ _ a
theorem Py:C2 171 Hz (s2 (.own 0 none 3)):=λG z r j=>(cv [[24]] func171) λ_ _=>by
 refine U<|zs (yb 10 aA)<|zs (yb 17 aA)<|z2 I I<|M<|za<|U<|z2 xr xr<|bB j λC w j=>z2 (kC [0] 22 (Qg _ _ w)) I<|zz<|z2 E xq<|M<|zx j λo j=>zk<|zt<|za<|U<|z3 xf xl E<|M<|zl<|bB j λD u j=>?_;refine lp u [3,15,5017] (λk (a,b)=>W 4 (.ow [24] [] 3 a)<|Z 16 b<|k) (λk b=>(.exit 0,W 4 (.ow [24] [] 3 b)<|k)) ?_ ?_
 .rintro⟨_,_⟩ A j;refine U<|zo xi<|M<|za<|zd j (λo j=>?_) λo j=>?_
  .exact zk<|zt<|za<|zl<|U<|z2 E I<|M<|zb<|z5 E xf xl E xy<|zo (xt [] 23 [_])<|bB j λB q j=>zs (yA [] q)<|zo I<|zw<|zh<|zt<|zb<|z2 xy E<|zw<|zN j
  .exact ze<|zE<|zB j
 .intro _;refine zj<|zt<|U<|z3 E I I<|M<|zr ?_;cases j;exact bC
theorem UD:C1 239 PW .fl:=λj r a=>(cv [[]] func239) λ_ _=>by refine U<|zs (yb 10 aA)<|zo I<|zz<|z4 xf xl xb I<|M<|zr ?_;cases a;exact az
theorem Ou:C2 207 G5 .fl:=λJ B r a=>(cv [[]] func207) λ_ _=>by refine U<|zs (yb 10 ck)<|zo I<|M<|za<|bB a λG z a=>bB a λA w a=>?_;refine zQ aI (S:=p6 xf xl E (xI z) xD xf<|p6 xl E (xI w) xD xb I<|o1 I<|aN) (h:=zt<|za<|U<|z3 E nJ E<|g4 rfl rfl (λ_=>⟨E,xb,xf,xl⟩)<|zg rfl rfl (λ_=>E)<|bB a λC o a=>zg rfl rfl (λj=>xI (bM o (cS j)))<|g2 rfl rfl (λ_=>⟨xD,nJ⟩) ?_);refine wg rfl rfl (λj=>ah.Nw (dD rfl j) (dD rfl j) underlying4)<|zo xo<|M<|zx a λj a=>zk<|zt<|za<|U<|z2 xf xP<|bB a λK u a=>zo (kC [0] 19 (UD _ u))<|M<|zx a λj a=>zk<|zt<|U<|z3 xf xl E<|bB a λD q a=>z5 (xI q) xd xn xe I<|M<|zr ?_;cases a;exact az
theorem UJ:C2 164 PH .fl:=λB z r a=>(cv [[]] func164) λ_ _=>by
 refine U<|zs (yb 10 aA)<|zs (yb 17 ck)<|zo I<|zz<|z3 xr xf xP<|bB a λA u a=>z5 (kC [0] 26 (Py _ _ u)) E aC aB I<|zo I<|zz<|z3 E xn I<|M<|za<|U<|z2 xf xf<|z2 xl xb<|M<|zx a λj a=>zk<|zt<|za<|U<|z3 E xq E<|g3 rfl rfl (λ_=>⟨xf,xl,xi⟩)<|z2 xo E<|g4 rfl rfl (λ_=>⟨xf,xl,xn,E⟩)<|g2 rfl rfl (λ_=>⟨xn,xq⟩)<|z2 xo E<|g4 rfl rfl (λ_=>⟨xf,xl,xn,E⟩)<|g2 rfl rfl (λ_=>⟨xn,xq⟩)<|z2 xo E<|g4 rfl rfl (λ_=>⟨xf,xl,xn,E⟩)<|zg rfl rfl (λ_=>xq)<|zo xo<|M<|zx a λj a=>zk<|zt<|za<|U<|z3 E xn E<|M<|zl<|bB a λD o a=>?_;refine lp o [3,53,9017] (λk s=>Z 54 s<|k) (λk _=>(.exit 0,k)) ?_ ?_
 .rintro s2 w a;refine U<|zo xi<|M<|za<|zd a (λj a=>?_) λj a=>?_
  .exact zk<|zt<|za<|zl<|U<|z2 E I<|zz<|z2 xR E<|bB a λC q a=>z2 (kC [0] 27 (Ou _ _ q)) xN<|M<|zx a λj a=>zk<|zh<|zt<|zb<|z2 xy E<|zw<|zN a
  .exact ze<|zE<|zB a
 .intro _;refine zj<|zt<|U<|zo I<|M<|zr ?_;cases a;exact az
theorem RV(a0 a1){r}(a:Oo a0 a1=some r):CT 208 [.rep 0 a0,.fn H jE 0 a1] (.fl r) []:=by
 refine cw [[]] func208 λw0 om=>?_;refine U<|zo I<|M<|za<|U<|z3 E xn E<|M<|zl<|bB a λw q a=>?_;refine lp q [0,1,7] (λk s=>Z 8 s<|k) (λk=>Sum.elim (λb=>(.ret,Z 4 b<|k)) (λ_=>(.exit 0,k))) ?_ ?_
 .rintro z B a;refine U<|zo xi<|M<|za<|zd a (λj a=>?_) λj a=>?_
  .refine zk<|zt<|za<|zl<|U<|z2 E I<|zz<|z3 E E E<|bB a λA o a=>z2 (xI o) xD<|bB a λD u a=>zo (lh [] 10 u)<|M<|zd a (λj a=>?_) λj a=>?_
   .exact U<|z2 E I<|M<|zr<|zi<|zR<|zB a
   .exact zk<|zh<|zt<|zb<|z2 xy E<|zw<|zN a
  .exact ze<|zE<|zB a
 .intro _;rcases w with C|G
  .have a:=fN a;refine zi<|zR ?_;cases a;exact az
  .have a:=fI a;refine zj<|zt<|U<|zo I<|M<|zr ?_;cases a;exact az
theorem Ye(a0 a1){r}(a:LH a0 a1=some r):CT 165 [.rep 0 a0,.fn H jE 0 a1] (.fl r) []:=by refine cw [[]] func165 λw0 om=>?_;refine U<|zo I<|zz<|z2 E E<|bB a λo j a=>z3 (kC [0] 10 (RV _ _ j)) xh I<|M<|zr ?_;cases a;exact az
theorem SU:C1 166 L2 .fl:=λj r a=>(cv [[]] func166) λ_ _=>by refine U<|zo I<|zz<|z3 E xB I<|M<|zr ?_;cases a;exact az
theorem AY(a0 a1){r}(a:tq a0 a1=some r):CT 168 [.rep 0 a0,.fn H jE 0 a1] (.fl r) []:=by
 refine cw [[]] func168 λw0 om=>?_;refine U<|zo I<|M<|za<|U<|z3 E xn E<|M<|zl<|bB a λw q a=>?_;refine lp q [0,1,7] (λk s=>Z 8 s<|k) (λk=>Sum.elim (λb=>(.ret,Z 4 b<|k)) (λ_=>(.exit 0,k))) ?_ ?_
 .rintro z B a;refine U<|zo xi<|M<|za<|zd a (λj a=>?_) λj a=>?_
  .refine zk<|zt<|za<|zl<|U<|z2 E I<|zz<|z3 E E E<|bB a λA o a=>z2 (xI o) xd<|bB a λD u a=>zo (lh [0] 10 u)<|M<|zd a (λj a=>?_) λj a=>?_
   .exact U<|z2 E I<|M<|zr<|zi<|zR<|zB a
   .exact zk<|zh<|zt<|zb<|z2 xy E<|zw<|zN a
  .exact ze<|zE<|zB a
 .intro _;rcases w with C|G
  .have a:=fN a;refine zi<|zR ?_;cases a;exact az
  .have a:=fI a;refine zj<|zt<|U<|zo I<|M<|zr ?_;cases a;exact az
theorem QP(a0 a1){r}(a:DB a0 a1=some r):CT 116 [.rep 0 a0,.fn H jE 0 a1] (.fl r) []:=by refine cw [[]] func116 λw0 om=>?_;refine U<|zo I<|zz<|z2 E E<|bB a λo j a=>z3 (kC [0] 10 (AY _ _ j)) xh I<|M<|zr ?_;cases a;exact az
theorem UE(q:dq)(a:J)(o:List dq)(j:Int){r:Bool}(u:No q a o j=some r):gl H 209 [.rep 0 q, .ptr 0 a, .ptr 0 o, .ptr 0 j] (.fl r) []:=nomatch u
theorem HB:C3 167 A9 .fl:=λw q u r a=>(cv [[]] func167) λ_ _=>by refine U<|zs (yb 10 aA)<|zs (yb 17 fc)<|zs (yb 19 fc)<|zo I<|zz<|z2 xl xl<|bB a λA o a=>z2 (th o) xF<|bB a λz j a=>z3 (kC [0,10,17,19] 21 (QP _ _ j) (H2 (j0 rfl (jT λy _=>@UE y w q u _)))) xN I<|M<|zr ?_;cases a;exact az
theorem tH:C2 115 oi .fl:=λN O r a=>(cv [[]] func115) λ_ _=>by
 refine U<|zs (yb 10 aA)<|zo I<|M<|za<|U<|zo xr<|bB a λV w a=>z3 (kC [] 17 (rS _ w)) xq E<|g3 rfl rfl (λ_=>⟨E,xn,xg⟩)<|zo xo<|M<|zx a λj a=>zk<|zt<|za<|U<|z3 E xn E<|M<|zl<|bB a λJ q a=>?_;refine lp q [1,2,16,17,7010] (λk s=>Z 18 s<|k) (λk _=>(.exit 0,k)) ?_ ?_
 .rintro s2 C a;refine U<|zo xi<|M<|za<|zd a (λj a=>?_) λj a=>?_
  .refine zk<|zt<|za<|zl<|U<|zo E<|bB a λD B a=>z2 (xI B) xd<|zs (ya 18)<|zo I<|zs (yo ck)<|M<|za<|za<|bB a λK A a=>bB a λG o a=>?_;exact zQ aI (S:=p5 xr xR (kC [0] 27 (UJ _ _ A)) xN E<|w3 (q3 (h:=λ_=>⟨E,xg,xM⟩))<|aq (qu (h:=λ_=>xf))<|aq (qu (h:=λ_=>xl))<|aq (qu (h:=λ_=>E))<|aq (qu (h:=λ_=>E))<|aq (qu (h:=λ_=>xz))<|aq (qu (h:=λj=>xI (bM o (ib (cS (iw j)) (jr j)))))<|aq (qu (h:=λ_=>xp))<|aq (qu (h:=λ_=>xD))<|aq (qu (h:=λ_=>xj))<|aq (qg (h:=λ_=>xW))<|o1 xo<|aN) (h:=zt<|zx a λj a=>zk<|zt<|U<|z2 xf xl<|bB a λQ z a=>z2 (kC [0] 28 (Ye _ _ z) (H2 (ma λy _=>@SU y _))) I<|zz<|z2 E E<|g3 rfl rfl (λ_=>⟨xr,E,E⟩)<|bB a λL u a=>zg rfl rfl (λj=>kC [0] 29 (HB _ _ _ (bM u j)))<|zg rfl rfl (λ_=>xN)<|zo xw<|M<|zx a λj a=>zk<|zh<|zt<|zb<|z2 xy E<|zw<|zN a)
  .exact ze<|zE<|zB a
 .intro _;refine zj<|zt<|U<|zo I<|M<|zr ?_;cases a;exact az
theorem Rf(a0 a1){r}(a:K9 a0 a1=some r):CT 117 [.rep 0 a0,.ptr 0 a1] (.fl r) []:=by refine cw [[]] func117 λw0 om=>?_;refine U<|zs (yb 10 ck)<|zo I<|zz<|z5 xf xl xp xD xh<|zo I<|M<|zr ?_;cases a;exact az
theorem Uw:C1 64 D0 .fl:=λB r a=>(cv [[]] func64) λ_ _=>by refine U<|zs (yb 10 ck)<|zo I<|zz<|z2 xf xP<|zs (ya 34)<|zs (yo aF)<|zz<|zo xr<|bB a λJ A a=>z3 (kC [] 41 (rS _ A)) xe E<|g3 rfl rfl (λ_=>⟨xr,xf,xP⟩)<|bB a λC w a=>zg rfl rfl (λj=>kC [] 42 (tu _ _ (bM w j)))<|zg rfl rfl (λ_=>xe)<|z2 xw E<|g2 rfl rfl (λ_=>⟨xr,xf⟩)<|zg rfl rfl (λ_=>xl)<|bB a λD o a=>zg rfl rfl (λj=>kC [0] 43 (Cq _ _ (bM o j)))<|zg rfl rfl (λ_=>xe)<|z2 xw I<|zz<|z2 E E<|g3 rfl rfl (λ_=>⟨xr,xf,xP⟩)<|bB a λK u a=>zg rfl rfl (λj=>kC [0] 44 (tE _ _ (bM u j)))<|zg rfl rfl (λ_=>xe)<|z2 xw E<|g3 rfl rfl (λ_=>⟨xr,xf,xl⟩)<|bB a λG q a=>zg rfl rfl (λj=>kC [0] 45 (tH _ _ (bM q j)))<|zg rfl rfl (λ_=>xe)<|zo xw<|zo E<|g3 rfl rfl (λ_=>⟨xf,xl,xh⟩)<|z2 xw E<|g3 rfl rfl (λ_=>⟨xf,xl,xj⟩)<|z2 xw I<|zz<|z2 E E<|g3 rfl rfl (λ_=>⟨xf,xl,xF⟩)<|bB a λL z a=>zg rfl rfl (λj=>kC [0,10] 46 (QP _ _ (bM z j)) (H2 (tA rfl (by assumption) (jT λy _=>@Rf y B _))))<|zg rfl rfl (λ_=>xN)<|z2 xw I<|M<|zr ?_;cases a;exact az
theorem CR:C2 17 wR (s2 .fl):=λA z r a=>(cv [[]] func17) λ_ _=>by
 refine U<|zs (yb 10 aA)<|zs (ya 17)<|zo I<|zz<|zo xr<|bB a λG w a=>z5 (kC [] 21 (O4 _ w)) E aC aB I<|zo I<|M<|za<|zl<|U<|z3 E xq I<|M<|zx a λj a=>?_;refine jn a (Iw A z) [1,2,4,11010] (λk p=>Z 22 p<|k) ?_ ?_
 .rintro D a;refine zx a λj a=>zk<|zh<|zt<|U<|z3 E xf xl<|bB a λB o a=>z5 (kC [] 22 (qW _ _ o)) E aC aB I<|zo I<|zz<|z4 E xf xl xz<|bB a λJ u a=>z4 (kC [] 23 (qW _ _ u)) E aC aB<|z2 I I<|M<|za<|bB a λC q a=>?_;refine zQ aI (S:=p6 E xf xl xk E xy<|p6 E xr E bU E (kC [] 24 (Og _ _ q))<|o1 bU<|aq (sE (kR 17 [_,_,_,_] (.av 17::(kK 18 3 []))) (yo aF))<|o1 I<|aN) (h:=zt<|zr ?_);cases a;exact bC
 .refine U<|z3 E xi I<|M<|zd a (λj a=>?_) λj a=>?_
  .exact zk<|zJ _ a
  .exact zb<|z4 E E xh I<|zw<|zJ _ a
theorem Gw(a0 a1){r}(a:wG a0 a1=some r):CT 67 [.rep 0 a0,.fn H jE 0 a1] (.fl r) []:=by refine cw [[]] func67 λw0 om=>?_;refine U<|zo I<|zz<|z2 E E<|bB a λo j a=>z3 (kC [0] 10 (Md _ _ j)) xh I<|M<|zr ?_;cases a;exact az
theorem Sa(a0 a1){r}(a:O8 a0 a1=some r):CT 118 [.rep 0 a0,.ptr 0 a1] (.fl r) []:=by refine cw [[]] func118 λw0 om=>?_;refine U<|zs (yb 10 aA)<|zo I<|zz<|z5 xf xl xp xD xe<|zo E<|g3 rfl rfl (λ_=>⟨xf,xl,rf⟩)<|z2 xw E<|g4 rfl rfl (λ_=>⟨xf,xl,xp,xD⟩)<|bB a λq j a=>zg rfl rfl (λo=>xI (bM j o))<|zg rfl rfl (λ_=>xD)<|z2 xw I<|M<|zr ?_;cases a;exact az
theorem YU:C1 65 B0 .fl:=λO r a=>(cv [[]] func65) λ_ _=>by
 refine U<|zs (yb 10 ck)<|zo I<|M<|za<|U<|z4 xf xl xn E<|M<|zl<|bB a λC o a=>?_;refine lp o [1,11,12,24010] (λk s=>Z 13 s<|k) (λk _=>(.exit 0,k)) ?_ ?_
 .rintro G S a;refine U<|zo xi<|M<|za<|zd a (λj a=>?_) λj a=>?_
  .refine zk<|zt<|za<|zl<|U<|bB a λL q a=>z2 (xI q) xd<|zs (ya 34)<|zs (yo ck)<|zz<|z4 xf xl xn E<|M<|zl<|bB a λK w a=>?_;refine lp w [1,4,11,12,13,18,19,33010] (λk s=>Z 20 s<|k) (λk _=>(.exit 2,k)) ?_ ?_
   .rintro Q J a;refine U<|zo xi<|M<|za<|zd a (λj a=>?_) λj a=>?_
    .exact zk<|zt<|za<|zl<|U<|zo E<|bB a λD u a=>z4 (xI u) xD I I<|zz<|z5 xf xP xf xf xl<|z2 E xy<|bB a λB A a=>z4 (kC [] 43 (CR _ _ A)) E aC aB<|zs (ya 44)<|zs (yo aA)<|zo I<|zz<|z2 xF I<|zz<|z3 E xb E<|g3 rfl rfl (λ_=>⟨xf,xl,E⟩)<|bB a λN z a=>zg rfl rfl (λj=>kC [0,44] 48 (Gw _ _ (bM z j)) (H2 (tA rfl (by assumption) (jT λy _=>@Sa y B.1 _))))<|zg rfl rfl (λ_=>xN)<|zo xw<|M<|zx a λj a=>zk<|zh<|zt<|zb<|z2 xy E<|zw<|zN a
    .exact ze<|zE<|zB a
   .intro _;exact zj<|zh<|zt<|zb<|z2 xy E<|zw<|zN a
  .exact ze<|zE<|zB a
 .intro _;refine zj<|zt<|U<|zo I<|M<|zr ?_;cases a;exact az
theorem V9:C1 66 wD .fl:=λD r j=>(cv [[]] func66) λ_ _=>by
 refine U<|zo I<|zz ?_;refine ws (au.Bo (β:=Int) 10 rfl rfl)<|zo I<|M<|za<|U<|z3 E xn E<|M<|zl<|bB j λC u j=>?_;refine lp u [3,7,8] (λk (a,b)=>Z 9 a<|W 100010 (.gP 10 b)<|k) (λk _=>(.exit 0,k)) ?_ ?_
 .rintro⟨w,_⟩ A j;refine U<|zo xi<|M<|za<|zd j (λo j=>?_) λo j=>?_
  .refine zk<|zt ?_;refine jn j (CW w) [3,7,8,9] (λk p=>W 100010 (.gP 10 p)<|k) ?_ ?_
   .rintro z j;exact zb<|z2 xy E<|zw<|zN j
   .refine zl<|U<|bB j λB q j=>z2 (xI q) xD<|zs (ya 11)<|zs (yo aA)<|zz<|z3 xf xl xN<|M<|zd j (λo j=>?_) λo j=>?_
    .refine zb<|z3 E xf xl ?_;exact ws (au.BW B6 rfl (ai rfl) rfl (ai rfl) e_)<|zw<|zh<|zJ _ j
    .refine U<|z3 E xf xl ?_;exact wo (ah.NW B6 (ai rfl) rfl (ai rfl))<|zo xg<|M<|zx j λo j=>zk<|zh<|zJ _ j
  .exact ze<|zE<|zB j
 .intro _;refine zj<|zt<|U<|zo I<|M<|zr ?_;cases j;exact az
theorem YK:C1 68 K0 .fl:=λj r a=>(cv [[]] func68) λ_ _=>by refine U<|zs (yb 10 aA)<|zo I<|zz<|z3 xf xl E<|g3 rfl rfl (λ_=>⟨xf,xl,xb⟩)<|z2 xo E<|g3 rfl rfl (λ_=>⟨xf,xl,xb⟩)<|z2 xo I<|M<|zr ?_;cases a;exact az
theorem PF:C2 70 yG (s2 .fl):=by
 intro u z r o;refine oA [[]] 20 func70 rfl rfl rfl rfl (λw0 om=>?_);refine aO.sub (G':=[.ae 0 (.rep [0] (u:N)), .ae 1 (.rep [] (z:Int))]) (sn (Sub.cons (fG (ai rfl)) Sub.nil))<|U<|zs (yb 10 ck)<|zs (yb 34 fc)<|zs (ya 36)<|zs (ya 43)<|M<|za<|U<|z3 xf xf xl ?_;refine il o (Ik u z) [3,4,5,11034] (λk p=>W 11 (.ef 169 [] [aa.aL 45])<|Y 46 (.rep [0] u.K.j)<|O 45 1<|k) func119 cF ?_ ?_
 .refine λG=>iu 1 [3,4,5] [11034] ?_;refine U<|zs (yb 45 fc) ?_;exact wo (ah.assign Has.top)<|zz<|z2 xF I<|M<|zr<|bS () o
 .rintro _ o;refine M<|zl ?_;refine rG 47 [3,4,5,11] [13034] func169 (h:=λG=>ra (h:=λq A=>?_));refine U<|z4 xl xn xz I<|M<|zl<|bB o λD C o=>?_;refine lp C [0,1,902003,902004,902005,902011,3034,1043,2045,1048] (λk s=>Z 3 s<|V6 37 ((0:UInt32):UInt32) ((0:Int):Int) ((0:Int):Int) false false false<|V 44 false<|W 100047 (.rc 47 q .ready none)<|k) (λk=>Sum.elim (λ(a,b,c,d,e,f)=>(.ret,V6 37 a b c d e f<|V 44 true<|W 100047 (.rc 47 q (.done) (some .ret))<|k)) (λb=>(.exit 0,V6 37 ((0:UInt32):UInt32) ((0:Int):Int) ((0:Int):Int) false false false<|V 44 false<|W 100047 (.rc 47 q .ready none)<|k))) ?_ ?_
  .rintro J ac o;refine za<|U<|z2 E xh<|M<|zd o (λw o=>?_) λw o=>?_
   .refine zk<|zt<|za<|zl<|U<|z4 E E xl E<|bB o λQ B o=>z2 (xI B) xD ?_;refine rY 47 904000 [0,1,3] [3,4,5,11] [902003,902004,902005,902011,15034] A (h:=λL=>rK (h:=?_));refine zb<|zs (ya 49)<|zs (yo aA)<|zw ?_;refine aH.oW (t:=47) rfl rfl<|zl<|U<|z4 xf xl xl xe<|M<|zd o (λw o=>?_) λw o=>?_
    .refine U<|zo xr<|zs (yo aF)<|zs (yt)<|M<|zr<|zi ?_;refine rR 47 904000 [0,1,3] [902003,902004,902005,902011,13034,8048] (k:=?_);exact zo xN<|M<|zT<|zr<|zi<|zR<|zB o
    .refine zk<|zh ?_;refine rN 47 904000 [0,1,3] [902003,902004,902005,902011,13034,8048] (k:=?_);exact zo xN<|M<|zF<|zk<|zh<|zt<|zb<|z3 E xz I<|zw<|zN o
   .exact ze<|zE<|zB o
  .intro _;rcases D with X|S
   .have o:=fN o;refine zi ?_;refine rJ 47 [3,4,5,11] [13034,1048] (k:=?_);refine zr<|zi<|zR ?_;cases o;exact rU 48 bC
   .have o:=fI o;refine zj ?_;refine aH.nC ?_;refine rF 47 [3,4,5,11] [13034,1048] (k:=?_);refine zh<|zt<|U<|zo bU<|zs (yo aF)<|zs (yt)<|M<|zr ?_;cases o;exact rU 48 bC
theorem Uo:C2 69 BK .fl:=λu o r a=>(cv [[]] func69) λ_ _=>by refine U<|zs (yb 10 ck)<|zs (yb 34 aA)<|zo I<|zz<|z3 xR xf xl<|bB a λq j a=>z4 (kC [0] 41 (PF _ _ j)) E aC aB<|zs (ya 42)<|zs (yo aA)<|zo I<|M<|za<|U<|z4 xf xl E E<|zg rfl rfl (λ_=>xf)<|g2 rfl rfl (λ_=>⟨xl,xN⟩)<|zo xw ?_;refine wo (ah.Nw (ai rfl) (ai rfl) underlying4)<|M<|zx a λw a=>zk<|zt<|U<|z4 xf xl rf E<|g2 rfl rfl (λ_=>⟨E,xM⟩)<|zu rfl rfl (λ_=>xf)<|zu rfl rfl (λ_=>xl)<|zu rfl rfl (λ_=>xf)<|zu rfl rfl (λ_=>xl)<|zu rfl rfl (λ_=>rn)<|g2 rfl rfl (λ_=>⟨xW,xM⟩)<|zu rfl rfl (λ_=>xf)<|zu rfl rfl (λ_=>xl)<|g2 rfl rfl (λ_=>⟨xW,xM⟩)<|zu rfl rfl (λ_=>xf)<|zu rfl rfl (λ_=>xl)<|zu rfl rfl (λ_=>xN)<|zg rfl rfl (λ_=>xW)<|zg rfl rfl (λ_=>xM)<|zu rfl rfl (λ_=>xf)<|zu rfl rfl (λ_=>xl)<|zu rfl rfl (λ_=>xf)<|zu rfl rfl (λ_=>xl)<|zu rfl rfl (λ_=>nJ)<|zu rfl rfl (λ_=>GN)<|zg rfl rfl (λ_=>xW)<|z2 xo I<|M<|zr ?_;cases a;exact az
theorem lv:C1 28 jU .fl:=λad r j=>(cv [[]] func28) λ_ _=>by
 refine U<|zs (yb 10 ck)<|zo I<|M<|za<|U<|zo xR<|bB j λaf D j=>z3 (kC [0] 34 (Uw _ D)) xN E<|zg rfl rfl (λ_=>xR)<|bB j λY B j=>zg rfl rfl (λo=>kC [0] 35 (YU _ (bM B (cS o))))<|zg rfl rfl (λ_=>xN)<|z2 xo E<|g3 rfl rfl (λ_=>⟨xf,xf,xl⟩)<|bB j λaa A j=>zg rfl rfl (λo=>kC [0] 36 (V9 _ (bM A (cS o))))<|zo xo<|M<|zx j λo j=>zk<|zt<|za<|U<|z3 xf xf xl<|M<|zd j (λo j=>?_) λo j=>?_
 .refine za<|U<|z5 xf xf xl xn xg<|zo E<|g2 rfl rfl (λ_=>⟨xf,xl⟩)<|bB j λX J j=>zg rfl rfl (λo=>kC [0] 37 (Gw _ _ (bM J (cS o))) (H2 (ma λy _=>@YK y _)))<|zo xo<|M<|zx j λo j=>zk<|zt<|U<|zo I<|M<|zr<|zR ?_;cases j;exact az
 .refine zk<|zt<|U ?_;refine ws (au.Bo (β:=UInt8) 38 rfl rfl)<|zo I<|M<|za<|U<|z4 xf xl xn E<|M<|zl<|bB j λQ u j=>?_;refine lp u [1,3,41,42,24010] (λk (a,b)=>Z 43 a<|W 100038 (.gP 38 b)<|k) (λk b=>(.exit 0,W 100038 (.gP 38 b)<|k)) ?_ ?_
  .rintro⟨_,_⟩ V j;refine U<|zo xi<|M<|za<|zd j (λo j=>?_) λo j=>?_
   .refine zk<|zt<|za<|zl<|U<|bB j λac C j=>z2 (xI C) xd<|zs (ya 39)<|zs (yo aA)<|M<|za<|U<|z2 xR xr<|bB j λae G j=>z2 (kC [0] 46 (Uo _ _ G)) xN<|M<|zx j λo j=>zk<|zt<|zb<|z5 E xf xl xf xl ?_;exact ws (au.BW L9 rfl (ai rfl) rfl (ai rfl) (ai rfl))<|zw<|zh<|zt<|zb<|z2 xy E<|zw<|zN j
   .exact ze<|zE<|zB j
  .intro _;refine zj<|zt<|za<|U<|z5 xf xf xl xn E<|M<|zl<|bB j λS q j=>?_;refine lp q [1,3,59,60,24010,1038] (λk s=>Z 61 s<|k) (λk _=>(.exit 2,k)) ?_ ?_
   .rintro L O j;refine U<|zo xi<|M<|za<|zd j (λo j=>?_) λo j=>?_
    .refine zk<|zt<|za<|zl<|U<|bB j λK z j=>z2 (xI z) xD<|zs (ya 47)<|zs (yo aA)<|zz<|z3 xR xf xl<|bB j λN w j=>z4 (kC [0] 54 (PF _ _ w)) E aC aB<|zs (ya 55)<|zs (yo aA)<|zo I<|zz<|zo E<|z2 xf xl ?_;exact wo (ah.ZQ L9 (ai rfl) rfl (ai rfl))<|z5 E aC aB I I<|zz<|z4 xf xl xN E<|g2 rfl rfl (λ_=>⟨E,xN⟩)<|z2 xw E<|g3 rfl rfl (λ_=>⟨xf,xl,xM⟩)<|zu rfl rfl (λ_=>xf)<|zu rfl rfl (λ_=>xl)<|zu rfl rfl (λ_=>xN)<|g2 rfl rfl (λ_=>⟨xW,xM⟩)<|zu rfl rfl (λ_=>E)<|zu rfl rfl (λ_=>xN)<|zu rfl rfl (λ_=>xM)<|zu rfl rfl (λ_=>E)<|zu rfl rfl (λ_=>rf)<|zu rfl rfl (λ_=>xO)<|zg rfl rfl (λ_=>xW)<|zo xo<|M<|zx j λo j=>zk<|zh<|zt<|zb<|z2 xy E<|zw<|zN j
    .exact ze<|zE<|zB j
   .intro _;refine zj<|zt<|U<|zo I<|M<|zr ?_;cases j;exact az
theorem Iz:C1 11 qE .fl:=λB r a=>(cv [[]] func11) λ_ _=>by
 refine U<|zs (yb 10 ck)<|zo I<|zz<|z2 xf hX<|zs (ya 36)<|zs (yo bT)<|M<|za<|U<|z2 xf xP<|bB a λA u a=>z3 (kC [] 60 (rS _ u)) xq E<|g4 rfl rfl (λ_=>⟨xf,xP,xf,xl⟩)<|bB a λw q a=>zg rfl rfl (λj=>kC [0] 61 (rA _ _ (bM q (cS j))))<|zg rfl rfl (λ_=>xq)<|z2 xo E<|g3 rfl rfl (λ_=>⟨xf,xl,xi⟩)<|z2 xo E<|g3 rfl rfl (λ_=>⟨xf,xl,xg⟩)<|z2 xo E<|g3 rfl rfl (λ_=>⟨xf,xl,xM⟩)<|zu rfl rfl (λ_=>xR)<|bB a λz o a=>zu rfl rfl (λj=>kC [0] 62 (lv _ (bM o (ib (cS (iw j)) (jr j)))))<|zu rfl rfl (λ_=>xq)<|zg rfl rfl (λ_=>xW)<|zo xo<|M<|zd a (λj a=>?_) λj a=>?_
 .refine U<|zo I<|M<|zr<|zR ?_;cases a;exact az
 .refine zk<|zt<|U<|zo I<|M<|zr ?_;cases a;exact az
theorem aab:C1 12 DT .fl:=λw r a=>(cv [[]] func12) λ_ _=>by refine U ?_;refine wo (ah.assign (Has.Qm (ks:=[29,30,31,32,33,34,35,36,37,38,39])))<|zz ?_;refine wo (ah.yx (us:=[(1, .func 29),(2, .func 30),(3, .func 31),(4, .func 32),(5, .func 33),(6, .func 34),(7, .func 35),(8, .func 36),(9, .func 37),(10, .func 38),(11, .func 39)]) (ls':=[tr ((⟨0⟩:bI [29,30,31,32,33,34,35,36,37,38,39]):bI [29,30,31,32,33,34,35,36,37,38,39]),tr ((⟨1⟩:bI [29,30,31,32,33,34,35,36,37,38,39]):bI [29,30,31,32,33,34,35,36,37,38,39]),tr ((⟨2⟩:bI [29,30,31,32,33,34,35,36,37,38,39]):bI [29,30,31,32,33,34,35,36,37,38,39]),tr ((⟨3⟩:bI [29,30,31,32,33,34,35,36,37,38,39]):bI [29,30,31,32,33,34,35,36,37,38,39]),tr ((⟨4⟩:bI [29,30,31,32,33,34,35,36,37,38,39]):bI [29,30,31,32,33,34,35,36,37,38,39]),tr ((⟨5⟩:bI [29,30,31,32,33,34,35,36,37,38,39]):bI [29,30,31,32,33,34,35,36,37,38,39]),tr ((⟨6⟩:bI [29,30,31,32,33,34,35,36,37,38,39]):bI [29,30,31,32,33,34,35,36,37,38,39]),tr ((⟨7⟩:bI [29,30,31,32,33,34,35,36,37,38,39]):bI [29,30,31,32,33,34,35,36,37,38,39]),tr ((⟨8⟩:bI [29,30,31,32,33,34,35,36,37,38,39]):bI [29,30,31,32,33,34,35,36,37,38,39]),tr ((⟨9⟩:bI [29,30,31,32,33,34,35,36,37,38,39]):bI [29,30,31,32,33,34,35,36,37,38,39]),tr ((⟨10⟩:bI [29,30,31,32,33,34,35,36,37,38,39]):bI [29,30,31,32,33,34,35,36,37,38,39]),tr ((⟨11⟩:bI [29,30,31,32,33,34,35,36,37,38,39]):bI [29,30,31,32,33,34,35,36,37,38,39])]) lT.h rfl (BP.cons rfl rfl (aV fD (Cv.gb (ks:=[29,30,31,32,33,34,35,36,37,38,39]) (n:=1) rfl)) (aV fD (Cv.gb (ks:=[29,30,31,32,33,34,35,36,37,38,39]) (n:=1) rfl)) (BP.cons rfl rfl (aV fD (Cv.gb (ks:=[29,30,31,32,33,34,35,36,37,38,39]) (n:=2) rfl)) (aV fD (Cv.gb (ks:=[29,30,31,32,33,34,35,36,37,38,39]) (n:=2) rfl)) (BP.cons rfl rfl (aV fD (Cv.gb (ks:=[29,30,31,32,33,34,35,36,37,38,39]) (n:=3) rfl)) (aV fD (Cv.gb (ks:=[29,30,31,32,33,34,35,36,37,38,39]) (n:=3) rfl)) (BP.cons rfl rfl (aV fD (Cv.gb (ks:=[29,30,31,32,33,34,35,36,37,38,39]) (n:=4) rfl)) (aV fD (Cv.gb (ks:=[29,30,31,32,33,34,35,36,37,38,39]) (n:=4) rfl)) (BP.cons rfl rfl (aV fD (Cv.gb (ks:=[29,30,31,32,33,34,35,36,37,38,39]) (n:=5) rfl)) (aV fD (Cv.gb (ks:=[29,30,31,32,33,34,35,36,37,38,39]) (n:=5) rfl)) (BP.cons rfl rfl (aV fD (Cv.gb (ks:=[29,30,31,32,33,34,35,36,37,38,39]) (n:=6) rfl)) (aV fD (Cv.gb (ks:=[29,30,31,32,33,34,35,36,37,38,39]) (n:=6) rfl)) (BP.cons rfl rfl (aV fD (Cv.gb (ks:=[29,30,31,32,33,34,35,36,37,38,39]) (n:=7) rfl)) (aV fD (Cv.gb (ks:=[29,30,31,32,33,34,35,36,37,38,39]) (n:=7) rfl)) (BP.cons rfl rfl (aV fD (Cv.gb (ks:=[29,30,31,32,33,34,35,36,37,38,39]) (n:=8) rfl)) (aV fD (Cv.gb (ks:=[29,30,31,32,33,34,35,36,37,38,39]) (n:=8) rfl)) (BP.cons rfl rfl (aV fD (Cv.gb (ks:=[29,30,31,32,33,34,35,36,37,38,39]) (n:=9) rfl)) (aV fD (Cv.gb (ks:=[29,30,31,32,33,34,35,36,37,38,39]) (n:=9) rfl)) (BP.cons rfl rfl (aV fD (Cv.gb (ks:=[29,30,31,32,33,34,35,36,37,38,39]) (n:=10) rfl)) (aV fD (Cv.gb (ks:=[29,30,31,32,33,34,35,36,37,38,39]) (n:=10) rfl)) (BP.cons rfl rfl (aV fD (Cv.gb (ks:=[29,30,31,32,33,34,35,36,37,38,39]) (n:=11) rfl)) (aV fD (Cv.gb (ks:=[29,30,31,32,33,34,35,36,37,38,39]) (n:=11) rfl)) BP.nil)))))))))))) ?_;refine ws (au.qZ 10 rfl rfl MN) ?_;refine ws (au.uq rfl cj.h (ai rfl) rfl (aV (ai rfl) (Cv.Le rfl rfl (ew.cons (ew.cons (ew.cons (ew.cons (ew.cons (ew.cons (ew.cons (ew.cons (ew.cons (ew.cons (ew.cons (ew.cons ew.nil)))))))))))) rfl)))<|M<|za<|U<|z3 E (eF (β:=Int)) xh<|M<|zx a λz a=>zk<|zt<|U<|zo E<|bB a λu o a=>?_;refine wo (ah.Jq (β:=UInt8) o MN (ai rfl) rfl (ai rfl))<|bB a λq j a=>?_;refine wo ((ah.vy j Q9 (ai rfl) rfl).flat (T':=[]))<|zo I<|M<|zr ?_;cases a;exact az
theorem SM:C1 13 PB .fl:=λj r a=>(cv [[]] func13) λ_ _=>by refine U<|zo I<|zz<|z3 E xb E<|g2 rfl rfl (λ_=>⟨E,xb⟩)<|z2 xo E<|g2 rfl rfl (λ_=>⟨E,xb⟩)<|z2 xo I<|M<|zr ?_;cases a;exact az
theorem QK:C1 141 IZ (.own 0 none 23):=λu r a=>(cv [[10]] func141) λ_ _=>by
 refine U<|zo I<|M<|za<|U<|z2 E xE<|M ?_;refine aO.qv rfl (λo=>?_) ?_
 .rw[o]at a;refine U<|zo I<|M<|zr<|zR ?_;cases a;exact az
 .skip;refine zk<|zt<|U ?_;refine ws (au.od (α:=UInt32) 10 rfl rfl de.h)<|zo E<|bB a λq j a=>?_;refine ws (au.append (te':=[]) 10 j rfl rfl de.h (ai rfl) rfl (ai rfl) cC.flat cC.flat)<|zo I<|M<|zr ?_;cases a;exact az
theorem Pf(j:List (List UInt8)){r:(List (List UInt8))}(a:Ai j=some r):gl H 142 [.rep 0 j] (.own 0 (some 1) 43 r) [1]:=by
 refine FF [[10],[0]] 8 func142 rfl rfl rfl rfl (λw0 om=>?_);unfold Ai at a;refine aO.sub (G':=[.ae 0 (.rep [0] (j:List (List UInt8)))]) (sn Sub.nil)<|U<|zo I<|M<|za<|U<|z2 E xE<|M ?_;refine aO.qv rfl (λq=>?_) ?_
 .rw[q]at a;refine U<|zo I<|M<|zr<|zR ?_;cases a;exact az
 .skip;refine zk<|zt<|U ?_;refine ws (au.od (α:=List UInt8) 10 rfl rfl de.h)<|zo E<|bB a λu o a=>?_;refine ws (au.append (te':=[0]) 10 o rfl rfl de.h (ai rfl) rfl (ai rfl) (cC.bj rfl rfl) (cC.bj rfl rfl))<|zo I<|M<|zr ?_;cases a;exact az
theorem CP:C1 91 mO (.own 0 (some 1) 120) [1]:=λan r j=>(cv [[28],[0,19,20,21,23,25,26,27]] func91) λ_ _=>by
 refine U<|zo I<|M<|za<|U<|z3 E xn E<|M<|zl<|bB j λaf w j=>?_;refine lp w [7,8] (λk (a,b)=>W 2 (.ow [28] [0,19,20,21,23,25,26,27] 120 a)<|Z 9 b<|k) (λk b=>(.exit 0,W 2 (.ow [28] [0,19,20,21,23,25,26,27] 120 b)<|k)) ?_ ?_
 .rintro⟨_,_⟩ al j;refine U<|zo xi<|M<|za<|zd j (λq j=>?_) λq j=>?_
  .refine zk<|zt<|za<|zl<|U<|bB j λo N j=>z2 (xI N) xd<|zs (ya 10)<|zs (yo ck)<|zz<|z3 xf xf xl<|bB j λV L j=>z3 (kC [0] 19 (tC _ L)) xf xf<|zs (yt)<|M<|za<|bB j λQ G j=>bB j λX K j=>bB j λam J j=>?_;refine zQ aI (S:=p6 xf xl (kC [0] 20 (lK _ G)) xf xl (kC [0] 21 (QK _ K))<|p4 xf xl (kC [0] 22 (Pf _ J)) xf<|aq (sE [.ae 100016 _,.ae 100010 _,.av 10,.bp 16] (yt))<|o1 xf<|aq (sE [.ae 100017 _,.ae 100010 _,.av 10,.bp 17] (yt))<|o1 xf<|aq (sE [.ae 100018 _,.ae 100010 _,.av 10,.bp 18] (yt))<|aN) (h:=zt<|za<|za ?_);refine ei (Ad.d_ (i:=18) 24 rfl rfl rfl (ev.bj rfl) rfl (Cv.gT (T:=[22]) (te:=[23,0]) (T':=[22]) (te':=[23,0]) rfl rfl))<|zb<|z4 xf xl xn E<|M<|zl<|bB j λO z j=>?_;refine lp z [2,4,7,8,9,32,33,9010] (λk (a,b)=>Z 34 a<|W 100024 (.own 24 [0,23,25] 43 b)<|k) (λk b=>(.exit 2,W 100024 (.own 24 [0,23,25] 43 b)<|k)) ?_ ?_
   .rintro⟨_,_⟩ Y j;refine U<|zo xi<|M<|za<|zd j (λq j=>?_) λq j=>?_
    .refine zk<|zt<|za<|zl<|U<|zo E<|bB j λak D j=>zo (xu D)<|bB j λac B j=>?_;refine wo (ah.tG B cj.h (ai rfl) rfl)<|z2 I I<|M<|bB j λad A j=>bB j λag u j=>?_;exact zQ aI (S:=p6 xf xl E E (kC [0,23,25] 25 (tC _ A)) (xu u)<|aq (sE [.ae 100024 _,.av 24] (yW [0,23,25] u))<|aN) (h:=zh<|zt<|zb<|z2 xy E<|zw<|zN j)
    .exact ze<|zE<|zB j
   .intro _;refine zj<|zt ?_;exact ei (Ad.ON (i:=18) 24 26 rfl rfl rfl rfl (Cv.qd rfl))<|zb<|z3 E xR (xt [0,19,20,21,23,25,26] 27 [(dq.mk o.dR (aZ.mk o.aZ.bG o.aZ.At o.aZ.eZ V) Q X O)])<|bB j λaa C j=>zs (yA [0,19,20,21,23,25,26,27] C)<|zo I<|zw<|zh<|zt<|zb<|z2 xy E<|zw<|zN j
  .exact ze<|zE<|zB j
 .intro _;refine zj<|zt<|U<|z2 E I<|M<|zr ?_;cases j;exact az
end
theorem U4{f y:dq}(z:mO [f]=some [y]):∃r q w u o,og f.aZ.bO=some r/\js f.fY=some q/\IZ f.iU=some w/\Ai f.bO=some u/\
  bf (M5 u) aP ((0:Int),u)=some o/\y=dq.mk f.dR (aZ.mk f.aZ.bG f.aZ.At f.aZ.eZ r) q w o:=by
 unfold mO at z;obtain⟨N,j,z⟩:=bind_some z;obtain rfl:=Option.some.inj z;rw[show aP=18446744073709551614+1+1 from rfl,GW]at j;cases a:xK [f] ([],0)with
 |none=>rw[a]at j;cases j
 |some c=>
  rw[a]at j;unfold xK at a;dsimp only at a;have a:=iG (by simp) a;obtain⟨D,L,a⟩:=bind_some a;obtain rfl:f=D:=Option.some.inj L;obtain⟨r,J,a⟩:=bind_some a;obtain⟨q,I,a⟩:=bind_some a;obtain⟨w,G,a⟩:=bind_some a;obtain⟨u,K,a⟩:=bind_some a;obtain⟨o,C,a⟩:=bind_some a;obtain⟨A,B,a⟩:=bind_some a;obtain rfl:=Option.some.inj a;obtain rfl:[dq.mk f.dR (aZ.mk f.aZ.bG f.aZ.At f.aZ.eZ r) q w o]=A:=Option.some.inj B;dsimp only at j;rw[GW]at j;have E:∀l,xK [f] (l,wI (0+1))=some (ak.aT l):=λl=>rfl;rw[E]at j;have:=Option.some.inj j;exact⟨r,q,w,u,o,J,I,G,K,C,by simpa using this.symm⟩
theorem M0{f y:dq}(j:mO [f]=some [y]):gl H 91 [.rep 0 [f]] (.one 0 120 8 [(false,1, .fl y.dR),(false,1, .fl y.aZ.bG),(false,1, .fl y.aZ.At),(false,1, .fl y.aZ.eZ),(false,1, .own 1 none 5 y.aZ.bO),(false,1, .own 2 none 5 y.fY),(false,1, .own 3 none 23 y.iU),(false,1, .own 4 (some 5) 43 y.bO)]) [5]:=by
 obtain⟨A,u,B,ac,r,O,K,N,L,C,rfl⟩:=U4 j;refine cw [[28],[19],[20],[21],[26],[0,23,25]] func91 λw0 om=>?_;refine U<|zo I<|M<|za<|U<|z3 E xn E<|M<|zl ?_;refine aO.Qb (id:=0) [.ae 2 (.one [28] 120 8 [tr f.dR,tr f.aZ.bG,tr f.aZ.At,tr f.aZ.eZ,(false,1, .ow [19] [] 5 (A:List UInt8)),(false,1, .ow [20] [] 5 (u:List UInt8)),(false,1, .ow [21] [] 23 (B:List UInt32)),(false,1, .ow [26] [0,23,25] 43 (r:List (List UInt8)))]), .ae 9 (.rep [] (1:Int)), .ae 7 (.rep [0] [f]), .ae 8 (.rep [] (1:Int))] [.ae 2 (.one [28] 120 8 [tr f.dR,tr f.aZ.bG,tr f.aZ.At,tr f.aZ.eZ,(false,1, .ow [19] [] 5 (A:List UInt8)),(false,1, .ow [20] [] 5 (u:List UInt8)),(false,1, .ow [21] [] 23 (B:List UInt32)),(false,1, .ow [26] [0,23,25] 43 (r:List (List UInt8)))])] ?_ ?_ ?_
 .refine U<|zo xi<|M<|za ?_;refine aO.cond rfl (λo=>?_) (λo=>?_)
  .skip;refine zk<|zt<|za<|zl<|U<|z2 (xI (show idx [f] (0:Int)=some f from rfl)) xd<|zs (ya 10)<|zs (yo ck)<|zz<|z5 xf xf xl (kC [0] 19 (tC _ O)) xf<|zo xf<|zs (yt)<|M<|za ?_;refine zQ aI (S:=p6 xf xl (kC [0] 20 (lK _ K)) xf xl (kC [0] 21 (QK _ N))<|p4 xf xl (kC [0] 22 (Pf _ L)) xf<|aq (sE [.ae 100016 _,.ae 100010 _,.av 10,.bp 16] (yt))<|o1 xf<|aq (sE [.ae 100017 _,.ae 100010 _,.av 10,.bp 17] (yt))<|o1 xf<|aq (sE [.ae 100018 _,.ae 100010 _,.av 10,.bp 18] (yt))<|aN) (h:=?_);refine zt<|za<|za ?_;refine ei (Ad.d_ (i:=18) 24 rfl rfl rfl (ev.bj rfl) rfl (Cv.gT (T:=[22]) (te:=[23,0]) (T':=[22]) (te':=[23,0]) rfl rfl)) ?_;refine zb<|z4 xf xl xn E<|M<|zl ?_;refine lp C [2,4,7,8,9,32,33,9010] (λk (a,b)=>Z 34 a<|W 100024 (.own 24 [0,23,25] 43 b)<|k) (λk b=>(.exit 2,W 100024 (.own 24 [0,23,25] 43 b)<|k)) ?_ ?_
   .rintro⟨_,_⟩ Q j;refine U<|zo xi<|M<|za<|zd j (λo j=>?_) λo j=>?_
    .refine zk<|zt<|za<|zl<|U<|zo E<|bB j λaa J j=>zo (xu J)<|bB j λV G j=>?_;refine wo (ah.tG G cj.h (ai rfl) rfl) ?_;refine z2 I I<|M<|bB j λX D j=>bB j λY q j=>?_;refine zQ aI (S:=p6 xf xl E E (kC [0,23,25] 25 (tC _ D)) (xu q)<|aq (sE [.ae 100024 _,.av 24] (yW [0,23,25] q))<|aN) (h:=?_);exact zh<|zt<|zb<|z2 xy E<|zw<|zN j
    .exact ze<|zE<|zB j
   .intro _;refine zj<|zt ?_;refine ei (Ad.ON (i:=18) 24 26 rfl rfl rfl rfl (Cv.qd rfl)) ?_;refine zb<|z2 E xr ?_;refine br.Zt (s:=47) (n:=8) 900 (by rfl) (by rfl) λz=>?_;refine wo (ah.lit (ys:=[z]) (xs:=[.tmp 47]) (T:=[]) 27 rfl (N_.raw rfl) rfl rfl rfl rfl (fX.cons (ai rfl) fX.nil)) ?_;refine wo (ah.OZ (te':=[]) (m:=[z]) 28 rfl rfl (N_.raw rfl) (ai rfl) (ai rfl) cC.flat) ?_;refine zo I<|zw<|zh<|zt<|zb<|z2 xy E<|zw ?_;exact λa w e=>⟨rfl,e.sub (Sub.cons (Has.one (m:=900) rfl rfl) (sn (sn (sn Sub.nil))))⟩
  .exact absurd o (by simp)
 .refine U<|zo xi<|M<|za ?_;refine aO.cond rfl (λo=>?_) (λo=>?_)
  .exact absurd o (by simp)
  .refine ze<|zE ?_;exact λa w e=>⟨rfl,e.sub (sn Sub.nil)⟩
 .refine zj<|zt<|U<|z2 E I<|M<|zr ?_;exact az
section
attribute [local irreducible] aO br aH GL.ah GL.au
theorem mw:C1 40 ku (gv (.own 0 (some 1) 79) (.own 2 none 133) (.own 3 (some 4) 120)) [4]:=λA r a=>(cv [[58],[59],[60],[61],[0,62]] func40) λ_ _=>by refine U<|zs (yb 10 ck)<|zs (ya 34)<|M<|za<|bB a λz q a=>bB a λu o a=>bB a λw j a=>?_;refine zQ aI (S:=p6 xf xl (kC [0] 58 (LX _ q)) xf xP (kC [0] 60 (wk _ o))<|p4 xf xl (kC [0] 61 (CP _ j)) xf<|aq (sE [.ae 100025 _,.ae 100010 _,.av 10,.bp 25] (yt))<|o1 xf<|aq (sE (.ae 100010 _::(kR 26 [_,_,_,_,_] (.av 10::(kK 26 5 [])))) (yS 15 20 (hx:=aF)))<|o1 xf<|aq (sE [.ae 100031 _,.ae 100010 _,.av 10,.bp 31] (yt))<|aN) (h:=zt<|U<|zo xR<|zs (yo bT)<|M<|zr ?_);cases a;exact az
theorem VY:C1 41 FU (.own 0 (some 1) 96) [1]:=λu r a=>(cv [[10],[0]] func41) λ_ _=>by
 refine U<|zo I<|M<|za<|U<|z2 E xE<|M ?_;refine aO.qv rfl (λo=>?_) ?_
 .rw[o]at a;refine U<|zo I<|M<|zr<|zR ?_;cases a;exact az
 .skip;refine zk<|zt<|U ?_;refine ws (au.od (α:=aU) 10 rfl rfl de.h)<|zo E<|bB a λq j a=>?_;refine ws (au.append (te':=[0]) 10 j rfl rfl de.h (ai rfl) rfl (ai rfl) (cC.bj rfl rfl) (cC.bj rfl rfl))<|zo I<|M<|zr ?_;cases a;exact az
theorem Tn:C1 14 Ca (λr=>.aK [(true,23,gv (.own 0 (some 1) 79) (.own 2 none 133) (.own 3 (some 4) 120) r.N),(false,1,.own 5 (some 6) 96 r.f_),(false,1,.fl r.Up)]) [4,6]:=λQ r j=>(cv [[62],[63],[64],[65],[0,66],[69],[0,68,74,75,76,77]] func14) λ_ _=>by
 refine U<|zs (yb 10 ck)<|zs (ya 36)<|M<|za<|bB j λq C j=>bB j λL A j=>?_;refine zQ aI (S:=p6 xf hX (kC [0] 62 (mw _ C)) xf xl (kC [0] 67 (VY _ A))<|o1 xf<|aq (sE (kR 10 [_,_,_,_,_,_,_,_,_,_,_,_,_,_,_,_,_,_,_,_,_,_,_,_] (.av 10::(kK 11 23 []))) (yS 0 23 (hx:=dW)))<|o1 xf<|aq (sE [.ae 100034 _,.ae 100010 _,.av 10,.bp 34] (yt))<|aN) (h:=zt<|za<|za ?_);refine ei (Ad.d_ (i:=34) 69 rfl rfl rfl (ev.bj rfl) rfl (Cv.gT (T:=[67]) (te:=[68,0]) (T':=[67]) (te':=[68,0]) rfl rfl))<|zb<|z4 xf xl xn E<|M<|zl<|bB j λJ u j=>?_;refine lp u [1,2,14,15,21010,30032] (λk (a,b)=>Z 16 a<|Y 31 (.ow [65] [0,66] 120 q.du)<|W 100069 (.own 69 [0,68,74,75,76,77] 96 b)<|k) (λk b=>(.exit 0,Y 31 (.ow [65] [0,66] 120 q.du)<|W 100069 (.own 69 [0,68,74,75,76,77] 96 b)<|k)) ?_ ?_
 .rintro⟨_,_⟩ K j;refine U<|zo xi<|M<|za<|zd j (λG j=>?_) λG j=>?_
  .refine zk<|zt<|za<|zl<|U<|zo E<|bB j λX B j=>zo (xu B)<|bB j λO w j=>?_;refine wo (ah.tG w cj.h (ai rfl) rfl)<|zs (ya 70)<|zo I<|zs (yo aA)<|M<|bB j λD z j=>bB j λV o j=>?_;exact zQ aI (S:=p6 xf xl E xr (kC [0,68,74,75,76,77] 74 (uF _ z)) (xu o)<|aq (sE [.ae 100069 _,.av 69] (yW [0,68,74,75,76,77] o (T:=[74,75,76,77]) (y:=D)))<|aN) (h:=zh<|zt<|zb<|z2 xy E<|zw<|zN j)
  .exact ze<|zE<|zB j
 .intro _;refine zj<|zt<|U<|zo xR<|zs (yo bT)<|M<|zr ?_;cases j;exact az
theorem VN(a0 a1 a2){r}(a:GX a0 a1 a2=some r):CT 72 [.ptr 0 a0,.rep 0 a1,.rep 0 a2] (.fl r) []:=by refine cw [[]] func72 λw0 om=>?_;refine U<|zo I<|M<|za<|zl<|U<|z5 E xC xp xp xp<|z3 xp xD I<|M<|zx a λj a=>U<|z3 E xN I<|M<|zx a λj a=>zk<|zh<|zt<|U<|zo I<|M<|zr ?_;cases a;exact az
theorem Zb:C1 144 AU (.own 0 none 171):=λaq r j=>(cv [[44]] func144) λ_ _=>by
 refine U<|zs (yb 10 ck)<|zo I<|zz<|zo I<|M<|za<|U<|z4 xf xl xn E<|M<|zl<|bB j λal B j=>?_;refine lp B [1,14,15,24010] (λk (a,b)=>W 3 (.ow [44] [] 171 a)<|Z 16 b<|k) (λk b=>(.exit 0,W 3 (.ow [44] [] 171 b)<|k)) ?_ ?_
 .rintro⟨_,_⟩ am j;refine U<|zo xi<|M<|za<|zd j (λo j=>?_) λo j=>?_
  .refine zk<|zt<|za<|zl<|U<|bB j λq Q j=>z2 (xI Q) xd<|zs (ya 34)<|zs (yo ck)<|zz<|z4 xf xf xl E<|M<|zl<|bB j λao K j=>?_;refine lp K [1,5,14,15,16,22,33010] (λk (a,b)=>W 3 (.ow [44] [] 171 a)<|Z 23 b<|k) (λk b=>(.exit 2,W 3 (.ow [44] [] 171 b)<|k)) ?_ ?_
   .rintro⟨_,X⟩ an j;refine U<|zo xi<|M<|za<|zd j (λo j=>?_) λo j=>?_
    .refine zk<|zt<|za<|zl<|U<|z2 E I<|M<|zb<|z5 E xf xl xf xf<|z4 xl E xy bU ?_;exact wo (ah.EN (ts:=[243,245,247]) (n:=0) rfl M3 (aV (ai rfl) (bq (di (vf (vf (vf (vf aX.nil))))) (dG (T:=[]) (dg.h (au.mk (1:UInt8) q.dR (wI (q.aZ.At+X)) (0:Int)))))))<|zo (xt [] 43 [_])<|bB j λap N j=>zs (yA [] N)<|zo I<|zw<|zh<|zt<|zb<|z2 xy E<|zw<|zN j
    .exact ze<|zE<|zB j
   .intro _;exact zj<|zh<|zt<|zb<|z2 xy E<|zw<|zN j
  .exact ze<|zE<|zB j
 .intro _;refine zj<|zt<|za<|U<|z4 xf xl xn E<|M<|zl<|bB j λaf D j=>?_;refine lp D [41,42] (λk (a,b)=>W 3 (.ow [44] [] 171 a)<|Z 43 b<|k) (λk b=>(.exit 4,W 3 (.ow [44] [] 171 b)<|k)) ?_ ?_
  .rintro⟨_,_⟩ ac j;refine U<|zo xi<|M<|za<|zd j (λo j=>?_) λo j=>?_
   .refine zk<|zt<|za<|zl<|U<|bB j λO C j=>z2 (xI C) xd<|zs (ya 45)<|zs (yo aA)<|zz<|z2 bA E<|M<|zl<|bB j λae G j=>?_;refine lp G [8,41,42,43,47,7045] (λk (a,b)=>W 3 (.ow [44] [] 171 a)<|Z 48 b<|k) (λk b=>(.exit 6,W 3 (.ow [44] [] 171 b)<|k)) ?_ ?_
    .rintro⟨_,_⟩ ak j;refine U<|zo xi<|M<|za<|zd j (λo j=>?_) λo j=>?_
     .refine zk<|zt<|za<|zl<|U<|bB j λV J j=>?_;refine wo (ah.O6 (l:=([(2:UInt8),(3:UInt8),(5:UInt8)]:List UInt8)) J Pt rfl iz rfl (ai rfl) (ai rfl))<|zo I<|M<|zb<|z5 E E xf xl bU ?_;exact wo (ah.EN (ts:=[243,245,247]) (n:=1) rfl Qj (aV (ai rfl) (bq (di (vf (vf (vf (vf aX.nil))))) (dG (T:=[]) (dg.h (au.mk V (0:Int) (0:Int) O.L))))))<|zo (xt [] 52 [_])<|bB j λaa u j=>zs (yA [] u)<|zo I<|zw<|zh<|zt<|zb<|z2 xy E<|zw<|zN j
     .exact ze<|zE<|zB j
    .intro _;exact zj<|zh<|zt<|zb<|z2 xy E<|zw<|zN j
   .exact ze<|zE<|zB j
  .intro _;refine zj<|zt<|za<|U<|z2 bA E<|M<|zl<|bB j λad A j=>?_;refine lp A [61] (λk (a,b)=>W 3 (.ow [44] [] 171 a)<|Z 62 b<|k) (λk b=>(.exit 8,W 3 (.ow [44] [] 171 b)<|k)) ?_ ?_
   .rintro⟨_,_⟩ Y j;refine U<|zo xi<|M<|za<|zd j (λo j=>?_) λo j=>?_
    .refine zk<|zt<|za<|zl<|U<|bB j λS z j=>?_;refine wo (ah.O6 (l:=([(4:UInt8),(6:UInt8),(7:UInt8)]:List UInt8)) z Pt rfl iz rfl (ai rfl) (ai rfl))<|zo I<|M<|zb<|z3 E E bU ?_;exact wo (ah.EN (ts:=[243,245,247]) (n:=2) rfl NT (aV (ai rfl) (bq (di (vf (vf (vf (vf aX.nil))))) (dG (T:=[]) (dg.h (au.mk S (0:Int) (0:Int) (0:Int)))))))<|zo (xt [] 53 [_])<|bB j λag w j=>zs (yA [] w)<|zo I<|zw<|zh<|zt<|zb<|z2 xy E<|zw<|zN j
    .exact ze<|zE<|zB j
   .intro _;refine zj<|zt<|U<|z2 E I<|M<|zr ?_;cases j;exact az
theorem LZ(a0 a1){r}(a:Ec a0 a1=some r):CT 174 [.rep 0 a0,.fn H jE 0 a1] (.fl r) []:=by
 refine cw [[]] func174 λw0 om=>?_;refine U<|zo I<|M<|za<|U<|z3 E xn E<|M<|zl<|bB a λw q a=>?_;refine lp q [0,1,7] (λk s=>Z 8 s<|k) (λk=>Sum.elim (λb=>(.ret,Z 4 b<|k)) (λ_=>(.exit 0,k))) ?_ ?_
 .rintro z B a;refine U<|zo xi<|M<|za<|zd a (λj a=>?_) λj a=>?_
  .refine zk<|zt<|za<|zl<|U<|z2 E I<|zz<|z3 E E E<|bB a λA o a=>z2 (xI o) xD<|bB a λD u a=>zo (lh [] 10 u)<|M<|zd a (λj a=>?_) λj a=>?_
   .exact U<|z2 E I<|M<|zr<|zi<|zR<|zB a
   .exact zk<|zh<|zt<|zb<|z2 xy E<|zw<|zN a
  .exact ze<|zE<|zB a
 .intro _;rcases w with C|G
  .have a:=fN a;refine zi<|zR ?_;cases a;exact az
  .have a:=fI a;refine zj<|zt<|U<|zo I<|M<|zr ?_;cases a;exact az
theorem YM(a0 a1){r}(a:M4 a0 a1=some r):CT 355 [.rep 0 a0,.ptr 0 a1] (.fl r) []:=by refine cw [[]] func355 λw0 om=>?_;refine U<|zs (yb 10 ck)<|zo I<|zz<|z5 xf xl xD xe I<|M<|zr ?_;cases a;exact az
theorem Lk:C3 344 JG (s3 .fl .fl):=λA q z r a=>(cv [[]] func344) λ_ _=>by refine U<|zs (yb 10 fc)<|z3 I I I<|zz<|z2 E xF<|bB a λw o a=>z2 (kC [0,10] 12 (AY _ _ o) (H2 (j0 rfl (jT λy _=>@YM y q _)))) I<|M<|za<|U<|z2 E xi<|M<|zx a λB a=>zk<|zt<|U<|z2 E E<|bB a λu j a=>z3 (xI j) xp xd<|zs (ya 13)<|zs (yo aA)<|M<|za ?_;refine zQ aI (S:=p6 E E xf xl xz E<|p4 xf xl xh E<|w4 (q4 (h:=λ_=>⟨E,xf,xl,xz⟩))<|w3 (q3 (h:=λ_=>⟨xf,xl,xi⟩))<|p4 xw I I I<|aN) (h:=zt<|zr ?_);cases a;exact dL
theorem Qw:C4 332 H4 (s2 .fl):=λG z D C r a=>(cv [[]] func332) λ_ _=>by refine U<|zs (yb 10 aA)<|z2 I I<|M<|za<|U<|z2 xr E<|bB a λB q a=>z2 (kC [0] 17 (tH _ _ q)) I<|zz<|z2 E xq<|M<|zx a λu a=>zk<|zt<|U<|z3 E E E<|bB a λw o a=>z5 (kC [0] 18 (Lk _ _ _ o)) E eJ eI eL<|z3 I I I<|M<|za<|U<|z2 E xN<|M<|zx a λu a=>zk<|zt<|U<|z3 xr E E<|bB a λA j a=>z3 (kC [0] 19 (HB _ _ _ j)) I I<|M<|zr ?_;cases a;exact bC
theorem WH(a0 a1){r}(a:Qi a0 a1=some r):CT 333 [.rep 0 a0,.ptr 0 a1] (.fl r) []:=by refine cw [[]] func333 λw0 om=>?_;refine U<|zs (yb 10 ck)<|zo I<|zz<|z5 xf xl xp xD xe<|zo I<|M<|zr ?_;cases a;exact az
theorem pA:C3 18 lY (s2 .fl):=λB w A r a=>(cv [[]] func18) λ_ _=>by
 refine U<|zs (yb 10 aA)<|z2 I I<|M<|za<|U<|z2 xr E<|bB a λz q a=>z2 (kC [0] 17 (Cq _ _ q)) I<|zz<|z2 E xq<|M<|zx a λj a=>zk<|zt<|U<|z2 E E<|bB a λu o a=>z2 (kC [0] 18 (Hg _ _ o)) I<|M<|za<|U<|z2 E xi<|M<|zd a (λj a=>?_) λj a=>?_
 .refine U<|z2 I I<|M<|zr<|zR ?_;cases a;exact bC
 .refine zk<|zt<|U<|z3 E I I<|M<|zr ?_;cases a;exact bC
theorem OC:C2 334 CL (s2 (nn (.rep 0) (.rep 0))) [0]:=λA w r a=>(cv [[0]] func334) λ_ _=>by
 refine U<|zs (yb 10 ck)<|zs (ya 34)<|zo I<|zz<|z5 xf xP xf xl E<|bB a λz o a=>z5 (kC [0] 41 (pA _ _ _ o)) E aC aB I<|zo I<|M<|za<|U<|z2 E xq<|M<|zd a (λq a=>?_) λq a=>?_
 .refine U<|zo bU<|zs (yo aF)<|zo I<|M<|zr<|zR ?_;cases a;exact bC
 .refine zk<|zt<|U<|z3 xf xl E<|bB a λu j a=>z2 (xI j) xd<|zs (yo aA)<|zo I<|M<|zr ?_;cases a;exact bC
theorem Yq(a:List aM){r:Int}(j:Lf a=some r):gl H 270 [.rep 0 a] (.fl r) []:=nomatch j
theorem vM:C2 335 uR (s2 .fl):=λA w r a=>(cv [[]] func335) λ_ _=>by refine U<|zs (yb 10 aA)<|z2 I I<|M<|za<|U<|z2 xr E<|bB a λz q a=>z2 (kC [0] 17 (Cq _ _ q)) I<|zz<|z2 E xq<|M<|zx a λj a=>zk<|zt<|U<|z5 E xn xf xl xi<|zo E<|zg rfl rfl (λ_=>E)<|bB a λu o a=>zg rfl rfl (λj=>kC [0] 18 (Yq _ (bM o (cS j))))<|zg rfl rfl (λ_=>xh)<|z3 xo I I<|M<|zr ?_;cases a;exact bC
theorem A4:C1 336 rW .fl:=λj r a=>(cv [[]] func336) λ_ _=>by refine U<|zs (yb 10 ck)<|zo I<|zz<|z5 xf xf xl xN I<|M<|zr ?_;cases a;exact az
theorem Zg(a:N)(j:Int){r:Bool}(o:LU a j=some r):gl H 337 [.rep 0 a, .rep 0 j] (.fl r) []:=nomatch o
theorem Z5:C2 330 NL .fl:=λK Z r a=>(cv [[]] func330) λ_ _=>by
 refine U<|zs (yb 10 aA)<|zs (yb 15 ck)<|zo I<|zz<|z5 xf xP xf xl xf<|z3 xl xf xl<|bB a λad B a=>z5 (kC [0] 39 (Qw _ _ _ _ B)) E aC aB I<|zo I<|zz<|z3 xf xl xF<|bB a λV w a=>z2 (kC [0,10] 40 (AY _ _ w) (H2 (j0 rfl (jT λy _=>@WH y K _)))) I<|M<|za<|za<|bB a λW u a=>bB a λO J a=>bB a λX G a=>?_;refine zQ aI (S:=p3 E xq E<|w2 (q2 (h:=λ_=>⟨E,xN⟩))<|p2 xo E<|w3 (q3 (h:=λ_=>⟨xf,xl,E⟩))<|aq (qg (h:=λj=>xI (bM u (cS j))))<|w4 (q4 (h:=λ_=>⟨xp,xd,xf,xl⟩))<|w3 (q3 (h:=λ_=>⟨xf,xl,E⟩))<|aq (qg (h:=λj=>xI (bM J (cS j))))<|w4 (q4 (h:=λ_=>⟨xp,xp,xD,xz⟩))<|aq (qg (h:=λj=>xI (bM G (cS j))))<|w2 (q2 (h:=λ_=>⟨xD,xB⟩))<|o1 xo<|aN) (h:=zt<|zd a (λj a=>?_) λj a=>?_)
 .refine U<|zo I<|M<|zr<|zR ?_;cases a;exact az
 .refine zk<|zt<|za<|U<|z3 xf xl E<|bB a λQ z a=>z5 (xI z) xp xp xD xb<|M<|zx a λj a=>zk<|zt<|U<|z4 xf xP xf xl<|bB a λac D a=>z4 (kC [] 41 (CR _ _ D)) E aC aB<|zs (ya 42)<|zs (yo aA)<|zo I<|zz<|z3 xR xf xl<|bB a λY A a=>z4 (kC [0] 46 (OC _ _ A)) E aC aB<|zs (ya 47)<|zs (yo aF)<|zo I<|zz<|z4 xf xP xf xl<|bB a λaa C a=>z5 (kC [0] 54 (vM _ _ C)) E aC aB I<|zo I<|M<|za<|U<|z2 E E<|g3 rfl rfl (λ_=>⟨xf,xl,nJ⟩)<|zo xw<|zo E<|g3 rfl rfl (λ_=>⟨E,xN,xM⟩)<|zu rfl rfl (λ_=>E)<|zu rfl rfl (λ_=>xN)<|zg rfl rfl (λ_=>xW)<|zo xo<|M<|zx a λj a=>zk<|zt<|U<|z4 xf xl xN E<|zg rfl rfl (λ_=>xR)<|bB a λN q a=>zg rfl rfl (λj=>kC [0] 55 (A4 _ (bM q (cS j))))<|zg rfl rfl (λ_=>xN)<|z2 xo E<|g3 rfl rfl (λ_=>⟨xR,xf,xl⟩)<|bB a λL o a=>zg rfl rfl (λj=>kC [0] 56 (Zg _ _ (bM o (cS j))))<|zg rfl rfl (λ_=>xN)<|z2 xo I<|M<|zr ?_;cases a;exact az
theorem VC:C2 378 E9 .fl:=λC z r a=>(cv [[]] func378) λ_ _=>by
 refine U<|zo I<|M<|za<|U<|z3 E xn E<|M<|zl<|bB a λu q a=>?_;refine lp q [0,1,7] (λk s=>Z 8 s<|k) (λk=>Sum.elim (λb=>(.ret,Z 4 b<|k)) (λ_=>(.exit 0,k))) ?_ ?_
 .rintro w G a;refine U<|zo xi<|M<|za<|zd a (λj a=>?_) λj a=>?_
  .refine zk<|zt<|za<|zl<|U<|z2 E I<|zz<|z3 E E E<|bB a λA o a=>z3 (xI o) xD GN<|M<|zd a (λj a=>?_) λj a=>?_
   .exact U<|z2 E I<|M<|zr<|zi<|zR<|zB a
   .exact zk<|zh<|zt<|zb<|z2 xy E<|zw<|zN a
  .exact ze<|zE<|zB a
 .intro _;rcases u with D|B
  .have a:=fN a;refine zi<|zR ?_;cases a;exact az
  .have a:=fI a;refine zj<|zt<|U<|zo I<|M<|zr ?_;cases a;exact az
theorem px:C2 364 lZ .fl:=λu o r a=>(cv [[]] func364) λ_ _=>by refine U<|zo I<|zz<|z2 E E<|bB a λq j a=>z3 (kC [0] 10 (VC _ _ j)) xh I<|M<|zr ?_;cases a;exact az
theorem aap(a0 a1){r}(a:Xa a0 a1=some r):CT 347 [.ptr 0 a0,.rep 0 a1] (.cP (nn (.rep 0) (.rep 0) r.1) (.fl r.2)) [0]:=by
 refine cw [[0]] func347 λw0 om=>?_;refine U<|zs (ya 10)<|zo I<|M<|za<|bB a λw o a=>?_;refine zQ aI (S:=p6 E xC xp xp xD E<|p6 xC xp xp xd E (kC [0] 17 (pA _ _ _ o))<|p5 E aC aB I I<|aN) (h:=zt<|za<|U<|z2 E xq<|M<|zd a (λq a=>?_) λq a=>?_)
 .refine U<|zo bU<|zs (yo aF)<|zo I<|M<|zr<|zR ?_;cases a;exact bC
 .refine zk<|zt<|U<|z5 E xC xp xp xd<|zo E<|bB a λu j a=>z2 (xI j) xd<|zs (yo aA)<|zo I<|M<|zr ?_;cases a;exact bC
theorem vH:C2 399 mJ .fl:=λo q r a=>(cv [[]] func399) λ_ _=>by
 refine U<|zo I<|M<|za<|U<|zo E<|M<|zl<|U<|z2 xe I<|M<|zd a (λj a=>?_) λj a=>?_
 .refine U<|z3 E xb I<|M<|zr<|zi<|zR ?_;cases a;exact az
 .refine U<|z2 xe I<|M<|zd a (λj a=>?_) λj a=>?_
  .refine U<|z3 E xb I<|M<|zr<|zi<|zR ?_;cases a;exact az
  .refine U<|z2 xe I<|M<|zd a (λj a=>?_) λj a=>?_
   .refine U<|z3 E xb I<|M<|zr<|zi<|zR ?_;cases a;exact az
   .refine U<|z2 xe I<|M<|zd a (λj a=>?_) λj a=>?_
    .refine U<|z3 E xb E<|g2 rfl rfl (λ_=>⟨E,xb⟩)<|z2 xo I<|M<|zr<|zi<|zR ?_;cases a;exact az
    .refine zk<|zh<|zt<|U<|z3 E xb I<|M<|zr ?_;cases a;exact az
theorem SS:C3 374 uX (s2 (nn (.own 0 (some 1) 43) (.own 2 none 4))):=λaM aO u r j=>(cv [[81],[82],[83]] func374) λ_ _=>by
 refine U<|zs (yb 10 aA)<|zs (yb 17 aA)<|zs (yb 24 fc)<|zs (ya 26)<|zo I<|zz<|z3 xr xr xF ?_;refine il j Jf [6,7026] (λk (a,b,c,d,e,f,g)=>W 11 (.cP (aa.aK [tr a,(false,1,aa.ow [81] [82] 43 b),(false,1,aa.ow [83] [] 4 c),tr d,tr e,tr f]) (R1 g))<|k) func388 cF ?_ ?_
 .refine λaE=>iu 1 [6] [9024] ?_;refine U<|zs (yb 33 aF)<|zs (yb 40 aF)<|zs (yb 47 fc) ?_;refine ws (au.pR (ls:=[(false,1,aa.ef 391 [] [aa.aL 24])]) 49 rfl rfl rfl rfl (eY.ef (ai rfl)))<|zs (ya 51)<|zo I<|zz<|z3 xr xr xF ?_;refine il j Ee [8,902006,7026,7051] (λk (a,b,c,d,e,f,g)=>W 13 (.cP (aa.aK [tr a,(false,1,aa.ow [81] [82] 43 b),(false,1,aa.ow [83] [] 4 c),tr d,tr e,tr f]) (R1 g))<|k) func267 cF ?_ ?_
  .refine λaQ=>iu 2 [8] [902006,9024,11047] ?_;refine U<|zs (yb 58 aF)<|zs (yb 65 aF)<|zs (ya 72)<|zo I<|M<|za<|U<|z2 xr xr<|bB j λao z j=>z2 (kC [0] 79 (lj _ _ z)) I<|zz<|z2 E xq<|M<|zd j (λo j=>?_) λo j=>?_
   .exact zr<|zR<|dU ((0:Int),([]:List (List UInt8)),([]:List Bool),(0:UInt8),false,(0:UInt32),ao) j
   .refine zk<|zt<|za<|U<|z3 E xi E<|g4 rfl rfl (λ_=>⟨E,xf,xl,xz⟩)<|zg rfl rfl (λ_=>xh)<|zo xo<|M<|zx j λo j=>zk<|zt<|za<|U<|zo E<|bB j λaz A j=>zo (kC [] 80 (pz _ A))<|M<|zx j λo j=>zk<|zt<|U<|zo xr<|bB j λq B j=>zo (kC [0] 81 (qp _ B))<|zs (ya 84)<|zs (yo aF)<|M ?_;refine jn j z_ [10,902006,904008,7026,7051,1072] (λk (a,b,c,d,e,f,g)=>Z 11 a<|V 73 b<|Y 74 (.ow [81] [82] 43 c)<|Y 75 (.ow [83] [] 4 d)<|V3 76 e f g<|k) ?_ ?_
    .rintro⟨al,af,X,ak,G,J,ac⟩ j;exact zr<|dU (af,X,ak,G,J,ac,al) j
    .refine U<|zo E ?_;refine il j (An q) [10,12,902006,904008,7026,7051,7072,4084] (λk (a,b,c,d)=>Z 34 a<|V3 88 b c d<|k) func398 cV ?_ ?_
     .refine λaR=>iu 3 [10,12] [902006,904008,9024,11047,7072,7084] ?_;refine U<|zo I<|M<|za<|za<|bB j λay C j=>bB j λaw D j=>?_;refine zQ aI (S:=p6 xl E xc xf xl (kC [] 91 (vH _ _ C))<|p2 xN E<|w3 (q3 (h:=λ_=>⟨xl,xe,xM⟩))<|aq (qu (h:=λ_=>E))<|aq (qu (h:=λ_=>xc))<|aq (qu (h:=λ_=>xf))<|aq (qu (h:=λ_=>xl))<|aq (cI.jY rfl rfl rfl (λo=>ah.jI [83] 92 rfl (by kernel_rfl) (px q.a_ true (bM D (ib (cS (iw o)) (jr o)))) (bX.cons (Has.m (aV (dD rfl o) (bq Cv.iS (Cv.iR (T':=[83]) rfl rfl))) rfl) (bX.cons (fG Has.bool) bX.nil))))<|aq (qu (h:=λ_=>xN))<|aq (qg (h:=λ_=>xW))<|o1 xo<|aN) (h:=zt<|zd j (λo j=>?_) λo j=>?_)
      .exact U<|zo I<|M<|zr<|zR<|bS ((6:Int),q.aG,q.cG,q.Seq) j
      .refine zk<|zt<|U ?_;refine wo (ic (α:=Int) (i:=0) cj.h rfl (aV (ai rfl) (Cv.eG rfl)) rfl (aW rfl))<|zo E ?_;refine il j (Hv u q) [902006,904008,906010,906012,7026,7051,7072,4084] (λk p=>W 26 (.top)<|V3 88 ((2:UInt8):UInt8) false u<|k) func391 cV ?_ ?_
       .refine λaH=>iu 4 [] [902006,904008,906010,906012,9024,7051,7072,7084] ?_;refine zQ aI (S:=p6 E E E xl xc xf<|aq (sE [.ae 100088 _,.ae 100084 _,.av 84,.bp 88] (au.nj (i:=3) (f:=aa.rep [] ((2:UInt8):UInt8)) rfl iz rfl (ai rfl) rfl (Has.u8 2 rfl) (Has.u8 2 rfl) rfl))<|p2 xc xf<|aq (sE [.ae 100090 _,.ae 100084 _,.av 84,.bp 90] (yt))<|p2 xc xf<|aq (sE [.ae 100089 _,.ae 100084 _,.av 84,.bp 89] (yt))<|aN) (h:=?_);exact eW (dK () j)
       .rintro _ j;exact zz<|zo I<|M<|zr<|bS ((0:Int),(2:UInt8),false,u) j
     .rintro⟨w,ad,N,K⟩ j;refine zo I<|zz<|z2 E xe<|M<|zd j (λo j=>?_) λo j=>?_
      .exact zb<|zo xr<|zs (yo aF)<|zw<|zJ (w,q.L,q.aJ,q.a_,ad,N,K) j
      .exact zk<|zJ (w,(0:Int),([]:List (List UInt8)),([]:List Bool),(0:UInt8),false,(0:UInt32)) j
  .rintro⟨ap,ar,am,Q,ag,O,an⟩ j;exact z2 aC aB<|zs (yo aF)<|zo I<|M<|zr<|dU (ap,ar,am,Q,ag,O,an) j
 .rintro⟨_,_,_,_,_,_,_⟩ j;refine z2 aC aB<|zs (yo aF)<|zo I<|M<|zr ?_;cases j;exact bC
theorem LK:C2 375 wN (λr=>.cP (.aK [(false,1,.fl r.1.L),(false,1,.own 0 none 3 r.1.eD),(false,1,.own 1 (some 2) 43 r.1.aJ),(false,1,.own 3 none 5 r.1.bP)]) (.fl r.2)):=λad af r j=>(cv [[37],[40],[38,39],[30]] func375) λ_ _=>by
 refine U<|zs (yb 10 aA)<|zs (yb 17 aA)<|zs (ya 24)<|zo I<|M<|za<|U<|z2 xr xr<|bB j λag G j=>z2 (kC [0] 29 (lj _ _ G)) I<|zz<|z2 E xq<|M<|zx j λo j=>zk<|zt<|za<|U<|z3 xf xl xb<|M<|zx j λo j=>zk<|zt<|za<|bB j λaa D j=>bB j λac C j=>?_;refine zQ aI (S:=p6 xf xl xf xl xf xl<|p5 xz (xI D) xd (kC [0] 30 (lK _ C)) bU<|aq (sE (.ae 7 _::(kR 31 [_,_,_,_,_] (kK 31 5 []))) (ya 31))<|aq (sE (kR 31 [_,_,_,_,_] (.av 31::(kK 32 4 []))) (yo aF))<|aN) (h:=zt<|za<|U<|z4 xf xl xn E<|M<|zl<|bB j λW q j=>?_);refine lp q [3,4,7,33,34,12017,2031,1035] (λk (a,b,c)=>Z 35 a<|Y 33 (.ow [37] [] 3 b)<|Y 34 (.ow [40] [38,39] 43 c)<|k) (λk (a,b)=>(.exit 0,Y 33 (.ow [37] [] 3 a)<|Y 34 (.ow [40] [38,39] 43 b)<|k)) ?_ ?_
 .rintro⟨J,_,_⟩ X j;refine U<|zo xi<|M<|za<|zd j (λo j=>?_) λo j=>?_
  .refine zk<|zt ?_;refine jn j (A1 J) [3,4,7,33,34,35,12017,2031,1035] (λk (a,b)=>Y 33 (.ow [37] [] 3 a)<|Y 34 (.ow [40] [38,39] 43 b)<|k) ?_ ?_
   .rintro⟨_,_⟩ j;exact zb<|z2 xy E<|zw<|zN j
   .refine zl<|U<|zo E<|bB j λQ A j=>z4 (xI A) xD I I<|zz<|zo E<|M<|zd j (λo j=>?_) λo j=>?_
    .refine bB j λN u j=>bB j λV B j=>bB j λK z j=>bB j λO w j=>?_;exact zQ aI (S:=p4 xf xl E (xt [] 36 [_])<|aq (sE [.ae 45 _,.av 37] (yA [] u))<|p6 xf xl xf xl E (xI B)<|p3 xd (kC [0] 38 (lK _ z)) (xt [38] 39 [_])<|aq (sE [.ae 55 _,.av 40] (yA [38,39] w))<|o1 xf<|aq (sE [.ae 100033 _,.ae 100031 _,.av 31,.bp 33] (yt))<|o1 xf<|aq (sE [.ae 100034 _,.ae 100031 _,.av 31,.bp 34] (yt))<|aN) (h:=zh<|zJ (_,_) j)
    .exact zk<|zh<|zJ (_,_) j
  .exact ze<|zE<|zB j
 .intro _;refine zj<|zt<|U<|zo xr<|zs (yo aF)<|zo I<|M<|zr ?_;cases j;exact bC
theorem W2:C3 393 DL (s2 .fl):=λA u z r a=>(cv [[]] func393) λ_ _=>by refine U<|zs (yb 10 aA)<|z2 I I<|zz<|z5 xr E E xf xl<|zo xz<|bB a λw o a=>z4 (kC [] 17 (Hf _ _ _ _ o)) E aC aB<|zs (ya 18)<|zs (yo ck)<|zo I<|M<|za<|U<|z2 E xq<|M<|zx a λB a=>zk<|zt<|U<|z4 E xf xf xl<|bB a λq j a=>z5 (kC [] 26 (qW _ _ j)) E aC aB I<|zo I<|zz<|z5 xf xl xf xf xl<|z4 xz xk E xy<|z5 xf xf xl xk E<|z3 xy I I<|M<|zr ?_;cases a;exact bC
theorem Zw:C2 377 Dp (.own 0 none 3):=λD A r j=>(cv [[19]] func377) λ_ _=>by
 refine U<|zs (yb 10 aA)<|zo I<|M<|za<|U<|z4 xf xl xz E<|M<|zl<|bB j λC u j=>?_;refine lp u [1,2,10,7010] (λk (a,b)=>W 4 (.ow [19] [] 3 a)<|Z 11 b<|k) (λk b=>(.exit 0,W 4 (.ow [19] [] 3 b)<|k)) ?_ ?_
 .rintro⟨_,_⟩ z j;refine U<|zo xi<|M<|za<|zd j (λw j=>?_) λw j=>?_
  .exact zk<|zt<|za<|zl<|U<|z2 E I<|zz<|z3 xr E E<|bB j λG q j=>z5 (kC [] 17 (W2 _ _ _ q)) E aC aB I<|zo I<|M<|zb<|z3 E E (xt [] 18 [_])<|bB j λB o j=>zs (yA [] o)<|zo I<|zw<|zh<|zt<|zb<|z2 xy E<|zw<|zN j
  .exact ze<|zE<|zB j
 .intro _;refine zj<|zt<|zr ?_;cases j;exact az
theorem SG:C2 400 HM .fl:=λC z r a=>(cv [[]] func400) λ_ _=>by
 refine U<|zo I<|M<|za<|U<|z3 E xn E<|M<|zl<|bB a λu q a=>?_;refine lp q [0,1,7] (λk s=>Z 8 s<|k) (λk=>Sum.elim (λb=>(.ret,Z 4 b<|k)) (λ_=>(.exit 0,k))) ?_ ?_
 .rintro w G a;refine U<|zo xi<|M<|za<|zd a (λj a=>?_) λj a=>?_
  .refine zk<|zt<|za<|zl<|U<|z2 E I<|zz<|z3 E E E<|bB a λA o a=>z3 (xI o) xD xe<|M<|zd a (λj a=>?_) λj a=>?_
   .exact U<|z2 E I<|M<|zr<|zi<|zR<|zB a
   .exact zk<|zh<|zt<|zb<|z2 xy E<|zw<|zN a
  .exact ze<|zE<|zB a
 .intro _;rcases u with D|B
  .have a:=fN a;refine zi<|zR ?_;cases a;exact az
  .have a:=fI a;refine zj<|zt<|U<|zo I<|M<|zr ?_;cases a;exact az
theorem MP:C2 392 yu .fl:=λu o r a=>(cv [[]] func392) λ_ _=>by refine U<|zo I<|zz<|z2 E E<|bB a λq j a=>z3 (kC [0] 10 (SG _ _ j)) xh I<|M<|zr ?_;cases a;exact az
end
theorem zZ{α:Type}{l:List α}{y:α}(h:vS l=some y):l=[y]:=by
 match l,h with
 |[x],h=>rw[Option.some.inj h]
theorem Xy:C4 376 w6 (s2 (.rep 0)):=λK u ap L r j=>(cv [[18,27,30,41,43]] func376) λ_ _=>by
 refine U<|zs (yb 10 aA)<|z2 I I<|M<|za<|U<|z2 xr E<|bB j λak V j=>?_;refine wo (f:=aa.rep [] (ak:Int)) (ah.jI [0] 17 rfl (by kernel_rfl) (tH K u V) (bX.cons (fG (aV (ai rfl) (bq (di (vf (vf (vf (vf (vf (vf aX.nil))))))) (dG (T:=[]) (dg.h K))))) (bX.cons (Has.m (ai rfl) rfl) bX.nil)))<|zo I<|zz<|z2 E xq<|M<|zx j λo j=>zk<|zt<|za<|U<|z3 E xn xg<|M<|zx j λo j=>zk<|zt<|za<|U<|z2 E rn<|M<|zx j λo j=>zk<|zt ?_;cases B:(u).isEmpty with
 |true=>
  have j:=iG B j;obtain rfl:u=[]:=List.isEmpty_iff.1 B;refine U<|zo E ?_;refine wo (f:=aa.ow [26] [27,0] 120 ([]:List dq)) (ah.jI [0] 26 rfl (by kernel_rfl) (CP [] (r:=[]) rfl) (bX.cons (Has.m (ai rfl) rfl) bX.nil))<|zo I<|M<|za<|U<|z3 E xn E<|M<|zl ?_;refine aO.Y7 (id:=0) [.ae 11 (.ow [26] [27,0] 120 ([]:List dq))] ?_ ?_
  .refine U<|zo xi<|M<|za ?_;refine aO.cond rfl (λo=>?_) (λo=>?_)
   .exact absurd o (by simp)
   .refine ze<|zE ?_;exact λa w e=>⟨rfl,e.sub (by(repeat(first|refine sn ?_|refine Sub.cons (Has.u7 (ai rfl) rfl) ?_));exact Sub.nil)⟩
  .refine zj<|zt<|U<|z3 E I I<|M<|zr ?_;cases j;exact aH.wU rfl (bW.cv (bW.tmp (ai rfl)) Cv.ZJ) (bW.cv (bW.tmp (ai rfl)) Cv.fl)
 |false=>
  have j:=iP B j;refine bB j λf X j=>?_;obtain rfl:u=[f]:=zZ X;refine bB j λz ad j=>bB j λy af j=>?_;obtain rfl:z=[y]:=zZ af;have G:(!((y.bO).all (·.isEmpty)))=false:=by cases h:(!((y.bO).all (·.isEmpty)))with|true=>exact nomatch iG h j|false=>rfl
  have j:=iP G j;have ag:∀x∈y.bO,x=[]:=by simpa using G
  refine bB j λq O j=>?_;cases j;refine U<|zo E ?_;refine wo (f:= .one [26] 120 8 [tr y.dR,tr y.aZ.bG,tr y.aZ.At,tr y.aZ.eZ,(false,1, .ow [27] [] 5 y.aZ.bO),(false,1, .ow [28] [] 5 y.fY),(false,1, .ow [29] [] 23 y.iU),(false,1, .ow [30] [31,0] 43 y.bO)]) (ah.jI [0] 26 rfl (by kernel_rfl) (M0 ad) (bX.cons (Has.m (ai rfl) rfl) bX.nil))<|zo I<|M ?_;refine ei (Ad.one (s:=11) 18 rfl rfl rfl rfl) ?_;refine ei (Ad.d_ (i:=24) 41 rfl rfl rfl ev.flat rfl (Cv.d_ (T:=[28]) (te:=[]) (T':=[28]) (te':=[]) rfl)) ?_;refine ei (Ad.d_ (i:=25) 43 rfl rfl rfl ev.flat rfl (Cv.d_ (T:=[29]) (te:=[]) (T':=[29]) (te':=[]) rfl))<|za<|U<|zo E ?_;refine wo (ah.Uf (ai rfl) underlying33)<|zo E<|M<|zl ?_;refine aO.Qb (id:=0) [.ae 30 (.rep [] (1:Int)), .ae 31 (.rep [] (1:Int)), .ae 11 (.oV 18), .ae 100018 (.oD 18 [(false,1),(false,1),(false,1),(false,1),(false,1),(false,1),(false,1),(false,1)]), .ae 100019 (.at 19 (.rep [] y.dR)), .ae 100020 (.at 20 (.rep [] y.aZ.bG)), .ae 100021 (.at 21 (.rep [] y.aZ.At)), .ae 100022 (.at 22 (.rep [] y.aZ.eZ)), .ae 100023 (.at 23 (.ow [27] [] 5 y.aZ.bO)), .ae 100024 (.at 24 (.aL 41)), .ae 100025 (.at 25 (.aL 43)), .ae 100026 (.at 26 (.ow [30] [31,0] 43 y.bO)), .ae 100041 (.own 41 [] 5 q.1), .ae 100043 (.own 43 [] 23 q.2)] [.ae 11 (.oV 18), .ae 100018 (.oD 18 [(false,1),(false,1),(false,1),(false,1),(false,1),(false,1),(false,1),(false,1)]), .ae 100019 (.at 19 (.rep [] y.dR)), .ae 100020 (.at 20 (.rep [] y.aZ.bG)), .ae 100021 (.at 21 (.rep [] y.aZ.At)), .ae 100022 (.at 22 (.rep [] y.aZ.eZ)), .ae 100023 (.at 23 (.ow [27] [] 5 y.aZ.bO)), .ae 100024 (.at 24 (.aL 41)), .ae 100025 (.at 25 (.aL 43)), .ae 100026 (.at 26 (.ow [30] [31,0] 43 y.bO)), .ae 100041 (.own 41 [] 5 q.1), .ae 100043 (.own 43 [] 23 q.2)] ?_ ?_ ?_
  .refine U<|zo xi<|M<|za ?_;refine aO.cond rfl (λo=>?_) (λo=>?_)
   .refine zk<|zt<|za<|zl<|U ?_;refine wo (ah.N0 de.h rfl (ai rfl) (ai rfl)) ?_;refine wo (ah.NF (ls:=[tr y.dR,tr y.aZ.bG,tr y.aZ.At,tr y.aZ.eZ,(false,1, .ow [27] [] 5 y.aZ.bO),(false,1, .aL 41),(false,1, .aL 43),(false,1, .ow [30] [31,0] 43 y.bO)]) cj.h rfl (by kernel_rfl) (ai rfl) rfl (bJ.cons (aW rfl) (bJ.cons (aW rfl) (bJ.cons (aW rfl) (bJ.cons (aW rfl) (bJ.cons (aW rfl) (bJ.cons (aW rfl) (bJ.cons (aW rfl) (bJ.cons (aW rfl) bJ.nil)))))))))<|zs (ya 32)<|zs (yo aF)<|zz<|z4 xf xl xn E<|M<|zl ?_;refine lp O [2,3,11,13,29,30,31,37,9018,9032] (λk (a,b,c)=>Z 38 a<|W 100041 (.own 41 [] 5 b)<|W 100043 (.own 43 [] 23 c)<|k) (λk (a,b)=>(.exit 2,W 100041 (.own 41 [] 5 a)<|W 100043 (.own 43 [] 23 b)<|k)) ?_ ?_
    .rintro⟨N,ac,Y⟩ am j;refine U<|zo xi<|M<|za<|zd j (λo j=>?_) λo j=>?_
     .refine zk<|zt ?_;refine jn j (IG N) [2,3,11,13,29,30,31,37,38,9018,9032] (λk (a,b)=>W 100043 (.own 43 [] 23 a)<|W 100041 (.own 41 [] 5 b)<|k) ?_ ?_
      .rintro⟨_,_⟩ j;exact zb<|z2 xy E<|zw<|zN j
      .refine zl<|U<|z2 E I<|zz<|z3 xf xl E<|bB j λA D j=>z2 (xu D) I<|zz<|zo E ?_;refine wo (ah.mW (ai rfl))<|bB j λal S j=>?_;refine wo ((ah.tG S iz (ai rfl) rfl).flat (T':=[]))<|z2 xb E<|g4 rfl rfl (λ_=>⟨E,xf,xf,xl⟩)<|g2 rfl rfl (λ_=>⟨E,xy⟩)<|bB j λan Q j=>zg rfl rfl (λo=>kC [0] 42 (MP _ _ (bM Q o)))<|zo xw<|M<|zd j (λo j=>?_) λo j=>?_
       .refine bB j λJ C j=>?_;exact aO.Iy [[],[],[1],[],[],[0],[0,5],[0,1,2,3,4,5,6],[0,1,2,3,4,5,6,7]] [[.ae 58 (.cJ 41 (A * Rp.n UInt8))],[.ae 59 (.cJ 32 6)],[.ae 60 (.aL 43)],[.ae 61 (.rep [] (N:Int))],[.ae 62 (.rep [] (L:UInt32))],[.ae 63 (.cJ 41 (A * Rp.n UInt8))],[.ae 100041 (.own 41 [] 5 ((ac).set A (2:UInt8):List UInt8)), .av 41],[.ae 64 (.cJ 43 (J * Rp.n UInt32))],[.ae 100043 (.own 43 [] 23 ((Y).set J L:List UInt32)), .av 43]] aI (by kernel_rfl) (ao (so (ah.move (ai rfl))) (ao (so (ah.nm aY.h (aV (ai rfl) (Cv.eG rfl)))) (ao (so (ic (i:=6) cj.h rfl (ai rfl) rfl (aW rfl))) (ao (so (ah.move (ai rfl))) (ao (so (ah.move (ai rfl))) (ao (so (ah.mW (ai rfl))) (ao (cI.yJ (au.nw (te':=[]) rfl (kr D rfl) iz (ai rfl) rfl (Has.u8 2 rfl) cC.flat cC.flat)) (ao (so (ah.wT C de.h (ai rfl) rfl (ai rfl))) (ao (cI.yJ (au.nw (te':=[]) rfl (kr C rfl) tR (ai rfl) rfl (ai rfl) cC.flat cC.flat)) jR.nil)))))))))<|zh<|zJ (_,_) j
       .exact zk<|zh<|zJ (_,_) j
     .exact ze<|zE<|zB j
    .intro _;refine zj<|zh<|zt<|zb<|z2 xy E<|zw ?_;exact λa w e=>⟨rfl,e.sub (by(repeat(first|refine sn ?_|refine Sub.cons (Has.u7 (ai rfl) rfl) ?_));exact Sub.nil)⟩
   .exact absurd o (by simp)
  .refine U<|zo xi<|M<|za ?_;refine aO.cond rfl (λo=>?_) (λo=>?_)
   .exact absurd o (by simp)
   .refine ze<|zE ?_;exact λa w e=>⟨rfl,e.sub (by(repeat(first|refine sn ?_|refine Sub.cons (Has.u7 (ai rfl) rfl) ?_));exact Sub.nil)⟩
  .refine zj<|zt<|U<|z3 E I I<|M<|zr ?_;exact aH.wU rfl (bW.tmp (Has.MY (ls:=[tr y.dR,tr y.aZ.bG,tr y.aZ.At,tr y.aZ.eZ,(false,1,aa.ow [27] [] 5 y.aZ.bO),(false,1,aa.aL 41),(false,1,aa.aL 43),(false,1,aa.ow [30] [31,0] 43 y.bO)]) (ai rfl) rfl (bJ.cons (aW rfl) (bJ.cons (aW rfl) (bJ.cons (aW rfl) (bJ.cons (aW rfl) (bJ.cons (aW rfl) (bJ.cons (aW rfl) (bJ.cons (aW rfl) (bJ.cons (aW rfl) bJ.nil)))))))) (bq (Cv.pI (cK.cons (cK.sub (cK.cons (cK.cons (cK.cons (cK.cons cK.nil)))) rfl (cK.cons (cK.cons (cK.cons cK.nil)))))) (bq (di (vf (aX.cons (bq (bq (di (vf (vf (vf (aX.cons (bq (bq Cv.iS (Cv.iR (T':=[27]) rfl rfl)) (Cv.m rfl)) aX.nil))))) (dG (T:=[27]) (dg.h (aZ.mk y.aZ.bG y.aZ.At y.aZ.eZ y.aZ.bO)))) (Cv.m rfl)) (aX.cons (bq (Cv.own rfl) (Cv.m rfl)) (aX.cons (bq (Cv.own rfl) (Cv.m rfl)) (aX.cons (bq (bq (Cv.RA ag) (bq Cv.iS (Cv.iR (T':=[30]) rfl rfl))) (Cv.m rfl)) aX.nil)))))) (dG (T:=[18,27,30,41,43]) (dg.h (dq.mk y.dR (aZ.mk y.aZ.bG y.aZ.At y.aZ.eZ y.aZ.bO) q.1 q.2 y.bO))))) rfl rfl)) (bW.cv (bW.tmp (ai rfl)) Cv.fl)
section
attribute [local irreducible] aO br aH GL.ah GL.au
theorem aal(a0){r}(a:Yb a0=some r):CT 339 [.ptr 0 a0] (.eV (gv (.rep 0) (.rep 0) (.rep 0) r.1) (.rep 0 r.2.1) (.fl r.2.2)) [0]:=by
 refine cw [[0]] func339 λw0 om=>?_;refine U<|zs (ya 10)<|z2 I I<|M<|za<|U<|z5 E xC xp xD xq<|M<|zd a (λj a=>?_) λj a=>?_
 .refine za ?_;refine zQ aI (S:=p5 bU E xC xp xD<|aq (sE (kR 10 [_,_,_,_,_,_,_,_,_,_,_,_,_,_,_,_,_,_,_,_,_,_,_,_] (.av 10::(kK 11 23 []))) (yo bT))<|p2 I I<|aN) (h:=zt<|zr<|zR ?_);cases a;exact dL
 .refine zk<|zt<|za ?_;refine zQ aI (S:=p6 E xC xp xd E xC<|p2 xp xd<|aq (sE (kR 10 [_,_,_,_,_,_,_,_,_,_,_,_,_,_,_,_,_,_,_,_,_,_,_,_] (.av 10::(kK 11 23 []))) (yo ck))<|p2 I I<|aN) (h:=zt<|zr ?_);cases a;exact dL
end
end
end Go.Proofs.YthpphdegpinepaaGreat
