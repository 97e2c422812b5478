/- Part of the proof of TopAny. -/
import Derived.Test.YthpphdegpinepaaGreatW4
namespace Go.Proofs.YthpphdegpinepaaGreat
open Go GL Tryz
open Go.Proofs.Tryz renaming prog -> H
open And renaming left -> iw, right -> jr
set_option linter.all false
set_option maxRecDepth 100000
set_option maxHeartbeats 20000000
noncomputable section
section
attribute [local irreducible] aO br aH GL.ah GL.au
theorem VZ:C4 331 Mt (s3 (gv (.own 0 (some 1) 79) (.own 2 none 133) (.rep 3)) (.own 0 none 233)) [3]:=λaU ce D C r hm=>(cv [[108,218],[109,219],[110],[0,111,112,220]] func331) λ_ _=>by
 refine U<|zs (yb 10 ck)<|zs (yb 34 fc)<|zs (ya 36)<|z2 I I<|zz<|z2 xR E ?_;refine il hm (O1 aU D C) [3,4,6,8,50010] (λk (a,b,c,d,e,f,g,h,i,j,l,m,n,o,q,r,t,v,w,x,y,z,A,B)=>W 21 (.aL 114)<|V8 115 a b c d e f g h<|V6 123 i j l m n o<|Y 129 (.ow [108] [109] 79 q)<|V4 130 r t v w<|Y 134 (.ow [110] [] 133 x)<|Y 135 (.ow [111] [0,112] 120 y)<|V2 136 z A<|Y 138 (.dM)<|V 139 B<|O 114 25<|k) func338 cF ?_ ?_
 .refine λa2=>iu 1 [3,4,6,8] [50010] ?_;refine U<|zs (yb 60 bT)<|zo I<|zz<|zo xR ?_;refine il hm (PS aU ce D C) [1,2,902003,902004,902006,902008,74010] (λk (a,b,c,d,e,f,g,h,i,j,l,m,n,o,q,r,t,v,w,x,y,z,A,B)=>W 8 (.aL 114)<|V8 115 a b c d e f g h<|V6 123 i j l m n o<|Y 129 (.ow [108] [109] 79 q)<|V4 130 r t v w<|Y 134 (.ow [110] [] 133 x)<|Y 135 (.ow [111] [0,112] 120 y)<|V2 136 z A<|Y 138 (.dM)<|V 139 B<|O 114 25<|k) func346 cF ?_ ?_
  .refine λbd=>iu 2 [1,2] [902003,902004,902006,902008,74010] ?_;refine U<|zs (yb 84 bT)<|zo I<|M<|za<|bB hm λcg bg hm=>bB hm λch bi hm=>?_;refine zQ aI (S:=p5 xR (kC [0] 108 (mw _ bg)) xR (kC [0] 113 (lv _ bi)) bU<|aq (sE (.ae 9 _::(kR 114 [_,_,_,_,_,_,_,_,_,_,_,_,_,_,_,_,_,_,_,_,_,_,_,_,_,_] (kK 114 26 []))) (yb 114 dW))<|o1 I<|aN) (h:=zt<|za<|U<|z5 E xc xf xl xe<|zo E<|g3 rfl rfl (λ_=>⟨xf,xf,xl⟩)<|zo xw<|M<|zx hm λu hm=>zk<|zt<|U<|z2 E I<|M<|zr ?_);exact bS (_,_,_,_,_,_,_,_,_,_,_,_,_,_,_,_,_,_,_,_,_,_,_,_) hm
  .rintro⟨b',b9,b7,cb,cd,cc,bE,bn,bQ,bl,bv,bq,bz,b2,bN,bs,bA,bD,bP,br,b3,bI,bV,bM⟩ hm;refine zo I<|M ?_;refine jn hm (G_ aU D C b' b9 b7 cb cd cc bE bn bQ bl bv bq bz b2 bN bs bA bD bP br b3 bI bV bM) [5,902003,902004,902006,902008,50010,26114] (λk p=>k) ?_ ?_
   .rintro _ hm;exact U<|z2 E I<|M<|zr<|bS (_,_,_,_,_,_,_,_,_,_,_,_,_,_,_,_,_,_,_,_,_,_,_,_) hm
   .refine U<|z5 E xc xf xl xe<|zo E<|g4 rfl rfl (λ_=>⟨E,xc,xf,xl⟩)<|zg rfl rfl (λ_=>xe)<|zo xo<|M<|zd hm (λu hm=>?_) λu hm=>?_
    .exact U<|z3 xf xP E<|bB hm λci be hm=>z2 (kC [0] 140 (rA _ _ be)) I<|zz<|z2 E xq<|M<|zx hm λu hm=>zk<|zJ () hm
    .exact zk<|zJ () hm
 .rintro⟨ay,aE,az,am,ap,an,ar,aw,aG,al,N,Q,K,J,aJ,ac,ag,af,ak,ad,aH,X,G,_⟩ hm;refine zo I<|M<|za<|U<|z5 E xc xf xl xq<|M<|zx hm λu hm=>zk<|zt<|U<|z5 xf xP xf xl xl<|zo E<|bB hm λcH bH hm=>z5 (kC [0] 141 (Qw _ _ _ _ bH)) E aC aB I<|zo I<|M<|za<|U<|z4 E E xe E<|zg rfl rfl (λ_=>E)<|zo xw ?_;refine il hm (NJ aU D C ay aE az am ap an ar aw aG al N Q K J aJ ac ag af ak ad aH X G) [3,4,6,8,11,50010,25114] (λk (a,b)=>Z 48 a<|V 139 b<|k) func340 cF ?_ ?_
  .refine λa2=>iu 1 [3,4,6,8,11] [50010,26114] ?_;refine U<|zo I<|M ?_;refine jn hm (IQ aU D C ay aE az am ap an ar aw aG al N Q K J aJ ac ag af ak ad aH X G) [0,902003,902004,902006,902008,902011,50010,25114] (λk p=>V 139 p<|k) ?_ ?_
   .rintro co hm;exact U<|z5 E xc xf xl xe<|zo I<|M<|zr<|bS (_,_) hm
   .refine U<|z5 E xc xf xl xe<|zo E<|g2 rfl rfl (λ_=>⟨E,xN⟩)<|zo xw<|M<|zd hm (λu hm=>?_) λu hm=>?_
    .exact zb<|z4 E E xc xf<|zs (yt)<|zw<|zJ _ hm
    .exact zk<|zJ _ hm
  .rintro⟨_,_⟩ hm;refine zo xN<|M<|zx hm λu hm=>zk<|zt<|U<|z5 E xc xf xf xl<|zo xF<|bB hm λcm bC hm=>z2 (kC [0,34,111,112] 142 (AY _ _ bC) (H2 (j0 rfl (jT λy _=>@Ub y D _)))) I<|zz<|z5 E xc xf xf xl<|zo E<|bB hm λaQ bw hm=>z2 (xJ bw) xs<|zs (ya 143)<|zs (yo ck)<|zz<|z5 E xf xf xl xz<|zo I<|M<|za<|U<|z4 E xf xl E<|bB hm λcz b6 hm=>z3 (xI b6) xD xb ?_;refine il hm (KX aU D C ay aE az am ap an ar aw aG al N Q K J aJ ac ag af ak ad aH X G aQ) [3,4,6,8,11,15,16,50010,25114,9143] (λk (a,b)=>Z 82 a<|V 139 b<|k) func340 cF ?_ ?_
   .refine λa2=>iu 1 [3,4,6,8,11,15,16] [50010,26114,9143] ?_;refine U<|zo I<|M ?_;refine jn hm (Ju aU D C ay aE az am ap an ar aw aG al N Q K J aJ ac ag af ak ad aH X G aQ) [0,902003,902004,902006,902008,902011,902015,902016,50010,25114,9143] (λk p=>V 139 p<|k) ?_ ?_
    .rintro cx hm;exact U<|z5 E xc xf xl xe<|zo I<|M<|zr<|bS (_,_) hm
    .refine U<|z5 E xc xf xl xe<|zo E<|g2 rfl rfl (λ_=>⟨E,xN⟩)<|zo xw<|M<|zd hm (λu hm=>?_) λu hm=>?_
     .exact zb<|z4 E E xc xf<|zs (yt)<|zw<|zJ _ hm
     .exact zk<|zJ _ hm
   .rintro⟨_,b8⟩ hm;refine zo xN<|M<|zx hm λu hm=>zk<|zt<|U<|z3 xf xP E<|bB hm λaM bG hm=>z4 (kC [] 152 (CR _ _ bG)) E aC aB<|zs (ya 153)<|zs (yo aA)<|zo I<|M<|za<|U<|z3 xf xf xl<|M<|zl<|U<|zo xb<|zo I<|M<|zx hm λu hm=>U<|z2 xb I<|M<|zx hm λu hm=>bB hm λaR bZ hm=>?_;refine aO.VD [[],[],[],[],[],[4],[4,5],[],[7],[],[9],[9,10],[4,5,6,7,8,9,10,11],[0,1,2,3,4,5,6,7,8,9,10,11,12]] [[.ae 99 (.aL 114)],[.ae 100 (.rep [] (D:Int))],[.ae 101 (.rep [] (C:Int))],[.ae 102 (.aK [tr aM.1.L,tr aM.1.Slot,tr aM.1.yf])],[.ae 103 (.cJ 143 1)],[.ae 104 (.cJ 143 4)],[.ae 105 (.rep [0,112] aQ.aZ.bO)],[.ae 106 (.rep [] ((wI (C - aQ.aZ.At)):Int))],[.ae 107 (.rep [] ((wI ((wI (C - aQ.aZ.At)) * (128:Int))):Int))],[.ae 108 (.rep [] ((wI (C - aQ.aZ.At)):Int))],[.ae 109 (.rep [] ((wI ((wI (C - aQ.aZ.At))+(1:Int))):Int))],[.ae 110 (.rep [] ((wI ((wI ((wI (C - aQ.aZ.At))+(1:Int))) * (128:Int))):Int))],[.ae 111 (.rep [0,112] (aR:List UInt8))],[]] aI rfl rfl rfl (by kernel_rfl) rfl (by kernel_rfl) (ao (so (ah.move (ai rfl))) (ao (so (ic (i:=0) N9 rfl (aV (ai rfl) (Cv.eG rfl)) rfl (aW rfl))) (ao (so (ah.move (ai rfl))) (ao (so (ah.FJ (ls:=[tr aM.1.L,tr aM.1.Slot,tr aM.1.yf]) cj.h rfl (by kernel_rfl) (ai rfl) rfl (bJ.cons (aW rfl) (bJ.cons (aW rfl) (bJ.cons (aW rfl) bJ.nil))))) (ao (so (ah.nm aY.h (aV (ai rfl) (Cv.eG rfl)))) (ao (so (ah.nm aY.h (ai rfl))) (ao (so (ic (i:=4) cj.h rfl (ai rfl) rfl (aW rfl))) (ao (so (ah.move (ai rfl))) (ao (so (ah.Js (ai rfl) e_)) (ao (so (ah.move (ai rfl))) (ao (so (ah.MI (ai rfl) e_)) (ao (so (ah.Js (ai rfl) e_)) (ao (so (ah.fy bZ qn.h (ai rfl) (ai rfl) (ai rfl))) jR.nil))))))))))))) ?_;refine ol hm (Kx ay aE az am ap an ar aw aG al N Q K J ac ag af ak ad X G) [8,11,24036,15114,5130,3136] (λk (a,b,c)=>W 112 (.top)<|Y 129 (.ow [108,218] [109,219] 79 a)<|Y 135 (.rep [0,111,112,220] b)<|V 139 c<|k) func343 cF ?_ ?_
    .refine λa2=>iu 1 [8,11] [24036,26114] ?_;refine U ?_;refine ws (au.pR (ls:=[(false,1,aa.aL 114)]) 157 rfl rfl rfl rfl (eY.WY (One.obj (ai rfl) rfl) (ai rfl)))<|zs (yb 159 aF)<|zs (yb 163 fc)<|zz<|zs (ya 165)<|zs (ya 167) ?_;refine ws (au.nj (i:=0) (f:=aa.rep [] ((1:UInt8):UInt8)) rfl iz rfl (aV (ai rfl) (Cv.eG rfl)) rfl (Has.u8 1 rfl) (Has.u8 1 rfl) rfl) ?_;refine ws (au.nj (i:=0) (f:=aa.rep [] ((0:UInt32):UInt32)) rfl tR rfl (aV (ai rfl) (Cv.eG rfl)) rfl (Has.u32 0 rfl) (Has.u32 0 rfl) rfl)<|zz<|z4 xl xf xl xF ?_;refine il hm (vY D C ay aE az am ap an ar aw aG al N Q K J ac ag af ak ad aH X G) [1,2,5,10,11,902008,902011,24036,15114,9130,2157,4165] (λk (a,b)=>W 16 (.top)<|Y 129 (.ow [108,218] [109,219] 79 a)<|V 139 b<|k) func350 cF ?_ ?_
     .refine λbd=>iu 2 [1,2,5,10,11] [902008,902011,24036,26114,12157] ?_;refine U<|z2 E E ?_;refine il hm (EV D C ay aE az am ap an ar aw aG al N Q K J aJ ac ag af ak ad aH X G b8 aM aR) [0,1,2,3,902008,902011,904001,904002,904005,904010,904011,24036,26114,12157] (λk (a,b,c,d,e,f,g)=>W 17 (.cP (aa.aK [tr a,(false,1,aa.rep [109] b),(false,1,aa.rep [109] c),tr d,tr e,tr f]) (R1 g))<|k) func347 cF ?_ ?_
      .refine λa1=>iu 3 [0,1,2,3] [902008,902011,904001,904002,904005,904010,904011,24036,26114,12157] ?_;refine U<|zs (ya 169)<|zo I<|M<|za<|bB hm λcB b1 hm=>?_;refine zQ aI (S:=p6 E xc xf xf xP E<|p6 xc xf xf xl E (kC [108,109] 176 (pA _ _ _ b1))<|p5 E aC aB I I<|aN) (h:=zt<|za<|U<|z2 E xq<|M<|zd hm (λu hm=>?_) λu hm=>?_)
       .exact U<|zo bU<|zs (yo aF)<|zo I<|M<|zr<|zR<|dU (_,_,_,_,_,_,_) hm
       .exact zk<|zt<|U<|z5 E xc xf xf xl<|zo E<|bB hm λcn b4 hm=>z2 (xJ b4) xs<|zs (yo aA)<|zo I<|M<|zr<|dU (_,_,_,_,_,_,_) hm
      .rintro⟨a9,a3,bc,a8,a6,ba,_⟩ hm;refine z3 E aC aB<|zs (ya 177)<|zs (yo aF)<|zo I<|M ?_;refine jn hm (G2 D C ay aE az am ap an ar aw aG al N Q K J aJ ac ag af ak ad aH X G aM aR) [0,3,8,902008,902011,904001,904002,904005,904010,904011,24036,25114,12157,1177] (λk (a,b,c,d,e,f,g)=>V 139 a<|V 178 b<|Y 179 (.rep [109,185] c)<|Y 180 (.rep [109,186] d)<|V3 181 e f g<|k) ?_ ?_
       .rintro⟨ca,_,_,_,_,_,_⟩ hm;refine U<|z2 E xr ?_;refine il hm (Po D C ay aE az am ap an ar aw aG al N Q K J aJ ac ag af ak ad aH X G ca) [0,902008,902011,904001,904002,904005,904010,904011,24036,26114,2157,4165] (λk (a,b,c,d,e,f,g)=>W 60 (.cP (aa.aK [tr a,(false,1,aa.ow [201] [202] 43 b),(false,1,aa.ow [203] [] 4 c),tr d,tr e,tr f]) (R1 g))<|k) func353 cV ?_ ?_
        .refine λa1=>iu 3 [0] [902008,902011,904001,904002,904005,904010,904011,24036,26114,12157] ?_;refine U<|zs (yb 187 aF)<|zs (ya 194)<|zo I<|M<|za<|bB hm λcw bL hm=>?_;refine zQ aI (S:=p6 xl xc xf xf xP xr<|p6 xf xl xl (kC [0,109,112,185,186] 201 (KY _ _ _ _ bL)) E aC<|o1 aB<|aq (sE (.ae 9 _::(kR 204 [_,_,_,_,_,_,_] (kK 204 7 []))) (ya 204))<|aq (sE (kR 204 [_,_,_,_,_,_,_] (.av 204::(kK 205 6 []))) (yo aF))<|o1 I<|aN) (h:=zt<|za<|U<|z3 E xq E<|g4 rfl rfl (λ_=>⟨xl,xc,xf,xf⟩)<|g2 rfl rfl (λ_=>⟨xl,xN⟩)<|z2 xo E<|g4 rfl rfl (λ_=>⟨xl,xc,xf,xf⟩)<|g2 rfl rfl (λ_=>⟨xf,xl⟩)<|zo xo<|M<|zd hm (λu hm=>?_) λu hm=>?_)
         .exact U<|z2 xr E<|zs (yo aF)<|zo I<|M<|zr<|zR<|dU (_,_,_,_,_,_,_) hm
         .refine zk<|zt ?_;exact nomatch hm
        .rintro⟨a7,a_,a4,bb,a',a5,_⟩ hm;refine z3 E aC aB<|zs (ya 211)<|zs (yo aF)<|zo I<|zz<|z4 E E xe E ?_;refine il hm (PY D C ay aE az am ap an ar aw aG al N Q K J aJ ac ag af ak ad aH X G a7 a_ a4 bb a' a5) [0,12,902008,902011,904001,904002,904005,904010,904011,24036,25114,2157,4165,7211] (λk (a,b)=>Z 67 a<|V 139 b<|k) func340 cF ?_ ?_
         .refine λa1=>iu 3 [0,12] [902008,902011,904001,904002,904005,904010,904011,24036,26114,2157,4165,7211] ?_;refine U<|zo I<|M ?_;refine jn hm (E5 D C ay aE az am ap an ar aw aG al N Q K J aJ ac ag af ak ad aH X G a7 a_ a4 bb a' a5) [0,902008,902011,904001,904002,904005,904010,904011,906000,906012,24036,25114,2157,4165,7211] (λk p=>V 139 p<|k) ?_ ?_
          .rintro cA hm;exact U<|z5 E xc xf xl xe<|zo I<|M<|zr<|bS (_,_) hm
          .refine U<|z5 E xc xf xl xe<|zo E<|g2 rfl rfl (λ_=>⟨E,xN⟩)<|zo xw<|M<|zd hm (λu hm=>?_) λu hm=>?_
           .exact zb<|z4 E E xc xf<|zs (yt)<|zw<|zJ _ hm
           .exact zk<|zJ _ hm
         .rintro⟨_,_⟩ hm;refine M<|zd hm (λu hm=>?_) λu hm=>?_
          .refine bB hm λcp bm hm=>?_;refine zQ aI (S:=p6 E E xc xf xf xP<|p6 E xc xf xf xl xr<|p6 (kC [108,109,201,202,203] 218 (vF _ _ _ bm)) E aC aB xc xf<|o1 xf<|aq (sE [.ae 100129 _,.ae 100114 _,.av 114,.bp 129] (yt))<|aN) (h:=?_);exact eW (dK (_,_) hm)
          .refine zk ?_;exact eW (dK (_,_) hm)
       .refine U<|z3 E xN E<|zg rfl rfl (λ_=>E)<|zo xw<|M<|zd hm (λu hm=>?_) λu hm=>?_
        .refine za<|bB hm λcr b5 hm=>?_;refine zQ aI (S:=p6 E xc xf xf xP E<|p6 xc xf xf xl (kC [108,109] 184 (vM _ _ b5)) E<|p4 aC aB I I<|aN) (h:=zt<|za<|U<|z2 E E ?_);refine il hm (Lc D C ay aE az am ap an ar aw aG al N Q K J aJ ac ag af ak ad aH X G aM aR) [0,1,3,8,902008,902011,904001,904002,904005,904010,904011,24036,25114,12157,7177] (λk (a,b)=>Z 41 a<|V 139 b<|k) func340 cF ?_ ?_
         .refine λa1=>iu 3 [0,1,3,8] [902008,902011,904001,904002,904005,904010,904011,24036,26114,12157,7177] ?_;refine U<|zo I<|M ?_;refine jn hm (Ii D C ay aE az am ap an ar aw aG al N Q K J aJ ac ag af ak ad aH X G aM aR) [0,902008,902011,904001,904002,904005,904010,904011,906000,906001,906003,906008,24036,25114,12157,7177] (λk p=>V 139 p<|k) ?_ ?_
          .rintro cu hm;exact U<|z5 E xc xf xl xe<|zo I<|M<|zr<|bS (_,_) hm
          .refine U<|z5 E xc xf xl xe<|zo E<|g2 rfl rfl (λ_=>⟨E,xN⟩)<|zo xw<|M<|zd hm (λu hm=>?_) λu hm=>?_
           .exact zb<|z4 E E xc xf<|zs (yt)<|zw<|zJ _ hm
           .exact zk<|zJ _ hm
         .rintro⟨_,_⟩ hm;refine zo xN<|M<|zd hm (λu hm=>?_) λu hm=>?_
          .exact zr<|zR<|zR<|dK (_,_) hm
          .exact zk<|zt<|zb<|z5 E xc xf xf xP<|zo E<|bB hm λcD bR hm=>z4 (kC [] 185 (wi _ _ bR)) E aC aB<|zs (yo aF)<|zw<|zJ (_,_,_,_,_,_,_) hm
        .refine U<|z2 E E ?_;refine il hm (LI D C ay aE az am ap an ar aw aG al N Q K J aJ ac ag af ak ad aH X G aM aR a9 a3 bc a8 a6 ba) [0,3,8,902008,902011,904001,904002,904005,904010,904011,24036,25114,12157,7177] (λk (a,b)=>Z 55 a<|V 139 b<|k) func340 cF ?_ ?_
         .refine λa1=>iu 3 [0,3,8] [902008,902011,904001,904002,904005,904010,904011,24036,26114,12157,7177] ?_;refine U<|zo I<|M ?_;refine jn hm (II D C ay aE az am ap an ar aw aG al N Q K J aJ ac ag af ak ad aH X G aM aR a9 a3 bc a8 a6 ba) [0,902008,902011,904001,904002,904005,904010,904011,906000,906003,906008,24036,25114,12157,7177] (λk p=>V 139 p<|k) ?_ ?_
          .rintro cG hm;exact U<|z5 E xc xf xl xe<|zo I<|M<|zr<|bS (_,_) hm
          .refine U<|z5 E xc xf xl xe<|zo E<|g2 rfl rfl (λ_=>⟨E,xN⟩)<|zo xw<|M<|zd hm (λu hm=>?_) λu hm=>?_
           .exact zb<|z4 E E xc xf<|zs (yt)<|zw<|zJ _ hm
           .exact zk<|zJ _ hm
         .rintro⟨_,_⟩ hm;refine zo xN<|M<|zd hm (λu hm=>?_) λu hm=>?_
          .exact zr<|zR<|dK (_,_) hm
          .exact zk<|zJ (_,_,_,_,_,_,_) hm
     .rintro⟨b_,_⟩ hm;refine M<|zb<|z5 xl E E xl xl ?_;refine il hm (Ig ay aE az am ap an ar aw aG al N Q K J ac ag af ak ad X G b_) [902008,902011,24036,21114,3136] (λk (a,b)=>W 22 (.top)<|Y 135 (.rep [0,111,112,220] a)<|V 139 b<|k) func349 cF ?_ ?_
      .refine λbd=>iu 2 [] [902008,902011,24036,26114] ?_;refine U<|z5 E xc xf xl xe<|M<|zd hm (λu hm=>?_) λu hm=>?_
       .refine bB hm λcq b0 hm=>?_;refine zQ aI (S:=p6 E E E xc xf xf<|p6 xP E xc xf xf xl<|p6 E E E E E (kC [0,111,112] 220 (WB _ _ _ _ _ _ _ b0))<|p6 E aC aB xc xf xf<|aq (sE [.ae 100135 _,.ae 100114 _,.av 114,.bp 135] (yt))<|p2 xc xf<|aq (sE [.ae 100139 _,.ae 100114 _,.av 114,.bp 139] (yt))<|aN) (h:=?_);exact eW (dK (_,_) hm)
       .refine zk ?_;exact eW (dK (_,_) hm)
      .rintro⟨_,_⟩ hm;refine zw ?_;exact eW (dK (_,_,_) hm)
    .rintro⟨_,_,_⟩ hm;refine zw<|zh<|zt<|U<|zo E ?_;refine il hm GG [8,24036] (λk (a,b,c,d,e,f,g,h,i,j,l,m,n)=>W 129 (.eV (aa.aK [(true,6,aa.rep [] a),tr b,(true,7,aa.rep [] c),(false,1,aa.ow [108,218] [109,219] 79 d),(true,5,aa.aK [tr e,tr f,tr g,tr h,(false,1,aa.ow [110] [] 133 i)]),(false,1,aa.rep [0,111,112,220] j),tr l,tr m]) (aa.dM) (R1 n))<|k) func339 cF ?_ ?_
     .refine λa2=>iu 1 [8] [24036,26114] ?_;refine U<|zs (ya 221)<|z2 I I<|M<|za<|U<|z5 E xc xf xl xq<|M<|zd hm (λu hm=>?_) λu hm=>?_
      .refine za ?_;refine zQ aI (S:=p5 bU E xc xf xl<|aq (sE (kR 221 [_,_,_,_,_,_,_,_,_,_,_,_,_,_,_,_,_,_,_,_,_,_,_,_] (.av 221::(kK 222 23 []))) (yo bT))<|p2 I I<|aN) (h:=zt<|zr<|zR ?_);exact jo (_,_,_,_,_,_,_,_,_,_,_,_,_) hm
      .refine zk<|zt<|za ?_;refine zQ aI (S:=p6 E xc xf hX E xc<|p2 xf xl<|aq (sE (kR 221 [_,_,_,_,_,_,_,_,_,_,_,_,_,_,_,_,_,_,_,_,_,_,_,_] (.av 221::(kK 222 23 []))) (yo bT))<|p2 I I<|aN) (h:=zt<|zr ?_);exact jo (_,_,_,_,_,_,_,_,_,_,_,_,_) hm
     .rintro⟨_,_,_,_,_,_,_,_,_,_,_,_,_⟩ hm;refine z3 eJ eI eL<|zs (yo dW)<|z2 I I<|M<|zr ?_;cases hm;exact dL
theorem EK(a0 a1){r}(a:rz a0 a1=some r):CT 356 [.ptr 0 a0,.rep 0 a1] (.fl r) []:=by refine cw [[]] func356 λw0 om=>?_;refine U<|zo I<|M<|za<|bB a λo j a=>?_;refine zQ aI (S:=p6 E xC xp xp xD E<|p6 xC xp xp xD E (kC [] 10 (QH _ _ _ j))<|p5 E aC aB I I<|aN) (h:=zt<|U<|z2 E I<|M<|zr ?_);cases a;exact az
theorem Rr:C2 236 Jy .fl:=λz u r a=>(cv [[]] func236) λ_ _=>by refine U<|zs (yb 10 ck)<|zo I<|M<|za<|bB a λw o a=>bB a λq j a=>?_;refine zQ aI (S:=p6 E xf xf xl xy xR<|p6 (kC [] 18 (Lu _ o)) xz xz xf xf xl<|p6 (kC [] 19 (qW _ _ j)) E aC aB I I<|aN) (h:=zt<|U<|z2 E I<|M<|zr ?_);cases a;exact az
theorem K5:C3 195 wZ (s2 .fl):=λA u z r a=>(cv [[]] func195) λ_ _=>by refine U<|zs (yb 10 aA)<|z2 I I<|zz<|z5 xr E E xf xl<|bB a λw o a=>z4 (kC [] 17 (Hf _ _ _ _ o)) E aC aB<|zs (ya 18)<|zs (yo ck)<|zo I<|M<|za<|U<|z2 E xq<|M<|zx a λB a=>zk<|zt<|U<|z2 xR E<|bB a λq j a=>z3 (kC [] 26 (Rr _ _ j)) I I<|M<|zr ?_;cases a;exact bC
theorem Wr:C3 381 E' .fl:=λz q w r a=>(cv [[]] func381) λ_ _=>by
 refine U<|zs (yb 10 aA)<|zo I<|M<|za<|U<|z2 E xe<|M<|zd a (λo a=>?_) λo a=>?_
 .refine U<|zo I<|M<|zr<|zR ?_;cases a;exact az
 .refine zk<|zt<|U<|z3 xr E E<|bB a λu j a=>z5 (kC [] 17 (K5 _ _ _ j)) E aC aB I<|zo I<|zz<|z2 E I<|M<|zr ?_;cases a;exact az
theorem Yt:C2 380 D9 (.own 0 (some 1) 496) [1]:=λK D r j=>(cv [[15],[0,14]] func380) λ_ _=>by
 refine U<|zo I<|zz<|zo I<|M<|za<|U<|z3 E xn E<|M<|zl<|bB j λG u j=>?_;refine lp u [0,8,9] (λk (a,b)=>W 5 (.ow [15] [0,14] 496 a)<|Z 10 b<|k) (λk b=>(.exit 0,W 5 (.ow [15] [0,14] 496 b)<|k)) ?_ ?_
 .rintro⟨_,s2⟩ C j;refine U<|zo xi<|M<|za<|zd j (λo j=>?_) λo j=>?_
  .refine zk<|zt ?_;refine jn j (DO s2) [0,8,9,10] (λk p=>W 5 (.ow [15] [0,14] 496 p)<|k) ?_ ?_
   .rintro B j;exact zb<|z2 xy E<|zw<|zN j
   .refine zl<|U<|bB j λA w j=>z2 (xI w) xd<|zs (ya 10)<|zs (yo aA)<|zz<|z3 xf xl E<|bB j λL z j=>z2 (kC [0] 13 (MP _ _ z)) xN<|M<|zd j (λo j=>?_) λo j=>?_
    .exact zb<|z3 E xr (xt [0] 14 [A])<|bB j λJ q j=>zs (yA [0,14] q)<|zo I<|zw<|zh<|zJ _ j
    .exact zk<|zh<|zJ _ j
  .exact ze<|zE<|zB j
 .intro _;refine zj<|zt<|U<|z2 E I<|M<|zr ?_;cases j;exact az
theorem Vt(a0 a1){r}(j:Iq a0 a1=some r):CT 379 [.rep 0 a0,.fn H Jo 0 a1] (.aK [(false,1,.fl r.bG),(false,1,.rep 0 r.Reads)]) [0]:=by
 refine cw [[0]] func379 λw0 om=>?_;refine U<|zs (ya 10)<|M ?_;refine jn j (E1 a0 a1) [0,1,4,3010] (λk p=>k) ?_ ?_
 .rintro _ j;refine U<|zo E<|bB j λK C j=>z2 (xI C) xd<|zs (ya 13)<|zs (yo aA)<|M<|za<|U<|zo I<|M<|zl<|bB j λG z j=>?_;refine lp z [0,1,4,5,4010] (λk (a,b,c)=>Z 6 a<|V 14 b<|Y 15 (.rep [0] c)<|k) (λk (a,b)=>(.exit 0,V 14 a<|Y 15 (.rep [0] b)<|k)) ?_ ?_
  .rintro⟨s2,s3,u⟩ J j;refine za<|U<|z4 E E xn xi<|M<|zd j (λo j=>?_) λo j=>?_
   .refine zk<|zt ?_;refine jn j (Cr s2) [0,1,4,5,6,4010] (λk (a,b)=>V 14 a<|Y 15 (.rep [0] b)<|k) ?_ ?_
    .rintro⟨_,_⟩ j;exact zb<|z3 E xy I<|zw<|zN j
    .refine zl<|za<|bB j λD B j=>bB j λL A j=>?_;refine zQ aI (S:=p6 E E E (xI B) xd xr<|p2 (lh (x:=(D,(eE.mk s3 u))) [0] 16 A) xi<|aN) (h:=zt<|zd j (λo j=>?_) λo j=>?_)
     .exact zb<|z2 E E<|bB j λq w j=>z2 (xI w) xd<|zs (yo aA)<|zw<|zh<|zJ (q.bG,q.Reads) j
     .exact zk<|zh<|zJ (s3,u) j
   .exact ze<|zE<|zB j
  .intro _;refine zj<|zt<|U<|zo xr<|zs (yo aF)<|M<|zr ?_;cases j;exact az
 .refine U<|z3 E xn xi<|M<|zd j (λo j=>?_) λo j=>?_
  .refine zb ?_;exact nomatch j
  .exact zk<|zJ () j
theorem Rm:C2 383 JA .fl:=λA w r a=>(cv [[]] func383) λ_ _=>by
 refine U<|zo I<|zz<|zo E<|bB a λz q a=>z2 (kC [] 10 (B3 _ q)) I<|zz<|zo E<|bB a λu o a=>z2 (kC [] 11 (B3 _ o)) I<|M<|za<|U<|zo E<|M<|zd a (λj a=>?_) λj a=>?_
 .refine za<|U<|zo E<|M<|zd a (λj a=>?_) λj a=>?_
  .refine U<|zo I<|M<|zr<|zR<|zR ?_;cases a;exact az
  .refine zk<|zt<|U<|zo I<|M<|zr<|zR ?_;cases a;exact az
 .refine zk<|zt<|za<|U<|zo E<|M<|zd a (λj a=>?_) λj a=>?_
  .refine U<|zo I<|M<|zr<|zR ?_;cases a;exact az
  .refine zk<|zt<|za<|U<|z3 E E xi<|M<|zd a (λj a=>?_) λj a=>?_
   .refine U<|zo I<|M<|zr<|zR ?_;cases a;exact az
   .refine zk<|zt<|za<|U<|z3 E E xg<|M<|zd a (λj a=>?_) λj a=>?_
    .refine U<|zo I<|M<|zr<|zR ?_;cases a;exact az
    .refine zk<|zt<|U<|zo I<|M<|zr ?_;cases a;exact az
theorem S7:C2 382 H_ .fl:=λu o r a=>(cv [[]] func382) λ_ _=>by refine U<|zs (yb 10 aA)<|zs (yb 13 aA)<|zo I<|zz<|z5 xf xl xn xf xl<|zo xn<|bB a λq j a=>z2 (kC [] 16 (Rm _ _ j)) I<|M<|zr ?_;cases a;exact az
theorem Ve:C3 366 Cy (λr=>.cP (.aK [(false,1,.fl r.1.bG),(false,1,.rep 0 r.1.Reads)]) (.fl r.2)):=λak Q ao r j=>(cv [[36,38,41,42,43,44]] func366) λ_ _=>by
 refine U<|zs (yb 10 aA)<|zs (yb 17 aA)<|zs (ya 24)<|zo I<|M<|za<|U<|z2 xr xr<|bB j λan K j=>z2 (kC [0] 27 (lj _ _ K)) I<|zz<|z2 E xq<|M<|zx j λo j=>zk<|zt<|za<|U<|z3 E xi E<|g4 rfl rfl (λ_=>⟨E,xf,xl,xh⟩)<|zo xo<|M<|zx j λo j=>zk<|zt<|za<|U<|z4 xf xl xB E<|g2 rfl rfl (λ_=>⟨xf,xl⟩)<|bB j λag G j=>zg rfl rfl (λo=>kC [0] 28 (px _ _ (bM G (cS o))))<|zg rfl rfl (λ_=>xN)<|zo xo<|M<|zx j λo j=>zk<|zt<|U<|z2 bU bU<|zs (ya 29)<|zs (ya 32)<|zs (yo aF)<|zs (yo aF)<|M<|za<|U<|z4 xf xl xn E<|M<|zl<|bB j λJ z j=>?_;refine lp z [2,3,4,6,9,10,43,44,17010,2029,2032] (λk (a,b,c)=>Z 45 a<|Y 31 (.ow [38] [] 3 b)<|Y 34 (.ow [36] [] 3 c)<|k) (λk (a,b)=>(.exit 0,Y 31 (.ow [38] [] 3 a)<|Y 34 (.ow [36] [] 3 b)<|k)) ?_ ?_
 .rintro⟨s3,O,_⟩ al j;refine U<|zo xi<|M<|za<|zd j (λo j=>?_) λo j=>?_
  .refine zk<|zt ?_;refine jn j (CH s3) [2,3,4,6,9,10,43,44,45,17010,2029,2032] (λk (a,b)=>Y 31 (.ow [38] [] 3 a)<|Y 34 (.ow [36] [] 3 b)<|k) ?_ ?_
   .rintro⟨_,_⟩ j;exact zb<|z2 xy E<|zw<|zN j
   .refine zl<|U<|zo E<|bB j λam L j=>z4 (xI L) xD I I<|M ?_;refine jn j (Cb Q s3 O) [2,3,4,6,9,10,11,43,44,45,17010,5029] (λk p=>Y 34 (.ow [36] [] 3 p)<|k) ?_ ?_
    .rintro aa j;refine U<|z3 xf xl E<|bB j λX w j=>z4 (xI w) xd xn xe<|M<|zd j (λo j=>?_) λo j=>?_
     .exact zb<|z4 xf xl E (xt [] 37 [_])<|bB j λad C j=>zs (yA [] C)<|zo xf<|zs (yt)<|zw<|zh<|zJ (_,_) j
     .exact zk<|zh<|zJ (_,_) j
    .refine U<|zo E<|M<|zd j (λo j=>?_) λo j=>?_
     .exact zb<|z4 xf xl E (xt [] 35 [_])<|bB j λW A j=>zs (yA [] A)<|zo xf<|zs (yt)<|zw<|zJ _ j
     .exact zk<|zJ _ j
  .exact ze<|zE<|zB j
 .intro _;refine zj<|zt<|za<|U<|z4 xf xl xn xe<|M<|zd j (λo j=>?_) λo j=>?_
  .refine U<|zo bU<|zs (yo aF)<|zo I<|M<|zr<|zR ?_;cases j;exact bC
  .refine zk<|zt<|U<|z5 xf xl xf xl xz<|zo (xt [] 39 [_])<|bB j λN q j=>zs (yA [] q)<|zo xf<|zs (yt)<|M<|za<|bB j λac u j=>bB j λV B j=>bB j λaf D j=>?_;refine zQ aI (S:=p6 xr xf xl E (kC [] 40 (Wr _ _ _ u)) xr<|p4 xr (xt [36,38] 41 [(eE.mk (2:UInt8) J.1),(eE.mk (3:UInt8) N)]) (kC [36,38,41] 42 (Yt _ _ B)) (kC [36,38,41,42,43] 44 (Vt _ _ D) (H2 (ma λy _=>@S7 y.1 y.2 _)))<|aq (sE (.ae 13 _::(kR 45 [_,_,_] (kK 45 3 []))) (ya 45))<|aq (sE (kR 45 [_,_,_] (.av 45::.bp 46::.bp 47::[])) (yo aF))<|aN) (h:=zt<|U<|zo xr<|zs (yo aF)<|zo I<|M<|zr ?_);cases j;exact bC
theorem DY:C1 57 rb (s2 (.sl 0 none)):=λS r j=>(cv [[10]] func57) λ_ _=>by
 refine U<|z2 I I<|M ?_;refine aO.scope<|za<|U<|z3 E xn xg<|M<|zx j λo j=>zk<|zt<|U ?_;refine ws (au.qZ 10 rfl rfl mF)<|zz<|zo I<|M<|za ?_;refine aO.label<|zt<|za<|U<|z3 E xn E<|M<|zl<|bB j λG w j=>?_;refine lp w [4,5,13,14] (λk (a,b)=>Z 15 a<|W 100010 (.arr 10 [] 128 b)<|k) (λk b=>(.exit 0,W 100010 (.arr 10 [] 128 b)<|k)) ?_ ?_
 .rintro⟨D,_⟩ O j;refine U<|zo xi<|M<|za<|zd j (λo j=>?_) λo j=>?_
  .refine zk<|zt ?_;refine jn j (Cg D) [4,5,13,14,15] (λk p=>W 100010 (.arr 10 [] 128 p)<|k) ?_ ?_
   .rintro V j;exact zb<|z2 xy E<|zw<|zN j
   .refine zl<|U<|bB j λQ C j=>z3 (xI C) xd I<|zz<|z2 E xn<|M<|zl<|U<|z2 xe I<|M<|zd j (λo j=>?_) λo j=>?_
    .refine ze ?_;exact aH.jZ rfl<|zj<|zJ _ j
    .refine U<|z2 xe I<|M<|zy j λo j=>U<|z3 E xn E<|M<|zl<|bB j λL A j=>?_;refine lp A [4,5,13,14,15,25,26] (λk (a,b)=>Z 27 a<|W 100010 (.arr 10 [] 128 b)<|k) (λk b=>(.exit 3,W 100010 (.arr 10 [] 128 b)<|k)) ?_ ?_
     .rintro⟨_,_⟩ c8 j;refine U<|zo xi<|M<|za<|zd j (λo j=>?_) λo j=>?_
      .refine zk<|zt<|za<|zl<|U<|zo E<|bB j λX B j=>z4 (xI B) xD I I<|M<|zb<|zo E<|bB j λK z j=>?_;refine wo (ah.AM z mF (ai rfl) rfl (ai rfl))<|bB j λJ u j=>?_;refine wo ((ah.vy u iz (ai rfl) rfl).flat (T':=[]))<|zo E ?_;refine wo (ah.Vn (ai rfl) (ai rfl))<|bB j λN q j=>?_;refine wo (ah.AM q mF (ai rfl) rfl (ai rfl)) ?_;exact ws (au.MC (te':=[]) rfl (kr q rfl) iz (ai rfl) rfl (ai rfl) cC.flat cC.flat)<|zw<|zh<|zt<|zb<|z2 xy E<|zw<|zN j
      .exact ze<|zE<|zB j
     .intro _;exact zj<|zh<|zh<|zJ _ j
  .exact ze<|zE<|zB j
 .intro _;refine zj<|zt<|za<|U<|z2 E xq<|M<|zF<|zk<|zt<|U ?_;refine wo (ah.M8 mF (ai rfl) rfl)<|z2 I I<|M<|zr ?_;refine aH.TY ?_;cases j;exact bC
theorem MD:C5 21 vX (s2 (.sl 0 none)):=by
 intro w z B A an r j;refine oA [[31,43]] 78 func21 rfl rfl rfl rfl (λw0 om=>?_);refine aO.sub (G':=[.ae 0 (.rep [] (w:J)), .ae 1 (.rep [0] (z:List aU)), .ae 2 (.rep [] (B:Int)), .ae 3 (.rep [] (A:Int)), .ae 4 (.rep [] (an:Int))]) (Sub.cons (fG (ai rfl)) (sn (Sub.cons (fG (ai rfl)) (Sub.cons (fG (ai rfl)) (Sub.cons (fG (ai rfl)) Sub.nil)))))<|U<|zs (yb 10 aA)<|zs (yb 17 fc)<|zs (yb 19 fc)<|zs (yb 21 fc)<|zs (ya 23)<|zs (ya 25)<|M<|za<|U<|z2 xr xl<|bB j λaR al j=>z2 (kC [0] 27 (rA _ _ al)) I<|zz<|z2 E xq<|M<|zx j λo j=>zk<|zt<|U<|z3 xr xl E<|bB j λu ak j=>z5 (kC [] 28 (FP _ _ _ ak)) E aC aB I<|zo I<|M<|za<|U<|z3 E xq E<|g2 rfl rfl (λ_=>⟨xl,xi⟩)<|z2 xo E<|zg rfl rfl (λ_=>xl)<|g3 rfl rfl (λ_=>⟨xf,xl,xh⟩)<|zo xo<|M<|zx j λo j=>zk<|zt<|U<|zo xF<|zs (ya 29) ?_;refine ws (au.Qp (i:=0) (f:=aa.ef 54 [] [aa.aL 19,aa.aL 17,aa.aL 21]) rfl Sq rfl (aV (ai rfl) (Cv.eG rfl)) rfl jJ.ef (ai rfl) rfl)<|M<|za<|U ?_;refine wo (ic (α:=Int) (i:=0) cj.h rfl (aV (ai rfl) (Cv.eG rfl)) rfl (aW rfl))<|zo E ?_;refine il j (zH w z B A u) [5,10,11,13,15,17010,2029] (λk (a,b)=>W 51 (.cP (aa.ow [31] [] 5 a) (R1 b))<|k) func54 cV ?_ ?_
 .refine λD=>iu 1 [5,10,11,13,15] [17010,2029] ?_;refine U<|z2 I I<|M<|za<|U<|z4 E xl xe E<|g2 rfl rfl (λ_=>⟨xl,E⟩)<|bB j λap ad j=>zg rfl rfl (λo=>xI (bM ad (cS o)))<|g2 rfl rfl (λ_=>⟨xp,xD⟩)<|zo xo<|M<|zd j (λo j=>?_) λo j=>?_
  .exact U<|z2 I I<|M<|zr<|zR<|dU (_,_) j
  .refine zk<|zt<|za<|bB j λav ag j=>bB j λao G j=>?_;refine zQ aI (S:=p6 xl E (xI ag) xd xl xy<|p5 (kC [0] 31 (w8 _ _ G)) aC aB I I<|aN) (h:=zt<|zr ?_);exact dU (_,_) j
 .rintro⟨_,_⟩ j;refine z5 E aC aB I I<|zz<|z2 E xe<|M<|zd j (λo j=>?_) λo j=>?_
  .refine U<|zo E<|zs (yt)<|zs (yt)<|M<|zr<|zR ?_;cases j;exact aH.CG bC
  .refine zk<|zt<|U<|zs (ya 32)<|M<|za<|U<|z3 xf xl E ?_;refine il j (FO w z B A u) [10,11,15,18,10017,2029,2032] (λk p=>W 60 (.ef 108 [] [aa.aL 34,aa.aL 36])<|V 35 w.aw<|V 37 u.1<|O 34 1<|O 36 1<|k) func56 cF ?_ ?_
   .refine λD=>iu 1 [10,11,15,18] [10017,2029,2032] ?_;refine U<|zs (yb 34 fc)<|zs (yb 36 fc) ?_;exact wo (ah.assign Has.top)<|zz<|z2 xF I<|M<|zr<|bS () j
   .rintro _ j;refine M<|zl ?_;refine rG 38 [10,11,15,18,60] [10017,2029,6032] func108 (h:=λD=>ra (h:=λaz N=>?_));refine U<|z2 xl E<|M<|zl<|bB j λaG L j=>?_;refine lp L [0,2,5,902010,902011,902015,902018,902060,10017,2029,1032,6034] (λk (a,b)=>Z 6 a<|Y 33 (.ow [42] [40,41] 43 b)<|k) (λk b=>(.exit 0,Y 33 (.ow [42] [40,41] 43 b)<|k)) ?_ ?_
    .rintro⟨C,am⟩ aJ j;refine U<|zo xi<|M<|za<|zd j (λo j=>?_) λo j=>?_
     .refine zk<|zt<|za<|zl<|U<|z2 E I<|zz<|z4 E xl xq E<|g2 rfl rfl (λ_=>⟨E,E⟩) ?_;refine br.BE (gp:=((C !=u.1)=true)) (aa.rep [] (true:Bool)) rfl (dA rfl rfl) (λq=>?_) (λq=>?_)
      .have j:=iG q j;refine rY 38 904000 [0,2,5,6,12] [10,11,15,18,60] [902010,902011,902015,902018,902060,10017,2029,8032] N (h:=λaM=>rK (h:=?_));refine zb<|zo I<|zw ?_;refine aH.oW (t:=38) rfl rfl<|zl<|U ?_;refine wo (ic (α:=Int) (i:=0) cj.h rfl (aV (ai rfl) (Cv.eG rfl)) rfl (aW rfl))<|zo E ?_;refine il j (zG C am) [18,902010,902011,902015,902018,902060,904000,904002,904005,904006,904012,10017,2029,8032] (λk (a,b)=>W 65 (.cP (aa.ow [40] [] 5 a) (R1 b))<|k) func54 cV ?_ ?_
       .refine λaQ=>iu 3 [18] [902010,902011,902015,902018,902060,904000,904002,904005,904006,904012,10017,2029,8032] ?_;refine U<|z2 I I<|M<|za<|U<|z4 E xl xe E<|g2 rfl rfl (λ_=>⟨xl,E⟩)<|bB j λaF af j=>zg rfl rfl (λo=>xI (bM af (cS o)))<|g2 rfl rfl (λ_=>⟨xp,xD⟩)<|zo xo<|M<|zd j (λo j=>?_) λo j=>?_
        .exact U<|z2 I I<|M<|zr<|zR<|dU (_,_) j
        .refine zk<|zt<|za<|bB j λaq ac j=>bB j λay X j=>?_;refine zQ aI (S:=p6 xl E (xI ac) xd xl xy<|p5 (kC [0] 40 (w8 _ _ X)) aC aB I I<|aN) (h:=zt<|zr ?_);exact dU (_,_) j
       .rintro⟨_,_⟩ j;refine z5 E aC aB I I<|M<|za<|U<|z2 E xq<|M<|zx j λo j=>zk<|zt<|zb<|z3 xl E (xt [40] 41 [_])<|bB j λar Q j=>zs (yA [40,41] Q)<|zs (yt)<|zw<|zh ?_;refine rN 38 904000 [0,2,5,6,12] [902010,902011,902015,902018,902060,10017,2029,6032,1039] (k:=?_);exact zg rfl rfl (λ_=>xN)<|zo (ah.Ba q xw)<|M<|zF<|zk<|zh<|zt<|zb<|z2 xy E<|zw<|zN j
      .have j:=iP (kh q) j;exact zg rfl rfl (λ_=>xN)<|zo (ah.Ab (kh q) xw)<|M<|zF<|zk<|zh<|zt<|zb<|z2 xy E<|zw<|zN j
     .exact ze<|zE<|zB j
    .intro _;refine zj ?_;refine aH.nC ?_;refine rF 38 [10,11,15,18,60] [10017,2029,6032,1039] (k:=?_);refine zh<|zt<|U<|zo xl<|bB j λaE K j=>z3 (kC [40,41,42] 43 (DY _ K)) aC aB<|zs (yt)<|zs (yt)<|M<|zr ?_;cases j;exact rU 39 bC
theorem Wc{r}(a:vB=some r):CT 396 [] (.own 0 none 3 r) []:=by refine cw [[]] func396 λw0 om=>?_;refine U<|zo I<|zz<|zo I<|M<|zr ?_;cases a;exact az
theorem Wd(a0){r}(j:p' a0=some r):CT 394 [.ptr 0 a0] (.own 0 none 3 r) []:=by
 refine cw [[11]] func394 λw0 om=>?_;refine U<|zo I<|M<|za<|U<|z4 xp xd xn E<|M<|zl<|bB j λD q j=>?_;refine lp q [0,5] (λk (a,b)=>W 1 (.ow [11] [] 3 a)<|Z 6 b<|k) (λk b=>(.exit 0,W 1 (.ow [11] [] 3 b)<|k)) ?_ ?_
 .rintro⟨_,s2⟩ A j;refine U<|zo xi<|M<|za<|zd j (λo j=>?_) λo j=>?_
  .refine zk<|zt ?_;refine jn j (A6 s2) [0,5,6] (λk p=>W 1 (.ow [11] [] 3 p)<|k) ?_ ?_
   .rintro z j;exact zb<|z2 xy E<|zw<|zN j
   .refine zl<|U<|z2 E I<|zz<|z3 xp xd E<|bB j λB u j=>z4 (xI u) xd xn xe<|M<|zd j (λo j=>?_) λo j=>?_
    .exact zb<|z3 E E (xt [] 10 [_])<|bB j λC w j=>zs (yA [] w)<|zo I<|zw<|zh<|zJ _ j
    .exact zk<|zh<|zJ _ j
  .exact ze<|zE<|zB j
 .intro _;refine zj<|zt<|zr ?_;cases j;exact az
theorem W7(a0 a1){r}(j:rm a0 a1=some r):CT 395 [.ptr 0 a0,.ptr 0 a1] (.own 0 none 3 r) []:=by
 refine cw [[11]] func395 λw0 om=>?_;refine U<|zo I<|M<|za<|U<|z4 xp xd xn E<|M<|zl<|bB j λJ q j=>?_;refine lp q [1,6,7] (λk (a,b)=>W 2 (.ow [11] [] 3 a)<|Z 8 b<|k) (λk b=>(.exit 0,W 2 (.ow [11] [] 3 b)<|k)) ?_ ?_
 .rintro⟨_,s2⟩ B j;refine U<|zo xi<|M<|za<|zd j (λo j=>?_) λo j=>?_
  .refine zk<|zt ?_;refine jn j (Es s2) [1,6,7,8] (λk p=>W 2 (.ow [11] [] 3 p)<|k) ?_ ?_
   .rintro A j;exact zb<|z2 xy E<|zw<|zN j
   .refine zl<|U<|zo E<|bB j λC w j=>z4 (xI w) xD I I<|zz<|zo E<|M<|zd j (λo j=>?_) λo j=>?_
    .exact zb<|z3 E E (xt [] 10 [_])<|bB j λG z j=>zs (yA [] z)<|zo I<|zw<|zh<|zJ _ j
    .exact zk<|zh<|zJ _ j
  .exact ze<|zE<|zB j
 .intro _;refine zj<|zt<|U<|z5 E xp xD xz (xt [] 12 [_])<|bB j λD u j=>zs (yA [] u)<|zo I<|M<|zr ?_;cases j;exact az
theorem ZE:C2 385 DF .fl:=λG A r a=>(cv [[]] func385) λ_ _=>by
 refine U<|zo I<|M<|za<|U<|z5 E xn E xn xq<|M<|zd a (λj a=>?_) λj a=>?_
 .refine U<|zo I<|M<|zr<|zR ?_;cases a;exact az
 .refine zk<|zt<|za<|U<|z3 E xn E<|M<|zl<|bB a λw q a=>?_;refine lp q [0,1,12] (λk s=>Z 13 s<|k) (λk=>Sum.elim (λb=>(.ret,Z 4 false<|k)) (λ_=>(.exit 0,k))) ?_ ?_
  .rintro z C a;refine U<|zo xi<|M<|za<|zd a (λj a=>?_) λj a=>?_
   .refine zk<|zt<|za<|zl<|U<|z2 E I<|M<|za<|bB a λB o a=>bB a λJ u a=>?_;refine zQ aI (S:=p6 E E (xI o) xD E E<|p3 (xI u) xD xq<|aN) (h:=zt<|zd a (λj a=>?_) λj a=>?_)
    .exact U<|zo I<|M<|zr<|zi<|zR<|zB a
    .exact zk<|zh<|zt<|zb<|z2 xy E<|zw<|zN a
   .exact ze<|zE<|zB a
  .intro _;rcases w with D|K
   .have a:=fN a;refine zi<|zR ?_;cases a;exact az
   .have a:=fI a;refine zj<|zt<|U<|zo I<|M<|zr ?_;cases a;exact az
theorem W6:C1 386 EL .fl:=λj r a=>(cv [[]] func386) λ_ _=>by refine U<|zo I<|zz<|z4 E xn xq E<|g3 rfl rfl (λ_=>⟨E,xn,xq⟩)<|z2 xw I<|M<|zr ?_;cases a;exact az
theorem Sg:C4 367 Ek (s2 (.sl 0 none)):=by
 intro u o w A r j;refine oA [[76]] 91 func367 rfl rfl rfl rfl (λw0 om=>?_);refine aO.sub (G':=[.ae 0 (.rep [] (u:J)), .ae 1 (.rep [0] (o:aM)), .ae 2 (.rep [0] (w:eE)), .ae 3 (.rep [0] (A:List (List UInt8)))]) (Sub.cons (fG (ai rfl)) (sn (sn (sn Sub.nil))))<|U<|zs (yb 10 aA)<|zs (yb 17 aA)<|zs (yb 24 aA)<|z2 I I<|M<|za<|U<|z2 xr xr<|bB j λbD aY j=>z2 (kC [0] 27 (lj _ _ aY)) I<|zz<|z2 E xq<|M<|zx j λq j=>zk<|zt<|za<|U<|z4 xf xl xB E<|g2 rfl rfl (λ_=>⟨xf,xl⟩)<|bB j λbw aQ j=>zg rfl rfl (λq=>kC [0] 28 (px _ _ (bM aQ (cS q))))<|zg rfl rfl (λ_=>xN)<|zo xo<|M<|zx j λq j=>zk<|zt<|U<|z2 xr xr ?_;refine il j (vV o w A) [3,5,6,10017] (λk (a,b,c)=>W 35 (.aK [(false,1,aa.fz H [] (none:Option (Option (List Int)))),(false,1,aa.fz H [] a),(false,1,aa.fz H [0,36] b),(false,1,aa.fz H [0,29,36] c)])<|k) func384 cF ?_ ?_
 .refine λC=>iu 1 [3,5,6] [10017] ?_;refine U<|zs (yb 29 aF)<|zs (yb 36 aF)<|zs (ya 43)<|zz<|z2 xF I<|zz<|z2 xF I<|zz ?_;refine wo (ah.assign fD)<|M<|za<|U<|zo E ?_;refine il j (Fx u o w A) [4,5,6,7,902003,902005,902006,10017,19029] (λk p=>W 11 (.ow [49] [] 3 p)<|k) func394 cV ?_ ?_
  .refine λa1=>iu 2 [4,5,6,7] [902003,902005,902006,10017,19029] ?_;refine U<|zo I<|M<|za<|U<|z4 xf xl xn E<|M<|zl<|bB j λbd ag j=>?_;refine lp ag [0,5,902003,902005,902006,904004,904005,904006,904007,10017,19029] (λk (a,b)=>W 1 (.ow [49] [] 3 a)<|Z 6 b<|k) (λk b=>(.exit 0,W 1 (.ow [49] [] 3 b)<|k)) ?_ ?_
   .rintro⟨_,aR⟩ a2 j;refine U<|zo xi<|M<|za<|zd j (λq j=>?_) λq j=>?_
    .refine zk<|zt ?_;refine jn j (Fj aR) [0,5,6,902003,902005,902006,904004,904005,904006,904007,10017,19029] (λk p=>W 1 (.ow [49] [] 3 p)<|k) ?_ ?_
     .rintro a4 j;exact zb<|z2 xy E<|zw<|zN j
     .refine zl<|U<|z2 E I<|zz<|z3 xf xl E<|bB j λbc az j=>z4 (xI az) xd xn xe<|M<|zd j (λq j=>?_) λq j=>?_
      .exact zb<|z3 E E (xt [] 48 [_])<|bB j λa6 ap j=>zs (yA [] ap)<|zo I<|zw<|zh<|zJ _ j
      .exact zk<|zh<|zJ _ j
    .exact ze<|zE<|zB j
   .intro _;exact zj<|zt<|zr<|bS _ j
  .rintro ba j;refine z2 xn xe<|M<|zd j (λq j=>?_) λq j=>?_
   .refine U<|zo E ?_;exact wo (ah.yx (us:=[(1, .tmp 14)]) (ls':=[(false,1,aa.fz H [] ((none:Option (Option (List Int))):Option (Option (List Int)))),(false,1,aa.fz H [] ((some (vB)):Option (Option (List Int)))),(false,1,aa.fz H [] ((none:Option (Option (List Int))):Option (Option (List Int)))),(false,1,aa.fz H [] ((none:Option (Option (List Int))):Option (Option (List Int))))]) lT.h rfl (BP.B8 rfl rfl jJ.fz (aV (ai rfl) (Cv.fz (T:=[]) (pc:=[]) (out:=λr=>(.own 0 none 3 r)) (by kernel_rfl) gf.nil sZ.own (λr h=>Wc h))) BP.nil))<|zs (yo aF)<|M<|zr<|zR<|bS (_,_,_) j
   .refine zk<|zt<|U<|z2 E E ?_;exact wo (ah.yx (us:=[(2, .tmp 16),(3, .tmp 17)]) (ls':=[(false,1,aa.fz H [] ((none:Option (Option (List Int))):Option (Option (List Int)))),(false,1,aa.fz H [] ((none:Option (Option (List Int))):Option (Option (List Int)))),(false,1,aa.fz H [0,36] ((some (p' o)):Option (Option (List Int)))),(false,1,aa.fz H [0,29,36] ((some (rm o u)):Option (Option (List Int))))]) lT.h rfl (BP.B8 rfl rfl jJ.fz (aV (ai rfl) (Cv.fz (T:=[0,36]) (pc:=[.ptr 0 o]) (out:=λr=>(.own 0 none 3 r)) (by kernel_rfl) (gf.cons (bq (Cv.vP (ls:=[tr o.L,(false,1,aa.rep [0] o.aJ),(false,1,aa.rep [0] o.a_),tr o.aG,tr o.cG,tr o.Seq]) rfl rfl (bJ.cons (aW rfl) (bJ.cons (aW rfl) (bJ.cons (aW rfl) (bJ.cons (aW rfl) (bJ.cons (aW rfl) (bJ.cons (aW rfl) bJ.nil)))))) (bq (di (vf (aX.cons (Cv.m rfl) (aX.cons (Cv.m rfl) (vf (vf (vf aX.nil))))))) (dG (T:=[0]) (dg.h o)))) (Cv.mR rfl)) gf.nil) sZ.own (λr h=>Wd o h))) (BP.B8 rfl rfl jJ.fz (aV (ai rfl) (Cv.fz (T:=[0,29,36]) (pc:=[.ptr 0 o, .ptr 0 u]) (out:=λr=>(.own 0 none 3 r)) (by kernel_rfl) (gf.cons (bq (Cv.vP (ls:=[tr o.L,(false,1,aa.rep [0] o.aJ),(false,1,aa.rep [0] o.a_),tr o.aG,tr o.cG,tr o.Seq]) rfl rfl (bJ.cons (aW rfl) (bJ.cons (aW rfl) (bJ.cons (aW rfl) (bJ.cons (aW rfl) (bJ.cons (aW rfl) (bJ.cons (aW rfl) bJ.nil)))))) (bq (di (vf (aX.cons (Cv.m rfl) (aX.cons (Cv.m rfl) (vf (vf (vf aX.nil))))))) (dG (T:=[0]) (dg.h o)))) (Cv.mR rfl)) (gf.cons (bq (Cv.vP (ls:=[tr u.Id,tr u.aw,tr u.bz,tr u.bb,tr u.K,tr u.aE]) rfl rfl (bJ.cons (aW rfl) (bJ.cons (aW rfl) (bJ.cons (aW rfl) (bJ.cons (aW rfl) (bJ.cons (aW rfl) (bJ.cons (aW rfl) bJ.nil)))))) (bq (di (vf (vf (vf (vf (vf (vf aX.nil))))))) (dG (T:=[]) (dg.h u)))) (Cv.mR rfl)) gf.nil)) sZ.own (λr h=>W7 o u h))) BP.nil)))<|zs (yo aF)<|M<|zr<|bS (_,_,_) j
 .rintro⟨G,D,B⟩ j;refine zs (ya 50)<|zs (yo aF)<|M<|za<|zl ?_;refine jn j (ur o w A) [3,5,6,10017] (λk p=>Z 36 p<|k) ?_ ?_
  .rintro bv j;refine zx j λq j=>U<|z5 E xn xf xl xn<|z2 xq I<|M<|zx j λq j=>U<|zo E<|bB j λbA a0 j=>z2 (kC [0] 57 (wC _ _ a0) (H2 (ma λy _=>@W6 y _))) I<|M<|zx j λq j=>zk<|zh<|zt<|U<|zs (ya 58)<|M<|za<|U<|z4 xr xf xl xb ?_;refine il j (D3 o w A) [3,12,2058] (λk p=>W 69 (.ef 397 [] [aa.aL 60,aa.aL 67])<|V 61 o.L<|Y 62 (.rep [0] o.aJ)<|Y 63 (.rep [0] o.a_)<|V3 64 o.aG o.cG o.Seq<|V 68 ((w.bG==(3:UInt8)):Bool)<|O 60 6<|O 67 1<|k) func387 cF ?_ ?_
   .refine λC=>iu 1 [3,12] [2058] ?_;refine U<|zs (yb 60 aF)<|zs (yb 67 fc) ?_;exact wo (ah.assign Has.top)<|zz<|z2 xF I<|M<|zr<|bS () j
   .rintro _ j;refine M<|zl ?_;refine rG 69 [3,12,69] [11058] func397 (h:=λC=>ra (h:=λbi ac=>?_));refine U<|z4 xf xl xn E<|M<|zl<|bB j λbm af j=>?_;refine lp af [0,1,2,7,8,902003,902012,902069,1058,11060] (λk (a,b)=>Z 9 a<|Y 59 (.ow [72] [0,71] 43 b)<|k) (λk b=>(.exit 0,Y 59 (.ow [72] [0,71] 43 b)<|k)) ?_ ?_
    .rintro⟨_,_⟩ be j;refine U<|zo xi<|M<|za<|zd j (λq j=>?_) λq j=>?_
     .refine zk<|zt<|za<|zl<|U<|zo E<|bB j λaZ ad j=>z4 (xI ad) xD I I<|zz<|z2 E E<|g2 rfl rfl (λ_=>⟨xl,xN⟩)<|z2 xo E<|g3 rfl rfl (λ_=>⟨xf,xl,E⟩)<|bB j λaU aq j=>zg rfl rfl (λq=>xI (bM aq q))<|zg rfl rfl (λ_=>xd)<|g2 rfl rfl (λ_=>⟨xn,xg⟩)<|z2 xw E<|g4 rfl rfl (λ_=>⟨E,xf,xl,E⟩)<|bB j λa8 am j=>zg rfl rfl (λq=>xI (bM am q))<|zg rfl rfl (λ_=>xd) ?_;refine br.BE (gp:=(((aZ||(!(w.bG==(3:UInt8))))&&(decide (((aU).length:Int)>(0:Int))))=true)) (aa.rep [] (true:Bool)) rfl (dA rfl rfl) (λz=>?_) (λz=>?_)
      .have j:=iG z j;refine rY 69 904000 [0,1,2,7,8,9,28] [3,12,69] [902003,902012,902069,13058] ac (h:=λa1=>rK (h:=?_));refine zb<|zo I<|zw ?_;refine aH.oW (t:=69) rfl rfl<|zl<|zb<|z3 xl E (xt [0] 71 [_])<|bB j λa' N j=>zs (yA [0,71] N)<|zs (yt)<|zw<|zh ?_;refine rN 69 904000 [0,1,2,7,8,9,28] [902003,902012,902069,11058,1070] (k:=?_);exact zg rfl rfl (λ_=>xN)<|zo (ah.Ba z xw)<|M<|zF<|zk<|zh<|zt<|zb<|z2 xy E<|zw<|zN j
      .have j:=iP (kh z) j;exact zg rfl rfl (λ_=>xN)<|zo (ah.Ab (kh z) xw)<|M<|zF<|zk<|zh<|zt<|zb<|z2 xy E<|zw<|zN j
     .exact ze<|zE<|zB j
    .intro _;refine zj ?_;refine aH.nC ?_;refine rF 69 [3,12,69] [11058,1070] (k:=?_);refine zh<|zt<|U<|zo E<|bB j λa7 an j=>z5 (kC [0] 73 (DY _ an)) E aC aB I<|zo I<|zz<|zo xl<|bB j λbs ar j=>z5 (kC [0,71,72] 74 (DY _ ar)) E aC aB I<|zo I<|zz<|z3 E E (xt [73,74] 75 [_,_])<|bB j λa3 Q j=>z5 (kC [73,74,75] 76 (DY _ Q)) aC aB I I<|M<|zr ?_;cases j;exact rU 70 bC
  .refine U<|z5 xf xl (eF (β:=Int)) xh I<|M<|zd j (λq j=>?_) λq j=>?_
   .exact zk<|zJ _ j
   .refine U<|z2 xf xl<|bB j λbg al j=>?_;refine wo (ah.Jr al Mj (aV (ai rfl) (Cv.eG rfl)) (ai rfl))<|bB j λbn ak j=>?_;refine wo (ah.Qf (T:=[0,29,36]) (l:=([(none:Option (Option (List Int))),G,D,B]:List (Option (Option (List Int))))) ak cj.h rfl (ai rfl) rfl (iy.cons (dJ.cv (aW rfl) (Cv.nF rfl)) (iy.cons (dJ.cv (aW rfl) (Cv.nF rfl)) (iy.cons (dJ.cv (aW rfl) (Cv.nF rfl)) (iy.cons (dJ.cv (aW rfl) (Cv.nF rfl)) iy.nil))))) ?_;refine wo (ah.Q_ underlying515 (ai rfl))<|zo I<|M<|zd j (λq j=>?_) λq j=>?_
    .exact zk<|zJ _ j
    .refine bB j λbl av j=>bB j λa5 ay j=>bB j λa9 ao j=>bB j λbp X j=>?_;exact zQ aI (S:=p6 xf xl (ah.Jr av Mj (aV (ai rfl) (Cv.eG rfl)) (ai rfl)) (ah.Qf (T:=[0,29,36]) (l:=([(none:Option (Option (List Int))),G,D,B]:List (Option (Option (List Int))))) ay cj.h rfl (ai rfl) rfl (iy.cons (dJ.cv (aW rfl) (Cv.nF rfl)) (iy.cons (dJ.cv (aW rfl) (Cv.nF rfl)) (iy.cons (dJ.cv (aW rfl) (Cv.nF rfl)) (iy.cons (dJ.cv (aW rfl) (Cv.nF rfl)) iy.nil))))) (ah.YR 55 rfl ao (ai rfl)) xf<|p4 xl (kC [0,55] 56 (ZE _ _ X)) xN I<|aN) (h:=zJ _ j)
theorem Ts:C3 368 vx (s2 (nn (.own 0 (some 1) 43) (.own 2 none 4))):=λak al ap r j=>(cv [[83,95],[84,96],[85]] func368) λ_ _=>by
 refine U<|zs (yb 10 aA)<|zs (yb 17 aA)<|zs (yb 24 fc)<|zs (ya 26)<|zo I<|M<|za<|U<|z2 xr xr<|bB j λao J j=>z2 (kC [0] 33 (lj _ _ J)) I<|zz<|z2 E xq<|M<|zx j λo j=>zk<|zt<|za<|U<|zo xl<|bB j λag G j=>zo (kC [0] 34 (pz _ G))<|M<|zx j λo j=>zk<|zt<|U<|z3 xr xr xF ?_;refine il j FL [6,7026] (λk (a,b,c,d,e,f,g)=>W 22 (.cP (aa.aK [tr a,(false,1,aa.ow [83,95] [84,96] 43 b),(false,1,aa.ow [85] [] 4 c),tr d,tr e,tr f]) (R1 g))<|k) func388 cF ?_ ?_
 .refine λad=>iu 1 [6] [7010,9024] ?_;refine U<|zs (yb 35 aF)<|zs (yb 42 aF)<|zs (yb 49 fc) ?_;refine ws (au.pR (ls:=[(false,1,aa.ef 389 [] [aa.aL 24,aa.aL 10])]) 51 rfl rfl rfl rfl (eY.ef (ai rfl)))<|zs (ya 53)<|zo I<|zz<|z3 xr xr xF ?_;refine il j Dn [8,902006,7026,7053] (λk (a,b,c,d,e,f,g)=>W 13 (.cP (aa.aK [tr a,(false,1,aa.ow [83,95] [84,96] 43 b),(false,1,aa.ow [85] [] 4 c),tr d,tr e,tr f]) (R1 g))<|k) func267 cF ?_ ?_
  .refine λam=>iu 2 [8] [902006,7010,9024,11049] ?_;refine U<|zs (yb 60 aF)<|zs (yb 67 aF)<|zs (ya 74)<|zo I<|M<|za<|U<|z2 xr xr<|bB j λL A j=>z2 (kC [0] 81 (lj _ _ A)) I<|zz<|z2 E xq<|M<|zd j (λo j=>?_) λo j=>?_
   .exact zr<|zR<|dU (_,_,_,_,_,_,_) j
   .refine zk<|zt<|za<|U<|z3 E xi E<|g4 rfl rfl (λ_=>⟨E,xf,xl,xz⟩)<|zg rfl rfl (λ_=>xh)<|zo xo<|M<|zx j λo j=>zk<|zt<|za<|U<|zo E<|bB j λac B j=>zo (kC [] 82 (pz _ B))<|M<|zx j λo j=>zk<|zt<|U<|zo xr<|bB j λq w j=>zo (kC [0] 83 (qp _ w))<|zs (ya 86)<|zs (yo aF)<|M ?_;refine jn j A0 [10,902006,904008,7026,7053,1074] (λk (a,b,c,d,e,f,g)=>Z 11 a<|V 75 b<|Y 76 (.ow [83,95] [84,96] 43 c)<|Y 77 (.ow [85] [] 4 d)<|V3 78 e f g<|k) ?_ ?_
    .rintro⟨_,_,_,_,_,_,_⟩ j;exact zr<|dU (_,_,_,_,_,_,_) j
    .refine U<|zo E ?_;refine il j (CO q) [10,12,902006,904008,7026,7053,7074,2086,1089,2091] (λk (a,b,c)=>Z 34 a<|Y 88 (.ow [83,95] [84,96] 43 b)<|V 90 c<|k) func398 cV ?_ ?_
     .refine λan=>iu 3 [10,12] [902006,904008,7010,9024,11049,7074,7086] ?_;refine U<|zo I<|M<|za<|za<|bB j λO C j=>bB j λQ D j=>?_;refine zQ aI (S:=p6 xl E xc xf xl (kC [] 93 (vH _ _ C))<|p2 xN E<|w3 (q3 (h:=λ_=>⟨xl,xe,xM⟩))<|aq (qu (h:=λ_=>E))<|aq (qu (h:=λ_=>xc))<|aq (qu (h:=λ_=>xf))<|aq (qu (h:=λ_=>xl))<|aq (cI.jY rfl rfl rfl (λo=>ah.jI [85] 94 rfl (by kernel_rfl) (px q.a_ true (bM D (ib (cS (iw o)) (jr o)))) (bX.cons (Has.m (aV (dD rfl o) (bq Cv.iS (Cv.iR (T':=[85]) rfl rfl))) rfl) (bX.cons (fG Has.bool) bX.nil))))<|aq (qu (h:=λ_=>xN))<|aq (qg (h:=λ_=>xW))<|o1 xo<|aN) (h:=zt<|zd j (λo j=>?_) λo j=>?_)
      .exact U<|zo I<|M<|zr<|zR<|bS (_,_,_) j
      .refine zk<|zt<|U ?_;refine wo (ic (α:=Int) (i:=0) cj.h rfl (aV (ai rfl) (Cv.eG rfl)) rfl (aW rfl))<|zo E ?_;refine il j (G4 q) [902006,904008,906010,906012,7026,7053,7074,2086,1089,2091] (λk p=>W 26 (.top)<|Y 88 (.aL 95)<|V 90 ((1:UInt8):UInt8)<|W 100095 (.own 95 [84,96] 43 p)<|k) func389 cV ?_ ?_
       .refine λaf=>iu 4 [] [902006,904008,906010,906012,7010,9024,7053,7074,7086] ?_;refine U<|z3 E xc xf ?_;refine ws (au.nj (i:=3) (f:=aa.rep [] ((1:UInt8):UInt8)) rfl iz rfl (ai rfl) rfl (Has.u8 1 rfl) (Has.u8 1 rfl) rfl)<|M ?_;refine ei (Ad.d_ (i:=88) 95 rfl rfl rfl (ev.bj rfl) rfl (Cv.gT (T:=[83]) (te:=[84]) (T':=[83]) (te':=[84]) rfl rfl))<|bB j λX z j=>bB j λN u j=>?_;refine zQ aI (S:=p6 E xc xf xl xf xl<|p4 xz xl (kC [0] 96 (PL _ z)) (xu u)<|aq (sE [.ae 100095 _,.av 95] (yW [84,96] u))<|aN) (h:=?_);exact eW (dK _ j)
       .rintro K j;exact zz<|zo I<|M<|zr<|bS (_,_,_) j
     .rintro⟨_,_,_⟩ j;refine zo I<|zz<|z2 E xe<|M<|zd j (λo j=>?_) λo j=>?_
      .exact zb<|zo xr<|zs (yo aF)<|zw<|zJ (_,_,_,_,_,_,_) j
      .exact zk<|zJ (_,_,_,_,_,_,_) j
  .rintro⟨_,_,_,_,_,_,_⟩ j;exact z2 aC aB<|zs (yo aF)<|zo I<|M<|zr<|dU (_,_,_,_,_,_,_) j
 .rintro⟨_,_,_,_,_,_,_⟩ j;refine z2 aC aB<|zs (yo aF)<|zo I<|M<|zr ?_;cases j;exact bC
end
end
end Go.Proofs.YthpphdegpinepaaGreat
