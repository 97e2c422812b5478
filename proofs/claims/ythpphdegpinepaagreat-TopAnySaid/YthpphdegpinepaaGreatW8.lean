/- Part of the proof of TopAny. -/
import Derived.Test.YthpphdegpinepaaGreatW7
namespace Go.Proofs.YthpphdegpinepaaGreat
open Go GL Tryz
open Go.Proofs.Tryz renaming prog -> H
open And renaming left -> iw, right -> jr
set_option linter.all false
set_option maxRecDepth 100000
set_option maxHeartbeats 20000000
noncomputable section
section
attribute [local irreducible] aO br aH GL.ah GL.au
theorem Wx:C1 404 Au (s3 (gv (.own 0 (some 1) 79) (.own 2 none 133) (.own 3 (some 4) 120)) (.own 5 (some 6) 233)) [4]:=λaZ r hm=>(cv [[114],[83,122,123,124],[84,132],[85],[0,86],[135],[133,134]] func404) λ_ _=>by
 refine U<|zs (yb 10 ck)<|zs (ya 34)<|z2 I I<|zz<|zo xR ?_;refine il hm (JW aZ) [1,2,48010] (λk (a,b,c,d,e,f,g,h,i,j,l,m,n,o,q,r,t,v,w,x,y,z,A,B)=>W 14 (.aL 88)<|V8 89 a b c d e f g h<|V6 97 i j l m n o<|Y 103 (.ow [82] [83] 79 q)<|V4 104 r t v w<|Y 108 (.ow [84] [] 133 x)<|Y 109 (.ow [85] [0,86] 120 y)<|V2 110 z A<|Y 112 (.dM)<|V 113 B<|O 88 25<|k) func346 cF ?_ ?_
 .refine λap=>iu 1 [1,2] [48010] ?_;refine U<|zs (yb 58 bT)<|zo I<|M<|za<|bB hm λa6 aM hm=>bB hm λa0 aJ hm=>?_;refine zQ aI (S:=p5 xR (kC [0] 82 (mw _ aM)) xR (kC [0] 87 (lv _ aJ)) bU<|aq (sE (.ae 9 _::(kR 88 [_,_,_,_,_,_,_,_,_,_,_,_,_,_,_,_,_,_,_,_,_,_,_,_,_,_] (kK 88 26 []))) (yb 88 dW))<|o1 I<|aN) (h:=zt<|za<|U<|z5 E xc xf xl xe<|zo E<|g3 rfl rfl (λ_=>⟨xf,xf,xl⟩)<|zo xw<|M<|zx hm λu hm=>zk<|zt<|U<|z2 E I<|M<|zr ?_);exact bS (_,_,_,_,_,_,_,_,_,_,_,_,_,_,_,_,_,_,_,_,_,_,_,_) hm
 .rintro⟨am,ag,ao,ak,ac,af,ad,al,an,Q,K,L,J,X,_,_,_,_,_,_,N,C,D,_⟩ hm;refine zo I<|zz<|zo I<|M<|za<|za ?_;refine ei (Ad.d_ (i:=103) 114 rfl rfl rfl (ev.bj rfl) rfl (Cv.gT (T:=[82]) (te:=[83]) (T':=[82]) (te':=[83]) rfl rfl))<|zb<|z5 E xc xf xf xl<|z2 xn E<|M<|zl<|bB hm λG ay hm=>?_;refine lp ay [1,2,5,19,20,48010,16088,4109] (λk (a,b,c,d,e,f,g,h,i)=>Z 6 a<|Z 21 b<|V4 104 c d e f<|Y 108 (.ow [84,132] [] 133 g)<|V 113 h<|W 100114 (.own 114 [83,122,123,124] 79 i)<|k) (λk (a,b,c,d,e,f,g,h)=>(.exit 0,Z 6 a<|V4 104 b c d e<|Y 108 (.ow [84,132] [] 133 f)<|V 113 g<|W 100114 (.own 114 [83,122,123,124] 79 h)<|k)) ?_ ?_
  .rintro⟨_,aR,_,_,_,_,_,_,_⟩ a8 hm;refine U<|zo xi<|M<|za<|zd hm (λu hm=>?_) λu hm=>?_
   .refine zk<|zt ?_;refine jn hm (v7 aR) [1,2,5,19,20,21,48010,16088,4109] (λk (a,b,c,d,e,f,g,h)=>Z 6 a<|V4 104 b c d e<|Y 108 (.ow [84,132] [] 133 f)<|V 113 g<|W 100114 (.own 114 [83,122,123,124] 79 h)<|k) ?_ ?_
    .rintro⟨_,_,_,_,_,_,_,_⟩ hm;exact zb<|z2 xy E<|zw<|zN hm
    .refine zl<|U<|zo E<|bB hm λa3 aH hm=>zo (xu aH)<|bB hm λa_ az hm=>?_;refine wo (ah.tG az cj.h (ai rfl) rfl)<|zs (ya 115)<|zo I<|zs (yo aA)<|M<|za<|bB hm λaU aG hm=>?_;refine zQ aI (S:=p6 E xc xf xf xP xr<|p4 (kC [83,122,123,124] 122 (ZY _ _ aG)) E aC aB<|aq (sE (.ae 9 _::(kR 125 [_,_,_,_,_,_,_] (kK 125 7 []))) (ya 125))<|aq (sE (kR 125 [_,_,_,_,_,_,_] (.av 125::(kK 126 6 []))) (yo aF))<|o1 I<|aN) (h:=zt<|za<|U<|z3 E xq E<|g4 rfl rfl (λ_=>⟨E,xc,xf,xl⟩)<|zg rfl rfl (λ_=>xq)<|zo xo<|M<|zd hm (λu hm=>?_) λu hm=>?_)
     .exact ze<|zE<|zj<|zJ (_,_,_,_,_,_,_,_) hm
     .refine zk<|zt<|U<|zo I<|M<|za<|bB hm λa2 aw hm=>?_;refine zQ aI (S:=p6 E xc xf xf xl E<|p2 xr (xu aw)<|aq (sE [.ae 100114 _,.av 114] (yW [83,122,123,124] aw (T:=[122,123,124]) (y:=aU.1)))<|aN) (h:=zt<|U<|z4 xf xf xl xN<|M<|zd hm (λu hm=>?_) λu hm=>?_)
      .refine bB hm λa4 aO hm=>?_;exact zQ aI (S:=p6 E E E xc xf xf<|p6 xP E xc xf xf xP<|p6 xf xl (kC [84,132] 132 (TD _ _ _ aO)) E aC aB<|p3 xc xf xf<|aq (sE (.ae 100088 _::(kR 104 [_,_,_,_,_] (.av 88::(kK 104 5 [])))) (yS 15 20 (hx:=aF)))<|p2 xc xf<|aq (sE [.ae 100113 _,.ae 100088 _,.av 88,.bp 113] (yt))<|aN) (h:=zh<|zJ (_,_,_,_,_,_,_,_) hm)
      .exact zk<|zh<|zJ (_,_,_,_,_,_,_,_) hm
   .exact ze<|zE<|zB hm
  .intro _;refine zj<|zt ?_;refine jn hm (Ay am ag ao ak ac af ad al an Q K L J X N C D G) [2,5,24034,24088,1114] (λk (a,b)=>Y 112 (.ow [135] [133,134] 233 a)<|V 113 b<|k) ?_ ?_
   .rintro⟨_,_⟩ hm;refine U<|zo E ?_;refine il hm BH [2,24034] (λk (a,b,c,d,e,f,g,h,i,j,l,m,n,o)=>W 97 (.eV (aa.aK [(true,6,aa.rep [] a),tr b,(true,7,aa.rep [] c),(false,1,aa.ow [114] [83,122,123,124] 79 d),(true,5,aa.aK [tr e,tr f,tr g,tr h,(false,1,aa.ow [84,132] [] 133 i)]),(false,1,aa.ow [85] [0,86] 120 j),tr l,tr m]) (aa.ow [135] [133,134] 233 n) (R1 o))<|k) func339 cF ?_ ?_
    .refine λap=>iu 1 [2] [24034,27088] ?_;refine U<|zs (ya 136)<|z2 I I<|M<|za<|U<|z5 E xc xf xl xq<|M<|zd hm (λu hm=>?_) λu hm=>?_
     .refine za ?_;refine zQ aI (S:=p5 bU E xc xf xl<|aq (sE (kR 136 [_,_,_,_,_,_,_,_,_,_,_,_,_,_,_,_,_,_,_,_,_,_,_,_] (.av 136::(kK 137 23 []))) (yo bT))<|p2 I I<|aN) (h:=zt<|zr<|zR ?_);exact jo (_,_,_,_,_,_,_,_,_,_,_,_,_,_) hm
     .refine zk<|zt<|za ?_;refine zQ aI (S:=p6 E xc xf hX E xc<|p2 xf xl<|aq (sE (kR 136 [_,_,_,_,_,_,_,_,_,_,_,_,_,_,_,_,_,_,_,_,_,_,_,_] (.av 136::(kK 137 23 []))) (yo bT))<|p2 I I<|aN) (h:=zt<|zr ?_);exact jo (_,_,_,_,_,_,_,_,_,_,_,_,_,_) hm
    .rintro⟨_,_,_,_,_,_,_,_,_,_,_,_,_,_⟩ hm;refine z3 eJ eI eL<|zs (yo dW)<|z2 I I<|M<|zr ?_;cases hm;exact dL
   .refine U<|z2 E E ?_;refine il hm (Iv am ag ao ak ac af ad al an Q K L J X N C D G) [2,5,24034,25088,1114] (λk (a,b)=>Z 83 a<|V 113 b<|k) func340 cF ?_ ?_
    .refine λap=>iu 1 [2,5] [24034,27088] ?_;refine U<|zo I<|M ?_;refine jn hm (Df am ag ao ak ac af ad al an Q K L J X N C D G) [0,902002,902005,24034,25088,1114] (λk p=>V 113 p<|k) ?_ ?_
     .rintro a9 hm;exact U<|z5 E xc xf xl xe<|zo I<|M<|zr<|bS (_,_) hm
     .refine U<|z5 E xc xf xl xe<|zo E<|g2 rfl rfl (λ_=>⟨E,xN⟩)<|zo xw<|M<|zd hm (λu hm=>?_) λu hm=>?_
      .exact zb<|z4 E E xc xf<|zs (yt)<|zw<|zJ _ hm
      .exact zk<|zJ _ hm
    .rintro⟨_,aY⟩ hm;refine M<|zd hm (λu hm=>?_) λu hm=>?_
     .refine U<|z5 E xc xf xf xP<|bB hm λa7 aE hm=>z5 (kC [] 133 (QF _ aE)) E aC aB I<|zo I<|M<|zb<|z2 E E ?_;refine il hm (G9 am ag ao ak ac af ad al an Q K L J X N C D G aY) [2,5,24034,24088,2113] (λk p=>W 95 (.top)<|Y 112 (.ow [135] [133,134] 233 p)<|k) func354 cF ?_ ?_
      .refine λap=>iu 1 [2,5] [24034,27088] ?_;refine zb<|z5 E E xc xf xl<|zo E<|bB hm λa1 aQ hm=>z3 (xv [133,134] 135 aQ) xc xf<|zs (yt)<|zw ?_;exact eW (dK _ hm)
      .rintro a5 hm;exact zw<|zJ (_,_) hm
     .exact zk<|zJ (_,_) hm
theorem TU:C2 412 Dk (s3 (qo (.own 0 none 133)) (.rep 1)):=λo ac r j=>(cv [[63],[62,64]] func412) λ_ _=>by
 refine U<|zs (yb 10 aA)<|zs (yb 17 aA)<|zs (ya 23)<|z2 I I<|zz<|z2 xr xr ?_;refine il j (Jw o ac) [2,3,4,19010] (λk (a,b,c,d,e)=>W 14 (.cP (aa.aL 44) (R1 ((0:Int):Int)))<|V4 45 a b c d<|Y 49 (.ow [43] [] 133 e)<|V6 50 o.Id o.aw o.bz o.bb o.K o.aE<|O 44 11<|k) func265 cF ?_ ?_
 .refine λaz=>iu 1 [2,3,4] [19010] ?_;refine U<|zs (yb 29 aF)<|zs (yb 36 aF)<|z2 I I<|M<|za<|U<|z2 xr xr<|bB j λan B j=>z2 (kC [0] 42 (tE _ _ B)) I<|zz<|z2 E xq<|M<|zx j λq j=>zk<|zt<|za<|bB j λao A j=>?_;refine zQ aI (S:=p4 xr (kC [0] 43 (wk _ A)) xr bU<|aq (sE (.ae 17 _::(kR 44 [_,_,_,_,_,_,_,_,_,_,_,_] (kK 44 12 []))) (yb 44 bT))<|p2 I I<|aN) (h:=zt<|zr ?_);exact dU (_,_,_,_,_) j
 .rintro⟨ad,Z,_,_,_⟩ j;refine z5 E aC aB I I<|M<|za<|U<|z2 E xq<|M<|zF<|zk<|zt<|za ?_;refine zQ aI (S:=p6 xf xl E xc xf xf<|p6 xl E xc xf xf xl<|o1 bU<|aq (sE (.ae 9 _::(kR 56 [_,_,_,_,_] (kK 56 5 []))) (ya 56))<|aq (sE (kR 56 [_,_,_,_,_] (.av 56::(kK 57 4 []))) (yo aF))<|aN) (h:=zt<|za<|zl<|bB j λQ w j=>?_);refine lp w [2,3,4,7,9,19010,3044,11050] (λk (a,b,c)=>V2 47 a b<|Y 49 (.rep [43] c)<|k) (λk (a,b,c)=>(.exit 0,V2 47 a b<|Y 49 (.rep [43] c)<|k)) ?_ ?_
  .rintro⟨_,_,_⟩ aG j;refine za<|U<|z5 E xc xf xf xl<|z3 xn xg E<|g4 rfl rfl (λ_=>⟨E,xc,xf,xf⟩)<|zg rfl rfl (λ_=>xl)<|bB j λap G j=>zg rfl rfl (λq=>xI (bM G q))<|g2 rfl rfl (λ_=>⟨xp,xD⟩)<|zo xw<|M<|zd j (λq j=>?_) λq j=>?_
   .refine zk<|zt<|zl<|za<|bB j λal z j=>bB j λar L j=>?_;refine zQ aI (S:=p6 E xf xl E xc xf<|p6 xf xl E xc xf xf<|p6 xl (xI z) xp xD (kC [] 61 (tt _ _ _ L)) E<|p5 aC aB xc xf xf<|aq (sE [.ae 100047 _,.ae 100044 _,.av 44,.bp 47] (yt))<|aN) (h:=zt<|za<|bB j λak D j=>?_);refine zQ aI (S:=p6 E xc xf xf xl E<|p6 xc xf xf xl (xI D) xp<|p5 xD xz xc xf xf<|aq (sE [.ae 100048 _,.ae 100044 _,.av 44,.bp 48] (yt))<|aN) (h:=zt<|zb<|z5 E E xc xf xf<|zo xl<|bB j λam C j=>?_);exact wo (ah.Y2 C qn.h (ai rfl) e_)<|z3 xc xf xf<|zs (yt)<|zw<|zh<|zN j
   .exact ze<|zE<|zB j
  .intro _;refine zj<|zt<|za<|za ?_;refine zQ aI (S:=p6 E xc xf xf xl xn<|p4 xf xl xn xe<|aN) (h:=zt<|zx j λq j=>zk<|zt ?_);refine jn j (A8 o ad Z Q) [2,4,7,9,7010,6023,15044,1060] (λk p=>V 59 p<|k) ?_ ?_
   .rintro ag j;refine U<|z5 E xc xf xf xl<|zo xf<|zs (yt)<|zz<|zo xr<|bB j λX J j=>z5 (kC [] 62 (AI _ J)) E aC aB I<|zo I<|M<|za<|U<|z2 E xq<|M<|zx j λq j=>zk<|zt<|U<|z5 E E xc xf xf<|zo xl<|bB j λay N j=>z4 (kC [43] 63 (Pg _ N)) xc xf xf<|zs (yt)<|M<|za ?_;refine zQ aI (S:=p6 E xc xf xP xf xl<|p3 E bU (xt [62] 64 [(cd.mk o.aw (2:UInt8) (0:Int) X.1)])<|aq (sE (kR 23 [_,_,_,_,_,_] (.av 23::(kK 24 5 []))) (yo aF))<|p2 I I<|aN) (h:=zt<|zr ?_);cases j;exact dL
   .refine U<|z5 E xc xf xf xl<|z2 xn xg<|M<|zd j (λq j=>?_) λq j=>?_
    .exact zb<|z5 E xc xf xf xl<|bB j λaf u j=>z4 (xI u) xp xD xf<|zs (yt)<|zw<|zJ _ j
    .exact zk<|zJ _ j
theorem R8:C1 405 Bw (s3 (gv (.own 0 (some 1) 79) (.own 2 none 133) (.own 3 (some 4) 120)) (.own 5 (some 6) 233)) [4]:=λaO r hm=>(cv [[82],[83],[84,114],[85],[0,86],[122],[115]] func405) λ_ _=>by
 refine U<|zs (yb 10 ck)<|zs (ya 34)<|z2 I I<|zz<|zo xR ?_;refine il hm (HT aO) [1,2,48010] (λk (a,b,c,d,e,f,g,h,i,j,l,m,n,o,q,r,t,v,w,x,y,z,A,B)=>W 10 (.aL 88)<|V8 89 a b c d e f g h<|V6 97 i j l m n o<|Y 103 (.ow [82] [83] 79 q)<|V4 104 r t v w<|Y 108 (.ow [84] [] 133 x)<|Y 109 (.ow [85] [0,86] 120 y)<|V2 110 z A<|Y 112 (.dM)<|V 113 B<|O 88 25<|k) func346 cF ?_ ?_
 .refine λap=>iu 1 [1,2] [48010] ?_;refine U<|zs (yb 58 bT)<|zo I<|M<|za<|bB hm λaR aE hm=>bB hm λaQ aJ hm=>?_;refine zQ aI (S:=p5 xR (kC [0] 82 (mw _ aE)) xR (kC [0] 87 (lv _ aJ)) bU<|aq (sE (.ae 9 _::(kR 88 [_,_,_,_,_,_,_,_,_,_,_,_,_,_,_,_,_,_,_,_,_,_,_,_,_,_] (kK 88 26 []))) (yb 88 dW))<|o1 I<|aN) (h:=zt<|za<|U<|z5 E xc xf xl xe<|zo E<|g3 rfl rfl (λ_=>⟨xf,xf,xl⟩)<|zo xw<|M<|zx hm λu hm=>zk<|zt<|U<|z2 E I<|M<|zr ?_);exact bS (_,_,_,_,_,_,_,_,_,_,_,_,_,_,_,_,_,_,_,_,_,_,_,_) hm
 .rintro⟨am,ag,ao,ak,ac,af,ad,al,an,Q,J,K,G,X,N,ay,az,aC,aB,aA,L,C,D,_⟩ hm;refine zo I<|M ?_;refine jn hm (D8 am ag ao ak ac af ad al an Q J K G X N L C D) [2,5,24034,16088,3109] (λk (a,b,c,d,e,f,g)=>V4 104 a b c d<|Y 108 (.ow [84,114] [] 133 e)<|Y 112 (.ow [122] [115] 233 f)<|V 113 g<|k) ?_ ?_
  .rintro⟨_,_,_,_,_,_,_⟩ hm;refine U<|zo E ?_;refine il hm z6 [2,24034] (λk (a,b,c,d,e,f,g,h,i,j,l,m,n,o)=>W 46 (.eV (aa.aK [(true,6,aa.rep [] a),tr b,(true,7,aa.rep [] c),(false,1,aa.ow [82] [83] 79 d),(true,5,aa.aK [tr e,tr f,tr g,tr h,(false,1,aa.ow [84,114] [] 133 i)]),(false,1,aa.ow [85] [0,86] 120 j),tr l,tr m]) (aa.ow [122] [115] 233 n) (R1 o))<|k) func339 cF ?_ ?_
   .refine λap=>iu 1 [2] [24034,26088] ?_;refine U<|zs (ya 123)<|z2 I I<|M<|za<|U<|z5 E xc xf xl xq<|M<|zd hm (λu hm=>?_) λu hm=>?_
    .refine za ?_;refine zQ aI (S:=p5 bU E xc xf xl<|aq (sE (kR 123 [_,_,_,_,_,_,_,_,_,_,_,_,_,_,_,_,_,_,_,_,_,_,_,_] (.av 123::(kK 124 23 []))) (yo bT))<|p2 I I<|aN) (h:=zt<|zr<|zR ?_);exact jo (_,_,_,_,_,_,_,_,_,_,_,_,_,_) hm
    .refine zk<|zt<|za ?_;refine zQ aI (S:=p6 E xc xf hX E xc<|p2 xf xl<|aq (sE (kR 123 [_,_,_,_,_,_,_,_,_,_,_,_,_,_,_,_,_,_,_,_,_,_,_,_] (.av 123::(kK 124 23 []))) (yo bT))<|p2 I I<|aN) (h:=zt<|zr ?_);exact jo (_,_,_,_,_,_,_,_,_,_,_,_,_,_) hm
   .rintro⟨_,_,_,_,_,_,_,_,_,_,_,_,_,_⟩ hm;refine z3 eJ eI eL<|zs (yo dW)<|z2 I I<|M<|zr ?_;cases hm;exact dL
  .refine U<|z5 E xf xf xl xN ?_;refine il hm (GM am ag ao ak ac af ad al an Q J K G X N ay az aC aB aA L C D) [2,5,24034,25088] (λk (a,b)=>Z 16 a<|V 113 b<|k) func340 cF ?_ ?_
   .refine λap=>iu 1 [2,5] [24034,26088] ?_;refine U<|zo I<|M ?_;refine jn hm (BD am ag ao ak ac af ad al an Q J K G X N ay az aC aB aA L C D) [0,902002,902005,24034,25088] (λk p=>V 113 p<|k) ?_ ?_
    .rintro aZ hm;exact U<|z5 E xc xf xl xe<|zo I<|M<|zr<|bS (_,_) hm
    .refine U<|z5 E xc xf xl xe<|zo E<|g2 rfl rfl (λ_=>⟨E,xN⟩)<|zo xw<|M<|zd hm (λu hm=>?_) λu hm=>?_
     .exact zb<|z4 E E xc xf<|zs (yt)<|zw<|zJ _ hm
     .exact zk<|zJ _ hm
   .rintro⟨_,_⟩ hm;refine M<|zd hm (λu hm=>?_) λu hm=>?_
    .refine za<|bB hm λar aH hm=>?_;refine zQ aI (S:=p6 E xc xf xf xP E<|p6 xc xf xf xP (kC [84] 114 (TU _ _ aH)) E<|p3 eJ eI eL<|aq (sE (.ae 6 _::(kR 116 [_,_,_,_,_,_] (kK 116 6 []))) (ya 116))<|aq (sE (kR 116 [_,_,_,_,_,_] (.av 116::(kK 117 5 []))) (yo aF))<|p2 I I<|aN) (h:=zt<|U<|z4 E E xe E ?_);refine il hm (G7 am ag ao ak ac af ad al an Q J K G X N L C D ar) [2,5,6,7,24034,25088,6116] (λk (a,b)=>Z 36 a<|V 113 b<|k) func340 cF ?_ ?_
     .refine λap=>iu 1 [2,5,6,7] [24034,26088,6116] ?_;refine U<|zo I<|M ?_;refine jn hm (BG am ag ao ak ac af ad al an Q J K G X N L C D ar) [0,902002,902005,902006,902007,24034,25088,6116] (λk p=>V 113 p<|k) ?_ ?_
      .rintro a0 hm;exact U<|z5 E xc xf xl xe<|zo I<|M<|zr<|bS (_,_) hm
      .refine U<|z5 E xc xf xl xe<|zo E<|g2 rfl rfl (λ_=>⟨E,xN⟩)<|zo xw<|M<|zd hm (λu hm=>?_) λu hm=>?_
       .exact zb<|z4 E E xc xf<|zs (yt)<|zw<|zJ _ hm
       .exact zk<|zJ _ hm
     .rintro⟨_,aM⟩ hm;refine zz<|z5 E xr xc xf xf<|zs (yS 15 20 (hx:=aF))<|M<|zb<|z2 E E ?_;refine il hm (E6 am ag ao ak ac af ad al an Q J K G X N L C D ar aM) [2,5,24034,24088,1113] (λk p=>W 44 (.top)<|Y 112 (.ow [122] [115] 233 p)<|k) func354 cF ?_ ?_
      .refine λap=>iu 1 [2,5] [24034,26088] ?_;refine zb<|z5 E E xc xf xl<|zo E<|bB hm λaY aG hm=>z3 (xv [115] 122 aG) xc xf<|zs (yt)<|zw ?_;exact eW (dK _ hm)
      .rintro aU hm;exact zw<|zJ (_,_,_,_,_,_,_) hm
    .exact zk<|zJ (_,_,_,_,_,_,_) hm
theorem SK:C3 329 O_ (s3 (gv (.rep 0) (.rep 0) (.rep 0)) (.rep 0)) [0]:=λw o u r a=>(cv [[0,63,64,65,66]] func329) λ_ _=>by refine U<|zs (yb 10 aA)<|zs (yb 15 ck)<|zs (ya 39)<|z2 I I<|zz<|z5 xR E xf xl xf<|zo xl<|bB a λq j a=>z4 (kC [0] 63 (VZ _ _ _ _ j)) eJ eI eL<|zs (yo dW)<|z2 I I<|M<|zr ?_;cases a;exact dL
theorem XA:C3 359 pr (s3 (gv (.rep 0) (.rep 0) (.rep 0)) (.rep 0)) [0]:=λD z C r a=>(cv [[0,63,64,65,66,67,92,93,94,95,96,97,98,99,100,101,102,103,104]] func359) λ_ _=>by
 refine U<|zs (yb 10 aA)<|zs (yb 15 ck)<|zs (ya 39)<|z2 I I<|M<|za<|U<|z2 xf xl<|M<|zl<|U<|z2 xb I<|M<|zd a (λj a=>?_) λj a=>?_
 .refine U<|z4 xR E xf xl<|bB a λB u a=>z4 (kC [0] 63 (SL _ _ _ u)) E aC aB<|zs (ya 68)<|zs (yo dW)<|zo I<|zz<|z2 xR E<|zs (yo bT)<|z2 I I<|M<|zr<|zi<|zR ?_;cases a;exact dL
 .refine U<|z2 xb I<|M<|zd a (λj a=>?_) λj a=>?_
  .refine U<|z3 xR xf xl<|bB a λw q a=>z4 (kC [0] 92 (UW _ _ q)) eJ eI eL<|zs (yo dW)<|z2 I I<|M<|zr<|zi<|zR ?_;cases a;exact dL
  .refine zk<|zh<|zt<|U<|z3 xR xf xl<|bB a λA o a=>z4 (kC [0] 99 (MR _ _ o)) eJ eI eL<|zs (yo dW)<|z2 I I<|M<|zr ?_;cases a;exact dL
theorem YT:C3 401 pQ (s3 (gv (.rep 0) (.rep 0) (.rep 0)) (.rep 0)) [0]:=λD z C r a=>(cv [[0,63,64,65,66,67,68,69,70,71,72,73,74,75,76,77,78,79,80,81,82,83]] func401) λ_ _=>by
 refine U<|zs (yb 10 aA)<|zs (yb 15 ck)<|zs (ya 39)<|z2 I I<|M<|za<|U<|z2 xf xl<|M<|zl<|U<|z2 xb I<|M<|zd a (λj a=>?_) λj a=>?_
 .refine U<|zo xR<|bB a λB u a=>z4 (kC [0] 63 (Sm _ u)) eJ eI eL<|zs (yo dW)<|z2 I I<|M<|zr<|zi<|zR ?_;cases a;exact dL
 .refine U<|z2 xb I<|M<|zd a (λj a=>?_) λj a=>?_
  .refine U<|zo xR<|bB a λw q a=>z4 (kC [0] 70 (Wx _ q)) eJ eI eL<|zs (yo dW)<|z2 I I<|M<|zr<|zi<|zR ?_;cases a;exact dL
  .refine zk<|zh<|zt<|U<|zo xR<|bB a λA o a=>z4 (kC [0] 77 (R8 _ o)) eJ eI eL<|zs (yo dW)<|z2 I I<|M<|zr ?_;cases a;exact dL
theorem S3(m:gQ [243,245,247] au)(q:N)(o:List aU){r:N×(List cd)×Int}(a:HF m q o=some r):∃k,([329,359,401]:List FuncId)[m.i]? =some k/\enters H k=true/\gl H k [.rep 0 m.x, .rep 0 q, .rep 0 o] (.eV (.aK [(true,6,(.fl r.1.J)),(false,1,(.fl r.1.ee)),(true,7,(.fl r.1.X)),(false,1,(.rep 0 r.1.aE)),(true,5,(.aK [(false,1,(.fl r.1.K.bR)),(false,1,(.fl r.1.K.Seq)),(false,1,(.fl r.1.K.ca)),(false,1,(.fl r.1.K.cg)),(false,1,(.rep 0 r.1.K.j))])),(false,1,(.rep 0 r.1.du)),(false,1,(.fl r.1.Next)),(false,1,(.fl r.1.eU))]) (.rep 0 r.2.1) (.fl r.2.2)) [0]:=by
 obtain⟨i,x⟩:=m
 match i,a with
 |0,a=>exact⟨329,rfl,(by kernel_rfl),SK x q o a⟩
 |1,a=>exact⟨359,rfl,(by kernel_rfl),XA x q o a⟩
 |2,a=>exact⟨401,rfl,(by kernel_rfl),YT x q o a⟩
 |_+3,a=>cases a
theorem aak(a0 a1){r}(j:Sn a0 a1=some r):CT 211 [.rep 0 a0,.fn H Jo 0 a1] (.cP (.own 0 (some 1) 120 r.1) (.own 2 (some 3) 120 r.2)) [1,3]:=by
 refine cw [[21],[0,20],[23],[0,22]] func211 λw0 om=>?_;refine U<|z2 I I<|M<|za<|U<|z3 E xn E<|M<|zl<|bB j λD w j=>?_;refine lp w [1,8,9] (λk (a,b,c)=>W 4 (.ow [21] [0,20] 120 a)<|W 5 (.ow [23] [0,22] 120 b)<|Z 10 c<|k) (λk (a,b)=>(.exit 0,W 4 (.ow [21] [0,20] 120 a)<|W 5 (.ow [23] [0,22] 120 b)<|k)) ?_ ?_
 .rintro⟨C,s2,s3⟩ J j;refine U<|zo xi<|M<|za<|zd j (λq j=>?_) λq j=>?_
  .refine zk<|zt ?_;refine jn j (HG s3) [1,8,9,10] (λk (a,b)=>W 4 (.ow [21] [0,20] 120 a)<|W 5 (.ow [23] [0,22] 120 b)<|k) ?_ ?_
   .rintro⟨_,_⟩ j;exact zb<|z2 xy E<|zw<|zN j
   .refine zl<|U<|bB j λo z j=>z2 (xI z) xd<|zs (ya 10)<|zs (yo ck)<|zz<|z5 E xR E xn E<|z3 xn xy xe<|bB j λK B j=>zo (lh (x:=(o,((wI (((s2).length:Int)+((C).length:Int)))==(0:Int)))) [0] 19 B)<|M<|zd j (λq j=>?_) λq j=>?_
    .exact zb<|z3 E xR (xt [0] 20 [o])<|bB j λL A j=>zs (yA [0,20] A)<|zo I<|zw<|zh<|zJ (_,_) j
    .exact zb<|z3 E xR (xt [0] 22 [o])<|bB j λG u j=>zs (yA [0,22] u)<|zo I<|zw<|zh<|zJ (_,_) j
  .exact ze<|zE<|zB j
 .intro _;refine zj<|zt<|U<|z4 E E I I<|M<|zr ?_;cases j;exact bC
theorem Yx(a0 a1 a2){r}(a:Pq a0 a1 a2=some r):CT 273 [.rep 0 a0,.ptr 0 a1,.ptr 0 a2] (.fl r) []:=by refine cw [[]] func273 λw0 om=>?_;refine U<|zs (yb 10 aA)<|zo I<|zz<|z4 xf xl xN E<|g4 rfl rfl (λ_=>⟨xf,xl,xD,rn⟩)<|zg rfl rfl (λ_=>xM)<|zu rfl rfl (λ_=>xD)<|zu rfl rfl (λ_=>xM)<|zu rfl rfl (λ_=>xf)<|zu rfl rfl (λ_=>xl)<|zu rfl rfl (λ_=>xD)<|zu rfl rfl (λ_=>ym)<|zu rfl rfl (λ_=>xW)<|zg rfl rfl (λ_=>xO)<|z2 xw I<|M<|zr ?_;cases a;exact az
theorem Rg:C3 241 OV .fl:=λw o q r a=>(cv [[]] func241) λ_ _=>by refine U<|zs (yb 10 ck)<|zs (yb 18 fc)<|zs (yb 20 fc)<|zo I<|zz<|z4 xf xf xl xF<|bB a λu j a=>z3 (kC [0,18,20] 22 (HX _ _ j) (H2 (j0 rfl (jT λy _=>@Yx y o q _)))) xN I<|M<|zr ?_;cases a;exact az
theorem Vq:C2 213 MM (.own 0 none 5):=λq D r j=>(cv [[10,11]] func213) λ_ _=>by
 refine U<|zo I<|M<|za<|U<|z3 E xn xe<|M<|zd j (λo j=>?_) λo j=>?_
 .refine U ?_;refine ws (au.od (α:=UInt8) 10 rfl rfl de.h)<|zo I<|M<|zr<|zR ?_;cases j;exact az
 .refine zk<|zt<|za<|U<|z3 E xn xe<|M<|zd j (λo j=>?_) λo j=>?_
  .refine U<|zo E<|bB j λO B j=>z2 (xI B) xd<|bB j λL A j=>z2 (xv [] 11 A) I<|M<|zr<|zR ?_;cases j;exact az
  .refine zk<|zt<|U<|zo I<|M ?_;refine jn j (Gk q) [0,1] (λk p=>Z 5 p<|k) ?_ ?_
   .rintro Q j;refine za<|U<|z3 E xn E<|M<|zl<|bB j λN z j=>?_;refine lp z [0,1,42,43] (λk (a,b)=>Z 5 a<|Z 44 b<|k) (λk b=>(.exit 0,Z 5 b<|k)) ?_ ?_
    .rintro⟨C,J⟩ K j;refine U<|zo xi<|M<|za<|zd j (λo j=>?_) λo j=>?_
     .refine zk<|zt<|za<|zl<|U<|bB j λG u j=>z3 (xI u) xd I<|M ?_;refine jn j (L3 C J G) [0,1,5,7,42,43,44] (λk p=>k) ?_ ?_
      .rintro _ j;exact zb<|z5 E E xn xy I<|zw<|zh<|zt<|zb<|z2 xy E<|zw<|zN j
      .refine U<|z5 E xn E xz xg<|M<|zd j (λo j=>?_) λo j=>?_
       .refine zb ?_;exact nomatch j
       .exact zk<|zJ () j
     .exact ze<|zE<|zB j
    .intro _;refine zj<|zt<|U<|zo E ?_;exact nomatch j
   .refine U<|z3 E xn xg<|M<|zd j (λo j=>?_) λo j=>?_
    .refine jn j (NQ q D) [0,1,5] (λk p=>k) ?_ ?_
     .rintro _ j;exact zb<|z5 E E xn E xn<|z4 xz xk xy I<|zw<|zJ _ j
     .refine U<|z5 E xn E xn xz<|bB j λS w j=>?_;refine wo (ah.oK w e_ (ai rfl))<|zo xh<|M<|zd j (λo j=>?_) λo j=>?_
      .refine zb ?_;exact nomatch j
      .exact zk<|zJ () j
    .exact zk<|zJ _ j
theorem ZO:C5 173 JY (s3 (.own 0 (some 1) 120) (.own 2 (some 3) 58)) [1]:=λaY a0 u B A r j=>(cv [[68],[0,54,55,69],[67],[65,66]] func173) λ_ _=>by
 refine U<|zs (yb 10 aA)<|zs (yb 17 aA)<|z3 I I I<|M<|za<|U<|z2 xr E<|bB j λa2 af j=>z2 (kC [0] 23 (tH _ _ af)) I<|zz<|z2 E xq<|M<|zx j λo j=>zk<|zt<|za<|U<|z2 xr xr<|bB j λaU Y j=>z2 (kC [0] 24 (tE _ _ Y)) I<|zz<|z2 E xq<|M<|zx j λo j=>zk<|zt<|U<|z5 E xr E E bU<|zo xF ?_;refine il j F7 [11] (λk (a,b)=>W 38 (.cP (aa.ow [53] [0,52] 120 a) (aa.ow [55] [0,54] 120 b))<|k) func211 cF ?_ ?_
 .refine λaR=>iu 1 [11] [] ?_;refine U<|z2 I I<|M<|za<|U<|z3 E xn E<|M<|zl<|bB j λaw K j=>?_;refine lp K [1,8,9,902011] (λk (a,b,c)=>W 4 (.ow [53] [0,52] 120 a)<|W 5 (.ow [55] [0,54] 120 b)<|Z 10 c<|k) (λk (a,b)=>(.exit 0,W 4 (.ow [53] [0,52] 120 a)<|W 5 (.ow [55] [0,54] 120 b)<|k)) ?_ ?_
  .rintro⟨ac,am,w⟩ ao j;refine U<|zo xi<|M<|za<|zd j (λo j=>?_) λo j=>?_
   .refine zk<|zt ?_;refine jn j (F8 w) [1,8,9,10,902011] (λk (a,b)=>W 4 (.ow [53] [0,52] 120 a)<|W 5 (.ow [55] [0,54] 120 b)<|k) ?_ ?_
    .rintro⟨_,_⟩ j;exact zb<|z2 xy E<|zw<|zN j
    .refine zl<|U<|bB j λq D j=>z2 (xI D) xd<|zs (ya 25)<|zs (yo ck)<|zz<|z5 E xR E xn E<|z3 xn xy xe ?_;refine il j (IM ac am w q) [1,4,5,7,8,9,10,902011,9025] (λk p=>Z 22 p<|k) func212 cV ?_ ?_
     .refine λa1=>iu 2 [1,4,5,7,8,9,10] [902011,9025] ?_;refine U<|zs (yb 34 bT)<|zs (yb 42 bT)<|zo I<|M<|za<|U<|z3 xf xf xl<|M<|zl<|U<|z2 xb I<|M<|zx j λo j=>U<|z2 xb I<|M<|zx j λo j=>zk<|zh<|zt<|za<|U<|z4 xf xl xn E<|M<|zl<|bB j λal N j=>?_;refine lp N [3,4,36,37,902011,904001,904004,904005,904007,904008,904009,904010,26025] (λk s=>Z 38 s<|k) (λk=>Sum.elim (λb=>(.ret,Z 6 false<|k)) (λ_=>(.exit 1,k))) ?_ ?_
      .rintro az ar j;refine U<|zo xi<|M<|za<|zd j (λo j=>?_) λo j=>?_
       .refine zk<|zt<|za<|zl<|U<|zo E<|bB j λaG J j=>z4 (xI J) xD I I<|zz<|z3 xf xl E<|g4 rfl rfl (λ_=>⟨xf,xf,xl,xB⟩)<|z2 xw I<|M<|za<|bB j λag G j=>bB j λaM C j=>?_;refine zQ aI (S:=p3 E xB E<|w3 (q3 (h:=λ_=>⟨E,xB,xM⟩))<|aq (qu (h:=λ_=>E))<|aq (qu (h:=λ_=>xN))<|aq (qu (h:=λ_=>xM))<|aq (qu (h:=λ_=>xR))<|aq (qu (h:=λ_=>xf))<|aq (qu (h:=λ_=>xl))<|aq (qu (h:=λ_=>E))<|aq (qu (h:=λo=>xI (bM G (ib (ib (iw (iw o)) (cS (jr (iw o)))) (jr o)))))<|aq (qu (h:=λ_=>xD))<|aq (cI.jY rfl rfl rfl (λo=>ah.jI [0] 51 rfl (by kernel_rfl) (Rg (oG.mk u B A) ag false (bM C (ib (ib (iw (iw o)) (cS (jr (iw o)))) (jr o)))) (bX.cons (Has.m (aV (dD rfl o) (bq (di (aX.cons (bq (bq (di (vf (vf (vf (vf (aX.cons (Cv.m rfl) aX.nil)))))) (dG (T:=[0]) (dg.h u))) (Cv.m rfl)) (vf (vf aX.nil)))) (dG (T:=[0]) (dg.h (oG.mk u B A))))) rfl) (bX.cons (fG (dD rfl o)) (bX.cons (fG Has.bool) bX.nil)))))<|aq (qu (h:=λ_=>xN))<|aq (qu (h:=λ_=>xW))<|aq (qg (h:=λ_=>xO))<|o1 xw<|aN) (h:=zt<|zd j (λo j=>?_) λo j=>?_)
        .exact U<|zo I<|M<|zr<|zi<|zR<|zB j
        .exact zk<|zh<|zt<|zb<|z2 xy E<|zw<|zN j
       .exact ze<|zE<|zB j
      .intro _;rcases al with ap|ay
       .have j:=fN j;exact zi<|zR<|bS _ j
       .have j:=fI j;exact zj<|zt<|U<|zo I<|M<|zr<|bS _ j
     .rintro aE j;refine M<|zd j (λo j=>?_) λo j=>?_
      .exact zb<|z3 E xR (xt [0] 52 [q])<|bB j λaJ L j=>zs (yA [0,52] L)<|zo I<|zw<|zh<|zJ (_,_) j
      .exact zb<|z3 E xR (xt [0] 54 [q])<|bB j λaH X j=>zs (yA [0,54] X)<|zo I<|zw<|zh<|zJ (_,_) j
   .exact ze<|zE<|zB j
  .intro _;exact zj<|zt<|U<|z4 E E I I<|M<|zr<|dU (_,_) j
 .rintro⟨_,_⟩ j;refine z5 E aC aB I I<|M<|za<|U<|z3 E xn E<|M<|zl<|bB j λaF V j=>?_;refine lp V [16,41,42] (λk (a,b)=>W 11 (.ow [67] [65,66] 58 a)<|Z 43 b<|k) (λk b=>(.exit 0,W 11 (.ow [67] [65,66] 58 b)<|k)) ?_ ?_
  .rintro⟨_,_⟩ aQ j;refine U<|zo xi<|M<|za<|zd j (λo j=>?_) λo j=>?_
   .refine zk<|zt<|za<|zl<|U<|bB j λz ad j=>z2 (xJ ad) xs<|zs (ya 56)<|zs (yo ck)<|M<|bB j λan ak j=>bB j λaL O j=>?_;exact zQ aI (S:=p6 E xf xl xf xl (kC [0,52] 65 (Vq _ _ ak) (H2 (Has.m (Has.nil UInt8) rfl)))<|p5 xf xf xl bU (xt [65] 66 [(kQ.mk z.dR (0:Int) an z.aZ.eZ)])<|aq (sE [.ae 58 _,.av 67] (yA [65,66] O))<|o1 I<|aN) (h:=zh<|zt<|zb<|z2 xy E<|zw<|zN j)
   .exact ze<|zE<|zB j
  .intro _;refine zj<|zt<|U<|zo E<|bB j λaO Q j=>z5 (kC [0,54,55] 68 (CP _ Q)) E I I I<|M<|zr ?_;cases j;exact dL
theorem Oa:C1 122 xQ (λr=>.cP (gv (.rep 3) (.rep 3) (.rep 0) r.1) (.own 1 (some 2) 58 r.2)) [0,3]:=λo r q=>(cv [[0,58,59],[62],[60,61],[0]] func122) λ_ _=>by
 refine U<|zs (yb 10 ck)<|zs (ya 34)<|zo I<|zz<|zo I<|M<|zl<|bB q λD z q=>?_;refine lp z [1,2,21010,3032] (λk (a,b)=>W 4 (.ow [62] [60,61] 58 a)<|Y 31 (.rep [0,58,59] b)<|V8 35 ((0:UInt32):UInt32) ((0:Int):Int) ((0:Int):Int) ((0:Int):Int) ((0:Int):Int) ((0:Int):Int) false ((0:UInt32):UInt32)<|V6 43 ((0:Int):Int) false ((0:Int):Int) ((0:Int):Int) false false<|Y 49 (.dM)<|V4 50 ((0:UInt32):UInt32) ((0:UInt32):UInt32) ((0:Int):Int) ((0:Int):Int)<|Y 54 (.dM)<|Y 55 (.dM)<|V2 56 ((0:Int):Int) false<|k) (λk (a,b)=>(.ret,W 3 (.ow [62] [60,61] 58 a)<|V8 35 o.J.Id o.J.aw o.J.bz o.J.bb o.J.K o.J.aE o.ee o.X.cZ<|V6 43 o.X.bZ o.X.dt o.X.Pos o.X.cN o.X.cn o.X.cO<|Y 49 (.rep [0] o.aE)<|V4 50 o.K.bR o.K.Seq o.K.ca o.K.cg<|Y 54 (.rep [0] o.K.j)<|Y 55 (.rep [0,58,59] b)<|V2 56 o.Next o.eU<|k)) ?_ ?_
 .rintro⟨_,_⟩ B q;refine zl<|U<|z5 xf xP xf xl xf<|z5 xP xf xl xf xf<|zo xl<|bB q λG w q=>z5 (kC [0,58,59] 58 (ZO _ _ _ _ _ w)) E eJ eI eL<|z3 I I I<|M<|za<|U<|z3 E xq E<|g3 rfl rfl (λ_=>⟨E,xn,xe⟩)<|zo xo<|M<|zd q (λA q=>?_) λA q=>?_
  .exact U<|z2 xR E<|zs (yo bT)<|zo I<|M<|zr<|zR<|zi<|zB q
  .exact zk<|zt<|U<|z2 E xf<|zs (yt)<|M<|zb<|z2 E E<|bB q λC u q=>zs (yA [60,61] u)<|zo I<|zw<|zh<|zN q
 .intro _;refine zi ?_;cases q;exact bC
theorem Nc:C3 123 uJ (λr=>.gE (gv (.rep 0) (.rep 0) (.rep 0) r.1) (.rep 0 r.2.1) (.own 1 (some 2) 58 r.2.2.1) (.fl r.2.2.2)) [0]:=λj q u r a=>(cv [[0,67,92,95],[93],[94]] func123) λ_ _=>by
 refine U<|zs (yb 10 ck)<|zs (yb 34 aA)<|zs (ya 39)<|z3 I I I<|M<|za<|zl ?_;refine jn a (Bk j q u) [1,3,5,6,53010] (λk p=>Z 13 p<|k) ?_ ?_
 .rintro Y a;refine zx a λo a=>U<|z4 xf xf xl I<|M<|zx a λo a=>zk<|zh<|zt<|U<|zo xR<|bB a λO z a=>z2 (kC [0] 65 (Ll _ z)) I<|zz<|z2 E xF<|bB a λQ w a=>z2 (kC [34,65] 66 (LZ _ _ w) (H2 (j0 rfl (jT λy _=>@Zx y u _)))) I<|M<|za<|U<|z2 E xi<|M<|zx a λo a=>zk<|zt<|za<|bB a λL G a=>bB a λV D a=>?_;refine zQ aI (S:=p6 E E (xJ G) xS xR E<|p5 (ah.FW (xs:=[.tmp 41, .tmp 42]) [0] 67 rfl XC (ai rfl) (S3 L j q D) (bX.cons (Has.m (aV (ai rfl) (bq (di (aX.cons (bq (bq (di (vf (vf (vf (vf (vf (vf aX.nil))))))) (dG (T:=[]) (dg.h j.J))) Cv.fl) (vf (aX.cons (bq (bq (di (vf (vf (vf (vf (vf (vf (vf aX.nil)))))))) (dG (T:=[]) (dg.h j.X))) Cv.fl) (aX.cons (Cv.m rfl) (aX.cons (bq (bq (di (vf (vf (vf (vf (aX.cons (Cv.m rfl) aX.nil)))))) (dG (T:=[0]) (dg.h j.K))) (Cv.m rfl)) (aX.cons (Cv.m rfl) (vf (vf aX.nil))))))))) (dG (T:=[0]) (dg.h j)))) rfl) (bX.cons (Has.m (ai rfl) rfl) bX.nil))) E eJ eI eL<|aq (sE (.ae 12 _::(kR 68 [_,_,_,_,_,_,_,_,_,_,_,_,_,_,_,_,_,_,_,_,_,_,_,_] (kK 68 24 []))) (ya 68))<|aq (sE (kR 68 [_,_,_,_,_,_,_,_,_,_,_,_,_,_,_,_,_,_,_,_,_,_,_,_] (.av 68::(kK 69 23 []))) (yo dW))<|p2 I I<|aN) (h:=zt<|za<|U<|z2 E xq<|M<|zx a λo a=>zk<|zt<|U<|zo xR<|bB a λN A a=>z4 (kC [0,67] 92 (Oa _ A)) E aC aB<|zs (yo dW)<|zo I<|zz<|z3 xR E E<|zs (yo bT)<|z3 I I I<|M<|zr ?_);cases a;exact pX
 .refine U<|zo xR<|bB a λaa C a=>z3 (kC [0] 63 (lv _ C)) xq I<|M<|zd a (λo a=>?_) λo a=>?_
  .exact zk<|zJ _ a
  .exact zb<|z3 xf xP E<|bB a λW B a=>z3 (kC [0] 64 (rA _ _ B)) xq I<|zw<|zJ _ a
theorem Yy:C2 131 JT .fl:=λA w r a=>(cv [[]] func131) λ_ _=>by refine U<|zs (yb 10 ck)<|zo I<|M<|za<|U<|zo xR<|bB a λz q a=>z3 (kC [0] 34 (lv _ q)) xq E<|g3 rfl rfl (λ_=>⟨xf,xP,E⟩)<|bB a λu o a=>zg rfl rfl (λj=>kC [0] 35 (rA _ _ (bM o (cS j))))<|zg rfl rfl (λ_=>xq)<|zo xo<|M<|zx a λj a=>zk<|zt<|za<|U<|z3 xf xf xl<|M<|zx a λj a=>zk<|zt<|U<|zo I<|M<|zr ?_;cases a;exact az
theorem Vx:C2 196 EF (s2 .fl):=λA w r a=>(cv [[]] func196) λ_ _=>by refine U<|zs (yb 10 aA)<|zs (yb 17 aA)<|zs (ya 25)<|zo I<|M<|za<|U<|z2 xr xr<|bB a λz o a=>z2 (kC [] 33 (tu _ _ o)) I<|zz<|z2 E xq<|M<|zx a λq a=>zk<|zt<|za<|U<|zo xr<|bB a λu j a=>z5 (kC [] 34 (lJ _ j)) E aC aB I<|zo I<|zz<|z4 xf xl xN E<|g4 rfl rfl (λ_=>⟨xf,xl,E,xe⟩)<|zo xo<|M<|zx a λq a=>zk<|zt<|U<|z4 xf xl xy xf<|zs (yt)<|zz<|zo xr<|zs (yo aF)<|zo I<|M<|zr ?_;cases a;exact bC
theorem Vo:C2 197 BY (s2 .fl):=λA q r j=>(cv [[]] func197) λ_ _=>by
 refine U<|zs (yb 10 aA)<|zs (yb 17 aA)<|zs (ya 25)<|zo I<|M<|za<|U<|z2 xr xr<|bB j λz w j=>z2 (kC [] 33 (tu _ _ w)) I<|zz<|z2 E xq<|M<|zx j λo j=>zk<|zt<|za<|U<|z4 xf xl xN E<|g4 rfl rfl (λ_=>⟨xf,xl,xf,xl⟩)<|zg rfl rfl (λ_=>xe)<|zo xo<|M<|zx j λo j=>zk<|zt<|U<|z2 xr bU<|zs (yb 34 bT)<|zo I<|zz<|z5 E E xc xf xf<|z4 xl xc xf xf<|zs (yt)<|M ?_;refine jn j (Dg q) [4,7,8025,2034,2040] (λk (a,b,c,d)=>V4 36 a b c d<|k) ?_ ?_
 .rintro⟨_,_,_,_⟩ j;refine U<|z4 E xc xf xP<|zs (yo aF)<|zo I<|M<|zr ?_;cases j;exact bC
 .refine U<|zo xr<|bB j λB u j=>z5 (kC [] 42 (lJ _ u)) E aC aB I<|zo I<|zz<|z5 E xc xf xf xl<|z2 E xe<|M<|zd j (λo j=>?_) λo j=>?_
  .refine zb<|zo E ?_;refine il j (I7 q) [4,7,8025,2034,2040] (λk p=>W 53 (.top)<|V4 36 ((-1:Int):Int) false ((0:Int):Int) ((0:Int):Int)<|k) func193 cF ?_ ?_
   .refine λC=>iu 1 [4,7] [8025,8034] ?_;refine zb<|z5 E E E E E<|z3 xc xf xf<|zs (yt)<|z3 xc xf xf<|zs (yt)<|z3 xc xf xf<|zs (yt)<|z3 xc xf xf<|zs (yt)<|zw ?_;exact eW (dK () j)
   .rintro _ j;exact zw<|zJ (_,_,_,_) j
  .exact zk<|zJ (_,_,_,_) j
theorem Rd:C2 146 CQ (s3 (gv (.rep 0) (.rep 0) (.rep 0)) (.rep 0)) [0]:=λC w r a=>(cv [[0,59,60,61,62,63,89,91]] func146) λ_ _=>by refine U<|zs (yb 10 ck)<|zs (ya 35)<|z2 I I<|zz<|z2 xf hX<|bB a λA u a=>zo (kC [0] 59 (mw _ u))<|zs (ya 64)<|zs (yo dW)<|zz<|z4 xf xf xl I<|zz<|z4 xf xP E E<|bB a λB q a=>zo (kC [] 88 (K5 _ _ _ q))<|z5 E aC aB I I<|zz<|z5 xf xP xf xl E<|z2 E E<|bB a λz j a=>z5 (kC [0] 89 (MD _ _ _ _ _ j)) E aC aB I<|zo I<|M<|za<|U<|zo E<|zo xq<|M<|zx a λG a=>zk<|zt<|U<|z4 xf xP xf xP<|bB a λD o a=>z5 (kC [] 90 (Vx _ _ o)) E aC aB xf<|zs (yS 7 14 (hx:=aA))<|zz<|z5 xR E E xy E<|z2 bU (xt [89] 91 [(cd.mk A.X.bZ (1:UInt8) (wI (w+(1:Int))) z.1)])<|zs (yo bT)<|zo I<|zo I<|M<|zr ?_;cases a;exact dL
theorem U7:C2 147 Bf (s3 (gv (.rep 0) (.rep 0) (.rep 0)) (.rep 0)) [0]:=λD B r a=>(cv [[0,59,60,61,62,63,97,98,107]] func147) λ_ _=>by
 refine U<|zs (yb 10 ck)<|zs (ya 35)<|z2 I I<|zz<|z2 xf hX<|bB a λw u a=>zo (kC [0] 59 (mw _ u))<|zs (ya 64)<|zs (yo dW)<|zz<|z4 xf xf xl I<|zz<|z4 xf xP xf xP<|bB a λA q a=>zo (kC [] 88 (Vo _ _ q))<|z3 E aC aB<|zs (ya 89)<|zs (yo aA)<|zo I<|zz<|z3 xf xP xr<|bB a λC j a=>z5 (kC [] 97 (Hi _ _ _ j)) E eJ eI eL<|zs (ya 99)<|zs (yo aA)<|z2 I I<|M<|za<|U<|zo E<|zo xq<|M<|zd a (λz a=>?_) λz a=>?_
 .refine U<|z2 bU E<|zs (yo bT)<|z2 I I<|M<|zr<|zR ?_;cases a;exact dL
 .refine zk<|zt<|U<|z2 xr xf<|zs (yS 7 14 (hx:=aF))<|M<|za<|bB a λG o a=>?_;refine zQ aI (S:=p5 xR E bU (ah.uI (xs:=[.tmp 44]) (T:=[]) 107 rfl de.h rfl rfl rfl rfl (fX.cons (Has.m (aV (ai rfl) (bq (di (vf (vf (vf (aX.cons (bq (Cv.nil (T:=[])) (Cv.m rfl)) aX.nil))))) (dG (T:=[]) (dg.h (cd.mk w.X.bZ (3:UInt8) (0:Int) ([]:List UInt8)))))) rfl) fX.nil)) E<|aq (sE [.ae 47 _,.av 107] (yA [97,98] o))<|aq (sE (kR 35 [_,_,_,_,_,_,_,_,_,_,_,_,_,_,_,_,_,_,_,_,_,_,_,_] (.av 35::(kK 36 23 []))) (yo bT))<|p2 I I<|aN) (h:=zt<|zr ?_);cases a;exact dL
theorem Xo(m:kM [146,147] g6)(o:Int){r:N×(List cd)×Int}(a:FE m o=some r):∃k,jl [146,147] m.i=some k/\enters H k=true/\gl H k [.rep 0 m.x, .rep 0 o] (.eV (.aK [(true,6,(.fl r.1.J)),(false,1,(.fl r.1.ee)),(true,7,(.fl r.1.X)),(false,1,(.rep 0 r.1.aE)),(true,5,(.aK [(false,1,(.fl r.1.K.bR)),(false,1,(.fl r.1.K.Seq)),(false,1,(.fl r.1.K.ca)),(false,1,(.fl r.1.K.cg)),(false,1,(.rep 0 r.1.K.j))])),(false,1,(.rep 0 r.1.du)),(false,1,(.fl r.1.Next)),(false,1,(.fl r.1.eU))]) (.rep 0 r.2.1) (.fl r.2.2)) [0]:=by
 obtain⟨i,x⟩:=m
 match i,a with
 |0,a=>cases a
 |1,a=>exact⟨146,rfl,(by kernel_rfl),Rd x o a⟩
 |2,a=>exact⟨147,rfl,(by kernel_rfl),U7 x o a⟩
 |_+3,a=>cases a
theorem P':C3 124 uA (s3 (gv (.rep 0) (.rep 0) (.rep 0)) (.rep 0)) [0]:=λal am O r u=>(cv [[0,65,72]] func124) λ_ _=>by
 refine U<|zs (yb 10 ck)<|zs (yb 34 aA)<|zs (ya 39)<|z2 I I<|M<|za<|U<|z2 xR E<|bB u λap ac u=>z2 (kC [0] 63 (Yy _ _ ac)) I<|zz<|z2 E xq<|M<|zx u λG u=>zk<|zt<|za<|U<|z3 xR E bU<|bB u λaf Q u=>z3 (kC [0] 64 (MU _ Q)) xn E<|M<|zl<|bB u λae V u=>?_;refine lp V [5,6,23,6034] (λk s=>W 22 (.ow [64] [0,65] 179 af)<|Z 24 s<|V8 40 ((0:UInt32):UInt32) ((0:Int):Int) ((0:Int):Int) ((0:Int):Int) ((0:Int):Int) ((0:Int):Int) false ((0:UInt32):UInt32)<|V6 48 ((0:Int):Int) false ((0:Int):Int) ((0:Int):Int) false false<|Y 54 (.dM)<|V4 55 ((0:UInt32):UInt32) ((0:UInt32):UInt32) ((0:Int):Int) ((0:Int):Int)<|Y 59 (.dM)<|Y 60 (.dM)<|V2 61 ((0:Int):Int) false<|k) (λk=>Sum.elim (λ(a,b,c,d,e,f,g,h,i,j,l,m,n,o,q,r,t,v,w,x,y,z,A,B,C)=>(.ret,W 7 (.rep [0,65,72] a)<|Z 8 b<|V8 40 c d e f g h i j<|V6 48 l m n o q r<|Y 54 (.rep [0,65,72] t)<|V4 55 v w x y<|Y 59 (.rep [0,65,72] z)<|Y 60 (.rep [0,65,72] A)<|V2 61 B C<|k)) (λ_=>(.exit 0,k))) ?_ ?_
 .rintro s3 ao u;refine U<|zo xi<|M<|za<|zd u (λG u=>?_) λG u=>?_
  .refine zk<|zt<|za<|zl<|U<|bB u λN ad u=>z2 (xJ ad) xs<|zs (ya 66)<|zs (yo ck)<|zz<|z3 xf xP xr ?_;refine wo (ah.K_ MK K8 rfl (aV (ai rfl) (bq (di (vf (vf (vf (vf aX.nil))))) (dG (T:=[]) (dg.h N.au)))) (aV (ai rfl) (bq (di (vf (vf (vf (vf aX.nil))))) (dG (T:=[]) (dg.h O)))))<|M<|zd u (λG u=>?_) λG u=>?_
   .refine U<|z4 xf xl xf xl<|bB u λD S u=>?_;exact wo (f:=aa.eV (aa.aK [(true,6,aa.rep [] D.1.J),tr D.1.ee,(true,7,aa.rep [] D.1.X),(false,1,aa.rep [72,0,65] D.1.aE),(true,5,aa.aK [tr D.1.K.bR,tr D.1.K.Seq,tr D.1.K.ca,tr D.1.K.cg,(false,1,aa.rep [72,0,65] D.1.K.j)]),(false,1,aa.rep [72,0,65] D.1.du),tr D.1.Next,tr D.1.eU]) (aa.rep [72,0,65] D.2.1) (aa.rep [] D.2.2)) (ah.Xx (xs:=[.tmp 35]) [0,65] 72 rfl (ai rfl) rfl (Xo N.tf O.L S) (bX.cons (fG (ai rfl)) bX.nil))<|z3 eJ eI eL<|zs (yo dW)<|z2 I I<|M<|zr<|zi<|zR<|zB u
   .exact zk<|zh<|zt<|zb<|z2 xy E<|zw<|zN u
  .exact ze<|zE<|zB u
 .intro _;rcases ae with an|ak
  .have u:=fN u;refine zi<|zR ?_;cases u;exact dL
  .have u:=fI u;refine zj<|zt ?_;exact nomatch u
theorem aar(a0 a1){r}(a:TO a0 a1=some r):CT 74 [.ptr 0 a0,.rep 0 a1] (.gE (gv (.rep 0) (.rep 0) (.rep 0) r.1) (.rep 0 r.2.1) (.own 1 (some 2) 58 r.2.2.1) (.fl r.2.2.2)) [0]:=by
 refine cw [[0,39,42],[40],[41]] func74 λw0 om=>?_;refine U<|zs (yb 10 aA)<|zs (ya 15)<|z3 I I I<|M<|za<|U<|z3 xf xl ym<|M<|zd a (λq a=>?_) λq a=>?_
 .refine za<|bB a λw o a=>?_;refine zQ aI (S:=p6 E xC xp xp xd E<|p6 xC xp xp xd xr (kC [0] 39 (Nc _ _ _ o))<|p4 we x_ yU wa<|aq (sE (kR 15 [_,_,_,_,_,_,_,_,_,_,_,_,_,_,_,_,_,_,_,_,_,_,_,_] (.av 15::(kK 16 23 []))) (yo dW))<|p3 I I I<|aN) (h:=zt<|zr<|zR ?_);cases a;exact pX
 .refine zk<|zt<|za<|bB a λu j a=>?_;refine zQ aI (S:=p6 E xC xp xp xd E<|p6 xC xp xp xd xr (kC [0] 42 (P' _ _ _ j))<|p4 E eJ eI eL<|aq (sE (kR 15 [_,_,_,_,_,_,_,_,_,_,_,_,_,_,_,_,_,_,_,_,_,_,_,_] (.av 15::(kK 16 23 []))) (yo dW))<|p2 I I<|aN) (h:=zt<|zr ?_);cases a;exact pX
theorem VG:C1 172 MS (.kW 0) [0]:=λq r a=>(cv [[0]] func172) λ_ _=>by refine U<|zo I<|zz<|z5 E E xn E xn<|bB a λo j a=>?_;refine wo (ah.Yn j qn.h (ai rfl) (ai rfl) (ai rfl))<|zo I<|M<|zr ?_;cases a;exact az
theorem Wf:C5 121 QU (s2 (.own 0 (some 1) 120)) [1]:=λW Y N L X r a=>(cv [[39],[0,24,25,26,36,37,38,40]] func121) λ_ _=>by refine U<|zs (yb 10 aA)<|zs (yb 17 aA)<|z2 I I<|M<|za<|U<|z2 xr E<|bB a λac z a=>z2 (kC [0] 22 (tH _ _ z)) I<|zz<|z2 E xq<|M<|zx a λj a=>zk<|zt<|U<|z2 xr xr<|bB a λO q a=>z5 (kC [0] 23 (Py _ _ q)) E aC aB I<|zo I<|M<|za<|U<|z2 E xq<|M<|zx a λj a=>zk<|zt<|za<|U<|z3 E xi E<|g4 rfl rfl (λ_=>⟨E,xn,xg,xM⟩)<|zu rfl rfl (λ_=>E)<|zu rfl rfl (λ_=>E)<|zu rfl rfl (λ_=>E)<|zu rfl rfl (λ_=>xn)<|zu rfl rfl (λ_=>xz)<|bB a λQ o a=>zu rfl rfl (λj=>xI (bM o (ib (cS (iw j)) (jr j))))<|zu rfl rfl (λ_=>xp)<|zu rfl rfl (λ_=>xD)<|zu rfl rfl (λ_=>xj)<|zg rfl rfl (λ_=>xW)<|zo xo<|M<|zx a λj a=>zk<|zt<|za<|U<|z3 E xn xe<|M<|zx a λj a=>zk<|zt<|U<|z3 E xn I<|M<|za<|bB a λG D a=>bB a λK C a=>bB a λJ u a=>?_;refine zQ aI (S:=p3 E xr E<|aq (sE [.ae 58 _,.ae 100024 _,.bp 24] (au.oe 24 D rfl rfl de.h AT (ai rfl)))<|o1 E<|aq (sE [.ae 60 _,.ae 100025 _,.bp 25] (au.oe 25 C rfl rfl de.h W8 (ai rfl)))<|o1 E<|aq (sE [.ae 62 _,.ae 100026 _,.bp 26] (au.oe 26 u rfl rfl de.h GJ (ai rfl)))<|o1 bU<|aq (sE (.ae 16 _::(kR 27 [_,_,_,_,_,_,_,_,_] (kK 27 9 []))) (ya 27))<|aq (sE (kR 27 [_,_,_,_,_,_,_,_,_] (.av 27::(kK 28 8 []))) (yo bT))<|aN) (h:=zt<|za<|U<|z3 xf xl xb<|M<|zx a λj a=>zk<|zt<|za<|bB a λaa B a=>bB a λV w a=>bB a λZ A a=>?_);refine zQ aI (S:=p6 E (kC [0] 36 (VG _ B)) xR (xt [0,24,25,26] 37 [(dq.mk N L G K J)]) (ah.yV (T:=[36,0]) (T1:=[37,0,24,25,26]) 38 w rfl de.h (ai rfl) (ai rfl)) (kC [0,24,25,26,36,37,38] 39 (CP _ A))<|p2 I I<|aN) (h:=zt<|zr ?_);cases a;exact bC
theorem UN:C2 71 Qa (λr=>.gE (gv (.rep 0) (.rep 0) (.rep 0) r.1) (.fl r.2.1) (.own 1 (some 2) 58 r.2.2.1) (.fl r.2.2.2)) [0]:=λJ B r a=>(cv [[0,65,66,67,70,71,72,75],[73],[74]] func71) λ_ _=>by refine U<|zs (yb 10 ck)<|zs (yb 34 aA)<|zs (ya 39)<|z3 I I I<|M<|za<|U<|zo xR<|bB a λG z a=>z2 (kC [0] 63 (lv _ z)) I<|zz<|z2 E xq<|M<|zx a λj a=>zk<|zt<|za<|U<|z3 xf xf xl<|M<|zx a λj a=>zk<|zt<|za<|U<|z3 xf xP xr<|bB a λA w a=>z2 (kC [0] 64 (Qg _ _ w)) I<|zz<|z2 E xq<|M<|zx a λj a=>zk<|zt<|za<|U<|z4 xf xl xe E<|g4 rfl rfl (λ_=>⟨xf,xl,xn,xe⟩)<|zo xo<|M<|zx a λj a=>zk<|zt<|za<|bB a λC o a=>?_;refine zQ aI (S:=p4 xR (kC [0] 65 (mw _ o)) xf xl<|aq (sE (kR 39 [_,_,_,_,_,_,_,_,_,_,_,_,_,_,_,_,_,_,_,_,_,_,_,_] (.av 39::(kK 40 23 []))) (yo dW))<|o1 I<|aN) (h:=zt<|za<|U<|z5 xf xP xf xl E<|z5 xr xf xf xl Fc<|bB a λK u a=>z5 (kC [0] 70 (Wf _ _ _ _ _ u)) E aC aB xf<|zs (yt)<|zo I<|zz<|z2 E xq<|M<|zx a λj a=>zk<|zt<|U<|z4 xf xl xy xf<|zs (yt)<|zz<|zo xR<|bB a λD q a=>z4 (kC [0,65,66,67,70,71] 72 (Oa _ q)) E aC aB<|zs (yo dW)<|zo I<|zz<|z3 xR E E<|zs (yo bT)<|z2 I I<|zo I<|M<|zr ?_);cases a;exact pX
end
end
end Go.Proofs.YthpphdegpinepaaGreat
