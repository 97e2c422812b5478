/- Part of the proof of TopAny. -/
import Derived.Test.YthpphdegpinepaaGreatW3
namespace Go.Proofs.YthpphdegpinepaaGreat
open Go GL Tryz
open And renaming left -> iw, right -> jr
open Go.Proofs.Tryz renaming prog -> H
open List renaming mem_or_eq_of_mem_set -> pn
set_option linter.all false
set_option maxRecDepth 100000
set_option maxHeartbeats 20000000
noncomputable section
section
attribute [local irreducible] aO br aH GL.ah GL.au
theorem MR:C2 363 ud (s3 (gv (.own 0 (some 1) 79) (.own 2 none 133) (.rep 3)) (.own 4 (some 5) 233)) [3]:=λbJ af r hm=>(cv [[82,186],[83,187],[84,169],[0,85,86,189],[178],[170,171]] func363) λ_ _=>by
 refine U<|zs (yb 10 ck)<|zs (ya 34)<|z2 I I<|zz<|zo xR ?_;refine il hm (JC bJ af) [1,2,4,48010] (λk (a,b,c,d,e,f,g,h,i,j,l,m,n,o,q,r,t,v,w,x,y,z,A,B)=>W 10 (.aL 88)<|V8 89 a b c d e f g h<|V6 97 i j l m n o<|Y 103 (.ow [82] [83] 79 q)<|V4 104 r t v w<|Y 108 (.ow [84] [] 133 x)<|Y 109 (.ow [85] [0,86] 120 y)<|V2 110 z A<|Y 112 (.dM)<|V 113 B<|O 88 25<|k) func346 cF ?_ ?_
 .refine λaJ=>iu 1 [1,2,4] [48010] ?_;refine U<|zs (yb 58 bT)<|zo I<|M<|za<|bB hm λbM bb hm=>bB hm λbL ba hm=>?_;refine zQ aI (S:=p5 xR (kC [0] 82 (mw _ bb)) xR (kC [0] 87 (lv _ ba)) bU<|aq (sE (.ae 9 _::(kR 88 [_,_,_,_,_,_,_,_,_,_,_,_,_,_,_,_,_,_,_,_,_,_,_,_,_,_] (kK 88 26 []))) (yb 88 dW))<|o1 I<|aN) (h:=zt<|za<|U<|z5 E xc xf xl xe<|zo E<|g3 rfl rfl (λ_=>⟨xf,xf,xl⟩)<|zo xw<|M<|zx hm λu hm=>zk<|zt<|U<|z2 E I<|M<|zr ?_);exact bS (_,_,_,_,_,_,_,_,_,_,_,_,_,_,_,_,_,_,_,_,_,_,_,_) hm
 .rintro⟨ak,am,al,Q,ac,X,ad,ag,an,N,J,K,G,D,ar,aw,ap,az,aE,ay,ao,L,C,_⟩ hm;refine zs (ya 114) ?_;refine ws (au.tZ (i:=0) (f:=aa.aL 88) rfl HY rfl (aV (ai rfl) (Cv.eG rfl)) rfl (One.obj (ai rfl) rfl) (ai rfl) rfl)<|zz<|z5 xl xf xf xl xN ?_;refine il hm (Jp af ak am al Q ac X ad ag an N J K G D ar aw ap az aE ay ao L C) [1,4,7,24034,25088,2114] (λk (a,b)=>Z 16 a<|V 113 b<|k) func340 cF ?_ ?_
  .refine λaJ=>iu 1 [1,4,7] [24034,28088] ?_;refine U<|zo I<|M ?_;refine jn hm (Ck af ak am al Q ac X ad ag an N J K G D ar aw ap az aE ay ao L C) [0,902001,902004,902007,24034,25088,2114] (λk p=>V 113 p<|k) ?_ ?_
   .rintro b4 hm;exact U<|z5 E xc xf xl xe<|zo I<|M<|zr<|bS (_,_) hm
   .refine U<|z5 E xc xf xl xe<|zo E<|g2 rfl rfl (λ_=>⟨E,xN⟩)<|zo xw<|M<|zd hm (λu hm=>?_) λu hm=>?_
    .exact zb<|z4 E E xc xf<|zs (yt)<|zw<|zJ _ hm
    .exact zk<|zJ _ hm
  .rintro⟨_,bw⟩ hm;refine zz<|z5 xl xc xf xf xf<|zo xl<|zs (ya 116)<|zs (yt)<|zz<|z3 xl E xF ?_;refine il hm (rH af ak am al Q ac X ad ag an N J K G D ap ao L C) [1,4,7,8,24034,15088,3109,4114] (λk (a,b,c,d,e,f,g,h)=>W 26 (.top)<|Y 103 (.ow [82,186] [83,187] 79 a)<|V4 104 b c d e<|Y 108 (.ow [84,169] [] 133 f)<|Y 112 (.ow [178] [170,171] 233 g)<|V 113 h<|k) func350 cF ?_ ?_
   .refine λaJ=>iu 1 [1,4,7,8] [24034,30088] ?_;refine U<|z2 E E ?_;refine il hm (AE af ak am al Q ac X ad ag an N J K G D ar aw ap az aE ay ao L C bw) [0,1,2,3,902001,902004,902007,902008,24034,30088] (λk (a,b,c,d,e,f,g)=>W 17 (.cP (aa.aK [tr a,(false,1,aa.rep [83] b),(false,1,aa.rep [83] c),tr d,tr e,tr f]) (R1 g))<|k) func347 cF ?_ ?_
    .refine λaH=>iu 2 [0,1,2,3] [902001,902004,902007,902008,24034,30088] ?_;refine U<|zs (ya 118)<|zo I<|M<|za<|bB hm λbZ bc hm=>?_;refine zQ aI (S:=p6 E xc xf xf xP E<|p6 xc xf xf xl E (kC [82,83] 125 (pA _ _ _ bc))<|p5 E aC aB I I<|aN) (h:=zt<|za<|U<|z2 E xq<|M<|zd hm (λu hm=>?_) λu hm=>?_)
     .exact U<|zo bU<|zs (yo aF)<|zo I<|M<|zr<|zR<|dU (_,_,_,_,_,_,_) hm
     .exact zk<|zt<|U<|z5 E xc xf xf xl<|zo E<|bB hm λbO bl hm=>z2 (xJ bl) xs<|zs (yo aA)<|zo I<|M<|zr<|dU (_,_,_,_,_,_,_) hm
    .rintro⟨a_,aU,aY,a5,aM,a',_⟩ hm;refine z3 E aC aB<|zs (ya 126)<|zs (yo aF)<|zo I<|M ?_;refine jn hm (Bu af ak am al Q ac X ad ag an N J K G D ar aw ap az aE ay ao L C) [0,3,8,902001,902004,902007,902008,24034,25088,4114,1126] (λk (a,b,c,d,e,f,g)=>V 113 a<|V 127 b<|Y 128 (.rep [83,134] c)<|Y 129 (.rep [83,135] d)<|V3 130 e f g<|k) ?_ ?_
     .rintro⟨a1,_,_,_,_,_,_⟩ hm;refine U<|z2 E xr ?_;refine il hm (uH af ak am al Q ac X ad ag an N J K G D ar ap ao L C a1) [0,902001,902004,902007,902008,24034,16088,3109,5113] (λk (a,b,c,d,e,f,g,h,i,j,l,m,n)=>W 60 (.cP (aa.aK [tr a,(false,1,aa.rep [83,134,150,151] b),(false,1,aa.rep [83,135,152] c),tr d,tr e,tr f]) (R1 g))<|V4 104 h i j l<|Y 108 (.ow [84,169] [] 133 m)<|Y 112 (.ow [178] [170,171] 233 n)<|k) func373 cV ?_ ?_
      .refine λaH=>iu 2 [0] [902001,902004,902007,902008,24034,30088] ?_;refine U<|zs (yb 136 aF)<|zs (ya 143)<|zo I<|M<|za<|bB hm λbE bg hm=>?_;refine zQ aI (S:=p6 xl xc xf xf xP xr<|p5 xl (kC [83,134,135] 150 (SS _ _ _ bg)) E aC aB<|aq (sE (.ae 6 _::(kR 153 [_,_,_,_,_,_,_] (kK 153 7 []))) (ya 153))<|aq (sE (kR 153 [_,_,_,_,_,_,_] (.av 153::(kK 154 6 []))) (yo aF))<|o1 I<|aN) (h:=zt<|za<|U<|z2 E xq<|M<|zd hm (λu hm=>?_) λu hm=>?_)
       .exact U<|z2 xr E<|zs (yo aF)<|zo I<|M<|zr<|zR<|dU (_,_,_,_,_,_,_,_,_,_,_,_,_) hm
       .refine zk<|zt<|za<|bB hm λb2 bn hm=>?_;refine zQ aI (S:=p6 xl xc xf xf xP xr<|p4 (kC [83,134,135] 160 (LK _ _ bn)) E aC aB<|aq (sE (.ae 8 _::(kR 164 [_,_,_,_,_] (kK 164 5 []))) (ya 164))<|aq (sE (kR 164 [_,_,_,_,_] (.av 164::(kK 165 4 []))) (yo aF))<|o1 I<|aN) (h:=zt<|za<|bB hm λbG bm hm=>?_);refine zQ aI (S:=p6 xl xc xf xf xP xl<|p6 xc xf xf xP xr (kC [84,160,161,162,163] 169 (Mp _ _ _ bm))<|p4 E eJ eI eL<|aq (sE (.ae 10 _::(kR 172 [_,_,_,_,_,_] (kK 172 6 []))) (ya 172))<|aq (sE (kR 172 [_,_,_,_,_,_] (.av 172::(kK 173 5 []))) (yo aF))<|p2 I I<|aN) (h:=zt<|U<|z5 xl xr xc xf xf<|zs (yS 15 20 (hx:=aF))<|zz<|z2 xl E ?_);refine il hm (BV af ak am al Q ac X ad ag an N J K G D ar ap ao L C a1 bE bG) [4,6,7,902001,902004,902007,902008,904000,24034,24088,5113,7143,7153] (λk p=>W 60 (.top)<|Y 112 (.ow [178] [170,171] 233 p)<|k) func354 cF ?_ ?_
        .refine λb7=>iu 3 [4,6,7] [902001,902004,902007,902008,904000,24034,30088,7143,7153] ?_;refine zb<|z5 E E xc xf xl<|zo E<|bB hm λb6 bi hm=>z3 (xv [170,171] 178 bi) xc xf<|zs (yt)<|zw ?_;exact eW (dK _ hm)
        .rintro b5 hm;exact zz<|z2 xr E<|zs (yo aF)<|zo I<|M<|zr<|dU (_,_,_,_,_,_,_,_,_,_,_,_,_) hm
      .rintro⟨a6,aO,a3,a2,a7,aR,_,a9,aZ,aQ,a4,a0,a8⟩ hm;refine z3 E aC aB<|zs (ya 179)<|zs (yo aF)<|zo I<|zz<|z4 E E xe E ?_;refine il hm (Di af ak am al Q ac X ad ag an N J K G D ar ap ao L C a6 aO a3 a2 a7 aR a9 aZ aQ a4 a0 a8) [0,12,902001,902004,902007,902008,24034,25088,4114,7179] (λk (a,b)=>Z 67 a<|V 113 b<|k) func340 cF ?_ ?_
       .refine λaH=>iu 2 [0,12] [902001,902004,902007,902008,24034,30088,7179] ?_;refine U<|zo I<|M ?_;refine jn hm (yN af ak am al Q ac X ad ag an N J K G D ar ap ao L C a6 aO a3 a2 a7 aR a9 aZ aQ a4 a0 a8) [0,902001,902004,902007,902008,904000,904012,24034,25088,4114,7179] (λk p=>V 113 p<|k) ?_ ?_
        .rintro b0 hm;exact U<|z5 E xc xf xl xe<|zo I<|M<|zr<|bS (_,_) hm
        .refine U<|z5 E xc xf xl xe<|zo E<|g2 rfl rfl (λ_=>⟨E,xN⟩)<|zo xw<|M<|zd hm (λu hm=>?_) λu hm=>?_
         .exact zb<|z4 E E xc xf<|zs (yt)<|zw<|zJ _ hm
         .exact zk<|zJ _ hm
       .rintro⟨_,_⟩ hm;refine M<|zd hm (λu hm=>?_) λu hm=>?_
        .refine bB hm λbV bs hm=>?_;refine zQ aI (S:=p6 E E xc xf xf xP<|p6 E xc xf xf xl xr<|p6 (kC [82,83,134,135,150,151,152] 186 (vF _ _ _ bs)) E aC aB xc xf<|o1 xf<|aq (sE [.ae 100103 _,.ae 100088 _,.av 88,.bp 103] (yt))<|aN) (h:=?_);exact eW (dK (_,_,_,_,_,_,_,_) hm)
        .refine zk ?_;exact eW (dK (_,_,_,_,_,_,_,_) hm)
     .refine U<|z3 E xN E<|zg rfl rfl (λ_=>E)<|zo xw<|M<|zd hm (λu hm=>?_) λu hm=>?_
      .refine za<|bB hm λb3 be hm=>?_;refine zQ aI (S:=p6 E xc xf xf xP E<|p6 xc xf xf xl (kC [82,83] 133 (vM _ _ be)) E<|p4 aC aB I I<|aN) (h:=zt<|za<|U<|z2 E E ?_);refine il hm (MQ af ak am al Q ac X ad ag an N J K G D ar aw ap az aE ay ao L C) [0,1,3,8,902001,902004,902007,902008,24034,25088,4114,7126] (λk (a,b)=>Z 41 a<|V 113 b<|k) func340 cF ?_ ?_
       .refine λaH=>iu 2 [0,1,3,8] [902001,902004,902007,902008,24034,30088,7126] ?_;refine U<|zo I<|M ?_;refine jn hm (Gq af ak am al Q ac X ad ag an N J K G D ar aw ap az aE ay ao L C) [0,902001,902004,902007,902008,904000,904001,904003,904008,24034,25088,4114,7126] (λk p=>V 113 p<|k) ?_ ?_
        .rintro bQ hm;exact U<|z5 E xc xf xl xe<|zo I<|M<|zr<|bS (_,_) hm
        .refine U<|z5 E xc xf xl xe<|zo E<|g2 rfl rfl (λ_=>⟨E,xN⟩)<|zo xw<|M<|zd hm (λu hm=>?_) λu hm=>?_
         .exact zb<|z4 E E xc xf<|zs (yt)<|zw<|zJ _ hm
         .exact zk<|zJ _ hm
       .rintro⟨_,_⟩ hm;refine zo xN<|M<|zd hm (λu hm=>?_) λu hm=>?_
        .exact zr<|zR<|zR<|dK (_,_,_,_,_,_,_,_) hm
        .exact zk<|zt<|zb<|z5 E xc xf xf xP<|zo E<|bB hm λb1 br hm=>z4 (kC [] 134 (wi _ _ br)) E aC aB<|zs (yo aF)<|zw<|zJ (_,_,_,_,_,_,_) hm
      .refine U<|z2 E E ?_;refine il hm (GK af ak am al Q ac X ad ag an N J K G D ar aw ap az aE ay ao L C a_ aU aY a5 aM a') [0,3,8,902001,902004,902007,902008,24034,25088,4114,7126] (λk (a,b)=>Z 55 a<|V 113 b<|k) func340 cF ?_ ?_
       .refine λaH=>iu 2 [0,3,8] [902001,902004,902007,902008,24034,30088,7126] ?_;refine U<|zo I<|M ?_;refine jn hm (AW af ak am al Q ac X ad ag an N J K G D ar aw ap az aE ay ao L C a_ aU aY a5 aM a') [0,902001,902004,902007,902008,904000,904003,904008,24034,25088,4114,7126] (λk p=>V 113 p<|k) ?_ ?_
        .rintro bR hm;exact U<|z5 E xc xf xl xe<|zo I<|M<|zr<|bS (_,_) hm
        .refine U<|z5 E xc xf xl xe<|zo E<|g2 rfl rfl (λ_=>⟨E,xN⟩)<|zo xw<|M<|zd hm (λu hm=>?_) λu hm=>?_
         .exact zb<|z4 E E xc xf<|zs (yt)<|zw<|zJ _ hm
         .exact zk<|zJ _ hm
       .rintro⟨_,_⟩ hm;refine zo xN<|M<|zd hm (λu hm=>?_) λu hm=>?_
        .exact zr<|zR<|dK (_,_,_,_,_,_,_,_) hm
        .exact zk<|zJ (_,_,_,_,_,_,_) hm
   .rintro⟨bv,bC,bI,bz,bH,bA,bD,_⟩ hm;refine M ?_;refine jn hm (yE ak am al Q ac X ad ag an N J K G D L C bv bC bI bz bH bA bD) [4,7,24034,21088,3110,2114] (λk (a,b)=>Y 109 (.rep [0,85,86,189] a)<|V 113 b<|k) ?_ ?_
    .rintro⟨_,_⟩ hm;refine U<|zo xl ?_;refine il hm wX [4,24034] (λk (a,b,c,d,e,f,g,h,i,j,l,m,n,o)=>W 62 (.eV (aa.aK [(true,6,aa.rep [] a),tr b,(true,7,aa.rep [] c),(false,1,aa.ow [82,186] [83,187] 79 d),(true,5,aa.aK [tr e,tr f,tr g,tr h,(false,1,aa.ow [84,169] [] 133 i)]),(false,1,aa.rep [0,85,86,189] j),tr l,tr m]) (aa.ow [178] [170,171] 233 n) (R1 o))<|k) func339 cF ?_ ?_
     .refine λaJ=>iu 1 [4] [24034,26088] ?_;refine U<|zs (ya 190)<|z2 I I<|M<|za<|U<|z5 E xc xf xl xq<|M<|zd hm (λu hm=>?_) λu hm=>?_
      .refine za ?_;refine zQ aI (S:=p5 bU E xc xf xl<|aq (sE (kR 190 [_,_,_,_,_,_,_,_,_,_,_,_,_,_,_,_,_,_,_,_,_,_,_,_] (.av 190::(kK 191 23 []))) (yo bT))<|p2 I I<|aN) (h:=zt<|zr<|zR ?_);exact jo (_,_,_,_,_,_,_,_,_,_,_,_,_,_) hm
      .refine zk<|zt<|za ?_;refine zQ aI (S:=p6 E xc xf hX E xc<|p2 xf xl<|aq (sE (kR 190 [_,_,_,_,_,_,_,_,_,_,_,_,_,_,_,_,_,_,_,_,_,_,_,_] (.av 190::(kK 191 23 []))) (yo bT))<|p2 I I<|aN) (h:=zt<|zr ?_);exact jo (_,_,_,_,_,_,_,_,_,_,_,_,_,_) hm
     .rintro⟨_,_,_,_,_,_,_,_,_,_,_,_,_,_⟩ hm;refine z3 eJ eI eL<|zs (yo dW)<|z2 I I<|M<|zr ?_;cases hm;exact dL
    .refine U<|z5 xl xc xf xl xe<|M<|zd hm (λu hm=>?_) λu hm=>?_
     .refine bB hm λbN bd hm=>bB hm λbP bq hm=>?_;exact zQ aI (S:=p6 xl xl xl xc xf xf<|p6 xP xl xc xf xf xl<|p6 xl xc xf xf xP E<|p6 (kC [] 188 (Zw _ _ bd)) xl (kC [0,85,86,188] 189 (Xy _ _ _ _ bq)) E aC aB<|p3 xc xf xf<|aq (sE [.ae 100109 _,.ae 100088 _,.av 88,.bp 109] (yt))<|p2 xc xf<|aq (sE [.ae 100113 _,.ae 100088 _,.av 88,.bp 113] (yt))<|aN) (h:=zJ (_,_) hm)
     .exact zk<|zJ (_,_) hm
theorem Z2:C2 360 Ef .fl:=λD A r a=>(cv [[]] func360) λ_ _=>by
 refine U<|zs (yb 10 aA)<|zs (yb 15 ck)<|zo I<|zz<|z3 xR xf xl<|bB a λC w a=>z4 (kC [0] 39 (OC _ _ w)) E aC aB<|zs (ya 40)<|zs (yo aF)<|zo I<|M<|za<|zl<|U<|z3 E xN I<|M<|zx a λj a=>U<|z4 xf xl xb I<|M<|zd a (λj a=>?_) λj a=>?_
 .refine U<|z4 xf xl xb E<|g2 rfl rfl (λ_=>⟨xf,xl⟩)<|bB a λz u a=>zg rfl rfl (λj=>kC [0,39] 47 (px _ _ (bM u j)))<|z2 xw I<|M<|zr<|zi<|zR ?_;cases a;exact az
 .refine U<|z4 xf xl xb I<|M<|zd a (λj a=>?_) λj a=>?_
  .refine U<|z4 xf xl xb E<|g4 rfl rfl (λ_=>⟨xf,xl,xb,xM⟩)<|zu rfl rfl (λ_=>xR)<|bB a λB o a=>zu rfl rfl (λj=>kC [0] 48 (A4 _ (bM o (ib (cS (iw j)) (jr j)))))<|zu rfl rfl (λ_=>xN)<|zg rfl rfl (λ_=>xW)<|z2 xo I<|M<|zr<|zi<|zR ?_;cases a;exact az
  .refine zk<|zh<|zt<|U<|z3 xR xf xl<|bB a λG q a=>z5 (kC [0] 49 (MR _ _ q)) E eJ eI eL<|zs (ya 55)<|zs (yo dW)<|z2 I I<|zz<|z3 E xe I<|M<|zr ?_;cases a;exact az
theorem Y6(a0 a1){r}(a:F6 a0 a1=some r):CT 295 [.rep 0 a0,.fn H jE 0 a1] (.fl r) []:=by
 refine cw [[]] func295 λw0 om=>?_;refine U<|zo I<|M<|za<|U<|z3 E xn E<|M<|zl<|bB a λw q a=>?_;refine lp q [0,1,7] (λk s=>Z 8 s<|k) (λk=>Sum.elim (λb=>(.ret,Z 4 b<|k)) (λ_=>(.exit 0,k))) ?_ ?_
 .rintro z B a;refine U<|zo xi<|M<|za<|zd a (λj a=>?_) λj a=>?_
  .refine zk<|zt<|za<|zl<|U<|z2 E I<|zz<|z3 E E E<|bB a λA o a=>z2 (xI o) xD<|bB a λD u a=>zo (lh [] 10 u)<|M<|zd a (λj a=>?_) λj a=>?_
   .exact U<|z2 E I<|M<|zr<|zi<|zR<|zB a
   .exact zk<|zh<|zt<|zb<|z2 xy E<|zw<|zN a
  .exact ze<|zE<|zB a
 .intro _;rcases w with C|G
  .have a:=fN a;refine zi<|zR ?_;cases a;exact az
  .have a:=fI a;refine zj<|zt<|U<|zo I<|M<|zr ?_;cases a;exact az
theorem HX(a0 a1){r}(a:yC a0 a1=some r):CT 272 [.rep 0 a0,.fn H jE 0 a1] (.fl r) []:=by refine cw [[]] func272 λw0 om=>?_;refine U<|zo I<|zz<|z2 E E<|bB a λo j a=>z3 (kC [0] 10 (Y6 _ _ j)) xh I<|M<|zr ?_;cases a;exact az
theorem Tz:C1 406 Kr .fl:=λj r a=>(cv [[]] func406) λ_ _=>by refine U<|zs (yb 10 aA)<|zo I<|zz<|z4 xf xl xN I<|M<|zr ?_;cases a;exact az
theorem Ru:C1 407 NI .fl:=λj r a=>(cv [[]] func407) λ_ _=>by refine U<|zs (yb 10 aA)<|zo I<|zz<|z4 xf xl xb I<|M<|zr ?_;cases a;exact az
theorem ZC:C2 402 Cf .fl:=λJ B r a=>(cv [[]] func402) λ_ _=>by
 refine U<|zs (yb 10 aA)<|zs (yb 15 ck)<|zo I<|M<|za<|U<|z2 xf xl<|M<|zl<|U<|z2 xb I<|M<|zd a (λj a=>?_) λj a=>?_
 .refine U<|zo xR<|bB a λG z a=>z2 (kC [0] 39 (A4 _ z)) E<|g3 rfl rfl (λ_=>⟨xf,xf,xl⟩)<|bB a λA w a=>zg rfl rfl (λj=>kC [0] 40 (HX _ _ (bM w j)) (H2 (ma λy _=>@Tz y _)))<|z2 xw I<|M<|zr<|zi<|zR ?_;cases a;exact az
 .refine U<|z2 xb I<|M<|zd a (λj a=>?_) λj a=>?_
  .refine U<|z2 xf xl<|bB a λC o a=>z2 (kC [0] 41 (Gw _ _ o) (H2 (ma λy _=>@Ru y _))) I<|M<|zr<|zi<|zR ?_;cases a;exact az
  .refine zk<|zh<|zt<|U<|zo xR<|bB a λK u a=>z2 (kC [0] 42 (A4 _ u)) E<|g4 rfl rfl (λ_=>⟨xf,xf,xl,xn⟩)<|zg rfl rfl (λ_=>xg)<|z2 xw E<|g3 rfl rfl (λ_=>⟨xf,xf,xl⟩)<|bB a λD q a=>zg rfl rfl (λj=>xI (bM q j))<|g2 rfl rfl (λ_=>⟨xp,xD⟩)<|z2 xw I<|M<|zr ?_;cases a;exact az
theorem Nt(m:gQ [243,245,247] au)(j:N){r:Bool}(a:mC m j=some r):∃k,([330,360,402]:List FuncId)[m.i]? =some k/\enters H k=true/\gl H k [.rep 0 m.x, .rep 0 j] (.fl r) []:=by
 obtain⟨i,x⟩:=m
 match i,a with
 |0,a=>exact⟨330,rfl,(by kernel_rfl),Z5 x j a⟩
 |1,a=>exact⟨360,rfl,(by kernel_rfl),Z2 x j a⟩
 |2,a=>exact⟨402,rfl,(by kernel_rfl),ZC x j a⟩
 |_+3,a=>cases a
theorem U6(a0 a1){r}(a:qV a0 a1=some r):CT 145 [.rep 0 a0,.ptr 0 a1] (.fl r) []:=by refine cw [[]] func145 λw0 om=>?_;refine U<|zo I<|zz<|z2 E xd<|bB a λo j a=>?_;refine wo (f:=aa.rep [] (o:Bool)) (ah.FW (xs:=[.tmp 5]) [0] 10 rfl Mo (ai rfl) (Nt a0 a1 j) (bX.cons (Has.m (ai rfl) rfl) bX.nil))<|z2 xN I<|M<|zr ?_;cases a;exact az
theorem Ll:C1 92 v5 (.own 0 none 171):=λo r j=>(cv [[34,38]] func92) λ_ _=>by
 refine U<|zs (yb 10 ck)<|zo I<|M<|za<|U<|z3 xf xf xl<|M<|zx j λq j=>zk<|zt<|U<|zo xR<|bB j λan O j=>z2 (kC [0] 34 (Zb _ O)) xF ?_;refine il j Em [] (λk p=>W 9 (.ow [34,38] [] 171 p)<|k) func143 cF ?_ ?_
 .refine λag=>iu 1 [] [24010] ?_;refine U<|zo I<|zz<|z2 E E<|bB j λak L j=>z2 (kC [0,10,34] 35 (LZ _ _ L) (H2 (j0 rfl (jT λy _=>@U6 y o _)))) I<|M<|za<|U<|z2 E xe<|M<|zd j (λq j=>?_) λq j=>?_
  .exact U<|z2 E I<|M<|zr<|zR<|bS _ j
  .refine zk<|zt<|za<|U<|z3 E xy I<|M<|zl<|bB j λV C j=>?_;refine lp C [1,24010] (λk (a,b,c)=>W 0 (.ow [34,37] [] 171 a)<|Z 5 b<|Z 6 c<|k) (λk (a,b)=>(.exit 0,W 0 (.ow [34,37] [] 171 a)<|Z 5 b<|k)) ?_ ?_
   .rintro⟨S,Q,z⟩ af j;refine za<|U<|z4 E E xn xi<|M<|zd j (λq j=>?_) λq j=>?_
    .refine zk<|zt ?_;refine jn j (AQ z) [1,6,24010] (λk (a,b)=>W 0 (.ow [34,37] [] 171 a)<|Z 5 b<|k) ?_ ?_
     .rintro⟨_,_⟩ j;exact zb<|z3 E xy I<|zw<|zN j
     .refine zl<|U<|z2 E E<|bB j λw G j=>z3 (xJ G) xS I<|zz<|z2 E E ?_;refine il j (JP S Q z w) [0,1,5,6,7,24010] (λk p=>Z 28 p<|k) func145 cV ?_ ?_
      .refine λam=>iu 2 [0,1,5,6,7] [24010] ?_;refine U<|zo I<|zz<|z2 E xR<|bB j λN D j=>?_;exact wo (f:=aa.rep [] (N:Bool)) (ah.FW (xs:=[.tmp 5]) [0] 36 rfl Mo (ai rfl) (Nt w o D) (bX.cons (Has.m (aV (ai rfl) (bq (di (aX.cons (bq (bq (di (vf (vf (vf (vf (vf (vf aX.nil))))))) (dG (T:=[]) (dg.h o.J))) Cv.fl) (vf (aX.cons (bq (bq (di (vf (vf (vf (vf (vf (vf (vf aX.nil)))))))) (dG (T:=[]) (dg.h o.X))) Cv.fl) (aX.cons (Cv.m rfl) (aX.cons (bq (bq (di (vf (vf (vf (vf (aX.cons (Cv.m rfl) aX.nil)))))) (dG (T:=[0]) (dg.h o.K))) (Cv.m rfl)) (aX.cons (Cv.m rfl) (vf (vf aX.nil))))))))) (dG (T:=[0]) (dg.h o)))) rfl) bX.nil))<|z2 xN I<|M<|zr<|bS _ j
      .rintro Y j;refine zo xN<|M<|zd j (λq j=>?_) λq j=>?_
       .refine za ?_;exact ei (Ad.ow (s:=0) 37 rfl rfl ev.flat rfl (Cv.d_ (T:=[34,37]) (te:=[]) (T':=[34,37]) (te':=[]) rfl))<|zb<|z3 E E E<|bB j λae u j=>zo (xu u)<|zs (yW [] u)<|M<|zb<|z3 E xy I<|zw<|zh<|zJ (_,_) j
       .exact zk<|zh<|zJ (_,_) j
    .exact ze<|zE<|zB j
   .intro _;refine zj<|zt<|za ?_;refine ei (Ad.ow (s:=0) 38 rfl rfl ev.flat rfl (Cv.d_ (T:=[34,37]) (te:=[]) (T':=[34,37]) (te':=[]) rfl))<|zb<|z2 E E<|bB j λad A j=>?_;refine wo (ah.Gm A de.h (ai rfl) rfl (ai rfl)) ?_;refine ws (au.F9 (te':=[]) de.h VP rfl (ai rfl) rfl cC.flat)<|zz<|z2 E E<|bB j λac B j=>?_;exact wo (ah.Ho B de.h (aV (ai rfl) (Cv.qd rfl)) (ai rfl))<|zo I<|M<|zr<|bS _ j
 .rintro al j;refine zo I<|M<|zr ?_;cases j;exact az
theorem Mf:C1 93 Bq .fl:=λo r a=>(cv [[]] func93) λ_ _=>by
 refine U<|zs (ya 10)<|M<|za<|U<|zo E ?_;refine wo (ah.Gf (n:=0) rfl M3 Yz (ai rfl))<|z3 E aC aB<|zs (ya 15)<|zs (yo aA)<|zo I<|zz<|zo E<|M<|zd a (λj a=>?_) λj a=>?_
 .refine U<|zo xr<|zs (yo aF)<|M<|zr<|zR ?_;cases a;exact az
 .refine zk<|zt<|za<|U<|zo E ?_;refine wo (ah.Gf (n:=1) rfl Qj V1 (ai rfl))<|z3 E aC aB<|zs (ya 20)<|zs (yo aA)<|zo I<|zz<|zo E<|M<|zd a (λj a=>?_) λj a=>?_
  .refine U<|zo xr<|zs (yo aF)<|M<|zr<|zR ?_;cases a;exact az
  .refine zk<|zt<|U<|zo E ?_;refine wo (ah.Gf (n:=2) rfl NT TQ (ai rfl))<|z3 E aC aB<|zs (ya 25)<|zs (yo aA)<|zo I<|zz<|zo xr<|zs (yo aF)<|M<|zr ?_;cases a;exact az
theorem Uc:C1 43 As (s2 (.own 0 none 145)):=λN r j=>(cv [[38]] func43) λ_ _=>by
 refine U<|zs (yb 10 ck)<|z2 I I<|M<|za<|U<|zo xR<|bB j λK u j=>z2 (kC [0] 34 (lv _ u)) I<|zz<|z2 E xq<|M<|zx j λo j=>zk<|zt<|U<|zo I<|M<|za<|U<|zo xR<|bB j λD z j=>z3 (kC [0] 35 (Ll _ z)) xn E<|M<|zl<|bB j λG B j=>?_;refine lp B [14,15] (λk (a,b)=>W 5 (.ow [38] [] 145 a)<|Z 16 b<|k) (λk b=>(.exit 0,W 5 (.ow [38] [] 145 b)<|k)) ?_ ?_
 .rintro⟨_,_⟩ C j;refine U<|zo xi<|M<|za<|zd j (λo j=>?_) λo j=>?_
  .exact zk<|zt<|za<|zl<|U<|bB j λO A j=>z3 (xJ A) xS I<|M<|zb<|z2 E E<|bB j λJ q j=>z2 (kC [] 36 (Mf _ q)) (xt [] 37 [_])<|bB j λL w j=>zs (yA [] w)<|zo I<|zw<|zh<|zt<|zb<|zo xy<|zo E<|zw<|zN j
  .exact ze<|zE<|zB j
 .intro _;refine zj<|zt<|U<|z3 E I I<|M<|zr ?_;cases j;exact bC
theorem SP:C2 134 w_ .fl:=λA w r a=>(cv [[]] func134) λ_ _=>by
 refine U<|zs (yb 10 ck)<|zo I<|zz<|z5 xf xP xf xl E<|bB a λz o a=>z5 (kC [0] 34 (pA _ _ _ o)) E aC aB I<|zo I<|M<|za<|U<|z2 E xq<|M<|zd a (λq a=>?_) λq a=>?_
 .refine U<|zo I<|M<|zr<|zR ?_;cases a;exact az
 .refine zk<|zt<|U<|z3 xf xl E<|bB a λu j a=>z4 (xI j) xp xD I<|M<|zr ?_;cases a;exact az
theorem MU:C1 94 ni (.own 0 (some 1) 179) [1]:=λa r j=>(cv [[46],[0,45,47]] func94) λ_ _=>by
 refine U<|zs (yb 10 ck)<|zo I<|zz<|z3 xf xf xP<|zs (ya 35)<|zs (yo aF)<|M<|za<|U<|z3 xf xl E<|g3 rfl rfl (λ_=>⟨xf,xl,xN⟩)<|zo xo<|M<|zd j (λo j=>?_) λo j=>?_
 .refine zr<|zR ?_;cases j;exact az
 .refine zk<|zt ?_;refine jn j (uY a) [1,3,33010] (λk p=>W 2 (.ow [46] [0,45] 179 p)<|k) ?_ ?_
  .rintro A j;refine jn j yL [] (λk p=>W 2 (.ow [46] [0,45,47] 179 p)<|k) ?_ ?_
   .rintro D j;refine zr ?_;cases j;exact az
   .refine U<|z5 xf xl xf xl xi<|M<|zd j (λo j=>?_) λo j=>?_
    .refine zb<|zo E ?_;refine wo (ah.build (us:=[(0, .const (.int .u8 9))]) (ls':=[tr ((9:UInt8):UInt8),tr ((0:Int):Int),tr ((0:Int):Int),tr ((0:Int):Int)]) dV.h rfl (BP.cons rfl rfl (Has.u8 9 rfl) (Has.u8 9 rfl) BP.nil))<|z2 xR xF ?_;exact wo (ah.build (us:=[(0, .tmp 50),(1, .tmp 52)]) (ls':=[(true,4,aa.aK [tr ((9:UInt8):UInt8),tr ((0:Int):Int),tr ((0:Int):Int),tr ((0:Int):Int)]),(false,1,aa.rep [0] ((⟨2,a⟩:kM [146,147] g6):kM [146,147] g6))]) dV.h rfl (BP.cons rfl rfl (aV (ai rfl) (bq (di (vf (vf (vf (vf aX.nil))))) (dG (T:=[]) (dg.h (au.mk (9:UInt8) (0:Int) (0:Int) (0:Int)))))) (ai rfl) (BP.cons rfl rfl (aV (ai rfl) (Cv.zP (ks:=[146,147]) (n:=2) rfl (bq (di (aX.cons (bq (bq (di (aX.cons (bq (bq (di (vf (vf (vf (vf (vf (vf aX.nil))))))) (dG (T:=[]) (dg.h a.d.J))) Cv.fl) (vf (aX.cons (bq (bq (di (vf (vf (vf (vf (vf (vf (vf aX.nil)))))))) (dG (T:=[]) (dg.h a.d.X))) Cv.fl) (aX.cons (Cv.m rfl) (aX.cons (bq (bq (di (vf (vf (vf (vf (aX.cons (Cv.m rfl) aX.nil)))))) (dG (T:=[0]) (dg.h a.d.K))) (Cv.m rfl)) (aX.cons (Cv.m rfl) (vf (vf aX.nil))))))))) (dG (T:=[0]) (dg.h a.d))) (Cv.m rfl)) (aX.cons (Cv.m rfl) aX.nil))) (dG (T:=[0]) (dg.h a))))) (aV (ai rfl) (Cv.zP (ks:=[146,147]) (n:=2) rfl (bq (di (aX.cons (bq (bq (di (aX.cons (bq (bq (di (vf (vf (vf (vf (vf (vf aX.nil))))))) (dG (T:=[]) (dg.h a.d.J))) Cv.fl) (vf (aX.cons (bq (bq (di (vf (vf (vf (vf (vf (vf (vf aX.nil)))))))) (dG (T:=[]) (dg.h a.d.X))) Cv.fl) (aX.cons (Cv.m rfl) (aX.cons (bq (bq (di (vf (vf (vf (vf (aX.cons (Cv.m rfl) aX.nil)))))) (dG (T:=[0]) (dg.h a.d.K))) (Cv.m rfl)) (aX.cons (Cv.m rfl) (vf (vf aX.nil))))))))) (dG (T:=[0]) (dg.h a.d))) (Cv.m rfl)) (aX.cons (Cv.m rfl) aX.nil))) (dG (T:=[0]) (dg.h a))))) BP.nil)))<|zo (xt [0] 47 [(kV.mk (au.mk (9:UInt8) (0:Int) (0:Int) (0:Int)) (⟨2,a⟩:kM [146,147] g6))])<|bB j λB q j=>zs (yA [0,45,47] q)<|zo I<|zw<|zJ _ j
    .exact zk<|zJ _ j
  .refine U<|z3 xf xf xP<|bB j λG w j=>z5 (kC [] 43 (lJ _ w)) E aC aB I<|zo I<|zz<|z5 xf xl E xi E<|g4 rfl rfl (λ_=>⟨xf,hX,xf,xl⟩)<|bB j λC u j=>zg rfl rfl (λo=>kC [0] 44 (SP _ _ (bM u o)))<|zg rfl rfl (λ_=>xb)<|zo xw<|M<|zd j (λo j=>?_) λo j=>?_
   .refine zb<|z3 E xf xl ?_;refine wo (ah.build (us:=[(0, .const (.int .u8 8)),(3, .tmp 37)]) (ls':=[tr ((8:UInt8):UInt8),tr ((0:Int):Int),tr ((0:Int):Int),tr a.d.X.Pos]) dV.h rfl (BP.cons rfl rfl (Has.u8 8 rfl) (Has.u8 8 rfl) (BP.cons rfl rfl (ai rfl) (ai rfl) BP.nil)))<|z2 xR xF ?_;exact wo (ah.build (us:=[(0, .tmp 38),(1, .tmp 40)]) (ls':=[(true,4,aa.aK [tr ((8:UInt8):UInt8),tr ((0:Int):Int),tr ((0:Int):Int),tr a.d.X.Pos]),(false,1,aa.rep [0] ((⟨1,a⟩:kM [146,147] g6):kM [146,147] g6))]) dV.h rfl (BP.cons rfl rfl (aV (ai rfl) (bq (di (vf (vf (vf (vf aX.nil))))) (dG (T:=[]) (dg.h (au.mk (8:UInt8) (0:Int) (0:Int) a.d.X.Pos))))) (ai rfl) (BP.cons rfl rfl (aV (ai rfl) (Cv.zP (ks:=[146,147]) (n:=1) rfl (bq (di (aX.cons (bq (bq (di (aX.cons (bq (bq (di (vf (vf (vf (vf (vf (vf aX.nil))))))) (dG (T:=[]) (dg.h a.d.J))) Cv.fl) (vf (aX.cons (bq (bq (di (vf (vf (vf (vf (vf (vf (vf aX.nil)))))))) (dG (T:=[]) (dg.h a.d.X))) Cv.fl) (aX.cons (Cv.m rfl) (aX.cons (bq (bq (di (vf (vf (vf (vf (aX.cons (Cv.m rfl) aX.nil)))))) (dG (T:=[0]) (dg.h a.d.K))) (Cv.m rfl)) (aX.cons (Cv.m rfl) (vf (vf aX.nil))))))))) (dG (T:=[0]) (dg.h a.d))) (Cv.m rfl)) (aX.cons (Cv.m rfl) aX.nil))) (dG (T:=[0]) (dg.h a))))) (aV (ai rfl) (Cv.zP (ks:=[146,147]) (n:=1) rfl (bq (di (aX.cons (bq (bq (di (aX.cons (bq (bq (di (vf (vf (vf (vf (vf (vf aX.nil))))))) (dG (T:=[]) (dg.h a.d.J))) Cv.fl) (vf (aX.cons (bq (bq (di (vf (vf (vf (vf (vf (vf (vf aX.nil)))))))) (dG (T:=[]) (dg.h a.d.X))) Cv.fl) (aX.cons (Cv.m rfl) (aX.cons (bq (bq (di (vf (vf (vf (vf (aX.cons (Cv.m rfl) aX.nil)))))) (dG (T:=[0]) (dg.h a.d.K))) (Cv.m rfl)) (aX.cons (Cv.m rfl) (vf (vf aX.nil))))))))) (dG (T:=[0]) (dg.h a.d))) (Cv.m rfl)) (aX.cons (Cv.m rfl) aX.nil))) (dG (T:=[0]) (dg.h a))))) BP.nil)))<|zo (xt [0] 45 [(kV.mk (au.mk (8:UInt8) (0:Int) (0:Int) a.d.X.Pos) (⟨1,a⟩:kM [146,147] g6))])<|bB j λL z j=>z2 (xv [0,45] 46 z) I<|zw<|zJ _ j
   .exact zk<|zJ _ j
theorem RF:C1 44 CX (s2 (.own 0 none 145)):=λL r j=>(cv [[44]] func44) λ_ _=>by
 refine U<|zs (yb 10 ck)<|z2 I I<|M<|za<|U<|zo xR<|bB j λK A j=>z2 (kC [0] 34 (lv _ A)) I<|zz<|z2 E xq<|M<|zx j λo j=>zk<|zt<|U<|zo I<|M<|za<|U<|z2 xR bU<|bB j λB w j=>z3 (kC [0] 35 (MU _ w)) xn E<|M<|zl<|bB j λG u j=>?_;refine lp u [16] (λk (a,b)=>W 5 (.ow [44] [] 145 a)<|W 15 (.ow [35] [0,36] 179 B)<|Z 17 b<|k) (λk b=>(.exit 0,W 5 (.ow [44] [] 145 b)<|k)) ?_ ?_
 .rintro⟨_,_⟩ D j;refine U<|zo xi<|M<|za<|zd j (λo j=>?_) λo j=>?_
  .exact zk<|zt<|za<|zl<|U<|bB j λC z j=>z2 (xJ z) xs<|zs (ya 37)<|zs (yo ck)<|M<|zb<|z4 E xf xP (xt [] 43 [C.au])<|bB j λJ q j=>zs (yA [] q)<|zo I<|zw<|zh<|zt<|zb<|zo xy<|zo E<|zw<|zN j
  .exact ze<|zE<|zB j
 .intro _;refine zj<|zt<|U<|z3 E I I<|M<|zr ?_;cases j;exact bC
theorem KU(a0){r}(a:tv a0=some r):CT 15 [.ptr 0 a0] (.own 0 none 145 r) []:=by refine cw [[10]] func15 λw0 om=>?_;refine U<|zo I<|zz<|z5 E xC xp xp xd<|bB a λz q a=>z5 (kC [0] 10 (Uc _ q)) E aC aB I<|zo I<|zz<|z5 E xC xp xp xd<|bB a λu o a=>z2 (kC [0] 11 (RF _ o)) E<|z4 aC aB I I<|zz<|z2 E E<|bB a λw j a=>zs (yA [] j)<|zo I<|M<|zr ?_;cases a;exact az
theorem Zx(a0 a1){r}(a:vN a0 a1=some r):CT 175 [.rep 0 a0,.ptr 0 a1] (.fl r) []:=by refine cw [[]] func175 λw0 om=>?_;refine U<|zo I<|M<|za<|bB a λo j a=>?_;refine zQ aI (S:=p5 E (kC [] 10 (Mf _ j)) xD (ah.K_ MK K8 rfl (ai rfl) (ai rfl)) I<|aN) (h:=zt<|zr ?_);cases a;exact az
theorem Ub(a0 a1){r}(a:Qz a0 a1=some r):CT 341 [.rep 0 a0,.ptr 0 a1] (.fl r) []:=by refine cw [[]] func341 λw0 om=>?_;refine U<|zs (yb 10 ck)<|zo I<|zz<|z5 xf xl xD xe I<|M<|zr ?_;cases a;exact az
end
theorem YW{y:dq}{a:List UInt8}{i:Int}(h:(((i !=(0:Int))||(!((y.bO).all (·.isEmpty))))||(!(a).isEmpty))=false):i=0/\(∀x∈y.bO,x=[])/\a=[]:=by simp at h;exact⟨h.1.1,h.1.2,h.2⟩
theorem RW{d:List (List UInt8)}{a6 a:List UInt8}{k:Nat}(h:∀x∈d,x=[])(o:a6=[])(hx:og a6=some a):∀x∈d.set k a,x=[]:=λx j=>by
 subst o;obtain rfl:([]:List UInt8)=a:=Option.some.inj hx;rcases pn j with h'|h'
 .exact h x h'
 .exact h'
section
attribute [local irreducible] aO br aH GL.ah GL.au
theorem WB:C7 357 LQ (s2 (.rep 0)):=by
 intro ad af aq ag B A q r a;refine FF [[20,29,34,35,36]] 91 func357 rfl rfl rfl rfl (λw0 om=>?_);refine bB a λf X a=>?_;obtain rfl:af=[f]:=zZ X;refine aO.sub (G':=[.ae 0 (.rep [] (ad:J)), .ae 1 (.rep [0] ([f]:List dq)), .ae 2 (.rep [] (aq:Int)), .ae 3 (.rep [] (ag:Int)), .ae 4 (.rep [] (B:UInt8)), .ae 5 (.rep [] (A:UInt32)), .ae 6 (.rep [0] (q:List UInt8))]) (Sub.cons (fG (ai rfl)) (sn (Sub.cons (fG (ai rfl)) (Sub.cons (fG (ai rfl)) (Sub.cons (fG (ai rfl)) (Sub.cons (fG (ai rfl)) (sn Sub.nil)))))))<|U<|zs (yb 10 aA)<|z2 I I<|M<|za<|U<|z2 xr E<|bB a λaB W a=>z2 (kC [0] 17 (tH _ _ W)) I<|zz<|z2 E xq<|M<|zx a λj a=>zk<|zt<|U<|z3 E E E<|bB a λo V a=>z5 (kC [0] 18 (Lk _ _ _ V)) E eJ eI eL<|z3 I I I<|M<|za<|U<|z3 E xN E<|g3 rfl rfl (λ_=>⟨xr,E,E⟩)<|bB a λay S a=>zg rfl rfl (λj=>kC [0] 19 (HB _ _ _ (bM S (cS j))))<|zg rfl rfl (λ_=>xN)<|z2 xo E<|g2 rfl rfl (λ_=>⟨E,E⟩)<|bB a λaw Z a=>zg rfl rfl (λj=>xI (bM Z (cS j)))<|g3 rfl rfl (λ_=>⟨xp,xd,E⟩)<|bB a λaz Y a=>zg rfl rfl (λj=>xI (bM Y (cS j)))<|g3 rfl rfl (λ_=>⟨xD,E,xH⟩)<|zo xo<|M<|zx a λj a=>zk<|zt<|U<|zo E<|bB a λz ak a=>bB a λy am a=>?_;obtain rfl:z=[y]:=zZ am;refine wo (f:= .one [28] 120 8 [tr y.dR,tr y.aZ.bG,tr y.aZ.At,tr y.aZ.eZ,(false,1, .ow [29] [] 5 y.aZ.bO),(false,1, .ow [30] [] 5 y.fY),(false,1, .ow [31] [] 23 y.iU),(false,1, .ow [32] [33,0] 43 y.bO)]) (ah.jI [0] 28 rfl (by kernel_rfl) (M0 ak) (bX.cons (Has.m (ai rfl) rfl) bX.nil))<|zo I<|M ?_;have O:(((o.1 !=(0:Int))||(!((y.bO).all (·.isEmpty))))||(!(q).isEmpty))=false:=by cases h:(((o.1 !=(0:Int))||(!((y.bO).all (·.isEmpty))))||(!(q).isEmpty))with|true=>exact nomatch iG h a|false=>rfl
 have a:=iP O a;obtain⟨ap,an,ac⟩:=YW O;refine ei (Ad.one (s:=20) 20 rfl rfl rfl rfl)<|U<|z2 E E ?_;refine wo (ah.N0 de.h ap (ai rfl) (ai rfl))<|zo I<|M<|za ?_;refine ei (Ad.d_ (i:=26) 34 rfl rfl rfl ev.flat rfl (Cv.d_ (T:=[30]) (te:=[]) (T':=[30]) (te':=[]) rfl)) ?_;refine ei (Ad.d_ (i:=27) 35 rfl rfl rfl ev.flat rfl (Cv.d_ (T:=[31]) (te:=[]) (T':=[31]) (te':=[]) rfl)) ?_;refine ei (Ad.d_ (i:=28) 36 rfl rfl rfl (ev.bj rfl) rfl (Cv.gT (T:=[32]) (te:=[33,0]) (T':=[32]) (te':=[33,0]) rfl rfl))<|bB a λu G a=>bB a λD N a=>bB a λC L a=>bB a λw K a=>?_;refine aO.Iy [[],[0],[0,1],[0,1,2],[],[],[5],[5,6],[5,6,7],[],[],[10],[10,11],[10,11,12],[],[],[],[],[17],[0,1,2,3,4,5,6,7,8,10,11,12,13,15,17,18],[0,1,2,3,4,5,6,7,8,10,11,12,13,15,17,18,19],[0,1,2,3,4,5,6,7,8,9,10,11,12,13,15,16,17,18,19,20],[0,1,2,3,4,5,6,7,8,9,10,11,12,13,15,16,17,18,19,20,21],[0,1,2,3,4,5,6,7,8,9,10,11,12,13,14,15,16,17,18,19,20,21,22],[0,1,2,3,4,5,6,7,8,9,10,11,12,13,14,15,16,17,18,19,20,21,22,23]] [[.ae 62 (.aL 20)],[.ae 63 (.aL 20)],[.ae 64 (.cJ 20 5)],[.ae 65 (.aL 34)],[.ae 66 (.rep [] o.2.1)],[.ae 67 (.aL 20)],[.ae 68 (.aL 20)],[.ae 69 (.cJ 20 6)],[.ae 70 (.aL 35)],[.ae 71 (.rep [] o.2.1)],[.ae 72 (.aL 20)],[.ae 73 (.aL 20)],[.ae 74 (.cJ 20 7)],[.ae 75 (.aL 36)],[.ae 76 (.rep [] o.2.1)],[.ae 77 (.rep [] (B:UInt8))],[.ae 78 (.rep [] (A:UInt32))],[.ae 79 (.rep [0] (q:List UInt8))],[.ae 80 (.ow [37] [] 5 (u:List UInt8))],[.ae 81 (.cJ 34 (D * Rp.n UInt8))],[.ae 100034 (.own 34 [] 5 ((y.fY).set D B:List UInt8)), .av 34],[.ae 82 (.cJ 35 (C * Rp.n UInt32))],[.ae 100035 (.own 35 [] 23 ((y.iU).set C A:List UInt32)), .av 35],[.ae 83 (.cJ 36 (w * Rp.n (List UInt8)))],[.ae 100036 (.own 36 [0,33,37] 43 ((y.bO).set w u:List (List UInt8))), .av 36]] aI (by kernel_rfl) (ao (so (ah.move (ai rfl))) (ao (so (ah.AP (ai rfl) rfl)) (ao (so (ah.nm aY.h (aV (ai rfl) (Cv.Gu rfl)))) (ao (so (ah.Ie (i:=5) cj.h rfl (ai rfl) rfl (aW rfl))) (ao (so (ah.move (ai rfl))) (ao (so (ah.move (ai rfl))) (ao (so (ah.AP (ai rfl) rfl)) (ao (so (ah.nm aY.h (aV (ai rfl) (Cv.Gu rfl)))) (ao (so (ah.Ie (i:=6) cj.h rfl (ai rfl) rfl (aW rfl))) (ao (so (ah.move (ai rfl))) (ao (so (ah.move (ai rfl))) (ao (so (ah.AP (ai rfl) rfl)) (ao (so (ah.nm aY.h (aV (ai rfl) (Cv.Gu rfl)))) (ao (so (ah.Ie (i:=7) cj.h rfl (ai rfl) rfl (aW rfl))) (ao (so (ah.move (ai rfl))) (ao (so (ah.move (ai rfl))) (ao (so (ah.move (ai rfl))) (ao (so (ah.move (ai rfl))) (ao (so (ah.jI [0] 37 rfl (by kernel_rfl) (tC q G) (bX.cons (Has.m (ai rfl) rfl) bX.nil))) (ao (so (ah.wT N de.h (ai rfl) rfl (ai rfl))) (ao (cI.yJ (au.nw (te':=[]) rfl (kr N rfl) iz (ai rfl) rfl (ai rfl) cC.flat cC.flat)) (ao (so (ah.wT L de.h (ai rfl) rfl (ai rfl))) (ao (cI.yJ (au.nw (te':=[]) rfl (kr L rfl) tR (ai rfl) rfl (ai rfl) cC.flat cC.flat)) (ao (so (ah.wT K de.h (ai rfl) rfl (ai rfl))) (ao (cI.yJ (au.nw (te':=[0,33,37]) rfl (kr K rfl) cj.h (ai rfl) rfl (aV (ai rfl) (bq Cv.iS (Cv.iR (T':=[37]) rfl rfl))) (cC.bj rfl rfl) (cC.bj rfl rfl))) jR.nil)))))))))))))))))))))))))<|zt<|za<|U<|zo E ?_;refine wo (ah.AP (ai rfl) rfl) ?_;refine wo (ah.pI (cK.cons (cK.sub (cK.cons (cK.cons (cK.cons (cK.cons cK.nil)))) rfl (cK.cons (cK.cons (cK.cons cK.nil))))) (ah.NF (ls:=[tr y.dR,tr y.aZ.bG,tr y.aZ.At,tr y.aZ.eZ,(false,1,aa.ow [29] [] 5 (y.aZ.bO:List UInt8)),(false,1,aa.aL 34),(false,1,aa.aL 35),(false,1,aa.aL 36)]) cj.h rfl (by kernel_rfl) (ai rfl) rfl (bJ.cons (aW rfl) (bJ.cons (aW rfl) (bJ.cons (aW rfl) (bJ.cons (aW rfl) (bJ.cons (aW rfl) (bJ.cons (aW rfl) (bJ.cons (aW rfl) (bJ.cons (aW rfl) bJ.nil))))))))))<|zo E<|bB a λar Q a=>z2 (kC [0,29,33,34,35,36,37] 38 (Ou _ _ Q)) xN<|M<|zx a λj a=>zk<|zt<|U<|z3 E I I<|M<|zr ?_;cases a;have al:∀x∈(y.bO).set w u,x=[]:=RW an ac G;exact aH.wU rfl (bW.tmp (Has.MY (ls:=[tr y.dR,tr y.aZ.bG,tr y.aZ.At,tr y.aZ.eZ,(false,1,aa.ow [29] [] 5 y.aZ.bO),(false,1,aa.aL 34),(false,1,aa.aL 35),(false,1,aa.aL 36)]) (ai rfl) rfl (bJ.cons (aW rfl) (bJ.cons (aW rfl) (bJ.cons (aW rfl) (bJ.cons (aW rfl) (bJ.cons (aW rfl) (bJ.cons (aW rfl) (bJ.cons (aW rfl) (bJ.cons (aW rfl) bJ.nil)))))))) (bq (Cv.pI (cK.cons (cK.sub (cK.cons (cK.cons (cK.cons (cK.cons cK.nil)))) rfl (cK.cons (cK.cons (cK.cons cK.nil)))))) (bq (di (vf (aX.cons (bq (bq (di (vf (vf (vf (aX.cons (bq (bq Cv.iS (Cv.iR (T':=[29]) rfl rfl)) (Cv.m rfl)) aX.nil))))) (dG (T:=[29]) (dg.h (aZ.mk y.aZ.bG y.aZ.At y.aZ.eZ y.aZ.bO)))) (Cv.m rfl)) (aX.cons (bq (Cv.own rfl) (Cv.m rfl)) (aX.cons (bq (Cv.own rfl) (Cv.m rfl)) (aX.cons (bq (Cv.Xd rfl al) (Cv.m rfl)) aX.nil)))))) (dG (T:=[20,29,34,35,36]) (dg.h (dq.mk y.dR (aZ.mk y.aZ.bG y.aZ.At y.aZ.eZ y.aZ.bO) ((y.fY).set D B) ((y.iU).set C A) ((y.bO).set w u)))))) rfl rfl)) (bW.cv (bW.tmp (ai rfl)) Cv.fl)
end
end
end Go.Proofs.YthpphdegpinepaaGreat
