/- Part of the proof of TopAny. -/
import Derived.Test.YthpphdegpinepaaGreatW8
namespace Go.Proofs.YthpphdegpinepaaGreat
open Go GL Tryz
open Nat renaming beq -> ct
set_option linter.all false
set_option maxRecDepth 100000
set_option maxHeartbeats 20000000
noncomputable section
section
attribute [local irreducible] aO br aH GL.ah GL.au
theorem FC:C2 6 qs (λr=>.eV (.aK [(true,23,gv (.rep 0) (.rep 0) (.rep 0) r.1.N),(false,1,.own 0 (some 0) 96 r.1.f_),(false,1,.fl r.1.Up)]) (.own 1 (some 2) 58 r.2.1) (.fl r.2.2)) [0]:=λb3 b6 r j=>(cv [[0,75,76,77,78,79,80,81,119,120,121,148,149,191,194,219,220,256],[221,257],[192,193,258]] func6) λ_ _=>by
 refine U<|zs (yb 10 ck)<|zs (yb 36 ck)<|zs (ya 46)<|z2 I I<|M<|za<|U<|zo xR<|bB j λb4 bA j=>z2 (kC [0] 72 (Iz _ bA)) I<|zz<|z2 E xq<|M<|zd j (λu j=>?_) λu j=>?_
 .refine U<|z2 bU E<|zs (yo bT)<|z2 I I<|M<|zr<|zR ?_;cases j;exact dL
 .refine zk<|zt<|U<|z2 xf xl<|bB j λa8 bz j=>z2 (kC [] 73 (aab _ bz)) I<|M<|za<|zl<|U<|zo E ?_;refine wo (ah.P3 underlying61 (ai rfl))<|zo I<|M<|zx j λu j=>U<|z4 xf xl xN E<|g2 rfl rfl (λ_=>⟨xf,xl⟩)<|bB j λb2 bw j=>zg rfl rfl (λu=>kC [] 74 (SM _ (bM bw u)))<|zg rfl rfl (λ_=>xN)<|z2 xw I<|M<|zx j λu j=>zk<|zh<|zt<|U<|zo xR<|bB j λK bD j=>z2 (kC [0] 75 (Tn _ bD)) bU<|zs (yb 82 dW)<|zo I<|M<|za<|U<|z3 E E xR ?_;by_cases hk201:ct a8.i 1=true
  .have j:=iG hk201 j;refine br.ad (Ad.JU (s:=39) rfl hk201 rfl) ?_;refine il j (PN K) [4,9,26046,1082,1107] (λk (a,b,c,d,e,f,g,h,i,G,l,m,n,o,q,r,t,v,w,x,y,z,A,B,C)=>Z 42 a<|V8 83 b c d e f g h i<|V6 91 G l m n o q<|Y 97 (.rep [0,75,76,77,78,79,256] r)<|V4 98 t v w x<|Y 102 (.rep [0,75,76,77,78,79,256] y)<|Y 103 (.rep [0,75,76,77,78,79,256] z)<|V2 104 A B<|Y 106 (.ow [80] [0,81] 96 K.f_)<|Y 108 (.ow [257] [258] 58 C)<|k) func29 cV ?_ ?_
   .refine λa_=>iu 1 [4,9] [26046,27082] ?_;refine U<|zs (yb 222 bT)<|zo I<|zz<|zs (ya 232)<|M ?_;refine jn j (Jz K) [902004,902009,26046,1082,1107] (λk (a,b,c,d,e,f,g,h,i,G,l,m,n,o,q,r,t,v,w,x,y,z,A,B,C)=>Z 4 a<|V8 83 b c d e f g h i<|V6 91 G l m n o q<|Y 97 (.rep [0,75,76,77,78,79,256] r)<|V4 98 t v w x<|Y 102 (.rep [0,75,76,77,78,79,256] y)<|Y 103 (.rep [0,75,76,77,78,79,256] z)<|V2 104 A B<|Y 106 (.ow [80] [0,81] 96 K.f_)<|Y 108 (.ow [257] [258] 58 C)<|k) ?_ ?_
    .rintro⟨_,_,_,_,_,_,_,_,_,_,_,_,_,_,_,_,_,_,_,_,_,_,_,_,_⟩ j;exact zr<|bS (_,_,_,_,_,_,_,_,_,_,_,_,_,_,_,_,_,_,_,_,_,_,_,_,_) j
    .refine za<|bB j λbH bd j=>?_;refine zQ aI (S:=p6 E E xc xf xf hX<|p6 xf xP (kC [0,75,76,77,78,79] 256 (UN _ _ bd)) E we x_<|p2 yU wa<|aq (sE (kR 232 [_,_,_,_,_,_,_,_,_,_,_,_,_,_,_,_,_,_,_,_,_,_,_,_] (.av 232::(kK 233 23 []))) (yo dW))<|p2 xc xf<|aq (sE [.ae 100108 _,.ae 100082 _,.av 82,.bp 108] (yt))<|o1 I<|aN) (h:=zt<|U<|z2 E xe<|M<|zd j (λu j=>?_) λu j=>?_)
     .exact zb<|z5 E xR xc xf xf<|zs (yS 0 23 (hx:=bT))<|zw<|zJ (_,_,_,_,_,_,_,_,_,_,_,_,_,_,_,_,_,_,_,_,_,_,_,_,_) j
     .exact zk<|zJ (_,_,_,_,_,_,_,_,_,_,_,_,_,_,_,_,_,_,_,_,_,_,_,_,_) j
   .rintro⟨_,_,_,_,_,_,_,_,_,_,_,_,_,_,_,_,_,_,_,_,_,_,_,_,_⟩ j;refine zo I<|zz<|z2 E xq<|M<|zd j (λu j=>?_) λu j=>?_
    .refine U<|z2 bU E<|zs (yo bT)<|z2 I I<|M<|zr<|zR ?_;cases j;exact dL
    .refine zk<|zt<|za ?_;refine zQ aI (S:=p6 E xc xf hX E xc<|p2 xf xl<|aq (sE (kR 46 [_,_,_,_,_,_,_,_,_,_,_,_,_,_,_,_,_,_,_,_,_,_,_,_,_,_] (.av 46::(kK 47 25 []))) (yo bT))<|p2 I I<|aN) (h:=zt<|zr ?_);cases j;exact dL
  .have j:=iP (kh hk201) j;by_cases hk149:ct a8.i 3=true
   .have j:=iG hk149 j;refine br.ad (Ad.JU (s:=39) rfl hk149 rfl) ?_;refine il j (v8 K) [4,9,26046,1082,1107] (λk (a,b,c,d,e,f,g,h,i,G,l,m,n,o,q,r,t,v,w,x,y,z,A,B,C,D)=>Z 42 a<|V8 83 b c d e f g h i<|V6 91 G l m n o q<|Y 97 (.rep [0,75,76,77,78,79,80,81,191,194,219,220] r)<|V4 98 t v w x<|Y 102 (.rep [0,75,76,77,78,79,80,81,191,194,219,220] y)<|Y 103 (.rep [0,75,76,77,78,79,80,81,191,194,219,220] z)<|V2 104 A B<|Y 106 (.ow [80,219] [0,81,220] 96 C)<|Y 108 (.ow [221] [192,193] 58 D)<|k) func31 cV ?_ ?_
    .refine λa_=>iu 1 [4,9] [26046,27082] ?_;refine U<|zs (yb 150 bT)<|zo I<|M<|za<|U<|z5 E xf xl xh E<|g3 rfl rfl (λ_=>⟨xf,xl,xj⟩)<|z2 xw E<|g3 rfl rfl (λ_=>⟨xf,xl,xh⟩)<|z2 xw E<|g3 rfl rfl (λ_=>⟨xf,xl,xj⟩)<|zo xw<|bB j λb0 bq j=>z2 (kC [0,75,76,77,78,79,80,81,82] 160 (VN _ _ _ bq)) I<|zz<|z2 E xq<|M<|zx j λu j=>zk<|zt<|za<|U<|z3 xf xl E<|M<|zl<|bB j λbv bl j=>?_;refine lp bl [0,3,32,902004,902009,26046,1082,1107,10150] (λk (a,b,c,d,e,f,g,h,i,G,l,m,n,o,q,r,t,v,w,x,y,z,A,B,C,D)=>Z 33 a<|V8 83 b c d e f g h i<|V6 91 G l m n o q<|Y 97 (.rep [0,75,76,77,78,79,80,81,191,194,219,220] r)<|V4 98 t v w x<|Y 102 (.rep [0,75,76,77,78,79,80,81,191,194,219,220] y)<|Y 103 (.rep [0,75,76,77,78,79,80,81,191,194,219,220] z)<|V2 104 A B<|Y 106 (.ow [80,219] [0,81,220] 96 C)<|Y 108 (.ow [221] [192,193] 58 D)<|k) (λk=>Sum.elim (λ(a,b,c,d,e,f,g,h,i,G,l,m,n,o,q,r,t,v,w,x,y,z,A,B,C,D)=>(.ret,Z 4 a<|V8 83 b c d e f g h i<|V6 91 G l m n o q<|Y 97 (.rep [0,75,76,77,78,79,80,81,191,194,219,220] r)<|V4 98 t v w x<|Y 102 (.rep [0,75,76,77,78,79,80,81,191,194,219,220] y)<|Y 103 (.rep [0,75,76,77,78,79,80,81,191,194,219,220] z)<|V2 104 A B<|Y 106 (.ow [80,219] [0,81,220] 96 C)<|Y 108 (.ow [221] [192,193] 58 D)<|k)) (λ(a,b,c,d,e,f,g,h,i,G,l,m,n,o,q,r,t,v,w,x,y,z,A,B,C)=>(.exit 0,V8 83 a b c d e f g h<|V6 91 i G l m n o<|Y 97 (.rep [0,75,76,77,78,79,80,81,191,194,219,220] q)<|V4 98 r t v w<|Y 102 (.rep [0,75,76,77,78,79,80,81,191,194,219,220] x)<|Y 103 (.rep [0,75,76,77,78,79,80,81,191,194,219,220] y)<|V2 104 z A<|Y 106 (.ow [80,219] [0,81,220] 96 B)<|Y 108 (.ow [221] [192,193] 58 C)<|k))) ?_ ?_
     .rintro⟨J,aG,L,X,aH,ak,ag,aF,Q,aJ,ay,an,ac,aw,az,aM,ar,ap,ao,am,af,al,O,aE,bC,aL⟩ b1 j;refine U<|zo xi<|M<|za<|zd j (λu j=>?_) λu j=>?_
      .refine zk<|zt<|za<|zl<|U<|z2 E I<|zz<|z5 E xf xl E xy<|zo xk ?_;refine il j (oQ J) [0,3,32,33,902004,902009,26046,1082,1107,10150] (λk (a,b,c,d,e,f,g,h,i,G,l,m,n,o,q,r,t,v,w,x,y,z,A,B,C,D)=>Z 42 a<|V8 83 b c d e f g h i<|V6 91 G l m n o q<|Y 97 (.rep [0,75,76,77,78,79,80,81,191,194,219,220] r)<|V4 98 t v w x<|Y 102 (.rep [0,75,76,77,78,79,80,81,191,194,219,220] y)<|Y 103 (.rep [0,75,76,77,78,79,80,81,191,194,219,220] z)<|V2 104 A B<|Y 106 (.ow [80,219] [0,81,220] 96 C)<|Y 108 (.ow [221] [192,193] 58 D)<|k) func73 cF ?_ ?_
       .refine λbG=>iu 2 [0,3,32,33] [902004,902009,26046,27082,10150] ?_;refine U<|zo I<|zz<|zo E<|bB j λbN a' j=>z2 (kC [0,75,76,77,78,79,80,81,82,191,192,193,194,219,220,221] 161 (KU _ a')) I<|M<|za<|U<|z3 E xn xe<|M<|zd j (λu j=>?_) λu j=>?_
        .exact U<|zo I<|M<|zr<|zR<|bS (_,_,_,_,_,_,_,_,_,_,_,_,_,_,_,_,_,_,_,_,_,_,_,_,_,_) j
        .refine zk<|zt<|U<|z5 E E E E xn<|bB j λbR bg j=>?_;refine wo (ah.mI bg (ai rfl) (ai rfl))<|bB j λbQ bb j=>z2 (xJ bb) xS ?_;refine il j (x' J aG L X aH ak ag aF Q aJ ay an ac aw az aM ar ap ao am af al O aE bC aL) [0,902004,902009,904000,904003,904032,904033,26046,27082,10150] (λk (a,b,c,d,e,f,g,h,i,G,l,m,n,o,q)=>W 25 (.gE (aa.aK [(true,6,aa.rep [] a),tr b,(true,7,aa.rep [] c),(false,1,aa.rep [0,75,76,77,78,79,80,81,191,194,219,220] d),(true,5,aa.aK [tr e,tr f,tr g,tr h,(false,1,aa.rep [0,75,76,77,78,79,80,81,191,194,219,220] i)]),(false,1,aa.rep [0,75,76,77,78,79,80,81,191,194,219,220] G),tr l,tr m]) (aa.rep [0,75,76,77,78,79,80,81,191,194,219,220] n) (aa.ow [192] [193] 58 o) (R1 q))<|k) func74 cF ?_ ?_
         .refine λa9=>iu 3 [0] [902004,902009,904000,904003,904032,904033,26046,27082,10150] ?_;refine U<|zs (yb 162 aA)<|zs (ya 167)<|z3 I I I<|M<|za<|U<|z3 xf xl ym<|M<|zd j (λu j=>?_) λu j=>?_
          .refine za<|bB j λbJ bc j=>?_;refine zQ aI (S:=p6 E xc xf xf hX E<|p6 xc xf xf xl xr (kC [0,75,76,77,78,79,80,81,191,194,219,220] 191 (Nc _ _ _ bc))<|p4 we x_ yU wa<|aq (sE (kR 167 [_,_,_,_,_,_,_,_,_,_,_,_,_,_,_,_,_,_,_,_,_,_,_,_] (.av 167::(kK 168 23 []))) (yo dW))<|p3 I I I<|aN) (h:=zt<|zr<|zR ?_);exact PC (_,_,_,_,_,_,_,_,_,_,_,_,_,_,_) j
          .refine zk<|zt<|za<|bB j λbL be j=>?_;refine zQ aI (S:=p6 E xc xf xf hX E<|p6 xc xf xf xl xr (kC [0,75,76,77,78,79,80,81,191,194,219,220] 194 (P' _ _ _ be))<|p4 E eJ eI eL<|aq (sE (kR 167 [_,_,_,_,_,_,_,_,_,_,_,_,_,_,_,_,_,_,_,_,_,_,_,_] (.av 167::(kK 168 23 []))) (yo dW))<|p2 I I<|aN) (h:=zt<|zr ?_);exact PC (_,_,_,_,_,_,_,_,_,_,_,_,_,_,_) j
         .rintro⟨a5,aR,a1,a2,aY,a4,aO,a0,aZ,aQ,aU,a3,_,a6,_⟩ j;refine z5 E we x_ yU wa<|zs (ya 195)<|zs (yo dW)<|z3 I I I<|M<|za<|U<|z2 E xq<|M<|zd j (λu j=>?_) λu j=>?_
          .exact U<|z2 E I<|M<|zr<|zR<|bS (_,_,_,_,_,_,_,_,_,_,_,_,_,_,_,_,_,_,_,_,_,_,_,_,_,_) j
          .refine zk<|zt<|za<|U<|z2 E E ?_;refine il j (Jc J aG L X aH ak ag aF Q aJ ay an ac aw az aM ar ap ao am af al O aE aL a5 aR a1 a2 aY a4 aO a0 aZ aQ aU a3 a6) [0,6,8,902004,902009,904000,904003,904032,904033,26046,24082,2107,10150,24195] (λk (a,b)=>Z 35 a<|Y 106 (.ow [80,219] [0,81,220] 96 b)<|k) func78 cF ?_ ?_
           .refine λa9=>iu 3 [0,6,8] [902004,902009,904000,904003,904032,904033,26046,27082,10150,24195] ?_;refine U<|zo I<|zz<|z4 E E E xn ?_;refine il j (Hw J aG L X aH ak ag aF Q aJ ay an ac aw az aM ar ap ao am af al O aE aL a5 aR a1 a2 aY a4 aO a0 aZ aQ aU a3 a6) [902004,902009,904000,904003,904032,904033,906000,906006,906008,26046,24082,2107,10150,24195] (λk (a,b)=>Z 9 a<|Y 106 (.ow [80,219] [0,81,220] 96 b)<|k) func75 cF ?_ ?_
            .refine λb5=>iu 4 [] [902004,902009,904000,904003,904032,904033,906000,906006,906008,26046,27082,10150,24195] ?_;refine U<|zo I<|zz<|z5 E xc xf xf xl<|z5 E E E xn n9<|bB j λbs bi j=>z5 (kC [0,75,76,77,78,79,80,81,191,194,219,220] 219 (Ia _ _ _ bi)) E aC aB I<|zo I<|M ?_;refine jn j (AN J aG L X aH ak ag aF Q aJ ay an ac aw az aM ar ap ao am af al O aE aL a5 aR a1 a2 aY a4 aO a0 aZ aQ aU a3 a6 bs) [8,902004,902009,904000,904003,904032,904033,906000,906006,906008,26046,24082,2107,10150,24195] (λk p=>Y 106 (.ow [80,219] [0,81,220] 96 p)<|k) ?_ ?_
             .rintro bI j;exact U<|z2 E I<|M<|zr<|bS (_,_) j
             .refine U<|z2 E xe<|M<|zd j (λu j=>?_) λu j=>?_
              .exact zb<|z5 E E xc xf xf<|zs (yt)<|zw<|zJ _ j
              .exact zk<|zJ _ j
            .rintro⟨_,_⟩ j;exact zo I<|M<|zr<|bS (_,_) j
           .rintro⟨_,_⟩ j;refine zo I<|zz<|z2 E xq<|M<|zd j (λu j=>?_) λu j=>?_
            .exact U<|z2 E I<|M<|zr<|zR<|bS (_,_,_,_,_,_,_,_,_,_,_,_,_,_,_,_,_,_,_,_,_,_,_,_,_,_) j
            .refine zk<|zt<|za<|bB j λbO ba j=>?_;refine zQ aI (S:=p6 E E xR E xc xf<|p2 xl E<|aq (sE [.ae 47 _,.av 221] (yA [192,193] ba))<|p3 xc xf xf<|aq (sE (kR 82 [_,_,_,_,_,_,_,_,_,_,_,_,_,_,_,_,_,_,_,_,_,_,_,_] (.av 82::(kK 83 23 []))) (yS 0 23 (hx:=bT)))<|p2 xc xf<|aq (sE [.ae 100108 _,.ae 100082 _,.av 82,.bp 108] (yt))<|aN) (h:=zt<|U<|zo I<|M<|zr ?_);exact bS (_,_,_,_,_,_,_,_,_,_,_,_,_,_,_,_,_,_,_,_,_,_,_,_,_,_) j
       .rintro⟨_,_,_,_,_,_,_,_,_,_,_,_,_,_,_,_,_,_,_,_,_,_,_,_,_,_⟩ j;refine zo I<|zz<|zo E<|M<|zl<|U<|z2 xe I<|M<|zd j (λu j=>?_) λu j=>?_
        .exact zk<|zh<|zh<|zt<|zb<|z2 xy E<|zw<|zN j
        .refine U<|z2 xe I<|M<|zd j (λu j=>?_) λu j=>?_
         .exact U<|zo I<|M<|zr<|zi<|zi<|zR<|zB j
         .exact U<|z2 E I<|M<|zr<|zi<|zi<|zR<|zB j
      .exact ze<|zE<|zB j
     .intro _;rcases bv with bV|bP
      .have j:=fN j;exact zi<|zR<|bS (_,_,_,_,_,_,_,_,_,_,_,_,_,_,_,_,_,_,_,_,_,_,_,_,_,_) j
      .have j:=fI j;refine zj<|zt ?_;exact nomatch j
    .rintro⟨_,_,_,_,_,_,_,_,_,_,_,_,_,_,_,_,_,_,_,_,_,_,_,_,_,_⟩ j;refine zo I<|zz<|z2 E xq<|M<|zd j (λu j=>?_) λu j=>?_
     .refine U<|z2 bU E<|zs (yo bT)<|z2 I I<|M<|zr<|zR ?_;cases j;exact dL
     .refine zk<|zt<|za ?_;refine zQ aI (S:=p6 E xc xf hX E xc<|p2 xf xl<|aq (sE (kR 46 [_,_,_,_,_,_,_,_,_,_,_,_,_,_,_,_,_,_,_,_,_,_,_,_,_,_] (.av 46::(kK 47 25 []))) (yo bT))<|p2 I I<|aN) (h:=zt<|zr ?_);cases j;exact dL
   .have j:=iP (kh hk149) j;by_cases hk38:ct a8.i 5=true
    .have j:=iG hk38 j;refine br.ad (Ad.JU (s:=39) rfl hk38 rfl) ?_;refine il j wJ [4,9,26046,1082,1108] (λk (a,b,c,d,e,f,g,h,i,G,l,m,n,o,q,r,t,v,w,x,y,z,A,B,C,D)=>Z 42 a<|V8 83 b c d e f g h i<|V6 91 G l m n o q<|Y 97 (.ow [75,121] [76,119] 79 r)<|V4 98 t v w x<|Y 102 (.ow [77,120] [] 133 y)<|Y 103 (.ow [78,121] [0,79] 120 z)<|V2 104 A B<|Y 106 (.ow [80,148] [0,81,149] 96 C)<|V 107 D<|k) func33 cV ?_ ?_
     .refine λa_=>iu 1 [4,9] [26046,27082] ?_;refine U<|zs (yb 109 bT)<|zo I<|M<|za<|U<|z5 E xc xf xf xl<|M<|zx j λu j=>zk<|zt<|U<|zo E<|bB j λa7 bn j=>z5 (kC [0,75,76,77,78,79,80,81,82] 119 (Qq _ bn)) E eJ eI eL<|zs (ya 124)<|zs (yo dW)<|z2 I I<|M<|za<|U<|z2 E xq<|M<|zd j (λu j=>?_) λu j=>?_
      .exact U<|z2 E I<|M<|zr<|zR<|bS (_,_,_,_,_,_,_,_,_,_,_,_,_,_,_,_,_,_,_,_,_,_,_,_,_,_) j
      .refine zk<|zt<|U<|z5 E E xR xc xf<|zo xf<|zs (yS 0 23 (hx:=bT))<|z3 xc xf xf<|zs (yt)<|zz<|z2 E E ?_;refine il j (HD a7) [902004,902009,26046,24082,2107] (λk (a,b)=>Z 33 a<|Y 106 (.ow [80,148] [0,81,149] 96 b)<|k) func78 cF ?_ ?_
       .refine λbG=>iu 2 [] [902004,902009,26046,27082] ?_;refine U<|zo I<|zz<|z4 E E E xn ?_;refine il j (GB a7) [902004,902009,26046,24082,2107] (λk (a,b)=>Z 9 a<|Y 106 (.ow [80,148] [0,81,149] 96 b)<|k) func75 cF ?_ ?_
        .refine λa9=>iu 3 [] [902004,902009,26046,27082] ?_;refine U<|zo I<|zz<|z5 E xc xf xf xl<|z5 E E E xn n9<|bB j λbE bm j=>z5 (kC [0,80,81,122,123] 148 (Ia _ _ _ bm)) E aC aB I<|zo I<|M ?_;refine jn j (AS a7 bE) [8,902004,902009,26046,24082,2107] (λk p=>Y 106 (.ow [80,148] [0,81,149] 96 p)<|k) ?_ ?_
         .rintro bZ j;exact U<|z2 E I<|M<|zr<|bS (_,_) j
         .refine U<|z2 E xe<|M<|zd j (λu j=>?_) λu j=>?_
          .exact zb<|z5 E E xc xf xf<|zs (yt)<|zw<|zJ _ j
          .exact zk<|zJ _ j
        .rintro⟨_,_⟩ j;exact zo I<|M<|zr<|bS (_,_) j
       .rintro⟨_,_⟩ j;exact zo I<|M<|zr<|bS (_,_,_,_,_,_,_,_,_,_,_,_,_,_,_,_,_,_,_,_,_,_,_,_,_,_) j
     .rintro⟨_,_,_,_,_,_,_,_,_,_,_,_,_,_,_,_,_,_,_,_,_,_,_,_,_,_⟩ j;refine zo I<|zz<|z2 E xq<|M<|zd j (λu j=>?_) λu j=>?_
      .refine U<|z2 bU E<|zs (yo bT)<|z2 I I<|M<|zr<|zR ?_;cases j;exact dL
      .refine zk<|zt<|za ?_;refine zQ aI (S:=p6 E xc xf hX E xc<|p2 xf xl<|aq (sE (kR 46 [_,_,_,_,_,_,_,_,_,_,_,_,_,_,_,_,_,_,_,_,_,_,_,_,_,_] (.av 46::(kK 47 25 []))) (yo bT))<|p2 I I<|aN) (h:=zt<|zr ?_);cases j;exact dL
    .have j:=iP (kh hk38) j;exact nomatch j
theorem VW:C3 8 N4 (λr=>.eV (.aK [(true,23,gv (.rep 0) (.rep 0) (.rep 0) r.1.N),(false,1,.own 0 (some 0) 96 r.1.f_),(false,1,.fl r.1.Up)]) (.own 1 (some 2) 58 r.2.1) (.fl r.2.2)) [0]:=λan ak am r j=>(cv [[0,43,44,45,46,47,84],[113],[85,86]] func8) λ_ _=>by
 refine U<|zs (yb 10 aA)<|zs (ya 17)<|z2 I I<|M<|za<|U<|z3 E xn xg<|M<|zx j λu j=>zk<|zt<|U<|z2 xr E<|bB j λal Q j=>z4 (kC [] 43 (Sx _ _ Q)) E aC aB<|zs (ya 48)<|zs (yo dW)<|zo I<|M<|za<|U<|z2 E xq<|M<|zx j λu j=>zk<|zt<|U<|zo I<|M<|za<|U<|z3 E xn E<|M<|zl<|bB j λaf L j=>?_;refine lp L [6,9,31,32,26017,1048] (λk (a,b,c,d,e,f,g,h,i,G,l,m,n,o,q,r,t,v,w,x,y,z,A,B,C,D,X)=>W 11 (.ow [113] [85,86] 58 a)<|Z 33 b<|V8 49 c d e f g h i G<|V6 57 l m n o q r<|Y 63 (.rep [0,43,44,45,46,47,84] t)<|V4 64 v w x y<|Y 68 (.rep [0,43,44,45,46,47,84] z)<|Y 69 (.rep [0,43,44,45,46,47,84] A)<|V2 70 B C<|Y 72 (.ow [0,43,44,45,46,47,84] [0,43,44,45,46,47,84] 96 D)<|V 73 X<|k) (λk (a,b,c,d,e,f,g,h,i,G,l,m,n,o,q,r,t,v,w,x,y,z,A,B,C,D)=>(.exit 0,W 11 (.ow [113] [85,86] 58 a)<|V8 49 b c d e f g h i<|V6 57 G l m n o q<|Y 63 (.rep [0,43,44,45,46,47,84] r)<|V4 64 t v w x<|Y 68 (.rep [0,43,44,45,46,47,84] y)<|Y 69 (.rep [0,43,44,45,46,47,84] z)<|V2 70 A B<|Y 72 (.ow [0,43,44,45,46,47,84] [0,43,44,45,46,47,84] 96 C)<|V 73 D<|k)) ?_ ?_
 .rintro⟨_,_,_,_,_,_,_,_,_,_,_,_,_,_,_,_,_,_,_,_,_,_,_,_,_,_,_⟩ aa j;refine U<|zo xi<|M<|za<|zd j (λu j=>?_) λu j=>?_
  .refine zk<|zt<|za<|zl<|U<|bB j λac O j=>z2 (xI O) xd<|zs (ya 74)<|zs (yo ck)<|zz<|z2 xR xR<|bB j λad K j=>z5 (kC [0,43,44,45,46,47,84] 84 (FC _ _ K)) E eJ eI eL<|zs (ya 87)<|zs (yo dW)<|z2 I I<|M<|za<|U<|z2 E xq<|M<|zx j λu j=>zk<|zt<|bB j λag J j=>?_;exact zQ aI (S:=p3 xR E E<|aq (sE [.ae 54 _,.av 113] (yA [85,86] J))<|aq (sE (kR 48 [_,_,_,_,_,_,_,_,_,_,_,_,_,_,_,_,_,_,_,_,_,_,_,_,_,_] (.av 48::(kK 49 25 []))) (yo bT))<|o1 I<|aN) (h:=zh<|zt<|zb<|z2 xy E<|zw<|zN j)
  .exact ze<|zE<|zB j
 .intro _;refine zj<|zt<|U<|z2 xR E<|zs (yo bT)<|z2 I I<|M<|zr ?_;cases j;exact dL
theorem R3:C2 9 KO (s2 (.own 0 none 5)):=λO Q r a=>(cv [[50]] func9) λ_ _=>by
 refine U<|zs (yb 10 ck)<|z2 I I<|M<|za<|U<|zo xR<|bB a λW z a=>z2 (kC [0] 36 (Iz _ z)) I<|zz<|z2 E xq<|M<|zx a λj a=>zk<|zt<|U<|z3 xf xf xP<|zs (ya 37)<|zs (yo aF)<|zz<|z2 xr E<|bB a λJ q a=>z4 (kC [] 44 (CR _ _ q)) E aC aB<|zs (ya 45)<|zs (yo aA)<|zo I<|M<|za<|zl<|U<|zo xf<|z3 xl xN I<|M<|zx a λj a=>U<|z5 xf xf xf xl I<|M<|zx a λj a=>U<|z3 E xq I<|M<|zx a λj a=>zk<|zh<|zt<|za<|U<|z5 xr xf xf xl xf<|zo xl<|bB a λK o a=>z5 (kC [0] 49 (pA _ _ _ o)) E aC aB I<|zo I<|M<|za<|bB a λD C a=>bB a λL B a=>?_;refine zQ aI (S:=p3 E xe E<|w4 (q4 (h:=λ_=>⟨xf,xf,xl,E⟩))<|aq (qg (h:=λj=>xI (bM C j)))<|w4 (q4 (h:=λ_=>⟨xp,xd,xf,xl⟩))<|aq (qg (h:=λj=>xI (bM B j)))<|w3 (q3 (h:=λ_=>⟨xd,xn,xg⟩))<|o1 xw<|aN) (h:=zt<|zd a (λj a=>?_) λj a=>?_)
 .refine za<|bB a λG u a=>bB a λV A a=>bB a λN w a=>?_;refine zQ aI (S:=p6 xf xf xl E (xI u) xp<|p6 xd xf xl (xI A) xd (kC [0] 50 (lK _ w))<|p2 I I<|aN) (h:=zt<|zr<|zR ?_);cases a;exact bC
 .refine zk<|zt ?_;exact nomatch a
theorem VI{r}(a:Gr=some r):CT 4 [] (.fl r) []:=by refine cw [[]] func4 λw0 om=>?_;refine U<|zo I<|zz<|zo bU<|zs (ya 10)<|zs (yo aF)<|zz<|bB a λD A a=>?_;refine ws (au.oe 17 A rfl rfl de.h AT e_)<|zo I<|zz<|zo E<|bB a λB o a=>zo (xu o) ?_;refine ws (au.nw (te':=[]) rfl (kr o rfl) iz (ai rfl) rfl (Has.u8 7 rfl) cC.flat cC.flat)<|zz<|z5 xr E bU bU bU<|zo (xt [17] 18 [(iA.mk (1:UInt8) (aZ.mk (2:UInt8) (0:Int) (1:Int) ((D).set B (7:UInt8))) (0:Int) (0:Int) false ([]:List Bool)),(iA.mk (3:UInt8) (aZ.mk (0:UInt8) (0:Int) (0:Int) ([]:List UInt8)) (0:Int) (20:Int) false ([]:List Bool))])<|bB a λJ q a=>z5 (kC [17,18] 19 (VW _ _ _ q)) E eJ eI eL<|zs (ya 22)<|zs (yo dW)<|z2 I I<|zz<|zo xR<|bB a λK w a=>z4 (kC [17,18,19] 48 (R3 _ _ w)) E aC aB<|z2 I I<|zz<|z3 E xe E<|g2 rfl rfl (λ_=>⟨E,xe⟩)<|z2 xw E<|g3 rfl rfl (λ_=>⟨E,xn,xe⟩)<|z2 xw E<|zg rfl rfl (λ_=>E)<|bB a λC u a=>zg rfl rfl (λj=>xJ (bM u j)) ?_;refine wg rfl rfl (λj=>ah.NU aY.h (dg.h C) rfl (dD rfl j)) ?_;refine g2 rfl rfl (λ_=>⟨xS,xe⟩)<|z2 xw E<|zg rfl rfl (λ_=>E)<|bB a λG z a=>zg rfl rfl (λj=>xJ (bM z j)) ?_;refine wg rfl rfl (λj=>ah.NU aY.h (dg.h G) rfl (dD rfl j)) ?_;refine g2 rfl rfl (λ_=>⟨xS,xe⟩)<|z2 xw E<|g4 rfl rfl (λ_=>⟨E,pC,E,pC⟩) ?_;refine wg rfl rfl (λj=>ah.Kj (dD rfl j) (dD rfl j))<|z2 xw I<|M<|zr ?_;cases a;exact az
theorem VF:C1 58 Pr .fl:=λz r j=>(cv [[]] func58) λ_ _=>by
 refine U<|zs (yb 10 aA)<|zo I<|zz<|zo I<|M<|za<|U<|zo I<|M<|zl<|bB j λB o j=>?_;refine lp o [1,7010] (λk (a,b)=>Z 3 a<|Z 4 b<|k) (λk b=>(.exit 0,Z 3 b<|k)) ?_ ?_
 .rintro⟨_,_⟩ w j;refine za<|U<|z5 E xf xl xn xi<|zo E<|g2 rfl rfl (λ_=>⟨E,xi⟩)<|zo xw<|M<|zd j (λu j=>?_) λu j=>?_
  .exact zk<|zt<|za<|zl<|zb<|z4 E xf xl E<|bB j λA q j=>z5 (xI q) xd xn n9 xy<|z2 xy I<|zw<|zh<|zt<|zb<|z3 E xy I<|zw<|zN j
  .exact ze<|zE<|zB j
 .intro _;refine zj<|zt<|U<|z5 xf xl xn xg E<|g4 rfl rfl (λ_=>⟨xf,xl,xn,xg⟩)<|z2 xo E<|g2 rfl rfl (λ_=>⟨E,xg⟩)<|z2 xo I<|M<|zr ?_;cases j;exact az
theorem Rv:C1 22 Io .fl:=λD r a=>(cv [[]] func22) λ_ _=>by
 refine U<|zo I<|M<|za<|U<|zo I<|M<|zl<|bB a λw q a=>?_;refine lp q [0] (λk s=>Z 3 s<|k) (λk=>Sum.elim (λb=>(.ret,Z 2 true<|k)) (λ_=>(.exit 0,k))) ?_ ?_
 .rintro z B a;refine za<|U<|z5 E E xn xi E<|g2 rfl rfl (λ_=>⟨E,xi⟩)<|zo xw<|M<|zd a (λj a=>?_) λj a=>?_
  .refine zk<|zt<|za<|zl<|U<|z2 E E<|bB a λA o a=>z2 (xI o) xd<|bB a λG u a=>zo (kC [0] 10 (VF _ u))<|M<|zd a (λj a=>?_) λj a=>?_
   .exact U<|zo I<|M<|zr<|zi<|zR<|zB a
   .exact zk<|zh<|zt<|zb<|z3 E xy I<|zw<|zN a
  .exact ze<|zE<|zB a
 .intro _;rcases w with C|J
  .have a:=fN a;refine zi<|zR ?_;cases a;exact az
  .have a:=fI a;refine zj<|zt<|U<|z4 E xn xg I<|M<|zr ?_;cases a;exact az
theorem Ze:C1 23 Hr .fl:=λj r a=>(cv [[]] func23) λ_ _=>by refine U<|zs (yb 10 aA)<|zo I<|zz<|z5 xf xl xn xg I<|M<|zr ?_;cases a;exact az
theorem Vf:C1 24 F4 .fl:=λK r a=>(cv [[]] func24) λ_ _=>by
 refine U<|zo I<|M<|za<|U<|z3 E xn xg<|M<|zd a (λj a=>?_) λj a=>?_
 .refine U<|zo I<|M<|zr<|zR ?_;cases a;exact az
 .refine zk<|zt<|za<|U<|zo I<|M<|zl<|bB a λJ o a=>?_;refine lp o [] (λk s=>W 0 (.rep [0] K)<|Z 3 s<|k) (λk=>Sum.elim (λb=>(.ret,Z 2 true<|k)) (λ_=>(.exit 0,k))) ?_ ?_
  .rintro aa ag a;refine za<|U<|z4 E E xn xi<|M<|zd a (λj a=>?_) λj a=>?_
   .refine zk<|zt<|za<|zl<|za<|U<|z2 E E<|bB a λac z a=>z5 (xI z) xp xp xd xn<|z2 xg E<|g2 rfl rfl (λ_=>⟨E,E⟩)<|bB a λX G a=>zg rfl rfl (λj=>xI (bM G (cS j)))<|g4 rfl rfl (λ_=>⟨xp,xd,xn,xg⟩)<|z2 xo E<|g2 rfl rfl (λ_=>⟨E,E⟩)<|bB a λad D a=>zg rfl rfl (λj=>xI (bM D (cS j)))<|g4 rfl rfl (λ_=>⟨xp,xd,xn,xg⟩)<|z2 xo E<|g2 rfl rfl (λ_=>⟨E,E⟩)<|bB a λY A a=>zg rfl rfl (λj=>xI (bM A (cS j)))<|g4 rfl rfl (λ_=>⟨xp,xd,xn,xg⟩)<|zo xo<|M<|zd a (λj a=>?_) λj a=>?_
    .exact U<|zo I<|M<|zr<|zR<|zi<|zR<|zB a
    .refine zk<|zt<|U<|zo I<|M<|zl<|bB a λC w a=>?_;refine lp w [0,3] (λk s=>Z 4 s<|k) (λk=>Sum.elim (λb=>(.ret,Z 2 true<|k)) (λ_=>(.exit 2,k))) ?_ ?_
     .rintro ae c8 a;refine za<|U<|z3 E E E<|bB a λaf B a=>z5 (xI B) xp xd xn xi<|M<|zd a (λj a=>?_) λj a=>?_
      .refine zk<|zt<|za<|zl<|U<|z2 E E<|bB a λQ u a=>z4 (xI u) xp xd E<|bB a λN q a=>z4 (xI q) xd xn xg<|M<|zd a (λj a=>?_) λj a=>?_
       .exact U<|zo I<|M<|zr<|zi<|zR<|zB a
       .exact zk<|zh<|zt<|zb<|z3 E xy I<|zw<|zN a
      .exact ze<|zE<|zB a
     .intro _;rcases C with V|L
      .have a:=fN a;exact zi<|zi<|zR<|zB a
      .have a:=fI a;exact zj<|zh<|zt<|zb<|z3 E xy I<|zw<|zN a
   .exact ze<|zE<|zB a
  .intro _;rcases J with S|O
   .have a:=fN a;refine zi<|zR ?_;cases a;exact az
   .have a:=fI a;refine zj<|zt<|U<|zo I<|M<|zr ?_;cases a;exact az
theorem Z7:C1 59 B' .fl:=λD r j=>(cv [[]] func59) λ_ _=>by
 refine U<|zs (yb 10 aA)<|zo I<|zz<|zo I<|M<|za<|U<|zo I<|M<|zl<|bB j λJ w j=>?_;refine lp w [1,4010] (λk (a,b)=>Z 3 a<|Z 4 b<|k) (λk b=>(.exit 0,Z 3 b<|k)) ?_ ?_
 .rintro⟨_,_⟩ B j;refine za<|U<|z5 E xf xl xn xi<|zo E<|g2 rfl rfl (λ_=>⟨E,xi⟩)<|zo xw<|M<|zd j (λo j=>?_) λo j=>?_
  .exact zk<|zt<|za<|zl<|zb<|z4 E xf xl E<|bB j λG z j=>z5 (xI z) xd xn n9 xy<|z2 xy I<|zw<|zh<|zt<|zb<|z3 E xy I<|zw<|zN j
  .exact ze<|zE<|zB j
 .intro _;refine zj<|zt<|za<|U<|zo I<|M<|zl<|bB j λA q j=>?_;refine lp q [1,4010] (λk (a,b)=>Z 3 a<|Z 5 b<|k) (λk b=>(.exit 2,Z 3 b<|k)) ?_ ?_
  .rintro⟨_,_⟩ c8 j;refine za<|U<|z5 E xf xl xn xi<|zo E<|g2 rfl rfl (λ_=>⟨E,xi⟩)<|zo xw<|M<|zd j (λo j=>?_) λo j=>?_
   .exact zk<|zt<|za<|zl<|zb<|z4 E xf xl E<|bB j λC u j=>z5 (xI u) xp xd xn n9<|z3 xy xy I<|zw<|zh<|zt<|zb<|z2 E xy<|zo I<|zw<|zN j
   .exact ze<|zE<|zB j
  .intro _;refine zj<|zt<|U<|z5 xf xl xn xg E<|g4 rfl rfl (λ_=>⟨xf,xl,xn,xg⟩)<|z2 xo E<|g2 rfl rfl (λ_=>⟨E,xg⟩)<|z2 xo I<|M<|zr ?_;cases j;exact az
theorem W4:C1 25 yr .fl:=λag r j=>(cv [[]] func25) λ_ _=>by
 refine U<|zo I<|zz<|zo I<|M<|za<|U<|zo I<|M<|zl<|bB j λG B j=>?_;refine lp B [0] (λk (a,b)=>Z 3 a<|Z 4 b<|k) (λk=>Sum.elim (λb=>(.ret,Z 2 true<|k)) (λ_=>(.exit 0,k))) ?_ ?_
 .rintro⟨_,_⟩ ad j;refine za<|U<|z5 E E xn xi E<|g2 rfl rfl (λ_=>⟨E,xi⟩)<|zo xw<|M<|zd j (λo j=>?_) λo j=>?_
  .refine zk<|zt<|za<|zl<|za<|U<|z2 E E<|bB j λae L j=>z2 (xI L) xd<|bB j λaf K j=>zo (kC [0] 10 (Z7 _ K))<|M<|zd j (λo j=>?_) λo j=>?_
   .exact U<|zo I<|M<|zr<|zR<|zi<|zR<|zB j
   .refine zk<|zt<|za<|U<|zo I<|M<|zl<|bB j λW D j=>?_;refine lp D [0,4] (λk (a,b)=>Z 3 a<|Z 5 b<|k) (λk b=>(.exit 2,Z 3 b<|k)) ?_ ?_
    .rintro⟨_,_⟩ c8 j;refine za<|U<|z3 E E E<|bB j λak J j=>z5 (xI J) xp xd xn xi<|M<|zd j (λo j=>?_) λo j=>?_
     .exact zk<|zt<|za<|zl<|zb<|z3 E E E<|bB j λaa w j=>z4 (xI w) xp xd E<|bB j λS u j=>z5 (xI u) xd xn xy xy<|zo I<|zw<|zh<|zt<|zb<|z3 E xy I<|zw<|zN j
     .exact ze<|zE<|zB j
    .intro _;refine zj<|zt<|za<|U<|zo I<|M<|zl<|bB j λY A j=>?_;refine lp A [0,4] (λk (a,b)=>Z 3 a<|Z 6 b<|k) (λk b=>(.exit 4,Z 3 b<|k)) ?_ ?_
     .rintro⟨_,_⟩ X j;refine za<|U<|z3 E E E<|bB j λac q j=>z5 (xI q) xp xd xn xi<|M<|zd j (λo j=>?_) λo j=>?_
      .exact zk<|zt<|za<|zl<|zb<|z3 E E E<|bB j λO z j=>z4 (xI z) xp xd E<|bB j λV C j=>z5 (xI C) xp xd xn xy<|z2 xy I<|zw<|zh<|zt<|zb<|z3 E xy I<|zw<|zN j
      .exact ze<|zE<|zB j
     .intro _;refine zj<|zt<|U<|z2 E xg<|M<|zd j (λo j=>?_) λo j=>?_
      .exact U<|zo I<|M<|zr<|zi<|zR<|zB j
      .exact zk<|zh<|zt<|zb<|z3 E xy I<|zw<|zN j
  .exact ze<|zE<|zB j
 .intro _;rcases G with Q|N
  .have j:=fN j;refine zi<|zR ?_;cases j;exact az
  .have j:=fI j;refine zj<|zt<|U<|z4 E xn xg I<|M<|zr ?_;cases j;exact az
theorem RL:C2 10 G6 .fl:=λD A r a=>(cv [[]] func10) λ_ _=>by refine U<|zs (yb 10 ck)<|zo I<|zz<|z2 xf xl<|bB a λC w a=>z2 (kC [0] 34 (Rv _ w)) E<|g2 rfl rfl (λ_=>⟨xf,xP⟩)<|bB a λz u a=>zg rfl rfl (λj=>kC [0] 35 (Ze _ (bM u (cS j))))<|z2 xo E<|g2 rfl rfl (λ_=>⟨xf,xl⟩)<|bB a λB o a=>zg rfl rfl (λj=>kC [0] 36 (Vf _ (bM o (cS j))))<|z2 xo E<|zg rfl rfl (λ_=>E)<|bB a λG q a=>zg rfl rfl (λj=>kC [0] 37 (W4 _ (bM q (cS j))))<|z2 xo I<|M<|zr ?_;cases a;exact az
theorem SA:C1 5 C' .fl:=λq r a=>(cv [[]] func5) λ_ _=>by refine U<|zs (yb 10 ck)<|zo I<|zz<|z4 xf hX xf xl<|bB a λo j a=>z2 (kC [0] 36 (RL _ _ j)) I<|M<|zr ?_;cases a;exact az
theorem Tj:C1 7 Ak (s2 (.own 0 none 145)):=λz r a=>(cv [[64]] func7) λ_ _=>by refine U<|zs (yb 10 ck)<|z2 I I<|M<|za<|U<|zo xR<|bB a λw o a=>z2 (kC [0] 36 (Iz _ o)) I<|zz<|z2 E xq<|M<|zx a λq a=>zk<|zt<|za<|U<|z3 xf xl xN<|M<|zx a λq a=>zk<|zt<|U<|z2 xR bU<|zs (yb 37 bT)<|bB a λu j a=>z3 (kC [0,37] 64 (KU _ j)) I I<|M<|zr ?_;cases a;exact bC
theorem RO:C4 3 zM .fl:=λL B K J r a=>(cv [[]] func3) λ_ _=>by
 refine U<|zs (yb 10 aA)<|zo I<|zz<|bB a λG z a=>z2 (kC [] 17 (VI z)) I<|zz<|z5 xr E bU E bU<|zs (ya 18)<|zs (yo bT)<|M<|za<|U<|zo xR<|bB a λA w a=>z2 (kC [0] 44 (SA _ w)) E<|g2 rfl rfl (λ_=>⟨E,xN⟩)<|zo xo<|M<|zd a (λj a=>?_) λj a=>?_
 .refine U<|z2 E I<|M<|zr<|zR ?_;cases a;exact az
 .refine zk<|zt<|U<|z2 xR bU<|bB a λC o a=>z5 (kC [0] 45 (FC _ _ o)) E eJ eI eL<|zs (ya 48)<|zs (yo dW)<|z2 I I<|M<|za<|U<|z2 E xq<|M<|zd a (λj a=>?_) λj a=>?_
  .refine U<|z4 xf xl xN E<|g4 rfl rfl (λ_=>⟨xf,xl,xn,xe⟩)<|z2 xw I<|M<|zr<|zR ?_;cases a;exact az
  .refine zk<|zt<|U<|z4 xR E (eF (β:=Int)) bU<|bB a λN u a=>z5 (kC [0,45] 74 (FC _ _ u)) E eJ eI eL<|zs (ya 77)<|zs (yo dW)<|z2 I I<|M<|za<|U<|z2 E xq<|M<|zd a (λj a=>?_) λj a=>?_
   .refine U<|z3 E xe E<|g2 rfl rfl (λ_=>⟨E,xe⟩)<|z2 xo I<|M<|zr<|zR ?_;cases a;exact az
   .refine zk<|zt<|U<|zo xR<|bB a λD q a=>z5 (kC [0,45,74] 103 (Tj _ q)) E aC aB I<|zo I<|zz<|z3 xf xl E<|g2 rfl rfl (λ_=>⟨E,xe⟩)<|z2 xw E<|g4 rfl rfl (λ_=>⟨E,xn,xe,xM⟩)<|zu rfl rfl (λ_=>xf)<|zu rfl rfl (λ_=>xf)<|zu rfl rfl (λ_=>xf)<|zu rfl rfl (λ_=>xl)<|zu rfl rfl (λ_=>xn)<|zu rfl rfl (λ_=>xe)<|g2 rfl rfl (λ_=>⟨xW,xM⟩)<|zu rfl rfl (λ_=>xf)<|zu rfl rfl (λ_=>xf)<|zu rfl rfl (λ_=>xf)<|zu rfl rfl (λ_=>xl)<|zu rfl rfl (λ_=>xH)<|zg rfl rfl (λ_=>xO)<|z2 xw I<|M<|zr ?_;cases a;exact az
end
end
end Go.Proofs.YthpphdegpinepaaGreat
