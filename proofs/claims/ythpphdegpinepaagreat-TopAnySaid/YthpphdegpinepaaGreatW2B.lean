/- Part of the proof of TopAny. -/
import Derived.Test.YthpphdegpinepaaGreatW2
namespace Go.Proofs.YthpphdegpinepaaGreat
open Go GL Tryz
open Go.Proofs.Tryz renaming prog -> H
open And renaming left -> iw, right -> jr
open Option renaming map_eq_some_iff -> iK, map -> sU
open List renaming nodup_append -> vp
set_option linter.all false
set_option maxRecDepth 100000
set_option maxHeartbeats 20000000
noncomputable section
theorem JR{G:List It}{s i k:Nat}{done:List Nat}{x:UInt32}(h:k∈done)(e:GL.ay G s=some (.at i (.rep [] (uk done k x)))):Has G (.tmp s) (.at i (.rep [] x)):=by
 have:uk done k x=x:=by unfold uk;rw[show done.contains k=true by simpa using h];rfl
 rw[this]at e;exact ai e
theorem I8:OM H 406 405 3:=by obtain⟨o,j,a⟩:=iK.1 (by kernel_rfl:(Tryz.prog.info? 23).map (·.size)=some 1);exact⟨underlying406,23,o,underlying405,j,by rw[a];decide⟩
theorem TW:C1 250 Dt (s2 .fl):=λW r j=>(cv [[]] func250) λ_ _=>by
 refine U<|zs (ya 10)<|zo I<|M<|bB j λX al j=>?_;have ac:(X.2 !=(0:Int))=false:=by cases h:(X.2 !=(0:Int))with|true=>exact nomatch iG h j|false=>rfl
 have j:=iP ac j;refine bB j λO ag j=>?_;have Z:(O.2 !=(0:Int))=false:=by cases h:(O.2 !=(0:Int))with|true=>exact nomatch iG h j|false=>rfl
 have j:=iP Z j;refine bB j λV af j=>?_;have ad:(V.2 !=(0:Int))=false:=by cases h:(V.2 !=(0:Int))with|true=>exact nomatch iG h j|false=>rfl
 have j:=iP ad j;refine za ?_;refine aO.XP (S:=(Nat->Bool)×List Nat) (λs=>[.ae 4 (.wh (s.1 8) (.aL 30)), .ae 15 (.wh (s.1 7) (.aL 30)), .ae 14 (.wh (s.1 5) (.cJ 10 2)), .ae 13 (.wh (s.1 3) (.cJ 10 1)), .ae 12 (.wh (s.1 1) (.cJ 10 0)), .ae 11 (.wh (s.1 0) (.aL 30)), .ae (rs 30) (.wh (s.1 0) (.oN 30 10 nL s.2)), .ae 0 (.rep [0] W), .ae 2 (.aL 10), .ae (rs 10) (.obj 10 [(false,1),(false,1),(false,1),(false,1)]), .ae (rs 11) (.at 11 (.rep [] (0:UInt32))), .ae (rs 12) (.at 12 (.rep [] (0:UInt32))), .ae (rs 13) (.at 13 (.rep [] (0:UInt32))), .ae (rs 14) (.at 14 (.rep [] (0:Int)))]) RU (λ_=>false,[]) (by kernel_rfl) (by kernel_rfl) ?_ ⟨rfl,List.nodup_nil,by simp,by simp,by simp⟩ ?_ ?_
 . (repeat(first|refine sn ?_|refine Sub.cons (aV (ai rfl) Cv.jW) ?_|refine Sub.cons (Has.fw (by assumption)) ?_|refine Sub.cons (Has.fw rfl) ?_));exact Sub.nil
 . rintro⟨L,ks⟩ _ i o ⟨rfl,l1,l2,K,ao⟩ ho hu C a w env;dsimp only at l1 l2 K ao hu C env
   match i,ho with
   |0,ho=>
    obtain rfl:=Option.some.inj ho;obtain⟨rfl,q7,q8⟩:=K hu;refine λz Q u=>(au.Wl (t:=10) 30 nL rfl rfl rfl rfl) _ (λ_ _ _ h=>h) a w env z Q λv w' e=>u v w' ⟨(_,[]),⟨rfl,List.nodup_nil,λk=>?_,λh=>by simp at h,λ_=>rfl⟩,e.sub ?_⟩
    .have:=l2 k;grind
    . (repeat(first|refine sn ?_|refine Sub.cons (aV (ai rfl) Cv.jW) ?_|refine Sub.cons (Has.fw (by assumption)) ?_|refine Sub.cons (Has.fw rfl) ?_));exact Sub.nil
   |1,ho=>
    obtain rfl:=Option.some.inj ho;refine λz Q u=>(au.u_ rfl (ah.nm Ro (aV (ai rfl) (Cv.eG rfl)))) _ (λ_ _ _ h=>h) a w env z Q λv w' e=>u v w' ⟨(_,ks),⟨rfl,l1,λk=>?_,λh=>?_,λh=>?_⟩,e.sub ?_⟩
    .have:=l2 k;grind
    .have:=K (by grind);grind
    .grind
    . (repeat(first|refine sn ?_|refine Sub.cons (aV (ai rfl) Cv.jW) ?_|refine Sub.cons (Has.fw (by assumption)) ?_|refine Sub.cons (Has.fw rfl) ?_));exact Sub.nil
   |3,ho=>
    obtain rfl:=Option.some.inj ho;refine λz Q u=>(au.u_ rfl (ah.nm SX (aV (ai rfl) (Cv.eG rfl)))) _ (λ_ _ _ h=>h) a w env z Q λv w' e=>u v w' ⟨(_,ks),⟨rfl,l1,λk=>?_,λh=>?_,λh=>?_⟩,e.sub ?_⟩
    .have:=l2 k;grind
    .have:=K (by grind);grind
    .grind
    . (repeat(first|refine sn ?_|refine Sub.cons (aV (ai rfl) Cv.jW) ?_|refine Sub.cons (Has.fw (by assumption)) ?_|refine Sub.cons (Has.fw rfl) ?_));exact Sub.nil
   |5,ho=>
    obtain rfl:=Option.some.inj ho;refine λz Q u=>(au.u_ rfl (ah.nm V' (aV (ai rfl) (Cv.eG rfl)))) _ (λ_ _ _ h=>h) a w env z Q λv w' e=>u v w' ⟨(_,ks),⟨rfl,l1,λk=>?_,λh=>?_,λh=>?_⟩,e.sub ?_⟩
    .have:=l2 k;grind
    .have:=K (by grind);grind
    .grind
    . (repeat(first|refine sn ?_|refine Sub.cons (aV (ai rfl) Cv.jW) ?_|refine Sub.cons (Has.fw (by assumption)) ?_|refine Sub.cons (Has.fw rfl) ?_));exact Sub.nil
   |2,ho=>
    obtain rfl:=Option.some.inj ho;have B:L 0=true:=C ⟨0, .data⟩ (by simp) rfl;have J:L 1=true:=C ⟨1, .data⟩ (by simp) rfl;have D:0∉ks:=λh=>by have:=(l2 0).1 h;grind
    refine λz Q u=>(au.EW (T:=[]) (t:=10) (c:=nL) (ks:=ks) (k0:=0) I8 rfl (Has.nv B rfl) (λa w g N=>(show(aa.wh (L 0) (aa.oN 30 10 nL ks)).p g _ w from N (rs 30) _ rfl) B) (Has.nv J rfl) e_ D) _ (λ_ _ _ h=>h) a w env z Q λv w' e=>u v w' ⟨(_,ks++[0]),⟨rfl,vp.2 ⟨l1,by simp,by grind⟩,λk=>?_,λh=>?_,λh=>?_⟩,e.sub ?_⟩
    .have:=l2 k;grind
    .grind
    .grind
    . (repeat(first|refine sn ?_|refine Sub.cons (aV (ai rfl) Cv.jW) ?_|refine Sub.cons (Has.fw (by assumption)) ?_|refine Sub.cons (Has.fw rfl) ?_));exact Sub.nil
   |4,ho=>
    obtain rfl:=Option.some.inj ho;have B:L 0=true:=C ⟨0, .data⟩ (by simp) rfl;have J:L 3=true:=C ⟨3, .data⟩ (by simp) rfl;have D:1∉ks:=λh=>by have:=(l2 1).1 h;grind
    refine λz Q u=>(au.EW (T:=[]) (t:=10) (c:=nL) (ks:=ks) (k0:=1) I8 rfl (Has.nv B rfl) (λa w g N=>(show(aa.wh (L 0) (aa.oN 30 10 nL ks)).p g _ w from N (rs 30) _ rfl) B) (Has.nv J rfl) e_ D) _ (λ_ _ _ h=>h) a w env z Q λv w' e=>u v w' ⟨(_,ks++[1]),⟨rfl,vp.2 ⟨l1,by simp,by grind⟩,λk=>?_,λh=>?_,λh=>?_⟩,e.sub ?_⟩
    .have:=l2 k;grind
    .grind
    .grind
    . (repeat(first|refine sn ?_|refine Sub.cons (aV (ai rfl) Cv.jW) ?_|refine Sub.cons (Has.fw (by assumption)) ?_|refine Sub.cons (Has.fw rfl) ?_));exact Sub.nil
   |6,ho=>
    obtain rfl:=Option.some.inj ho;have B:L 0=true:=C ⟨0, .data⟩ (by simp) rfl;have J:L 5=true:=C ⟨5, .data⟩ (by simp) rfl;have D:2∉ks:=λh=>by have:=(l2 2).1 h;grind
    refine λz Q u=>(au.EW (T:=[]) (t:=10) (c:=nL) (ks:=ks) (k0:=2) I8 rfl (Has.nv B rfl) (λa w g N=>(show(aa.wh (L 0) (aa.oN 30 10 nL ks)).p g _ w from N (rs 30) _ rfl) B) (Has.nv J rfl) e_ D) _ (λ_ _ _ h=>h) a w env z Q λv w' e=>u v w' ⟨(_,ks++[2]),⟨rfl,vp.2 ⟨l1,by simp,by grind⟩,λk=>?_,λh=>?_,λh=>?_⟩,e.sub ?_⟩
    .have:=l2 k;grind
    .grind
    .grind
    . (repeat(first|refine sn ?_|refine Sub.cons (aV (ai rfl) Cv.jW) ?_|refine Sub.cons (Has.fw (by assumption)) ?_|refine Sub.cons (Has.fw rfl) ?_));exact Sub.nil
   |7,ho=>
    obtain rfl:=Option.some.inj ho;have B:L 0=true:=C ⟨0, .data⟩ (by simp) rfl;refine λz Q u=>(au.u_ rfl (ah.move (Has.nv B rfl))) _ (λ_ _ _ h=>h) a w env z Q λv w' e=>u v w' ⟨(_,ks),⟨rfl,l1,λk=>?_,λh=>?_,λh=>?_⟩,e.sub ?_⟩
    .have:=l2 k;grind
    .grind
    .grind
    . (repeat(first|refine sn ?_|refine Sub.cons (aV (ai rfl) Cv.jW) ?_|refine Sub.cons (Has.fw (by assumption)) ?_|refine Sub.cons (Has.fw rfl) ?_));exact Sub.nil
   |8,ho=>
    obtain rfl:=Option.some.inj ho;have B:L 0=true:=C ⟨0, .phase⟩ (by simp) rfl;have ap:L 7=true:=C ⟨7, .data⟩ (by simp) rfl;refine λz Q u=>(au.u_ rfl (ah.assign (Has.nv ap rfl))) _ (λ_ _ _ h=>h) a w env z Q λv w' e=>u v w' ⟨(_,ks),⟨rfl,l1,λk=>?_,λh=>?_,λh=>?_⟩,e.sub ?_⟩
    .have:=l2 k;grind
    .grind
    .grind
    . (repeat(first|refine sn ?_|refine Sub.cons (aV (ai rfl) Cv.jW) ?_|refine Sub.cons (Has.fw (by assumption)) ?_|refine Sub.cons (Has.fw rfl) ?_));exact Sub.nil
   |n+9,ho=>exact nomatch ho
 rintro⟨L,ks⟩ _ ⟨rfl,l1,l2,_,_⟩ G;dsimp only at l1 l2 G;have ak:∀k,k∈ks↔k<3:=λk=>by rw[l2 k];exact⟨λh=>h.1,λh=>⟨h,G _ (by simp;omega)⟩⟩
 refine aH.sub (G':=[.ae 4 (.aL 30), .ae (rs 30) (.Mh 30 10 nL 3), .ae 0 (.rep [0] W), .ae 2 (.aL 10), .ae (rs 10) (.obj 10 [(false,1),(false,1),(false,1),(false,1)]), .ae (rs 11) (.at 11 (.rep [] (0:UInt32))), .ae (rs 12) (.at 12 (.rep [] (0:UInt32))), .ae (rs 13) (.at 13 (.rep [] (0:UInt32))), .ae (rs 14) (.at 14 (.rep [] (0:Int)))]) (Sub.cons (Has.nv (G 8 (by decide)) rfl) (Sub.cons (aV (Has.nv (G 0 (by decide)) rfl) λ_ _ _ _ _ h=>⟨ks,l1,ak,h⟩) (by(repeat(first|refine sn ?_|refine Sub.cons (aV (ai rfl) Cv.jW) ?_|refine Sub.cons (Has.fw (by assumption)) ?_|refine Sub.cons (Has.fw rfl) ?_));exact Sub.nil))) ?_;refine zt<|za<|U<|zo E ?_;refine ws (au.Zh 31 underlying406 rfl rfl rfl rfl (ai rfl) rfl) ?_;refine M<|zl ?_;refine aO.RE (λdone=>[.ae 17 (.aL 31), .ae (rs 31) (.rq 30 31 10 nL 3 done none), .ae 0 (.rep [0] W), .ae 2 (.aL 10), .ae (rs 10) (.obj 10 [(false,1),(false,1),(false,1),(false,1)]), .ae (rs 11) (.at 11 (.rep [] (uk done 0 (dP.of X.1)))), .ae (rs 12) (.at 12 (.rep [] (uk done 1 (dP.of O.1)))), .ae (rs 13) (.at 13 (.rep [] (uk done 2 (dP.of V.1)))), .ae (rs 14) (.at 14 (.rep [] (0:Int)))]) [.ae 0 (.rep [0] W), .ae 2 (.aL 10), .ae (rs 10) (.obj 10 [(false,1),(false,1),(false,1),(false,1)]), .ae (rs 11) (.at 11 (.rep [] (dP.of X.1))), .ae (rs 12) (.at 12 (.rep [] (dP.of O.1))), .ae (rs 13) (.at 13 (.rep [] (dP.of V.1))), .ae (rs 14) (.at 14 (.rep [] (0:Int)))] 3 0 ?_ (λdone=>?_) ?_
 . (repeat(first|refine sn ?_|refine Sub.cons (aV (ai rfl) Cv.jW) ?_|refine Sub.cons (Has.fw (by assumption)) ?_|refine Sub.cons (Has.fw rfl) ?_));exact Sub.nil
 . refine U ?_;refine br.Rj (t:=10) (q:=30) (r:=31) rfl (ai rfl) rfl rfl (λG=>?_) λk Y D=>?_
   .refine wo (ah.Vc (ai rfl)) ?_;refine M<|za ?_;refine aO.cond (b:=false) rfl (λh=>nomatch h) λ_=>?_;refine ze<|zE ?_;refine λa w e=> .inr ⟨rfl,e.sub ?_⟩;refine Sub.cons (ai rfl) (Sub.cons (ai rfl) (Sub.cons (ai rfl) (Sub.cons (JR (G 0 (by decide)) rfl) (Sub.cons (JR (G 1 (by decide)) rfl) (Sub.cons (JR (G 2 (by decide)) rfl) (by(repeat(first|refine sn ?_|refine Sub.cons (aV (ai rfl) Cv.jW) ?_|refine Sub.cons (Has.fw (by assumption)) ?_|refine Sub.cons (Has.fw rfl) ?_));exact Sub.nil))))))
   .rcases(by omega:k=0\/k=1\/k=2)with rfl|rfl|rfl
    .refine wo (ah.HQ (ai rfl)) ?_;refine M<|za ?_;refine aO.cond (b:=true) rfl (λ_=>?_) λh=>nomatch h;refine zk<|zt<|zl<|U ?_;refine wo (ah.IX (ai rfl) rfl) ?_;refine z4 aC aB I I<|zz<|z5 E E (kC [0] 15 (sm _ _ _ al)) E aC<|z3 aB I I<|M<|za<|U<|z2 E xq<|M ?_;refine aO.cond rfl (λA=>?_) (λA=>?_)
     .rw[ac]at A;cases A
     refine zk<|zt<|zb<|z3 E E (eF (β:=UInt32)) ?_;refine wo (ah.mW (ai rfl)) ?_;refine zs (yt)<|zw<|zh ?_;exact λa w e=> .inl ⟨rfl,0,Y,D,e.sub (sn (Sub.cons (aV (ai rfl) Cv.Ji) (by(repeat(first|refine sn ?_|refine Sub.cons (aV (ai rfl) Cv.jW) ?_|refine Sub.cons (Has.fw (by assumption)) ?_|refine Sub.cons (Has.fw rfl) ?_));exact Sub.nil)))⟩
    .refine wo (ah.HQ (ai rfl)) ?_;refine M<|za ?_;refine aO.cond (b:=true) rfl (λ_=>?_) λh=>nomatch h;refine zk<|zt<|zl<|U ?_;refine wo (ah.IX (ai rfl) rfl) ?_;refine z4 aC aB I I<|zz<|z5 E E (kC [0] 16 (sm _ _ _ ag)) E aC<|z3 aB I I<|M<|za<|U<|z2 E xq<|M ?_;refine aO.cond rfl (λA=>?_) (λA=>?_)
     .rw[Z]at A;cases A
     refine zk<|zt<|zb<|z3 E E (eF (β:=UInt32)) ?_;refine wo (ah.mW (ai rfl)) ?_;refine zs (yt)<|zw<|zh ?_;exact λa w e=> .inl ⟨rfl,1,Y,D,e.sub (sn (Sub.cons (aV (ai rfl) Cv.Ji) (by(repeat(first|refine sn ?_|refine Sub.cons (aV (ai rfl) Cv.jW) ?_|refine Sub.cons (Has.fw (by assumption)) ?_|refine Sub.cons (Has.fw rfl) ?_));exact Sub.nil)))⟩
    .refine wo (ah.HQ (ai rfl)) ?_;refine M<|za ?_;refine aO.cond (b:=true) rfl (λ_=>?_) λh=>nomatch h;refine zk<|zt<|zl<|U ?_;refine wo (ah.IX (ai rfl) rfl) ?_;refine z4 aC aB I I<|zz<|z5 E E (kC [0] 17 (sm _ _ _ af)) E aC<|z3 aB I I<|M<|za<|U<|z2 E xq<|M ?_;refine aO.cond rfl (λA=>?_) (λA=>?_)
     .rw[ad]at A;cases A
     refine zk<|zt<|zb<|z3 E E (eF (β:=UInt32)) ?_;refine wo (ah.mW (ai rfl)) ?_;refine zs (yt)<|zw<|zh ?_;exact λa w e=> .inl ⟨rfl,2,Y,D,e.sub (sn (Sub.cons (aV (ai rfl) Cv.Ji) (by(repeat(first|refine sn ?_|refine Sub.cons (aV (ai rfl) Cv.jW) ?_|refine Sub.cons (Has.fw (by assumption)) ?_|refine Sub.cons (Has.fw rfl) ?_));exact Sub.nil)))⟩
 refine zj<|zt<|U<|zo E<|bB j λaq an j=>z5 (kC [0] 18 (sm _ _ _ an)) E aC aB xf<|zs (yt)<|M<|za<|U<|zo xr<|bB j λar am j=>z5 (kC [] 19 (AI _ am)) E aC aB I<|zo I<|zz<|zo E<|z2 xq E<|g4 rfl rfl (λ_=>⟨E,pC (hx:=aV (dD rfl (by assumption)) (Cv.iR (T':=[19]) rfl rfl)),E,pC⟩) ?_;refine wg rfl rfl (λA=>ah.Qo (dD rfl A) (dD rfl A)) ?_;refine zo xo<|M<|zd j (λA j=>?_) λA j=>?_
 .refine U<|zo bU<|zs (yo aF)<|zo I<|M<|zr<|zR ?_;cases j;exact bC
 .refine zk<|zt<|U<|zo xr<|zs (yo aF)<|zo I<|M<|zr ?_;cases j;exact bC
section
attribute [local irreducible] aO br aH GL.ah GL.au
theorem R0:C2 222 C0 (s2 .fl):=λD A r a=>(cv [[]] func222) λ_ _=>by
 refine U<|zs (yb 10 aA)<|zs (yb 17 aA)<|zs (ya 21)<|zo I<|zz<|zo xr<|bB a λC w a=>z5 (kC [] 26 (BO _ w)) E aC aB I<|zo I<|M<|za<|U<|z2 E xq<|M<|zx a λj a=>zk<|zt<|za<|U<|zo xr<|bB a λz u a=>z3 (kC [0] 27 (uj _ u)) xq E<|g4 rfl rfl (λ_=>⟨xf,xl,xn,E⟩)<|zg rfl rfl (λ_=>xq)<|zo xo<|M<|zx a λj a=>zk<|zt<|U<|zo xr<|bB a λB o a=>z5 (kC [0] 28 (w8 _ _ o)) E aC aB I<|zo I<|M<|za<|U<|z2 E xq<|M<|zd a (λj a=>?_) λj a=>?_
 .refine U<|z2 bU E<|zs (yo aF)<|zo I<|M<|zr<|zR ?_;cases a;exact bC
 .refine zk<|zt<|U<|zo E<|bB a λG q a=>z4 (kC [28] 29 (TW _ q)) E aC aB<|zs (ya 30)<|zs (yo aA)<|zo I<|M<|za<|U<|z3 E xq E<|g4 rfl rfl (λ_=>⟨xf,xl,xf,xl⟩)<|zg rfl rfl (λ_=>pT)<|zo xo<|zo E<|g4 rfl rfl (λ_=>⟨xf,xl,xf,xl⟩)<|zg rfl rfl (λ_=>xh)<|zo xo<|M<|zd a (λj a=>?_) λj a=>?_
  .refine U<|zo bU<|zs (yo aF)<|zo I<|M<|zr<|zR ?_;cases a;exact bC
  .refine zk<|zt<|U<|zo xr<|zs (yo aF)<|zo I<|M<|zr ?_;cases a;exact bC
theorem Oi:C2 296 BA .fl:=λj o r a=>(cv [[]] func296) λ_ _=>by refine U<|zo I<|zz<|z3 E xh E<|g2 rfl rfl (λ_=>⟨E,xj⟩)<|z2 xw E<|g2 rfl rfl (λ_=>⟨E,xh⟩)<|z2 xw E<|g3 rfl rfl (λ_=>⟨E,E,xi⟩)<|z2 xw I<|M<|zr ?_;cases a;exact az
theorem Xn:C4 277 Hs (s2 .fl):=λB w A z r a=>(cv [[]] func277) λ_ _=>by
 refine U<|z2 I I<|zz<|z2 E I<|M ?_;refine jn a (Dz B w A z) [0,1,2,3] (λk p=>Z 10 p<|k) ?_ ?_
 .rintro C a;refine za<|U<|z2 E E<|bB a λD u a=>z3 (kC [] 10 (Oi _ _ u)) xN E<|g2 rfl rfl (λ_=>⟨E,E⟩)<|bB a λG o a=>zg rfl rfl (λj=>kC [] 11 (Oi _ _ (bM o (cS j))))<|zg rfl rfl (λ_=>xN)<|zo xo<|M<|zx a λj a=>zk<|zt<|U<|z2 E I<|M<|za<|U<|z2 E xb<|M<|zx a λj a=>zk<|zt<|U<|z4 E E xy E<|bB a λJ q a=>?_;refine wo (ah.mI q (ai rfl) (ai rfl))<|z2 I I<|M<|zr ?_;cases a;exact bC
 .refine U<|z2 E xb<|M<|zd a (λj a=>?_) λj a=>?_
  .exact U<|z4 E xz Z6 I<|zz<|z2 E xi<|M<|zx a λj a=>zk<|zJ _ a
  .exact zk<|zJ _ a
theorem tt:C3 253 oo (s2 .fl):=λw o u r a=>(cv [[]] func253) λ_ _=>by refine U<|z2 I I<|zz<|z3 E E E<|bB a λq j a=>z5 (kC [] 10 (Xn _ _ _ _ j)) aC aB I I<|M<|zr ?_;cases a;exact bC
theorem Sf:C1 304 Bx .fl:=λB r j=>(cv [[]] func304) λ_ _=>by
 refine U<|zs (yb 10 aA)<|zo I<|zz<|zo I<|zz<|z5 xf xl xn xh E<|g4 rfl rfl (λ_=>⟨xf,xl,xn,xj⟩)<|z2 xw E<|g3 rfl rfl (λ_=>⟨xf,xl,xH⟩)<|z2 xw E<|g2 rfl rfl (λ_=>⟨xf,xl⟩)<|zg rfl rfl (λ_=>rf)<|z2 xw E<|g3 rfl rfl (λ_=>⟨xf,xl,xH⟩)<|z2 xw E<|g3 rfl rfl (λ_=>⟨xf,xl,rf⟩)<|z2 xw E<|g3 rfl rfl (λ_=>⟨xf,xl,xh⟩)<|z2 xw E<|g3 rfl rfl (λ_=>⟨xf,xl,xi⟩)<|z2 xw I<|M<|za<|U<|z4 xf xl xn E<|M<|zl<|bB j λA u j=>?_;refine lp u [1,50,51,6010] (λk (a,b,c)=>Z 3 a<|Z 4 b<|Z 52 c<|k) (λk b=>(.exit 0,Z 4 b<|k)) ?_ ?_
 .rintro⟨_,_,_⟩ w j;refine U<|zo xi<|M<|za<|zd j (λo j=>?_) λo j=>?_
  .exact zk<|zt<|za<|zl<|U<|zo E<|bB j λz q j=>z2 (xI q) xD<|zs (ya 16)<|zo I<|zs (yo aA)<|zz<|z4 xf xl (eF (β:=Int)) I<|zz<|z3 E xe E<|g2 rfl rfl (λ_=>⟨E,xg⟩)<|zo xw<|zo E<|g4 rfl rfl (λ_=>⟨E,xf,xl,xn⟩)<|g2 rfl rfl (λ_=>⟨xz,xe⟩)<|z2 xw I<|zz<|z2 E E<|g3 rfl rfl (λ_=>⟨E,E,xg⟩)<|z2 xw E<|g2 rfl rfl (λ_=>⟨E,xM⟩)<|zu rfl rfl (λ_=>E)<|zu rfl rfl (λ_=>xj)<|zg rfl rfl (λ_=>xO)<|z2 xw I<|M<|zb<|z2 E I<|zw<|zh<|zt<|zb<|z2 xy E<|zw<|zN j
  .exact ze<|zE<|zB j
 .intro _;refine zj<|zt<|za<|U<|z2 E xN<|M<|zd j (λo j=>?_) λo j=>?_
  .refine U<|zo I<|M<|zr<|zR ?_;cases j;exact az
  .refine zk<|zt<|U<|zo I<|M<|zr ?_;cases j;exact az
theorem uS:C4 305 oj (.rep 0) [0]:=λJ A G C r j=>(cv [[0,10]] func305) λ_ _=>by
 refine U<|zo I<|M<|za<|U<|z3 E xn E<|M<|zl<|bB j λD u j=>?_;refine lp u [1,2,11,12] (λk (a,b)=>W 0 (.rep [0,10] a)<|Z 13 b<|k) (λk b=>(.exit 0,W 0 (.rep [0,10] b)<|k)) ?_ ?_
 .rintro⟨_,_⟩ z j;refine U<|zo xi<|M<|za<|zd j (λw j=>?_) λw j=>?_
  .exact zk<|zt<|za<|zl<|U<|zo E<|bB j λK q j=>z4 (xI q) xD I I<|M<|zb<|z5 E E E E xk<|z3 xy E E<|bB j λB o j=>z2 (kC [0,10] 10 (Dq _ _ _ _ o)) E<|z3 aC aB I<|zw<|zh<|zt<|zb<|z2 xy E<|zw<|zN j
  .exact ze<|zE<|zB j
 .intro _;refine zj<|zt<|U<|z2 E I<|M<|zr ?_;cases j;exact az
theorem Kn:C1 292 xV (s2 (.rep 0)):=by
 intro q r j;refine oA [[17,18,21,22,23,24,33,34,35,36,38,39]] 72 func292 rfl rfl rfl rfl (λw0 om=>?_);refine aO.sub (G':=[.ae 0 (.rep [0] (q:iO))]) (sn Sub.nil)<|U<|zs (yb 10 aA)<|z2 I I<|M<|za<|U<|zo xr<|bB j λaE Q j=>z2 (kC [0] 16 (Sf _ Q)) I<|zz<|z2 E xq<|M<|zd j (λu j=>?_) λu j=>?_
 .refine U<|z3 E I I<|M<|zr<|zR ?_;cases j;exact aH.CG bC
 .refine zk<|zt<|U<|zo (xt [] 17 [_])<|bB j λaz N j=>zo (kC [17] 18 (uS _ _ _ _ N) (bX.cons (Has.m (Has.nil UInt8) rfl) (bX.cons HA (bX.cons HA (bX.cons HA bX.nil)))))<|zs (ya 19)<|zs (yt)<|zz<|z5 xl xf xl (eF (β:=Int)) xf<|z5 xl (eF (β:=Int)) xf xl (eF (β:=Int))<|zo (xt [] 21 [_,_,_])<|bB j λaB L j=>zo (kC [17,18,21] 22 (uS _ _ _ _ L))<|zs (yt)<|zz<|z5 xl xf xl xf xl<|z2 xn (xt [] 23 [_,_])<|bB j λz ac j=>zo (kC [17,18,21,22,23] 24 (uS _ _ _ _ ac))<|zs (yt)<|M<|za<|U<|z3 xf xl xn ?_;refine il j (IU q z) [1,5,6010,1019] (λk p=>W 40 (.ef 308 [] [aa.aL 25])<|Y 20 (.rep [17,18,21,22,23,24] z)<|V 26 (((q.fo).length:Int):Int)<|O 25 1<|k) func300 cF ?_ ?_
  .refine λad=>iu 1 [1,5] [6010,2019] ?_;refine U<|zs (yb 25 fc) ?_;exact wo (ah.assign Has.top)<|zz<|z2 xF I<|M<|zr<|bS () j
  .rintro _ j;refine M<|zl ?_;refine rG 27 [1,5,40] [6010,2019,2025] func308 (h:=λad=>ra (h:=λan C=>?_));refine U<|zo I<|M<|zl<|bB j λap K j=>?_;refine lp K [0,1,902001,902005,902040,6010,1019,4025] (λk (a,b)=>Z 3 a<|Y 20 (.rep [17,18,21,22,23,24,33,34,35,36] b)<|k) (λk b=>(.exit 0,Y 20 (.rep [17,18,21,22,23,24,33,34,35,36] b)<|k)) ?_ ?_
   .rintro⟨w,af⟩ ay j;refine za<|U<|z4 E xl xi E<|g4 rfl rfl (λ_=>⟨E,E,E,xk⟩)<|zg rfl rfl (λ_=>xy) ?_;refine br.BE (gp:=((decide (w<((q.fo).length:Int)))=true)) (aa.rep [] (true:Bool)) rfl (dA rfl rfl) (λo=>?_) (λo=>?_)
    .have j:=iG o j;refine rY 27 904000 [0,1,3,7] [1,5,40] [902001,902005,902040,6010,2019,4025] C (h:=λaC=>rK (h:=?_));refine U<|zo I<|M<|zb<|zo I<|zw ?_;refine aH.oW (t:=27) rfl rfl<|zl<|U<|z3 xf xl E<|bB j λag X j=>z2 (xI X) xD<|zs (ya 29)<|zs (yo aA)<|zz<|zo I<|M ?_;refine jn j (D1 w af ag) [5,7,8,902001,902005,902040,904000,904001,904003,904007,6010,2019,8025] (λk p=>Z 9 p<|k) ?_ ?_
     .rintro am j;refine bB j λak D j=>bB j λaw J j=>?_;refine zQ aI (S:=p6 xl E xf xl (eF (β:=Int)) E<|p6 (xt [] 33 [_,_]) (kC [17,18,21,22,23,24,33,34,35,36] 34 (uS _ _ _ _ D)) E xy xf xl<|p3 (eF (β:=Int)) (xt [] 35 [_]) (kC [17,18,21,22,23,24,33,34,35,36] 36 (uS _ _ _ _ J))<|aq (sE [.ae 100020 _,.ae 100019 _,.av 19,.bp 20] (yt))<|aN) (h:=zh ?_);refine rN 27 904000 [0,1,3,7] [902001,902005,902040,6010,2019,2025,5028] (k:=?_);exact zo (ah.Ba o xw)<|M<|zT<|zk<|zt<|za<|zl<|zk<|zh<|zt<|zb<|z3 E xy I<|zw<|zN j
     .refine U<|z2 xf xl<|M<|zd j (λu j=>?_) λu j=>?_
      .exact zb<|zo I<|zw<|zJ (1:Int) j
      .exact zk<|zJ (0:Int) j
    .have j:=iP (kh o) j;exact zo (ah.Ab (kh o) xw)<|M<|zF<|ze<|zE<|zB j
   .intro _;refine zj ?_;refine aH.nC ?_;refine rF 27 [1,5,40] [6010,2019,2025,1028] (k:=?_);refine zh<|zt<|za<|bB j λal G j=>bB j λar A j=>bB j λao B j=>?_;refine zQ aI (S:=p6 xl xl (th G) (kC [17,18,21,22,23,24,33,34,35,36] 37 (tz _ A)) (eF (β:=Int)) (xt [] 38 [_])<|p3 (kC [17,18,21,22,23,24,33,34,35,36,38] 39 (uS _ _ _ _ B)) I I<|aN) (h:=zt<|zr ?_);cases j;exact rU 28 bC
theorem Yj:C1 280 CN (λr=>.cP (.aK [(false,1,.fl r.1.Id),(false,1,.fl r.1.bR),(false,1,.fl r.1.Seq),(false,1,.fl r.1.L),(false,1,.own 0 none 422 r.1.fo)]) (.fl r.2)):=by
 intro w r j;refine oA [[33]] 79 func280 rfl rfl rfl rfl (λw0 om=>?_);refine aO.sub (G':=[.ae 0 (.rep [0] (w:List UInt8))]) (sn Sub.nil)<|U<|zs (ya 10)<|zo I<|M<|za<|U<|zo E<|bB j λaJ ac j=>z5 (kC [0] 16 (sm _ _ _ ac)) E aC aB I<|zo I<|zz<|z2 E xq<|M<|zx j λq j=>zk<|zt<|U<|z2 E bU<|zs (yb 17 aF)<|zo xF<|zs (ya 20) ?_;refine ws (au.Qp (i:=0) (f:=aa.ef 299 [aa.aL 17] []) rfl Zm rfl (aV (ai rfl) (Cv.eG rfl)) rfl jJ.ef (ai rfl) rfl)<|zz<|zs (ya 22)<|zz ?_;refine wo (ic (α:=Int) (i:=0) cj.h rfl (aV (ai rfl) (Cv.eG rfl)) rfl (aW rfl))<|bB j λan N j=>?_;refine ws (au.qw (t:=17) rfl rfl py (congrArg (sU (·.1)) N) (fe.iD (by kernel_rfl) (ai rfl) (cl.cons e_ cl.nil)) rfl (aW rfl) (aW rfl))<|z2 (eF (β:=UInt32)) xf<|zs (yt)<|zz ?_;refine wo (ic (α:=Int) (i:=0) cj.h rfl (aV (ai rfl) (Cv.eG rfl)) rfl (aW rfl))<|bB j λao K j=>?_;refine ws (au.qw (t:=17) rfl rfl py (congrArg (sU (·.1)) K) (fe.iD (by kernel_rfl) (ai rfl) (cl.cons e_ cl.nil)) rfl (aW rfl) (aW rfl))<|z2 (eF (β:=UInt32)) xf<|zs (yt)<|zz ?_;refine wo (ic (α:=Int) (i:=0) cj.h rfl (aV (ai rfl) (Cv.eG rfl)) rfl (aW rfl))<|bB j λal ag j=>?_;refine ws (au.qw (t:=17) rfl rfl py (congrArg (sU (·.1)) ag) (fe.iD (by kernel_rfl) (ai rfl) (cl.cons e_ cl.nil)) rfl (aW rfl) (aW rfl))<|z2 (eF (β:=UInt32)) xf<|zs (yt)<|zz ?_;refine wo (ic (α:=Int) (i:=0) cj.h rfl (aV (ai rfl) (Cv.eG rfl)) rfl (aW rfl))<|bB j λap af j=>?_;refine ws (au.qw (t:=17) rfl rfl py (congrArg (sU (·.1)) af) (fe.iD (by kernel_rfl) (ai rfl) (cl.cons e_ cl.nil)) rfl (aW rfl) (aW rfl))<|zo xf<|zs (yt)<|M<|za<|U ?_;refine wo (ic (α:=Int) (i:=0) cj.h rfl (aV (ai rfl) (Cv.eG rfl)) rfl (aW rfl))<|bB j λu Q j=>?_;refine ws (au.qw (t:=17) rfl rfl py (congrArg (sU (·.1)) Q) (fe.iD (by kernel_rfl) (ai rfl) (cl.cons e_ cl.nil)) rfl (aW rfl) (aW rfl))<|zo n9 ?_;refine il j (JJ w an ao al ap u) [0,2,6,7,6010,11017] (λk p=>W 43 (.ef 308 [] [aa.aL 28])<|V 29 ((min u.1 (17:Int)):Int)<|O 28 1<|k) func300 cF ?_ ?_
 .refine λam=>iu 1 [0,2,6,7] [6010,11017] ?_;refine U<|zs (yb 28 fc) ?_;exact wo (ah.assign Has.top)<|zz<|z2 xF I<|M<|zr<|bS () j
 .rintro _ j;refine M<|zl ?_;refine rG 30 [0,2,6,7,43] [6010,13017] func308 (h:=λam=>ra (h:=λaz A=>?_));refine U<|zo I<|M<|zl<|bB j λaA B j=>?_;refine lp B [0,1,902000,902002,902006,902007,902043,6010,2017,7020,4028] (λk (a,b,c)=>Z 3 a<|Y 27 (.ow [33] [] 422 b)<|V 19 c<|k) (λk (a,b)=>(.exit 0,Y 27 (.ow [33] [] 422 a)<|V 19 b<|k)) ?_ ?_
  .rintro⟨ar,_,_⟩ ay j;refine za<|U<|z4 E xl xi E<|g4 rfl rfl (λ_=>⟨E,E,E,xk⟩)<|zg rfl rfl (λ_=>xy) ?_;refine br.BE (gp:=((decide (ar<(min u.1 (17:Int))))=true)) (aa.rep [] (true:Bool)) rfl (dA rfl rfl) (λo=>?_) (λo=>?_)
   .have j:=iG o j;refine rY 30 904000 [0,1,3,7] [0,2,6,7,43] [902000,902002,902006,902007,902043,6010,15017] A (h:=λaG=>rK (h:=?_));refine zk ?_;refine aH.oW (t:=30) rfl rfl<|zl<|U ?_;refine wo (ic (α:=Int) (i:=0) cj.h rfl (aV (ai rfl) (Cv.eG rfl)) rfl (aW rfl))<|bB j λak J j=>?_;refine ws (au.qw (t:=17) rfl rfl py (congrArg (sU (·.1)) J) (fe.iD (by kernel_rfl) (ai rfl) (cl.cons e_ cl.nil)) rfl (aW rfl) (aW rfl))<|zo I<|zz ?_;refine wo (ic (α:=Int) (i:=0) cj.h rfl (aV (ai rfl) (Cv.eG rfl)) rfl (aW rfl))<|bB j λX D j=>?_;refine ws (au.qw (t:=17) rfl rfl py (congrArg (sU (·.1)) D) (fe.iD (by kernel_rfl) (ai rfl) (cl.cons e_ cl.nil)) rfl (aW rfl) (aW rfl))<|zo I<|M<|bB j λad C j=>bB j λaE z j=>?_;refine zQ aI (S:=p6 xf xl E (eF (β:=UInt8)) E xe<|o1 (ic (α:=Int) (i:=0) cj.h rfl (aV (ai rfl) (Cv.eG rfl)) rfl (aW rfl))<|aq (sE [.ae 57 _,.ae 100019 _,.ae 100017 _,.av 17,.bp 19] (au.qw (t:=17) rfl rfl py (congrArg (sU (·.1)) C) (fe.iD (by kernel_rfl) (ai rfl) (cl.cons e_ cl.nil)) rfl (aW rfl) (aW rfl)))<|p3 (eF (β:=UInt32)) bU (xt [] 32 [(fJ.mk (ny.of ak.1) (X.1==(1:Int)) (dP.of ad.1))])<|aq (sE [.ae 61 _,.av 33] (yA [] z))<|o1 xf<|aq (sE [.ae 100027 _,.ae 100022 _,.av 22,.bp 27] (yt))<|aN) (h:=zh ?_);refine rN 30 904000 [0,1,3,7] [902000,902002,902006,902007,902043,6010,13017,1031] (k:=?_);exact zo (ah.Ba o xw)<|M<|zT<|zk<|zt<|za<|zl<|zk<|zh<|zt<|zb<|z3 E xy I<|zw<|zN j
   .have j:=iP (kh o) j;exact zo (ah.Ab (kh o) xw)<|M<|zF<|ze<|zE<|zB j
  .intro _;refine zj ?_;refine aH.nC ?_;refine rF 30 [0,2,6,7,43] [6010,13017,1031] (k:=?_);refine zh<|zt<|za<|U<|zo xr<|bB j λaw G j=>z5 (kC [33] 34 (Kn _ G)) E aC aB I<|zo I<|zz<|z3 E xq E<|g4 rfl rfl (λ_=>⟨E,pC,E,pC⟩) ?_;refine wg rfl rfl (λq=>ah.Qo (dD rfl q) (dD rfl q))<|zo xo<|M<|zd j (λq j=>?_) λq j=>?_
   .refine U<|zo bU<|zs (yo aF)<|zo I<|M<|zr<|zR ?_;cases j;exact rU 31 bC
   .refine zk<|zt<|U<|zo xr<|zs (yo aF)<|zo I<|M<|zr ?_;cases j;exact rU 31 bC
theorem Vi:C1 255 Fq .fl:=λj r a=>(cv [[]] func255) λ_ _=>by refine U<|zo I<|zz<|z4 E xn xq E<|g3 rfl rfl (λ_=>⟨E,xn,xq⟩)<|z2 xw I<|M<|zr ?_;cases a;exact az
theorem T3:C2 256 Bi .fl:=λC A r j=>(cv [[]] func256) λ_ _=>by
 refine U<|zs (yb 10 aA)<|zo I<|zz<|zo I<|M<|za<|U<|z3 E xn E<|M<|zl<|bB j λw q j=>?_;refine lp q [1,2,8,9,7010] (λk (a,b)=>Z 5 a<|Z 10 b<|k) (λk=>Sum.elim (λb=>(.ret,Z 4 false<|k)) (λ_=>(.exit 0,k))) ?_ ?_
 .rintro⟨_,_⟩ z j;refine U<|zo xi<|M<|za<|zd j (λo j=>?_) λo j=>?_
  .refine zk<|zt<|za<|zl<|U<|bB j λD u j=>z3 (xI u) xD I<|M<|za<|U<|z4 E E xj E<|g4 rfl rfl (λ_=>⟨E,xf,xl,xz⟩)<|zg rfl rfl (λ_=>xg)<|zo xo<|M<|zd j (λo j=>?_) λo j=>?_
   .exact U<|zo I<|M<|zr<|zR<|zi<|zR<|zB j
   .exact zk<|zt<|zb<|z2 E I<|zw<|zh<|zt<|zb<|z2 xy E<|zw<|zN j
  .exact ze<|zE<|zB j
 .intro _;rcases w with B|G
  .have j:=fN j;refine zi<|zR ?_;cases j;exact az
  .have j:=fI j;refine zj<|zt<|U<|z4 E xn xg I<|M<|zr ?_;cases j;exact az
theorem xL:C2 226 pS .fl:=λC z r a=>(cv [[]] func226) λ_ _=>by
 refine U<|zs (yb 10 aA)<|zs (yb 17 aA)<|zo I<|zz<|zo xr<|bB a λB u a=>z5 (kC [] 22 (lJ _ u)) E aC aB I<|zo I<|M<|za<|U<|z2 E xq<|M<|zx a λj a=>zk<|zt<|U<|z2 xf xl<|bB a λw q a=>z2 (kC [0] 23 (wC _ _ q) (H2 (ma λy _=>@Vi y _))) I<|M<|za<|U<|z2 E E<|g3 rfl rfl (λ_=>⟨xf,xl,xi⟩)<|z2 xo E<|g4 rfl rfl (λ_=>⟨xf,xl,E,xh⟩)<|z2 xo E<|g3 rfl rfl (λ_=>⟨xr,xf,xl⟩)<|bB a λA o a=>zg rfl rfl (λj=>kC [0] 24 (T3 _ _ (bM o (cS j))))<|zg rfl rfl (λ_=>xN)<|z2 xo E<|g4 rfl rfl (λ_=>⟨xf,xl,xn,xf⟩)<|g3 rfl rfl (λ_=>⟨xl,xn,xq⟩)<|z2 xo E<|g4 rfl rfl (λ_=>⟨xf,xl,xn,xq⟩)<|zg rfl rfl (λ_=>xM)<|zu rfl rfl (λ_=>xf)<|zu rfl rfl (λ_=>xl)<|zu rfl rfl (λ_=>xn)<|zu rfl rfl (λ_=>xq)<|zg rfl rfl (λ_=>xW)<|zo xo<|M<|zd a (λj a=>?_) λj a=>?_
 .refine U<|zo I<|M<|zr<|zR ?_;cases a;exact az
 .refine zk<|zt<|U<|zo I<|M<|zr ?_;cases a;exact az
theorem XD:C3 254 Ej (λr=>.eV (.aK [(false,1,.fl r.1.bR),(false,1,.fl r.1.Seq),(true,4,.aK [(false,1,.fl r.1.bl.L),(false,1,.own 0 none 3 r.1.bl.eD),(false,1,.own 1 (some 2) 43 r.1.bl.aJ),(false,1,.own 3 none 5 r.1.bl.bP)])]) (.fl r.2.1) (.fl r.2.2)):=by
 intro q z B r hm;refine oA [[78],[80],[76,79],[75]] 127 func254 rfl rfl rfl rfl (λw0 om=>?_);refine aO.sub (G':=[.ae 0 (.rep [] (q:J)), .ae 1 (.rep [0] (z:aU)), .ae 2 (.rep [] (B:Int))]) (Sub.cons (fG (ai rfl)) (sn (Sub.cons (fG (ai rfl)) Sub.nil)))<|U<|zs (yb 10 aA)<|zs (yb 17 aA)<|zs (ya 21)<|zs (ya 28)<|zs (ya 30)<|M<|za<|U<|z3 xr xr E ?_;refine il hm (Fo q z B) [2,3,4,6,7,8,22010] (λk p=>W 17 (.yT)<|k) func278 cF ?_ ?_
 .refine λN=>iu 1 [2,3,4,6,7,8] [22010] ?_;refine U<|zs (yb 32 aF)<|zs (yb 39 aF)<|zo I<|zz<|zo xr<|bB hm λbe al hm=>z5 (kC [] 43 (BO _ al)) E aC aB I<|zo I<|M<|za<|zl<|U<|z3 E xq I<|M<|zx hm λo hm=>?_;refine jn hm (Ep q z B) [2,3,4,902002,902003,902004,902006,902007,902008,33010] (λk p=>Z 19 p<|k) ?_ ?_
  .rintro bA hm;refine zx hm λo hm=>?_;refine jn hm (DQ q z B) [4,902002,902003,902004,902006,902007,902008,22010,4039] (λk p=>Z 29 p<|k) ?_ ?_
   .rintro bw hm;exact zx hm λo hm=>U<|z3 xf xl I<|M<|zx hm λo hm=>zk<|zh<|zt<|U<|zo I<|M<|zr<|bS () hm
   .refine U<|z3 E xi I<|M<|zd hm (λo hm=>?_) λo hm=>?_
    .exact zk<|zJ _ hm
    .exact zb<|z5 E xf xl xh I<|zw<|zJ _ hm
  .refine U<|zo xr<|bB hm λbc ap hm=>z3 (kC [0] 44 (uj _ ap)) xq I<|M<|zd hm (λo hm=>?_) λo hm=>?_
   .exact zk<|zJ _ hm
   .exact zb<|z5 xf xl xn E xq<|zo I<|zw<|zJ _ hm
 .rintro _ hm;refine zo I<|zz<|zo E ?_;refine wo (ah.U2 underlying411 (ai rfl))<|M<|zF<|zk<|zt<|U<|zs (ya 45)<|M ?_;refine aO.Ns (λ(p:UInt32×UInt32×Int×(List Int)×(List (List UInt8))×(List UInt8)×Int×UInt32×UInt32×UInt32×Int×(List fJ)) (G:fK)=>[.ae 3 (.aL 10), .ae 6 (.aL 21), .ae 7 (.aL 28), .ae 8 (.aL 30), .ae 10 (.aL 45), .ae 100011 (.at 11 (.rep [] q.Id)), .ae 100012 (.at 12 (.rep [] q.aw)), .ae 100013 (.at 13 (.rep [] q.bz)), .ae 100014 (.at 14 (.rep [] q.bb)), .ae 100015 (.at 15 (.rep [] q.K)), .ae 100016 (.at 16 (.rep [] q.aE)), .ae 100022 (.at 22 (.rep [] p.1)), .ae 100023 (.at 23 (.rep [] p.2.1)), .ae 100024 (.at 24 (.rep [] p.2.2.1)), .ae 100025 (.at 25 (.ow [78] [] 3 (p.2.2.2.1:List Int))), .ae 100026 (.at 26 (.ow [80] [76,79] 43 (p.2.2.2.2.1:List (List UInt8)))), .ae 100027 (.at 27 (.ow [75] [] 5 (p.2.2.2.2.2.1:List UInt8))), .ae 100029 (.at 29 (.rep [] ((0:Int):Int))), .ae 100031 (.at 31 (.rep [] p.2.2.2.2.2.2.1)), .ae 100046 (.at 46 (.rep [] p.2.2.2.2.2.2.2.1)), .ae 100047 (.at 47 (.rep [] p.2.2.2.2.2.2.2.2.1)), .ae 100048 (.at 48 (.rep [] p.2.2.2.2.2.2.2.2.2.1)), .ae 100049 (.at 49 (.rep [] p.2.2.2.2.2.2.2.2.2.2.1)), .ae 100050 (.at 50 (.ow [68] [] 422 (p.2.2.2.2.2.2.2.2.2.2.2:List fJ))), .ae 100010 (.obj 10 [(false,1),(false,1),(false,1),(false,1),(false,1),(false,1)]), .ae 100021 (.obj 21 [(false,1),(false,1),(false,1),(false,1),(false,1),(false,1)]), .ae 100028 (.obj 28 [(false,1)]), .ae 100030 (.obj 30 [(false,1)]), .ae 100045 (.obj 45 [(false,1),(false,1),(false,1),(false,1),(false,1)]), .ae 100065 (.dm 65 G.D)]) (λp:UInt32×UInt32×Int×(List Int)×(List (List UInt8))×(List UInt8)×Int×UInt32×UInt32×UInt32×Int×(List fJ)=>vU q p=some r) ?_ ?_
  .rintro⟨_,_,_,_,_,_,_,_,_,_,_,_⟩ G hm;refine za<|U<|z3 xr xf xP<|bB hm λbg am hm=>z2 (kC [75,76,78,79,80] 81 (xL _ _ am)) xq<|M<|zd hm (λo hm=>?_) λo hm=>?_
   .refine U<|zo bU<|zs (yo bT)<|zs (yt)<|zs (yt)<|M<|zr<|zR ?_;cases hm;exact rU 65 dL
   .refine zk<|zt<|za ?_;refine zQ aI (S:=p5 xR xf xl xn xy<|aq (sE (kR 21 [_,_,_,_,_,_,_] (.av 21::(kK 22 6 []))) (yo bT))<|aq (sE [.ae 100029 _,.ae 100028 _,.av 28,.bp 29] (yt))<|aq (sE [.ae 100031 _,.ae 100030 _,.av 30,.bp 31] (yt))<|aN) (h:=zt<|zr ?_);cases hm;exact rU 65 dL
  .refine U<|z3 xr xr E ?_;refine il hm (Ax q z B) [3,6,7,8,10,7010,11021,6045] (λk p=>W 27 (.ef 298 [] [aa.aL 51,aa.aL 62,aa.aL 58])<|V6 52 q.Id q.aw q.bz q.bb q.K q.aE<|Y 59 (.rep [0] z.aJ)<|Y 60 (.rep [0] z.eg)<|V 61 z.dS<|V 63 B<|O 51 6<|O 58 3<|O 62 1<|k) func279 cF ?_ ?_
   .refine λN=>iu 1 [3,6,7,8,10] [7010,11021,6045] ?_;refine U<|zs (yb 51 aF)<|zs (yb 58 aF)<|zs (yb 62 fc) ?_;exact wo (ah.assign Has.top)<|zz<|z2 xF I<|M<|zr<|bS () hm
   .rintro _ hm;refine M<|zl ?_;refine rG 64 [3,6,7,8,10,27] [7010,11021,19045] func298 (h:=λN=>ra (h:=λA af=>?_));refine U<|z3 xf xl E<|M<|zl<|bB hm λa7 ac hm=>?_;refine lp ac [0,1,2,3,11,902003,902006,902007,902008,902010,902027,7010,1021,3028,1045,13051,1065] (λk (a,b,c,d,e,f,g,h,i,j,l,m,n)=>Z 12 a<|V3 22 b c d<|Y 25 (.ow [78] [] 3 e)<|Y 26 (.ow [80] [76,79] 43 f)<|Y 27 (.ow [75] [] 5 g)<|V 31 h<|V4 46 i j l m<|Y 50 (.ow [68] [] 422 n)<|W 100064 (.rc 64 A .ready none)<|k) (λk b=>Sum.elim (λb=>(.ret, .ae 100022 (.at 22 (.rep [] ((0:UInt32):UInt32)))::.ae 100023 (.at 23 (.rep [] ((0:UInt32):UInt32)))::.ae 100024 (.at 24 (.rep [] ((0:Int):Int)))::.ae 100025 (.at 25 (.dM))::.ae 100026 (.at 26 (.dM))::.ae 100027 (.at 27 (.dM))::.ae 100031 (.at 31 (.rep [] ((130:Int):Int)))::.ae 100046 (.at 46 (.rep [] b.1))::.ae 100047 (.at 47 (.rep [] b.2.1))::.ae 100048 (.at 48 (.rep [] b.2.2.1))::.ae 100049 (.at 49 (.rep [] b.2.2.2.1))::.ae 100050 (.at 50 (.ow [68] [] 422 b.2.2.2.2))::.ae 100064 (.rc 64 A (.done) (some .ret))::k)) (λb=>Sum.elim (λb=>(.ret, .ae 100022 (.at 22 (.rep [] b.1))::.ae 100023 (.at 23 (.rep [] b.2.1))::.ae 100024 (.at 24 (.rep [] b.2.2.1))::.ae 100025 (.at 25 (.ow [78] [] 3 b.2.2.2.1))::.ae 100026 (.at 26 (.ow [80] [76,79] 43 b.2.2.2.2.1))::.ae 100027 (.at 27 (.ow [75] [] 5 b.2.2.2.2.2.1))::.ae 100031 (.at 31 (.rep [] b.2.2.2.2.2.2.1))::.ae 100046 (.at 46 (.rep [] b.2.2.2.2.2.2.2.1))::.ae 100047 (.at 47 (.rep [] b.2.2.2.2.2.2.2.2.1))::.ae 100048 (.at 48 (.rep [] b.2.2.2.2.2.2.2.2.2.1))::.ae 100049 (.at 49 (.rep [] b.2.2.2.2.2.2.2.2.2.2.1))::.ae 100050 (.at 50 (.ow [68] [] 422 b.2.2.2.2.2.2.2.2.2.2.2))::.ae 100064 (.rc 64 A (.done) (some (.exit 0)))::k)) (λb=>(.exit 0, .ae 100022 (.at 22 (.rep [] b.1))::.ae 100023 (.at 23 (.rep [] b.2.1))::.ae 100024 (.at 24 (.rep [] b.2.2.1))::.ae 100025 (.at 25 (.ow [78] [] 3 b.2.2.2.1))::.ae 100026 (.at 26 (.ow [80] [76,79] 43 b.2.2.2.2.1))::.ae 100027 (.at 27 (.ow [75] [] 5 b.2.2.2.2.2.1))::.ae 100031 (.at 31 (.rep [] b.2.2.2.2.2.2.1))::.ae 100046 (.at 46 (.rep [] b.2.2.2.2.2.2.2.1))::.ae 100047 (.at 47 (.rep [] b.2.2.2.2.2.2.2.2.1))::.ae 100048 (.at 48 (.rep [] b.2.2.2.2.2.2.2.2.2.1))::.ae 100049 (.at 49 (.rep [] b.2.2.2.2.2.2.2.2.2.2.1))::.ae 100050 (.at 50 (.ow [68] [] 422 b.2.2.2.2.2.2.2.2.2.2.2))::.ae 100064 (.rc 64 A .ready none)::k)) b) b) ?_ ?_
    .rintro⟨a4,a2,aQ,az,aM,aG,a6,aY,a1,a5,aZ,a3,aR⟩ bd hm;refine U<|zo xi<|M<|za<|zd hm (λo hm=>?_) λo hm=>?_
     .refine zk<|zt<|za<|zl<|U<|z2 E I<|zz<|z4 xf xl xl E<|bB hm λba ag hm=>z5 (kC [] 66 (tt _ _ _ ag)) E aC aB I<|zo I<|zz<|z3 xr E xy<|bB hm λbv ar hm=>z5 (kC [0] 67 (w8 _ _ ar)) E aC aB I<|zo I<|zz<|z3 E E E ?_;refine rY 64 904000 [0,1,2,3,11,12] [3,6,7,8,10,27] [902003,902006,902007,902008,902010,902027,7010,11021,21045] af (h:=λbC=>rK (h:=?_));refine U<|zo I<|M<|zb<|zo I<|zw ?_;refine aH.oW (t:=64) rfl rfl<|zl<|za<|U<|z2 E xe<|M<|zd hm (λo hm=>?_) λo hm=>?_
      .refine za<|U<|zo E<|bB hm λbr ak hm=>z4 (kC [67] 68 (Yj _ ak)) E aC aB<|zs (yo aF)<|zs (yt)<|zz<|z3 xl xq E<|g4 rfl rfl (λ_=>⟨xf,xl,xf,xl⟩)<|zg rfl rfl (λ_=>pT)<|zo xo<|M<|zd hm (λo hm=>?_) λo hm=>?_
       .refine U<|zo bU<|zs (yo bT)<|zs (yt)<|zs (yt)<|M<|zr<|zR<|zR<|zi ?_;refine rR 64 904000 [0,1,2,3,11,12] [902003,902006,902007,902008,902010,902027,7010,11021,19045,1065] (k:=?_);exact zo xN<|M<|zT<|zr<|zi<|zR<|zB hm
       .refine zk<|zt<|U<|z5 xf xl xf xl xf<|z3 xl bU bU<|zs (yo bT)<|M<|ze<|zE<|zj ?_;refine rN 64 904000 [0,1,2,3,11,12] [902003,902006,902007,902008,902010,902027,7010,11021,19045,1065] (k:=?_);exact zo xN<|M<|zF<|zk<|zh<|zt<|zb<|z2 xy E<|zw<|zN hm
      .refine zk<|zt<|za<|U<|z5 E xf xl xn xg<|M<|zd hm (λo hm=>?_) λo hm=>?_
       .refine ze<|zE ?_;refine aH.jZ rfl ?_;refine rE 64 904000 [0,1,2,3,11,12] [902003,902006,902007,902008,902010,902027,7010,11021,19045,1065] (k:=?_);exact zo xN<|M<|zT<|zr<|zi<|zR<|zB hm
       .refine zk<|zt<|U<|z4 xf xl E xz<|bB hm λa0 ay hm=>z2 (xJ ay) xS<|zs (ya 69)<|zs (yo aA)<|M<|za<|za<|bB hm λa_ ao hm=>bB hm λbs ad hm=>bB hm λbi X hm=>?_;refine zQ aI (S:=p6 E (kC [67] 73 (tz _ ao)) xf xl pT E<|aq (qg (h:=λ_=>E))<|aq (qg (h:=λo=>xJ (bM ad (cS o))))<|w2 (q2 (h:=λ_=>⟨xS,xb⟩))<|p2 xo E<|w3 (q3 (h:=λ_=>⟨xf,xl,xM⟩))<|aq (qu (h:=λ_=>E))<|aq (qu (h:=λo=>xJ (bM X (ib (cS (iw o)) (jr o)))))<|aq (qu (h:=λ_=>xS))<|aq (qu (h:=λ_=>xB))<|aq (qg (h:=λ_=>xW))<|o1 xo<|aN) (h:=zt<|zd hm (λo hm=>?_) λo hm=>?_)
        .refine U<|zo bU<|zs (yo bT)<|zs (yt)<|zs (yt)<|M<|zr<|zR<|zi ?_;refine rR 64 904000 [0,1,2,3,11,12] [902003,902006,902007,902008,902010,902027,7010,11021,19045,1065,4069] (k:=?_);exact zo xN<|M<|zT<|zr<|zi<|zR<|zB hm
        .refine zk<|zt ?_;refine jn hm (uC a4 a2 aQ az aM aG a6 aY a1 a5 aZ a3 aR a0) [6,13,902003,902006,902007,902008,902010,902027,904000,904001,904002,904003,904011,904012,7010,11021,21045,4069] (λk p=>W 12 (.ow [67,74] [] 5 p)<|k) ?_ ?_
         .rintro a' hm;refine za<|U<|z3 xf xl xb<|M<|zd hm (λo hm=>?_) λo hm=>?_
          .refine za ?_;refine ei (Ad.BT (s:=12) (T:=[67,74]) 75 rfl rfl rfl rfl Cv.refl)<|zb<|z3 E xf xf<|zs (yt)<|M<|ze<|zE<|zj ?_;refine rN 64 904000 [0,1,2,3,11,12] [902003,902006,902007,902008,902010,902027,7010,11021,19045,1065,4069] (k:=?_);exact zo xN<|M<|zF<|zk<|zh<|zt<|zb<|z2 xy E<|zw<|zN hm
          .refine zk<|zt ?_;refine ei (Ad.BT (s:=12) (T:=[67,74]) 76 rfl rfl rfl rfl Cv.refl)<|bB hm λbm an hm=>bB hm λa9 Q hm=>?_;refine zQ aI (S:=p6 xf xf xl xf xl (eF (β:=Int))<|o1 (xt [] 77 [_])<|aq (sE [.ae 105 _,.av 78] (yA [] an))<|p5 xf xf xl E (xt [76] 79 [_])<|aq (sE [.ae 111 _,.av 80] (yA [76,79] Q))<|p2 xf xf<|aq (sE [.ae 100025 _,.ae 100021 _,.av 21,.bp 25] (yt))<|p2 xf xf<|aq (sE [.ae 100026 _,.ae 100021 _,.av 21,.bp 26] (yt))<|aN) (h:=zh ?_);refine rN 64 904000 [0,1,2,3,11,12] [902003,902006,902007,902008,902010,902027,7010,11021,19045,1065,4069] (k:=?_);exact zo xN<|M<|zF<|zk<|zh<|zt<|zb<|z2 xy E<|zw<|zN hm
         .refine U<|z2 xf xl<|M<|zd hm (λo hm=>?_) λo hm=>?_
          .refine ei (Ad.ow (s:=12) 74 rfl rfl ev.flat rfl (Cv.d_ (T:=[67]) (te:=[]) (T':=[67]) (te':=[]) rfl))<|zb<|zo E<|bB hm λbq C hm=>zo (xu C) ?_;exact ws (au.nw (te':=[]) rfl (kr C rfl) iz (ai rfl) rfl (Has.u8 78 rfl) cC.flat cC.flat)<|zw<|zJ _ hm
          .exact zk<|zJ _ hm
     .exact ze<|zE<|zB hm
    .intro _;rcases a7 with bn|w|u
     .have hm:=fN hm;refine zi ?_;refine rJ 64 [3,6,7,8,10,27] [7010,11021,19045,1065] (k:=?_);refine zr<|zi<|zR ?_;cases hm;exact rU 65 dL
     .have hm:=fI hm;have hm:=fN hm;refine zi ?_;refine rJ 64 [3,6,7,8,10,27] [7010,11021,19045,1065] (k:=?_);refine ze<|zj ?_;exact aH.Ce (w.1,w.2.1,w.2.2.1,w.2.2.2.1,w.2.2.2.2.1,w.2.2.2.2.2.1,w.2.2.2.2.2.2.1,w.2.2.2.2.2.2.2.1,w.2.2.2.2.2.2.2.2.1,w.2.2.2.2.2.2.2.2.2.1,w.2.2.2.2.2.2.2.2.2.2.1,w.2.2.2.2.2.2.2.2.2.2.2) A hm (sn (sn (sn (sn (sn (sf (sf (sf (sf (sf (sf (sf (sf (sf (Sub.cons (Has.at (dJ.cv (aW rfl) (Cv.d_ (T:=[78]) (te:=[]) rfl))) (Sub.cons (Has.at (dJ.cv (aW rfl) (Cv.gT (T:=[80]) (te:=[76,79]) rfl rfl))) (Sub.cons (Has.at (dJ.cv (aW rfl) (Cv.d_ (T:=[75]) (te:=[]) rfl))) (sf (sf (sf (sf (sf (sf (Sub.cons (Has.at (dJ.cv (aW rfl) (Cv.d_ (T:=[68]) (te:=[]) rfl))) (sn (sn (sn (sn (sn (sn Sub.nil))))))))))))))))))))))))))))))
     .have hm:=fI hm;have hm:=fI hm;refine zj ?_;refine aH.nC ?_;refine rF 64 [3,6,7,8,10,27] [7010,11021,19045,1065] (k:=?_);refine zh ?_;exact aH.Ce (u.1,u.2.1,u.2.2.1,u.2.2.2.1,u.2.2.2.2.1,u.2.2.2.2.2.1,u.2.2.2.2.2.2.1,u.2.2.2.2.2.2.2.1,u.2.2.2.2.2.2.2.2.1,u.2.2.2.2.2.2.2.2.2.1,u.2.2.2.2.2.2.2.2.2.2.1,u.2.2.2.2.2.2.2.2.2.2.2) A hm (sn (sn (sn (sn (sn (sf (sf (sf (sf (sf (sf (sf (sf (sf (Sub.cons (Has.at (dJ.cv (aW rfl) (Cv.d_ (T:=[78]) (te:=[]) rfl))) (Sub.cons (Has.at (dJ.cv (aW rfl) (Cv.gT (T:=[80]) (te:=[76,79]) rfl rfl))) (Sub.cons (Has.at (dJ.cv (aW rfl) (Cv.d_ (T:=[75]) (te:=[]) rfl))) (sf (sf (sf (sf (sf (sf (Sub.cons (Has.at (dJ.cv (aW rfl) (Cv.d_ (T:=[68]) (te:=[]) rfl))) (sn (sn (sn (sn (sn (sn Sub.nil))))))))))))))))))))))))))))))
theorem YV:C2 181 A' (s3 .fl (.own 0 (some 1) 344)):=by
 intro o z r j;refine oA [[68],[49,50,51,52,67]] 54 func181 rfl rfl rfl rfl (λw0 om=>?_);refine aO.sub (G':=[.ae 0 (.rep [] (o:J)), .ae 1 (.rep [0] (z:aU))]) (Sub.cons (fG (ai rfl)) (sn Sub.nil))<|U<|zs (yb 10 aA)<|zs (yb 17 aA)<|zs (ya 21)<|zs (ya 26)<|zo I<|M<|za<|U<|z2 xr xr<|bB j λu Z j=>z4 (kC [0] 28 (R0 _ _ Z)) E aC aB<|zs (yo aA)<|zo I<|zz<|z2 E xq<|M<|zd j (λA j=>?_) λA j=>?_
 .refine U<|z2 bU E<|zs (yo aF)<|zs (yt)<|zo I<|M<|zr<|zR ?_;cases j;exact aH.CG dL
 .refine zk<|zt ?_;refine aO.Ns (λ(p:(List fj)) (C:fK)=>[.ae 4 (.aL 21), .ae 5 (.aL 26), .ae 100022 (.at 22 (.rep [] u.1.Id)), .ae 100023 (.at 23 (.rep [] u.1.bR)), .ae 100024 (.at 24 (.rep [] u.1.Seq)), .ae 100025 (.at 25 (.rep [] u.1.ca)), .ae 100027 (.at 27 (.ow [68] [49,50,51,52,67] 344 (p:List fj))), .ae 100021 (.obj 21 [(false,1),(false,1),(false,1),(false,1)]), .ae 100026 (.obj 26 [(false,1)]), .ae 100043 (.dm 43 C.D)]) (λp:(List fj)=>Cu u p=some r) ?_ ?_
  .rintro ap C j;refine za ?_;refine zQ aI (S:=p2 xr xl<|aq (sE (kR 21 [_,_,_,_,_] (.av 21::(kK 22 4 []))) (yo aF))<|aq (sE [.ae 100027 _,.ae 100026 _,.av 26,.bp 27] (yt))<|o1 I<|aN) (h:=zt<|zr ?_);cases j;exact rU 43 dL
  .refine U<|z4 xr xr xf xl ?_;refine il j (EP o z u) [2,4,5,7010,7021] (λk p=>W 23 (.ef 251 [] [aa.aL 29,aa.aL 40,aa.aL 36])<|V6 30 o.Id o.aw o.bz o.bb o.K o.aE<|Y 37 (.rep [0] z.aJ)<|Y 38 (.rep [0] z.eg)<|V 39 z.dS<|V 41 u.1.ca<|O 29 6<|O 36 3<|O 40 1<|k) func223 cF ?_ ?_
   .refine λak=>iu 1 [2,4,5] [7010,7021] ?_;refine U<|zs (yb 29 aF)<|zs (yb 36 aF)<|zs (yb 40 fc) ?_;exact wo (ah.assign Has.top)<|zz<|z2 xF I<|M<|zr<|bS () j
   .rintro _ j;refine M<|zl ?_;refine rG 42 [2,4,5,23] [7010,7021,13029] func251 (h:=λak=>ra (h:=λq G=>?_));refine U ?_;refine ws (au.pR (ls:=[(false,1,aa.yv q.l)]) 44 rfl rfl rfl rfl (eY.QV jJ.yv (ai rfl)))<|zz<|zs (ya 46)<|zs (yt)<|zz<|z2 xF I<|M<|zl<|bB j λag L j=>?_;refine lp L [1,5,6,902002,902004,902005,902023,7010,6021,13029,4043] (λk (a,b)=>V 47 a<|Y 27 (.ow [68] [49,50,51,52,67] 344 b)<|W 100042 (.rc 42 q .ready none)<|k) (λk=>Sum.elim (λb=>(.exit 0,Y 27 (.ow [68] [49,50,51,52,67] 344 b)<|W 100042 (.rc 42 q (.done) (some (.exit 0)))<|k)) (λb=>(.exit 0,Y 27 (.ow [68] [49,50,51,52,67] 344 b)<|W 100042 (.rc 42 q .ready none)<|k))) ?_ ?_
    .rintro⟨s3,B⟩ ao j;refine za<|U<|z5 xl xf xl xi E ?_;by_cases hg6:(decide (s3<o.K))=true
     .have j:=iG hg6 j;refine dI rfl (dA rfl rfl) (λ_=>?_) (λh=>absurd hg6 h);refine zo E ?_;refine dI rfl (dA rfl rfl) (λ_=>?_) (λh=>absurd hg6 h);refine il j (Sum.elim (E0 B) A_) [1,5,6,12,902002,902004,902005,902023,7010,6021,13029,4043] (λk p=>Sum.elim (λp=> .ae 14 (.rep [] false)::.ae 100047 (.at 47 (.rep [] p))::.ae 100027 (.at 27 (.ow [68] [49,50,51,52,67] 344 B))::.ae 100042 (.rc 42 q (.done) (some (.exit 0)))::k) (λp=> .ae 14 (.rep [] p.1)::.ae 100047 (.at 47 (.rep [] p.2.1))::.ae 100027 (.at 27 (.ow [68] [49,50,51,52,67] 344 p.2.2))::.ae 100042 (.rc 42 q .ready none)::k) p) func252 cV ?_ ?_
      .refine λay=>iu 2 [1,5,6,12] [902002,902004,902005,902023,7010,7021,19029] ?_;refine U<|zo I<|zz<|z4 xf xl xl xl<|bB j λal N j=>z5 (kC [] 48 (tt _ _ _ N)) E aC aB I<|zo I<|zz<|z3 xr xr E<|bB j λw X j=>z5 (kC [0] 49 (XD _ _ _ X)) E eJ eI eL<|zs (ya 53)<|zs (yo bT)<|z2 I I<|zz<|z3 xl E xy<|zs (yt)<|zz<|z3 E xe E ?_;by_cases hg13:(w.2.2==(0:Int))=true
       .have j:=iG hg13 j;refine dI rfl (dA rfl rfl) (λ_=>?_) (λh=>absurd hg13 h);refine zo xl ?_;refine dI rfl (dA rfl rfl) (λ_=>?_) (λh=>absurd hg13 h);refine zo xl ?_;refine dI rfl (dA rfl rfl) (λ_=>?_) (λh=>absurd hg13 h);refine zo xR ?_;refine dI rfl (dA rfl rfl) (λ_=>?_) (λh=>absurd hg13 h);refine rY 42 906000 [32] [2,4,5,23] [902002,902004,902005,902023,904001,904005,904006,904012,7010,7021,19029,7053] G (h:=λaz=>rK (h:=?_));refine U<|zo I<|M<|zb<|zs (ya 60)<|zs (yo bT)<|zw ?_;refine aH.oW (t:=42) rfl rfl<|zl<|za<|U<|z5 E xf xl xg E<|g4 rfl rfl (λ_=>⟨xf,xl,xf,xl⟩)<|g4 rfl rfl (λ_=>⟨xl,xn,eF (β:=UInt32),xX⟩)<|zg rfl rfl (λ_=>pT)<|z2 xo E<|g4 rfl rfl (λ_=>⟨xf,xl,xf,xl⟩)<|zg rfl rfl (λ_=>pT)<|zo xo<|M<|zd j (λA j=>?_) λA j=>?_
        .refine ze<|zE ?_;refine aH.jZ rfl ?_;refine rE 42 906000 [32] [902002,902004,902005,902023,904001,904005,904006,904012,7010,7021,13029,5043,14053] (k:=?_);exact z2 (tj hg13) I<|M<|zr<|bS (Sum.inl (wI (s3+w.2.1))) j
        .refine zk<|zt<|zb<|z3 xl xR (xt [49,50,51,52] 67 [w.1])<|bB j λad Q j=>zs (yA [49,50,51,52,67] Q)<|zs (yt)<|zw<|zh ?_;refine rN 42 906000 [32] [902002,902004,902005,902023,904001,904005,904006,904012,7010,7021,13029,5043,14053] (k:=?_);exact z2 (tj hg13) I<|M<|zr<|bS (Sum.inr (true,(wI (s3+w.2.1)),ad)) j
       .have j:=iP (kh hg13) j;refine dI rfl (dA rfl rfl) (λh=>absurd h hg13) (λ_=>?_);refine dI rfl (dA rfl rfl) (λh=>absurd h hg13) (λ_=>?_);refine dI rfl (dA rfl rfl) (λh=>absurd h hg13) (λ_=>?_);refine dI rfl (dA rfl rfl) (λh=>absurd h hg13) (λ_=>?_);exact z2 (Cn (kh hg13)) I<|M<|zr<|bS (Sum.inr (false,(wI (s3+w.2.1)),B)) j
      .rintro(an|⟨ar,aG,am⟩) j
       .exact zo (tj hg6)<|M<|zF<|ze<|zE<|zB j
       .refine zo (tj hg6)<|M<|zd j (λA j=>?_) λA j=>?_
        .exact zk<|zt<|zl<|zk<|zh<|zN j
        .exact ze<|zE<|zB j
     .have j:=iP (kh hg6) j;refine dI rfl (dA rfl rfl) (λh=>absurd h hg6) (λ_=>?_);refine dI rfl (dA rfl rfl) (λh=>absurd h hg6) (λ_=>?_);exact zo (Cn (kh hg6))<|M<|zF<|ze<|zE<|zB j
    .intro _;rcases ag with af|ac
     .have j:=fN j;refine zj ?_;refine aH.nC ?_;refine rJ 42 [2,4,5,23] [7010,7021,13029,1043] (k:=?_);refine ze<|zj ?_;exact aH.Ce af q j (sn (sn (sf (sf (sf (sf (Sub.cons (Has.at (dJ.cv (aW rfl) (Cv.gT (T:=[68]) (te:=[49,50,51,52,67]) rfl rfl))) (sn (sn (sn Sub.nil))))))))))
     .have j:=fI j;refine zj ?_;refine aH.nC ?_;refine rF 42 [2,4,5,23] [7010,7021,13029,1043] (k:=?_);refine zh ?_;exact aH.Ce ac q j (sn (sn (sf (sf (sf (sf (Sub.cons (Has.at (dJ.cv (aW rfl) (Cv.gT (T:=[68]) (te:=[49,50,51,52,67]) rfl rfl))) (sn (sn (sn Sub.nil))))))))))
theorem KI:C3 182 ue (s2 (qo (.own 0 none 133))):=λz q w r a=>(cv [[]] func182) λ_ _=>by
 refine U<|zs (ya 10)<|zo I<|M<|za<|U<|z4 E E E bU<|bB a λu j a=>z2 (kC [] 16 (Ky _ j)) xq<|M<|zd a (λo a=>?_) λo a=>?_
 .refine U<|zo bU<|zs (yo aF)<|zo I<|M<|zr<|zR ?_;cases a;exact bC
 .refine zk<|zt<|U<|z4 E E E bU<|zs (yo aF)<|zo I<|M<|zr ?_;cases a;exact bC
theorem tu:C2 51 oq .fl:=λw q r a=>(cv [[]] func51) λ_ _=>by refine U<|zs (yb 10 aA)<|zs (yb 17 aA)<|zo I<|zz<|zo xr<|bB a λu j a=>z5 (kC [] 25 (lJ _ j)) E aC aB I<|zo I<|M<|za<|U<|z3 E xq E<|g3 rfl rfl (λ_=>⟨xf,xl,nJ⟩)<|z2 xo E<|g3 rfl rfl (λ_=>⟨xf,xl,xi⟩)<|z2 xo E<|g4 rfl rfl (λ_=>⟨xf,xl,xf,xl⟩)<|zg rfl rfl (λ_=>xh)<|z2 xo E<|g3 rfl rfl (λ_=>⟨xf,xl,xi⟩)<|z2 xo E<|g4 rfl rfl (λ_=>⟨xf,xl,xf,xl⟩)<|zg rfl rfl (λ_=>xg)<|z2 xo E<|g4 rfl rfl (λ_=>⟨xf,xl,E,xg⟩)<|zo xo<|M<|zx a λo a=>zk<|zt<|za<|U<|z3 xf xl E<|g3 rfl rfl (λ_=>⟨xf,xl,xe⟩)<|z2 xw E<|g4 rfl rfl (λ_=>⟨xf,xl,xN,xM⟩)<|zu rfl rfl (λ_=>xf)<|zu rfl rfl (λ_=>xl)<|zu rfl rfl (λ_=>xg)<|zg rfl rfl (λ_=>xW)<|zo xo<|M<|zx a λo a=>zk<|zt<|U<|zo I<|M<|zr ?_;cases a;exact az
theorem Hi:C3 85 t_ (s3 .fl (.own 0 (some 1) 233)):=λN C L r j=>(cv [[36],[34,35]] func85) λ_ _=>by
 refine U<|zs (yb 10 aA)<|zs (yb 17 aA)<|zs (ya 25)<|z2 I I<|zz<|z2 xr xr<|bB j λK z j=>z2 (kC [] 33 (tu _ _ z)) I<|M<|za<|zl<|U<|z3 E xq I<|M<|zx j λo j=>U<|z3 xf xl I<|M<|zx j λo j=>U<|z4 xf xl rn I<|M<|zd j (λo j=>?_) λo j=>?_
 .refine U<|zo bU<|zs (yo aF)<|z2 I I<|M<|zr<|zi<|zR ?_;cases j;exact dL
 .refine zk<|zh<|zt<|U<|z4 xf xl xX xf<|zs (yt)<|zz<|zo I<|M<|za<|U<|z3 xf xl E<|M<|zl<|bB j λD u j=>?_;refine lp u [2,3,4,6,36,23010] (λk (a,b)=>W 10 (.ow [36] [34,35] 233 a)<|Z 37 b<|k) (λk b=>(.exit 1,W 10 (.ow [36] [34,35] 233 b)<|k)) ?_ ?_
  .rintro⟨_,s3⟩ J j;refine U<|zo xi<|M<|za<|zd j (λo j=>?_) λo j=>?_
   .refine zk<|zt ?_;refine jn j (DZ s3) [2,3,4,6,36,37,23010] (λk p=>W 10 (.ow [36] [34,35] 233 p)<|k) ?_ ?_
    .rintro B j;exact zb<|z2 xy E<|zw<|zN j
    .refine zl<|U<|z2 E I<|M<|za<|U<|z5 E xf xl xe E<|g3 rfl rfl (λ_=>⟨xf,xl,xN⟩)<|zo xw<|M<|zd j (λo j=>?_) λo j=>?_
     .exact ze<|zE<|zj<|zJ _ j
     .exact zk<|zt<|U<|z5 xf xl xf xl xf<|z5 xl xf xl xf xl<|z5 xf xl E xf xl<|z4 xf xl E bU<|bB j λA w j=>zo (kC [] 34 (Ib _ w))<|z5 E aC aB I I<|M<|za<|U<|z2 E xq<|M<|zx j λo j=>zk<|zt<|zb<|z5 E E E bU (xt [34] 35 [(cd.mk s3 (2:UInt8) (0:Int) A.1)])<|bB j λG q j=>zs (yA [34,35] q)<|zo I<|zw<|zh<|zJ _ j
   .exact ze<|zE<|zB j
  .intro _;refine zj<|zt<|U<|z2 xr E<|zs (yo aF)<|z2 I I<|M<|zr ?_;cases j;exact dL
theorem aam(a0){r}(a:Rh a0=some r):CT 186 [.ptr 0 a0] (.eV (gv (.rep 0) (.rep 0) (.rep 0) r.1) (.rep 0 r.2.1) (.fl r.2.2)) [0]:=by
 refine cw [[0]] func186 λw0 om=>?_;refine U<|zs (ya 10)<|z2 I I<|M<|za<|U<|z5 E xC xp xD xq<|M<|zd a (λj a=>?_) λj a=>?_
 .refine za ?_;refine zQ aI (S:=p5 bU E xC xp xD<|aq (sE (kR 10 [_,_,_,_,_,_,_,_,_,_,_,_,_,_,_,_,_,_,_,_,_,_,_,_] (.av 10::(kK 11 23 []))) (yo bT))<|p2 I I<|aN) (h:=zt<|zr<|zR ?_);cases a;exact dL
 .refine zk<|zt<|za ?_;refine zQ aI (S:=p6 E xC xp xd E xC<|p2 xp xd<|aq (sE (kR 10 [_,_,_,_,_,_,_,_,_,_,_,_,_,_,_,_,_,_,_,_,_,_,_,_] (.av 10::(kK 11 23 []))) (yo ck))<|p2 I I<|aN) (h:=zt<|zr ?_);cases a;exact dL
theorem VE(a0 a1){r}(a:Du a0 a1=some r):CT 224 [.rep 0 a0,.fn H jE 0 a1] (.fl r) []:=by
 refine cw [[]] func224 λw0 om=>?_;refine U<|zo I<|M<|za<|U<|z3 E xn E<|M<|zl<|bB a λB q a=>?_;refine lp q [1,8,9] (λk s=>Z 10 s<|k) (λk _=>(.exit 0,k)) ?_ ?_
 .rintro w C a;refine U<|zo xi<|M<|za<|zd a (λj a=>?_) λj a=>?_
  .exact zk<|zt<|za<|zl<|U<|bB a λz o a=>z2 (xI o) xd<|zs (ya 10)<|zs (yo ck)<|zz<|z2 E xR<|bB a λA u a=>z2 (lh [0] 17 u) I<|zz<|z2 E xq<|M<|zx a λj a=>zk<|zh<|zt<|zb<|z2 xy E<|zw<|zN a
  .exact ze<|zE<|zB a
 .intro _;refine zj<|zt<|U<|zo I<|M<|zr ?_;cases a;exact az
theorem UO(a0 a1){r}(a:HW a0 a1=some r):CT 225 [.rep 0 a0,.ptr 0 a1] (.fl r) []:=by refine cw [[]] func225 λw0 om=>?_;refine U<|zs (yb 10 ck)<|zo I<|zz<|z3 xD xf xP<|bB a λo j a=>z2 (kC [0] 17 (xL _ _ j)) I<|M<|zr ?_;cases a;exact az
theorem Wg(a0 a1){r}(a:Gv a0 a1=some r):CT 281 [.rep 0 a0,.fn H jE 0 a1] (.fl r) []:=by
 refine cw [[]] func281 λw0 om=>?_;refine U<|zo I<|M<|za<|U<|z3 E xn E<|M<|zl<|bB a λw q a=>?_;refine lp q [0,1,7] (λk s=>Z 8 s<|k) (λk=>Sum.elim (λb=>(.ret,Z 4 b<|k)) (λ_=>(.exit 0,k))) ?_ ?_
 .rintro z B a;refine U<|zo xi<|M<|za<|zd a (λj a=>?_) λj a=>?_
  .refine zk<|zt<|za<|zl<|U<|z2 E I<|zz<|z3 E E E<|bB a λA o a=>z2 (xI o) xD<|bB a λD u a=>zo (lh [] 10 u)<|M<|zd a (λj a=>?_) λj a=>?_
   .exact U<|z2 E I<|M<|zr<|zi<|zR<|zB a
   .exact zk<|zh<|zt<|zb<|z2 xy E<|zw<|zN a
  .exact ze<|zE<|zB a
 .intro _;rcases w with C|G
  .have a:=fN a;refine zi<|zR ?_;cases a;exact az
  .have a:=fI a;refine zj<|zt<|U<|zo I<|M<|zr ?_;cases a;exact az
theorem ZI(a0 a1){r}(a:EU a0 a1=some r):CT 258 [.rep 0 a0,.ptr 0 a1] (.fl r) []:=by refine cw [[]] func258 λw0 om=>?_;refine U<|zo I<|zz<|z5 E xp xD xe I<|M<|zr ?_;cases a;exact az
theorem B3:C1 301 cmp_isNaN_int .fl:=λj r a=>(cv [[]] func301) λ_ _=>by refine U<|zo I<|zz<|z4 E E xq I<|M<|zr ?_;cases a;exact az
theorem XW:C2 282 cmp_Less_int .fl:=λA w r a=>(cv [[]] func282) λ_ _=>by refine U<|zo I<|zz<|zo E<|bB a λz o a=>z2 (kC [] 10 (B3 _ o)) E<|zg rfl rfl (λ_=>E)<|bB a λu j a=>zg rfl rfl (λq=>kC [] 11 (B3 _ (bM j q)))<|zg rfl rfl (λ_=>xN)<|z2 xw E<|g3 rfl rfl (λ_=>⟨E,E,xi⟩)<|z2 xo I<|M<|zr ?_;cases a;exact az
theorem Mv:C1 283 zX .fl:=λj r a=>(cv [[]] func283) λ_ _=>by refine U<|zo I<|zz<|z4 E E xq I<|M<|zr ?_;cases a;exact az
theorem XE:C2 259 D7 (s2 .fl):=λO Q r j=>(cv [[]] func259) λ_ _=>by
 refine U<|z2 I I<|zz<|z3 E xn I<|zz<|z3 E I I<|M<|za<|zl<|bB j λJ C j=>?_;refine lp C [0,1,6] (λk (a,b)=>Z 7 a<|Z 8 b<|k) (λk b=>(.exit 0,Z 7 b<|k)) ?_ ?_
 .rintro⟨_,_⟩ G j;refine za<|U<|z3 E E xi<|M<|zd j (λo j=>?_) λo j=>?_
  .refine zk<|zt<|zl<|U<|z4 E E xy (eF (β:=UInt64)) ?_;refine wo (ah.lL (k:=1) (ai rfl))<|z2 (eF (β:=Int)) I<|zz<|z2 E E<|bB j λK B j=>z3 (xI B) xD E<|bB j λL A j=>zo (kC [] 10 (XW _ _ A))<|M<|zd j (λo j=>?_) λo j=>?_
   .exact zb<|z3 E xy I<|zw<|zh<|zN j
   .exact zb<|z2 E I<|zw<|zh<|zN j
  .exact ze<|zE<|zB j
 .intro _;refine zj<|zt<|U<|z5 E E E xi E<|g2 rfl rfl (λ_=>⟨E,E⟩)<|bB j λV z j=>zg rfl rfl (λo=>xI (bM z o))<|g4 rfl rfl (λ_=>⟨xD,E,xe,xM⟩)<|zu rfl rfl (λ_=>E)<|zu rfl rfl (λ_=>E)<|bB j λN u j=>zu rfl rfl (λo=>xI (bM u (ib (iw o) (cS (jr o)))))<|zu rfl rfl (λ_=>xD)<|bB j λS w j=>zu rfl rfl (λo=>kC [] 11 (Mv _ (bM w (ib (iw o) (cS (jr o))))))<|zu rfl rfl (λ_=>xM)<|zu rfl rfl (λ_=>E)<|bB j λD q j=>zu rfl rfl (λo=>kC [] 12 (Mv _ (bM q (ib (ib (iw (iw o)) (cS (jr (iw o)))) (jr o)))))<|zu rfl rfl (λ_=>xW)<|zg rfl rfl (λ_=>xO)<|z3 xw I I<|M<|zr ?_;cases j;exact bC
theorem tC:C1 140 og (.own 0 none 5):=λu r a=>(cv [[10]] func140) λ_ _=>by
 refine U<|zo I<|M<|za<|U<|z2 E xE<|M ?_;refine aO.qv rfl (λo=>?_) ?_
 .rw[o]at a;refine U<|zo I<|M<|zr<|zR ?_;cases a;exact az
 .skip;refine zk<|zt<|U ?_;refine ws (au.od (α:=UInt8) 10 rfl rfl de.h)<|zo E<|bB a λq j a=>?_;refine ws (au.append (te':=[]) 10 j rfl rfl de.h (ai rfl) rfl (ai rfl) cC.flat cC.flat)<|zo I<|M<|zr ?_;cases a;exact az
theorem QH:C3 20 qD (s2 .fl):=λC u w r a=>(cv [[]] func20) λ_ _=>by
 refine U<|zs (yb 10 aA)<|zs (yb 17 aA)<|z2 I I<|M<|za<|U<|z2 xr xr<|bB a λA q a=>z2 (kC [] 25 (tu _ _ q)) I<|zz<|z2 E xq<|M<|zx a λj a=>zk<|zt<|U<|zo xr<|bB a λz o a=>z5 (kC [] 26 (lJ _ o)) E aC aB I<|zo I<|M<|za<|zl ?_;refine jn a (vu u w) [2,4,8017] (λk p=>Z 22 p<|k) ?_ ?_
 .rintro B a;refine zx a λj a=>U<|z3 xf xl E<|g4 rfl rfl (λ_=>⟨E,xf,xl,xi⟩)<|z2 xw I<|M<|zd a (λj a=>?_) λj a=>?_
  .refine U<|z2 I I<|M<|zr<|zi<|zR ?_;cases a;exact bC
  .refine zk<|zh<|zt<|U<|z4 xf xl I I<|M<|zr ?_;cases a;exact bC
 .refine U<|z3 E xi I<|M<|zd a (λj a=>?_) λj a=>?_
  .exact zk<|zJ _ a
  .exact zb<|z4 E E xh I<|zw<|zJ _ a
theorem QJ:C2 262 xA .fl:=λj o r a=>(cv [[]] func262) λ_ _=>by refine U<|zs (yb 10 aA)<|zo I<|zz<|z3 E xh E<|g4 rfl rfl (λ_=>⟨E,xf,xl,xi⟩)<|z2 xw I<|M<|zr ?_;cases a;exact az
theorem qW:C2 47 mz (s2 .fl):=λz u r a=>(cv [[]] func47) λ_ _=>by refine U<|z2 I I<|M<|za<|bB a λw o a=>bB a λq j a=>?_;refine zQ aI (S:=p6 E E (ah.oK o (ai rfl) (ai rfl)) E E (ah.mI j (ai rfl) (ai rfl))<|p2 I I<|aN) (h:=zt<|zr ?_);cases a;exact bC
theorem Hf:C4 104 uP (s2 .fl):=λw u D C r a=>(cv [[]] func104) λ_ _=>by
 refine U<|zs (yb 10 aA)<|zs (ya 17)<|zo I<|zz<|zo xr<|bB a λA q a=>z5 (kC [] 25 (lJ _ q)) E aC aB I<|zo I<|M<|za<|zl<|U<|z3 E xq I<|M<|zx a λj a=>?_;refine jn a (tP w u) [1,4,8,15010] (λk p=>Z 24 p<|k) ?_ ?_
 .rintro B a;refine zx a λj a=>zk<|zh<|zt<|U<|z3 E xf xl<|bB a λz o a=>z5 (kC [] 26 (qW _ _ o)) E aC aB I<|zo I<|zz<|z3 xr E bU<|zs (yo bT)<|zo I<|M<|zr ?_;cases a;exact bC
 .refine U<|z3 E xi I<|M<|zd a (λj a=>?_) λj a=>?_
  .exact zk<|zJ _ a
  .refine U<|z4 E E xh I<|M<|zd a (λj a=>?_) λj a=>?_
   .exact zk<|zJ _ a
   .refine U<|z3 E xi I<|M<|zd a (λj a=>?_) λj a=>?_
    .exact zk<|zJ _ a
    .exact zb<|z4 E E xh I<|zw<|zJ _ a
theorem Lu:C1 100 yi .fl:=λq r a=>(cv [[]] func100) λ_ _=>by refine U<|zs (yb 10 ck)<|zo I<|zz<|z5 xf xl xf xf xl<|bB a λo j a=>z5 (kC [] 18 (qW _ _ j)) E aC aB I<|zo I<|zz<|z5 xf xf xl xz E<|z2 xz I<|M<|zr ?_;cases a;exact az
theorem Og:C2 48 wM .fl:=λz u r a=>(cv [[]] func48) λ_ _=>by refine U<|zs (yb 10 ck)<|zo I<|M<|za<|bB a λw o a=>bB a λq j a=>?_;refine zQ aI (S:=p6 xR (kC [] 18 (Lu _ o)) xy E xy xf<|p6 xf xl (kC [] 19 (qW _ _ j)) E aC aB<|p2 I I<|aN) (h:=zt<|U<|z2 E I<|M<|zr ?_);cases a;exact az
theorem FP:C3 53 uO (s2 .fl):=λA u z r a=>(cv [[]] func53) λ_ _=>by refine U<|zs (yb 10 aA)<|z2 I I<|zz<|z5 xr E E xf xl<|bB a λw o a=>z4 (kC [] 17 (Hf _ _ _ _ o)) E aC aB<|zs (ya 18)<|zs (yo ck)<|zo I<|M<|za<|U<|z2 E xq<|M<|zx a λB a=>zk<|zt<|U<|z2 xR E<|bB a λq j a=>z3 (kC [] 26 (Og _ _ j)) I I<|M<|zr ?_;cases a;exact bC
theorem Kt:C3 263 vR (s2 (.own 0 (some 1) 233)):=λam an q r j=>(cv [[47],[45,46,49,50]] func263) λ_ _=>by
 refine U<|zs (yb 10 aA)<|zs (yb 17 aA)<|z2 I I<|zz<|z5 xr E xf xl bU<|zs (yb 22 bT)<|zo I<|zz<|z4 xr xr E xF ?_;refine il j Hk [8,9022] (λk p=>W 19 (.top)<|Y 31 (.ow [47] [45,46,49,50] 233 p)<|k) func288 cF ?_ ?_
 .refine λag=>iu 1 [8] [10022] ?_;refine U<|zs (yb 32 aF)<|zs (yb 39 aF)<|M<|za<|U<|z4 xf xl xn E<|M<|zl<|bB j λX B j=>?_;refine lp B [2,3,4,9,10,902008,9022,12032] (λk (a,b)=>Z 11 a<|Y 31 (.ow [47] [45,46] 233 b)<|k) (λk b=>(.exit 0,Y 31 (.ow [47] [45,46] 233 b)<|k)) ?_ ?_
  .rintro⟨s2,_⟩ ap j;refine U<|zo xi<|M<|za<|zd j (λo j=>?_) λo j=>?_
   .refine zk<|zt<|za<|zl<|U<|zo E<|bB j λal N j=>z4 (xI N) xD I I<|M<|zb<|z5 E E xf xl E<|bB j λaf C j=>z2 (xI C) xd ?_;refine il j (DK s2) [2,3,4,9,10,11,902008,9022,12032] (λk p=>W 23 (.top)<|Y 31 (.ow [47] [45,46] 233 p)<|k) func289 cV ?_ ?_
    .refine λV=>iu 2 [2,3,4,9,10,11] [902008,22022] ?_;refine za<|bB j λO D j=>?_;refine zQ aI (S:=p6 E xc xf xP E xc<|p6 xf xl E (kC [] 44 (FP _ _ _ D)) E aC<|p3 aB I I<|aN) (h:=zt<|za<|U<|z5 E E xc xf xl<|zo xe<|M<|zd j (λo j=>?_) λo j=>?_)
     .exact zr<|zR<|dK _ j
     .refine zk<|zt<|U<|zo E<|bB j λQ J j=>z2 (kC [0] 45 (lK _ J)) I<|M<|za<|U<|z3 E xn xe<|M<|zx j λo j=>zk<|zt<|bB j λac A j=>?_;refine zQ aI (S:=p6 E E xc xf xl E<|p6 E xc xf xl xy E<|p2 bU (xt [45] 46 [(cd.mk O.1 (1:UInt8) (wI (q.L+(1:Int))) Q)])<|aq (sE [.ae 48 _,.av 47] (yA [45,46] A))<|p2 xc xf<|aq (sE [.ae 100031 _,.ae 100022 _,.av 22,.bp 31] (yt))<|aN) (h:=?_);exact eW (dK _ j)
    .rintro ak j;exact zw<|zh<|zt<|zb<|z2 xy E<|zw<|zN j
   .exact ze<|zE<|zB j
  .intro _;refine zj<|zt<|zb<|z5 E xf xl xz xf<|zo xl ?_;refine il j z9 [902008,9022] (λk p=>W 31 (.top)<|Y 31 (.ow [47] [45,46,49,50] 233 p)<|k) func289 cV ?_ ?_
   .refine λV=>iu 2 [] [902008,10022] ?_;refine za<|bB j λG z j=>?_;refine zQ aI (S:=p6 E xc xf xP E xc<|p6 xf xl E (kC [] 48 (FP _ _ _ z)) E aC<|p3 aB I I<|aN) (h:=zt<|za<|U<|z5 E E xc xf xl<|zo xe<|M<|zd j (λo j=>?_) λo j=>?_)
    .exact zr<|zR<|dK _ j
    .refine zk<|zt<|U<|zo E<|bB j λK w j=>z2 (kC [0] 49 (lK _ w)) I<|M<|za<|U<|z3 E xn xe<|M<|zx j λo j=>zk<|zt<|bB j λad u j=>?_;refine zQ aI (S:=p6 E E xc xf xl E<|p6 E xc xf xl xy E<|p2 bU (xt [49] 50 [(cd.mk G.1 (1:UInt8) (wI (q.L+(1:Int))) K)])<|aq (sE [.ae 48 _,.av 47] (yA [45,46,49,50] u))<|p2 xc xf<|aq (sE [.ae 100031 _,.ae 100022 _,.av 22,.bp 31] (yt))<|aN) (h:=?_);exact eW (dK _ j)
   .rintro aa j;refine zw ?_;exact eW (dK _ j)
 .rintro ao j;refine zz<|z5 E xc xf xl I<|zo I<|M<|zr ?_;cases j;exact bC
theorem Z4:C3 229 Bl (s2 (.own 0 (some 1) 233)):=λD z C r a=>(cv [[24],[25]] func229) λ_ _=>by refine U<|zs (yb 10 aA)<|zs (yb 17 aA)<|z2 I I<|M<|za<|U<|z2 xr xr<|bB a λB u a=>z2 (kC [0] 22 (xL _ _ u)) I<|zz<|z2 E xq<|M<|zx a λj a=>zk<|zt<|za<|zl<|U<|z2 xr E<|bB a λw q a=>z3 (kC [] 23 (QJ _ _ q)) xN I<|M<|zx a λj a=>U<|z5 xf xl xn xe I<|M<|zx a λj a=>zk<|zh<|zt<|U<|z3 xr E xr<|bB a λA o a=>z5 (kC [0] 24 (Kt _ _ _ o)) aC aB I I<|M<|zr ?_;cases a;exact bC
theorem TM:C3 188 D5 (s3 (.own 0 (some 1) 233) (.own 2 (some 3) 342)):=λA D bN r j=>(cv [[74],[72,73],[76],[29,70,75]] func188) λ_ _=>by
 refine U<|zs (yb 10 aA)<|zs (yb 17 aA)<|zs (ya 25)<|z2 I I<|M<|za<|U<|z2 xr xr<|bB j λbM a3 j=>z2 (kC [] 27 (tu _ _ a3)) I<|zz<|z2 E xq<|M<|zx j λo j=>zk<|zt<|za<|U<|z3 E xn xg<|M<|zd j (λo j=>?_) λo j=>?_
 .refine U<|zs (yt)<|z2 I I<|M<|zr<|zR ?_;cases j;exact dL
 .refine zk<|zt<|za<|U<|z2 E xF<|bB j λbH aZ j=>z2 (kC [0,10] 28 (VE _ _ aZ) (H2 (j0 rfl (jT λy _=>@UO y A _)))) I<|zz<|z2 E xq<|M<|zx j λo j=>zk<|zt<|U ?_;refine ws (au.XH 29 3 43 rfl rfl) ?_;refine wo (ah.build (us:=[(0, .tmp 29)]) (ls':=[(false,1,aa.aL 29),(false,1,aa.dM)]) dV.h rfl (BP.T_ rfl rfl (One.gJ (ai rfl) rfl) (ai rfl) BP.nil))<|zs (yb 30 aF)<|zs (ya 33) ?_;refine ws (au.tZ (i:=0) (f:=aa.aL 30) rfl Vp rfl (aV (ai rfl) (Cv.eG rfl)) rfl (One.obj (ai rfl) rfl) (ai rfl) rfl)<|zz<|z2 E xF ?_;refine il j Gd [6,7,11,1025,2030,2033] (λk (a,b,c)=>Z 34 ((0:Int):Int)<|Y 26 (.ow [74] [72,73] 233 a)<|Y 32 (.ow [56,65] [] 3 b)<|W 100029 (.gJ 29 [70] 3 43 c)<|k) func224 cF ?_ ?_
  .refine λbI=>iu 1 [6,7,11] [17010,6029] ?_;refine U<|zo I<|M<|za<|U<|z3 E xn E<|M<|zl<|bB j λbz aR j=>?_;refine lp aR [1,8,9,902006,902007,902011,16010,2030,2033] (λk (a,b,c,d)=>Z 10 a<|Y 26 (.ow [74] [72,73] 233 b)<|Y 32 (.ow [56,65] [] 3 c)<|W 100029 (.gJ 29 [70] 3 43 d)<|k) (λk (a,b,c)=>(.exit 0,Y 26 (.ow [74] [72,73] 233 a)<|Y 32 (.ow [56,65] [] 3 b)<|W 100029 (.gJ 29 [70] 3 43 c)<|k)) ?_ ?_
   .rintro⟨z,C,_,a1⟩ bs j;refine U<|zo xi<|M<|za<|zd j (λo j=>?_) λo j=>?_
    .refine zk<|zt<|za<|zl<|U<|bB j λw aO j=>z2 (xI aO) xd<|zs (ya 35)<|zs (yo ck)<|zz<|z2 E xR ?_;refine il j (Dd z) [1,8,9,10,902006,902007,902011,16010,2030,2033] (λk (a,b,c,d)=>Z 16 a<|Y 26 (.ow [74] [72,73] 233 b)<|Y 32 (.ow [56,65] [] 3 c)<|W 100029 (.gJ 29 [70] 3 43 d)<|k) func227 cV ?_ ?_
     .refine λbL=>iu 2 [1,8,9,10] [902006,902007,902011,17010,6029] ?_;refine U<|zs (yb 42 bT)<|zo I<|zz<|z3 xl xf xP ?_;refine il j (tS A D z C w) [2,3,4,5,902006,902007,902011,904001,904008,904009,904010,17010,2030,2033,7042] (λk (a,b)=>W 13 (.top)<|Y 32 (.ow [56,65] [] 3 a)<|W 100029 (.gJ 29 [70] 3 43 b)<|k) func228 cF ?_ ?_
      .refine λbJ=>iu 3 [2,3,4,5] [902006,902007,902011,904001,904008,904009,904010,17010,6029,7042] ?_;refine U<|zs (yb 49 aF)<|M<|za<|U<|z4 xf xl xn xg<|M<|zd j (λo j=>?_) λo j=>?_
       .refine jn j (yg A D z C w) [902006,902007,902011,904001,904008,904009,904010,906002,906003,906004,906005,17010,2030,2033,7042] (λk (a,b)=>Y 32 (.ow [56,65] [] 3 a)<|W 100029 (.gJ 29 [70] 3 43 b)<|k) ?_ ?_
        .rintro⟨_,_⟩ j;exact zr<|zR<|dK (_,_) j
        .refine za ?_;refine zQ aI (S:=p6 E xc xf xl xf xl<|p2 (ah.Jj yB (ai rfl) rfl (ai rfl)) (ah.X_ underlying354 (ai rfl) rfl)<|aN) (h:=zt<|zd j (λo j=>?_) λo j=>?_)
         .refine za ?_;refine zQ aI (S:=p6 E xc xf xl xf xl<|aq (sE [.ae 100029 _,.av 29] (au.Yr yB rfl rfl (ai rfl) rfl (ai rfl)))<|aN) (h:=zt<|zb<|z5 E E xc xf xl<|zo xF ?_);refine il j (zO A D z C a1 w) [27,902006,902007,902011,904001,904008,904009,904010,906002,906003,906004,906005,17010,3029,2033,7042] (λk p=>W 33 (.ow [56,65] [] 3 p)<|k) func257 cF ?_ ?_
          .refine λbG=>iu 4 [27] [902006,902007,902011,904001,904008,904009,904010,906002,906003,906004,906005,17010,6029,12042] ?_;refine U<|zo I<|zz<|z2 E E<|bB j λbq aY j=>z2 (kC [0,49,56,65] 54 (Wg _ _ aY) (H2 (j0 rfl (jT λy _=>@ZI y w.bl _)))) I<|M<|za<|U<|z2 E xe<|M<|zd j (λo j=>?_) λo j=>?_
           .exact U<|z2 E I<|M<|zr<|zR<|bS _ j
           .refine zk<|zt<|za<|U<|z3 E xy I<|M<|zl<|bB j λbe az j=>?_;refine lp az [1,902006,902007,902011,904001,904008,904009,904010,906002,906003,906004,906005,908027,17010,3029,2033,12042] (λk (a,b,c)=>W 0 (.ow [55,56,65] [] 3 a)<|Z 5 b<|Z 6 c<|k) (λk (a,b)=>(.exit 0,W 0 (.ow [55,56,65] [] 3 a)<|Z 5 b<|k)) ?_ ?_
            .rintro⟨a6,a0,ac⟩ bA j;refine za<|U<|z4 E E xn xi<|M<|zd j (λo j=>?_) λo j=>?_
             .refine zk<|zt ?_;refine jn j (AX ac) [1,6,902006,902007,902011,904001,904008,904009,904010,906002,906003,906004,906005,908027,17010,3029,2033,12042] (λk (a,b)=>W 0 (.ow [55,56,65] [] 3 a)<|Z 5 b<|k) ?_ ?_
              .rintro⟨_,_⟩ j;exact zb<|z3 E xy I<|zw<|zN j
              .refine zl<|U<|z2 E E<|bB j λX aE j=>z3 (xJ aE) xS I<|zz<|z2 E E ?_;refine il j (IA w a6 a0 ac X) [0,1,5,6,7,902006,902007,902011,904001,904008,904009,904010,906002,906003,906004,906005,908027,17010,3029,2033,12042] (λk p=>Z 28 ((X==w.bl.L):Bool)<|k) func258 cV ?_ ?_
               .refine λbE=>iu 5 [0,1,5,6,7] [902006,902007,902011,904001,904008,904009,904010,906002,906003,906004,906005,908027,17010,3029,2033,12042] ?_;exact U<|zo I<|zz<|z5 E xf xl xe I<|M<|zr<|bS () j
               .rintro _ j;refine zo xN<|M<|zd j (λo j=>?_) λo j=>?_
                .refine za ?_;exact ei (Ad.ow (s:=0) 55 rfl rfl ev.flat rfl (Cv.d_ (T:=[55,56,65]) (te:=[]) (T':=[55,56,65]) (te':=[]) rfl))<|zb<|z3 E E E<|bB j λbd K j=>zo (xu K)<|zs (yW [] K)<|M<|zb<|z3 E xy I<|zw<|zh<|zJ (_,_) j
                .exact zk<|zh<|zJ (_,_) j
             .exact ze<|zE<|zB j
            .intro _;refine zj<|zt<|za ?_;refine ei (Ad.ow (s:=0) 56 rfl rfl ev.flat rfl (Cv.d_ (T:=[55,56,65]) (te:=[]) (T':=[55,56,65]) (te':=[]) rfl))<|zb<|z2 E E<|bB j λbg ar j=>?_;refine wo (ah.Gm ar de.h (ai rfl) rfl (ai rfl)) ?_;refine ws (au.F9 (te':=[]) de.h Ww rfl (ai rfl) rfl cC.flat)<|zz<|z2 E E<|bB j λa9 ap j=>?_;exact wo (ah.Ho ap de.h (aV (ai rfl) (Cv.qd rfl)) (ai rfl))<|zo I<|M<|zr<|bS _ j
          .rintro a8 j;exact z2 xc xf<|zs (yt)<|zw<|zJ (_,_) j
         .exact zk<|zJ (_,_) j
       .refine zk<|zt<|za ?_;refine zQ aI (S:=p6 E xc xf xl xf xl<|p2 (ah.Jj yB (ai rfl) rfl (ai rfl)) I<|aN) (h:=zt ?_);refine jn j (yk A D z C w) [3,902006,902007,902011,904001,904008,904009,904010,906002,906003,906004,906005,17010,2030,2033,12042] (λk (a,b,c,d)=>W 4 (.aL 57)<|V 58 w.bl.L<|Y 59 (.ow [62] [] 3 a)<|Y 60 (.ow [63] [70] 43 b)<|Y 61 (.dM)<|Y 32 (.ow [56,65] [] 3 c)<|O 57 4<|W 100029 (.sa 29 [70] 3 43 d w.bl.L 57)<|k) ?_ ?_
        .rintro⟨_,_,_,_⟩ j;refine U<|z4 xf xl xn E<|M<|zl<|bB j λQ ay j=>?_;refine lp ay [3,4,70,71,902006,902007,902011,904001,904008,904009,904010,906002,906003,906004,906005,17010,6029,12042,2057,1061] (λk (a,b,c)=>Z 72 a<|Y 59 (.ow [62] [] 3 b)<|Y 60 (.ow [63,69] [70] 43 c)<|k) (λk (a,b)=>(.exit 0,Y 59 (.ow [62] [] 3 a)<|Y 60 (.ow [63,69] [70] 43 b)<|k)) ?_ ?_
         .rintro⟨a2,_,_⟩ bn j;refine U<|zo xi<|M<|za<|zd j (λo j=>?_) λo j=>?_
          .refine zk<|zt<|za<|zl<|U<|zo E<|bB j λa' aM j=>z4 (xI aM) xD I I<|zz<|z5 E xc xf xl E<|bB j λa5 al j=>z5 (kC [62] 66 (XE _ _ al)) E aC aB I<|zo I<|M ?_;refine jn j (DP w a2 a5) [3,4,5,7,70,71,72,902006,902007,902011,904001,904008,904009,904010,906002,906003,906004,906005,17010,6029,12042,2057,1061] (λk (a,b)=>Y 59 (.ow [62] [] 3 a)<|Y 60 (.ow [63,69] [70] 43 b)<|k) ?_ ?_
           .rintro⟨_,_⟩ j;refine ei (Ad.d_ (i:=60) 69 rfl rfl rfl (ev.bj rfl) rfl (Cv.gT (T:=[63,69]) (te:=[70]) (T':=[63,69]) (te':=[70]) rfl rfl))<|bB j λba ao j=>bB j λa7 aQ j=>bB j λa_ G j=>?_;exact zQ aI (S:=p6 E xc xf xl E xf<|p6 xl E (xI ao) xd (kC [0] 70 (tC _ aQ)) (xu G)<|aq (sE [.ae 100069 _,.av 69] (yW [70] G))<|aN) (h:=zh<|zt<|zb<|z2 xy E<|zw<|zN j)
           .refine U<|z2 E xN<|M<|zd j (λo j=>?_) λo j=>?_
            .refine bB j λbC ak j=>bB j λbw aG j=>?_;exact zQ aI (S:=p6 E E E xc xf xl<|p3 E E (ah.uI (xs:=[.tmp 95]) (T:=[]) 67 rfl de.h rfl rfl rfl rfl (fX.cons (fG (ai rfl)) fX.nil))<|aq (sE [.ae 97 _,.av 62] (au.J0 (T:=[62]) (te':=[]) ak rfl rfl rfl rfl (by kernel_rfl) ZV (ai rfl) (ai rfl) (ai rfl) rfl gn.flat gn.flat))<|p6 E xc xf xl E (ah.uI (xs:=[.const (.slice none 0 0)]) (T:=[]) 68 rfl de.h rfl rfl rfl rfl (fX.cons (Has.m (Has.nil UInt8) rfl) fX.nil))<|aq (sE [.ae 104 _,.av 63,.av 69] (au.J0 (T:=[63,69]) (te':=[70]) aG rfl rfl rfl rfl (by kernel_rfl) OE (ai rfl) (ai rfl) (ai rfl) rfl (gn.bj rfl rfl) (gn.bj rfl rfl)))<|p2 xc xf<|aq (sE [.ae 100059 _,.ae 100057 _,.av 57,.bp 59] (yt))<|p2 xc xf<|aq (sE [.ae 100060 _,.ae 100057 _,.av 57,.bp 60] (yt))<|aN) (h:=zJ (_,_) j)
            .exact zk<|zJ (_,_) j
          .exact ze<|zE<|zB j
         .intro _;refine zj ?_;refine aH.ad (Ad.Vu (q:=29) (u:=57) (te:=[70]) (T1:=[62]) (T2:=[63,69]) (t1:=[]) (te':=[70]) (l1:=Q.1) (l2:=Q.2) (teO:=[70]) rfl rfl rfl rfl rfl rfl rfl (aW rfl) (aW rfl) (aW rfl) (aW rfl)) ?_;exact eW (dK (_,_) j)
        .refine U<|zo E ?_;refine wo (ah.Sj underlying354 (ai rfl) rfl)<|M<|zd j (λo j=>?_) λo j=>?_
         .refine U<|z3 xf xl bU<|zs (yb 57 aF)<|zo I<|M<|bB j λbb aJ j=>bB j λbc J j=>?_;exact zQ aI (S:=p6 E xc xf xl xf xl<|p6 E E E xc xf xl<|p3 xf xl (ah.uI (xs:=[.tmp 62]) (T:=[]) 64 rfl de.h rfl rfl rfl rfl (fX.cons (fG (ai rfl)) fX.nil))<|aq (sE [.ae 64 _,.av 56,.av 65] (yA [] aJ))<|aq (sE [.ae 65 _,.ae 100029 _,.av 29] (au.Ue J yB rfl rfl rfl (ai rfl) rfl (ai rfl)))<|o1 aB<|aq (sE [.ae 100029 _,.av 29] (au.Ys (s:=w.bl.L) J rfl rfl (ai rfl) rfl (ai rfl) (ai rfl)))<|p2 xc xf<|aq (sE [.ae 100032 _,.ae 100030 _,.av 30,.bp 32] (yt))<|aN) (h:=zJ (_,_,_,_) j)
         .exact ei (Ad.SN (sl:=4) (q:=29) 57 rfl rfl rfl rfl rfl rfl (Za o))<|zk<|zJ (_,_,_,_) j
      .rintro⟨_,_⟩ j;refine M<|za<|U<|z5 xf xf xl xn xe<|M<|zd j (λo j=>?_) λo j=>?_
       .exact U<|zo I<|M<|zr<|zR<|bS (_,_,_,_) j
       .exact zk<|zt<|U<|z5 xr xr xf xf xl<|bB j λbr an j=>z5 (kC [] 71 (QH _ _ _ an)) E aC aB I<|zo I<|M<|za<|U<|z2 E xq<|M<|zx j λo j=>zk<|zt<|U<|z4 xr E xf xP<|bB j λbi am j=>z5 (kC [0] 72 (Z4 _ _ _ am)) E aC aB I<|zo I<|zz<|z2 xl E<|bB j λbD ag j=>zs (yA [72,73] ag)<|zs (yt)<|zz<|z2 E I<|M<|zr<|bS (_,_,_,_) j
     .rintro⟨_,_,_,_⟩ j;exact zo I<|zz<|z2 E xq<|M<|zx j λo j=>zk<|zh<|zt<|zb<|z2 xy E<|zw<|zN j
    .exact ze<|zE<|zB j
   .intro _;exact zj<|zt<|U<|zo I<|M<|zr<|bS (_,_,_) j
  .rintro⟨_,_,_⟩ j;refine zo I<|M<|za<|U<|z2 E xq<|M<|zF<|zk<|zt<|za<|U<|z5 xl xc xf xl xn<|zo E<|M<|zl<|bB j λbv aU j=>?_;refine lp aU [6,11,41,42,2025,6029] (λk (a,b)=>W 7 (.ow [76] [29,70,75] 342 a)<|Z 43 b<|k) (λk b=>(.exit 0,W 7 (.ow [76] [29,70,75] 342 b)<|k)) ?_ ?_
   .rintro⟨_,_⟩ c8 j;refine U<|zo xi<|M<|za<|zd j (λo j=>?_) λo j=>?_
    .refine zk<|zt<|za<|zl<|U<|bB j λaf a4 j=>z3 (xJ a4) xS I<|M<|zb<|z5 E xl xc xf xl<|zo E ?_;refine wo (ah.Jj yB (ai rfl) rfl (ai rfl))<|bB j λB N j=>?_;refine wo (ah.Un N (ai rfl) rfl) ?_;exact wo (f:=aa.aK [tr (af:Int),(false,1,aa.rep [29] B.2.1),(false,1,aa.rep [29,70] B.2.2),(false,1,aa.dM)]) (ah.VU N cj.h rfl rfl (ai rfl) rfl)<|zo (xt [29,70] 75 [(bl.mk af B.2.1 B.2.2 ([]:List UInt8))])<|bB j λbm aw j=>zs (yA [29,70,75] aw)<|zo I<|zw<|zh<|zt<|zb<|z2 xy E<|zw<|zN j
    .exact ze<|zE<|zB j
   .intro _;refine zj<|zt<|U<|z2 xl E<|zs (yt)<|z2 I I<|M<|zr ?_;cases j;exact dL
theorem QF:C1 86 yy (s2 (.own 0 (some 1) 233)):=λD r j=>(cv [[19],[18]] func86) λ_ _=>by
 refine U<|zs (yb 10 aA)<|z2 I I<|M<|za<|U<|zo xr<|bB j λB w j=>z2 (kC [] 17 (rS _ w)) I<|zz<|z2 E xq<|M<|zx j λo j=>zk<|zt<|U<|zo I<|M<|za<|U<|z3 xf xl E<|M<|zl<|bB j λC u j=>?_;refine lp u [13] (λk (a,b)=>W 5 (.ow [19] [18] 233 a)<|Z 14 b<|k) (λk b=>(.exit 0,W 5 (.ow [19] [18] 233 b)<|k)) ?_ ?_
 .rintro⟨_,s3⟩ z j;refine U<|zo xi<|M<|za<|zd j (λo j=>?_) λo j=>?_
  .exact zk<|zt<|za<|zl<|U<|z2 E I<|M<|zb<|z4 E E bU (xt [] 18 [(cd.mk s3 (3:UInt8) (0:Int) ([]:List UInt8))])<|bB j λA q j=>zs (yA [18] q)<|zo I<|zw<|zh<|zt<|zb<|z2 xy E<|zw<|zN j
  .exact ze<|zE<|zB j
 .intro _;refine zj<|zt<|U<|z3 E I I<|M<|zr ?_;cases j;exact bC
theorem Qk:C1 264 yn .fl:=λj r a=>(cv [[]] func264) λ_ _=>by refine U<|zs (yb 10 aA)<|zo I<|zz<|z5 xf xl xn xy xf<|z5 xl xn n9 xy I<|M<|zr ?_;cases a;exact az
theorem WG(a0 a1 a2 a3){r}(j:B4 a0 a1 a2 a3=some r):CT 230 [.ptr 0 a0,.rep 0 a1,.rep 0 a2,.rep 0 a3] (.cP (qo (.own 0 none 133) r.1) (.fl r.2)) []:=by
 refine cw [[36]] func230 λw0 om=>?_;refine U<|zs (yb 10 aA)<|zs (ya 15)<|zo I<|zz<|z2 I I<|M<|za<|U<|z3 E xn E<|M<|zl<|bB j λQ D j=>?_;refine lp D [0,2,3,5,8,11,20,21,11010] (λk (a,b)=>Z 10 a<|Z 22 b<|k) (λk b=>(.exit 0,Z 10 b<|k)) ?_ ?_
 .rintro⟨_,_⟩ O j;refine U<|zo xi<|M<|za<|zd j (λo j=>?_) λo j=>?_
  .exact zk<|zt<|za<|zl<|U<|bB j λV C j=>z2 (xI C) xd<|zs (ya 21)<|zs (yo ck)<|M<|zb<|z3 E xf xP<|bB j λW B j=>z3 (kC [0] 28 (Qk _ B)) xy I<|zw<|zh<|zt<|zb<|zo xy<|zo E<|zw<|zN j
  .exact ze<|zE<|zB j
 .intro _;refine zj<|zt<|za<|U<|z3 E xn E<|M<|zl<|bB j λL A j=>?_;refine lp A [0,2,3,5,8,10,32,33,11010] (λk (a,b)=>Z 11 a<|Z 34 b<|k) (λk b=>(.exit 2,Z 11 b<|k)) ?_ ?_
  .rintro⟨_,_⟩ X j;refine U<|zo xi<|M<|za<|zd j (λo j=>?_) λo j=>?_
   .exact zk<|zt<|za<|zl<|U<|bB j λN z j=>z2 (xI z) xd<|zs (ya 29)<|zs (yo aA)<|M<|zb<|z2 E xr<|bB j λJ q j=>z3 (kC [0] 34 (Qk _ q)) xy I<|zw<|zh<|zt<|zb<|z2 xy E<|zw<|zN j
   .exact ze<|zE<|zB j
  .intro _;refine zj<|zt<|za<|bB j λG w j=>?_;refine zQ aI (S:=p6 E xC xp xp xp xD<|p6 xf xl E (kC [] 35 (tt _ _ _ w)) E aC<|p3 aB I I<|aN) (h:=zt<|U<|z5 xf xl xX xf xl<|z5 E xn (eF (β:=UInt32)) xX E<|bB j λK u j=>z4 (kC [] 36 (KI _ _ _ u)) E aC aB<|zs (ya 37)<|zs (yo aF)<|zo I<|M<|za ?_);refine zQ aI (S:=p4 xr E xe E<|w4 (q4 (h:=λ_=>⟨E,E,xy,E⟩))<|w4 (q4 (h:=λ_=>⟨xC,xp,xp,xp⟩))<|w2 (q2 (h:=λ_=>⟨xD,xj⟩))<|p2 xw E<|w4 (q4 (h:=λ_=>⟨E,xn,E,xC⟩))<|w4 (q4 (h:=λ_=>⟨xp,xp,xp,xD⟩))<|aq (qg (h:=λ_=>xj))<|o1 xw<|aq (sE (kR 15 [_,_,_,_,_,_] (.av 15::(kK 16 5 []))) (yo aF))<|o1 I<|aN) (h:=zt<|zr ?_);cases j;exact bC
theorem QM:C1 203 BJ (s2 .fl):=λq r a=>(cv [[]] func203) λ_ _=>by refine U<|zs (yb 10 aA)<|z2 I I<|zz<|z4 xr xf xl xy<|bB a λo j a=>z5 (kC [] 17 (vZ _ _ j)) aC aB I I<|M<|zr ?_;cases a;exact bC
theorem Kq:C1 204 AG .fl:=λj r a=>(cv [[]] func204) λ_ _=>by refine U<|zo I<|zz<|z3 E xH E<|g2 rfl rfl (λ_=>⟨E,rf⟩)<|z2 xw I<|M<|zr ?_;cases a;exact az
theorem Rk(u){r}(o:Dx u=some r):CT 205 [.ptr 0 u] (.fl r) []:=by
 refine oA [[]] 38 func205 rfl rfl rfl rfl (λw0 om=>?_);refine aO.sub (G':=[.ae 0 (.ptr [0] (u:Ring))]) (sn Sub.nil)<|U<|zs (ya 10)<|zz ?_;refine ws (au.Bo (β:=Int) 12 rfl rfl)<|zs (ya 13) ?_;refine ws (au.tZ (i:=0) (f:=aa.aL 12) rfl Xw rfl (aV (ai rfl) (Cv.eG rfl)) rfl (One.gP (ai rfl) rfl) (ai rfl) rfl)<|M<|za<|U<|z5 E xC xp xp xd ?_;refine il o (JM u) [2,3,5010] (λk p=>W 12 (.ef 169 [] [aa.aL 15])<|Y 16 (.rep [0] u.K.j)<|O 15 1<|k) func119 cF ?_ ?_
 .refine λD=>iu 1 [2,3] [5010] ?_;refine U<|zs (yb 15 fc) ?_;exact wo (ah.assign Has.top)<|zz<|z2 xF I<|M<|zr<|bS () o
 .rintro _ o;refine M<|zl ?_;refine rG 17 [2,3,12] [7010] func169 (h:=λD=>ra (h:=λG w=>?_));refine U<|z4 xl xn xz I<|M<|zl<|bB o λQ A o=>?_;refine lp A [0,1,902002,902003,902012,2010,6013] (λk (a,b)=>Z 3 a<|W 100012 (.gP 12 b)<|k) (λk b=>(.exit 0,W 100012 (.gP 12 b)<|k)) ?_ ?_
  .rintro⟨B,_⟩ N o;refine za<|U<|z2 E xh<|M<|zd o (λq o=>?_) λq o=>?_
   .refine zk<|zt<|za<|zl<|U<|z4 E E xl E<|bB o λC z o=>z2 (xI z) xD ?_;refine rY 17 904000 [0,1,3] [2,3,12] [902002,902003,902012,9010] w (h:=λJ=>rK (h:=?_));refine zb<|zs (ya 19)<|zs (yo aA)<|zw ?_;refine aH.oW (t:=17) rfl rfl<|zl ?_;refine jn o (Dy B C) [3,5,902002,902003,902012,904000,904001,904003,2010,13013] (λk p=>W 100012 (.gP 12 p)<|k) ?_ ?_
    .rintro L o;refine U<|z3 xf xl E<|g4 rfl rfl (λ_=>⟨xf,xl,xN,xM⟩)<|zu rfl rfl (λ_=>xl)<|zu rfl rfl (λ_=>xf)<|zu rfl rfl (λ_=>xl) ?_;refine br.jY rfl rfl rfl (λq=>ah.NW B6 (dD rfl q) rfl (dD rfl q))<|zu rfl rfl (λ_=>xe)<|zg rfl rfl (λ_=>xO)<|zo xw<|M<|zx o λq o=>zk<|zh ?_;refine rN 17 904000 [0,1,3] [902002,902003,902012,7010,8018] (k:=?_);exact zo xN<|M<|zF<|zk<|zh<|zt<|zb<|z3 E xz I<|zw<|zN o
    .refine U<|z3 xf xl E<|g2 rfl rfl (λ_=>⟨xf,xl⟩)<|zo xw<|M<|zd o (λq o=>?_) λq o=>?_
     .refine zb<|z3 xl xf xl ?_;exact ws (au.BW B6 rfl (ai rfl) rfl (ai rfl) e_)<|zw<|zJ _ o
     .exact zk<|zJ _ o
   .exact ze<|zE<|zB o
  .intro _;refine zj ?_;refine aH.nC ?_;refine rF 17 [2,3,12] [7010,1018] (k:=?_);refine zh<|zt<|U<|zs (yt)<|M<|zr ?_;cases o;exact rU 18 az
theorem TC(a0){r}(j:Bz a0=some r):CT 238 [.ptr 0 a0] (.fl r) []:=by
 refine cw [[]] func238 λw0 om=>?_;refine U<|zo I<|zz ?_;refine ws (au.Bo (β:=Bool) 10 rfl rfl)<|zo I<|M<|za<|U<|z5 E xC xp xp xd<|z2 xn E<|M<|zl<|bB j λC u j=>?_;refine lp u [3,11,12] (λk (a,b)=>Z 13 a<|W 100010 (.gP 10 b)<|k) (λk b=>(.exit 0,W 100010 (.gP 10 b)<|k)) ?_ ?_
 .rintro⟨w,_⟩ A j;refine U<|zo xi<|M<|za<|zd j (λo j=>?_) λo j=>?_
  .refine zk<|zt ?_;refine jn j (By w) [3,11,12,13] (λk p=>W 100010 (.gP 10 p)<|k) ?_ ?_
   .rintro z j;exact zb<|z2 xy E<|zw<|zN j
   .refine zl<|U<|bB j λB q j=>z2 (xI q) xD<|zs (ya 11)<|zs (yo aA)<|zz<|z3 E xf xl ?_;refine ws (au.BW Gz rfl (ai rfl) rfl (ai rfl) Has.bool)<|zz<|z2 xf xl<|M<|zd j (λo j=>?_) λo j=>?_
    .refine zb<|z3 E xf xl ?_;exact ws (au.XY Gz rfl (ai rfl) rfl (ai rfl))<|zw<|zh<|zJ _ j
    .exact zk<|zh<|zJ _ j
  .exact ze<|zE<|zB j
 .intro _;refine zj<|zt<|U<|zo E ?_;refine wo (ah.YA Gz (ai rfl) rfl)<|zo I<|M<|zr ?_;cases j;exact az
theorem L_(a0){r}(a:wB a0=some r):CT 206 [.ptr 0 a0] (.fl r) []:=by refine cw [[]] func206 λw0 om=>?_;refine U<|zo I<|zz<|z4 E xC xp xD<|bB a λw q a=>z5 (kC [] 10 (QM _ q)) E aC aB I<|zo I<|M<|za<|bB a λu o a=>?_;refine zQ aI (S:=p6 E xC xp xp xD E<|p6 xC xp xp xD xj E<|w4 (q4 (h:=λ_=>⟨E,xC,xp,xp⟩))<|w4 (q4 (h:=λ_=>⟨xD,E,xC,xp⟩))<|w4 (q4 (h:=λ_=>⟨xp,xD,xz,E⟩))<|aq (qg (h:=λ_=>E))<|aq (cI.mX rfl rfl rfl (λj=>ah.jI [0] 11 rfl (by kernel_rfl) (TC a0 (bM o j)) (bX.cons (aV (dD rfl j) (Cv.mR rfl)) bX.nil)))<|w2 (q2 (h:=λ_=>⟨xk,xh⟩))<|p2 xw I<|aN) (h:=zt<|zr ?_);cases a;exact az
theorem Xi(a0){r}(j:FQ a0=some r):CT 163 [.ptr 0 a0] (.fl r) []:=by
 refine cw [[]] func163 λw0 om=>?_;refine U<|zo I<|zz<|z4 E xC xp xD<|bB j λQ D j=>z5 (kC [] 10 (lJ _ D)) E aC aB I<|zo I<|zz<|z4 E xC xp xD<|bB j λN C j=>z4 (kC [] 11 (QM _ C)) E aC aB<|z2 I I<|M<|za<|za<|bB j λO z j=>bB j λW B j=>?_;refine zQ aI (S:=p6 E xC xp xp xD (kC [] 12 (Kq _ z))<|p2 xN E<|w4 (q4 (h:=λ_=>⟨E,xC,xp,xp⟩))<|aq (qg (h:=λ_=>xD))<|aq (cI.mX rfl rfl rfl (λo=>ah.jI [] 13 rfl (by kernel_rfl) (Kq a0.K.Seq (bM B (cS o))) (bX.cons (fG (dD rfl o)) bX.nil)))<|aq (qg (h:=λ_=>xN))<|p2 xo E<|w4 (q4 (h:=λ_=>⟨E,xC,xp,xp⟩))<|w2 (q2 (h:=λ_=>⟨xD,xi⟩))<|p2 xo E<|w4 (q4 (h:=λ_=>⟨E,xC,xp,xp⟩))<|w4 (q4 (h:=λ_=>⟨xD,E,xC,xp⟩))<|w3 (q3 (h:=λ_=>⟨xp,xD,xh⟩))<|p2 xo E<|w4 (q4 (h:=λ_=>⟨E,xC,xp,xp⟩))<|w4 (q4 (h:=λ_=>⟨xd,xn,E,xC⟩))<|w4 (q4 (h:=λ_=>⟨xp,xp,xD,xg⟩))<|p2 xo E<|w4 (q4 (h:=λ_=>⟨E,xC,xp,xp⟩))<|w4 (q4 (h:=λ_=>⟨xD,E,xC,xp⟩))<|w3 (q3 (h:=λ_=>⟨xp,xD,xg⟩))<|o1 xo<|aN) (h:=zt<|zx j λo j=>zk<|zt<|U<|z2 I I<|M<|za<|U<|z5 E xC xp xp xd<|z2 xn E<|M<|zl<|bB j λJ w j=>?_);refine lp w [0,3,5,95,96] (λk (a,b,c)=>Z 7 a<|Z 8 b<|Z 97 c<|k) (λk b=>(.exit 0,Z 7 b<|k)) ?_ ?_
 .rintro⟨_,_,_⟩ c8 j;refine U<|zo xi<|M<|za<|zd j (λo j=>?_) λo j=>?_
  .refine zk<|zt<|za<|zl<|U<|zo E<|bB j λV A j=>z2 (xI A) xD<|zs (ya 14)<|zo I<|zs (yo aA)<|M<|za<|za ?_;exact zQ aI (S:=p4 xf xl xi E<|w4 (q4 (h:=λ_=>⟨xf,xl,E,xh⟩))<|p2 xo E<|w3 (q3 (h:=λ_=>⟨xf,xl,xi⟩))<|p2 xo E<|w4 (q4 (h:=λ_=>⟨xf,xl,E,xg⟩))<|p2 xo E<|w3 (q3 (h:=λ_=>⟨xf,xl,rn⟩))<|p2 xo E<|w4 (q4 (h:=λ_=>⟨xf,xl,E,xC⟩))<|w4 (q4 (h:=λ_=>⟨xp,xp,xD,E⟩))<|w4 (q4 (h:=λ_=>⟨xC,xp,xp,xd⟩))<|w4 (q4 (h:=λ_=>⟨xn,E,xz,eF (β:=UInt32)⟩))<|w2 (q2 (h:=λ_=>⟨Fc,pT⟩))<|p2 xo E<|w3 (q3 (h:=λ_=>⟨xf,xl,xM⟩))<|aq (qu (h:=λ_=>E))<|aq (qu (h:=λ_=>xN))<|aq (qg (h:=λ_=>xW))<|o1 xo<|aN) (h:=zt<|zx j λo j=>zk<|zt<|U<|z5 E xf xl xy I<|M<|zb<|z3 xf xl I<|zw<|zh<|zt<|zb<|z2 xy E<|zw<|zN j)
  .exact ze<|zE<|zB j
 .intro _;refine zj<|zt<|za<|bB j λG q j=>bB j λL u j=>?_;refine zQ aI (S:=p6 E E xC xp xp xD<|p2 xe E<|w4 (q4 (h:=λ_=>⟨E,xC,xp,xp⟩))<|w4 (q4 (h:=λ_=>⟨xD,eF (β:=Int),E,xC⟩))<|w4 (q4 (h:=λ_=>⟨xp,xp,xd,xn⟩))<|aq (qg (h:=λ_=>xg))<|p2 xw E<|aq (qg (h:=λ_=>E))<|aq (cI.mX rfl rfl rfl (λo=>ah.jI [0] 21 rfl (by kernel_rfl) (Rk a0 (bM q o)) (bX.cons (aV (dD rfl o) (Cv.mR rfl)) bX.nil)))<|p2 xw E<|aq (qg (h:=λ_=>E))<|aq (cI.mX rfl rfl rfl (λo=>ah.jI [0] 22 rfl (by kernel_rfl) (L_ a0 (bM u o)) (bX.cons (aV (dD rfl o) (Cv.mR rfl)) bX.nil)))<|p2 xw I<|aN) (h:=zt<|zr ?_);cases j;exact az
theorem tE:C2 114 oh .fl:=λz u r a=>(cv [[]] func114) λ_ _=>by
 refine U<|zs (yb 10 aA)<|zs (yb 17 aA)<|zo I<|M<|za<|U<|zo xr<|bB a λq o a=>z3 (kC [] 23 (rS _ o)) xq E ?_;by_cases hg2:(q !=(0:Int))=false
 .have a:=iG (cS hg2) a;refine dI rfl (dA rfl rfl) (λ_=>?_) (λh=>absurd hg2 h);refine zo xr ?_;refine dI rfl (dA rfl rfl) (λ_=>?_) (λh=>absurd hg2 h);refine zo xr ?_;refine dI rfl (dA rfl rfl) (λ_=>?_) (λh=>absurd hg2 h);refine zo bU ?_;refine dI rfl (dA rfl rfl) (λ_=>?_) (λh=>absurd hg2 h);refine zs (yb 24 bT) ?_;refine dI rfl (dA rfl rfl) (λ_=>?_) (λh=>absurd hg2 h);refine bB a λw j a=>zo (kC [0,24] 36 (Xi _ j)) ?_;refine dI rfl (dA rfl rfl) (λ_=>?_) (λh=>absurd hg2 h);refine z2 xN (Cn hg2)<|M<|zx a λA a=>zk<|zt<|U<|zo I<|M<|zr ?_;cases a;exact az
 .have a:=iP (NK hg2) a;refine dI rfl (dA rfl rfl) (λh=>absurd h hg2) (λ_=>?_);refine dI rfl (dA rfl rfl) (λh=>absurd h hg2) (λ_=>?_);refine dI rfl (dA rfl rfl) (λh=>absurd h hg2) (λ_=>?_);refine dI rfl (dA rfl rfl) (λh=>absurd h hg2) (λ_=>?_);refine dI rfl (dA rfl rfl) (λh=>absurd h hg2) (λ_=>?_);refine dI rfl (dA rfl rfl) (λh=>absurd h hg2) (λ_=>?_);refine zo (tj (MB hg2))<|M<|zT ?_;exact nomatch a
theorem Pg:C1 139 rI (.own 0 none 133):=λw r a=>(cv [[10]] func139) λ_ _=>by
 refine U<|zo I<|M<|za<|U<|z2 E xE<|M ?_;refine aO.qv rfl (λq=>?_) ?_
 .rw[q]at a;refine U<|zo I<|M<|zr<|zR ?_;cases a;exact az
 .skip;refine zk<|zt<|U ?_;refine ws (au.od (α:=j) 10 rfl rfl de.h)<|zo E<|bB a λu o a=>?_;refine ws (au.append (te':=[]) 10 o rfl rfl de.h (ai rfl) rfl (ai rfl) cC.flat cC.flat)<|zo I<|M<|zr ?_;cases a;exact az
theorem wk:C1 90 qF (qo (.own 0 none 133)):=λq r a=>(cv [[22]] func90) λ_ _=>by refine U<|zs (yb 10 aA)<|zs (ya 16)<|zz<|z2 xf xl<|bB a λo j a=>z2 (kC [0] 22 (Pg _ j)) xf<|zs (yt)<|zz<|zo xr<|zs (yo aF)<|M<|zr ?_;cases a;exact az
theorem P4:C1 291 wS (.own 0 none 5):=λw r a=>(cv [[10]] func291) λ_ _=>by refine U<|zo I<|zz<|bB a λu o a=>?_;refine ws (au.oe 10 o rfl rfl de.h AT e_)<|zo I<|zz<|z2 E E<|bB a λq j a=>?_;refine ws (au.VH j rfl rfl de.h (ai rfl) rfl (ai rfl))<|zz<|z2 E I<|M<|zr ?_;cases a;exact az
theorem SQ:C4 266 CC (s2 (.own 0 (some 1) 43)):=λq u z w r j=>(cv [[38],[33,37,41,44,45]] func266) λ_ _=>by
 refine U<|zs (yb 10 aA)<|zs (yb 17 aA)<|z2 I I<|M<|za<|U<|z2 xr xr<|bB j λa0 an j=>z2 (kC [0] 22 (xL _ _ an)) I<|zz<|z2 E xq<|M<|zx j λo j=>zk<|zt<|U<|z5 xf xl E E xf<|z2 xl bU<|zs (ya 23)<|zs (yo aF)<|zz<|zs (ya 29)<|zz<|z2 xF I<|M<|za<|U<|z4 xf xl xn E<|M<|zl<|bB j λao J j=>?_;refine lp J [7,11,12,13,33,34,5017,5023,1029] (λk (a,b,c)=>Z 35 a<|Y 28 (.ow [36] [] 422 b)<|Y 30 (.ow [38] [33,37] 43 c)<|k) (λk (a,b)=>(.exit 0,Y 28 (.ow [36] [] 422 a)<|Y 30 (.ow [38] [33,37] 43 b)<|k)) ?_ ?_
 .rintro⟨s2,s3,aw⟩ aZ j;refine U<|zo xi<|M<|za<|zd j (λo j=>?_) λo j=>?_
  .refine zk<|zt<|za<|zl<|U<|zo E<|bB j λaY ak j=>z4 (xI ak) xd I I<|M<|zb<|z4 E xf xl E<|bB j λG ap j=>z3 (xI ap) xD E ?_;refine il j (EM s2) [7,11,12,13,33,34,35,5017,5023,1029] (λk (a,b)=>W 47 (.top)<|Y 28 (.ow [36] [] 422 a)<|Y 30 (.ow [38] [33,37] 43 b)<|k) func290 cV ?_ ?_
   .refine λar=>iu 1 [7,11,12,13,33,34,35] [5017,8023] ?_;refine U<|zo E<|bB j λaM ad j=>z2 (kC [0] 31 (P4 _ ad)) I<|zz<|zo E<|bB j λC O j=>z4 (xJ O) xS xb I<|M ?_;refine jn j (AD s2 s3 aw G C) [0,2,3,7,902007,902011,902012,902013,902033,902034,902035,5017,8023] (λk p=>W 6 (.ow [31,32] [] 5 p)<|k) ?_ ?_
    .rintro aJ j;refine ei (Ad.BT (s:=6) (T:=[31,32]) 33 rfl rfl rfl rfl Cv.refl)<|bB j λam ac j=>bB j λaH aa j=>bB j λaR L j=>?_;refine zQ aI (S:=p6 xf xl E (eF (β:=UInt8)) E E<|p3 (kC [33] 34 (tz _ ac)) bU (xt [] 35 [(fJ.mk (ny.of G) (C==(78:UInt8)) am)])<|aq (sE [.ae 26 _,.av 36] (yA [] aa))<|p3 xl E (xt [33] 37 [_])<|aq (sE [.ae 30 _,.av 38] (yA [33,37] L))<|o1 xf<|aq (sE [.ae 100028 _,.ae 100023 _,.av 23,.bp 28] (yt))<|aq (sE [.ae 100030 _,.ae 100029 _,.av 29,.bp 30] (yt))<|aN) (h:=?_);exact eW (dK (_,_) j)
    .refine U<|zo E<|M<|zd j (λo j=>?_) λo j=>?_
     .refine ei (Ad.ow (s:=6) 32 rfl rfl ev.flat rfl (Cv.d_ (T:=[31]) (te:=[]) (T':=[31]) (te':=[]) rfl))<|zb<|zo E<|bB j λaQ A j=>zo (xu A) ?_;exact ws (au.nw (te':=[]) rfl (kr A rfl) iz (ai rfl) rfl (Has.u8 0 rfl) cC.flat cC.flat)<|zw<|zJ _ j
     .exact zk<|zJ _ j
   .rintro⟨_,_⟩ j;exact zw<|zh<|zt<|zb<|z2 xy E<|zw<|zN j
  .exact ze<|zE<|zB j
 .intro _;refine zj<|zt ?_;refine jn j (uu q u z w) [11,12,5023,1029] (λk (a,b)=>Y 28 (.ow [36] [] 422 a)<|Y 30 (.ow [38] [33,37,41,44] 43 b)<|k) ?_ ?_
  .rintro⟨_,_⟩ j;refine U<|zo xr<|bB j λaU X j=>z5 (kC [36] 45 (Kn _ X)) E aC aB I<|zo I<|M<|za<|U<|z2 E xq<|M<|zx j λo j=>zk<|zt<|U<|z2 xl E ?_;refine wo (ah.uI (xs:=[.tmp 65]) (T:=[45]) 46 rfl de.h rfl rfl rfl rfl (fX.cons (Has.m (ai rfl) rfl) fX.nil))<|bB j λaO V j=>?_;refine ws (au.J0 (T:=[38]) (te':=[33,37,41,44,45]) V rfl rfl rfl rfl (by kernel_rfl) OE (ai rfl) e_ (ai rfl) rfl (gn.bj rfl rfl) (gn.bj rfl rfl))<|z2 I I<|M<|zr ?_;cases j;exact bC
  .refine U<|z4 xf xl xn xg<|M<|zd j (λo j=>?_) λo j=>?_
   .refine zb<|z3 E xf xl ?_;refine il j (E8 q u z w) [11,12,5023,1029] (λk (a,b)=>W 56 (.top)<|Y 28 (.ow [36] [] 422 a)<|Y 30 (.ow [38] [33,37,41,44] 43 b)<|k) func290 cV ?_ ?_
    .refine λar=>iu 1 [11,12] [8023] ?_;refine U<|zo E<|bB j λaz af j=>z2 (kC [0] 39 (P4 _ af)) I<|zz<|zo E<|bB j λD N j=>z4 (xJ N) xS xb I<|M ?_;refine jn j (CU q u z w ao D) [0,2,3,7,902011,902012,8023] (λk p=>W 6 (.ow [39,40] [] 5 p)<|k) ?_ ?_
     .rintro aG j;refine ei (Ad.BT (s:=6) (T:=[39,40]) 41 rfl rfl rfl rfl Cv.refl)<|bB j λal K j=>bB j λay Q j=>bB j λaL ag j=>?_;refine zQ aI (S:=p6 xf xl E (eF (β:=UInt8)) E E<|p3 (kC [41] 42 (tz _ K)) bU (xt [] 43 [(fJ.mk (ny.of (255:Int)) (D==(78:UInt8)) al)])<|aq (sE [.ae 26 _,.av 36] (yA [] Q))<|p3 xl E (xt [41] 44 [_])<|aq (sE [.ae 30 _,.av 38] (yA [33,37,41,44] ag))<|o1 xf<|aq (sE [.ae 100028 _,.ae 100023 _,.av 23,.bp 28] (yt))<|aq (sE [.ae 100030 _,.ae 100029 _,.av 29,.bp 30] (yt))<|aN) (h:=?_);exact eW (dK (_,_) j)
     .refine U<|zo E<|M<|zd j (λo j=>?_) λo j=>?_
      .refine ei (Ad.ow (s:=6) 40 rfl rfl ev.flat rfl (Cv.d_ (T:=[39]) (te:=[]) (T':=[39]) (te':=[]) rfl))<|zb<|zo E<|bB j λaE B j=>zo (xu B) ?_;exact ws (au.nw (te':=[]) rfl (kr B rfl) iz (ai rfl) rfl (Has.u8 0 rfl) cC.flat cC.flat)<|zw<|zJ _ j
      .exact zk<|zJ _ j
    .rintro⟨_,_⟩ j;exact zw<|zJ (_,_) j
   .exact zk<|zJ (_,_) j
theorem Mp:C3 231 yz (s3 (qo (.own 0 none 133)) (.own 1 (some 2) 233)):=λq z w r o=>(cv [[48],[69],[63,68]] func231) λ_ _=>by
 refine U<|zs (yb 10 aA)<|zs (yb 17 aA)<|zs (yb 23 aA)<|zs (ya 28)<|z2 I I<|zz<|z2 xr xr ?_;refine il o (Hm q z w) [3,4,5,6,24010] (λk (a,b,c,d,e)=>W 22 (.cP (aa.aL 49) (R1 ((0:Int):Int)))<|V4 50 a b c d<|Y 54 (.ow [48] [] 133 e)<|V6 55 q.Id q.aw q.bz q.bb q.K q.aE<|O 49 11<|k) func265 cF ?_ ?_
 .refine λaM=>iu 1 [3,4,5,6] [24010] ?_;refine U<|zs (yb 34 aF)<|zs (yb 41 aF)<|z2 I I<|M<|za<|U<|z2 xr xr<|bB o λap C o=>z2 (kC [0] 47 (tE _ _ C)) I<|zz<|z2 E xq<|M<|zx o λu o=>zk<|zt<|za<|bB o λaH G o=>?_;refine zQ aI (S:=p4 xr (kC [0] 48 (wk _ G)) xr bU<|aq (sE (.ae 17 _::(kR 49 [_,_,_,_,_,_,_,_,_,_,_,_] (kK 49 12 []))) (yb 49 bT))<|p2 I I<|aN) (h:=zt<|zr ?_);exact dU (_,_,_,_,_) o
 .rintro⟨am,ak,ao,al,ag⟩ o;refine z5 E aC aB I I<|M ?_;refine jn o (EG q z w am ak ao al ag) [3,4,5,6,9,24010,12049] (λk p=>Z 10 p<|k) ?_ ?_
  .rintro aO o;refine za<|U<|z2 E xq<|M<|zx o λu o=>zk<|zt<|U<|z5 xr xf xl xf xl<|zo xr<|bB o λan ad o=>z5 (kC [0] 62 (SQ _ _ _ _ ad)) E aC aB I<|zo I<|M<|za<|U<|z3 E xq E<|g2 rfl rfl (λ_=>⟨xf,xl⟩)<|zg rfl rfl (λ_=>rn)<|zo xo<|M<|zd o (λu o=>?_) λu o=>?_
   .refine U<|zo bU<|zs (yo aF)<|z2 I I<|M<|zr<|zR ?_;cases o;exact dL
   .refine zk<|zt<|za<|bB o λaQ V o=>?_;refine zQ aI (S:=p6 E E xc xf xf xl<|p6 xf xl xf xl E xn<|p6 xf xl xn xg bU (xt [] 64 [(j.mk z.Seq w.L ((an.1).length:Int) (decide (((w.bP).length:Int)>(0:Int))) false false)])<|aq (sE [.ae 70 _,.av 48] (yA [] V))<|p3 xc xf xf<|aq (sE [.ae 100054 _,.ae 100049 _,.av 49,.bp 54] (yt))<|aN) (h:=zt<|U<|z5 E xc xf xf xl<|z4 xX xc xf xf<|zs (yt)<|zz<|z5 E xc xf xf xl<|z5 E xn xy xc xf<|zo xf<|zs (yt)<|M<|za<|U<|zo E<|bB o λaR ac o=>z2 (kC [48,49] 65 (L_ _ ac)) xN<|M<|zd o (λu o=>?_) λu o=>?_)
    .refine U<|zo bU<|zs (yo aF)<|z2 I I<|M<|zr<|zR ?_;cases o;exact dL
    .refine zk<|zt<|U<|zo I<|M<|za<|U<|z3 E xn E<|M<|zl<|bB o λar A o=>?_;refine lp A [3,4,6,9,98,99,13010,6028,12049] (λk (a,b)=>W 12 (.ow [69] [63,68] 233 a)<|Z 100 b<|k) (λk b=>(.exit 0,W 12 (.ow [69] [63,68] 233 b)<|k)) ?_ ?_
     .rintro⟨_,_⟩ az o;refine U<|zo xi<|M<|za<|zd o (λu o=>?_) λu o=>?_
      .exact zk<|zt<|za<|zl<|U<|zo E<|bB o λX N o=>z4 (xJ N) xs I I<|zz<|z5 xf xl xf xl xf<|zo xl<|bB o λay J o=>z5 (kC [] 66 (tt _ _ _ J)) E aC aB I<|zo I<|zz<|z4 xf xl E E<|bB o λaf B o=>z5 (kC [] 67 (tt _ _ _ B)) E aC aB I<|zo I<|M<|zb<|z5 E xf xl E xy<|z3 E bU (xt [63] 68 [(cd.mk q.aw (1:UInt8) (wI ((1:Int)+af.1)) X)])<|bB o λaG D o=>zs (yA [63,68] D)<|zo I<|zw<|zh<|zt<|zb<|z2 xy E<|zw<|zN o
      .exact ze<|zE<|zB o
     .intro _;refine zj<|zt<|U<|z5 E xc xf xP E<|zs (yo aF)<|z2 I I<|M<|zr ?_;cases o;exact dL
  .exact U<|z2 E xe<|M<|zT<|zb<|z2 xr xr<|bB o λaJ Q o=>z2 (kC [0] 61 (xL _ _ Q)) I<|zw<|zJ _ o
theorem OY:C2 232 xG (s2 (qo (.own 0 none 133))):=λo L r j=>(cv [[43,56]] func232) λ_ _=>by
 refine U<|zs (yb 10 aA)<|zs (yb 17 aA)<|zs (ya 23)<|zo I<|zz<|z2 xr xr ?_;refine il j GF [4,6023] (λk (a,b,c,d,e)=>W 12 (.cP (aa.aL 44) (R1 ((0:Int):Int)))<|V4 45 a b c d<|Y 49 (.ow [43] [] 133 e)<|V6 50 o.Id o.aw o.bz o.bb o.K o.aE<|O 44 11<|k) func265 cF ?_ ?_
 .refine λQ=>iu 1 [4] [6023] ?_;refine U<|zs (yb 29 aF)<|zs (yb 36 aF)<|z2 I I<|M<|za<|U<|z2 xr xr<|bB j λJ z j=>z2 (kC [0] 42 (tE _ _ z)) I<|zz<|z2 E xq<|M<|zx j λq j=>zk<|zt<|za<|bB j λG u j=>?_;refine zQ aI (S:=p4 xr (kC [0] 43 (wk _ u)) xr bU<|aq (sE (.ae 17 _::(kR 44 [_,_,_,_,_,_,_,_,_,_,_,_] (kK 44 12 []))) (yb 44 bT))<|p2 I I<|aN) (h:=zt<|zr ?_);exact dU (_,_,_,_,_) j
 .rintro⟨_,_,_,_,_⟩ j;refine z5 E aC aB I I<|M<|za<|U<|z2 E xq<|M<|zF<|zk<|zt<|za<|U<|z5 E xc xf xf xl<|z2 xn E<|M<|zl<|bB j λC A j=>?_;refine lp A [4,6,24,6023,5044,6050] (λk (a,b)=>Z 25 a<|Y 49 (.ow [43,56] [] 133 b)<|k) (λk b=>(.exit 0,Y 49 (.ow [43,56] [] 133 b)<|k)) ?_ ?_
  .rintro⟨_,_⟩ c8 j;refine U<|zo xi<|M<|za<|zd j (λq j=>?_) λq j=>?_
   .refine zk<|zt<|za<|zl<|U<|z2 E I<|M ?_;refine ei (Ad.d_ (i:=49) 56 rfl rfl rfl ev.flat rfl (Cv.d_ (T:=[43,56]) (te:=[]) (T':=[43,56]) (te':=[]) rfl))<|zb<|z5 E xc xf xf xl<|zo E<|bB j λN B j=>z2 (xu B) xf<|bB j λD w j=>?_;exact ws (au.Nd (te':=[]) M_ rfl w mL (ai rfl) rfl Has.bool cC.flat cC.flat)<|zw<|zh<|zt<|zb<|z2 xy E<|zw<|zN j
   .exact ze<|zE<|zB j
  .intro _;refine zj<|zt<|U<|z4 E xc xf xP<|zs (yo aF)<|zo I<|M<|zr ?_;cases j;exact bC
theorem wi:C2 233 oS (s2 (nn (.own 0 none 43) (.own 1 none 4))):=λz w r a=>(cv [[25],[26]] func233) λ_ _=>by
 refine U<|zs (yb 10 aA)<|zs (ya 17)<|zo I<|zz<|zo xr<|bB a λB u a=>z5 (kC [] 24 (lJ _ u)) E aC aB I<|zo I<|M<|za<|zl<|U<|z3 E xq I<|M<|zx a λj a=>?_;refine jn a (B_ z w) [1,2,4,14010] (λk p=>Z 18 p<|k) ?_ ?_
 .rintro C a;refine zx a λj a=>zk<|zh<|zt<|za<|bB a λA o a=>bB a λD q a=>?_;refine zQ aI (S:=p3 E xf xl<|aq (sE [.ae 28 _,.ae 100025 _,.bp 25] (au.oe 25 o rfl rfl de.h GJ (ai rfl)))<|p3 xf xl xz<|aq (sE [.ae 32 _,.ae 100026 _,.bp 26] (au.oe 26 q rfl rfl de.h Qs (ai rfl)))<|o1 bU<|aq (sE (kR 17 [_,_,_,_,_,_,_] (.av 17::(kK 18 6 []))) (yo aF))<|o1 I<|aN) (h:=zt<|zr ?_);cases a;exact bC
 .refine U<|z3 E xi I<|M<|zd a (λj a=>?_) λj a=>?_
  .exact zk<|zJ _ a
  .exact zb<|z4 E E xh I<|zw<|zJ _ a
theorem pz:C1 158 mc .fl:=λj r a=>(cv [[]] func158) λ_ _=>by refine U<|zo I<|zz<|z4 E xn xq E<|g3 rfl rfl (λ_=>⟨E,xn,xq⟩)<|z2 xw I<|M<|zr ?_;cases a;exact az
theorem lj:C2 101 jL .fl:=λO G r j=>(cv [[]] func101) λ_ _=>by
 refine U<|zs (yb 10 aA)<|zs (yb 17 aA)<|zo I<|zz<|zo xr<|bB j λL B j=>z5 (kC [] 24 (lJ _ B)) E aC aB I<|zo I<|M<|za<|U<|z3 E xq E<|g3 rfl rfl (λ_=>⟨xf,xl,xi⟩)<|z2 xo E<|g4 rfl rfl (λ_=>⟨xf,xl,E,xh⟩)<|z2 xo E<|g4 rfl rfl (λ_=>⟨xf,xl,xn,xf⟩)<|g2 rfl rfl (λ_=>⟨xl,xq⟩)<|z2 xo E<|g4 rfl rfl (λ_=>⟨xf,xl,xn,xf⟩)<|g3 rfl rfl (λ_=>⟨xl,xz,xq⟩)<|z2 xo E<|zg rfl rfl (λ_=>xf)<|g2 rfl rfl (λ_=>⟨xl,nJ⟩)<|z2 xo E<|g2 rfl rfl (λ_=>⟨xf,xl⟩)<|bB j λD z j=>zg rfl rfl (λo=>kC [0] 25 (wC _ _ (bM z (cS o))) (H2 (ma λy _=>@pz y _)))<|zo xo<|M<|zx j λo j=>zk<|zt<|U<|zo I<|M<|za<|U<|z4 xf xl xn E<|M<|zl<|bB j λJ w j=>?_;refine lp w [2,3,58,59,14010] (λk (a,b)=>Z 7 a<|Z 60 b<|k) (λk b=>(.exit 0,Z 7 b<|k)) ?_ ?_
 .rintro⟨_,_⟩ C j;refine U<|zo xi<|M<|za<|zd j (λo j=>?_) λo j=>?_
  .exact zk<|zt<|za<|zl<|U<|zo E<|bB j λQ A j=>z4 (xI A) xD I I<|M<|za<|U<|z2 E E<|g3 rfl rfl (λ_=>⟨xf,xl,E⟩)<|bB j λK q j=>zg rfl rfl (λo=>xI (bM q o))<|g3 rfl rfl (λ_=>⟨xd,xn,xe⟩)<|zo xw<|M<|zx j λo j=>zk<|zt<|zb<|z2 E E<|zg rfl rfl (λ_=>E)<|z2 xo I<|zw<|zh<|zt<|zb<|z2 xy E<|zw<|zN j
  .exact ze<|zE<|zB j
 .intro _;refine zj<|zt<|za<|bB j λN u j=>?_;refine zQ aI (S:=p6 xf xl xb xf xl xf<|p6 xl xz (xI u) xd xn xg<|p2 I I<|aN) (h:=zt<|za<|U<|z4 E E GN E<|g3 rfl rfl (λ_=>⟨E,xN,xM⟩)<|zu rfl rfl (λ_=>E)<|zu rfl rfl (λ_=>xN)<|zg rfl rfl (λ_=>xW)<|z2 xo E<|g4 rfl rfl (λ_=>⟨xf,xl,rf,xM⟩)<|zu rfl rfl (λ_=>xf)<|zu rfl rfl (λ_=>xl)<|zu rfl rfl (λ_=>pT)<|zg rfl rfl (λ_=>xW)<|zo xo<|zo E<|g3 rfl rfl (λ_=>⟨xf,xl,xM⟩)<|zu rfl rfl (λ_=>E)<|zu rfl rfl (λ_=>xN)<|zu rfl rfl (λ_=>xM)<|zu rfl rfl (λ_=>xf)<|zu rfl rfl (λ_=>xl)<|zu rfl rfl (λ_=>nJ)<|zu rfl rfl (λ_=>xO)<|zg rfl rfl (λ_=>xW)<|zo xo<|M<|zx j λo j=>zk<|zt<|U<|zo I<|M<|zr ?_);cases j;exact az
theorem WL:C1 194 A5 (.own 0 none 4):=λu r a=>(cv [[10]] func194) λ_ _=>by
 refine U<|zo I<|M<|za<|U<|z2 E xE<|M ?_;refine aO.qv rfl (λo=>?_) ?_
 .rw[o]at a;refine U<|zo I<|M<|zr<|zR ?_;cases a;exact az
 .skip;refine zk<|zt<|U ?_;refine ws (au.od (α:=Bool) 10 rfl rfl de.h)<|zo E<|bB a λq j a=>?_;refine ws (au.append (te':=[]) 10 j rfl rfl de.h (ai rfl) rfl (ai rfl) cC.flat cC.flat)<|zo I<|M<|zr ?_;cases a;exact az
theorem qp:C1 138 mb (nn (.own 0 (some 1) 43) (.own 2 none 4)):=λK r j=>(cv [[27],[25,26],[24]] func138) λ_ _=>by
 refine U<|zs (yb 10 aA)<|zs (ya 17)<|zz<|z2 xf xl<|bB j λJ z j=>z2 (kC [0] 24 (WL _ z)) xf<|zs (yt)<|zz<|z3 xf xl I<|zz<|zo xf<|zs (yt)<|M<|za<|U<|z3 E xn E<|M<|zl<|bB j λB q j=>?_;refine lp q [1,2,13,14,2010,11013] (λk (a,b)=>Z 15 a<|Y 12 (.ow [27] [25,26] 43 b)<|k) (λk b=>(.exit 0,Y 12 (.ow [27] [25,26] 43 b)<|k)) ?_ ?_
 .rintro⟨_,_⟩ D j;refine U<|zo xi<|M<|za<|zd j (λA j=>?_) λA j=>?_
  .refine zk<|zt<|za<|zl<|U<|bB j λG u j=>z3 (xI u) xd I<|M<|bB j λL w j=>bB j λC o j=>?_;exact zQ aI (S:=p5 xf xl E (kC [0] 25 (lK _ w)) (xt [25] 26 [_])<|aq (sE [.ae 24 _,.av 27] (yA [25,26] o))<|o1 xf<|aq (sE [.ae 100012 _,.ae 100010 _,.av 10,.bp 12] (yt))<|aN) (h:=zh<|zt<|zb<|z2 xy E<|zw<|zN j)
  .exact ze<|zE<|zB j
 .intro _;refine zj<|zt<|U<|zo xr<|zs (yo aF)<|M<|zr ?_;cases j;exact az
theorem PL:C1 269 yK (.own 0 none 5):=λq r a=>(cv [[10]] func269) λ_ _=>by refine U<|zo I<|M<|za<|U<|z3 E xn xe<|M<|zx a λu a=>zk<|zt<|U<|zo E<|bB a λo j a=>z2 (kC [0] 10 (lK _ j)) I<|M<|zr ?_;cases a;exact az
theorem KY:C4 234 w9 (s2 (nn (.own 0 (some 1) 43) (.own 2 none 4))):=λX ac ak ad r j=>(cv [[68],[59,70],[69]] func234) λ_ _=>by
 refine U<|zs (yb 10 aA)<|zs (yb 17 aA)<|zs (yb 24 fc)<|zs (yb 26 fc)<|zs (ya 28)<|zo I<|zz<|z5 xr xr xl xl xF ?_;refine il j B7 [8,7028] (λk (a,b,c,d,e,f)=>W 15 (.cP (aa.aK [tr a,(false,1,aa.ow [68] [59,70] 43 b),(false,1,aa.ow [69] [] 4 c),tr ((0:UInt8):UInt8),tr d,tr e]) (R1 f))<|k) func267 cF ?_ ?_
 .refine λO=>iu 1 [8] [7010,11024] ?_;refine U<|zs (yb 35 aF)<|zs (yb 42 aF)<|zs (ya 49)<|zo I<|M<|za<|U<|z2 xr xr<|bB j λag D j=>z2 (kC [0] 56 (lj _ _ D)) I<|zz<|z2 E xq<|M<|zd j (λq j=>?_) λq j=>?_
  .exact zr<|zR<|dU (_,_,_,_,_,_) j
  .refine zk<|zt<|za<|U<|z3 E xi E<|g4 rfl rfl (λ_=>⟨E,xf,xl,xz⟩)<|zg rfl rfl (λ_=>xh)<|zo xo<|M<|zx j λq j=>zk<|zt<|za<|U<|zo E<|bB j λQ B j=>zo (kC [0] 57 (pz _ B))<|M<|zx j λq j=>zk<|zt<|U<|zo xr<|bB j λo C j=>zo (kC [0] 58 (qp _ C))<|zs (ya 61)<|zs (yo aF)<|M ?_;refine jn j (IJ o) [10,902008,7028,1049,1053] (λk (a,b)=>Z 11 ((0:Int):Int)<|V 50 o.L<|Y 51 (.aL 68)<|Y 52 (.aL 69)<|V2 54 o.cG o.Seq<|W 100068 (.own 68 [59,70] 43 a)<|W 100069 (.own 69 [] 4 b)<|k) ?_ ?_
   .rintro⟨_,_⟩ j;exact zr<|dU (_,_,_,_,_,_) j
   .refine U<|zo E ?_;refine il j (E_ o) [10,12,902008,7028,7049,2061,2066] (λk (a,b)=>Z 34 ((0:Int):Int)<|Y 63 (.aL 68)<|Y 64 (.aL 69)<|V 65 ((0:UInt8):UInt8)<|W 100068 (.own 68 [59,70] 43 a)<|W 100069 (.own 69 [] 4 b)<|k) func268 cV ?_ ?_
    .refine λaf=>iu 2 [10,12] [902008,7010,11024,7049,7061] ?_;refine U<|zo I<|M<|za<|U<|z5 E xc xf xl nJ<|M<|zx j λq j=>zk<|zt<|U<|z3 E xc xf ?_;refine ws (au.nj (i:=3) (f:=aa.rep [] ((0:UInt8):UInt8)) rfl iz rfl (ai rfl) rfl (Has.u8 0 rfl) (Has.u8 0 rfl) rfl)<|M<|za ?_;refine ei (Ad.d_ (i:=63) 68 rfl rfl rfl (ev.bj rfl) rfl (Cv.gT (T:=[58]) (te:=[59]) (T':=[58]) (te':=[59]) rfl rfl))<|bB j λJ w j=>?_;refine zQ aI (S:=p6 E xc xf xl xf xl<|p2 xz (xu w)<|aq (sE [.ae 100068 _,.av 68] (yW [59] w))<|aN) (h:=zt<|za ?_);refine ei (Ad.d_ (i:=64) 69 rfl rfl rfl ev.flat rfl (Cv.d_ (T:=[60]) (te:=[]) (T':=[60]) (te':=[]) rfl))<|bB j λK A j=>bB j λN u j=>bB j λG z j=>?_;refine zQ aI (S:=p6 E xc xf xl xl E<|p6 xc xf xl xl xl (kC [0] 70 (PL _ A))<|o1 (xu u)<|aq (sE [.ae 100068 _,.av 68] (yW [59,70] u))<|o1 (xu z)<|aq (sE [.ae 100069 _,.av 69] (yW [] z))<|aN) (h:=zt<|U<|zo I<|M<|zr ?_);exact bS (_,_) j
    .rintro⟨_,_⟩ j;exact zo I<|zz<|z2 E xe<|M<|zT<|zb<|zo xr<|zs (yo aF)<|zw<|zJ (_,_) j
 .rintro⟨_,_,_,_,_,_⟩ j;refine z2 aC aB<|zs (yo aF)<|zo I<|M<|zr ?_;cases j;exact bC
theorem Md(a0 a1){r}(a:Dh a0 a1=some r):CT 102 [.rep 0 a0,.fn H jE 0 a1] (.fl r) []:=by
 refine cw [[]] func102 λw0 om=>?_;refine U<|zo I<|M<|za<|U<|z3 E xn E<|M<|zl<|bB a λw q a=>?_;refine lp q [0,1,7] (λk s=>Z 8 s<|k) (λk=>Sum.elim (λb=>(.ret,Z 4 b<|k)) (λ_=>(.exit 0,k))) ?_ ?_
 .rintro z B a;refine U<|zo xi<|M<|za<|zd a (λj a=>?_) λj a=>?_
  .refine zk<|zt<|za<|zl<|U<|z2 E I<|zz<|z3 E E E<|bB a λA o a=>z2 (xI o) xd<|bB a λD u a=>zo (lh [0] 10 u)<|M<|zd a (λj a=>?_) λj a=>?_
   .exact U<|z2 E I<|M<|zr<|zi<|zR<|zB a
   .exact zk<|zh<|zt<|zb<|z2 xy E<|zw<|zN a
  .exact ze<|zE<|zB a
 .intro _;rcases w with C|G
  .have a:=fN a;refine zi<|zR ?_;cases a;exact az
  .have a:=fI a;refine zj<|zt<|U<|zo I<|M<|zr ?_;cases a;exact az
theorem S2(a0 a1){r}(a:P1 a0 a1=some r):CT 103 [.rep 0 a0,.ptr 0 a1] (.fl r) []:=by refine cw [[]] func103 λw0 om=>?_;refine U<|zs (yb 10 aA)<|zo I<|zz<|z5 xf xl xD xe I<|M<|zr ?_;cases a;exact az
theorem Hg:C2 50 sV .fl:=λu o r a=>(cv [[]] func50) λ_ _=>by refine U<|zs (yb 10 fc)<|zo I<|zz<|z2 E xF<|bB a λq j a=>z2 (kC [0,10] 12 (Md _ _ j) (H2 (j0 rfl (jT λy _=>@S2 y o _)))) I<|M<|zr ?_;cases a;exact az
theorem Cq:C2 49 qt .fl:=λQ G r a=>(cv [[]] func49) λ_ _=>by
 refine U<|zs (yb 10 aA)<|zo I<|M<|za<|U<|zo xr<|bB a λO A a=>z2 (kC [] 17 (rS _ A)) I<|zz<|z3 E xq E<|g4 rfl rfl (λ_=>⟨E,xn,xf,xl⟩)<|zg rfl rfl (λ_=>xg)<|zo xo<|M<|zx a λj a=>zk<|zt<|za<|U<|z3 E xn E<|M<|zl<|bB a λJ q a=>?_;refine lp q [1,2,19,20,7010] (λk s=>Z 21 s<|k) (λk _=>(.exit 0,k)) ?_ ?_
 .rintro s2 D a;refine U<|zo xi<|M<|za<|zd a (λj a=>?_) λj a=>?_
  .refine zk<|zt<|za<|zl<|U<|zo E<|bB a λB w a=>z2 (xI w) xd<|zs (ya 18)<|zo I<|zs (yo aA)<|M<|za<|bB a λN u a=>bB a λC z a=>bB a λK o a=>?_;exact zQ aI (S:=p5 xr xr (kC [0] 25 (lj _ _ u)) xq E<|w2 (q2 (h:=λ_=>⟨E,E⟩))<|aq (qg (h:=λj=>th (bM z (cS j))))<|w2 (q2 (h:=λ_=>⟨xf,xl⟩))<|aq (cI.mX rfl rfl rfl (λj=>ah.jI [0] 26 rfl (by kernel_rfl) (Hg C B.L (bM o (cS j))) (bX.cons (Has.m (dD rfl j) rfl) (bX.cons (fG (dD rfl j)) bX.nil))))<|aq (qg (h:=λ_=>xh))<|o1 xo<|aN) (h:=zt<|zx a λj a=>zk<|zh<|zt<|zb<|z2 xy E<|zw<|zN a)
  .exact ze<|zE<|zB a
 .intro _;refine zj<|zt<|U<|zo I<|M<|zr ?_;cases a;exact az
theorem YY:C1 137 Az (.own 0 (some 1) 79) [1]:=λu r a=>(cv [[10],[0]] func137) λ_ _=>by
 refine U<|zo I<|M<|za<|U<|z2 E xE<|M ?_;refine aO.qv rfl (λo=>?_) ?_
 .rw[o]at a;refine U<|zo I<|M<|zr<|zR ?_;cases a;exact az
 .skip;refine zk<|zt<|U ?_;refine ws (au.od (α:=aM) 10 rfl rfl de.h)<|zo E<|bB a λq j a=>?_;refine ws (au.append (te':=[0]) 10 j rfl rfl de.h (ai rfl) rfl (ai rfl) (cC.bj rfl rfl) (cC.bj rfl rfl))<|zo I<|M<|zr ?_;cases a;exact az
theorem LX:C1 89 tQ (.own 0 (some 1) 79):=λO r j=>(cv [[12],[20,21,22]] func89) λ_ _=>by
 refine U<|zo I<|zz<|zo E<|bB j λq z j=>z2 (kC [0] 10 (YY _ z)) I<|M<|za<|za ?_;refine ei (Ad.ow (s:=3) 12 rfl rfl (ev.bj rfl) rfl (Cv.gT (T:=[10]) (te:=[11,0]) (T':=[10]) (te':=[11,0]) rfl rfl))<|zb<|z3 E xn E<|M<|zl ?_;refine ei (Ad.aag (t:=12) (N:=(q).length) rfl rfl)<|bB j λG C j=>?_;refine lp C [3,8,9] (λk (a,b)=>Z 10 a<|W 100012 (.np 12 [0,11] [20,21,22] 79 b a ((q).length))<|k) (λk b=>(.exit 0,W 100012 (.own 12 [20,21,22] 79 b)<|k)) ?_ ?_
 .rintro⟨_,_⟩ J j;refine U<|zo xi<|M<|za<|zd j (λu j=>?_) λu j=>?_
  .refine zk<|zt<|za<|zl<|U<|zo E<|bB j λK A j=>?_;refine wo (ah.Mm A de.h (ai rfl) rfl (ai rfl))<|bB j λQ B j=>?_;refine wo (ah.UH B cj.h (ai rfl) rfl)<|zs (ya 13)<|zo I<|zs (yo aA)<|M<|zb<|z3 E E xr<|bB j λD w j=>zo (kC [0,11,20,21,22] 20 (qp _ w))<|bB j λL o j=>?_;refine wo (ah.Mm o de.h (ai rfl) rfl (ai rfl)) ?_;exact ws (au.SW (te1':=[20,21,22]) rfl o cj.h (ai rfl) rfl (aV (ai rfl) (bq (di (vf (aX.cons (bq (bq Cv.iS (Cv.iR (T':=[20,21]) rfl rfl)) (Cv.m rfl)) (aX.cons (bq (bq Cv.iS (Cv.iR (T':=[22]) rfl rfl)) (Cv.m rfl)) (vf (vf (vf aX.nil))))))) (dG (T:=[20,21,22]) (dg.h D)))) rfl rfl rfl rfl)<|zw<|zh<|zt<|zb<|z2 xy E<|zw<|zN j
  .exact ei (Ad.SO (t:=12) rfl u)<|ze<|zE<|zB j
 .intro _;refine zj<|zt<|U<|z2 E I<|M<|zr ?_;cases j;exact az
theorem Tl:C3 271 I5 (.own 0 (some 1) 79):=λJ w G r a=>(cv [[17],[18,19,20,21]] func271) λ_ _=>by
 refine U<|zs (yb 10 aA)<|zo I<|zz<|zo E<|bB a λD u a=>z2 (kC [0] 17 (LX _ u)) I<|M ?_;refine jn a (CF w) [4,7010] (λk p=>W 7 (.ow [17] [18] 79 p)<|k) ?_ ?_
 .rintro C a;refine U<|z2 E xr<|bB a λz j a=>zo (kC [0] 19 (qp _ j)) ?_;refine wo (ah.uI (xs:=[.tmp 19]) (T:=[19,20,21]) 22 rfl de.h rfl rfl rfl rfl (fX.cons (Has.m (aV (ai rfl) (bq (di (vf (aX.cons (bq (bq Cv.iS (Cv.iR (T':=[19,20]) rfl rfl)) (Cv.m rfl)) (aX.cons (bq (bq Cv.iS (Cv.iR (T':=[21]) rfl rfl)) (Cv.m rfl)) (vf (vf (vf aX.nil))))))) (dG (T:=[19,20,21]) (dg.h z)))) rfl) fX.nil))<|bB a λK q a=>?_;refine ws (au.Ui (T:=[17]) (te':=[18,19,20,21]) q rfl rfl rfl (by kernel_rfl) R5 (ai rfl) (ai rfl) rfl (gn.bj rfl rfl) (gn.bj rfl rfl))<|zo I<|M<|zr ?_;cases a;exact az
 .refine U<|z2 E xh<|M<|zd a (λA a=>?_) λA a=>?_
  .refine zb<|z4 E E E xy<|bB a λB o a=>?_;exact ws (au.XV (T:=[17]) o rfl rfl rfl (by kernel_rfl) ZK (ai rfl) (ai rfl) (ai rfl) (gn.bj rfl rfl))<|zo I<|zw<|zJ _ a
  .exact zk<|zJ _ a
theorem vF:C3 235 l_ (s2 (.own 0 (some 1) 79)):=λG A D r a=>(cv [[27],[28]] func235) λ_ _=>by refine U<|zs (yb 10 aA)<|zs (yb 17 aA)<|z2 I I<|M<|za<|U<|z2 xr E<|bB a λC w a=>z3 (kC [0] 24 (Cq _ _ w)) xq E<|g2 rfl rfl (λ_=>⟨xr,xr⟩)<|bB a λz u a=>zg rfl rfl (λj=>kC [0] 25 (lj _ _ (bM u (cS j))))<|zg rfl rfl (λ_=>xq)<|zo xo<|M<|zx a λj a=>zk<|zt<|U<|z3 E xf xl<|bB a λB o a=>z2 (kC [0] 26 (Hg _ _ o)) I<|M<|za<|U<|z3 E xi E<|g4 rfl rfl (λ_=>⟨E,xn,xf,xl⟩)<|zg rfl rfl (λ_=>xe)<|zo xw<|M<|zx a λj a=>zk<|zt<|U<|z3 E xr E<|bB a λJ q a=>z3 (kC [0] 27 (Tl _ _ _ q)) I I<|M<|zr ?_;cases a;exact bC
end
end
end Go.Proofs.YthpphdegpinepaaGreat
