/- Part of the proof of TopAny. -/
import Derived.Test.YthpphdegpinepaaGreatG
namespace Go.Proofs.YthpphdegpinepaaGreat
open Go GL Tryz
open Go.Proofs.Tryz renaming prog -> H
open And renaming left -> iw, right -> jr
set_option linter.all false
set_option maxRecDepth 100000
set_option maxHeartbeats 20000000
noncomputable section
section
attribute [local irreducible] aO br aH GL.ah GL.au
theorem LC:C1 60 xx .fl:=λB r a=>(cv [[]] func60) λ_ _=>by
 refine U<|zo I<|M<|za<|U<|z3 E xn E<|M<|zl<|bB a λw u a=>?_;refine lp u [5,6] (λk s=>Z 7 s<|k) (λk=>Sum.elim (λb=>(.ret,Z 2 false<|k)) (λ_=>(.exit 0,k))) ?_ ?_
 .rintro z D a;refine U<|zo xi<|M<|za<|zd a (λj a=>?_) λj a=>?_
  .refine zk<|zt<|za<|zl<|U<|bB a λo q a=>z2 (xI q) xD<|zs (ya 10) ?_;refine ws (au.Ms (ls:=[tr o.e0,tr o.e1,tr o.e2]) rfl cj.h rfl (by kernel_rfl) (ai rfl) rfl (eY.aK (aV (ai rfl) (bq (Cv.Q2 (dg.h o)) (di (vf (vf (vf aX.nil))))))) rfl)<|zz ?_;refine wo (ah.Ac (i:=0) Bm rfl (aV (ai rfl) (Cv.eG rfl)))<|zo xl ?_;refine wo (ah.Ac (i:=1) Bm rfl (aV (ai rfl) (Cv.eG rfl)))<|z3 xl xi E ?_;refine wg rfl rfl (λj=>ah.Ac (i:=0) Bm rfl (aV (ai rfl) (Cv.eG rfl)))<|zg rfl rfl (λ_=>xl) ?_;refine wg rfl rfl (λj=>ah.Ac (i:=2) Bm rfl (aV (ai rfl) (Cv.eG rfl))) ?_;refine g2 rfl rfl (λ_=>⟨xl,xg⟩)<|zo xo<|M<|zd a (λj a=>?_) λj a=>?_
   .exact U<|zo I<|M<|zr<|zi<|zR<|zB a
   .exact zk<|zh<|zt<|zb<|z2 xy E<|zw<|zN a
  .exact ze<|zE<|zB a
 .intro _;rcases w with C|A
  .have a:=fN a;refine zi<|zR ?_;cases a;exact az
  .have a:=fI a;refine zj<|zt<|U<|zo I<|M<|zr ?_;cases a;exact az
theorem rS:C1 26 ng .fl:=λj r a=>(cv [[]] func26) λ_ _=>by
 refine U<|zs (yb 10 aA)<|zo I<|zz<|z5 xf xl bA xf xl<|z5 bA xf xl bA xf<|z3 xl bA (xt [] 17 [(iY.mk j.aw (3:Int) (16:Int)),(iY.mk j.bz (1:Int) (8:Int)),(iY.mk j.bb (1:Int) (8:Int)),(iY.mk j.aE (2:Int) (8:Int))])<|bB a λu q a=>z2 (kC [17] 18 (LC _ q)) I<|M<|za<|U<|zo E<|z2 xN E ?_;by_cases hg2:(!u)=false
 .have a:=iG (cS hg2) a;refine dI rfl (dA rfl rfl) (λ_=>?_) (λh=>absurd hg2 h);refine zo xf ?_;refine dI rfl (dA rfl rfl) (λ_=>?_) (λh=>absurd hg2 h);refine zo xl ?_;refine dI rfl (dA rfl rfl) (λ_=>?_) (λh=>absurd hg2 h);refine zo xf ?_;refine dI rfl (dA rfl rfl) (λ_=>?_) (λh=>absurd hg2 h);refine zo xl ?_;refine dI rfl (dA rfl rfl) (λ_=>?_) (λh=>absurd hg2 h);refine zo xy ?_;refine dI rfl (dA rfl rfl) (λ_=>?_) (λh=>absurd hg2 h);refine zo xf ?_;refine dI rfl (dA rfl rfl) (λ_=>?_) (λh=>absurd hg2 h);refine zo xl ?_;refine dI rfl (dA rfl rfl) (λ_=>?_) (λh=>absurd hg2 h);refine zo xy ?_;refine dI rfl (dA rfl rfl) (λ_=>?_) (λh=>absurd hg2 h);refine zo xk ?_;refine dI rfl (dA rfl rfl) (λ_=>?_) (λh=>absurd hg2 h);refine zo bA ?_;refine dI rfl (dA rfl rfl) (λ_=>?_) (λh=>absurd hg2 h);refine zo (xt [] 19 [(iY.mk j.K (wI ((wI (j.aw+(1:Int))) * (wI (j.aE+(1:Int))))) (255:Int))]) ?_;refine dI rfl (dA rfl rfl) (λ_=>?_) (λh=>absurd hg2 h);refine bB a λz o a=>zo (kC [19] 20 (LC _ o)) ?_;refine dI rfl (dA rfl rfl) (λ_=>?_) (λh=>absurd hg2 h);refine z2 xN (Cn hg2)<|M<|zd a (λw a=>?_) λw a=>?_
  .refine U<|zo I<|M<|zr<|zR ?_;cases a;exact az
  .refine zk<|zt<|U<|zo I<|M<|zr ?_;cases a;exact az
 .have a:=iP (NK hg2) a;refine dI rfl (dA rfl rfl) (λh=>absurd h hg2) (λ_=>?_);refine dI rfl (dA rfl rfl) (λh=>absurd h hg2) (λ_=>?_);refine dI rfl (dA rfl rfl) (λh=>absurd h hg2) (λ_=>?_);refine dI rfl (dA rfl rfl) (λh=>absurd h hg2) (λ_=>?_);refine dI rfl (dA rfl rfl) (λh=>absurd h hg2) (λ_=>?_);refine dI rfl (dA rfl rfl) (λh=>absurd h hg2) (λ_=>?_);refine dI rfl (dA rfl rfl) (λh=>absurd h hg2) (λ_=>?_);refine dI rfl (dA rfl rfl) (λh=>absurd h hg2) (λ_=>?_);refine dI rfl (dA rfl rfl) (λh=>absurd h hg2) (λ_=>?_);refine dI rfl (dA rfl rfl) (λh=>absurd h hg2) (λ_=>?_);refine dI rfl (dA rfl rfl) (λh=>absurd h hg2) (λ_=>?_);refine dI rfl (dA rfl rfl) (λh=>absurd h hg2) (λ_=>?_);refine dI rfl (dA rfl rfl) (λh=>absurd h hg2) (λ_=>?_);refine zo (tj (MB hg2))<|M<|zT<|U<|zo I<|M<|zr<|zR ?_;cases a;exact az
theorem vZ:C2 99 pW (s2 .fl):=λw q r a=>(cv [[]] func99) λ_ _=>by
 refine U<|zs (yb 10 aA)<|z2 I I<|M<|za<|U<|zo xr<|bB a λu j a=>z2 (kC [] 17 (rS _ j)) I<|zz<|z2 E xq<|M<|zd a (λo a=>?_) λo a=>?_
 .refine U<|z3 E I I<|M<|zr<|zR ?_;cases a;exact bC
 .refine zk<|zt<|U<|z3 E I I<|M<|zr ?_;cases a;exact bC
theorem Na:C1 61 BX (s2 .fl):=λq r a=>(cv [[]] func61) λ_ _=>by refine U<|zs (yb 10 aA)<|z2 I I<|zz<|z5 xr xf xl xf xl<|z2 xk xy<|bB a λo j a=>z5 (kC [] 17 (vZ _ _ j)) aC aB I I<|M<|zr ?_;cases a;exact bC
theorem BO:C1 62 uT (s2 .fl):=λq r a=>(cv [[]] func62) λ_ _=>by refine U<|zs (yb 10 aA)<|z2 I I<|zz<|z4 xr xf xl xy<|bB a λo j a=>z5 (kC [] 17 (vZ _ _ j)) aC aB I I<|M<|zr ?_;cases a;exact bC
theorem MZ:C1 95 Ja (s2 (qj (.own 0 none 43) (.own 0 none 123))):=λq r a=>(cv [[14]] func95) λ_ _=>by refine U<|zs (ya 10)<|zo I<|M<|za<|U<|z3 E xi E<|g2 rfl rfl (λ_=>⟨E,xg⟩)<|zo xo<|M<|zx a λu a=>zk<|zt<|U<|zo E<|bB a λo j a=>?_;refine ws (au.oe 14 j rfl rfl de.h GJ (ai rfl))<|zo bU<|zs (yo aF)<|zo I<|M<|zr ?_;cases a;exact bC
theorem lJ:C1 52 kv (s2 .fl):=λq r a=>(cv [[]] func52) λ_ _=>by refine U<|zs (yb 10 aA)<|z2 I I<|zz<|z5 xr xf xl xf xl<|zo xk<|bB a λo j a=>z5 (kC [] 17 (vZ _ _ j)) aC aB I I<|M<|zr ?_;cases a;exact bC
theorem Zy:C1 148 Bv .fl:=λu r a=>(cv [[]] func148) λ_ _=>by
 refine U<|zs (yb 10 aA)<|zo I<|zz<|z5 xf xl xf xl xf<|z5 xl xf xl xf xl<|zo bU<|zs (ya 21)<|zs (yo aF)<|zz<|zo xr<|bB a λq j a=>z4 (kC [] 28 (lJ _ j)) E aC aB<|z2 I I<|M<|za<|U<|z3 E xq E<|g3 rfl rfl (λ_=>⟨xf,xl,nJ⟩)<|z2 xo E<|g3 rfl rfl (λ_=>⟨xf,xl,xi⟩)<|z2 xo E<|g4 rfl rfl (λ_=>⟨xf,xl,xf,xl⟩)<|zg rfl rfl (λ_=>xh)<|zo xo<|zo E<|g3 rfl rfl (λ_=>⟨xf,xl,xi⟩)<|z2 xo E<|g4 rfl rfl (λ_=>⟨xf,xl,E,xg⟩)<|z2 xo E<|g3 rfl rfl (λ_=>⟨xf,xl,xi⟩)<|z2 xo E<|g4 rfl rfl (λ_=>⟨xf,xl,xf,xl⟩)<|zg rfl rfl (λ_=>xh)<|z2 xo E<|g4 rfl rfl (λ_=>⟨xf,xl,xe,xM⟩)<|zu rfl rfl (λ_=>xf)<|zu rfl rfl (λ_=>xl)<|zu rfl rfl (λ_=>xg)<|zg rfl rfl (λ_=>xW)<|zo xo<|M<|zd a (λo a=>?_) λo a=>?_
 .refine U<|zo I<|M<|zr<|zR ?_;cases a;exact az
 .refine zk<|zt<|U<|zo I<|M<|zr ?_;cases a;exact az
theorem KP:C1 149 v_ (.rep 0):=λq r j=>(cv [[23]] func149) λ_ _=>by
 refine U<|zs (yb 10 aA)<|zo I<|zz<|zs (ya 21)<|zs (yt)<|zz<|z2 xF I<|zz<|z4 xf xl I I<|M ?_;refine jn j (Cm q) [1,4,6,13010] (λk p=>Z 5 p<|k) ?_ ?_
 .rintro u j;refine jn j (CS q u) [1,4,5,13010] (λk p=>Z 6 p<|k) ?_ ?_
  .rintro w j;refine za ?_;refine zQ aI (S:=o1 E<|aq (sE [.ae 15 _,.ae 100022 _,.ae 100021 _,.av 21,.bp 22] (au.mN (t:=21) (F:=λn s a=>Field.mk n a s) rfl rfl mT (fe.iD (by kernel_rfl) (ai rfl) (cl.cons e_ (cl.cons e_ cl.nil))) rfl (aW rfl)))<|p4 E xf xl (eF (β:=Int))<|aq (sE [.ae 20 _,.ae 100022 _,.ae 100021 _,.av 21,.bp 22] (au.mN (t:=21) (F:=λn s a=>Field.mk n a s) rfl rfl mT (fe.iD (by kernel_rfl) (ai rfl) (cl.cons (ai rfl) (cl.cons e_ cl.nil))) rfl (aW rfl)))<|p4 E xf xl (eF (β:=Int))<|aq (sE [.ae 25 _,.ae 100022 _,.ae 100021 _,.av 21,.bp 22] (au.mN (t:=21) (F:=λn s a=>Field.mk n a s) rfl rfl mT (fe.iD (by kernel_rfl) (ai rfl) (cl.cons (ai rfl) (cl.cons e_ cl.nil))) rfl (aW rfl)))<|p3 E xf xl<|aq (sE [.ae 29 _,.ae 100022 _,.ae 100021 _,.av 21,.bp 22] (au.mN (t:=21) (F:=λn s a=>Field.mk n a s) rfl rfl mT (fe.iD (by kernel_rfl) (ai rfl) (cl.cons (ai rfl) (cl.cons e_ cl.nil))) rfl (aW rfl)))<|p3 E xf xl<|aq (sE [.ae 33 _,.ae 100022 _,.ae 100021 _,.av 21,.bp 22] (au.mN (t:=21) (F:=λn s a=>Field.mk n a s) rfl rfl mT (fe.iD (by kernel_rfl) (ai rfl) (cl.cons (ai rfl) (cl.cons e_ cl.nil))) rfl (aW rfl)))<|p3 E xf xl<|aq (sE [.ae 37 _,.ae 100022 _,.ae 100021 _,.av 21,.bp 22] (au.mN (t:=21) (F:=λn s a=>Field.mk n a s) rfl rfl mT (fe.iD (by kernel_rfl) (ai rfl) (cl.cons (ai rfl) (cl.cons e_ cl.nil))) rfl (aW rfl)))<|p3 E xf xl<|aq (sE [.ae 41 _,.ae 100022 _,.ae 100021 _,.av 21,.bp 22] (au.mN (t:=21) (F:=λn s a=>Field.mk n a s) rfl rfl mT (fe.iD (by kernel_rfl) (ai rfl) (cl.cons (ai rfl) (cl.cons e_ cl.nil))) rfl (aW rfl)))<|p3 E xf xl<|aq (sE [.ae 45 _,.ae 100022 _,.ae 100021 _,.av 21,.bp 22] (au.mN (t:=21) (F:=λn s a=>Field.mk n a s) rfl rfl mT (fe.iD (by kernel_rfl) (ai rfl) (cl.cons (ai rfl) (cl.cons e_ cl.nil))) rfl (aW rfl)))<|p2 E E<|aq (sE [.ae 48 _,.ae 100022 _,.ae 100021 _,.av 21,.bp 22] (au.mN (t:=21) (F:=λn s a=>Field.mk n a s) rfl rfl mT (fe.iD (by kernel_rfl) (ai rfl) (cl.cons (ai rfl) (cl.cons e_ cl.nil))) rfl (aW rfl)))<|p3 E xf xl<|aq (sE [.ae 52 _,.ae 100022 _,.ae 100021 _,.av 21,.bp 22] (au.mN (t:=21) (F:=λn s a=>Field.mk n a s) rfl rfl mT (fe.iD (by kernel_rfl) (ai rfl) (cl.cons (ai rfl) (cl.cons e_ cl.nil))) rfl (aW rfl)))<|p2 E E<|aq (sE [.ae 55 _,.ae 100022 _,.ae 100021 _,.av 21,.bp 22] (au.mN (t:=21) (F:=λn s a=>Field.mk n a s) rfl rfl mT (fe.iD (by kernel_rfl) (ai rfl) (cl.cons (ai rfl) (cl.cons e_ cl.nil))) rfl (aW rfl)))<|p2 (xt [] 23 [_,_,_,_,_,_,_,_,_,_,_]) I<|aN) (h:=zt<|zr ?_);cases j;exact az
  .refine U<|z2 xf xl<|M<|zd j (λo j=>?_) λo j=>?_
   .exact zb<|zo I<|zw<|zJ _ j
   .exact zk<|zJ _ j
 .refine U<|z2 E xe<|M<|zd j (λo j=>?_) λo j=>?_
  .exact zb<|zo I<|zw<|zJ _ j
  .exact zk<|zJ _ j
theorem Dq:C4 150 rh (s2 (.sl 0 none)):=λK N V O r j=>(cv [[11]] func150) λ_ _=>by
 refine U<|z2 I I<|zz<|zo E<|bB j λS A j=>z4 (kC [0] 10 (NX _ A)) E aC aB ?_;refine ws (au.qZ 11 rfl rfl mF) ?_;refine ws (au.uq rfl cj.h (ai rfl) rfl (ai rfl))<|zo I<|M<|za<|U<|z2 E xq<|M<|zx j λo j=>zk<|zt<|za<|U<|z2 E E<|bB j λD w j=>z3 (kC [] 12 (Ku _ _ w)) xN E<|g2 rfl rfl (λ_=>⟨E,xi⟩)<|z2 xo E<|g3 rfl rfl (λ_=>⟨E,E,xk⟩)<|bB j λG u j=>?_;refine wg rfl rfl (λo=>ah.oP (bM u (cS o)) (dD rfl o) (dD rfl o))<|zg rfl rfl (λ_=>xq)<|zo xo<|M<|zx j λo j=>zk<|zt<|za<|U<|z2 E E<|M<|zl<|bB j λC z j=>?_;refine lp z [1,3,10,36] (λk (a,b)=>Z 37 a<|W 100011 (.arr 11 [] 128 b)<|k) (λk b=>(.exit 0,W 100011 (.arr 11 [] 128 b)<|k)) ?_ ?_
 .rintro⟨_,_⟩ L j;refine U<|zo xi<|M<|za<|zd j (λo j=>?_) λo j=>?_
  .refine zk<|zt<|za<|zl<|U<|z2 E I<|M<|zb<|z5 E E xy E E<|zo xk<|bB j λQ B j=>?_;refine wo (ah.oP B (ai rfl) (ai rfl))<|zo (eF (β:=UInt8))<|bB j λJ q j=>?_;refine wo (ah.AM q mF (ai rfl) rfl (ai rfl)) ?_;exact ws (au.MC (te':=[]) rfl (kr q rfl) iz (ai rfl) rfl (ai rfl) cC.flat cC.flat)<|zw<|zh<|zt<|zb<|z2 xy E<|zw<|zN j
  .exact ze<|zE<|zB j
 .intro _;refine zj<|zt<|U ?_;refine wo (ah.M8 mF (ai rfl) rfl)<|z2 I I<|M<|zr ?_;cases j;exact bC
theorem Uy{r}(a:LY=some r):CT 237 [] (.fl r) []:=by refine cw [[]] func237 λw0 om=>?_;refine U ?_;refine ws (au.qZ 10 rfl rfl Ea)<|zz<|zo bA ?_;refine ws (au.uq rfl cj.h (ai rfl) rfl (aV (ai rfl) (Cv.Le rfl rfl (ew.cons (ew.cons (ew.cons (ew.cons (ew.cons (ew.cons (ew.cons (ew.cons (ew.cons (ew.cons (ew.cons (ew.cons (ew.cons (ew.cons (ew.cons (ew.cons ew.nil)))))))))))))))) rfl)))<|M<|zr ?_;cases a;exact aH.PQ rfl (bW.cv (bW.arr cj.h (ai rfl) rfl) Cv.fl)
theorem Y':C2 201 Af .fl:=λL N r j=>(cv [[]] func201) λ_ _=>by
 refine U<|zo I<|zz<|bB j λV w j=>zo (kC [] 10 (Uy w)) ?_;refine ws (au.qZ 11 rfl rfl Ea) ?_;refine ws (au.uq rfl cj.h (ai rfl) rfl (ai rfl))<|zz<|zo E ?_;refine wo (ah.QS (ai rfl))<|zo I<|M<|za<|U<|z3 E xn E<|M<|zl<|bB j λD o j=>?_;refine lp o [5,11,12,1011] (λk (a,b)=>Z 0 a<|Z 13 b<|k) (λk b=>(.exit 0,Z 0 b<|k)) ?_ ?_
 .rintro⟨_,_⟩ S j;refine U<|zo xi<|M<|za<|zd j (λC j=>?_) λC j=>?_
  .refine zk<|zt<|za<|zl<|U<|bB j λJ B j=>z3 (xI B) xD I<|zz<|z3 E E (eF (β:=UInt32)) ?_;refine wo (ah.Jt (ai rfl) (ai rfl))<|zo I<|zz<|zo E ?_;refine wo (ah.nI (k:=4) (ai rfl))<|zo E ?_;refine wo (ah.Pb (ai rfl) (Has.u32 15 rfl))<|bB j λG q j=>?_;refine wo (ah.Jq (β:=UInt32) q Ea (ai rfl) rfl (ai rfl))<|bB j λQ A j=>?_;refine wo ((ah.vy A tR (ai rfl) rfl).flat (T':=[])) ?_;refine wo (ah.Jt (ai rfl) (ai rfl))<|zo I<|M<|zb<|zo E ?_;refine wo (ah.nI (k:=4) (ai rfl))<|zo E ?_;refine wo (ah.Pb (ai rfl) (Has.u32 15 rfl))<|bB j λK u j=>?_;refine wo (ah.Jq (β:=UInt32) u Ea (ai rfl) rfl (ai rfl))<|bB j λO z j=>?_;refine wo ((ah.vy z tR (ai rfl) rfl).flat (T':=[])) ?_;exact wo (ah.Jt (ai rfl) (ai rfl))<|zo I<|zw<|zh<|zt<|zb<|z2 xy E<|zw<|zN j
  .exact ze<|zE<|zB j
 .intro _;refine zj<|zt<|U<|zo E ?_;refine wo (ah.QS (ai rfl))<|zo I<|M<|zr ?_;cases j;exact az
theorem tz:C1 151 nt .fl:=λq r a=>(cv [[]] func151) λ_ _=>by refine U<|zo I<|zz<|zo E<|bB a λo j a=>z2 (kC [0] 10 (Y' _ _ j)) I<|M<|zr ?_;cases a;exact az
theorem Ib:C1 96 uw (s2 (.sl 0 none)):=λO r j=>(cv [[29]] func96) λ_ _=>by
 refine U<|zs (yb 10 aA)<|z2 I I<|M<|za<|U<|zo xr<|bB j λX A j=>z2 (kC [] 21 (Zy _ A)) I<|zz<|z2 E xq<|M<|zd j (λo j=>?_) λo j=>?_
 .refine U<|z3 E I I<|M<|zr<|zR ?_;cases j;exact bC
 .refine zk<|zt<|za<|U<|zo xr<|bB j λN w j=>z3 (kC [] 22 (KP _ w)) xn E<|M<|zl<|bB j λS C j=>?_;refine lp C [13,14] (λk (a,b)=>W 2 (.sl [27] [] a)<|Z 15 b<|k) (λk b=>(.exit 0,W 2 (.sl [27] [] b)<|k)) ?_ ?_
  .rintro⟨_,_⟩ L j;refine U<|zo xi<|M<|za<|zd j (λo j=>?_) λo j=>?_
   .exact zk<|zt<|za<|zl<|U<|bB j λK z j=>z2 (xI z) xD<|zs (ya 23)<|zs (yo aA)<|zz<|z5 E xf xl xf xl<|z2 xf xl<|bB j λV D j=>z5 (kC [27] 27 (Dq _ _ _ _ D)) E aC aB I<|zo I<|zz<|z2 E xq<|M<|zx j λo j=>zk<|zh<|zt<|zb<|z2 xy E<|zw<|zN j
   .exact ze<|zE<|zB j
  .intro _;refine zj<|zt<|U<|z2 E E<|bB j λQ B j=>zo (th B)<|bB j λJ u j=>z2 (kC [27] 28 (tz _ u)) (eF (β:=Int))<|bB j λG q j=>z5 (kC [27] 29 (Dq _ _ _ _ q)) aC aB I I<|M<|zr ?_;cases j;exact bC
theorem UX(a0 a1){r}(a:JZ a0 a1=some r):CT 161 [.rep 0 a0,.fn H jE 0 a1] (.fl r) []:=by
 refine cw [[]] func161 λw0 om=>?_;refine U<|zo I<|M<|za<|U<|z3 E xn E<|M<|zl<|bB a λw q a=>?_;refine lp q [0,1,7] (λk s=>Z 8 s<|k) (λk=>Sum.elim (λb=>(.ret,Z 4 b<|k)) (λ_=>(.exit 0,k))) ?_ ?_
 .rintro z B a;refine U<|zo xi<|M<|za<|zd a (λj a=>?_) λj a=>?_
  .refine zk<|zt<|za<|zl<|U<|z2 E I<|zz<|z3 E E E<|bB a λA o a=>z2 (xI o) xd<|bB a λD u a=>zo (lh [0] 10 u)<|M<|zd a (λj a=>?_) λj a=>?_
   .exact U<|z2 E I<|M<|zr<|zi<|zR<|zB a
   .exact zk<|zh<|zt<|zb<|z2 xy E<|zw<|zN a
  .exact ze<|zE<|zB a
 .intro _;rcases w with C|G
  .have a:=fN a;refine zi<|zR ?_;cases a;exact az
  .have a:=fI a;refine zj<|zt<|U<|zo I<|M<|zr ?_;cases a;exact az
theorem wC(a0 a1){r}(a:sb a0 a1=some r):CT 109 [.rep 0 a0,.fn H jE 0 a1] (.fl r) []:=by refine cw [[]] func109 λw0 om=>?_;refine U<|zo I<|zz<|z2 E E<|bB a λo j a=>z3 (kC [0] 10 (UX _ _ j)) xh I<|M<|zr ?_;cases a;exact az
theorem JV:C1 110 tY .fl:=λj r a=>(cv [[]] func110) λ_ _=>by refine U<|zo I<|zz<|z4 E xn xq E<|g3 rfl rfl (λ_=>⟨E,xn,xq⟩)<|z2 xw I<|M<|zr ?_;cases a;exact az
theorem QO(a0 a1){r}(a:Av a0 a1=some r):CT 162 [.rep 0 a0,.fn H jE 0 a1] (.fl r) []:=by
 refine cw [[]] func162 λw0 om=>?_;refine U<|zo I<|M<|za<|U<|z3 E xn E<|M<|zl<|bB a λw q a=>?_;refine lp q [0,1,7] (λk s=>Z 8 s<|k) (λk=>Sum.elim (λb=>(.ret,Z 4 b<|k)) (λ_=>(.exit 0,k))) ?_ ?_
 .rintro z B a;refine U<|zo xi<|M<|za<|zd a (λj a=>?_) λj a=>?_
  .refine zk<|zt<|za<|zl<|U<|z2 E I<|zz<|z3 E E E<|bB a λA o a=>z2 (xI o) xd<|bB a λD u a=>zo (lh [0] 10 u)<|M<|zd a (λj a=>?_) λj a=>?_
   .exact U<|z2 E I<|M<|zr<|zi<|zR<|zB a
   .exact zk<|zh<|zt<|zb<|z2 xy E<|zw<|zN a
  .exact ze<|zE<|zB a
 .intro _;rcases w with C|G
  .have a:=fN a;refine zi<|zR ?_;cases a;exact az
  .have a:=fI a;refine zj<|zt<|U<|zo I<|M<|zr ?_;cases a;exact az
theorem Xp(a0 a1){r}(a:IT a0 a1=some r):CT 111 [.rep 0 a0,.fn H jE 0 a1] (.fl r) []:=by refine cw [[]] func111 λw0 om=>?_;refine U<|zo I<|zz<|z2 E E<|bB a λo j a=>z3 (kC [0] 10 (QO _ _ j)) xh I<|M<|zr ?_;cases a;exact az
theorem Wz(a0 a1){r}(a:DE a0 a1=some r):CT 112 [.rep 0 a0,.ptr 0 a1] (.fl r) []:=by refine cw [[]] func112 λw0 om=>?_;refine U<|zs (yb 10 aA)<|zo I<|zz<|z4 xf xl xi E<|g4 rfl rfl (λ_=>⟨xf,xl,xD,xh⟩)<|z2 xo E<|g2 rfl rfl (λ_=>⟨xf,xl⟩)<|bB a λq j a=>zg rfl rfl (λo=>kC [0] 13 (JV _ (bM j (cS o))))<|z2 xo I<|M<|zr ?_;cases a;exact az
theorem Vk:C1 113 Im .fl:=λj r a=>(cv [[]] func113) λ_ _=>by refine U<|zo I<|zz<|z4 E xn xg I<|M<|zr ?_;cases a;exact az
theorem uj:C1 63 my .fl:=λw r a=>(cv [[]] func63) λ_ _=>by
 refine U<|zs (yb 10 aA)<|zo I<|zz<|z3 xf xl xn<|zs (ya 14)<|zs (yt)<|M<|za<|U<|z3 xl xi E<|g2 rfl rfl (λ_=>⟨xl,xg⟩)<|z2 xo E<|g4 rfl rfl (λ_=>⟨xf,xl,xn,xg⟩)<|zo xo<|zo E<|g2 rfl rfl (λ_=>⟨xf,xl⟩)<|bB a λB u a=>zg rfl rfl (λj=>kC [0] 16 (wC _ _ (bM u (cS j))) (H2 (ma λy _=>@JV y _)))<|zo xo<|M<|zd a (λj a=>?_) λj a=>?_
 .refine U<|zo I<|M<|zr<|zR ?_;cases a;exact az
 .refine zk<|zt<|za<|U<|z3 xf xl xF<|bB a λz q a=>zo (kC [0,14] 17 (Xp _ _ q) (H2 (j0 rfl (jT λy _=>@Wz y ((w.aJ).length:Int) _))))<|M<|zd a (λj a=>?_) λj a=>?_
  .refine U<|zo I<|M<|zr<|zR ?_;cases a;exact az
  .refine zk<|zt<|za<|U<|z3 xf xl E<|g4 rfl rfl (λ_=>⟨xf,xl,xn,xg⟩)<|zg rfl rfl (λ_=>xM)<|zu rfl rfl (λ_=>xf)<|zu rfl rfl (λ_=>xl)<|bB a λA o a=>zu rfl rfl (λj=>kC [0] 18 (wC _ _ (bM o (ib (iw j) (cS (jr j))))) (H2 (ma λy _=>@Vk y _)))<|zg rfl rfl (λ_=>xO)<|zo xw<|M<|zd a (λj a=>?_) λj a=>?_
   .refine U<|zo I<|M<|zr<|zR ?_;cases a;exact az
   .refine zk<|zt<|U<|zo I<|M<|zr ?_;cases a;exact az
theorem LN:C2 159 vL .fl:=λw q r a=>(cv [[]] func159) λ_ _=>by refine U<|zs (yb 10 aA)<|zo I<|M<|za<|U<|zo xr<|bB a λu j a=>z2 (kC [0] 14 (uj _ j)) I<|zz<|z2 E xq<|M<|zx a λo a=>zk<|zt<|za<|U<|z3 E xi E<|g4 rfl rfl (λ_=>⟨E,xf,xl,xn⟩)<|zg rfl rfl (λ_=>xh)<|zo xo<|M<|zx a λo a=>zk<|zt<|U<|zo I<|M<|zr ?_;cases a;exact az
theorem NY:C3 152 yI .fl:=λB w A r a=>(cv [[]] func152) λ_ _=>by refine U<|zs (yb 10 aA)<|zo I<|zz<|z2 xr E<|bB a λz q a=>z2 (kC [0] 14 (LN _ _ q)) I<|M<|za<|zl<|U<|z3 E xq I<|M<|zx a λj a=>U<|zo E<|bB a λu o a=>z2 (kC [0] 15 (JV _ o)) I<|M<|zx a λj a=>U<|z3 xf xl I<|M<|zx a λj a=>zk<|zh<|zt<|U<|zo I<|M<|zr ?_;cases a;exact az
theorem lK:C1 19 js (.own 0 none 5):=λu r a=>(cv [[10]] func19) λ_ _=>by
 refine U<|zo I<|M<|za<|U<|z2 E xE<|M ?_;refine aO.qv rfl (λo=>?_) ?_
 .rw[o]at a;refine U<|zo I<|M<|zr<|zR ?_;cases a;exact az
 .skip;refine zk<|zt<|U ?_;refine ws (au.od (α:=UInt8) 10 rfl rfl de.h)<|zo E<|bB a λq j a=>?_;refine ws (au.append (te':=[]) 10 j rfl rfl de.h (ai rfl) rfl (ai rfl) cC.flat cC.flat)<|zo I<|M<|zr ?_;cases a;exact az
theorem uF:C1 42 nE (qj (.own 0 (some 1) 43) (.own 2 (some 3) 123)):=λaa r j=>(cv [[24],[22,23],[30],[28,29]] func42) λ_ _=>by
 refine U<|zs (yb 10 aA)<|zs (ya 14)<|zz<|z3 xf xl bU<|zs (ya 18)<|zs (yo aF)<|M<|za<|U<|z4 xf xl xn E<|M<|zl<|bB j λW B j=>?_;refine lp B [1,2,3,12,13,9010,2020] (λk (a,b)=>Z 14 a<|Y 19 (.ow [24] [22,23] 43 b)<|k) (λk b=>(.exit 0,Y 19 (.ow [24] [22,23] 43 b)<|k)) ?_ ?_
 .rintro⟨_,_⟩ O j;refine U<|zo xi<|M<|za<|zd j (λo j=>?_) λo j=>?_
  .refine zk<|zt<|za<|zl<|U<|bB j λQ G j=>z3 (xI G) xd I<|M<|bB j λX D j=>bB j λV A j=>?_;exact zQ aI (S:=p5 xf xl E (kC [0] 22 (lK _ D)) (xt [22] 23 [_])<|aq (sE [.ae 23 _,.av 24] (yA [22,23] A))<|o1 xf<|aq (sE [.ae 100019 _,.ae 100018 _,.av 18,.bp 19] (yt))<|aN) (h:=zh<|zt<|zb<|z2 xy E<|zw<|zN j)
  .exact ze<|zE<|zB j
 .intro _;refine zj<|zt<|za<|U<|z4 xf xl xn E<|M<|zl<|bB j λK u j=>?_;refine lp u [2,3,27,28,6014,1021] (λk (a,b)=>Z 29 a<|Y 20 (.ow [30] [28,29] 123 b)<|k) (λk b=>(.exit 2,Y 20 (.ow [30] [28,29] 123 b)<|k)) ?_ ?_
  .rintro⟨_,_⟩ N j;refine U<|zo xi<|M<|za<|zd j (λo j=>?_) λo j=>?_
   .refine zk<|zt<|za<|zl<|U<|bB j λC q j=>z2 (xI q) xd<|zs (ya 25)<|zs (yo aA)<|M<|bB j λJ z j=>bB j λL w j=>?_;exact zQ aI (S:=p6 xf xl xf xl xf xl<|p3 (kC [0] 28 (lK _ z)) bU (xt [28] 29 [(fB.mk C.At J)])<|aq (sE [.ae 42 _,.av 30] (yA [28,29] w))<|o1 xf<|aq (sE [.ae 100020 _,.ae 100018 _,.av 18,.bp 20] (yt))<|aN) (h:=zh<|zt<|zb<|z2 xy E<|zw<|zN j)
   .exact ze<|zE<|zB j
  .intro _;refine zj<|zt<|U<|zo xr<|zs (yo aF)<|M<|zr ?_;cases j;exact az
theorem AK:C1 107 r_ (.own 0 none 5):=λz r a=>(cv [[10,11]] func107) λ_ _=>by
 refine U<|zo I<|M<|za<|U<|z3 E xn xe<|M<|zd a (λq a=>?_) λq a=>?_
 .refine U<|bB a λw o a=>?_;refine ws (au.oe 10 o rfl rfl de.h AT e_)<|zo I<|M<|zr<|zR ?_;cases a;exact az
 .refine zk<|zt<|U<|zo E<|bB a λu j a=>z2 (kC [0] 11 (lK _ j)) I<|M<|zr ?_;cases a;exact az
theorem SF(a0 a1){r}(a:QW a0 a1=some r):CT 154 [.rep 0 a0,.ptr 0 a1] (.fl r) []:=by refine cw [[]] func154 λw0 om=>?_;refine U<|zs (yb 10 aA)<|zo I<|zz<|z5 xf xl xD xe I<|M<|zr ?_;cases a;exact az
theorem FM:C3 97 uD (s2 (qj (.own 0 (some 1) 43) (.own 2 (some 3) 123))):=λan w ar r j=>(cv [[25],[22,26],[23,35],[24]] func97) λ_ _=>by
 refine U<|zs (yb 10 aA)<|zs (yb 14 fc)<|zs (ya 16)<|zo I<|M<|za<|U<|z3 xr xl E<|bB j λap X j=>z2 (kC [0] 20 (NY _ _ _ X)) I<|zz<|z2 E xq<|M<|zx j λo j=>zk<|zt<|U<|zo xr<|bB j λD O j=>zo (kC [0] 21 (uF _ O))<|zs (yo aF)<|M<|za ?_;refine ei (Ad.d_ (i:=11) 25 rfl rfl rfl (ev.bj rfl) rfl (Cv.gT (T:=[21]) (te:=[22]) (T':=[21]) (te':=[22]) rfl rfl))<|bB j λac N j=>bB j λaa B j=>?_;refine zQ aI (S:=p6 xf xl xl E (kC [0] 26 (AK _ N)) (xu B)<|aq (sE [.ae 100025 _,.av 25] (yW [22,26] B))<|aN) (h:=zt<|U<|z3 xf xl xF ?_);refine il j (CM D ac aa) [3,6,2010,1013,4016,1025] (λk p=>W 28 (.ow [23,35] [24] 123 p)<|k) func153 cF ?_ ?_
 .refine λam=>iu 1 [3,6] [10010,1025] ?_;refine U<|zo I<|zz<|z2 E E<|bB j λal Q j=>z2 (kC [14,23,24] 27 (QO _ _ Q) (H2 (j0 rfl (jT λy _=>@SF y w _)))) I<|M<|za<|U<|z2 E xe<|M<|zd j (λo j=>?_) λo j=>?_
  .exact U<|z2 E I<|M<|zr<|zR<|bS D.eg j
  .refine zk<|zt<|za<|U<|z3 E xy I<|M<|zl<|bB j λag J j=>?_;refine lp J [1,902003,902006,2010,7013,1025] (λk (a,b,c)=>W 0 (.ow [23,34] [24] 123 a)<|Z 5 b<|Z 6 c<|k) (λk (a,b)=>(.exit 0,W 0 (.ow [23,34] [24] 123 a)<|Z 5 b<|k)) ?_ ?_
   .rintro⟨z,u,C⟩ ad j;refine za<|U<|z4 E E xn xi<|M<|zd j (λo j=>?_) λo j=>?_
    .refine zk<|zt ?_;refine jn j (C9 C) [1,6,902003,902006,2010,7013,1025] (λk (a,b)=>W 0 (.ow [23,34] [24] 123 a)<|Z 5 b<|k) ?_ ?_
     .rintro⟨_,_⟩ j;exact zb<|z3 E xy I<|zw<|zN j
     .refine zl<|U<|z2 E E<|bB j λq K j=>z2 (xJ K) xs<|zs (ya 28)<|zs (yo aA)<|zz<|z2 E xr ?_;refine il j (GP w z u C q) [0,1,5,6,7,902003,902006,2010,7013,1025,3028] (λk p=>Z 28 ((q.At==w):Bool)<|k) func154 cV ?_ ?_
      .refine λao=>iu 2 [0,1,5,6,7] [902003,902006,2010,7013,1025,3028] ?_;exact U<|zs (yb 31 aF)<|zo I<|zz<|z5 xf xl xl xe I<|M<|zr<|bS () j
      .rintro _ j;refine zo xN<|M<|zd j (λo j=>?_) λo j=>?_
       .refine za ?_;exact ei (Ad.ow (s:=0) 34 rfl rfl (ev.bj rfl) rfl (Cv.gT (T:=[23,34]) (te:=[24]) (T':=[23,34]) (te':=[24]) rfl rfl))<|zb<|z3 E E xr<|bB j λY A j=>zo (xu A)<|zs (yW [24] A (T:=[24]) (y:=q))<|M<|zb<|z3 E xy I<|zw<|zh<|zJ ((z).set Y q,(wI (u+(1:Int)))) j
       .exact zk<|zh<|zJ (z,u) j
    .exact ze<|zE<|zB j
   .intro _;refine zj<|zt<|za ?_;refine ei (Ad.ow (s:=0) 35 rfl rfl (ev.bj rfl) rfl (Cv.gT (T:=[23,34]) (te:=[24]) (T':=[23,34]) (te':=[24]) rfl rfl))<|zb<|z2 E E<|bB j λaf G j=>?_;refine wo (ah.Gm G de.h (ai rfl) rfl (ai rfl)) ?_;refine ws (au.F9 (te':=[24]) de.h R2 rfl (ai rfl) rfl (cC.bj rfl rfl))<|zz<|z2 E E<|bB j λV L j=>?_;exact wo (ah.Ho L de.h (aV (ai rfl) (Cv.qd rfl)) (ai rfl))<|zo I<|M<|zr<|bS V j
 .rintro ak j;refine zo xf<|zs (yt)<|zz<|zo xr<|zs (yo aF)<|zo I<|M<|zr ?_;cases j;exact bC
theorem NC:C1 202 DI .fl:=λj r a=>(cv [[]] func202) λ_ _=>by refine U<|zo I<|zz<|z4 E Fc ym I<|M<|zr ?_;obtain rfl:=Option.some.inj a;exact az
theorem Ky:C1 155 wc .fl:=λz r a=>(cv [[]] func155) λ_ _=>by
 refine U<|zs (yb 10 aA)<|zo I<|M<|za<|U<|z2 xf xl<|bB a λw q a=>z2 (kC [] 15 (NC _ q)) E<|g2 rfl rfl (λ_=>⟨xf,xl⟩)<|bB a λu o a=>zg rfl rfl (λj=>kC [] 16 (NC _ (bM o j)))<|z2 xw E<|g3 rfl rfl (λ_=>⟨xf,xl,xh⟩)<|z2 xw E<|g2 rfl rfl (λ_=>⟨xf,xl⟩)<|zg rfl rfl (λ_=>xi)<|zo xw<|M<|zd a (λj a=>?_) λj a=>?_
 .refine U<|zo I<|M<|zr<|zR ?_;cases a;exact az
 .refine zk<|zt<|U<|zo I<|M<|zr ?_;cases a;exact az
theorem u9:C3 156 oz (λr=>.aK [(false,1,.sl 0 none r.b),(false,1,.fl r.at_),(false,1,.fl r.e)]):=λw o u r a=>(cv [[18]] func156) λ_ _=>by refine U<|zs (yb 10 aA)<|zs (ya 14)<|M<|za<|U<|z3 xf xl xq<|M<|zx a λz a=>zk<|zt<|U<|z5 xf xl xf xl E<|zo E<|bB a λq j a=>z5 (kC [0] 18 (Dq _ _ _ _ j)) E aC aB I<|zo I<|zz<|z5 E xf xl E xy<|z2 E bU<|zs (yo aF)<|M<|zr ?_;cases a;exact az
theorem Wa:C1 157 BR (s2 (.sl 0 none)):=λA r a=>(cv [[15]] func157) λ_ _=>by refine U<|zs (yb 10 aA)<|z2 I I<|M<|za<|U<|z3 xf xl xq<|M<|zx a λB a=>zk<|zt<|U<|zo xf<|zs (yt)<|M<|za<|bB a λz q a=>bB a λu o a=>bB a λw j a=>?_;refine zQ aI (S:=p6 xr xf xl (th q) (kC [0] 14 (tz _ o)) (eF (β:=Int))<|o1 (kC [0] 15 (u9 _ _ _ j))<|aq (sE (kR 10 [_,_,_,_] (.av 10::(kK 11 3 []))) (yo aF))<|aN) (h:=zt<|za ?_);refine zQ aI (S:=p6 xf xl xf xl I I<|aN) (h:=zt<|zr ?_);cases a;exact bC
theorem AI:C1 98 rM (s2 (.sl 0 none)):=λL r a=>(cv [[21]] func98) λ_ _=>by
 refine U<|zs (yb 10 aA)<|z2 I I<|M<|za<|U<|zo xr<|bB a λK A a=>z2 (kC [] 15 (Ky _ A)) I<|zz<|z2 E xq<|M<|zd a (λB a=>?_) λB a=>?_
 .refine U<|z3 E I I<|M<|zr<|zR ?_;cases a;exact bC
 .refine zk<|zt<|za<|bB a λC w a=>bB a λD o a=>bB a λN u a=>bB a λJ q a=>bB a λO z a=>bB a λG j a=>?_;refine zQ aI (S:=p6 bU (kC [] 16 (u9 _ _ _ w)) xf xl (eF (β:=Int)) (kC [16] 17 (u9 _ _ _ o))<|p6 xf xl (eF (β:=Int)) (kC [17] 18 (u9 _ _ _ u)) xf xl<|p6 (eF (β:=Int)) (kC [18] 19 (u9 _ _ _ q)) xf xl (kC [19] 20 (u9 _ _ _ z)) (kC [20] 21 (Wa _ j))<|p4 aC aB I I<|aN) (h:=zt<|zr ?_);cases a;exact bC
theorem Yf:C1 45 Pv (s2 (.own 0 (some 1) 96)):=λac r j=>(cv [[30],[25,26,27,28,29,37,38,39,40,41]] func45) λ_ _=>by
 refine U<|zs (yb 10 aA)<|z2 I I<|zz<|zo xr<|bB j λaf J j=>z5 (kC [] 17 (Na _ J)) E aC aB I<|zo I<|M<|za<|U<|z2 E xq<|M<|zx j λo j=>zk<|zt<|U<|zo xr<|bB j λaa B j=>z5 (kC [] 18 (BO _ B)) E aC aB I<|zo I<|M<|za<|U<|z3 xf xl E<|M<|zl<|bB j λS u j=>?_;refine lp u [1,4,5,30,7010] (λk (a,b)=>W 2 (.ow [30] [25,26,27,28,29] 96 a)<|Z 31 b<|k) (λk b=>(.exit 0,W 2 (.ow [30] [25,26,27,28,29] 96 b)<|k)) ?_ ?_
 .rintro⟨_,_⟩ Y j;refine U<|zo xi<|M<|za<|zd j (λo j=>?_) λo j=>?_
  .exact zk<|zt<|za<|zl<|U<|z2 E I<|zz<|zo E<|bB j λX C j=>z4 (kC [] 19 (MZ _ C)) E aC aB<|zs (ya 20)<|zs (yo aF)<|zo I<|zz<|z5 xf xl xf xl xf<|zo xl<|z5 xf xl xf xl E<|zo bU<|bB j λae L j=>z5 (kC [] 24 (Ib _ L)) E aC aB I<|zo I<|zz<|z2 xr E<|bB j λN D j=>z4 (kC [19,24] 25 (FM _ _ _ D)) E aC aB<|zs (yo aF)<|M<|zb<|z3 E xr (xt [25,26,27,28] 29 [N.1])<|bB j λad K j=>zs (yA [25,26,27,28,29] K)<|zo I<|zw<|zh<|zt<|zb<|z2 xy E<|zw<|zN j
  .exact ze<|zE<|zB j
 .intro _;refine zj<|zt<|U<|zo E<|bB j λO q j=>z4 (kC [] 31 (MZ _ q)) E aC aB<|zs (ya 32)<|zs (yo aF)<|zo I<|zz<|z3 xf xl bU<|bB j λV A j=>z5 (kC [] 36 (AI _ A)) E aC aB I<|zo I<|zz<|z2 xr E<|bB j λG z j=>z4 (kC [31,36] 37 (FM _ _ _ z)) E aC aB<|zs (yo aF)<|zz<|z3 E xr (xt [37,38,39,40] 41 [G.1])<|bB j λQ w j=>zs (yA [25,26,27,28,29,37,38,39,40,41] w)<|z2 I I<|M<|zr ?_;cases j;exact bC
theorem Ti(a0 a1){r}(a:FR a0 a1=some r):CT 245 [.rep 0 a0,.fn H jE 0 a1] (.fl r) []:=by
 refine cw [[]] func245 λw0 om=>?_;refine U<|zo I<|M<|za<|U<|z3 E xn E<|M<|zl<|bB a λw q a=>?_;refine lp q [0,1,7] (λk s=>Z 8 s<|k) (λk=>Sum.elim (λb=>(.ret,Z 4 b<|k)) (λ_=>(.exit 0,k))) ?_ ?_
 .rintro z B a;refine U<|zo xi<|M<|za<|zd a (λj a=>?_) λj a=>?_
  .refine zk<|zt<|za<|zl<|U<|z2 E I<|zz<|z3 E E E<|bB a λA o a=>z2 (xI o) xd<|bB a λD u a=>zo (lh [0] 10 u)<|M<|zd a (λj a=>?_) λj a=>?_
   .exact U<|z2 E I<|M<|zr<|zi<|zR<|zB a
   .exact zk<|zh<|zt<|zb<|z2 xy E<|zw<|zN a
  .exact ze<|zE<|zB a
 .intro _;rcases w with C|G
  .have a:=fN a;refine zi<|zR ?_;cases a;exact az
  .have a:=fI a;refine zj<|zt<|U<|zo I<|M<|zr ?_;cases a;exact az
theorem ZL(a0 a1){r}(a:FB a0 a1=some r):CT 219 [.rep 0 a0,.fn H jE 0 a1] (.fl r) []:=by refine cw [[]] func219 λw0 om=>?_;refine U<|zo I<|zz<|z2 E E<|bB a λo j a=>z3 (kC [0] 10 (Ti _ _ j)) xh I<|M<|zr ?_;cases a;exact az
theorem YH:C1 218 wx .fl:=λq r a=>(cv [[]] func218) λ_ _=>by refine U<|zs (yb 10 aA)<|zo I<|zz<|zo xr<|bB a λo j a=>z3 (kC [0] 14 (uj _ j)) xq I<|M<|zr ?_;cases a;exact az
theorem Ym:C1 179 Da .fl:=λu r a=>(cv [[]] func179) λ_ _=>by refine U<|zo I<|zz ?_;refine wo (ah.assign fD)<|M<|za<|U<|z4 E xn xi E<|g3 rfl rfl (λ_=>⟨E,xn,xg⟩)<|z2 xo E<|g2 rfl rfl (λ_=>⟨E,E⟩)<|bB a λq o a=>zg rfl rfl (λj=>kC [0] 10 (ZL _ _ (bM o (cS j))) (H2 (tA rfl (by assumption) (jT λy _=>@YH y _))))<|zo xo<|M<|zx a λj a=>zk<|zt<|U<|zo I<|M<|zr ?_;cases a;exact az
theorem My:C1 178 vI .fl:=λw r a=>(cv [[]] func178) λ_ _=>by refine U ?_;refine wo (ah.assign (Has.Qm (ks:=[215,216,217])))<|zz ?_;refine wo (ah.yx (us:=[(1, .func 215),(2, .func 216),(3, .func 217)]) (ls':=[tr ((⟨0⟩:bI [215,216,217]):bI [215,216,217]),tr ((⟨1⟩:bI [215,216,217]):bI [215,216,217]),tr ((⟨2⟩:bI [215,216,217]):bI [215,216,217]),tr ((⟨3⟩:bI [215,216,217]):bI [215,216,217])]) lT.h rfl (BP.cons rfl rfl (aV fD (Cv.gb (ks:=[215,216,217]) (n:=1) rfl)) (aV fD (Cv.gb (ks:=[215,216,217]) (n:=1) rfl)) (BP.cons rfl rfl (aV fD (Cv.gb (ks:=[215,216,217]) (n:=2) rfl)) (aV fD (Cv.gb (ks:=[215,216,217]) (n:=2) rfl)) (BP.cons rfl rfl (aV fD (Cv.gb (ks:=[215,216,217]) (n:=3) rfl)) (aV fD (Cv.gb (ks:=[215,216,217]) (n:=3) rfl)) BP.nil))))<|zs (ya 10)<|zs (yo aF)<|M<|za<|U<|z3 E (eF (β:=Int)) xh<|M<|zx a λz a=>zk<|zt<|U<|zo E<|bB a λu o a=>?_;refine wo (ah.Jr o RX (aV (ai rfl) (Cv.eG rfl)) (ai rfl))<|bB a λq j a=>?_;refine wo (ah.ZN (T:=[]) (l:=([(⟨0⟩:bI [215,216,217]),(⟨1⟩:bI [215,216,217]),(⟨2⟩:bI [215,216,217]),(⟨3⟩:bI [215,216,217])]:List (bI [215,216,217]))) j cj.h rfl rfl (ai rfl) rfl (kl.cons (aW rfl) (kl.cons (aW rfl) (kl.cons (aW rfl) (kl.cons (aW rfl) kl.nil)))))<|zo I<|M<|zr ?_;cases a;exact az
theorem TB:C2 214 BF .fl:=λA w r a=>(cv [[]] func214) λ_ _=>by
 refine U<|zs (yb 10 aA)<|zo I<|M<|za<|U<|z4 xf xl xi E<|g4 rfl rfl (λ_=>⟨xf,xl,E,xn⟩)<|zg rfl rfl (λ_=>xh)<|z2 xo E<|g2 rfl rfl (λ_=>⟨xf,xl⟩)<|bB a λz q a=>zg rfl rfl (λj=>kC [] 15 (My _ (bM q (cS j)))) ?_;refine wg rfl rfl (λj=>ah.P3 underlying286 (dD rfl j))<|zo xo<|M<|zx a λj a=>zk<|zt<|za<|U<|z3 xf xl xb<|M<|zd a (λj a=>?_) λj a=>?_
 .refine U<|z4 xf xl xe E<|g4 rfl rfl (λ_=>⟨xf,xl,xn,xe⟩)<|z2 xw I<|M<|zr<|zR ?_;cases a;exact az
 .refine zk<|zt<|za<|bB a λu o a=>?_;refine zQ aI (S:=p4 xf xl xh E<|w4 (q4 (h:=λ_=>⟨xf,xl,E,xf⟩))<|aq (qg (h:=λ_=>xl))<|aq (qg (h:=λj=>xI (bM o j)))<|w4 (q4 (h:=λ_=>⟨xp,xd,xn,xi⟩))<|p2 xw E<|w4 (q4 (h:=λ_=>⟨xf,xl,xn,xe⟩))<|aq (qg (h:=λ_=>xM))<|aq (qu (h:=λ_=>xf))<|aq (qu (h:=λ_=>xl))<|aq (qu (h:=λ_=>xn))<|aq (qu (h:=λ_=>xe))<|aq (qg (h:=λ_=>xO))<|p2 xw I<|aN) (h:=zt<|zr ?_);cases a;exact az
theorem N':C2 176 vJ .fl:=λG A r a=>(cv [[]] func176) λ_ _=>by
 refine U<|zo I<|M<|za<|U<|zo E<|bB a λC w a=>z2 (kC [0] 10 (Ym _ w)) I<|zz<|z2 E xq<|M<|zx a λj a=>zk<|zt<|za<|U<|z3 E xn xg<|M<|zd a (λj a=>?_) λj a=>?_
 .refine U<|zo I<|M<|zr<|zR ?_;cases a;exact az
 .refine zk<|zt<|za<|U<|z3 E xn E<|M<|zl<|bB a λD u a=>?_;refine lp u [1,16,17] (λk s=>Z 18 s<|k) (λk _=>(.exit 0,k)) ?_ ?_
  .rintro s2 z a;refine U<|zo xi<|M<|za<|zd a (λj a=>?_) λj a=>?_
   .exact zk<|zt<|za<|zl<|U<|bB a λJ q a=>z2 (xI q) xd<|zs (ya 11)<|zs (yo aA)<|zz<|z2 xr E<|bB a λB o a=>z2 (kC [0] 16 (TB _ _ o)) xN<|M<|zx a λj a=>zk<|zh<|zt<|zb<|z2 xy E<|zw<|zN a
   .exact ze<|zE<|zB a
  .intro _;refine zj<|zt<|U<|zo I<|M<|zr ?_;cases a;exact az
theorem XF:C2 105 I9 (s2 (.own 0 none 5)):=λC z r a=>(cv [[15]] func105) λ_ _=>by
 refine U<|zs (yb 10 aA)<|z2 I I<|M<|za<|U<|z2 xr E<|bB a λB u a=>z2 (kC [0] 14 (LN _ _ u)) I<|zz<|z2 E xq<|M<|zx a λj a=>zk<|zt<|za<|U<|z2 xf xl<|M<|zd a (λj a=>?_) λj a=>?_
 .refine U<|z2 I I<|M<|zr<|zR ?_;cases a;exact bC
 .refine zk<|zt<|U<|z3 xf xl E<|bB a λw q a=>z2 (xI q) xd<|bB a λA o a=>z3 (kC [0] 15 (AK _ o)) I I<|M<|zr ?_;cases a;exact bC
theorem w8:C2 55 oR (s2 (.own 0 none 5)):=by
 intro q u r a;refine oA [[20,28]] 32 func55 rfl rfl rfl rfl (λw0 om=>?_);refine aO.sub (G':=[.ae 0 (.rep [0] (q:aU)), .ae 1 (.rep [] (u:Int))]) (sn (Sub.cons (fG (ai rfl)) Sub.nil))<|U<|zs (yb 10 aA)<|zs (yb 14 fc)<|zs (ya 16)<|zs (ya 18)<|zz<|z2 xr xl<|bB a λJ z a=>z5 (kC [0] 20 (XF _ _ z)) E aC aB I<|zo I<|M<|za<|U<|z2 E xq<|M<|zd a (λj a=>?_) λj a=>?_
 .refine U<|zo E<|zs (yt)<|zs (yt)<|M<|zr<|zR ?_;cases a;exact aH.CG bC
 .refine zk<|zt<|za<|U<|z2 xf xl ?_;refine il a (ES q u J) [3,4,5,6,6014] (λk p=>W 21 (.ef 160 [] [aa.aL 21])<|Y 22 (.rep [0] q.eg)<|O 21 1<|k) func106 cF ?_ ?_
  .refine λG=>iu 1 [3,4,5,6] [6014] ?_;refine U<|zs (yb 21 fc) ?_;exact wo (ah.assign Has.top)<|zz<|z2 xF I<|M<|zr<|bS () a
  .rintro _ a;refine M<|zl ?_;refine rG 23 [3,4,5,6,21] [6014,2021] func160 (h:=λG=>ra (h:=λo w=>?_));refine U<|z4 xl xn xz I<|M<|zl<|bB a λD C a=>?_;refine lp C [0,1,902003,902004,902005,902006,902021,3014,2018,2021,1024] (λk s=>Z 3 s<|Y 17 (.dM)<|W 100023 (.rc 23 o .ready none)<|k) (λk=>Sum.elim (λb=>(.ret,Y 17 (.ow [28] [] 5 b)<|W 100023 (.rc 23 o (.done) (some .ret))<|k)) (λb=>(.exit 0,Y 17 (.dM)<|W 100023 (.rc 23 o .ready none)<|k))) ?_ ?_
   .rintro s2 K a;refine za<|U<|z2 E xh<|M<|zd a (λj a=>?_) λj a=>?_
    .refine zk<|zt<|za<|zl<|U<|z4 E E xl E<|bB a λL B a=>z2 (xI B) xd ?_;refine rY 23 904000 [0,1,3] [3,4,5,6,21] [902003,902004,902005,902006,902021,6014,4021] w (h:=λS=>rK (h:=?_));refine zb<|zs (ya 25)<|zs (yo aA)<|zw ?_;refine aH.oW (t:=23) rfl rfl<|zl<|U<|z4 xf xl xl xe<|M<|zd a (λj a=>?_) λj a=>?_
     .refine U<|z2 xf xl<|bB a λQ A a=>zo (kC [0] 28 (AK _ A))<|zs (yt)<|zs (yt)<|M<|zr<|zi ?_;refine rR 23 904000 [0,1,3] [902003,902004,902005,902006,902021,6014,2021,4024] (k:=?_);exact zo xN<|M<|zT<|zr<|zi<|zR<|zB a
     .refine zk<|zh ?_;refine rN 23 904000 [0,1,3] [902003,902004,902005,902006,902021,6014,2021,4024] (k:=?_);exact zo xN<|M<|zF<|zk<|zh<|zt<|zb<|z3 E xz I<|zw<|zN a
    .exact ze<|zE<|zB a
   .intro _;rcases D with N|V
    .have a:=fN a;refine zi ?_;refine rJ 23 [3,4,5,6,21] [6014,2021,1024] (k:=?_);refine zr<|zi<|zR ?_;cases a;exact rU 24 bC
    .have a:=fI a;refine zj ?_;refine aH.nC ?_;refine rF 23 [3,4,5,6,21] [6014,2021,1024] (k:=?_);refine zh<|zt<|U<|zo E<|zs (yt)<|zs (yt)<|M<|zr ?_;cases a;exact rU 24 bC
theorem RZ:C2 136 I0 .fl:=λj o r a=>(cv [[]] func136) λ_ _=>by refine U<|zo I<|zz<|z4 E pC E pC ?_;refine wo (ah.Kj (ai rfl) (ai rfl))<|zo I<|M<|zr ?_;cases a;exact az
theorem SI:C1 274 Br (s2 .fl):=λan r j=>(cv [[]] func274) λ_ _=>by
 refine U<|zs (ya 10)<|zo I<|zz<|zo I<|M<|za<|U<|zo bU<|bB j λaL Q j=>z3 (kC [] 21 (KP _ Q)) xn E<|M<|zl<|bB j λaG aa j=>?_;refine lp aa [0,2,13,14,11010] (λk (a,b)=>W 4 (.ow [28] [] 3 a)<|Z 15 b<|k) (λk b=>(.exit 0,W 4 (.ow [28] [] 3 b)<|k)) ?_ ?_
 .rintro⟨_,_⟩ aJ j;refine U<|zo xi<|M<|za<|zd j (λo j=>?_) λo j=>?_
  .exact zk<|zt<|za<|zl<|U<|bB j λaE af j=>z2 (xI af) xD<|zs (ya 22)<|zs (yo aA)<|zz<|z5 E xf xl xf xl<|bB j λaz L j=>z5 (kC [0] 26 (sm _ _ _ L)) E aC aB I<|zo I<|M<|za<|U<|z2 E xq<|M<|zx j λo j=>zk<|zt<|zb<|z3 E E (xt [] 27 [_])<|bB j λaH ad j=>zs (yA [] ad)<|zo I<|zw<|zh<|zt<|zb<|z2 xy E<|zw<|zN j
  .exact ze<|zE<|zB j
 .intro _;refine zj<|zt<|za<|bB j λao X j=>bB j λag D j=>bB j λY w j=>bB j λak J j=>bB j λO C j=>bB j λac B j=>bB j λal q j=>bB j λay u j=>bB j λN G j=>bB j λam K j=>?_;refine zQ aI (S:=p6 E (xJ X) xS (eF (β:=UInt32)) E (xJ D)<|p6 xS (eF (β:=UInt32)) E (xJ w) xS E<|p6 (xJ J) xS E (xJ C) xS E<|p6 (xJ B) xS E (xJ q) xS E<|p6 (xJ u) xS E (xJ G) xS E<|p4 (xJ K) xS xe bU<|aq (sE (.ae 9 _::(kR 29 [_,_,_,_,_,_,_,_,_,_,_] (kK 29 11 []))) (ya 29))<|aq (sE (kR 29 [_,_,_,_,_,_,_,_,_,_,_] (.av 29::(kK 30 10 []))) (yo aF))<|aN) (h:=zt ?_);refine jn j (Dj an ao ag Y ak O ac al N am) [0,2,9,11010,8029,2038] (λk p=>V 37 p<|k) ?_ ?_
  .rintro ap j;refine za<|U<|zo xr<|bB j λar A j=>z5 (kC [] 40 (Ib _ A)) E aC aB I<|zo I<|zz<|z3 E xq E<|g2 rfl rfl (λ_=>⟨E,E⟩)<|bB j λaw z j=>zg rfl rfl (λo=>kC [0,40] 41 (RZ _ _ (bM z (cS o))))<|zg rfl rfl (λ_=>xN)<|zo xo<|M<|zd j (λo j=>?_) λo j=>?_
   .refine U<|zo bU<|zs (yo aF)<|zo I<|M<|zr<|zR ?_;cases j;exact bC
   .refine zk<|zt<|U<|zo xr<|zs (yo aF)<|zo I<|M<|zr ?_;cases j;exact bC
  .refine U<|z3 xf xl xe<|M<|zd j (λo j=>?_) λo j=>?_
   .exact zb<|zo xf<|zs (yt)<|zw<|zJ _ j
   .exact zk<|zJ _ j
theorem R9:C2 246 Eg (s2 .fl):=λC z r a=>(cv [[]] func246) λ_ _=>by
 refine U<|zs (ya 10)<|zo I<|zz<|z2 E E<|bB a λB q a=>z2 (xI q) xd<|bB a λw o a=>z5 (kC [0] 21 (w8 _ _ o)) E aC aB I<|zo I<|M<|za<|U<|z2 E xq<|M<|zd a (λu a=>?_) λu a=>?_
 .refine U<|zo bU<|zs (yo aF)<|zo I<|M<|zr<|zR ?_;cases a;exact bC
 .refine zk<|zt<|U<|zo E<|bB a λA j a=>z4 (kC [21] 22 (SI _ j)) E aC aB<|zs (ya 23)<|zs (yo aA)<|zo I<|M<|za ?_;refine zQ aI (S:=p4 xr E xe E<|w4 (q4 (h:=λ_=>⟨xf,xl,E,xe⟩))<|p2 xw E<|w4 (q4 (h:=λ_=>⟨xf,xl,E,xn⟩))<|w2 (q2 (h:=λ_=>⟨xz,xe⟩))<|o1 xw<|aq (sE (kR 10 [_,_,_,_,_,_,_,_,_,_,_] (.av 10::(kK 11 10 []))) (yo aF))<|o1 I<|aN) (h:=zt<|zr ?_);cases a;exact bC
theorem W9(a0 a1){r}(j:DG a0 a1=some r):CT 247 [.rep 0 a0,.fn H Jo 0 a1] (.fl r) []:=by
 refine cw [[]] func247 λw0 om=>?_;refine U<|zs (ya 10)<|M ?_;refine jn j (JS a0 a1) [0,1,4,11010] (λk p=>k) ?_ ?_
 .rintro _ j;refine U<|zo E<|bB j λac G j=>z2 (xI G) xD<|zs (ya 21)<|zs (yo aA)<|M<|za<|U<|zo I<|M<|zl<|bB j λX z j=>?_;refine lp z [0,1,4,5,12010] (λk (a,b,c,d,e,f,g,h,i,q,l)=>Z 6 a<|V8 22 b c d e f g h i<|V2 30 q l<|k) (λk (a,b,c,d,e,f,g,h,i,q)=>(.exit 0,V8 22 a b c d e f g h<|V2 30 i q<|k)) ?_ ?_
  .rintro⟨s2,s3,Q,K,O,V,N,L,B,D,C⟩ W j;refine za<|U<|z4 E E xn xi<|M<|zd j (λo j=>?_) λo j=>?_
   .refine zk<|zt ?_;refine jn j (DN s2) [0,1,4,5,6,12010] (λk (a,b,c,d,e,f,g,h,i,q)=>V8 22 a b c d e f g h<|V2 30 i q<|k) ?_ ?_
    .rintro⟨_,_,_,_,_,_,_,_,_,_⟩ j;exact zb<|z3 E xy I<|zw<|zN j
    .refine zl<|za<|bB j λJ A j=>bB j λaa w j=>?_;refine zQ aI (S:=p6 E E E (xI A) xD xr<|p2 (lh (x:=(J,(cQ.mk s3 Q K O V N L B D C))) [] 32 w) xg<|aN) (h:=zt<|zd j (λo j=>?_) λo j=>?_)
     .exact zb<|z2 E E<|bB j λY u j=>z2 (xI u) xD<|zs (yo aA)<|zw<|zh<|zJ (_,_,_,_,_,_,_,_,_,_) j
     .exact zk<|zh<|zJ (_,_,_,_,_,_,_,_,_,_) j
   .exact ze<|zE<|zB j
  .intro _;refine zj<|zt<|U<|zo xr<|zs (yo aF)<|M<|zr ?_;cases j;exact az
 .refine U<|z3 E xn xi<|M<|zd j (λo j=>?_) λo j=>?_
  .refine zb ?_;exact nomatch j
  .exact zk<|zJ () j
theorem Qu:C1 275 AV .fl:=λj r a=>(cv [[]] func275) λ_ _=>by refine U<|zo I<|zz<|z4 E E pT I<|M<|zr ?_;cases a;exact az
theorem RG:C2 249 Gg .fl:=λA w r a=>(cv [[]] func249) λ_ _=>by
 refine U<|zo I<|zz<|zo E<|bB a λz q a=>z2 (kC [] 10 (Qu _ q)) I<|zz<|zo E<|bB a λu o a=>z2 (kC [] 11 (Qu _ o)) I<|M<|za<|U<|zo E<|M<|zd a (λj a=>?_) λj a=>?_
 .refine za<|U<|zo E<|M<|zd a (λj a=>?_) λj a=>?_
  .refine U<|zo I<|M<|zr<|zR<|zR ?_;cases a;exact az
  .refine zk<|zt<|U<|zo I<|M<|zr<|zR ?_;cases a;exact az
 .refine zk<|zt<|za<|U<|zo E<|M<|zd a (λj a=>?_) λj a=>?_
  .refine U<|zo I<|M<|zr<|zR ?_;cases a;exact az
  .refine zk<|zt<|za<|U<|z3 E E ym<|M<|zd a (λj a=>?_) λj a=>?_
   .refine U<|zo I<|M<|zr<|zR ?_;cases a;exact az
   .refine zk<|zt<|za<|U<|z3 E E nJ<|M<|zd a (λj a=>?_) λj a=>?_
    .refine U<|zo I<|M<|zr<|zR ?_;cases a;exact az
    .refine zk<|zt<|U<|zo I<|M<|zr ?_;cases a;exact az
theorem Tk:C2 248 Aa .fl:=λu o r a=>(cv [[]] func248) λ_ _=>by refine U<|zs (yb 10 aA)<|zs (yb 21 aA)<|zo I<|zz<|z4 xf xl xf xl<|bB a λq j a=>z2 (kC [] 32 (RG _ _ j)) I<|M<|zr ?_;cases a;exact az
theorem Sr:C1 220 DA (s2 .fl):=λal r j=>(cv [[]] func220) λ_ _=>by
 refine U<|zs (ya 10)<|zo I<|zz<|zo I<|M<|za<|U<|z4 E xn xz E<|M<|zl<|bB j λae K j=>?_;refine lp K [0,2,13,1010,10013] (λk (a,b,c,d)=>W 4 (.ow [36] [] 183 a)<|Z 14 b<|V2 11 c d<|k) (λk (a,b,c)=>(.exit 0,W 4 (.ow [36] [] 183 a)<|V2 11 b c<|k)) ?_ ?_
 .rintro⟨_,s2,_,_⟩ ak j;refine U<|zo xi<|M<|za<|zd j (λo j=>?_) λo j=>?_
  .refine zk<|zt ?_;refine jn j (Bd s2) [0,2,13,14,1010,10013] (λk (a,b,c)=>W 4 (.ow [36] [] 183 a)<|V2 11 b c<|k) ?_ ?_
   .rintro⟨_,_,_⟩ j;exact zb<|z2 xy E<|zw<|zN j
   .refine zl<|U<|z2 E I<|zz<|z2 E E<|bB j λA N j=>z4 (kC [0] 23 (R9 _ _ N)) E aC aB<|zs (ya 24)<|zs (yo aA)<|zo I<|zz<|z5 E E xr E xf<|bB j λac z j=>?_;refine wo (ah.uf z Zv (ai rfl) (ai rfl)) ?_;refine ws (au.HI (q:=0) (off:=0) rfl (kr z rfl) cj.h rfl (ai rfl) rfl (aW rfl) (aV (ai rfl) (bq (di (vf (vf (vf (vf (vf (vf (vf (vf (vf (vf aX.nil))))))))))) (dG (T:=[]) (dg.h A.1)))))<|zo xf<|bB j λX u j=>?_;refine wo (ah.uf u wQ (ai rfl) (ai rfl)) ?_;refine ws (au.HI (q:=1) (off:=160) rfl (kr u rfl) mL rfl (ai rfl) rfl (aW rfl) (ai rfl))<|zz<|zo E<|M<|zd j (λo j=>?_) λo j=>?_
    .exact zb<|z3 E xr (xt [] 35 [A.1])<|bB j λS J j=>zs (yA [] J)<|zo I<|zw<|zh<|zJ (_,_,_) j
    .exact zk<|zh<|zJ (_,_,_) j
  .exact ze<|zE<|zB j
 .intro _;refine zj<|zt<|za<|U<|z3 E xn xe<|M<|zd j (λo j=>?_) λo j=>?_
  .refine U<|zo bU<|zs (yo bT)<|zo I<|M<|zr<|zR ?_;cases j;exact bC
  .refine zk<|zt<|U<|zo E<|bB j λY G j=>zo (kC [36] 37 (W9 _ _ G) (H2 (ma λy _=>@Tk y.1 y.2 _)))<|zs (ya 38)<|zs (yo aA)<|M<|za<|U<|z3 xf xl E<|M<|zl<|bB j λQ C j=>?_;refine lp C [2,8,44,2010,10013,11038] (λk (a,b)=>Z 45 a<|V 12 b<|k) (λk b=>(.exit 2,V 12 b<|k)) ?_ ?_
   .rintro⟨_,_⟩ aa j;refine U<|zo xi<|M<|za<|zd j (λo j=>?_) λo j=>?_
    .refine zk<|zt<|za<|zl<|U<|zo E<|bB j λag L j=>?_;refine wo (ah.Uk L S5 cj.h (ai rfl) (ai rfl))<|zs (ya 49)<|zo I<|zs (yo aA)<|M<|zb<|z3 E E xf<|bB j λO B j=>?_;refine wo (ah.uf B wQ (ai rfl) (ai rfl))<|bB j λaf D j=>?_;refine wo (ah.Il (q:=1) (off:=160) D mL rfl (ai rfl) rfl (aW rfl))<|zo E<|g4 rfl rfl (λ_=>⟨xf,xl,xf,xl⟩)<|zg rfl rfl (λ_=>rn)<|z2 xw E<|g4 rfl rfl (λ_=>⟨xf,xl,xf,xl⟩)<|zg rfl rfl (λ_=>xe)<|z2 xw E<|g4 rfl rfl (λ_=>⟨xf,xl,xf,xl⟩)<|zg rfl rfl (λ_=>xe)<|z2 xw E<|g2 rfl rfl (λ_=>⟨xf,xl⟩)<|g3 rfl rfl (λ_=>⟨xf,xl,xe⟩)<|z2 xw xf<|bB j λad w j=>?_;refine wo (ah.uf w wQ (ai rfl) (ai rfl)) ?_;exact ws (au.HI (q:=1) (off:=160) rfl (kr w rfl) mL rfl (ai rfl) rfl (aW rfl) (ai rfl))<|zw<|zh<|zt<|zb<|z2 xy E<|zw<|zN j
    .exact ze<|zE<|zB j
   .intro _;refine zj<|zt<|U<|z2 xr xf<|zs (yS 2 12 (hx:=aF))<|zz<|zo xR<|zs (yo bT)<|zo I<|M<|zr ?_;cases j;exact bC
theorem rA:C2 27 nO .fl:=λO K r a=>(cv [[]] func27) λ_ _=>by
 refine U<|zs (yb 10 aA)<|zo I<|zz<|zo xr<|bB a λN z a=>z5 (kC [] 17 (Na _ z)) E aC aB I<|zo I<|M<|za<|U<|z3 E xq E<|g4 rfl rfl (λ_=>⟨E,xn,xf,xl⟩)<|g2 rfl rfl (λ_=>⟨xy,xq⟩)<|zo xo<|M<|zd a (λj a=>?_) λj a=>?_
 .refine U<|zo I<|M<|zr<|zR ?_;cases a;exact az
 .refine zk<|zt<|za<|U<|z3 E xn E<|M<|zl<|bB a λA q a=>?_;refine lp q [2,5,25,26,7010] (λk s=>Z 27 s<|k) (λk=>Sum.elim (λb=>(.ret,Z 4 ((8:Int):Int)<|k)) (λ_=>(.exit 0,k))) ?_ ?_
  .rintro s2 G a;refine U<|zo xi<|M<|za<|zd a (λj a=>?_) λj a=>?_
   .refine zk<|zt<|za<|zl<|U<|zo E<|bB a λB u a=>z2 (xI u) xd<|zs (ya 18)<|zo I<|zs (yo aA)<|zz<|z2 E I<|M ?_;refine jn a (Aj s2 B) [2,5,8,25,26,27,7010,4018] (λk p=>Z 9 p<|k) ?_ ?_
    .rintro D a;refine U<|z5 xf xl xn E xq<|zo E<|zg rfl rfl (λ_=>xr)<|bB a λQ w a=>zg rfl rfl (λj=>kC [0] 23 (uj _ (bM w (cS j))))<|zg rfl rfl (λ_=>xq)<|zo xo<|M<|zd a (λj a=>?_) λj a=>?_
     .exact U<|zo I<|M<|zr<|zi<|zR<|zB a
     .exact zk<|zh<|zt<|zb<|z2 xy E<|zw<|zN a
    .refine U<|z4 E xf xl xe<|M<|zd a (λj a=>?_) λj a=>?_
     .exact zb<|zo xr<|bB a λL o a=>z5 (kC [] 22 (BO _ o)) E aC aB I<|zw<|zJ _ a
     .exact zk<|zJ _ a
   .exact ze<|zE<|zB a
  .intro _;rcases A with J|C
   .have a:=fN a;refine zi<|zR ?_;cases a;exact az
   .have a:=fI a;refine zj<|zt<|U<|zo I<|M<|zr ?_;cases a;exact az
theorem Wp:C1 221 Cj (s2 .fl):=λu r j=>(cv [[]] func221) λ_ _=>by
 refine U<|zs (yb 10 ck)<|zs (ya 23)<|zo I<|zz<|zo xf ?_;refine wo (ah.HR (i:=2) (a:=[(true,160),(true,16)]) (b:=[]) (ls:=[tr u.cA.Id,tr u.cA.cZ,tr u.cA.aw,tr u.cA.bz,tr u.cA.bb,tr u.cA.K,tr u.cA.Me,tr u.cA.bZ,tr u.cA.cN,tr u.cA.Open]) cj.h rfl rfl rfl rfl (by kernel_rfl) (ai rfl) rfl (bJ.cons (aW rfl) (bJ.cons (aW rfl) (bJ.cons (aW rfl) (bJ.cons (aW rfl) (bJ.cons (aW rfl) (bJ.cons (aW rfl) (bJ.cons (aW rfl) (bJ.cons (aW rfl) (bJ.cons (aW rfl) (bJ.cons (aW rfl) bJ.nil)))))))))))<|zs (ya 31)<|zs (yo aF)<|zz<|z5 xf xl xf xl bU<|zs (ya 42)<|zs (yo aF)<|M<|za<|U<|z3 xf xl E<|M<|zl<|bB j λJ A j=>?_;refine lp A [1,2,4,5,15,34010,5045] (λk (a,b)=>Z 16 a<|V 44 b<|k) (λk=>Sum.elim (λb=>(.ret,Z 3 ((230:Int):Int)<|k)) (λb=>(.exit 0,V 44 b<|k))) ?_ ?_
 .rintro⟨D,_⟩ Q j;refine U<|zo xi<|M<|za<|zd j (λo j=>?_) λo j=>?_
  .refine zk<|zt ?_;refine jn j (Cl D) [1,2,4,5,15,16,34010,5045] (λk p=>V 44 p<|k) ?_ ?_
   .rintro O j;exact zb<|z2 xy E<|zw<|zN j
   .refine zl<|U<|z2 E I<|M<|zl<|U<|z2 E xf<|bB j λX B j=>?_;refine wo (ah.uf B wQ (ai rfl) (ai rfl))<|bB j λY C j=>?_;refine wo (ah.Il (q:=1) (off:=160) C mL rfl (ai rfl) rfl (aW rfl))<|zo I<|M<|zd j (λo j=>?_) λo j=>?_
    .exact zk<|zh<|zh<|zJ _ j
    .refine U<|z4 xf xl xq E<|g4 rfl rfl (λ_=>⟨xf,xl,E,xq⟩)<|z2 xw I<|M<|zd j (λo j=>?_) λo j=>?_
     .exact U<|zo bU<|zs (yo aF)<|zo I<|M<|zr<|zi<|zi<|zR<|zB j
     .exact zb<|z2 E xf<|zs (yt)<|zw<|zh<|zh<|zJ _ j
  .exact ze<|zE<|zB j
 .intro _;rcases J with W|G
  .have j:=fN j;refine zi<|zR ?_;cases j;exact bC
  .have j:=fI j;refine zj<|zt ?_;refine jn j (DX u G) [2,5,8023,3042,2048] (λk (a,b,c)=>V3 45 a b c<|k) ?_ ?_
   .rintro⟨_,_,_⟩ j;refine U<|zo xr<|zs (yo aF)<|zo I<|M<|zr ?_;cases j;exact bC
   .refine U<|z4 xf xl xq E<|g3 rfl rfl (λ_=>⟨xf,xl,xf⟩)<|bB j λN w j=>?_;refine wg rfl rfl (λo=>ah.uf (bM w o) wQ (dD rfl o) (dD rfl o))<|bB j λL z j=>?_;refine wg rfl rfl (λo=>ah.Il (q:=1) (off:=160) (bM z o) mL rfl (dD rfl o) rfl (aW rfl))<|zo xw<|M<|zd j (λo j=>?_) λo j=>?_
    .exact zQ aI (S:=p5 xf xl xf xl xf<|aq (sE [.ae 100045 _,.ae 100042 _,.av 42,.bp 45] (yt))<|o1 xf<|aq (sE [.ae 100046 _,.ae 100042 _,.av 42,.bp 46] (yt))<|o1 xf<|aq (sE [.ae 100047 _,.ae 100042 _,.av 42,.bp 47] (yt))<|aN) (h:=zJ (_,_,_) j)
    .exact zk<|zJ (_,_,_) j
theorem VS:C2 180 AB (λr=>.gE (.fl r.1) (.fl r.2.1) (.fl r.2.2.1) (.fl r.2.2.2)):=λG B r j=>(cv [[]] func180) λ_ _=>by
 refine U<|zs (ya 10)<|zs (ya 17)<|z2 I I<|M<|za<|U<|z4 E xn xj E<|zg rfl rfl (λ_=>E)<|bB j λD A j=>zg rfl rfl (λq=>kC [0] 25 (N' _ _ (bM A (cS q))) (bX.cons (Has.m (Has.nil cd) rfl) (bX.cons HA bX.nil)))<|zg rfl rfl (λ_=>xq)<|zo xo<|M<|zx j λq j=>zk<|zt<|U<|zo E<|bB j λo z j=>z4 (kC [0] 26 (Sr _ z)) E aC aB<|zs (ya 27)<|zs (yo ck)<|zo I<|M<|za<|U<|z2 E xN<|M<|zd j (λq j=>?_) λq j=>?_
 .refine za ?_;refine zQ aI (S:=p2 xr xr<|aq (sE (kR 10 [_,_,_,_,_,_,_] (.av 10::(kK 11 6 []))) (yo aF))<|aq (sE (kR 17 [_,_,_,_,_,_,_,_] (.av 17::(kK 18 7 []))) (yo aF))<|p2 I I<|aN) (h:=zt<|zr<|zR ?_);cases j;exact pX
 .refine zk<|zt<|U<|zo xf ?_;refine wo (ah.HR (i:=2) (a:=[(true,160),(true,16)]) (b:=[]) (ls:=[tr o.1.cA.Id,tr o.1.cA.cZ,tr o.1.cA.aw,tr o.1.cA.bz,tr o.1.cA.bb,tr o.1.cA.K,tr o.1.cA.Me,tr o.1.cA.bZ,tr o.1.cA.cN,tr o.1.cA.Open]) cj.h rfl rfl rfl rfl (by kernel_rfl) (ai rfl) rfl (bJ.cons (aW rfl) (bJ.cons (aW rfl) (bJ.cons (aW rfl) (bJ.cons (aW rfl) (bJ.cons (aW rfl) (bJ.cons (aW rfl) (bJ.cons (aW rfl) (bJ.cons (aW rfl) (bJ.cons (aW rfl) (bJ.cons (aW rfl) bJ.nil)))))))))))<|zs (ya 40)<|zs (yo aF)<|zz<|z5 xf xl xf xl xf<|z5 xl xf xl xf xl<|z2 E bU<|zs (ya 51)<|zs (yo aF)<|M<|za<|U<|z2 xr E<|bB j λC u j=>zo (kC [0] 58 (rA _ _ u))<|zo xq<|M<|zd j (λq j=>?_) λq j=>?_
  .refine za ?_;refine zQ aI (S:=p2 xr xr<|aq (sE (kR 10 [_,_,_,_,_,_,_] (.av 10::(kK 11 6 []))) (yo aF))<|aq (sE (kR 17 [_,_,_,_,_,_,_,_] (.av 17::(kK 18 7 []))) (yo aF))<|p2 I I<|aN) (h:=zt<|zr<|zR ?_);cases j;exact pX
  .refine zk<|zt<|za<|U<|zo xR<|bB j λJ w j=>z4 (kC [] 59 (Wp _ w)) E aC aB<|zs (yo aA)<|zo I<|zz<|z2 E xq<|M<|zd j (λq j=>?_) λq j=>?_
   .refine za ?_;refine zQ aI (S:=p3 xr xr E<|aq (sE (kR 10 [_,_,_,_,_,_,_] (.av 10::(kK 11 6 []))) (yo aF))<|aq (sE (kR 17 [_,_,_,_,_,_,_,_] (.av 17::(kK 18 7 []))) (yo aF))<|p2 I I<|aN) (h:=zt<|zr<|zR ?_);cases j;exact pX
   .refine zk<|zt<|za ?_;refine zQ aI (S:=p4 xr xr xf xl<|aq (sE (kR 10 [_,_,_,_,_,_,_] (.av 10::(kK 11 6 []))) (yo aF))<|aq (sE (kR 17 [_,_,_,_,_,_,_,_] (.av 17::(kK 18 7 []))) (yo aF))<|p2 I I<|aN) (h:=zt<|zr ?_);cases j;exact pX
end
end
end Go.Proofs.YthpphdegpinepaaGreat
