/- Part of the proof of TopAny. -/
import Derived.Test.YthpphdegpinepaaGreatF
namespace Go.Proofs.YthpphdegpinepaaGreat
open Go GL Tryz
open Go.Proofs.Tryz renaming prog -> H
set_option linter.all false
set_option maxRecDepth 100000
set_option maxHeartbeats 20000000
noncomputable section
theorem Mo:GU H [243,245,247] "freeboard/pace.may" [330,360,402]:=⟨rfl,λa t h=>by
 match a,h with
 |0,h=>cases h;exact⟨330,rfl,λv args w=>by kernel_rfl⟩
 |1,h=>cases h;exact⟨360,rfl,λv args w=>by kernel_rfl⟩
 |2,h=>cases h;exact⟨402,rfl,λv args w=>by kernel_rfl⟩
 |_+3,h=>cases h⟩
theorem XC:GU H [243,245,247] "freeboard/pace.do" [329,359,401]:=⟨rfl,λa t h=>by
 match a,h with
 |0,h=>cases h;exact⟨329,rfl,λv args w=>by kernel_rfl⟩
 |1,h=>cases h;exact⟨359,rfl,λv args w=>by kernel_rfl⟩
 |2,h=>cases h;exact⟨401,rfl,λv args w=>by kernel_rfl⟩
 |_+3,h=>cases h⟩
section
attribute [local irreducible] aO br aH GL.ah GL.au
theorem NX:C1 199 vD (s2 .fl):=λo r a=>(cv [[]] func199) λ_ _=>by refine U ?_;refine ws (au.qZ 10 rfl rfl mF)<|zo I<|M<|za<|U<|z4 E xn xq E<|g3 rfl rfl (λ_=>⟨E,xn,xq⟩)<|zo xw<|M<|zx a λj a=>zk<|zt<|U ?_;refine wo (ah.Wv mF (ai rfl) rfl)<|zo E ?_;refine ws (au.Tc rfl rfl de.h (ai rfl) rfl (ai rfl))<|zz ?_;refine wo (ah.Y5 cj.h (ai rfl) rfl) ?_;refine ws (au.uq rfl cj.h (ai rfl) rfl (ai rfl))<|zo I<|M<|zr ?_;cases a;exact aH.wU rfl (bW.cv (bW.arr cj.h (ai rfl) rfl) Cv.fl) (bW.cv (bW.tmp (ai rfl)) Cv.fl)
theorem Ku:C2 200 xU .fl:=λj o r a=>(cv [[]] func200) λ_ _=>by refine U<|zo I<|zz<|z3 E xh E<|g2 rfl rfl (λ_=>⟨E,xj⟩)<|z2 xw E<|g2 rfl rfl (λ_=>⟨E,xh⟩)<|z2 xw E<|g4 rfl rfl (λ_=>⟨E,E,xz,xj⟩)<|z2 xw I<|M<|zr ?_;cases a;exact az
theorem sm:C3 276 iC (s2 .fl):=λQ J O r j=>(cv [[]] func276) λ_ _=>by
 refine U<|z2 I I<|zz<|zo E<|bB j λL u j=>z4 (kC [0] 10 (NX _ u)) E aC aB ?_;refine ws (au.qZ 11 rfl rfl mF) ?_;refine ws (au.uq rfl cj.h (ai rfl) rfl (ai rfl))<|zo I<|M<|za<|U<|z2 E xq<|M<|zx j λo j=>zk<|zt<|za<|U<|z2 E E<|bB j λD z j=>z2 (kC [] 12 (Ku _ _ z)) xN<|M<|zx j λo j=>zk<|zt<|za<|U<|z2 E E<|M<|zl<|bB j λG B j=>?_;refine lp B [1,8,22,1011] (λk (a,b)=>Z 6 a<|Z 23 b<|k) (λk b=>(.exit 0,Z 6 b<|k)) ?_ ?_
 .rintro⟨_,_⟩ C j;refine U<|zo xi<|M<|za<|zd j (λo j=>?_) λo j=>?_
  .refine zk<|zt<|za<|zl<|U<|z2 E I<|M<|zb<|z4 E E E xy<|bB j λS A j=>?_;refine wo (ah.AM A mF (ai rfl) rfl (ai rfl))<|bB j λK q j=>?_;refine wo ((ah.vy q iz (ai rfl) rfl).flat (T':=[]))<|z3 (eF (β:=Int)) E xk<|bB j λN w j=>?_;refine wo (ah.sg w (ai rfl) (ai rfl)) ?_;exact wo (ah.Ao (ai rfl) (ai rfl))<|zo I<|zw<|zh<|zt<|zb<|z2 xy E<|zw<|zN j
  .exact ze<|zE<|zB j
 .intro _;refine zj<|zt<|U<|z3 E I I<|M<|zr ?_;cases j;exact bC
end
end
end Go.Proofs.YthpphdegpinepaaGreat
