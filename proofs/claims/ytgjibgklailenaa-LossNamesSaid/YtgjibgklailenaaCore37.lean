/- Own library, part 37: function values without captures, as data. -/
import Derived.Test.YtgjibgklailenaaCore36
namespace GL
open Go

/-- One of some functions, by its place; none is 0. -/
structure FnI (ks : List FuncId) where
  i : Nat
  deriving Inhabited, DecidableEq
def fnAt (ks : List FuncId) : Nat → Option FuncId
  | 0 => none
  | n + 1 => ks[n]?
def fnVal : Option FuncId → Value
  | none => .nilFunc
  | some k => .func (.func k) #[] #[]
instance {ks : List FuncId} : Rp (FnI ks) where
  n := 1
  agg := false
  na := fun _ => rfl
  rel := fun _ x cs _ => cs = [fnVal (fnAt ks x.i)]
  len := fun _ _ _ _ h => by rw [h]; rfl
  one := fun _ x _ _ h => by rw [h]; cases fnAt ks x.i <;> simp [fnVal, Value.oneCell']
  stab := fun _ _ _ _ _ _ _ _ h => h
instance {ks : List FuncId} : Flat (FnI ks) := ⟨fun _ _ _ _ _ _ h => h⟩
theorem rep_fni {ks : List FuncId} {F : Nat → Prop} {x : FnI ks} {v : Value} {w : World} : Rep F x v w ↔ v = fnVal (fnAt ks x.i) := by
  constructor
  · rintro ⟨cs, h, rfl⟩; cases h; rfl
  · rintro rfl; exact ⟨_, rfl, rfl⟩

section
variable {X : Cx} {G : List It} {Q : Exit → Act → World → Prop} {dO : Option Nat} {ty : TypeId} {pos : String} {af : Array Edge} {gd : Option (Nat × Bool)}
theorem Has.fniNil {ks : List FuncId} : Has G (.const .nilFunc) (Fact.rep [] (⟨0⟩ : FnI ks)) := fun _ _ _ _ => rep_fni.2 rfl
theorem Cv.fni {ks : List FuncId} {k : FuncId} {n : Nat} (h : fnAt ks n = some k) : Cv G (.fnv k [] []) (Fact.rep [] (⟨n⟩ : FnI ks)) := fun a w g v hf hp => by
  obtain ⟨us, vs, rfl, h1, h2⟩ := hp
  cases us with
  | nil =>
    cases vs with
    | nil => exact rep_fni.2 (by rw [h]; rfl)
    | cons _ _ => cases h2
  | cons _ _ => cases h1

theorem run_eqIn_func_nil {P : Program} (w : World) (d : Nat) {t : TypeId} {as rs : Array TypeId} {vr : Bool} (h : P.underlying t = some (.func as rs vr)) (o : Option FuncId) : (Op.equalIn (d + 1) t (fnVal o) .nilFunc).run P w = .ok o.isNone w := by
  cases o <;> simp [Op.equalIn, run_underlying h, fnVal]
theorem run_eq_func_nil {P : Program} (w : World) {t : TypeId} {as rs : Array TypeId} {vr : Bool} (h : P.underlying t = some (.func as rs vr)) (o : Option FuncId) : (Op.equal t (fnVal o) .nilFunc).run P w = .ok o.isNone w := run_eqIn_func_nil w 9999 h o
theorem eqGuard_fnv {op : BinOp} {t : TypeId} {x y : Operand} (o : Option FuncId) (v : Value) : eqGuard op t x y (fnVal o) v = pure () := by cases o <;> cases op <;> rfl
theorem Spec.eqlFni {ks : List FuncId} {x : Operand} {t t' : TypeId} {T : List Nat} {as rs : Array TypeId} {vr : Bool} {m : FnI ks} (ht : X.P.underlying t = some (.func as rs vr)) (hx : Has G x (Fact.rep T m)) :
    Spec X G ⟨dO, .binOp .eql t x (.const .nilFunc) t', ty, pos, af, gd⟩ (Fact.rep [] (fnAt ks m.i).isNone) :=
  Spec.pure fun a w g hf => by
    have hv := rep_fni.1 (hx a w g hf)
    refine ⟨.bool (fnAt ks m.i).isNone, ?_, rep_bool.2 rfl⟩
    unfold execOp
    have hr := run_eq_func_nil (P := X.P) w ht (fnAt ks m.i)
    simp [hv, eval_const, eqGuard_fnv, binOp, hr]
/-- A call of one of some functions. -/
theorem Spec.callI {ks : List FuncId} {m : FnI ks} {y : Operand} {pre : List Shape} {out : Shape} {shc : List Nat} {d : Option Nat} {xs : List Operand} {ats : Array TypeId}
    (T : List Nat) (t : Nat) (ht : Nat.ble 10 t = true) {Ty' : List Nat} (hy : Has G y (Fact.rep Ty' m)) (hc : ∃ k, fnAt ks m.i = some k ∧ enters X.P k = true ∧ Ctr X.P k pre out shc) (hx : HasAll G T xs pre) :
    Spec X G ⟨d, .call { callee := .value y, args := xs.toArray, argTypes := ats }, ty, pos, af, gd⟩ (out.f (cT t T shc)) := fun a w g hs hfr hg hf K Q hK => by
  have ht' : 10 ≤ t := by simpa using ht
  obtain ⟨k, hk1, hk, hc⟩ := hc
  have hv : a.eval y = .func (.func k) #[] #[] := by rw [rep_fni.1 (hy a w g hf), hk1]; rfl
  have hcall := hc w g T _ (hx.all2 hf)
  have hrun : (execOp a.eval ⟨d, .call { callee := .value y, args := xs.toArray, argTypes := ats }, ty, pos, af, gd⟩).run X.P w = .ok (.enter k (xs.map a.eval).toArray) w := by
    unfold execOp
    simp [resolve, Deferred.ofValue, hv, invoke, run_enter hk]
  unfold Oper.wp
  rw [hrun]
  refine Calls.mono hcall ?_
  rintro e w' ⟨v, rfl, hw, cls, hp⟩
  refine hK v w' ⟨hw, GL.tagCls g w.heap.size t cls, hg.tagCls ht' hfr.size, fun b hb => by simp [GL.tagCls, hb], fun _ => rfl, ?_⟩
  refine hp _ _ ?_ ?_
  · intro b h1 _
    simp only [GL.tagCls, cT]
    rw [if_neg (Nat.not_lt.2 h1)]
    cases shc.elem (cls b) <;> simp
  · intro b c h1 h2 h3
    simp only [GL.tagCls, cT]
    rw [if_pos h1, show shc.elem c = true by simpa using h3]
    simp [h2]
theorem Spec.callIE {ks : List FuncId} {m : FnI ks} {y : Operand} {pre : List Shape} {out : Shape} {shc : List Nat} {d : Option Nat} {xs : List Operand} {ats : Array TypeId} {f : Fact}
    (T : List Nat) (t : Nat) (ht : Nat.ble 10 t = true) {Ty' : List Nat} (hy : Has G y (Fact.rep Ty' m)) (hc : ∃ k, fnAt ks m.i = some k ∧ enters X.P k = true ∧ Ctr X.P k pre out shc) (hx : HasAll G T xs pre) (hf : out.f (cT t T shc) = f := by rfl) :
    Spec X G ⟨d, .call { callee := .value y, args := xs.toArray, argTypes := ats }, ty, pos, af, gd⟩ f := hf ▸ Spec.callI T t ht hy hc hx
end
end GL
