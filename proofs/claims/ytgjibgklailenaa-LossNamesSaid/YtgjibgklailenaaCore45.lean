/- Own library, part 45: function values without arguments, by what calls of them answer; none is nil. -/
import Derived.Test.YtgjibgklailenaaCore44
namespace GL
open Go

def FzRel (P : Program) {β : Type} [Rp β] (m : Option (Option β)) (F : Nat → Prop) (v : Value) (w : World) : Prop :=
  match m with
  | none => v = .nilFunc
  | some o => ∃ k cs, v = .func (.func k) #[] cs ∧ enters P k = true ∧ ∀ r, o = some r → ∀ w' : World, w.heap.size ≤ w'.heap.size → (∀ b, b < w.heap.size → F b → w'.heap[b]? = w.heap[b]?) →
      Calls P k cs w' (fun e w'' => ∃ rv, e = .returned rv ∧ Fr NoC w' w'' ∧ Rep (fun b => w'.heap.size ≤ b ∧ b < w''.heap.size) r rv w'')
theorem FzRel.stab {P : Program} {β : Type} [Rp β] {m : Option (Option β)} {F F' : Nat → Prop} {v : Value} {w w' : World} (hs : w.heap.size ≤ w'.heap.size)
    (hk : ∀ b, b < w.heap.size → F b → w'.heap[b]? = w.heap[b]? ∧ F' b) (h : FzRel P m F v w) : FzRel P m F' v w' := by
  cases m with
  | none => exact h
  | some o =>
    obtain ⟨k, cs, hv, he, hc⟩ := h
    refine ⟨k, cs, hv, he, fun r hr w'' hs' hk' => hc r hr w'' (Nat.le_trans hs hs') (fun b hb hF => ?_)⟩
    rw [hk' b (Nat.lt_of_lt_of_le hb hs) (hk b hb hF).2]
    exact (hk b hb hF).1
def Fact.fz (P : Program) {β : Type} [Rp β] (T : List Nat) (m : Option (Option β)) : Fact where
  tags := T
  ids := []
  p := fun g v w => FzRel P m (fun b => g.om b ∈ T) v w
  stab := fun g g' v w w' hk h => FzRel.stab hk.size (fun b hb ht => ⟨(hk.block b hb ht).1, by rw [(hk.block b hb ht).2]; exact ht⟩) h
theorem OneC.fz {P : Program} {β : Type} [Rp β] {T : List Nat} {m : Option (Option β)} : OneC (.fz P T m) := fun g v w h => by
  cases m with
  | none => rw [show v = .nilFunc from h]; exact ⟨rfl, rfl⟩
  | some o => obtain ⟨k, cs, rfl, _⟩ := h; exact ⟨rfl, rfl⟩
theorem FldRel.zf {P : Program} {β : Type} [Rp β] {T : List Nat} {g : Gh} {w : World} {ls : Ls} {cs : List Value} (k : FldRel g w ls cs) : FldRel g w ((false, 1, .fz P T (none : Option (Option β))) :: ls) (.nilFunc :: cs) :=
  ⟨[.nilFunc], cs, rfl, rfl, by simp [Value.oneCell'], fun _ => rfl, rfl, k⟩

/-- What is known of a result, of its classes. -/
def OutRep {β : Type} [Rp β] (out : β → Shape) : Prop := ∀ r T g v w, ((out r).f T).p g v w → Rep (fun b => ∃ c, g.om b ∈ T c) r v w
theorem OutRep.own {α : Type} [R : Rp α] {c : Nat} {ce : Option Nat} {e : TypeId} : OutRep (fun r : List α => Shape.own c ce e r) := fun r T g v w h => by
  have h : OwRel (fun b => g.om b ∈ T c) (fun b => g.om b ∈ oc T ce) e r v w := h
  refine SlRel.rep (fun b hb => ⟨c, hb⟩) (fun b hb => ?_) h.sl
  cases ce with
  | none => cases hb
  | some d => exact ⟨d, hb⟩
theorem OutRep.rep {β : Type} [R : Rp β] {c : Nat} : OutRep (fun r : β => Shape.rep c r) := fun _ _ _ _ _ h => Rep.mono h (fun _ _ hb => ⟨c, hb⟩)

section
variable {X : Cx} {G : List It} {Q : Exit → Act → World → Prop} {dO : Option Nat} {ty : TypeId} {pos : String} {af : Array Edge} {gd : Option (Nat × Bool)}
theorem Has.fzNil {P : Program} {β : Type} [Rp β] : Has G (.const .nilFunc) (.fz P [] (none : Option (Option β))) := fun _ _ _ _ => rfl
theorem Cv.fzM {P : Program} {β : Type} [Rp β] {T T' : List Nat} {m : Option (Option β)} (h : subB T T' = true) : Cv G (.fz P T m) (.fz P T' m) := fun _ _ _ _ _ hp =>
  FzRel.stab (Nat.le_refl _) (fun _ _ hb => ⟨rfl, subB_spec h _ hb⟩) hp
theorem Cv.fz {P : Program} {β : Type} [R : Rp β] {T : List Nat} {o : Option β} {k : FuncId} {cs : List Fact} {pc : List Shape} {out : β → Shape} (hk : enters P k = true) (hcs : CvF G cs (pc.map fun s => s.f (cst T)))
    (hout : OutRep out) (hc : ∀ r, o = some r → Ctr P k pc (out r) []) : Cv G (.fnv k [] cs) (.fz P T (some o)) := fun a w g v hf hp => by
  obtain ⟨us, vs, hv, h1, h2⟩ := hp
  have hus : us = [] := h1
  subst hus
  have h2 := (CvF.all hf _ _ _ hcs h2).all2
  refine ⟨k, vs.toArray, hv, hk, fun r hr w' hs hkp => ?_⟩
  classical
  let g1 : Gh := ⟨fun b => if b < w.heap.size ∧ g.om b ∈ T then 0 else 1, g.ga⟩
  have h0 : All2 [0] g1 w pc vs := All2.later (Nat.le_refl _) (fun _ _ _ => rfl) (fun b hb hT => by simp [g1, hb, hT]) pc vs h2
  have h3 : All2 [0] g1 w' pc vs := by
    refine All2.later (T := [0]) (g := g1) hs (fun b hb h => ?_) (fun b hb h => h) pc vs h0
    simp only [g1, List.mem_singleton] at h
    split at h
    · rename_i h'; exact hkp b hb h'.2
    · cases h
  refine (hc r hr w' g1 [0] vs h3).mono ?_
  rintro e w'' ⟨rv, rfl, hfr, cls, hp⟩
  refine ⟨rv, rfl, hfr, ?_⟩
  have h4 := hp (cst [7]) ⟨fun b => if w'.heap.size ≤ b ∧ b < w''.heap.size then 7 else 8, fun _ => undef⟩ (fun b h5 h6 => by simp [cst, h5, h6]) (fun b c _ _ hcc => by cases hcc)
  refine Rep.mono (hout _ _ _ _ _ h4) (fun b _ hb => ?_)
  obtain ⟨c, hb⟩ := hb
  simp only [cst, List.mem_singleton] at hb
  split at hb
  · assumption
  · cases hb
theorem fz_call {β : Type} {m : Option (Option β)} {r : β} (h : m.bind id = some r) : m = some (some r) := by
  cases m with
  | none => cases h
  | some o => exact congrArg some h
theorem Spec.callFz {β : Type} [R : Rp β] {m : Option (Option β)} {r : β} {y : Operand} {T : List Nat} (t : Nat) (ht : Nat.ble 10 t = true) (hr : m.bind id = some r) (hy : Has G y (.fz X.P T m)) :
    Spec X G ⟨dO, .call { callee := .value y, args := #[], argTypes := #[] }, ty, pos, af, gd⟩ (Fact.rep [t] r) := fun a w g hs hfr hg hf K Q hK => by
  have ht' : 10 ≤ t := by simpa using ht
  have hy := hy a w g hf
  rw [fz_call hr] at hy
  obtain ⟨k, cs, hv, hk, hc⟩ := hy
  have hcall := hc r rfl w (Nat.le_refl _) (fun _ _ _ => rfl)
  have hrun : (execOp a.eval ⟨dO, .call { callee := .value y, args := #[], argTypes := #[] }, ty, pos, af, gd⟩).run X.P w = .ok (.enter k cs) w := by
    unfold execOp
    simp [resolve, Deferred.ofValue, hv, invoke, run_enter hk]
  unfold Oper.wp
  rw [hrun]
  refine Calls.mono hcall ?_
  rintro e w' ⟨v, rfl, hw, hp⟩
  refine hK v w' ⟨hw, GL.tagNew g w.heap.size t, hg.tagNew ht' hw.size hfr.size, fun b hb => by simp [GL.tagNew, hb], fun _ => rfl, Rep.mono hp (fun b _ hb => ?_)⟩
  simp only [GL.tagNew]
  rw [if_neg (by omega)]; simp
theorem run_eqIn_funcv_nil {P : Program} (w : World) (d : Nat) {t : TypeId} {as rs : Array TypeId} {vr : Bool} (h : P.underlying t = some (.func as rs vr)) (k : FuncId) (us cs : Array Value) : (Op.equalIn (d + 1) t (.func (.func k) us cs) .nilFunc).run P w = .ok false w := by
  simp [Op.equalIn, run_underlying h]
theorem run_eq_funcv_nil {P : Program} (w : World) {t : TypeId} {as rs : Array TypeId} {vr : Bool} (h : P.underlying t = some (.func as rs vr)) (k : FuncId) (us cs : Array Value) : (Op.equal t (.func (.func k) us cs) .nilFunc).run P w = .ok false w := run_eqIn_funcv_nil w 9999 h k us cs
theorem Spec.eqlFz {β : Type} [R : Rp β] {m : Option (Option β)} {x : Operand} {t t' : TypeId} {T : List Nat} {as rs : Array TypeId} {vr : Bool} (ht : X.P.underlying t = some (.func as rs vr)) (hx : Has G x (.fz X.P T m)) :
    Spec X G ⟨dO, .binOp .eql t x (.const .nilFunc) t', ty, pos, af, gd⟩ (Fact.rep [] m.isNone) :=
  Spec.pure fun a w g hf => by
    have h := hx a w g hf
    refine ⟨.bool m.isNone, ?_, rep_bool.2 rfl⟩
    cases m with
    | none =>
      have hv : a.eval x = .nilFunc := h
      unfold execOp
      have hr := run_eq_func_nil (P := X.P) w ht none
      have hg := eqGuard_fnv (op := .eql) (t := t) (x := x) (y := .const .nilFunc) none .nilFunc
      simp only [fnVal] at hr hg
      simp [hv, eval_const, hg, binOp, hr]
    | some o =>
      obtain ⟨k, cs, hv, _⟩ := h
      unfold execOp
      have hr := run_eq_funcv_nil (P := X.P) w ht k #[] cs
      have hg : eqGuard .eql t x (.const .nilFunc) (.func (.func k) #[] cs) .nilFunc = Pure.pure () := rfl
      simp [hv, eval_const, hg, binOp, hr]

/-- All parts from i on are such values. -/
def HasZs {β : Type} [Rp β] (P : Program) (G : List It) (T : List Nat) (i : Nat) : List (Option (Option β)) → Prop
  | [] => True
  | y :: l => HasG G i (Fact.fz P T y) ∧ HasZs P G T (i + 1) l
theorem HasZs.nil {β : Type} [Rp β] {P : Program} {T : List Nat} {i : Nat} : HasZs (β := β) P G T i [] := trivial
theorem HasZs.cons {β : Type} [Rp β] {P : Program} {T : List Nat} {i : Nat} {y : Option (Option β)} {l : List (Option (Option β))} (h : HasG G i (Fact.fz P T y)) (k : HasZs P G T (i + 1) l) : HasZs P G T i (y :: l) := ⟨h, k⟩
theorem HasZs.get {β : Type} [Rp β] {P : Program} {T : List Nat} : ∀ {l : List (Option (Option β))} {i k : Nat} {y : Option (Option β)}, HasZs P G T i l → l[k]? = some y → HasG G (i + k) (Fact.fz P T y)
  | [], _, _, _, _, h => by simp at h
  | x :: l, i, 0, y, h, hk => by
    simp at hk
    subst hk
    exact h.1
  | x :: l, i, k + 1, y, h, hk => by
    have := HasZs.get (k := k) h.2 (by simpa using hk)
    rw [show i + 1 + k = i + (k + 1) by omega] at this
    exact this
theorem Spec.loadZ {x : Operand} {e : TypeId} {β : Type} [R : Rp β] {t k : Nat} {ps : Ps} {T : List Nat} {l : List (Option (Option β))} {y : Option (Option β)} (hk : l[k]? = some y) (hty : Ty X.P e Int) (hp : partsV ps l.length = true)
    (hx : Has G x (.pto t k)) (ho : look G (rs t) = some (.obj t ps)) (hf : HasZs X.P G T (t + 1) l) : Spec X G ⟨dO, .load e x, ty, pos, af, gd⟩ (Fact.fz X.P T y) :=
  Spec.loadF (α := Int) (i := k) hty (partsV_at hp (List.getElem?_eq_some_iff.1 hk).1) hx ho (hf.get hk)
theorem BP.consF {pl : List (Nat × Nat)} {ls ls' : Ls} {us : List (Nat × Operand)} {i off : Nat} {x : Operand} {f f0 : Fact} (hl : fldAt ls i = some (off, false, 1, f0)) (hp : pl[i]? = some (off, 1))
    (ho : OneC f) (hx : Has G x f) (k : BP G pl (ls.set i (false, 1, f)) us ls') : BP G pl ls ((i, x) :: us) ls' := fun a w g hf cs h => by
  have hfx := hx a w g hf
  obtain ⟨hc, h1⟩ := ho _ _ _ hfx
  obtain ⟨k1, k2⟩ := FldRel.set ls cs [a.eval x] i off _ _ f0 f h hl rfl (by simpa using h1) hfx
  obtain ⟨cs', k3, k4⟩ := k a w g hf _ k2
  refine ⟨cs', ?_, k4⟩
  rw [← k3]
  simp only [List.map_cons, Instr.fill]
  have hp' : pl.toArray[i]? = some (off, 1) := by simpa using hp
  simp only [hp', hc]
  rw [if_neg (by simp; omega)]
  have h2 := fold_set [a.eval x] off cs.toArray 0 (by simp; omega)
  simp only [Nat.add_zero, List.length_singleton] at h2
  congr 1
  apply Array.toList_inj.1
  simpa using h2
end
end GL
