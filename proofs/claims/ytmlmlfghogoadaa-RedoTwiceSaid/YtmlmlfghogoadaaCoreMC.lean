/- Own library, texts 19 to 31 in one. -/
import Derived.Test.YtmlmlfghogoadaaCoreMB
import Derived.Laws.Cover3
import Derived.Lib.SliceRun
import Derived.Laws.StructEq
set_option linter.unusedVariables false
set_option linter.unusedSimpArgs false
set_option linter.unnecessarySimpa false
namespace GL
section
open Go

def AllP (g : Gh) (w : World) : List Fact → List Value → Prop
  | [], vs => vs = []
  | f :: fs, vs => ∃ v vr, vs = v :: vr ∧ f.p g v w ∧ AllP g w fs vr
theorem AllP.stab {g g' : Gh} {w w' : World} : ∀ (fs : List Fact) (vs : List Value), Keeps (fs.flatMap fun f => f.tags) (fs.flatMap fun f => f.ids) g g' w w' → AllP g w fs vs → AllP g' w' fs vs
  | [], _, _, h => h
  | f :: fs, vs, hk, h => by
    obtain ⟨v, vr, h1, h2, h3⟩ := h
    exact ⟨v, vr, h1, f.stab g g' _ w w' ⟨hk.size, fun b hb ht => hk.block b hb (by simp [List.flatMap_cons, ht]), fun t ht => hk.ids t (by simp [List.flatMap_cons, ht])⟩ h2,
      AllP.stab fs vr ⟨hk.size, fun b hb ht => hk.block b hb (by rw [List.flatMap_cons]; exact List.mem_append_right _ ht), fun t ht => hk.ids t (by rw [List.flatMap_cons]; exact List.mem_append_right _ ht)⟩ h3⟩
theorem AllP.app {g : Gh} {w : World} : ∀ (fs fs' : List Fact) (vs vs' : List Value), AllP g w fs vs → AllP g w fs' vs' → AllP g w (fs ++ fs') (vs ++ vs')
  | [], _, vs, _, h, k => by rw [show vs = [] from h]; exact k
  | f :: fs, fs', vs, vs', h, k => by
    obtain ⟨v, vr, rfl, h2, h3⟩ := h
    exact ⟨v, vr ++ vs', rfl, h2, AllP.app fs fs' vr vs' h3 k⟩

/-- A function's value: which one, with what it holds. -/
def Fact.fnv (k : FuncId) (fs cs : List Fact) : Fact where
  tags := (fs ++ cs).flatMap fun f => f.tags
  ids := (fs ++ cs).flatMap fun f => f.ids
  p := fun g v w => ∃ us vs, v = .func (.func k) us.toArray vs.toArray ∧ AllP g w fs us ∧ AllP g w cs vs
  stab := fun g g' v w w' hk h => by
    obtain ⟨us, vs, hv, h1, h2⟩ := h
    rw [List.flatMap_append] at hk
    rw [List.flatMap_append] at hk
    exact ⟨us, vs, hv, h1.stab fs us ⟨hk.size, fun b hb ht => hk.block b hb (List.mem_append_left _ ht), fun t ht => hk.ids t (List.mem_append_left _ ht)⟩,
      h2.stab cs vs ⟨hk.size, fun b hb ht => hk.block b hb (List.mem_append_right _ ht), fun t ht => hk.ids t (List.mem_append_right _ ht)⟩⟩

/-- A fact on a value that another frame keeps. -/
def Fact.cst (v0 : Value) (f : Fact) : Fact where
  tags := f.tags
  ids := f.ids
  p := fun g _ w => f.p g v0 w
  stab := fun g g' _ w w' hk h => f.stab g g' v0 w w' hk h

def VFree (f : Fact) : Prop := ∀ g v v' w, f.p g v w → f.p g v' w
theorem VFree.cst {v0 : Value} {f : Fact} : VFree (.cst v0 f) := fun _ _ _ _ h => h
theorem VFree.at {i : Nat} {f : Fact} : VFree (.at i f) := fun _ _ _ _ h => h
theorem VFree.obj {t : Nat} {ps : Ps} : VFree (.obj t ps) := fun _ _ _ _ h => h
theorem VFree.own {α : Type} [Rp α] {t : Nat} {te : List Nat} {e : TypeId} {l : List α} : VFree (.own t te e l) := fun _ _ _ _ h => h
section
variable {G : List It} {d : Option Nat} {ty : TypeId} {pos : String} {af : Array Edge} {gd : Option (Nat × Bool)}
/-- Facts on a list of operands. -/
def HasF (G : List It) : List Operand → List Fact → Prop
  | [], fs => fs = []
  | x :: xs, fs => ∃ f fr, fs = f :: fr ∧ Has G x f ∧ HasF G xs fr
theorem HasF.nil : HasF G [] [] := rfl
theorem HasF.cons {x : Operand} {xs : List Operand} {f : Fact} {fs : List Fact} (h : Has G x f) (k : HasF G xs fs) : HasF G (x :: xs) (f :: fs) := ⟨f, fs, rfl, h, k⟩
theorem HasF.all : ∀ (xs : List Operand) (fs : List Fact), HasF G xs fs → ∀ {a : Act} {w : World} {g : Gh}, Facts G g a w → AllP g w fs (xs.map a.eval)
  | [], fs, h, _, _, _, _ => by rw [show fs = [] from h]; rfl
  | x :: xs, fs, h, a, w, g, hf => by
    obtain ⟨f, fr, rfl, h1, h2⟩ := h
    exact ⟨_, _, rfl, h1 a w g hf, HasF.all xs fr h2 hf⟩

theorem Spec.makeFunc {X : Cx} {k : FuncId} {xs ys : List Operand} {fs cs : List Fact} {xa ya : Array Operand} (hxa : xa = xs.toArray) (hya : ya = ys.toArray) (h1 : HasF G xs fs) (h2 : HasF G ys cs)
    (hrun : ∀ (us vs : Array Value) w, (Instr.makeFunc (.func k) us vs).run X.P w = .ok (.func (.func k) us vs) w) : Spec X G ⟨d, .makeFunc (.func k) xa ya, ty, pos, af, gd⟩ (.fnv k fs cs) :=
  Spec.pure fun a w g hf => by
    refine ⟨.func (.func k) (xs.map a.eval).toArray (ys.map a.eval).toArray, ?_, _, _, rfl, h1.all xs fs hf, h2.all ys cs hf⟩
    unfold execOp
    simp [hxa, hya, hrun]

/-- A call that enters function k, with facts on all that it is handed. -/
def CallOk (X : Cx) (G : List It) (o : Oper) (k : FuncId) (FA : List Fact) : Prop :=
  ∀ a w g, Facts G g a w → ∃ vals, (execOp a.eval o).run X.P w = .ok (.enter k vals.toArray) w ∧ AllP g w FA vals
theorem CallOk.fn {X : Cx} {k : FuncId} {xs : List Operand} {fs : List Fact} {ats : Array TypeId} (hk : enters X.P k = true) (h : HasF G xs fs) :
    CallOk X G ⟨d, .call { callee := .value (.func k), args := xs.toArray, argTypes := ats }, ty, pos, af, gd⟩ k fs := fun a w g hf => by
  refine ⟨xs.map a.eval, ?_, h.all xs fs hf⟩
  unfold execOp
  simp [resolve, Deferred.ofValue, Act.eval, invoke, run_enter hk]
theorem CallOk.val {X : Cx} {k : FuncId} {x : Operand} {xs : List Operand} {us fs cs : List Fact} {ats : Array TypeId} (hk : enters X.P k = true) (hx : Has G x (.fnv k us cs)) (h : HasF G xs fs) :
    CallOk X G ⟨d, .call { callee := .value x, args := xs.toArray, argTypes := ats }, ty, pos, af, gd⟩ k (us ++ (fs ++ cs)) := fun a w g hf => by
  obtain ⟨uv, cv, hv, h1, h2⟩ := hx a w g hf
  refine ⟨uv ++ (xs.map a.eval ++ cv), ?_, h1.app _ _ _ _ ((h.all xs fs hf).app _ _ _ _ h2)⟩
  unfold execOp
  simp [resolve, Deferred.ofValue, hv, invoke, run_enter hk]

/-- Items for what a call is handed. -/
def argI (i : Nat) : List Fact → List It → List It
  | [], G => G
  | f :: fs, G => .fact i f :: argI (i + 1) fs G

/-- What the walk of a call goes on with, out of the caller's frame. -/
def Carry (G : List It) (u : Nat → Value) (Gc : List It) : Prop := ∀ a w g a', Facts G g a w → (∀ s, a.tmps.getD s undef = u s) → Facts Gc g a' w
theorem Carry.nil {u : Nat → Value} : Carry G u [] := fun _ _ _ _ _ _ => facts_nil
theorem Carry.slot {u : Nat → Value} {Gc : List It} {D s : Nat} {f : Fact} (h : Has G (.tmp s) f) (k : Carry G u Gc) : Carry G u (.fact (D + s) (.cst (u s) f) :: Gc) := fun a w g a' hf hu =>
  Facts.ghost (k a w g a' hf hu) (fun _ => by
    have := h a w g hf
    show f.p g (u s) w
    rw [← hu s]; exact this)
theorem Carry.keep {u : Nat → Value} {Gc : List It} {s : Nat} {f : Fact} (h : look G s = some f) (hv : VFree f) (k : Carry G u Gc) : Carry G u (.fact s f :: Gc) := fun a w g a' hf hu =>
  Facts.ghost (k a w g a' hf hu) (fun _ => hv _ _ _ _ (hf s f h))

/-- What is to be shown at the end of a call that is walked where it stands. -/
def InR {S : Type} (X : Cx) (J : S → List It) (F : S → Prop) (d : Option Nat) (u : Nat → Value) : Ending → World → Prop := fun e w' =>
  ∃ v, e = .returned v ∧ ∃ p, F p ∧ ∀ a0 : Act, a0.tmps.size = X.n → a0.defers = X.ds → (∀ s, a0.tmps.getD s undef = u s) → Env X (J p) (a0.put d v) w'

theorem facts_argI {G : List It} {g : Gh} {a : Act} {w : World} : ∀ (fs : List Fact) (vs : List Value) (i : Nat), Facts G g a w → AllP g w fs vs → (∀ j v, vs[j]? = some v → a.tmps.getD (i + j) undef = v) → Facts (argI i fs G) g a w
  | [], _, _, h, _, _ => h
  | f :: fs, vs, i, h, hp, hv => by
    obtain ⟨v, vr, rfl, h1, h2⟩ := hp
    intro s f' hl
    rcases lookK_nil_spec hl with ⟨rfl, rfl⟩ | ⟨_, hl⟩
    · have := hv 0 v rfl
      simp only [Nat.add_zero] at this
      rw [this]; exact h1
    · exact facts_argI fs vr (i + 1) h h2 (fun j x hj => by rw [show i + 1 + j = i + (j + 1) by omega]; exact hv (j + 1) x (by simpa using hj)) s f' hl

theorem AllP.len {g : Gh} {w : World} : ∀ (fs : List Fact) (vs : List Value), AllP g w fs vs → vs.length = fs.length
  | [], vs, h => by rw [show vs = [] from h]; rfl
  | f :: fs, vs, h => by
    obtain ⟨v, vr, rfl, _, h2⟩ := h
    simp [AllP.len fs vr h2]

theorem Walk.inline {S : Type} {X : Cx} {Q : Exit → Act → World → Prop} {ops : Array Oper} {rest : List Oper} {o : Oper} (J : S → List It) (F : S → Prop) (Gc : (Nat → Value) → List It) {k : FuncId} {fn : Func} {c : Code} {n : Nat} {FA : List Fact}
    (hg : o.guard = none) (hf : X.P.funcs[k]? = some fn) (hb : fn.body = some c) (hn : fn.ntmps = n) (hl : Nat.ble FA.length n = true) (hc : CallOk X G o k FA) (hcar : ∀ u, Carry G u (Gc u))
    (hbody : ∀ u : Nat → Value, CWalk ⟨X.P, n, X.w0, X.C, X.om0, none, []⟩ (argI 0 FA (Gc u)) c (bodyPost X.P fn (InR X J F o.dst u)))
    (hcont : ∀ p, F p → Walk X ops Q (J p) rest) (hnd : ndB o.op = true := by rfl) : Walk X ops Q G (o :: rest) := fun a w env =>
  wpListIn_plain hg fun K hK => wpIn_of hnd <| by
    obtain ⟨g, hge, hfa⟩ := env.facts
    obtain ⟨vals, hrun, hall⟩ := hc a w g hfa
    have hlen := AllP.len FA vals hall
    have hl' : FA.length ≤ n := by simpa using hl
    unfold Oper.wp
    rw [hrun]
    refine Calls.mono (calls_of_wp hf hb (R := InR X J F o.dst (fun s => a.tmps.getD s undef)) (wpIn_wide (n := 0).1 (hbody (fun s => a.tmps.getD s undef) _ w ?_))) ?_
    · subst hn
      refine ⟨by simp; omega, rfl, env.fr, g, ⟨hge.ok, hge.om⟩, ?_⟩
      refine facts_argI FA vals 0 (hcar _ a w g _ hfa (fun _ => rfl)) hall (fun j v hj => ?_)
      have hjl : j < vals.length := (List.getElem?_eq_some_iff.1 hj).1
      simp only [Nat.zero_add]
      rw [Array.getD_eq_getD_getElem?, Array.getElem?_append_left (by simpa using hjl)]
      simp [hj]
    · rintro e w' ⟨v, rfl, p, hp, hE⟩
      exact hK _ _ (hcont p hp _ _ (hE a env.size env.defers (fun _ => rfl)))

/-- A fact on a value that another frame keeps. -/
def HasC (G : List It) (v0 : Value) (f : Fact) : Prop := ∀ a w g, Facts G g a w → f.p g v0 w
theorem HasC.s {v0 : Value} {f : Fact} {s : Nat} (h : look G s = some (.cst v0 f)) : HasC G v0 f := fun _ _ _ hf => hf _ _ h
theorem HasC.cv {v0 : Value} {f f' : Fact} (h : HasC G v0 f) (k : Cv G f f') : HasC G v0 f' := fun a w g hf => k a w g _ hf (h a w g hf)
theorem Has.cst {v0 : Value} {f : Fact} {x : Operand} (h : HasC G v0 f) : Has G x (.cst v0 f) := h

/-- Back in the caller's frame. -/
def Low (G : List It) (u : Nat → Value) (d : Option Nat) (f0 : Fact) (J : List It) : Prop :=
  ∀ a w g (a0 : Act) v, Facts G g a w → f0.p g v w → (∀ s, a0.tmps.getD s undef = u s) → (∀ e, d = some e → e < a0.tmps.size) → Facts J g (a0.put d v) w
theorem Low.nil {u : Nat → Value} {f0 : Fact} : Low G u d f0 [] := fun _ _ _ _ _ _ _ _ _ => facts_nil
theorem Low.res {u : Nat → Value} {f0 : Fact} {e : Nat} {J : List It} (k : Low G u (some e) f0 J) : Low G u (some e) f0 (.fact e f0 :: J) := fun a w g a0 v hf h0 hu hd s f hl => by
  rcases lookK_nil_spec hl with ⟨rfl, rfl⟩ | ⟨_, hl⟩
  · rw [Act.getD_put (hd _ rfl), if_pos rfl]; exact h0
  · exact k a w g a0 v hf h0 hu hd s f hl
def neD : Option Nat → Nat → Bool
  | none, _ => true
  | some e, s => !(Nat.beq e s)
theorem Low.slot {u : Nat → Value} {f0 f : Fact} {s : Nat} {J : List It} (hs : neD d s = true) (h : HasC G (u s) f) (k : Low G u d f0 J) : Low G u d f0 (.fact s f :: J) := fun a w g a0 v hf h0 hu hd s' f' hl => by
  rcases lookK_nil_spec hl with ⟨rfl, rfl⟩ | ⟨_, hl⟩
  · have hv : (a0.put d v).tmps.getD s undef = u s := by
      cases d with
      | none => exact hu s
      | some e =>
        rw [Act.getD_put (hd _ rfl), if_neg (fun he => by subst he; simp [neD] at hs)]
        exact hu s
    rw [hv]; exact h a w g hf
  · exact k a w g a0 v hf h0 hu hd s' f' hl
theorem Low.keep {u : Nat → Value} {f0 f : Fact} {s : Nat} {J : List It} (h : ∀ a w g v, Facts G g a w → f.p g v w) (k : Low G u d f0 J) : Low G u d f0 (.fact s f :: J) := fun a w g a0 v hf h0 hu hd =>
  Facts.ghost (k a w g a0 v hf h0 hu hd) (fun _ => h a w g _ hf)
variable {S : Type} {X : Cx} {J : S → List It} {F : S → Prop} {u : Nat → Value} {n : Nat} {fn : Func}
theorem low_env {f0 : Fact} {a : Act} {w : World} {v : Value} {p : S} {g : Gh} (hd : ∀ e, d = some e → e < X.n) (env : Env ⟨X.P, n, X.w0, X.C, X.om0, none, []⟩ G a w) (hge : GhE ⟨X.P, n, X.w0, X.C, X.om0, none, []⟩ w g) (hf : Facts G g a w) (h0 : f0.p g v w) (hl : Low G u d f0 (J p))
    (a0 : Act) (hs : a0.tmps.size = X.n) (hdf : a0.defers = X.ds) (hu : ∀ s, a0.tmps.getD s undef = u s) : Env X (J p) (a0.put d v) w :=
  ⟨by cases d <;> simp [Act.put, hs], by cases d <;> exact hdf, env.fr, g, ⟨hge.ok, hge.om⟩, hl a w g a0 v hf h0 hu (fun e he => by rw [hs]; exact hd e he)⟩
def dOk (d : Option Nat) (n : Nat) : Bool := match d with
  | none => true
  | some e => Nat.blt e n
theorem dOk_spec {n : Nat} (h : dOk d n = true) : ∀ e, d = some e → e < n := fun e he => by subst he; simpa [dOk, Nat.blt_eq] using h

theorem Leaf.in1 {f0 : Fact} {r : ResultVar} (p : S) (hF : F p) (hd : dOk d X.n = true) (hr : fn.results = #[r]) (h : HasR X.P G r f0) (hl : Low G u d f0 (J p)) :
    Leaf ⟨X.P, n, X.w0, X.C, X.om0, none, []⟩ G (bodyPost X.P fn (InR X J F d u)) .ret := fun a w e => by
  obtain ⟨g, hg, hf⟩ := e.facts
  obtain ⟨v, h1, h2⟩ := h a w g hf
  refine ⟨e.defers, v, ?_, v, rfl, p, hF, fun a0 hs hdf hu => low_env (dOk_spec hd) e hg hf h2 hl a0 hs hdf hu⟩
  rw [results_eq, hr]
  simp [Array.mapM_eq_mapM_toList, List.mapM_cons, h1]
theorem Leaf.in0 {f0 : Fact} (p : S) (hF : F p) (hd : dOk d X.n = true) (hr : fn.results = #[]) (h : ∀ g w, f0.p g (.tuple #[]) w) (hl : Low G u d f0 (J p)) :
    Leaf ⟨X.P, n, X.w0, X.C, X.om0, none, []⟩ G (bodyPost X.P fn (InR X J F d u)) .ret := fun a w e => by
  obtain ⟨g, hg, hf⟩ := e.facts
  refine ⟨e.defers, .tuple #[], ?_, .tuple #[], rfl, p, hF, fun a0 hs hdf hu => low_env (dOk_spec hd) e hg hf (h g w) hl a0 hs hdf hu⟩
  rw [results_eq, hr]
  simp
/-- The same where the body ends without a return. -/
theorem Leaf.inN {Gx : List It} (h : Leaf ⟨X.P, n, X.w0, X.C, X.om0, none, []⟩ Gx (bodyPost X.P fn (InR X J F d u)) .ret) : Leaf ⟨X.P, n, X.w0, X.C, X.om0, none, []⟩ Gx (bodyPost X.P fn (InR X J F d u)) .normal := h
end
end
end GL

namespace GL
section
open Go

def Fact.nilv : Fact where
  tags := []
  ids := []
  p := fun _ v _ => v = .slice none 0 0
  stab := fun _ _ _ _ _ _ h => h
theorem Has.nilv {G : List It} : Has G (.const (.slice none 0 0)) .nilv := fun _ _ _ _ => rfl
theorem Cv.nil {G : List It} {α : Type} [Rp α] {T : List Nat} : Cv G .nilv (Fact.rep T ([] : List α)) := fun _ _ _ v _ h => by
  rw [show v = .slice none 0 0 from h]; exact rep_nil
theorem FldRel.zn {g : Gh} {w : World} {ls : Ls} {cs : List Value} (k : FldRel g w ls cs) : FldRel g w ((false, 1, .nilv) :: ls) (.slice none 0 0 :: cs) :=
  ⟨[.slice none 0 0], cs, rfl, rfl, by simp [Value.oneCell'], fun _ => rfl, rfl, k⟩
theorem FldRel.zr {g : Gh} {w : World} {ls : Ls} {cs : List Value} {v : Value} {α : Type} [R : Rp α] {y : α} {T : List Nat} (h : ∀ F w, R.rel F y [v] w) (k : FldRel g w ls cs) (hag : R.agg = false := by rfl) : FldRel g w ((false, 1, Fact.rep T y) :: ls) (v :: cs) :=
  ⟨[v], cs, rfl, rfl, fun c hc => R.one _ _ _ w (h (fun _ => False) w) c hc, fun _ => rfl, ⟨[v], h _ w, by rw [hag]⟩, k⟩

section
variable {X : Cx} {G : List It} {Q : Exit → Act → World → Prop} {ops : Array Oper} {rest : List Oper}
end

/-- Whether a list's slice is nil: if so, the list is empty. -/
def Fact.nilq {α : Type} (l : List α) : Fact where
  tags := []
  ids := []
  p := fun _ v _ => ∃ b : Bool, v = .bool b ∧ (b = true → l = [])
  stab := fun _ _ _ _ _ _ h => h
def scB.of (n : Int) : UInt8 := UInt8.ofNat (n % 256).toNat
def scW.of (n : Int) : UInt32 := UInt32.ofNat (n % 4294967296).toNat
section
variable {X : Cx} {G : List It} {Q : Exit → Act → World → Prop} {d : Option Nat} {ty : TypeId} {pos : String} {af : Array Edge} {gd : Option (Nat × Bool)}
theorem Spec.eqlNil {x : Operand} {α : Type} [Rp α] {T : List Nat} {l : List α} {t e t' : TypeId} (ht : X.P.underlying t = some (.slice e)) (hx : Has G x (Fact.rep T l)) :
    Spec X G ⟨d, .binOp .eql t x (.const (.slice none 0 0)) t', ty, pos, af, gd⟩ (.nilq l) :=
  Spec.pure fun a w g hf => by
    obtain ⟨ad, c, hv, _, hnil, _⟩ := rep_list (hx a w g hf)
    refine ⟨.bool ad.isNone, ?_, ad.isNone, rfl, fun h => ?_⟩
    · unfold execOp
      simp [hv, eval_const, eqGuard_at_slice, binOp, run_equal_slice_nil w t e _ _ _ ht]
    · cases ad with
      | none => exact (hnil rfl).1
      | some _ => cases h
theorem CWalk.condNil {t : Nat} {α : Type} {l : List α} {x y : Code} (hb : look G t = some (.nilq l)) (ht : l = [] → CWalk X G x Q) (hf : CWalk X G y Q) : CWalk X G (.cond (.tmp t) x y) Q := fun a w e => by
  obtain ⟨g, _, h2⟩ := e.facts
  obtain ⟨b, hv, hl⟩ := h2 t _ hb
  exact wpIn_cond_split (show a.eval (.tmp t) = .bool b from hv) (fun h => ht (hl h) a w e) (fun h => hf a w e)
theorem Spec.minI {x y : Operand} {T T' : List Nat} {m n : Int} {ts : Array TypeId} (hx : Has G x (Fact.rep T m)) (hy : Has G y (Fact.rep T' n)) :
    Spec X G ⟨d, .call { callee := .builtin .min, args := #[x, y], argTypes := ts }, ty, pos, af, gd⟩ (Fact.rep [] (min m n)) :=
  Spec.pure fun a w g hf => by
    have h1 := rep_int.1 (hx a w g hf)
    have h2 := rep_int.1 (hy a w g hf)
    refine ⟨.int .i64 (min m n), ?_, rep_int.2 rfl⟩
    unfold execOp
    have : (if n < m then n else m) = min m n := by omega
    simp [resolve, invoke, builtin, h1, h2, Builtin.min_, Builtin.min2, this]
end
end
end GL

namespace GL
section
open Go

instance {α β : Type} [A : Rp α] [B : Rp β] [Fa : Flat α] [Fb : Flat β] : Flat (α × β) := ⟨fun F F' x cs w w' h => by
  obtain ⟨c1, c2, h1, h2, h3⟩ := h
  exact ⟨c1, c2, h1, Fa.flat _ _ _ _ _ _ h2, Fb.flat _ _ _ _ _ _ h3⟩⟩

def fieldB (P : Program) (fs : Array Field) (i off n : Nat) : Bool :=
  match fs[i]? with
  | some f => Nat.beq f.offset off && (match P.info? f.type with
    | some inf => Nat.beq inf.size n
    | none => false)
  | none => false
theorem FieldTy.of {P : Program} {s : TypeId} {fs : Array Field} {i off n : Nat} (hu : P.underlying s = some (.struct fs)) (h : fieldB P fs i off n = true) (hp : Nat.blt 0 n = true) : FieldTy P s i off n := by
  unfold fieldB at h
  cases hf : fs[i]? with
  | none => simp [hf] at h
  | some f =>
    cases hi : P.info? f.type with
    | none => simp [hf, hi] at h
    | some inf =>
      simp only [hf, hi, Bool.and_eq_true] at h
      exact ⟨⟨fs, f, inf, hu, hf, Nat.eq_of_beq_eq_true h.1, hi, Nat.eq_of_beq_eq_true h.2⟩, by simpa [Nat.blt_eq] using hp⟩

section
variable {X : Cx} {G : List It} {Q : Exit → Act → World → Prop} {ops : Array Oper} {rest : List Oper} {d : Nat} {dO : Option Nat} {ty : TypeId} {pos : String} {af : Array Edge} {gd : Option (Nat × Bool)}

theorem Step.lit0 {α : Type} [R : Rp α] (t : Nat) {ts e : TypeId} (ht : Nat.ble 10 t = true) (hd : Nat.blt d X.n = true) (hty : OwnTy X.P ts e α) :
    Step X G ⟨some d, .buildSlice ts 0 #[], ty, pos, af, none⟩ [.fact d (.isv t), .fact (rs t) (.own t [] e ([] : List α)), .killId t] := fun G' hsub a w env K Q hK => by
    have ht' : 10 ≤ t := by simpa using ht
    have hd' : d < X.n := by simpa [Nat.blt_eq] using hd
    obtain ⟨g, hg, hf'⟩ := env.facts
    have hf := hsub a w g hf'
    have hrun : (execOp a.eval ⟨some d, .buildSlice ts 0 #[], ty, pos, af, none⟩).run X.P w = .ok (.value (.slice (some ⟨w.heap.size, 0, none⟩) 0 0)) (w.alloc (.cells #[] e)) := by
      unfold execOp
      have h0 : Array.range 0 = #[] := by apply Array.toList_inj.1; simp
      simp [Instr.buildSlice, run_underlying hty.und, rt_sizeOf hty.el, Instr.fill, newRow, h0]
    unfold Oper.wp
    rw [hrun]
    refine hK _ _ ?_
    have hb : ∀ b, b < w.heap.size → (w.alloc (.cells #[] e)).heap[b]? = w.heap[b]? := fun b hb => RowKit.Below.heap_alloc w _ b hb
    refine ⟨by simp [Act.put, env.size], env.defers, Fr.own env.fr hg ht' (.inr trivial) rfl rfl rfl (by simp) (fun b hb' _ => hb b hb'),
      ghOwn g w.heap.size t (.slice (some ⟨w.heap.size, 0, none⟩) 0 0), hg.own ht' env.fr.size, ?_⟩
    refine Facts.put (by rw [env.size]; exact hd') ?_ (by simp [Fact.isv, ghOwn])
    refine Facts.ghost ?_ (fun v => ⟨[], ?_, rfl, ?_⟩)
    · exact facts_killedId hf' (by simp) (fun b hb' => hb b hb') (fun b hb => by simp [ghOwn, hb]) (fun s hs => by simp [ghOwn, hs])
    · refine ⟨by simp, .inr ⟨w.heap.size, 0, #[], by simp [ghOwn], Nat.zero_le _, heap_alloc_new w _, Nat.le_refl _, Nat.zero_le _, by simp, by simp⟩⟩
    · simp only [ghOwn, if_true]
      intro b hb'
      simp only [Value.ownBlock, Option.some.injEq] at hb'
      rw [if_neg (by omega)]

/-! ### small arrays, as structs -/
structure SmTy (P : Program) (t e : TypeId) (n m : Nat) : Prop where
  und : P.underlying t = some (.array n e)
  sz' : (P.info? e).map (·.size) = some m
theorem SmTy.sz {P : Program} {t e : TypeId} {n m : Nat} (h : SmTy P t e n m) : ∃ i, P.info? e = some i ∧ i.size = m := by simpa using h.sz'
theorem Spec.idxC {x : Operand} {ts e : TypeId} {n m o t o' : Nat} {i : Nat} (h : SmTy X.P ts e n m) (hi : Nat.blt i n = true) (hx : Has G x (.pto t o)) (ho : o + i * m = o' := by rfl) : Spec X G ⟨dO, .indexAddr ts x (.const (.int .i64 (i : Int))), ty, pos, af, gd⟩ (.pto t o') :=
  Spec.pure fun a w g hf => by
    subst ho
    obtain ⟨b, hb, hv⟩ := hx a w g hf
    obtain ⟨inf, h1, h2⟩ := h.sz
    have hi' : i < n := by simpa [Nat.blt_eq] using hi
    refine ⟨.pointer (some ⟨b, o + i * m, none⟩), ?_, b, hb, rfl⟩
    unfold execOp
    simp only [hv, eval_const, Instr.indexAt, asIntOf, Sem.run_bind, Sem.run_pure, Result.andThen_ok, run_underlying h.und, Instr.sureAddr, Sem.run_map]
    rw [if_pos (by omega)]
    simp only [Go.sizeOf, typeInfo, h1, h2]
    simp [h1, h2, Go.Addr.add_lit]
structure BuildTyA (P : Program) (t : TypeId) (pl : List (Nat × Nat)) (ls : Ls) : Prop where
  h' : ∃ e n m zc, ((P.info? t).bind (·.zero)).map (·.cells) = some zc.toArray ∧ P.underlying t = some (.array n e) ∧ (P.info? e).map (·.size) = some m ∧ (∀ g w, FldRel g w ls zc) ∧ pl = (List.range n).map fun i => (i * m, m)
theorem BuildTyA.h {P : Program} {t : TypeId} {pl : List (Nat × Nat)} {ls : Ls} (b : BuildTyA P t pl ls) : ∃ it e n ie zv zc, P.info? t = some it ∧ P.underlying t = some (.array n e) ∧ it.zero = some zv ∧ P.info? e = some ie ∧ zv.cells = zc.toArray ∧ (∀ g w, FldRel g w ls zc) ∧
    ∀ i x, pl[i]? = some x → x = (i * ie.size, ie.size) := by
  obtain ⟨e, n, m, zc, h1, h2, h3, h4, h5⟩ := b.h'
  simp only [Option.map_eq_some_iff, Option.bind_eq_some_iff] at h1 h3
  obtain ⟨zv, ⟨it, h6, h7⟩, h8⟩ := h1
  obtain ⟨ie, h9, h10⟩ := h3
  refine ⟨it, e, n, ie, zv, zc, h6, h2, h7, h9, h8, h4, fun i x hx => ?_⟩
  rw [h5, List.getElem?_map] at hx
  simp only [Option.map_eq_some_iff] at hx
  obtain ⟨j, hj, rfl⟩ := hx
  have := List.getElem?_eq_some_iff.1 hj
  obtain ⟨hlt, hj2⟩ := this
  simp at hj2
  rw [h10, hj2]
end
end
end GL

namespace GL
section
open Go

theorem fill_mono {p q : Nat → Option (Nat × Nat)} (h : ∀ i x, p i = some x → q i = some x) : ∀ (us : List (Nat × Value)) (cs r : Array Value), Instr.fill p cs us = some r → Instr.fill q cs us = some r
  | [], _, _, hr => hr
  | (i, v) :: us, cs, r, hr => by
    simp only [Instr.fill] at hr ⊢
    cases hp : p i with
    | none => simp [hp] at hr
    | some x =>
      rw [h i x hp]
      simp only [hp] at hr
      simp only
      split at hr
      · cases hr
      · rename_i hne
        rw [if_neg hne]
        exact fill_mono h us _ r hr

section
variable {X : Cx} {G : List It} {d : Option Nat} {ty : TypeId} {pos : String} {af : Array Edge} {gd : Option (Nat × Bool)}
theorem Spec.buildA {t : TypeId} {pl : List (Nat × Nat)} {ls ls' : Ls} {us : List (Nat × Operand)} {ua : Array (Nat × Operand)} (ht : BuildTyA X.P t pl ls) (hu : ua = us.toArray) (h : BP G pl ls us ls') :
    Spec X G ⟨d, .build t ua, ty, pos, af, gd⟩ (.flds ls') :=
  Spec.pure fun a w g hf => by
    obtain ⟨it, e, n, ie, zv, zc, h1, h2, h3, h3', h4, h5, h6⟩ := ht.h
    obtain ⟨cs', k1, k2⟩ := h a w g hf zc (h5 g w)
    refine ⟨.agg cs'.toArray, ?_, cs', rfl, k2⟩
    unfold execOp
    have hb : X.P.built t ((ua.map fun (i, x) => (i, a.eval x)).toList) = some cs'.toArray := by
      unfold Program.built
      simp only [h1, h2, h3, h3', h4]
      have := fill_mono (q := fun i => some (i * ie.size, ie.size)) (fun i x hx => by rw [h6 i x (by simpa using hx)]) _ _ _ k1
      rw [← this, hu]
      simp
    simp only [Sem.run_bind, run_build w t _ _ hb, Result.andThen_ok]
    simp
end
end
end GL

namespace GL
section
open Go

/-- A slice whose elements lean on other memory. -/
def Fact.sl {α : Type} [R : Rp α] (T Te : List Nat) (l : List α) : Fact where
  tags := T ++ Te
  ids := []
  p := fun g v w => SlRel (fun b => g.om b ∈ T) (fun b => g.om b ∈ Te) l v w
  stab := fun g g' v w w' hk h => SlRel.stab hk.size
    (fun b hb ht => ⟨(hk.block b hb (List.mem_append_left _ ht)).1, by rw [(hk.block b hb (List.mem_append_left _ ht)).2]; exact ht⟩)
    (fun b hb ht => ⟨(hk.block b hb (List.mem_append_right _ ht)).1, by rw [(hk.block b hb (List.mem_append_right _ ht)).2]; exact ht⟩) h

/-- A slice whose memory is its holder's own. -/
def OwRel {α : Type} [R : Rp α] (F Fe : Nat → Prop) (e : TypeId) (l : List α) (v : Value) (w : World) : Prop :=
  ∃ xs, w.ownsRow 0 e R.n v l.length xs ∧ RelL Fe l xs w ∧ ∀ b, v.ownBlock = some b → F b
theorem OwRel.stab {α : Type} [R : Rp α] {F Fe F' Fe' : Nat → Prop} {e : TypeId} {l : List α} {v : Value} {w w' : World} (hs : w.heap.size ≤ w'.heap.size)
    (hk : ∀ b, b < w.heap.size → F b → w'.heap[b]? = w.heap[b]? ∧ F' b) (hk' : ∀ b, b < w.heap.size → Fe b → w'.heap[b]? = w.heap[b]? ∧ Fe' b) (h : OwRel F Fe e l v w) : OwRel F' Fe' e l v w' := by
  obtain ⟨xs, h1, h2, h3⟩ := h
  refine ⟨xs, ⟨h1.1, ?_⟩, RelL.stab hs hk' l xs h2, fun b hb => (hk b (h1.lt b hb).2 (h3 b hb)).2⟩
  rcases h1.2 with hn | ⟨b, cap, cur, hv, h0, hb, rest⟩
  · exact .inl hn
  · refine .inr ⟨b, cap, cur, hv, h0, ?_, rest⟩
    have hlt : b < w.heap.size := (Array.getElem?_eq_some_iff.1 hb).1
    rw [(hk b hlt (h3 b (by rw [hv]; rfl))).1]
    exact hb
theorem OwRel.sl {α : Type} [R : Rp α] {F Fe : Nat → Prop} {e : TypeId} {l : List α} {v : Value} {w : World} (h : OwRel F Fe e l v w) : SlRel F Fe l v w := by
  obtain ⟨xs, hown, hrel, htag⟩ := h
  rcases hown.2 with ⟨hn, h0⟩ | ⟨b, cap, cur, hv', _, hb, hnc, hcm, hcs, htake⟩
  · have : l = [] := List.eq_nil_of_length_eq_zero h0
    subst this
    exact ⟨none, 0, hn, Nat.le_refl _, fun _ => ⟨rfl, rfl⟩, fun _ h => by cases h⟩
  · refine ⟨some ⟨b, 0, none⟩, cap, hv', hnc, fun h => (by cases h), ?_⟩
    intro ad had i x hx
    cases had
    have hlt : b < w.heap.size := (Array.getElem?_eq_some_iff.1 hb).1
    obtain ⟨es, he, hc⟩ := RelL.get l xs hrel i x hx
    refine ⟨htag b (by rw [hv']; rfl), hlt, es, fun j u hj => ?_, he⟩
    have h1 := hc j u hj
    rw [Addr.add_add, Go.Addr.add_lit]
    simp only [Nat.zero_add]
    refine ⟨?_, frozen_of_row w b _ cur e hb⟩
    rw [cell_of_row w b _ cur e (0, 0) hb]
    rw [← htake] at h1
    rw [List.getElem?_take] at h1
    split at h1
    · simpa using h1
    · cases h1
theorem OwRel.nil {α : Type} [R : Rp α] {F Fe : Nat → Prop} {e : TypeId} {w : World} : OwRel F Fe e ([] : List α) (.slice none 0 0) w :=
  ⟨[], World.ownsRow_nil w 0 e R.n, rfl, fun b hb => by cases hb⟩

def Fact.ow {α : Type} [R : Rp α] (T te : List Nat) (e : TypeId) (l : List α) : Fact where
  tags := T ++ te
  ids := []
  p := fun g v w => OwRel (fun b => g.om b ∈ T) (fun b => g.om b ∈ te) e l v w
  stab := fun g g' v w w' hk h => OwRel.stab hk.size
    (fun b hb ht => ⟨(hk.block b hb (List.mem_append_left _ ht)).1, by rw [(hk.block b hb (List.mem_append_left _ ht)).2]; exact ht⟩)
    (fun b hb ht => ⟨(hk.block b hb (List.mem_append_right _ ht)).1, by rw [(hk.block b hb (List.mem_append_right _ ht)).2]; exact ht⟩) h

section
variable {G : List It} {α : Type} [R : Rp α] {T T' te te' : List Nat} {e : TypeId} {l : List α}
theorem Cv.owSl : Cv G (Fact.ow T te e l) (Fact.sl T te l) := fun _ _ _ _ _ h => OwRel.sl h
theorem Cv.slRep (h1 : subB T T' = true) (h2 : subB te T' = true) : Cv G (Fact.sl T te l) (Fact.rep T' l) := fun _ _ _ _ _ h => SlRel.rep (fun _ hb => subB_spec h1 _ hb) (fun _ hb => subB_spec h2 _ hb) h
theorem Cv.owM (h1 : subB T T' = true) (h2 : subB te te' = true) : Cv G (Fact.ow T te e l) (Fact.ow T' te' e l) := fun _ _ _ _ _ h =>
  OwRel.stab (Nat.le_refl _) (fun _ _ hb => ⟨rfl, subB_spec h1 _ hb⟩) (fun _ _ hb => ⟨rfl, subB_spec h2 _ hb⟩) h
theorem Cv.owF [Fl : Flat α] (h1 : subB T T' = true) : Cv G (Fact.ow T te e l) (Fact.ow T' te' e l) := fun _ _ _ _ _ h => by
  obtain ⟨xs, h2, h3, h4⟩ := h
  exact ⟨xs, h2, RelL.flat l xs h3, fun b hb => subB_spec h1 _ (h4 b hb)⟩
theorem Cv.nilOw : Cv G .nilv (Fact.ow T te e ([] : List α)) := fun _ _ _ v _ h => by rw [show v = .slice none 0 0 from h]; exact OwRel.nil
theorem Cv.isvOw {t : Nat} (hrs : look G (rs t) = some (.own t te e l)) : Cv G (.isv t) (Fact.ow [t] te e l) := fun a w g v hf hv => by
  obtain ⟨xs, h1, h2, h3⟩ := hf _ _ hrs
  rw [show v = g.ga t from hv]
  exact ⟨xs, h1, h2, fun b hb => by simp [h3 b hb]⟩
end

/-! ### shapes of results -/
def oc (T : Tg) : Option Nat → List Nat
  | none => []
  | some c => T c
def Shape.sl {α : Type} [Rp α] (c : Nat) (ce : Option Nat) (l : List α) : Shape where
  f := fun T => Fact.sl (T c) (oc T ce) l
  tg := fun T t h => (List.mem_append.1 h).elim (fun h => ⟨c, h⟩) (fun h => by cases ce with
    | none => cases h
    | some d => exact ⟨d, h⟩)
  idn := fun _ => rfl
  re := fun T T' g g' v w hk h => SlRel.stab (Nat.le_refl _) (fun b hb ht => ⟨rfl, hk c b hb ht⟩) (fun b hb ht => ⟨rfl, by cases ce with
    | none => cases ht
    | some d => exact hk d b hb ht⟩) h
def Shape.own {α : Type} [Rp α] (c : Nat) (ce : Option Nat) (e : TypeId) (l : List α) : Shape where
  f := fun T => Fact.ow (T c) (oc T ce) e l
  tg := fun T t h => (List.mem_append.1 h).elim (fun h => ⟨c, h⟩) (fun h => by cases ce with
    | none => cases h
    | some d => exact ⟨d, h⟩)
  idn := fun _ => rfl
  re := fun T T' g g' v w hk h => OwRel.stab (Nat.le_refl _) (fun b hb ht => ⟨rfl, hk c b hb ht⟩) (fun b hb ht => ⟨rfl, by cases ce with
    | none => cases ht
    | some d => exact hk d b hb ht⟩) h
abbrev Ss := List (Bool × Nat × Shape)
def ssL (T : Tg) (ss : Ss) : Ls := ss.map fun l => (l.1, l.2.1, l.2.2.f T)
theorem ssL_re {T T' : Tg} {g g' : Gh} {w : World} (hk : ∀ c b, b < w.heap.size → g.om b ∈ T c → g'.om b ∈ T' c) : ∀ (ss : Ss) (cs : List Value), FldRel g w (ssL T ss) cs → FldRel g' w (ssL T' ss) cs
  | [], _, h => h
  | s :: ss, cs, h => by
    obtain ⟨c1, c2, h1, h2, h3, h3', h4, h5⟩ := h
    exact ⟨c1, c2, h1, h2, h3, h3', s.2.2.re T T' g g' _ w hk h4, ssL_re hk ss c2 h5⟩
def Shape.flds (ss : Ss) : Shape where
  f := fun T => Fact.flds (ssL T ss)
  tg := fun T t h => by
    obtain ⟨x, hx, ht⟩ := List.mem_flatMap.1 h
    obtain ⟨s, hs, rfl⟩ := List.mem_map.1 hx
    exact s.2.2.tg T t ht
  idn := fun T => by
    show ((ssL T ss).flatMap fun l => l.2.2.ids) = []
    rw [List.flatMap_eq_nil_iff]
    intro x hx
    obtain ⟨s, hs, rfl⟩ := List.mem_map.1 hx
    exact s.2.2.idn T
  re := fun T T' g g' v w hk h => by
    obtain ⟨cs, hv, hr⟩ := h
    exact ⟨cs, hv, ssL_re hk ss cs hr⟩

/-! ### taken for one's own -/
def Ad (X : Cx) (G G' : List It) : Prop := ∀ a w, Env X G a w → Env X G' a w
section
variable {X : Cx} {G G' : List It} {Q : Exit → Act → World → Prop} {ops : Array Oper} {rest : List Oper}
theorem CWalk.ad {c : Code} (h : Ad X G G') (k : CWalk X G' c Q) : CWalk X G c Q := fun a w e => k a w (h a w e)
theorem Walk.ad (h : Ad X G G') (k : Walk X ops Q G' rest) : Walk X ops Q G rest := fun a w e => k a w (h a w e)
theorem Leaf.ad {e : Exit} (h : Ad X G G') (k : Leaf X G' Q e) : Leaf X G Q e := fun a w env => k a w (h a w env)
end

def killTs : List Nat → List It → List It
  | [], G => G
  | t :: ts, G => .kill t :: killTs ts G
theorem lookK_killTs : ∀ (ts : List Nat) (G : List It) (K I : List Nat) (s : Nat) (f : Fact), lookK (killTs ts G) K I s = some f → ∃ K', (∀ x, x ∈ K → x ∈ K') ∧ (∀ x, x ∈ ts → x ∈ K') ∧ lookK G K' I s = some f
  | [], _, K, _, _, _, h => ⟨K, fun _ h => h, (fun _ h => nomatch h), h⟩
  | t :: ts, G, K, I, s, f, h => by
    simp only [killTs, lookK] at h
    obtain ⟨K', h1, h2, h3⟩ := lookK_killTs ts G (t :: K) I s f h
    exact ⟨K', fun x hx => h1 x (List.mem_cons_of_mem _ hx), fun x hx => by
      rcases List.mem_cons.1 hx with rfl | hx
      · exact h1 _ (by simp)
      · exact h2 x hx, h3⟩
theorem facts_retag {G : List It} {g g' : Gh} {a : Act} {w : World} {t : Nat} {T : List Nat} (h : Facts G g a w) (hom : ∀ b, g.om b ∉ T → g'.om b = g.om b) (hga : ∀ s, s ≠ t → g'.ga s = g.ga s) : Facts (.killId t :: killTs T G) g' a w := fun s f hl => by
  have hl1 : lookK (killTs T G) [] [t] s = some f := hl
  obtain ⟨K', _, h2, h3⟩ := lookK_killTs T G [] [t] s f hl1
  have hd := lookK_disj G K' [t] s f h3
  have h4 := disj_spec hd.2 (show t ∈ [t] by simp)
  have hl2 : look G s = some f := lookK_sub G K' [] [t] [] s f (by simp) (by simp) h3
  refine f.stab g g' _ w w ⟨Nat.le_refl _, fun b _ ht => ⟨rfl, hom b (fun hT => disj_spec hd.1 (h2 _ hT) ht)⟩, fun s' hs' => hga s' (fun he => h4 (he ▸ hs'))⟩ (h s f hl2)

/-- Elements that stay as they are where blocks of tags T get another tag. -/
def ElT {α : Type} [R : Rp α] (T te : List Nat) : Prop := ∀ (x : α) (es : List Value) (g g' : Gh) (w : World), (∀ b, g.om b ∉ T → g'.om b = g.om b) → R.rel (fun b => g.om b ∈ te) x es w → R.rel (fun b => g'.om b ∈ te) x es w
theorem ElT.flat {α : Type} [R : Rp α] [Fl : Flat α] {T te : List Nat} : ElT (α := α) T te := fun _ _ _ _ _ _ h => Fl.flat _ _ _ _ _ _ h
theorem ElT.tags {α : Type} [R : Rp α] {T te : List Nat} (h : disj te T = true) : ElT (α := α) T te := fun x es g g' w hg hr =>
  R.stab _ _ x es w w (Nat.le_refl _) (fun b _ hb => ⟨rfl, by rw [hg b (fun hT => disj_spec h hT hb)]; exact hb⟩) hr
theorem ElT.rel {α : Type} [R : Rp α] {T te : List Nat} (h : ElT (α := α) T te) {g g' : Gh} {w : World} (hg : ∀ b, g.om b ∉ T → g'.om b = g.om b) : ∀ (l : List α) (cs : List Value), RelL (fun b => g.om b ∈ te) l cs w → RelL (fun b => g'.om b ∈ te) l cs w
  | [], _, k => k
  | x :: l, cs, k => by
    obtain ⟨c1, c2, k1, k2, k3⟩ := k
    exact ⟨c1, c2, k1, h x c1 g g' w hg k2, ElT.rel h hg l c2 k3⟩

section
variable {X : Cx} {G : List It} {α : Type} [R : Rp α] {T te : List Nat} {e : TypeId} {l : List α}
def all10 : List Nat → Bool
  | [] => true
  | t :: ts => Nat.ble 10 t && all10 ts
theorem all10_spec {ts : List Nat} (h : all10 ts = true) {t : Nat} (ht : t ∈ ts) : 10 ≤ t := by
  induction ts with
  | nil => cases ht
  | cons u ts ih =>
    simp only [all10, Bool.and_eq_true] at h
    rcases List.mem_cons.1 ht with rfl | ht
    · simpa using h.1
    · exact ih h.2 ht

/-- The ghost in which a value has a name, and its block that name for a tag. -/
def ghRe (g : Gh) (t : Nat) (v : Value) (o : Option Nat) : Gh := ⟨fun b => if o = some b then t else g.om b, fun u => if u = t then v else g.ga u⟩
theorem GhE.re {w : World} {g : Gh} (h : GhE X w g) {t : Nat} {v : Value} {o : Option Nat} (ht : 10 ≤ t) (ho : ∀ b, o = some b → 10 ≤ g.om b) : GhE X w (ghRe g t v o) := by
  have hold : ∀ b, b < X.w0.heap.size → ¬ o = some b := fun b hb he => by have := ho b he; have := h.ok.old b hb; omega
  refine ⟨⟨fun b hb => ?_, fun b hb hb' => ?_⟩, fun b hb => ?_⟩
  · simp only [ghRe]; rw [if_neg (hold b hb)]; exact h.ok.old b hb
  · simp only [ghRe]; split
    · exact ht
    · exact h.ok.new b hb hb'
  · simp only [ghRe]; rw [if_neg (hold b hb)]; exact h.om b hb

theorem ow_re {g : Gh} {v : Value} {w : World} {t : Nat} (hel : ElT (α := α) T te) (h : OwRel (fun b => g.om b ∈ T) (fun b => g.om b ∈ te) e l v w) :
    (∀ b, v.ownBlock = some b → g.om b ∈ T) ∧ ∃ xs, w.ownsRow 0 e R.n v l.length xs ∧ RelL (fun b => (ghRe g t v v.ownBlock).om b ∈ te) l xs w ∧ ∀ b, v.ownBlock = some b → (ghRe g t v v.ownBlock).om b = t := by
  obtain ⟨xs, h1, h2, h3⟩ := h
  refine ⟨h3, xs, h1, hel.rel (fun b hb => ?_) l xs h2, fun b hb => if_pos hb⟩
  exact if_neg (fun he => hb (h3 b he))
theorem Ad.ow {s : Nat} {f : Fact} (t : Nat) (ht : Nat.ble 10 t = true) (hT : all10 T = true) (hel : ElT (α := α) T te) (hs : look G s = some f) (hc : Cv G f (Fact.ow T te e l)) :
    Ad X G (.fact s (.isv t) :: .fact (rs t) (.own t te e l) :: .killId t :: killTs T G) := fun a w env => by
  obtain ⟨g, hg, hf⟩ := env.facts
  obtain ⟨h0, xs, h1, h2, h3⟩ := ow_re (t := t) hel (hc a w g _ hf (hf s _ hs))
  have hga : (ghRe g t (a.tmps.getD s undef) (a.tmps.getD s undef).ownBlock).ga t = a.tmps.getD s undef := if_pos rfl
  refine ⟨env.size, env.defers, env.fr, ghRe g t (a.tmps.getD s undef) (a.tmps.getD s undef).ownBlock, hg.re (by simpa using ht) (fun b hb => all10_spec hT (h0 b hb)), ?_⟩
  have hb : Facts (.fact (rs t) (.own t te e l) :: .killId t :: killTs T G) (ghRe g t (a.tmps.getD s undef) (a.tmps.getD s undef).ownBlock) a w :=
    Facts.ghost (facts_retag hf (fun b hb => if_neg (fun he => hb (h0 b he))) (fun _ hs => if_neg hs)) (fun v => ⟨xs, by rw [hga]; exact h1, h2, by rw [hga]; exact h3⟩)
  intro s' f' hl
  rcases lookK_nil_spec hl with ⟨rfl, rfl⟩ | ⟨_, hl⟩
  · exact hga.symm
  · exact hb s' f' hl
theorem Ad.owF {i : Nat} {f : Fact} (t : Nat) (hti : Nat.beq i t = false) (ht : Nat.ble 10 t = true) (hT : all10 T = true) (hel : ElT (α := α) T te) (hs : look G (rs i) = some (.at i f)) (hc : Cv G f (Fact.ow T te e l)) :
    Ad X G (.fact (rs i) (.at i (.isv t)) :: .fact (rs t) (.own t te e l) :: .killId t :: killTs T G) := fun a w env => by
  have hti' : i ≠ t := fun h => by subst h; simp at hti
  obtain ⟨g, hg, hf⟩ := env.facts
  obtain ⟨h0, xs, h1, h2, h3⟩ := ow_re (t := t) hel (hc a w g (g.ga i) hf (show f.p g (g.ga i) w from hf (rs i) _ hs))
  have hga : (ghRe g t (g.ga i) (g.ga i).ownBlock).ga t = g.ga i := if_pos rfl
  refine ⟨env.size, env.defers, env.fr, ghRe g t (g.ga i) (g.ga i).ownBlock, hg.re (by simpa using ht) (fun b hb => all10_spec hT (h0 b hb)), ?_⟩
  refine Facts.ghost (Facts.ghost (facts_retag hf (fun b hb => if_neg (fun he => hb (h0 b he))) (fun _ hs => if_neg hs)) (fun v => ⟨xs, by rw [hga]; exact h1, h2, by rw [hga]; exact h3⟩)) (fun v => ?_)
  show (ghRe g t (g.ga i) (g.ga i).ownBlock).ga i = (ghRe g t (g.ga i) (g.ga i).ownBlock).ga t
  rw [hga]; exact if_neg hti'

end
end
end GL

namespace GL
section
open Go

theorem All2.app {T : List Nat} {g : Gh} {w : World} : ∀ (ss ss' : List Shape) (vs vs' : List Value), All2 T g w ss vs → All2 T g w ss' vs' → All2 T g w (ss ++ ss') (vs ++ vs')
  | [], _, [], _, _, k => k
  | s :: ss, ss', v :: vs, vs', h, k => ⟨h.1, All2.app ss ss' vs vs' h.2 k⟩
  | [], _, _ :: _, _, h, _ => h.elim
  | _ :: _, _, [], _, h, _ => h.elim
theorem AllP.all2 {T : List Nat} {g : Gh} {w : World} : ∀ (ss : List Shape) (vs : List Value), AllP g w (ss.map fun s => s.f (cst T)) vs → All2 T g w ss vs
  | [], vs, h => by rw [show vs = [] from h]; trivial
  | s :: ss, vs, h => by
    obtain ⟨v, vr, rfl, h1, h2⟩ := h
    exact ⟨h1, AllP.all2 ss vr h2⟩
theorem All2.later {T : List Nat} {g : Gh} {w w' : World} (hs : w.heap.size ≤ w'.heap.size) (hk : ∀ b, b < w.heap.size → g.om b ∈ T → w'.heap[b]? = w.heap[b]?) {g' : Gh} {T' : List Nat}
    (ht : ∀ b, b < w'.heap.size → g.om b ∈ T → g'.om b ∈ T') : ∀ (ss : List Shape) (vs : List Value), All2 T g w ss vs → All2 T' g' w' ss vs
  | [], [], _ => trivial
  | s :: ss, v :: vs, h => ⟨s.re (cst T) (cst T') g g' v w' (fun _ b hb h => ht b hb h) (s.keep hs (fun b hb ⟨_, h⟩ => hk b hb h) h.1), All2.later hs hk ht ss vs h.2⟩
  | [], _ :: _, h => h.elim
  | _ :: _, [], h => h.elim

/-- A function's value, by what calls of it answer: r; its arguments' shapes by x. -/
def FnRel (P : Program) {A β : Type} [Rp β] (pre : A → List Shape) (f : A → Option β) (F : Nat → Prop) (v : Value) (w : World) : Prop :=
  ∃ k us cs, v = .func (.func k) us cs ∧ enters P k = true ∧ ∀ (x : A) (r : β), f x = some r → ∀ (w' : World) (g' : Gh) (T : List Nat) (xs : List Value), w.heap.size ≤ w'.heap.size →
    (∀ b, b < w.heap.size → F b → w'.heap[b]? = w.heap[b]?) → All2 T g' w' (pre x) xs → Calls P k (us ++ xs.toArray ++ cs) w' (fun e w'' => ∃ rv, e = .returned rv ∧ Fr NoC w' w'' ∧ Rep (fun _ => False) r rv w'')
theorem FnRel.stab {P : Program} {A β : Type} [Rp β] {pre : A → List Shape} {f : A → Option β} {F F' : Nat → Prop} {v : Value} {w w' : World} (hs : w.heap.size ≤ w'.heap.size)
    (hk : ∀ b, b < w.heap.size → F b → w'.heap[b]? = w.heap[b]? ∧ F' b) (h : FnRel P pre f F v w) : FnRel P pre f F' v w' := by
  obtain ⟨k, us, cs, hv, he, hc⟩ := h
  refine ⟨k, us, cs, hv, he, fun x r hr w'' g' T xs hs' hk' ha => hc x r hr w'' g' T xs (Nat.le_trans hs hs') (fun b hb hF => ?_) ha⟩
  rw [hk' b (Nat.lt_of_lt_of_le hb hs) (hk b hb hF).2]
  exact (hk b hb hF).1

def Fact.fn (P : Program) {A β : Type} [Rp β] (pre : A → List Shape) (T : List Nat) (f : A → Option β) : Fact where
  tags := T
  ids := []
  p := fun g v w => FnRel P pre f (fun b => g.om b ∈ T) v w
  stab := fun g g' v w w' hk h => FnRel.stab hk.size (fun b hb ht => ⟨(hk.block b hb ht).1, by rw [(hk.block b hb ht).2]; exact ht⟩) h
def Shape.fn (P : Program) {A β : Type} [Rp β] (pre : A → List Shape) (c : Nat) (f : A → Option β) : Shape where
  f := fun T => Fact.fn P pre (T c) f
  tg := fun _ _ h => ⟨c, h⟩
  idn := fun _ => rfl
  re := fun T T' g g' v w hk h => FnRel.stab (Nat.le_refl _) (fun b hb ht => ⟨rfl, hk c b hb ht⟩) h

def pre1 {α : Type} [Rp α] (x : α) : List Shape := [.rep 0 x]
/-- Facts, each turned. -/
def CvF (G : List It) : List Fact → List Fact → Prop
  | [], [] => True
  | f :: fs, m :: ms => Cv G f m ∧ CvF G fs ms
  | _, _ => False
theorem CvF.nil {G : List It} : CvF G [] [] := trivial
theorem CvF.cons {G : List It} {f f' : Fact} {fs ms : List Fact} (h : Cv G f f') (k : CvF G fs ms) : CvF G (f :: fs) (f' :: ms) := ⟨h, k⟩
theorem CvF.all {G : List It} {a : Act} {w : World} {g : Gh} (hf : Facts G g a w) : ∀ (fs ms : List Fact) (vs : List Value), CvF G fs ms → AllP g w fs vs → AllP g w ms vs
  | [], [], _, _, h => h
  | f :: fs, m :: ms, vs, hc, h => by
    obtain ⟨v, vr, rfl, h1, h2⟩ := h
    exact ⟨v, vr, rfl, hc.1 a w g v hf h1, CvF.all hf fs ms vr hc.2 h2⟩
  | [], _ :: _, _, hc, _ => hc.elim
  | _ :: _, [], _, hc, _ => hc.elim

theorem Cv.fn {G : List It} {P : Program} {A β : Type} [R : Rp β] [Fl : Flat β] {pre : A → List Shape} {T : List Nat} {f : A → Option β} {k : FuncId} {fs cs : List Fact} {pu pc : List Shape} {shc : List Nat} (hk : enters P k = true)
    (hu : CvF G fs (pu.map fun s => s.f (cst T))) (hcs : CvF G cs (pc.map fun s => s.f (cst T)))
    (hc : ∀ (x : A) (r : β), f x = some r → Ctr P k (pu ++ (pre x ++ pc)) (.fl r) shc) : Cv G (.fnv k fs cs) (Fact.fn P pre T f) := fun a w g v hf hp => by
  obtain ⟨us, vs, hv, h1, h2⟩ := hp
  have h1 := (CvF.all hf _ _ _ hu h1).all2
  have h2 := (CvF.all hf _ _ _ hcs h2).all2
  refine ⟨k, us.toArray, vs.toArray, hv, hk, fun x r hr w' g' T' xs hs hkp ha => ?_⟩
  classical
  let g2 : Gh := ⟨fun b => if (b < w.heap.size ∧ g.om b ∈ T) ∨ g'.om b ∈ T' then 0 else 1, g.ga⟩
  have e1 : ∀ ss vs, All2 T g w ss vs → All2 [0] g2 w' ss vs := fun ss vs h => by
    let g1 : Gh := ⟨fun b => if b < w.heap.size ∧ g.om b ∈ T then 0 else 1, g.ga⟩
    have h0 : All2 [0] g1 w ss vs := All2.later (Nat.le_refl _) (fun _ _ _ => rfl) (fun b hb hT => by simp [g1, hb, hT]) ss vs h
    refine All2.later (T := [0]) (g := g1) hs (fun b hb h => ?_) (fun b hb h => ?_) ss vs h0
    · simp only [g1, List.mem_singleton] at h
      split at h
      · rename_i h'; exact hkp b hb h'.2
      · cases h
    · simp only [g1, List.mem_singleton] at h
      split at h
      · rename_i h'; simp [g2, h']
      · cases h
  have e2 : All2 [0] g2 w' (pre x) xs := All2.later (Nat.le_refl _) (fun _ _ _ => rfl) (fun b _ h => by simp [g2, h]) _ _ ha
  have hall := All2.app _ _ _ _ (e1 pu us h1) (All2.app _ _ _ _ e2 (e1 pc vs h2))
  have harr : (us ++ (xs ++ vs)).toArray = us.toArray ++ xs.toArray ++ vs.toArray := by apply Array.toList_inj.1; simp
  have := hc x r hr w' g2 [0] _ hall
  rw [harr] at this
  refine this.mono ?_
  rintro e w'' ⟨rv, rfl, hfr, cls, hp⟩
  obtain ⟨cc, h3, h4⟩ := hp (cst [0]) ⟨fun _ => 0, fun _ => undef⟩ (fun b _ _ => by simp [cst]) (fun b c _ _ _ => by simp [cst])
  exact ⟨rv, rfl, hfr, cc, Fl.flat _ _ _ _ _ _ h3, h4⟩

section
variable {X : Cx} {G : List It} {d : Option Nat} {ty : TypeId} {pos : String} {af : Array Edge} {gd : Option (Nat × Bool)}
theorem Spec.callFn {A β : Type} [R : Rp β] {pre : A → List Shape} {f : A → Option β} {y : Operand} {xs : List Operand} {x : A} {r : β} {ats : Array TypeId} {T : List Nat} (T' : List Nat) (t : Nat) (ht : Nat.ble 10 t = true)
    (hr : f x = some r) (hy : Has G y (Fact.fn X.P pre T f)) (hx : HasAll G T' xs (pre x)) :
    Spec X G ⟨d, .call { callee := .value y, args := xs.toArray, argTypes := ats }, ty, pos, af, gd⟩ (Fact.rep [] r) := fun a w g hs hfr hg hf K Q hK => by
  have ht' : 10 ≤ t := by simpa using ht
  obtain ⟨k, us, cs, hv, hk, hc⟩ := hy a w g hf
  have hcall := hc x r hr w g T' _ (Nat.le_refl _) (fun _ _ _ => rfl) (hx.all2 hf)
  have hrun : (execOp a.eval ⟨d, .call { callee := .value y, args := xs.toArray, argTypes := ats }, ty, pos, af, gd⟩).run X.P w = .ok (.enter k (us ++ (xs.map a.eval).toArray ++ cs)) w := by
    unfold execOp
    simp [resolve, Deferred.ofValue, hv, invoke, run_enter hk]
  unfold Oper.wp
  rw [hrun]
  refine Calls.mono hcall ?_
  rintro e w' ⟨v, rfl, hw, hp⟩
  exact hK v w' ⟨hw, GL.tagNew g w.heap.size t, hg.tagNew ht' hw.size hfr.size, fun b hb => by simp [GL.tagNew, hb], fun _ => rfl, Rep.mono hp (fun _ _ h => h.elim)⟩
theorem Has.func {k : FuncId} : Has G (.func k) (.fnv k [] []) := fun _ _ _ _ => ⟨[], [], rfl, rfl, rfl⟩
end
end
end GL

namespace GL
section
open Go

/-! ### lists of what is known, compared -/
def Dom (H H' : List It) : Prop := ∀ K I s f, lookK H' K I s = some f → (∀ g v w, f.p g v w) ∨ lookK H K I s = some f
theorem Dom.refl {H : List It} : Dom H H := fun _ _ _ _ h => .inr h
theorem Dom.trans {A B C : List It} (h : Dom A B) (k : Dom B C) : Dom A C := fun K I s f hl => by
  rcases k K I s f hl with h1 | h1
  · exact .inl h1
  · exact h K I s f h1
theorem Dom.sub {H H' : List It} (h : Dom H H') : Sub H H' := fun a w g hf s f hl => by
  rcases h [] [] s f hl with h1 | h1
  · exact h1 _ _ _
  · exact hf s f h1
theorem Dom.cons1 {H H' : List It} (x : It) (h : Dom H H') : Dom (x :: H) (x :: H') := fun K I s f hl => by
  cases x with
  | fact d f0 =>
    simp only [lookK] at hl ⊢
    cases hb : Nat.beq d s with
    | true => rw [hb] at hl; exact .inr hl
    | false => rw [hb] at hl; exact h K I s f hl
  | kill t => exact h (t :: K) I s f hl
  | killId t => exact h K (t :: I) s f hl
theorem Dom.app {H H' : List It} (h : Dom H H') : ∀ x : List It, Dom (x ++ H) (x ++ H')
  | [] => h
  | a :: x => Dom.cons1 a (Dom.app h x)

def weakI : List It → List It
  | [] => []
  | .fact d _ :: l => .fact d Fact.top :: weakI l
  | .kill t :: l => .kill t :: weakI l
  | .killId t :: l => .killId t :: weakI l
theorem Dom.weak1 {H H' : List It} (h : Dom H H') : ∀ x : List It, Dom H (weakI x ++ H')
  | [] => h
  | .fact d f0 :: x => fun K I s f hl => by
    simp only [weakI, List.cons_append, lookK] at hl
    cases hb : Nat.beq d s with
    | true =>
      simp only [hb, cond_true] at hl
      left
      cases hc : (disj Fact.top.tags K && disj Fact.top.ids I) with
      | true => simp only [hc, cond_true, Option.some.injEq] at hl; subst hl; exact fun _ _ _ => trivial
      | false => simp [hc] at hl
    | false => simp only [hb, cond_false] at hl; exact Dom.weak1 h x K I s f hl
  | .kill t :: x => fun K I s f hl => by
    rcases Dom.weak1 h x (t :: K) I s f hl with h1 | h1
    · exact .inl h1
    · exact .inr (lookK_sub H _ _ _ _ s f (fun _ hx => List.mem_cons_of_mem _ hx) (fun _ hx => hx) h1)
  | .killId t :: x => fun K I s f hl => by
    rcases Dom.weak1 h x K (t :: I) s f hl with h1 | h1
    · exact .inl h1
    · exact .inr (lookK_sub H _ _ _ _ s f (fun _ hx => hx) (fun _ hx => List.mem_cons_of_mem _ hx) h1)
theorem Dom.weak2 {H H' : List It} (h : Dom H H') : ∀ x : List It, Dom (x ++ H) (weakI x ++ H')
  | [] => h
  | .fact d f0 :: x => fun K I s f hl => by
    simp only [weakI, List.cons_append, lookK] at hl ⊢
    cases hb : Nat.beq d s with
    | true =>
      simp only [hb, cond_true] at hl
      left
      cases hc : (disj Fact.top.tags K && disj Fact.top.ids I) with
      | true => simp only [hc, cond_true, Option.some.injEq] at hl; subst hl; exact fun _ _ _ => trivial
      | false => simp [hc] at hl
    | false => simp only [hb, cond_false] at hl ⊢; exact Dom.weak2 h x K I s f hl
  | .kill t :: x => fun K I s f hl => Dom.weak2 h x (t :: K) I s f hl
  | .killId t :: x => fun K I s f hl => Dom.weak2 h x K (t :: I) s f hl

def comm1 : It → It → Bool
  | .fact d _, .fact d' _ => !(Nat.beq d d')
  | .fact _ f, .kill t => !(f.tags.elem t)
  | .fact _ f, .killId t => !(f.ids.elem t)
  | .kill t, .fact _ f => !(f.tags.elem t)
  | .killId t, .fact _ f => !(f.ids.elem t)
  | _, _ => true
theorem disj_cons {l K : List Nat} {t : Nat} (h : l.elem t = false) : disj l (t :: K) = disj l K := by
  have h' : t ∉ l := by simpa using h
  clear h
  induction l with
  | nil => rfl
  | cons a l ih =>
    simp only [List.mem_cons, not_or] at h'
    simp only [disj, ih h'.2]
    have : (t :: K).elem a = K.elem a := by
      rw [Bool.eq_iff_iff]
      simp [Ne.symm h'.1]
    rw [this]
theorem Dom.swap1 {H : List It} (a b : It) (h : comm1 a b = true) : Dom (a :: b :: H) (b :: a :: H) := fun K I s f hl => by
  right
  cases a with
  | fact d fa => cases b with
    | fact d' fb =>
      simp only [comm1, Bool.not_eq_true'] at h
      simp only [lookK] at hl ⊢
      cases h1 : Nat.beq d s with
      | true =>
        cases h2 : Nat.beq d' s with
        | true =>
          have e1 := Nat.eq_of_beq_eq_true h1
          have e2 := Nat.eq_of_beq_eq_true h2
          subst e1 e2; simp at h
        | false => simp only [h1, h2, cond_false, cond_true] at hl ⊢; exact hl
      | false =>
        cases h2 : Nat.beq d' s with
        | true => simp only [h1, h2, cond_false, cond_true] at hl ⊢; exact hl
        | false => simp only [h1, h2, cond_false] at hl ⊢; exact hl
    | kill t =>
      simp only [comm1, Bool.not_eq_true'] at h
      simp only [lookK] at hl ⊢
      cases h1 : Nat.beq d s with
      | true => simp only [h1, cond_true, disj_cons h] at hl ⊢; exact hl
      | false => simp only [h1, cond_false] at hl ⊢; exact hl
    | killId t =>
      simp only [comm1, Bool.not_eq_true'] at h
      simp only [lookK] at hl ⊢
      cases h1 : Nat.beq d s with
      | true => simp only [h1, cond_true, disj_cons h] at hl ⊢; exact hl
      | false => simp only [h1, cond_false] at hl ⊢; exact hl
  | kill t => cases b with
    | fact d f =>
      simp only [comm1, Bool.not_eq_true'] at h
      simp only [lookK] at hl ⊢
      cases h1 : Nat.beq d s with
      | true => simp only [h1, cond_true, disj_cons h] at hl ⊢; exact hl
      | false => simp only [h1, cond_false] at hl ⊢; exact hl
    | kill t' =>
      simp only [lookK] at hl ⊢
      exact lookK_sub H _ _ _ _ s f (fun x hx => by simp at hx ⊢; rcases hx with rfl | rfl | hx <;> simp_all) (fun _ hx => hx) hl
    | killId t' => exact hl
  | killId t => cases b with
    | fact d f =>
      simp only [comm1, Bool.not_eq_true'] at h
      simp only [lookK] at hl ⊢
      cases h1 : Nat.beq d s with
      | true => simp only [h1, cond_true, disj_cons h] at hl ⊢; exact hl
      | false => simp only [h1, cond_false] at hl ⊢; exact hl
    | kill t' => exact hl
    | killId t' =>
      simp only [lookK] at hl ⊢
      exact lookK_sub H _ _ _ _ s f (fun _ hx => hx) (fun x hx => by simp at hx ⊢; rcases hx with rfl | rfl | hx <;> simp_all) hl
def commB (x y : List It) : Bool := x.all fun a => y.all fun b => comm1 a b
theorem Dom.swapL {H : List It} (a : It) : ∀ y : List It, (y.all fun b => comm1 a b) = true → Dom (a :: (y ++ H)) (y ++ a :: H)
  | [], _ => Dom.refl
  | b :: y, h => by
    simp only [List.all_cons, Bool.and_eq_true] at h
    exact Dom.trans (Dom.swap1 a b h.1) (Dom.cons1 b (Dom.swapL a y h.2))
theorem Dom.swap {H : List It} (y : List It) : ∀ x : List It, commB x y = true → Dom (x ++ (y ++ H)) (y ++ (x ++ H))
  | [], _ => Dom.refl
  | a :: x, h => by
    simp only [commB, List.all_cons, Bool.and_eq_true] at h
    exact Dom.trans (Dom.cons1 a (Dom.swap y x h.2)) (Dom.swapL a y h.1)

/-! ### the region -/
def isOf (Is : List (List It)) (i : Nat) : List It := (Is[i]?).getD []
def anOf (AH : List (List Nat)) (i : Nat) : List Nat := (AH[i]?).getD []
/-- What is known when operations are done. -/
def doneI (Is : List (List It)) (L : Array Bool) (G : List It) : Nat → List It
  | 0 => G
  | n + 1 => if L.getD n false = true then isOf Is n ++ doneI Is L G n else doneI Is L G n
/-- What is surely known ahead of operation i. -/
def ctxM (AH : List (List Nat)) (Is : List (List It)) (G : List It) (i : Nat) : Nat → List It
  | 0 => G
  | n + 1 => bif Nat.beq n i || (anOf AH n).elem i then ctxM AH Is G i n else bif (anOf AH i).elem n then isOf Is n ++ ctxM AH Is G i n else weakI (isOf Is n) ++ ctxM AH Is G i n
def finM (Is : List (List It)) (G : List It) : List It := Is.foldl (fun H I => I ++ H) G

theorem dom_ctx {AH : List (List Nat)} {Is : List (List It)} {G : List It} {L : Array Bool} {i : Nat} (hi : L.getD i false = false) (hanc : ∀ j, j ∈ anOf AH i → L.getD j false = true)
    (hdes : ∀ j, L.getD j false = true → i ∉ anOf AH j) : ∀ n, Dom (doneI Is L G n) (ctxM AH Is G i n)
  | 0 => Dom.refl
  | n + 1 => by
    have ih := dom_ctx (Is := Is) (G := G) hi hanc hdes n
    unfold doneI ctxM
    cases hl : L.getD n false with
    | true =>
      simp only [if_true]
      have h1 : Nat.beq n i = false := by
        cases h : Nat.beq n i with
        | false => rfl
        | true => have := Nat.eq_of_beq_eq_true h; subst this; rw [hi] at hl; cases hl
      have h2 : (anOf AH n).elem i = false := by
        cases h : (anOf AH n).elem i with
        | false => rfl
        | true => exact (hdes n hl (by simpa using h)).elim
      simp only [h1, h2, Bool.or_self, cond_false]
      cases h3 : (anOf AH i).elem n with
      | true => exact Dom.app ih _
      | false => exact Dom.weak2 ih _
    | false =>
      simp only [Bool.false_eq_true, if_false]
      cases h1 : (Nat.beq n i || (anOf AH n).elem i) with
      | true => exact ih
      | false =>
        simp only [cond_false]
        cases h3 : (anOf AH i).elem n with
        | true => have := hanc n (by simpa using h3); rw [hl] at this; cases this
        | false => exact Dom.weak1 ih _

theorem getD_set_f {L : Array Bool} {i n : Nat} (h : i ≠ n) : (L.setIfInBounds i true).getD n false = L.getD n false := by
  simp [Array.getD_eq_getD_getElem?, Array.getElem?_setIfInBounds, h]
theorem getD_set_t {L : Array Bool} {i : Nat} (h : i < L.size) : (L.setIfInBounds i true).getD i false = true := by
  simp [h]
theorem doneI_low {Is : List (List It)} {G : List It} {L : Array Bool} {i : Nat} : ∀ n, n ≤ i → doneI Is (L.setIfInBounds i true) G n = doneI Is L G n
  | 0, _ => rfl
  | n + 1, h => by unfold doneI; rw [getD_set_f (by omega), doneI_low n (by omega)]
theorem dom_set {Is : List (List It)} {G : List It} {L : Array Bool} {i : Nat} (hs : i < L.size) (hi : L.getD i false = false) (hc : ∀ j, i < j → L.getD j false = true → commB (isOf Is i) (isOf Is j) = true) :
    ∀ n, i < n → Dom (isOf Is i ++ doneI Is L G n) (doneI Is (L.setIfInBounds i true) G n)
  | 0, h => by omega
  | n + 1, h => by
    by_cases hin : i = n
    · subst hin
      unfold doneI
      rw [getD_set_t hs, hi, doneI_low i (Nat.le_refl _)]
      exact Dom.refl
    · have ih := dom_set (G := G) hs hi hc n (by omega)
      unfold doneI
      rw [getD_set_f hin]
      cases hl : L.getD n false with
      | true => exact Dom.trans (Dom.swap _ _ (hc n (by omega) hl)) (Dom.app ih _)
      | false => exact ih

def validM (ops : Array Oper) (AH : List (List Nat)) (Is : List (List It)) : Bool :=
  (AH.length == ops.size) && (Is.length == ops.size) &&
  ((List.range ops.size).all fun i =>
    ((anOf AH i).all fun j => Nat.blt j i && (((ops[i]?).map fun o => o.after.toList.any fun e => Region.binds .any e && (Nat.beq e.on j || (anOf AH e.on).elem j)).getD false)) &&
    (((ops[i]?).map fun o => o.after.toList.all fun e => !Region.binds .any e || Nat.blt e.on i).getD false) &&
    ((List.range i).all fun j => (anOf AH i).elem j || commB (isOf Is j) (isOf Is i)))

structure VMOk (ops : Array Oper) (AH : List (List Nat)) (Is : List (List It)) : Prop where
  islen : Is.length = ops.size
  anc : ∀ i o, ops[i]? = some o → ∀ j, j ∈ anOf AH i → j < i ∧ ∃ e ∈ o.after, Region.binds .any e = true ∧ (e.on = j ∨ j ∈ anOf AH e.on)
  after : ∀ i o, ops[i]? = some o → ∀ e ∈ o.after, Region.binds .any e = true → e.on < i
  pair : ∀ i j, i < ops.size → j < i → j ∈ anOf AH i ∨ commB (isOf Is j) (isOf Is i) = true

theorem validM_spec {ops : Array Oper} {AH : List (List Nat)} {Is : List (List It)} (h : validM ops AH Is = true) : VMOk ops AH Is := by
  unfold validM at h
  simp only [Bool.and_eq_true] at h
  obtain ⟨⟨_, h2⟩, h4⟩ := h
  have get : ∀ i o, ops[i]? = some o → i < ops.size := fun i o ho => (Array.getElem?_eq_some_iff.1 ho).1
  refine ⟨by simpa using h2, ?_, ?_, ?_⟩
  · intro i o ho j hj
    have h5 := List.all_eq_true.1 h4 i (List.mem_range.2 (get i o ho))
    simp only [Bool.and_eq_true] at h5
    have h6 := List.all_eq_true.1 h5.1.1 j hj
    simp only [ho, Option.map_some, Option.getD_some, Bool.and_eq_true, List.any_eq_true] at h6
    obtain ⟨h7, e, he, hb, hor⟩ := h6
    simp only [Bool.or_eq_true] at hor
    refine ⟨by simpa using h7, e, by simpa using he, hb, ?_⟩
    rcases hor with h | h
    · exact .inl (Nat.eq_of_beq_eq_true h)
    · exact .inr (by simpa using h)
  · intro i o ho e he hb
    have h5 := List.all_eq_true.1 h4 i (List.mem_range.2 (get i o ho))
    simp only [Bool.and_eq_true] at h5
    have h6 := h5.1.2
    simp only [ho, Option.map_some, Option.getD_some] at h6
    have h7 := List.all_eq_true.1 h6 e (by simpa using he)
    rw [hb] at h7
    simpa using h7
  · intro i j hi hj
    have h5 := List.all_eq_true.1 h4 i (List.mem_range.2 hi)
    simp only [Bool.and_eq_true] at h5
    have h6 := List.all_eq_true.1 h5.2 j (List.mem_range.2 hj)
    simp only [Bool.or_eq_true] at h6
    rcases h6 with h | h
    · exact .inl (by simpa using h)
    · exact .inr h

section
variable {X : Cx} {G : List It} {Q : Exit → Act → World → Prop}

/-- One operation of such a region, with its guard. -/
def StepG (X : Cx) (ops : Array Oper) (G : List It) (o : Oper) (I : List It) : Prop := ∀ G', Sub G' G → ∀ a w, Env X G' a w →
  (Region.wanted o (yielded ops a.tmps) = true → Yields X.P o a w (fun v w' => Env X (I ++ G') (a.put o.dst v) w')) ∧
  (Region.wanted o (yielded ops a.tmps) = false → Env X (I ++ G') (a.put o.dst undef) w)
theorem StepG.st {ops : Array Oper} {d : Option Nat} {op : Op} {ty : TypeId} {pos : String} {af : Array Edge} {I : List It} (h : Step X G ⟨d, op, ty, pos, af, none⟩ I) : StepG X ops G ⟨d, op, ty, pos, af, none⟩ I :=
  fun G' hs a w e => ⟨fun _ => h G' hs a w e, fun hw => by simp [Region.wanted] at hw⟩
theorem Step.spec {d : Nat} {op : Op} {ty : TypeId} {pos : String} {af : Array Edge} {gd : Option (Nat × Bool)} {f : Fact} (hd : Nat.blt d X.n = true) (h : Spec X G ⟨some d, op, ty, pos, af, gd⟩ f) : Step X G ⟨some d, op, ty, pos, af, gd⟩ [.fact d f] :=
  fun G' hs a w e K Q hK => by
    obtain ⟨g, hg, hf⟩ := e.facts
    exact h a w g e.size e.fr hg (hs a w g hf) K Q (fun v w' ⟨hw, g', hg', hom, hga, hp⟩ => hK v w' (Env.put (by simpa [Nat.blt_eq] using hd) e.size e.defers e.fr hf hw hg' hom hga hp))
theorem StepG.op {ops : Array Oper} {d : Nat} {op : Op} {ty : TypeId} {pos : String} {af : Array Edge} {f : Fact} (hd : Nat.blt d X.n = true) (h : Spec X G ⟨some d, op, ty, pos, af, none⟩ f) : StepG X ops G ⟨some d, op, ty, pos, af, none⟩ [.fact d f] :=
  StepG.st (Step.spec hd h)
theorem StepG.ofOk {ops : Array Oper} {o : Oper} {d : Nat} {f : Fact} (hdst : o.dst = some d) (hd : Nat.blt d X.n = true) (h : OpOk X ops G o f) : StepG X ops G o [.fact d f] :=
  fun G' hs a w e => by
    obtain ⟨g, hg, hf⟩ := e.facts
    have hd' : d < X.n := by simpa [Nat.blt_eq] using hd
    obtain ⟨h1, h2⟩ := h a w g e.size e.fr hg (hs a w g hf)
    refine ⟨fun hw K Q hK => ?_, fun hw => ?_⟩
    · exact h1 hw K Q (fun v w' ⟨hw, g', hg', hom, hga, hp⟩ => hK v w' (by rw [hdst]; exact Env.put hd' e.size e.defers e.fr hf hw hg' hom hga hp))
    · rw [hdst]; exact Env.put hd' e.size e.defers e.fr hf (Fr.refl _ _) hg (fun _ _ => rfl) (fun _ => rfl) (h2 hw)
theorem StepG.opg {ops : Array Oper} {d j dj : Nat} {want b : Bool} {T : List Nat} {op : Op} {ty : TypeId} {pos : String} {af : Array Edge} {f : Fact} (hd : Nat.blt d X.n = true)
    (hj : (ops[j]?).bind (·.dst) = some dj) (hb : look G dj = some (Fact.rep T b)) (h : b = want → Spec X G ⟨some d, op, ty, pos, af, some (j, want)⟩ f) : StepG X ops G ⟨some d, op, ty, pos, af, some (j, want)⟩ [.fact d (f.under (b = want))] :=
  StepG.ofOk rfl hd (OpOk.opg hj hb h)
theorem StepG.opgu {ops : Array Oper} {d j dj : Nat} {want b : Bool} {c : Prop} {T : List Nat} {op : Op} {ty : TypeId} {pos : String} {af : Array Edge} {f : Fact} (hd : Nat.blt d X.n = true)
    (hj : (ops[j]?).bind (·.dst) = some dj) (hb : look G dj = some ((Fact.rep T b).under c)) (h : c ∧ b = want → Spec X G ⟨some d, op, ty, pos, af, some (j, want)⟩ f) : StepG X ops G ⟨some d, op, ty, pos, af, some (j, want)⟩ [.fact d (f.under (c ∧ b = want))] :=
  StepG.ofOk rfl hd (OpOk.opgu hj hb h)

def AllM (X : Cx) (ops : Array Oper) (AH : List (List Nat)) (Is : List (List It)) (G : List It) (n : Nat) : List Oper → Nat → Prop
  | [], _ => True
  | o :: l, i => StepG X ops (ctxM AH Is G i n) o (isOf Is i) ∧ AllM X ops AH Is G n l (i + 1)
theorem AllM.nil {ops : Array Oper} {AH : List (List Nat)} {Is : List (List It)} {n k : Nat} : AllM X ops AH Is G n [] k := trivial
theorem AllM.get {ops : Array Oper} {AH : List (List Nat)} {Is : List (List It)} {n : Nat} : ∀ (l : List Oper) (k : Nat), AllM X ops AH Is G n l k → ∀ (i : Nat) (o : Oper), l[i]? = some o → StepG X ops (ctxM AH Is G (k + i) n) o (isOf Is (k + i))
  | [], _, _, i, o, h => by simp at h
  | x :: l, k, hall, i, o, h => by
    cases i with
    | zero => simp at h; subst h; exact hall.1
    | succ i =>
      have := AllM.get l (k + 1) hall.2 i o (by simpa using h)
      rwa [show k + 1 + i = k + (i + 1) by omega] at this

structure DInvM (X : Cx) (ops : Array Oper) (AH : List (List Nat)) (Is : List (List It)) (G : List It) (L : Array Bool) (a : Act) (w : World) : Prop where
  env : Env X (doneI Is L G ops.size) a w
  lsize : L.size = ops.size
  anc : ∀ i, i < ops.size → L.getD i true = true → ∀ j, j ∈ anOf AH i → L.getD j true = true

theorem getD_tf {L : Array Bool} {i : Nat} (hi : i < L.size) (b c : Bool) : L.getD i b = L.getD i c := by
  simp [Array.getD_eq_getD_getElem?, hi]
theorem ready_ofM {ops : Array Oper} {AH : List (List Nat)} {Is : List (List It)} (hv : VMOk ops AH Is) {L : Array Bool} (hs : L.size = ops.size) (h : unl ops L ≠ 0) : Region.ready .any ops L ≠ [] := by
  unfold unl at h
  have hex : ∃ i, i < ops.size ∧ L.getD i true = false := by
    obtain ⟨i, hi, hp⟩ := List.countP_pos_iff.1 (Nat.pos_of_ne_zero h)
    exact ⟨i, List.mem_range.1 hi, by simpa using hp⟩
  have hleast : ∀ n : Nat, (∃ i, i ≤ n ∧ i < ops.size ∧ L.getD i true = false) → ∃ i, (i < ops.size ∧ L.getD i true = false) ∧ ∀ j, j < i → L.getD j true = true := by
    intro n
    induction n with
    | zero =>
      rintro ⟨i, h1, h2, h3⟩
      have : i = 0 := by omega
      subst this
      exact ⟨0, ⟨h2, h3⟩, fun j hj => by omega⟩
    | succ n ih =>
      rintro ⟨i, h1, h2, h3⟩
      by_cases hlow : ∃ i, i ≤ n ∧ i < ops.size ∧ L.getD i true = false
      · exact ih hlow
      · refine ⟨i, ⟨h2, h3⟩, fun j hj => ?_⟩
        cases hc : L.getD j true with
        | true => rfl
        | false => exact (hlow ⟨j, by omega, by omega, hc⟩).elim
  obtain ⟨i0, h1, h2⟩ := hex
  obtain ⟨i, ⟨h3, h4⟩, hmin⟩ := hleast i0 ⟨i0, Nat.le_refl _, h1, h2⟩
  have : i ∈ Region.ready .any ops L := by
    refine mem_ready.2 ⟨h4, ops[i], Array.getElem?_eq_getElem h3, fun e he hb => ?_⟩
    have := hv.after i _ (Array.getElem?_eq_getElem h3) e he hb
    have h5 := hmin e.on this
    rw [← h5]
    exact getD_tf (by rw [hs]; omega) _ _
  intro hn
  rw [hn] at this
  cases this

theorem wpAny_M {ops : Array Oper} {AH : List (List Nat)} {Is : List (List It)} (hv : VMOk ops AH Is)
    (hok : ∀ (i : Nat) (o : Oper), ops[i]? = some o → StepG X ops (ctxM AH Is G i ops.size) o (isOf Is i))
    (hQ : ∀ L a w, DInvM X ops AH Is G L a w → unl ops L = 0 → Q .normal a w) :
    ∀ (fuel : Nat) (L : Array Bool) (a : Act) (w : World), DInvM X ops AH Is G L a w → unl ops L = fuel → wpAny X.P .any ops Q fuel L a w := by
  intro fuel
  induction fuel with
  | zero =>
    intro L a w inv hu
    refine ⟨?_, hQ L a w inv hu⟩
    cases hr : Region.ready .any ops L with
    | nil => rfl
    | cons x l =>
      have hx : x ∈ Region.ready .any ops L := by rw [hr]; exact List.mem_cons_self
      obtain ⟨h1, o, ho, _⟩ := mem_ready.1 hx
      have := unl_zero hu x (Array.getElem?_eq_some_iff.1 ho).1
      rw [this] at h1; cases h1
  | succ fuel ih =>
    intro L a w inv hu
    refine ⟨fun h => (ready_ofM hv inv.lsize (by omega) h).elim, fun i hi => ?_⟩
    obtain ⟨h1, o, ho, hall⟩ := mem_ready.1 hi
    have hi' : i < ops.size := (Array.getElem?_eq_some_iff.1 ho).1
    have hiL : i < L.size := by rw [inv.lsize]; exact hi'
    have h1f : L.getD i false = false := by rw [getD_tf hiL false true]; exact h1
    have hanc : ∀ j, j ∈ anOf AH i → L.getD j true = true := by
      intro j hj
      obtain ⟨hji, e, he, hb, hor⟩ := hv.anc i o ho j hj
      have hon := hall e he hb
      have hlt := hv.after i o ho e he hb
      have hon' : L.getD e.on true = true := getD_ff (by rw [inv.lsize]; omega) hon
      rcases hor with rfl | hm
      · exact hon'
      · exact inv.anc e.on (by omega) hon' j hm
    have hlt : ∀ j, L.getD j false = true → j < ops.size := fun j hj => by
      rcases Nat.lt_or_ge j L.size with h | h
      · rw [← inv.lsize]; exact h
      · rw [Array.getD_eq_getD_getElem?, Array.getElem?_eq_none h] at hj; cases hj
    have hdes : ∀ j, L.getD j false = true → i ∉ anOf AH j := fun j hj hm => by
      have hjs := hlt j hj
      have := inv.anc j hjs (by rw [getD_tf (by rw [inv.lsize]; exact hjs) true false]; exact hj) i hm
      rw [this] at h1; cases h1
    have hsub : Sub (doneI Is L G ops.size) (ctxM AH Is G i ops.size) := (dom_ctx h1f (fun j hj => by
      have hjs : j < ops.size := by have := (hv.anc i o ho j hj).1; omega
      rw [getD_tf (by rw [inv.lsize]; exact hjs) false true]; exact hanc j hj) hdes ops.size).sub
    have hstep := hok i o ho _ hsub a w inv.env
    have hnext : ∀ v w', Env X (isOf Is i ++ doneI Is L G ops.size) (a.put o.dst v) w' → wpAny X.P .any ops Q fuel (L.setIfInBounds i true) (a.put o.dst v) w' := by
      intro v w' he
      refine ih _ _ _ ⟨he.sub (dom_set hiL h1f (fun j hij hj => ?_) ops.size hi').sub, by simp [inv.lsize], ?_⟩ ?_
      · rcases hv.pair j i (hlt j hj) hij with h | h
        · exact (hdes j hj h).elim
        · exact h
      · intro j hj hlj k hk
        by_cases he : i = j
        · subst he
          have := hanc k hk
          by_cases hik : i = k
          · subst hik; rw [h1] at this; cases this
          · rw [getD_set_ne true hik]; exact this
        · rw [getD_set_ne true he] at hlj
          have := inv.anc j hj hlj k hk
          by_cases hik : i = k
          · subst hik; rw [h1] at this; cases this
          · rw [getD_set_ne true hik]; exact this
      · have := unl_set hi' inv.lsize h1
        omega
    unfold wpOp
    rw [ho]
    simp only []
    cases hw : Region.wanted o (yielded ops a.tmps) with
    | true =>
      simp only [if_true]
      left
      exact hstep.1 hw _ _ (fun v w' he => hnext v w' he)
    | false =>
      simp only [Bool.false_eq_true, if_false]
      exact hnext undef w (hstep.2 hw)

theorem doneI_all {Is : List (List It)} {L : Array Bool} : ∀ n, n ≤ Is.length → (∀ i, i < n → L.getD i false = true) → doneI Is L G n = finM (Is.take n) G
  | 0, _, _ => by simp [doneI, finM]
  | n + 1, hn, h => by
    unfold doneI
    rw [h n (by omega), if_pos rfl, doneI_all n (by omega) (fun i hi => h i (by omega))]
    rw [List.take_succ_eq_append_getElem (by omega)]
    simp only [finM, List.foldl_append, List.foldl_cons, List.foldl_nil]
    congr 1
    simp [isOf, List.getElem?_eq_getElem (show n < Is.length by omega)]
theorem doneI_none {Is : List (List It)} {L : Array Bool} : ∀ n, (∀ i, i < n → L.getD i false = false) → doneI Is L G n = G
  | 0, _ => rfl
  | n + 1, h => by
    unfold doneI
    rw [h n (by omega), if_neg (by simp), doneI_none n (fun i hi => h i (by omega))]

theorem CWalk.drawM {id : Nat} {l : List Oper} (AH : List (List Nat)) (Is : List (List It)) (hm : X.P.follows .mixedOrders = true) (hv : validM l.toArray AH Is = true)
    (hS : AllM X l.toArray AH Is G l.length l 0) (h : Leaf X (finM Is G) Q .normal) (hrd : X.rd = none := by rfl) : CWalk X G (.region id l.toArray true) Q := fun a w env => by
  have hV := validM_spec hv
  rw [Cx.F_none hrd]
  refine wpIn_wide.2 (wp_region_any hm ?_)
  refine wpAny_M (AH := AH) (Is := Is) (G := G) hV ?_ ?_ l.toArray.size (Array.replicate l.toArray.size false) a _ ?_ ?_
  · intro i o ho
    have := AllM.get l 0 hS i o (by simpa using ho)
    simpa using this
  · intro L a' w' inv hu
    have he := inv.env
    rw [doneI_all _ (by rw [hV.islen]; exact Nat.le_refl _) (fun i hi => by rw [getD_tf (by rw [inv.lsize]; exact hi) false true]; exact unl_zero hu i hi)] at he
    rw [← hV.islen, List.take_length] at he
    exact h a' w' he
  · refine ⟨?_, by simp, ?_⟩
    · rw [doneI_none _ (fun i hi => by rw [getD_tf (by simpa using hi) false true]; exact rep_false hi)]
      obtain ⟨g, hg, hf⟩ := env.facts
      refine ⟨env.size, env.defers, env.fr.drew, g, ⟨⟨hg.ok.old, fun b h1 h2 => hg.ok.new b h1 h2⟩, hg.om⟩, fun s f hl => ?_⟩
      exact f.stab g g _ w _ ⟨Nat.le_refl _, fun b _ _ => ⟨rfl, rfl⟩, fun _ _ => rfl⟩ (hf s f hl)
    · intro i hi hl
      rw [rep_false hi] at hl; cases hl
  · unfold unl
    rw [List.countP_eq_length.2]
    · simp
    · intro i hi
      rw [rep_false (List.mem_range.1 hi)]; rfl
end
end
end GL

namespace GL
section
open Go

/-! ### calls -/
section
variable {X : Cx} {G : List It}
theorem Spec.callE {k : FuncId} {pre : List Shape} {out : Shape} {shc : List Nat} {d : Option Nat} {xs : List Operand} {ats : Array TypeId} {ty : TypeId} {pos : String} {af : Array Edge} {gd : Option (Nat × Bool)} {f : Fact}
    (T : List Nat) (t : Nat) (ht : Nat.ble 10 t = true) (hk : enters X.P k = true) (hc : Ctr X.P k pre out shc) (hx : HasAll G T xs pre) (hf : out.f (cT t T shc) = f := by rfl) :
    Spec X G ⟨d, .call { callee := .value (.func k), args := xs.toArray, argTypes := ats }, ty, pos, af, gd⟩ f := hf ▸ Spec.call T t ht hk hc hx
end
theorem StepG.stE {X : Cx} {G : List It} {ops : Array Oper} {d : Option Nat} {op : Op} {ty : TypeId} {pos : String} {af : Array Edge} {I I' : List It} (h : Step X G ⟨d, op, ty, pos, af, none⟩ I) (hI : I = I' := by rfl) : StepG X ops G ⟨d, op, ty, pos, af, none⟩ I' :=
  hI ▸ StepG.st h
theorem CallOk.valE {X : Cx} {G : List It} {d : Option Nat} {ty : TypeId} {pos : String} {af : Array Edge} {gd : Option (Nat × Bool)} {k : FuncId} {x : Operand} {xs : List Operand} {us fs cs FA : List Fact} {ats : Array TypeId} (hk : enters X.P k = true) (hx : Has G x (.fnv k us cs)) (h : HasF G xs fs) (hF : us ++ (fs ++ cs) = FA := by rfl) :
    CallOk X G ⟨d, .call { callee := .value x, args := xs.toArray, argTypes := ats }, ty, pos, af, gd⟩ k FA := hF ▸ CallOk.val hk hx h

/-! ### division of bytes and words -/
section
variable {X : Cx} {G : List It} {d : Option Nat} {ty : TypeId} {pos : String} {af : Array Edge} {gd : Option (Nat × Bool)} {x y : Operand} {t t' : TypeId} {T T' : List Nat}
end
/-! ### pointers handed on -/
def Shape.ptr {α : Type} [R : Rp α] (c : Nat) (x : α) : Shape where
  f := fun T => Fact.ptr (T c) x
  tg := fun _ _ h => ⟨c, h⟩
  idn := fun _ => rfl
  re := fun T T' g g' v w hk h => by
    obtain ⟨ad, hv, ht, hlt, es, he, hr⟩ := h
    exact ⟨ad, hv, hk c _ hlt ht, hlt, es, he, R.stab _ _ x es w w (Nat.le_refl _) (fun b hb hm => ⟨rfl, hk c b hb hm⟩) hr⟩

section
variable {G : List It}
theorem Cv.ptrM {α : Type} [R : Rp α] {x : α} {T T' : List Nat} (h : subB T T' = true) : Cv G (Fact.ptr T x) (Fact.ptr T' x) := fun a w g v _ hp => by
  obtain ⟨ad, hv, ht, hlt, es, he, hr⟩ := hp
  exact ⟨ad, hv, subB_spec h _ ht, hlt, es, he, R.stab _ _ x es w w (Nat.le_refl _) (fun b _ hm => ⟨rfl, subB_spec h _ hm⟩) hr⟩
theorem Cv.fnM {P : Program} {A β : Type} [Rp β] {pre : A → List Shape} {f : A → Option β} {T T' : List Nat} (h : subB T T' = true) : Cv G (Fact.fn P pre T f) (Fact.fn P pre T' f) := fun _ _ _ _ _ hp =>
  FnRel.stab (Nat.le_refl _) (fun _ _ hb => ⟨rfl, subB_spec h _ hb⟩) hp
theorem Cv.tup2 {f1 f2 m1 m2 : Fact} (h1 : Cv G f1 m1) (h2 : Cv G f2 m2) : Cv G (.tup2 f1 f2) (.tup2 m1 m2) := fun a w g v hf hp => by
  obtain ⟨v1, v2, hv, k1, k2⟩ := hp
  exact ⟨v1, v2, hv, h1 a w g v1 hf k1, h2 a w g v2 hf k2⟩
theorem Cv.tup3 {f1 f2 f3 m1 m2 m3 : Fact} (h1 : Cv G f1 m1) (h2 : Cv G f2 m2) (h3 : Cv G f3 m3) : Cv G (.tup3 f1 f2 f3) (.tup3 m1 m2 m3) := fun a w g v hf hp => by
  obtain ⟨v1, v2, v3, hv, k1, k2, k3⟩ := hp
  exact ⟨v1, v2, v3, hv, h1 a w g v1 hf k1, h2 a w g v2 hf k2, h3 a w g v3 hf k3⟩
theorem toA_inj {cs cs' : List Value} (h : cs.toArray = cs'.toArray) : cs = cs' := by simpa using congrArg Array.toList h
theorem Cv.objPtr {t : Nat} {ls : Ls} {ps : Ps} {α : Type} [R : Rp α] {y : α} {T : List Nat} (hps : lsPs ls = ps) (ho : look G (rs t) = some (.obj t ps)) (hg : HasGs G (t + 1) ls) (hc : Cv G (.flds ls) (Fact.rep T y)) (hag : R.agg = true := by rfl) :
    Cv G (.isv t) (Fact.ptr (t :: T) y) := fun a w g v hf hv => by
  subst hps
  obtain ⟨b, ty, cs, h1, h2, h3, h4⟩ := hf _ _ ho
  have hfl := h4.flds hf ls _ _ hg
  obtain ⟨cs', hr, he⟩ := hc a w g (.agg cs.toList.toArray) hf ⟨cs.toList, rfl, hfl⟩
  rw [hag] at he
  simp only [mkV, if_true] at he
  have he' : cs.toList = cs' := toA_inj (by injection he)
  subst he'
  refine ⟨⟨b, 0, none⟩, by rw [show v = g.ga t from hv, h1], by simp [h3], (Array.getElem?_eq_some_iff.1 h2).1, cs.toList, fun j u hj => ?_, R.stab _ _ y _ w w (Nat.le_refl _) (fun b _ hb => ⟨rfl, List.mem_cons_of_mem _ hb⟩) hr⟩
  rw [Go.Addr.add_lit]
  refine ⟨?_, frozen_of_row w b _ cs ty h2⟩
  rw [cell_of_row w b _ cs ty (0, 0) h2]
  simpa using hj
theorem Cv.objPtr1 {t : Nat} {f : Fact} {ps : Ps} {α : Type} [R : Rp α] {y : α} {T : List Nat} (hps : [(false, 1)] = ps) (ho : look G (rs t) = some (.obj t ps)) (hg : HasG G (t + 1) f) (hc : Cv G f (Fact.rep T y)) (hag : R.agg = false := by rfl) :
    Cv G (.isv t) (Fact.ptr (t :: T) y) := fun a w g v hf hv => by
  subst hps
  obtain ⟨b, ty, cs, h1, h2, h3, h4⟩ := hf _ _ ho
  obtain ⟨c1, c2, e1, e2, e3, _, e4, e5⟩ := h4
  have e5' : c2 = [] := e5
  subst e5'
  obtain ⟨cs', hr, he⟩ := hc a w g _ hf (hg a w g hf)
  rw [e4, hag] at he
  have hl := R.len _ _ _ _ hr
  rw [R.na hag] at hl
  have e2' : c1.length = 1 := e2
  match c1, cs', e2', hl with
  | [u], [u'], _, _ =>
    have huu : u = u' := he
    subst huu
    refine ⟨⟨b, 0, none⟩, by rw [show v = g.ga t from hv, h1], by simp [h3], (Array.getElem?_eq_some_iff.1 h2).1, [u], fun j x hj => ?_, R.stab _ _ y _ w w (Nat.le_refl _) (fun b _ hb => ⟨rfl, List.mem_cons_of_mem _ hb⟩) hr⟩
    rw [Go.Addr.add_lit]
    refine ⟨?_, frozen_of_row w b _ cs ty h2⟩
    rw [cell_of_row w b _ cs ty (0, 0) h2]
    have : cs.toList = [u] := by simpa using e1
    have h6 : cs.toList[0 + j]? = some x := by rw [this]; simpa using hj
    simpa using h6
end

/-! ### back in the frame that called -/
section
variable {G : List It} {u : Nat → Value} {d : Option Nat} {f0 f : Fact} {s : Nat} {J : List It}
theorem Low.keepG {i : Nat} (h : HasG G i f) (k : Low G u d f0 J) : Low G u d f0 (.fact s (.at i f) :: J) := Low.keep (fun a w g _ hf => h a w g hf) k
theorem Low.keepC {v0 : Value} (h : HasC G v0 f) (k : Low G u d f0 J) : Low G u d f0 (.fact s (.cst v0 f) :: J) := Low.keep (fun a w g _ hf => h a w g hf) k
theorem Low.keepR (hv : VFree f) (h : Has G (.tmp s) f) (k : Low G u d f0 J) : Low G u d f0 (.fact s f :: J) := Low.keep (fun a w g _ hf => hv _ _ _ _ (h a w g hf)) k
end

/-! ### appends to values -/
def ElKeeps {α : Type} [R : Rp α] (T te te' : List Nat) : Prop := ∀ (F' : Nat → Prop) (g : Gh) (w w' : World) (l : List α) (cs : List Value), w.heap.size ≤ w'.heap.size →
  (∀ b, b < w.heap.size → g.om b ∉ T → w'.heap[b]? = w.heap[b]?) → (∀ b, b < w.heap.size → g.om b ∈ te' → F' b) → RelL (fun b => g.om b ∈ te) l cs w → RelL F' l cs w'
theorem ElKeeps.flat {α : Type} [R : Rp α] [Flat α] {T te te' : List Nat} : ElKeeps (α := α) T te te' := fun _ _ _ _ l cs _ _ _ h => h.flat l cs
theorem ElKeeps.tags {α : Type} [R : Rp α] {T te te' : List Nat} (h1 : subB te te' = true) (h2 : disj te T = true) : ElKeeps (α := α) T te te' := fun F' g w w' l cs hs hb hF h =>
  RelL.stab hs (fun b hlt ht => ⟨hb b hlt (fun hT => disj_spec h2 hT ht), hF b hlt (subB_spec h1 _ ht)⟩) l cs h
theorem facts_killTs {G : List It} {g g' : Gh} {a : Act} {w w' : World} {T : List Nat} (h : Facts G g a w) (hs : w.heap.size ≤ w'.heap.size) (hb : ∀ b, b < w.heap.size → g.om b ∉ T → w'.heap[b]? = w.heap[b]?)
    (hom : ∀ b, b < w.heap.size → g'.om b = g.om b) (hga : ∀ s, g'.ga s = g.ga s) : Facts (killTs T G) g' a w' := fun s f hl => by
  obtain ⟨K', _, h2, h3⟩ := lookK_killTs T G [] [] s f hl
  have hd := lookK_disj G K' [] s f h3
  have hl2 : look G s = some f := lookK_sub G K' [] [] [] s f (by simp) (by simp) h3
  exact f.stab g g' _ w w' ⟨hs, fun b hlt ht => ⟨hb b hlt (fun hT => disj_spec hd.1 (h2 _ hT) ht), hom b hlt⟩, fun s' _ => hga s'⟩ (h s f hl2)
theorem killTs_app : ∀ (ts : List Nat) (G : List It), killTs ts [] ++ G = killTs ts G
  | [], _ => rfl
  | t :: ts, G => by simp only [killTs, List.cons_append, killTs_app ts G]

theorem Fr.owns {X : Cx} {w w' : World} {g : Gh} (hfr : Fr X.C X.w0 w) (h : GhE X w g) {T : List Nat} (hT : all10 T = true)
    (hos : w'.os = w.os) (htape : w'.tape = w.tape) (hout : w'.output = w.output) (hs : w.heap.size ≤ w'.heap.size)
    (hb : ∀ b, b < w.heap.size → g.om b ∉ T → w'.heap[b]? = w.heap[b]?) : Fr X.C X.w0 w' :=
  ⟨hos.trans hfr.os, htape.trans hfr.tape, hout.trans hfr.output, Nat.le_trans hfr.size hs, fun k hk hn =>
    (hb k (Nat.lt_of_lt_of_le hk hfr.size) (fun he => by have := h.ok.old k hk; have := all10_spec hT he; omega)).trans (hfr.block k hk hn)⟩

section
variable {X : Cx} {G : List It} {Q : Exit → Act → World → Prop} {ops : Array Oper} {rest : List Oper} {d : Nat} {dO : Option Nat} {ty : TypeId} {pos : String} {af : Array Edge} {gd : Option (Nat × Bool)}

theorem Step.appendOw {α : Type} [R : Rp α] {s x : Operand} {T te te' Tx : List Nat} {l m r : List α} {ts e : TypeId} (hr : app l m = some r) (hT10 : all10 T = true) (hT0 : T.isEmpty = false) (hd : Nat.blt d X.n = true) (hty : OwnTy X.P ts e α)
    (hs : Has G s (Fact.ow T te e l)) (hx : Has G x (Fact.rep Tx m)) (hte : ElKeeps (α := α) T te te') (hTx : ElKeeps (α := α) T Tx te') :
    Step X G ⟨some d, .call { callee := .builtin .append, args := #[s, x], argTypes := #[ts, ts] }, ty, pos, af, none⟩ (.fact d (Fact.ow T te' e r) :: killTs T []) := fun G' hsub a w env K Q hK => by
  have hd' : d < X.n := by simpa [Nat.blt_eq] using hd
  obtain ⟨g, hg, hf'⟩ := env.facts
  have hf := hsub a w g hf'
  obtain ⟨xs, hown, hrel, htag⟩ := hs a w g hf
  obtain ⟨t, ht⟩ : ∃ t, t ∈ T := by
    cases T with
    | nil => simp at hT0
    | cons t _ => exact ⟨t, by simp⟩
  have ht' : 10 ≤ t := all10_spec hT10 ht
  unfold app at hr
  split at hr
  case isFalse => cases hr
  rename_i hlen
  cases hr
  obtain ⟨v', w', news, hrun, hown', hgr, hnew, hblk⟩ := run_append (ty := ty) hty hlen hown (hx a w g hf)
  have hrun' : (execOp a.eval ⟨some d, .call { callee := .builtin .append, args := #[s, x], argTypes := #[ts, ts] }, ty, pos, af, none⟩).run X.P w = .ok (.value v') w' := by
    unfold execOp
    simp [resolve, invoke, builtin, hrun]
  unfold Oper.wp
  rw [hrun']
  refine hK v' w' ?_
  rw [List.cons_append, killTs_app]
  have hb : ∀ b, b < w.heap.size → g.om b ∉ T → w'.heap[b]? = w.heap[b]? := fun b hb hne => hgr.block b hb (fun he => hne (htag b he.symm))
  have hom : ∀ b, b < w.heap.size → (tagNew g w.heap.size t).om b = g.om b := fun b hb => by simp [tagNew, hb]
  refine ⟨by simp [Act.put, env.size], env.defers, Fr.owns env.fr hg hT10 hgr.os hgr.tape hgr.output hgr.size hb, tagNew g w.heap.size t, hg.tagNew ht' hgr.size env.fr.size, ?_⟩
  refine Facts.put (by rw [env.size]; exact hd') (facts_killTs hf' hgr.size hb hom (fun _ => rfl)) ?_
  have hF : ∀ b, b < w.heap.size → g.om b ∈ te' → (tagNew g w.heap.size t).om b ∈ te' := fun b hb h => by rw [hom b hb]; exact h
  refine ⟨xs ++ news, by rw [List.length_append]; exact hown', RelL.app l m xs news (hte _ g w w' l xs hgr.size hb hF hrel) (hTx _ g w w' m news hgr.size hb hF hnew), ?_⟩
  intro b hb'
  rcases hblk b hb' with h1 | h1
  · rw [hom b (hown.lt b h1).2]; exact htag b h1
  · show (tagNew g w.heap.size t).om b ∈ T
    simp only [tagNew]
    rw [if_neg (by omega)]; exact ht

theorem Spec.appNilO {α : Type} [R : Rp α] {s x : Operand} {T te' : List Nat} {m r : List α} (t : Nat) {ts e : TypeId} (hr : app [] m = some r) (ht : Nat.ble 10 t = true) (hty : OwnTy X.P ts e α)
    (hs : Has G s .nilv) (hx : Has G x (Fact.rep T m)) (hT : ElKeep (α := α) t T te') :
    Spec X G ⟨dO, .call { callee := .builtin .append, args := #[s, x], argTypes := #[ts, ts] }, ty, pos, af, gd⟩ (Fact.ow [t] te' e r) := fun a w g hsz hfr hg hf K Q hK => by
  have ht' : 10 ≤ t := by simpa using ht
  unfold app at hr
  split at hr
  case isFalse => cases hr
  rename_i hlen
  cases hr
  have hsv : a.eval s = .slice none 0 0 := hs a w g hf
  obtain ⟨v', w', news, hrun, hown', hgr, hnew, hblk⟩ := run_append (ty := ty) (n := 0) (xs := []) hty (by simpa using hlen) (World.ownsRow_nil w 0 e R.n) (hx a w g hf)
  have hrun' : (execOp a.eval ⟨dO, .call { callee := .builtin .append, args := #[s, x], argTypes := #[ts, ts] }, ty, pos, af, gd⟩).run X.P w = .ok (.value v') w' := by
    unfold execOp
    simp [resolve, invoke, builtin, hsv, hrun]
  unfold Oper.wp
  rw [hrun']
  have hb' : ∀ b, b < w.heap.size → w'.heap[b]? = w.heap[b]? := fun b hb => hgr.block b hb (by simp [Value.ownBlock])
  have hom : ∀ b, b < w.heap.size → (tagNew g w.heap.size t).om b = g.om b := fun b hb => by simp [tagNew, hb]
  refine hK v' w' ⟨⟨hgr.os, hgr.tape, hgr.output, hgr.size, fun b hb _ => hb' b hb⟩, tagNew g w.heap.size t, hg.tagNew ht' hgr.size hfr.size, hom, fun _ => rfl, ?_⟩
  have hF : ∀ b, b < w.heap.size → g.om b ∈ te' → (tagNew g w.heap.size t).om b ∈ te' := fun b hb h => by rw [hom b hb]; exact h
  have hb : ∀ b, b < w.heap.size → g.om b ≠ t → w'.heap[b]? = w.heap[b]? := fun b hb _ => hb' b hb
  refine ⟨news, by simpa using hown', by simpa using hT _ g w w' m news hgr.size hb hF hnew, fun b hb' => ?_⟩
  rcases hblk b hb' with h1 | h1
  · cases h1
  · show (tagNew g w.heap.size t).om b ∈ [t]
    simp only [tagNew]
    rw [if_neg (by omega)]; simp

/-! ### function values in variables -/
def OneC (f : Fact) : Prop := ∀ g v w, f.p g v w → v.cells = #[v] ∧ v.oneCell' = true
theorem OneC.fnv {k : FuncId} {fs cs : List Fact} : OneC (.fnv k fs cs) := fun g v w h => by
  obtain ⟨us, vs, rfl, _⟩ := h
  exact ⟨rfl, rfl⟩
theorem OneC.fn {P : Program} {A β : Type} [Rp β] {pre : A → List Shape} {f : A → Option β} {T : List Nat} : OneC (.fn P pre T f) := fun g v w h => by
  obtain ⟨k, us, cs, rfl, _⟩ := h
  exact ⟨rfl, rfl⟩
theorem HasL.one1 {x : Operand} {f : Fact} (ho : OneC f) (hx : Has G x f) : HasL G x [(false, 1, f)] := fun a w g hf => by
  have h := hx a w g hf
  obtain ⟨h1, h2⟩ := ho _ _ _ h
  exact ⟨[a.eval x], by rw [h1], [a.eval x], [], rfl, rfl, by simpa using h2, fun _ => rfl, h, rfl⟩
theorem HasL.fnv {x : Operand} {k : FuncId} {fs cs : List Fact} (hx : Has G x (.fnv k fs cs)) : HasL G x [(false, 1, .fnv k fs cs)] := HasL.one1 OneC.fnv hx

end
end
end GL

namespace GL
section
open Go

section
variable {G : List It} {u : Nat → Value} {d : Option Nat} {f0 f f' : Fact} {s i : Nat} {J : List It}
/-- A register kept, as it is. -/
theorem lg (k : Low G u d f0 J) (h : look G (rs i) = some (.at i f) := by rfl) : Low G u d f0 (.fact s (.at i f) :: J) := Low.keepG (HasG.s h) k
/-- A register kept, flat. -/
theorem lf {α : Type} [R : Rp α] [Flat α] {y : α} {T T' : List Nat} (k : Low G u d f0 J) (h : look G (rs i) = some (.at i (Fact.rep T y)) := by rfl) : Low G u d f0 (.fact s (.at i (Fact.rep T' y)) :: J) := Low.keepG (HasG.cv (HasG.s h) Cv.fl) k
/-- A register kept, by more tags. -/
theorem lm {α : Type} [R : Rp α] {y : α} {T T' : List Nat} (k : Low G u d f0 J) (h : look G (rs i) = some (.at i (Fact.rep T y)) := by rfl) (hT : subB T T' = true := by rfl) : Low G u d f0 (.fact s (.at i (Fact.rep T' y)) :: J) := Low.keepG (HasG.cv (HasG.s h) (Cv.m hT)) k
/-- A variable kept. -/
theorem lo {t : Nat} {ps : Ps} (k : Low G u d f0 J) (h : look G s = some (.obj t ps) := by rfl) : Low G u d f0 (.fact s (.obj t ps) :: J) := Low.keepR (fun _ _ _ _ h => h) (Hs h) k
/-- A slot of a frame farther out. -/
theorem lc {v0 : Value} (k : Low G u d f0 J) (h : look G s = some (.cst v0 f) := by rfl) : Low G u d f0 (.fact s (.cst v0 f) :: J) := Low.keepC (HasC.s h) k
/-- A slot of the frame that called. -/
theorem ls (c : Nat) (k : Low G u d f0 J) (h : look G c = some (.cst (u s) f) := by rfl) (hs : neD d s = true := by rfl) : Low G u d f0 (.fact s f :: J) := Low.slot hs (HasC.s h) k

variable {G' : List It}
theorem sg (k : Sub G G') (h : look G (rs i) = some (.at i f) := by rfl) : Sub G (.fact s (.at i f) :: G') := Sub.cons (Has.at (HasG.s h)) k
theorem sf {α : Type} [R : Rp α] [Flat α] {y : α} {T T' : List Nat} (k : Sub G G') (h : look G (rs i) = some (.at i (Fact.rep T y)) := by rfl) : Sub G (.fact s (.at i (Fact.rep T' y)) :: G') := Sub.cons (Has.at (HasG.cv (HasG.s h) Cv.fl)) k
theorem sm {α : Type} [R : Rp α] {y : α} {T T' : List Nat} (k : Sub G G') (h : look G (rs i) = some (.at i (Fact.rep T y)) := by rfl) (hT : subB T T' = true := by rfl) : Sub G (.fact s (.at i (Fact.rep T' y)) :: G') := Sub.cons (Has.at (HasG.cv (HasG.s h) (Cv.m hT))) k
theorem sn (k : Sub G G') (h : look G s = some f := by rfl) : Sub G (.fact s f :: G') := Sub.cons (Hs h) k
theorem sc {v0 : Value} (k : Sub G G') (h : look G s = some (.cst v0 f) := by rfl) : Sub G (.fact s (.cst v0 f) :: G') := Sub.cons (Has.cst (HasC.s h)) k
theorem st {α : Type} [R : Rp α] [Flat α] {y : α} {T T' : List Nat} (k : Sub G G') (h : look G s = some (Fact.rep T y) := by rfl) : Sub G (.fact s (Fact.rep T' y) :: G') := Sub.cons (Has.cv (Hs h) Cv.fl) k
theorem su {α : Type} [R : Rp α] {y : α} {T T' : List Nat} (k : Sub G G') (h : look G s = some (Fact.rep T y) := by rfl) (hT : subB T T' = true := by rfl) : Sub G (.fact s (Fact.rep T' y) :: G') := Sub.cons (Has.cv (Hs h) (Cv.m hT)) k

variable {Gc : List It}
theorem ck (k : Carry G u Gc) (h : look G s = some f := by rfl) (hv : VFree f := by exact fun _ _ _ _ h => h) : Carry G u (.fact s f :: Gc) := Carry.keep h hv k
theorem cs (D q : Nat) (k : Carry G u Gc) (h : look G q = some f := by rfl) (hs : D + q = s := by rfl) : Carry G u (.fact s (.cst (u q) f) :: Gc) := hs ▸ Carry.slot (Hs h) k
end

section
variable {X : Cx} {G : List It} {Q : Exit → Act → World → Prop} {ops : Array Oper} {rest : List Oper} {d : Nat} {op : Op} {ty : TypeId} {pos : String} {af : Array Edge}
/-- An operation. -/
theorem wo {f : Fact} (h : Spec X G ⟨some d, op, ty, pos, af, none⟩ f) (k : Walk X ops Q (.fact d f :: G) rest) (hd : Nat.blt d X.n = true := by rfl) (hnd : ndB op = true := by rfl) : Walk X ops Q G (⟨some d, op, ty, pos, af, none⟩ :: rest) := Walk.op hd h k hnd
theorem ws {I : List It} {o : Oper} (h : Step X G o I) (k : Walk X ops Q (I ++ G) rest) (hg : o.guard = none := by rfl) (hnd : ndB o.op = true := by rfl) : Walk X ops Q G (o :: rest) := Walk.step hg h k hnd
theorem wg {j dj : Nat} {want b : Bool} {T : List Nat} {f : Fact} (hj : (ops[j]?).bind (·.dst) = some dj) (hb : look G dj = some (Fact.rep T b)) (h : b = want → Spec X G ⟨some d, op, ty, pos, af, some (j, want)⟩ f) (k : Walk X ops Q (.fact d (f.under (b = want)) :: G) rest) (hd : Nat.blt d X.n = true := by rfl) (hnd : ndB op = true := by rfl) : Walk X ops Q G (⟨some d, op, ty, pos, af, some (j, want)⟩ :: rest) := Walk.opg hd hj hb h k hnd
theorem hs {x : Nat} {f : Fact} (h : look G x = some f := by rfl) : Has G (.tmp x) f := Hs h
/-- Move of a slot. -/
theorem mv {x : Nat} {f : Fact} (k : Walk X ops Q (.fact d f :: G) rest) (h : look G x = some f := by rfl) (hd : Nat.blt d X.n = true := by rfl) : Walk X ops Q G (⟨some d, .move (.tmp x), ty, pos, af, none⟩ :: rest) := Walk.op hd (Spec.move (Hs h)) k
/-- Whatever stands after the semicolon. -/
theorem ao {n k : Nat} {AH : List (List Nat)} {Is : List (List It)} {o : Oper} {l : List Oper} (h : StepG X ops (ctxM AH Is G k n) o (isOf Is k)) (r : AllM X ops AH Is G n l (k + 1)) : AllM X ops AH Is G n (o :: l) k := ⟨h, r⟩
theorem so {f : Fact} (h : Spec X G ⟨some d, op, ty, pos, af, none⟩ f) (hd : Nat.blt d X.n = true := by rfl) : StepG X ops G ⟨some d, op, ty, pos, af, none⟩ [.fact d f] := StepG.op hd h
end
end
end GL

namespace GL
section
open Go

/-- Two lists of parts of the same cells. -/
def FlatR (ls fl : Ls) : Prop := ∀ g w cs, FldRel g w ls cs ↔ FldRel g w fl cs
theorem FlatR.nil : FlatR [] [] := fun _ _ _ => Iff.rfl
theorem FlatR.cons {l : Bool × Nat × Fact} {ls fl : Ls} (h : FlatR ls fl) : FlatR (l :: ls) (l :: fl) := fun g w cs => by
  constructor
  · rintro ⟨c1, c2, h1, h2, h3, h4, h5, h6⟩; exact ⟨c1, c2, h1, h2, h3, h4, h5, (h g w c2).1 h6⟩
  · rintro ⟨c1, c2, h1, h2, h3, h4, h5, h6⟩; exact ⟨c1, c2, h1, h2, h3, h4, h5, (h g w c2).2 h6⟩
theorem FldRel.append {g : Gh} {w : World} : ∀ (l m : Ls) (cs : List Value), FldRel g w (l ++ m) cs ↔ ∃ c1 c2, cs = c1 ++ c2 ∧ FldRel g w l c1 ∧ FldRel g w m c2
  | [], m, cs => ⟨fun h => ⟨[], cs, rfl, rfl, h⟩, fun ⟨c1, c2, h1, h2, h3⟩ => by rw [show c1 = [] from h2] at h1; rw [h1]; exact h3⟩
  | a :: l, m, cs => by
    constructor
    · rintro ⟨c1, c2, h1, h2, h3, h4, h5, h6⟩
      obtain ⟨d1, d2, h7, h8, h9⟩ := (FldRel.append l m c2).1 h6
      exact ⟨c1 ++ d1, d2, by rw [h1, h7, List.append_assoc], ⟨c1, d1, rfl, h2, h3, h4, h5, h8⟩, h9⟩
    · rintro ⟨e1, e2, h1, ⟨c1, c2, k1, h2, h3, h4, h5, h6⟩, h9⟩
      exact ⟨c1, c2 ++ e2, by rw [h1, k1, List.append_assoc], h2, h3, h4, h5, (FldRel.append l m _).2 ⟨c2, e2, rfl, h6, h9⟩⟩
theorem FlatR.sub {inner inner' ls fl : Ls} {n : Nat} (hi : FlatR inner inner') (hn : lsN inner' = n) (h : FlatR ls fl) : FlatR ((true, n, .flds inner) :: ls) (inner' ++ fl) := fun g w cs => by
  constructor
  · rintro ⟨c1, c2, h1, h2, h3, h4, ⟨cs', h5, h5'⟩, h6⟩
    have : c1 = cs' := by
      simp only [mkV, if_true] at h5
      exact toA_inj (by injection h5)
    subst this
    exact (FldRel.append inner' fl cs).2 ⟨c1, c2, h1, (hi g w c1).1 h5', (h g w c2).1 h6⟩
  · intro hh
    obtain ⟨c1, c2, h1, h2, h3⟩ := (FldRel.append inner' fl cs).1 hh
    exact ⟨c1, c2, h1, by rw [h2.len]; exact hn, FldRel.one _ _ h2, (fun h => by cases h), ⟨c1, rfl, (hi g w c1).2 h2⟩, (h g w c2).2 h3⟩
theorem Cv.flat {G : List It} {ls fl : Ls} (h : FlatR ls fl) : Cv G (.flds ls) (.flds fl) := fun _ w g _ _ ⟨cs, hv, hr⟩ => ⟨cs, hv, (h g w cs).1 hr⟩
theorem Cv.unflat {G : List It} {ls fl : Ls} (h : FlatR ls fl) : Cv G (.flds fl) (.flds ls) := fun _ w g _ _ ⟨cs, hv, hr⟩ => ⟨cs, hv, (h g w cs).2 hr⟩

theorem FldRel.zs {g : Gh} {w : World} {inner ls : Ls} {c1 c2 : List Value} {n : Nat} (hi : FldRel g w inner c1) (k : FldRel g w ls c2) (hn : c1.length = n := by rfl) : FldRel g w ((true, n, .flds inner) :: ls) (c1 ++ c2) :=
  ⟨c1, c2, rfl, hn, FldRel.one _ _ hi, (fun h => by cases h), ⟨c1, rfl, hi⟩, k⟩

section
variable {X : Cx} {G : List It} {d : Option Nat} {ty : TypeId} {pos : String} {af : Array Edge} {gd : Option (Nat × Bool)}
theorem Spec.unflat {o : Oper} {ls fl : Ls} (h : FlatR ls fl) (k : Spec X G o (.flds fl)) : Spec X G o (.flds ls) := fun a w g hs hfr hg hf K Q hK =>
  k a w g hs hfr hg hf K Q (fun v w' ⟨h1, g', h2, h3, h4, ⟨cs, hv, hr⟩⟩ => hK v w' ⟨h1, g', h2, h3, h4, ⟨cs, hv, (h g' w' cs).2 hr⟩⟩)

/-- Some of the parts of a variable. -/
theorem PRel.append {g : Gh} : ∀ (a b : Ps) (t : Nat) (cs : List Value), PRel g t (a ++ b) cs ↔ ∃ c1 c2, cs = c1 ++ c2 ∧ PRel g t a c1 ∧ PRel g (t + a.length) b c2
  | [], b, t, cs => ⟨fun h => ⟨[], cs, rfl, rfl, h⟩, fun ⟨c1, c2, h1, h2, h3⟩ => by rw [show c1 = [] from h2] at h1; rw [h1]; exact h3⟩
  | l :: a, b, t, cs => by
    have e : t + (l :: a).length = t + 1 + a.length := by simp; omega
    constructor
    · rintro ⟨c1, c2, h1, h2, h3, h4, h5, h6⟩
      obtain ⟨d1, d2, h7, h8, h9⟩ := (PRel.append a b (t + 1) c2).1 h6
      exact ⟨c1 ++ d1, d2, by rw [h1, h7, List.append_assoc], ⟨c1, d1, rfl, h2, h3, h4, h5, h8⟩, by rw [e]; exact h9⟩
    · rintro ⟨e1, e2, h1, ⟨c1, c2, k1, h2, h3, h4, h5, h6⟩, h9⟩
      exact ⟨c1, c2 ++ e2, by rw [h1, k1, List.append_assoc], h2, h3, h4, h5, (PRel.append a b (t + 1) _).2 ⟨c2, e2, rfl, h6, by rw [← e]; exact h9⟩⟩

theorem Spec.loadParts {x : Operand} {e : TypeId} {α : Type} [R : Rp α] {t i off : Nat} {a b ps : Ps} {ls : Ls} (hty : Ty X.P e α) (hag : R.agg = true) (hps : a ++ lsPs ls ++ b = ps) (hi : a.length = i) (ho' : psN a = off) (hn : lsN ls = R.n) (hx : Has G x (.pto t off))
    (ho : look G (rs t) = some (.obj t ps)) (hf : HasGs G (t + 1 + i) ls) : Spec X G ⟨d, .load e x, ty, pos, af, gd⟩ (.flds ls) :=
  Spec.pure fun ac w g hfa => by
    subst hps hi ho'
    obtain ⟨b0, hb, hv⟩ := hx ac w g hfa
    obtain ⟨b', ty', cs, h1, h2, h3, h4⟩ := hfa _ _ ho
    rw [h1] at hb
    simp only [ownB, Option.some.injEq] at hb
    subst hb
    rw [List.append_assoc] at h4
    obtain ⟨c1, c2, e1, k1, k2⟩ := (PRel.append _ _ _ _).1 h4
    obtain ⟨c3, c4, e2, k3, k4⟩ := (PRel.append _ _ _ _).1 k2
    have h5 := k3.flds hfa ls _ _ hf
    have hl := h5.len
    have hl1 := k1.len
    refine ⟨mkV R.agg c3, ?_, c3, by rw [hag]; rfl, h5⟩
    have hc : CellsAt w ⟨b', psN a, none⟩ c3 := fun j u hj => by
      have hjl : j < c3.length := (List.getElem?_eq_some_iff.1 hj).1
      rw [Go.Addr.add_lit]
      refine ⟨?_, frozen_of_row w b' _ cs ty' h2⟩
      rw [cell_of_row w b' _ cs ty' (0, 0) h2]
      have h6 : cs.toList[psN a + j]? = some u := by
        rw [e1, e2, List.getElem?_append_right (by omega), hl1, Nat.add_sub_cancel_left, List.getElem?_append_left hjl]; exact hj
      simpa using h6
    unfold execOp
    simp [hv, Instr.loadAt, Instr.sureAddr, run_loadVar_cells hty hc (by rw [hl, hn])]
end
end
end GL

namespace GL
section
open Go

/-- Values of type t are compared as data are. -/
def EqV (P : Program) (k : Nat) (t : TypeId) (α : Type) [R : Rp α] : Prop := ∀ d, k ≤ d → ∀ (x y : α) (F F' : Nat → Prop) (cs ds : List Value) (w0 w1 w : World), R.rel F x cs w0 → R.rel F' y ds w1 →
  ∃ b : Bool, (Op.equalIn d t (mkV R.agg cs) (mkV R.agg ds)).run P w = .ok b w ∧ (b = true ↔ x = y)
/-- Fields from an offset on. -/
def EqF (P : Program) (k : Nat) (off : Nat) (fs : List Field) (α : Type) [R : Rp α] : Prop := ∀ d, k ≤ d → ∀ (x y : α) (F F' : Nat → Prop) (pa qa cs ds pb qb : List Value) (w0 w1 w : World), pa.length = off → qa.length = off → R.rel F x cs w0 → R.rel F' y ds w1 →
  ∃ b : Bool, (Op.eqFields d (pa ++ (cs ++ pb)).toArray (qa ++ (ds ++ qb)).toArray fs).run P w = .ok b w ∧ (b = true ↔ x = y)

theorem EqV.i64 {P : Program} {t : TypeId} (h : P.underlying t = some (.int .i64)) : EqV P 1 t Int := fun d hd x y F F' cs ds w0 w1 w h1 h2 => by
  obtain ⟨d, rfl⟩ : ∃ e, d = e + 1 := ⟨d - 1, by omega⟩
  rw [show cs = _ from h1, show ds = _ from h2]
  exact ⟨_, run_equalIn_int w d t .i64 .i64 x y h, by simp⟩
theorem EqV.u8 {P : Program} {t : TypeId} (h : P.underlying t = some (.int .u8)) : EqV P 1 t UInt8 := fun d hd x y F F' cs ds w0 w1 w h1 h2 => by
  obtain ⟨d, rfl⟩ : ∃ e, d = e + 1 := ⟨d - 1, by omega⟩
  rw [show cs = _ from h1, show ds = _ from h2]
  exact ⟨_, run_equalIn_int w d t .u8 .u8 _ _ h, by simp [← UInt8.toNat_inj]; omega⟩
theorem EqV.u32 {P : Program} {t : TypeId} (h : P.underlying t = some (.int .u32)) : EqV P 1 t UInt32 := fun d hd x y F F' cs ds w0 w1 w h1 h2 => by
  obtain ⟨d, rfl⟩ : ∃ e, d = e + 1 := ⟨d - 1, by omega⟩
  rw [show cs = _ from h1, show ds = _ from h2]
  exact ⟨_, run_equalIn_int w d t .u32 .u32 _ _ h, by simp [← UInt32.toNat_inj]; omega⟩
theorem EqV.bool {P : Program} {t : TypeId} (h : P.underlying t = some .bool) : EqV P 1 t Bool := fun d hd x y F F' cs ds w0 w1 w h1 h2 => by
  obtain ⟨d, rfl⟩ : ∃ e, d = e + 1 := ⟨d - 1, by omega⟩
  rw [show cs = _ from h1, show ds = _ from h2]
  exact ⟨_, run_equalIn_bool' w d t x y h, by simp⟩
theorem EqV.mono {P : Program} {k k' : Nat} {t : TypeId} {α : Type} [R : Rp α] (h : EqV P k t α) (hk : k ≤ k') : EqV P k' t α := fun d hd => h d (Nat.le_trans hk hd)

theorem part_mid {P : Program} {t : TypeId} {α : Type} [R : Rp α] (hty : Ty P t α) {F : Nat → Prop} {x : α} {pa cs pb : List Value} {w0 w : World} (h : R.rel F x cs w0) :
    (part t (pa ++ (cs ++ pb)).toArray pa.length).run P w = .ok (mkV R.agg cs) w := by
  have hl := R.len _ _ _ _ h
  unfold part
  simp only [Sem.run_bind, run_isAgg hty, Result.andThen_ok]
  cases hag : R.agg with
  | true =>
    simp only [if_true, Sem.run_bind, rt_sizeOf hty, Result.andThen_ok, Sem.run_pure, mkV]
    congr 2
    apply Array.toList_inj.1
    simp [List.extract_eq_take_drop, ← hl]
  | false =>
    have hn := R.na hag
    rw [hn] at hl
    match cs, hl with
    | [c], _ =>
      simp [mkV]

theorem eqFields_cons {P : Program} (d : Nat) (xs ys : Array Value) (f : Field) (fs : List Field) (w : World) (hb : (f.name == "_") = false) (u v : Value) (b : Bool) (h1 : (part f.type xs f.offset).run P w = .ok u w) (h2 : (part f.type ys f.offset).run P w = .ok v w)
    (h3 : (Op.equalIn d f.type u v).run P w = .ok b w) : (Op.eqFields d xs ys (f :: fs)).run P w = if b then (Op.eqFields d xs ys fs).run P w else .ok false w := by
  have hb' : f.name ≠ "_" := by simpa using hb
  simp only [Op.eqFields, Sem.run_bind, Sem.run_ite, h1, h2, h3, Result.andThen_ok]
  cases b <;> simp [hb', h1, h2, h3]

theorem EqF.one {P : Program} {k off : Nat} {f : Field} {α : Type} [R : Rp α] (hv : EqV P k f.type α) (hty : Ty P f.type α) (ho : f.offset = off) (hb : (f.name == "_") = false) : EqF P k off [f] α := fun d hd x y F F' pa qa cs ds pb qb w0 w1 w hp hq h1 h2 => by
  subst ho
  have e1 := part_mid (P := P) (w := w) hty (pa := pa) (pb := pb) h1
  have e2 := part_mid (P := P) (w := w) hty (pa := qa) (pb := qb) h2
  rw [hp] at e1; rw [hq] at e2
  obtain ⟨b, h3, h4⟩ := hv d hd x y F F' cs ds w0 w1 w h1 h2
  refine ⟨b, ?_, h4⟩
  rw [eqFields_cons d _ _ f [] w hb _ _ _ e1 e2 h3]
  cases b <;> simp [Op.eqFields]
section
variable {X : Cx} {G : List It} {d : Option Nat} {ty : TypeId} {pos : String} {af : Array Edge} {gd : Option (Nat × Bool)} {x y : Operand} {t t' : TypeId} {T T' : List Nat} {α : Type} [R : Rp α] [DecidableEq α] {m n : α}
end
end
end GL

namespace GL
section
open Go Go.ChangeShapes Go.WideShapes Go.ChangeAt Go.RowKit

def OpenF (P : Program) (off : Nat) (fs : List Field) (α : Type) [R : Rp α] (wf : α → Prop) : Prop :=
  ∀ {H : Type} (enc : TypeId × Value → H) (w : World) (fuel : Nat) (cs : List Value) (xs : List (DataW H × List MemPlace)), cs.length = off + R.n →
    fs.mapM (fun f => DataW.trod enc P w 0 (fun _ => true) true fuel f.type ((cs.drop f.offset).take (P.cellsOf f.type))) = some xs → w.noneFrozen (xs.flatMap (·.2)) → ∃ y : α, wf y ∧ R.rel (fun _ => True) y (cs.drop off) w
theorem OpenF.one {P : Program} {off : Nat} {f : Field} {α : Type} [R : Rp α] {wf : α → Prop} (he : OpenTy P f.type α wf) (ho : f.offset = off) (hn : P.cellsOf f.type = R.n) : OpenF P off [f] α wf := fun enc w fuel cs xs hl hm hz => by
  rw [List.mapM_cons] at hm
  simp only [Option.bind_eq_bind, Option.bind_eq_some_iff, Option.pure_def, Option.some.injEq, List.mapM_nil] at hm
  obtain ⟨x, hx, _, rfl, rfl⟩ := hm
  rw [ho, hn, List.take_of_length_le (by simp; omega)] at hx
  exact he enc w fuel _ x hx (fun b o h => hz b o (by simp [h]))
theorem OpenF.cons {P : Program} {off : Nat} {f : Field} {fs : List Field} {α β : Type} [A : Rp α] [B : Rp β] {wf : α → Prop} {wf' : β → Prop} (he : OpenTy P f.type α wf) (ho : f.offset = off) (hn : P.cellsOf f.type = A.n)
    (h : OpenF P (off + A.n) fs β wf') : OpenF P off (f :: fs) (α × β) (fun x => wf x.1 ∧ wf' x.2) := fun enc w fuel cs xs hl hm hz => by
  have hl' : cs.length = off + A.n + B.n := by rw [hl]; exact (Nat.add_assoc _ _ _).symm
  rw [List.mapM_cons] at hm
  simp only [Option.bind_eq_bind, Option.bind_eq_some_iff, Option.pure_def, Option.some.injEq] at hm
  obtain ⟨x, hx, xs', hxs, rfl⟩ := hm
  rw [ho, hn] at hx
  obtain ⟨y, hy, hr⟩ := he enc w fuel _ x hx (fun b o hh => hz b o (by simp [hh]))
  obtain ⟨z, hz', hr'⟩ := h enc w fuel cs xs' hl' hxs (fun b o hh => hz b o (by rw [List.flatMap_cons]; exact List.mem_append_right _ hh))
  refine ⟨(y, z), ⟨hy, hz'⟩, (cs.drop off).take A.n, cs.drop (off + A.n), ?_, hr, hr'⟩
  rw [← List.drop_drop, List.take_append_drop]
theorem open_struct {P : Program} {t : TypeId} {fs : Array Field} {α β : Type} {B : Rp β} {wf : β → Prop} {f : α → β} (g : β → α) (h : P.underlying t = some (.struct fs)) (hn : P.cellsOf t = B.n) (hF : @OpenF P 0 fs.toList β B wf) (hg : ∀ y, f (g y) = y) :
    @OpenTy P t α (Rp.via B f) (fun x => wf (f x)) := by
  intro H enc w fuel cs x hx hfz
  cases fuel with
  | zero => simp [DataW.trod] at hx
  | succ fuel =>
    unfold DataW.trod at hx
    rw [h] at hx
    have hx' : (if cs.length = P.cellsOf t then (fs.toList.mapM fun f => DataW.trod enc P w 0 (fun _ => true) true fuel f.type ((cs.drop f.offset).take (P.cellsOf f.type))).map fun xs => (DataW.agg (xs.map (·.1)), xs.flatMap (·.2)) else none) = some x := by
      rw [← hx]
    split at hx'
    case isFalse => cases hx'
    rename_i hl
    simp only [Option.map_eq_some_iff] at hx'
    obtain ⟨xs, hxs, rfl⟩ := hx'
    obtain ⟨y, hy, hr⟩ := hF enc w fuel cs xs (by rw [hl, hn]; omega) hxs hfz
    refine ⟨g y, (by show wf (f (g y)); rw [hg]; exact hy), ?_⟩
    show B.rel _ (f (g y)) cs w
    rw [hg]
    simpa using hr
/-- The same, shut. -/
structure OT (P : Program) (t : TypeId) (α : Type) [R : Rp α] (wf : α → Prop) : Prop where
  h : OpenTy P t α wf
structure OF (P : Program) (off : Nat) (fs : List Field) (α : Type) [R : Rp α] (wf : α → Prop) : Prop where
  h : OpenF P off fs α wf
theorem OF.one {P : Program} {off : Nat} {f : Field} {α : Type} [R : Rp α] {wf : α → Prop} (he : OT P f.type α wf) (ho : f.offset = off) (hn : P.cellsOf f.type = R.n) : OF P off [f] α wf := ⟨OpenF.one he.h ho hn⟩
theorem OF.cons {P : Program} {off : Nat} {f : Field} {fs : List Field} {α β : Type} [A : Rp α] [B : Rp β] {wf : α → Prop} {wf' : β → Prop} (he : OT P f.type α wf) (ho : f.offset = off) (hn : P.cellsOf f.type = A.n)
    (h : OF P (off + A.n) fs β wf') : OF P off (f :: fs) (α × β) (fun x => wf x.1 ∧ wf' x.2) := ⟨OpenF.cons he.h ho hn h.h⟩
theorem OT.struct {P : Program} {t : TypeId} {fs : Array Field} {α β : Type} {B : Rp β} {wf : β → Prop} {f : α → β} (g : β → α) (h : P.underlying t = some (.struct fs)) (hn : P.cellsOf t = B.n) (hF : @OF P 0 fs.toList β B wf) (hg : ∀ y, f (g y) = y) :
    @OT P t α (Rp.via B f) (fun x => wf (f x)) := @OT.mk P t α (Rp.via B f) _ (open_struct g h hn hF.h hg)
theorem OT.i64 {P : Program} {t : TypeId} (h : P.underlying t = some (.int .i64)) : OT P t Int inI := ⟨open_i64 h⟩
theorem OT.u8 {P : Program} {t : TypeId} (h : P.underlying t = some (.int .u8)) : OT P t UInt8 (fun _ => True) := ⟨open_u8 h⟩
theorem OT.u32 {P : Program} {t : TypeId} (h : P.underlying t = some (.int .u32)) : OT P t UInt32 (fun _ => True) := ⟨open_u32 h⟩
theorem OT.bool {P : Program} {t : TypeId} (h : P.underlying t = some .bool) : OT P t Bool (fun _ => True) := ⟨open_bool h⟩
theorem OT.slice {P : Program} {t e : TypeId} {α : Type} [R : Rp α] {wf : α → Prop} (h : P.underlying t = some (.slice e)) (hn : P.cellsOf e = R.n) (hpos : 0 < R.n) (he : OT P e α wf) :
    OT P t (List α) (fun l => l.length ≤ 9223372036854775807 ∧ ∀ x ∈ l, wf x) := ⟨open_slice h hn hpos he.h⟩
end
end GL

namespace GL
section
open Go

/-- Scalars, by kind. -/
def scK : Nat → Value → Prop
  | 0, u => ∃ n : Int, u = .int .i64 n
  | 1, u => ∃ n : UInt8, u = .int .u8 (n.toNat : Int)
  | 2, u => ∃ n : UInt32, u = .int .u32 (n.toNat : Int)
  | _, u => ∃ b : Bool, u = .bool b
def Like (u v : Value) : Prop := u = v ∨ ∃ c, scK c u ∧ scK c v
theorem scK_uniq {c d : Nat} {u : Value} (h : scK c u) (k : scK d u) : ∀ v, scK d v → scK c v := by
  intro v hv
  match c, d with
  | 0, 0 => exact hv
  | 1, 1 => exact hv
  | 2, 2 => exact hv
  | c + 3, d + 3 => exact hv
  | 0, 1 => obtain ⟨n, rfl⟩ := h; obtain ⟨m, hm⟩ := k; cases hm
  | 0, 2 => obtain ⟨n, rfl⟩ := h; obtain ⟨m, hm⟩ := k; cases hm
  | 0, d + 3 => obtain ⟨n, rfl⟩ := h; obtain ⟨m, hm⟩ := k; cases hm
  | 1, 0 => obtain ⟨n, rfl⟩ := h; obtain ⟨m, hm⟩ := k; cases hm
  | 1, 2 => obtain ⟨n, rfl⟩ := h; obtain ⟨m, hm⟩ := k; cases hm
  | 1, d + 3 => obtain ⟨n, rfl⟩ := h; obtain ⟨m, hm⟩ := k; cases hm
  | 2, 0 => obtain ⟨n, rfl⟩ := h; obtain ⟨m, hm⟩ := k; cases hm
  | 2, 1 => obtain ⟨n, rfl⟩ := h; obtain ⟨m, hm⟩ := k; cases hm
  | 2, d + 3 => obtain ⟨n, rfl⟩ := h; obtain ⟨m, hm⟩ := k; cases hm
  | c + 3, 0 => obtain ⟨n, rfl⟩ := h; obtain ⟨m, hm⟩ := k; cases hm
  | c + 3, 1 => obtain ⟨n, rfl⟩ := h; obtain ⟨m, hm⟩ := k; cases hm
  | c + 3, 2 => obtain ⟨n, rfl⟩ := h; obtain ⟨m, hm⟩ := k; cases hm
theorem Like.sc {c : Nat} {u v : Value} (h : Like u v) (k : scK c u) : scK c v := by
  rcases h with rfl | ⟨d, h1, h2⟩
  · exact k
  · exact scK_uniq k h1 v h2
theorem Like.trans {u v x : Value} (h : Like u v) (k : Like v x) : Like u x := by
  rcases h with rfl | ⟨c, h1, h2⟩
  · exact k
  · exact .inr ⟨c, h1, k.sc h2⟩
theorem Like.eq {u v : Value} (h : Like u v) (hn : ∀ c, ¬ scK c u) : u = v := by
  rcases h with rfl | ⟨c, h1, _⟩
  · rfl
  · exact (hn c h1).elim
theorem Like.slice {a : Option Addr} {n c : Nat} {v : Value} (h : Like (.slice a n c) v) : v = .slice a n c := by
  refine (h.eq (fun d hd => ?_)).symm
  match d with
  | 0 => obtain ⟨_, h⟩ := hd; cases h
  | 1 => obtain ⟨_, h⟩ := hd; cases h
  | 2 => obtain ⟨_, h⟩ := hd; cases h
  | _ + 3 => obtain ⟨_, h⟩ := hd; cases h
theorem Like.string {s : ByteArray} {v : Value} (h : Like (.string s) v) : v = .string s := by
  refine (h.eq (fun d hd => ?_)).symm
  match d with
  | 0 => obtain ⟨_, h⟩ := hd; cases h
  | 1 => obtain ⟨_, h⟩ := hd; cases h
  | 2 => obtain ⟨_, h⟩ := hd; cases h
  | _ + 3 => obtain ⟨_, h⟩ := hd; cases h
theorem scK_one {c : Nat} {u : Value} (h : scK c u) : u.oneCell' = true ∧ u.cells = #[u] := by
  match c with
  | 0 => obtain ⟨_, rfl⟩ := h; exact ⟨rfl, rfl⟩
  | 1 => obtain ⟨_, rfl⟩ := h; exact ⟨rfl, rfl⟩
  | 2 => obtain ⟨_, rfl⟩ := h; exact ⟨rfl, rfl⟩
  | _ + 3 => obtain ⟨_, rfl⟩ := h; exact ⟨rfl, rfl⟩

/-- Blocks of F hold in w' what they hold in w, but for scalars' values. -/
structure LikeW (w w' : World) (F F' : Nat → Prop) : Prop where
  size : w.heap.size ≤ w'.heap.size
  f : ∀ b, b < w.heap.size → F b → F' b
  cell : ∀ (ad : Addr) (u : Value), ad.block < w.heap.size → F ad.block → w.cell? ad = some u → w.frozen? ad = false → ∃ u', w'.cell? ad = some u' ∧ w'.frozen? ad = false ∧ Like u u'
theorem LikeW.trans {a b c : World} {F G H : Nat → Prop} (h : LikeW a b F G) (k : LikeW b c G H) : LikeW a c F H :=
  ⟨Nat.le_trans h.size k.size, fun x hx hF => k.f x (Nat.lt_of_lt_of_le hx h.size) (h.f x hx hF), fun ad u hb hF hc hz => by
    obtain ⟨u1, h1, h2, h3⟩ := h.cell ad u hb hF hc hz
    obtain ⟨u2, k1, k2, k3⟩ := k.cell ad u1 (Nat.lt_of_lt_of_le hb h.size) (h.f _ hb hF) h1 h2
    exact ⟨u2, k1, k2, h3.trans k3⟩⟩
class Lo (α : Type) [R : Rp α] where
  rel : (Nat → Prop) → α → List Value → World → Prop
  of : ∀ F x cs w, R.rel F x cs w → rel F x cs w
  len : ∀ F x cs w, rel F x cs w → cs.length = R.n
  one : ∀ F x cs w, rel F x cs w → ∀ c ∈ cs, c.oneCell' = true
  like : ∀ (F F' : Nat → Prop) (x : α) (cs cs' : List Value) (w w' : World), LikeW w w' F F' → cs'.length = cs.length → (∀ (j : Nat) u u', cs[j]? = some u → cs'[j]? = some u' → Like u u') → rel F x cs w → rel F' x cs' w'

theorem one_of {cs : List Value} {v u : Value} (h : cs = [v]) {cs' : List Value} (hl : cs'.length = cs.length) (hk : ∀ (j : Nat) u u', cs[j]? = some u → cs'[j]? = some u' → Like u u') : ∃ u', cs' = [u'] ∧ Like v u' := by
  subst h
  match cs', hl with
  | [u'], _ => exact ⟨u', rfl, hk 0 v u' rfl rfl⟩
instance : Lo Int where
  rel := fun _ _ cs _ => ∃ u, cs = [u] ∧ scK 0 u
  of := fun _ x cs _ h => ⟨_, h, x, rfl⟩
  len := fun _ _ _ _ ⟨_, h, _⟩ => by rw [h]; rfl
  one := fun _ _ _ _ ⟨_, h, k⟩ => by rw [h]; simpa using (scK_one k).1
  like := fun _ _ _ cs cs' _ _ _ hl hk ⟨u, h, k⟩ => by
    obtain ⟨u', h', hlk⟩ := one_of (u := u) h hl hk
    exact ⟨u', h', hlk.sc k⟩
instance : Lo UInt8 where
  rel := fun _ _ cs _ => ∃ u, cs = [u] ∧ scK 1 u
  of := fun _ x cs _ h => ⟨_, h, x, rfl⟩
  len := fun _ _ _ _ ⟨_, h, _⟩ => by rw [h]; rfl
  one := fun _ _ _ _ ⟨_, h, k⟩ => by rw [h]; simpa using (scK_one k).1
  like := fun _ _ _ cs cs' _ _ _ hl hk ⟨u, h, k⟩ => by
    obtain ⟨u', h', hlk⟩ := one_of (u := u) h hl hk
    exact ⟨u', h', hlk.sc k⟩
instance : Lo UInt32 where
  rel := fun _ _ cs _ => ∃ u, cs = [u] ∧ scK 2 u
  of := fun _ x cs _ h => ⟨_, h, x, rfl⟩
  len := fun _ _ _ _ ⟨_, h, _⟩ => by rw [h]; rfl
  one := fun _ _ _ _ ⟨_, h, k⟩ => by rw [h]; simpa using (scK_one k).1
  like := fun _ _ _ cs cs' _ _ _ hl hk ⟨u, h, k⟩ => by
    obtain ⟨u', h', hlk⟩ := one_of (u := u) h hl hk
    exact ⟨u', h', hlk.sc k⟩
instance : Lo Bool where
  rel := fun _ _ cs _ => ∃ u, cs = [u] ∧ scK 3 u
  of := fun _ x cs _ h => ⟨_, h, x, rfl⟩
  len := fun _ _ _ _ ⟨_, h, _⟩ => by rw [h]; rfl
  one := fun _ _ _ _ ⟨_, h, k⟩ => by rw [h]; simpa using (scK_one k).1
  like := fun _ _ _ cs cs' _ _ _ hl hk ⟨u, h, k⟩ => by
    obtain ⟨u', h', hlk⟩ := one_of (u := u) h hl hk
    exact ⟨u', h', hlk.sc k⟩
instance : Lo Str where
  rel := fun _ x cs _ => cs = [.string ⟨x.s.toArray⟩]
  of := fun _ _ _ _ h => h
  len := fun _ _ _ _ h => by rw [h]; rfl
  one := fun _ _ _ _ h => by rw [h]; simp [Value.oneCell']
  like := fun _ _ _ cs cs' _ _ _ hl hk h => by
    obtain ⟨u', h', hlk⟩ := one_of (u := .string ⟨#[]⟩) h hl hk
    rw [h', hlk.string]

theorem likeCells {w w' : World} {F F' : Nat → Prop} (h : LikeW w w' F F') {ad : Addr} (hF : F ad.block) (hb : ad.block < w.heap.size) : ∀ es : List Value, CellsAt w ad es →
    ∃ es' : List Value, CellsAt w' ad es' ∧ es'.length = es.length ∧ ∀ (j : Nat) u u', es[j]? = some u → es'[j]? = some u' → Like u u' := fun es hc => by
  have key : ∀ (n : Nat), n ≤ es.length → ∃ es' : List Value, es'.length = n ∧ (∀ (j : Nat) u, es'[j]? = some u → w'.cell? (ad.add j) = some u ∧ w'.frozen? (ad.add j) = false) ∧ ∀ (j : Nat) u u', es[j]? = some u → es'[j]? = some u' → Like u u' := by
    intro n
    induction n with
    | zero => intro _; exact ⟨[], rfl, fun j u hj => by simp at hj, fun j u u' _ hj => by simp at hj⟩
    | succ n ih =>
      intro hn
      obtain ⟨es', h1, h2, h3⟩ := ih (by omega)
      have hn2 : n < es.length := by omega
      obtain ⟨c1, c2⟩ := hc n es[n] (List.getElem?_eq_getElem hn2)
      obtain ⟨u', k1, k2, k3⟩ := h.cell (ad.add n) es[n] (by rw [Addr.add_block]; exact hb) (by rw [Addr.add_block]; exact hF) c1 c2
      refine ⟨es' ++ [u'], by simp [h1], fun j u hj => ?_, fun j u v hj hj' => ?_⟩
      · rcases Nat.lt_or_ge j es'.length with hlt | hge
        · rw [List.getElem?_append_left hlt] at hj; exact h2 j u hj
        · rw [List.getElem?_append_right hge] at hj
          have hj0 : j - es'.length = 0 := by have := (List.getElem?_eq_some_iff.1 hj).1; simp at this; omega
          rw [hj0] at hj
          simp only [List.getElem?_cons_zero, Option.some.injEq] at hj
          subst hj
          have : j = n := by omega
          subst this
          exact ⟨k1, k2⟩
      · rcases Nat.lt_or_ge j es'.length with hlt | hge
        · rw [List.getElem?_append_left hlt] at hj'; exact h3 j u v hj hj'
        · rw [List.getElem?_append_right hge] at hj'
          have hj0 : j - es'.length = 0 := by have := (List.getElem?_eq_some_iff.1 hj').1; simp at this; omega
          rw [hj0] at hj'
          simp only [List.getElem?_cons_zero, Option.some.injEq] at hj'
          subst hj'
          have : j = n := by omega
          subst this
          rw [List.getElem?_eq_getElem hn2] at hj
          cases hj
          exact k3
  obtain ⟨es', h1, h2, h3⟩ := key es.length (Nat.le_refl _)
  exact ⟨es', h2, h1, h3⟩

instance {α : Type} [R : Rp α] [L : Lo α] : Lo (List α) where
  rel := fun F l cs w => ∃ (a : Option Addr) (c : Nat), cs = [.slice a l.length c] ∧ l.length ≤ c ∧ (a = none → l = [] ∧ c = 0) ∧
    ∀ ad, a = some ad → ∀ (i : Nat) (x : α), l[i]? = some x → F ad.block ∧ ad.block < w.heap.size ∧ ∃ es, CellsAt w (ad.add (i * R.n)) es ∧ L.rel F x es w
  of := fun F l cs w h => by
    obtain ⟨a, c, h1, h2, h3, h4⟩ := h
    refine ⟨a, c, h1, h2, h3, fun ad ha i x hx => ?_⟩
    obtain ⟨k1, k2, es, k3, k4⟩ := h4 ad ha i x hx
    exact ⟨k1, k2, es, k3, L.of F x es w k4⟩
  len := fun _ _ _ _ h => by obtain ⟨a, c, h, _⟩ := h; rw [h]; rfl
  one := fun _ _ _ _ h => by obtain ⟨a, c, h, _⟩ := h; rw [h]; simp [Value.oneCell']
  like := fun F F' l cs cs' w w' hW hl hk h => by
    obtain ⟨a, c, h1, h2, h3, h4⟩ := h
    obtain ⟨u', h5, h6⟩ := one_of (u := .bool true) h1 hl hk
    refine ⟨a, c, by rw [h5, h6.slice], h2, h3, fun ad ha i x hx => ?_⟩
    obtain ⟨k1, k2, es, k3, k4⟩ := h4 ad ha i x hx
    obtain ⟨es', j1, j2, j3⟩ := likeCells hW (ad := ad.add (i * R.n)) (by rw [Addr.add_block]; exact k1) (by rw [Addr.add_block]; exact k2) es k3
    exact ⟨hW.f _ k2 k1, Nat.lt_of_lt_of_le k2 hW.size, es', j1, L.like F F' x es es' w w' hW j2 j3 k4⟩
instance {α β : Type} [A : Rp α] [B : Rp β] [LA : Lo α] [LB : Lo β] : Lo (α × β) where
  rel := fun F x cs w => ∃ c1 c2, cs = c1 ++ c2 ∧ LA.rel F x.1 c1 w ∧ LB.rel F x.2 c2 w
  of := fun F x cs w h => by obtain ⟨c1, c2, h, h1, h2⟩ := h; exact ⟨c1, c2, h, LA.of _ _ _ _ h1, LB.of _ _ _ _ h2⟩
  len := fun F x cs w h => by obtain ⟨c1, c2, rfl, h1, h2⟩ := h; rw [List.length_append, LA.len _ _ _ _ h1, LB.len _ _ _ _ h2]; rfl
  one := fun F x cs w h => by
    obtain ⟨c1, c2, rfl, h1, h2⟩ := h
    intro c hc
    rcases List.mem_append.1 hc with hc | hc
    · exact LA.one _ _ _ _ h1 c hc
    · exact LB.one _ _ _ _ h2 c hc
  like := fun F F' x cs cs' w w' hW hl hk h => by
    obtain ⟨c1, c2, rfl, h1, h2⟩ := h
    have hl1 := LA.len _ _ _ _ h1
    have hl2 := LB.len _ _ _ _ h2
    rw [List.length_append] at hl
    refine ⟨cs'.take c1.length, cs'.drop c1.length, (List.take_append_drop _ _).symm, LA.like F F' x.1 c1 _ w w' hW (by simp; omega) (fun j u u' hj hj' => ?_) h1, LB.like F F' x.2 c2 _ w w' hW (by simp; omega) (fun j u u' hj hj' => ?_) h2⟩
    · have hjl : j < c1.length := (List.getElem?_eq_some_iff.1 hj).1
      rw [List.getElem?_take_of_lt hjl] at hj'
      exact hk j u u' (by rw [List.getElem?_append_left hjl]; exact hj) hj'
    · rw [List.getElem?_drop] at hj'
      exact hk (c1.length + j) u u' (by rw [List.getElem?_append_right (by omega), Nat.add_sub_cancel_left]; exact hj) hj'
abbrev Lo.via {α β : Type} (B : Rp β) (L : @Lo β B) (f : α → β) : @Lo α (Rp.via B f) :=
  @Lo.mk α (Rp.via B f) (fun F x cs w => L.rel F (f x) cs w) (fun F x cs w h => L.of F (f x) cs w h) (fun F x cs w h => L.len F (f x) cs w h) (fun F x cs w h => L.one F (f x) cs w h)
    (fun F F' x cs cs' w w' h1 h2 h3 h4 => L.like F F' (f x) cs cs' w w' h1 h2 h3 h4)

end
end GL

