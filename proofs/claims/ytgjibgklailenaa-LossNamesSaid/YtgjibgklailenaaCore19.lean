/- Own library, part 19: function values; a call walked where it stands. -/
import Derived.Test.YtgjibgklailenaaCore18
namespace GL
open Go

def AllP (g : Gh) (w : World) : List Fact → List Value → Prop
  | [], vs => vs = []
  | f :: fs, vs => ∃ v vr, vs = v :: vr ∧ f.p g v w ∧ AllP g w fs vr
theorem AllP.stab {g g' : Gh} {w w' : World} : ∀ (fs : List Fact) (vs : List Value), Keeps (fs.flatMap fun f => f.tags) (fs.flatMap fun f => f.ids) g g' w w' → AllP g w fs vs → AllP g' w' fs vs
  | [], _, _, h => h
  | f :: fs, vs, hk, h => by
    obtain ⟨v, vr, h1, h2, h3⟩ := h
    exact ⟨v, vr, h1, f.stab g g' _ w w' ⟨hk.size, fun b hb ht => hk.block b hb (by simp [List.flatMap_cons, ht]), fun t ht => hk.ids t (by simp [List.flatMap_cons, ht])⟩ h2,
      AllP.stab fs vr ⟨hk.size, fun b hb ht => hk.block b hb (by rw [List.flatMap_cons]; exact List.mem_append_right _ ht), fun t ht => hk.ids t (by rw [List.flatMap_cons]; exact List.mem_append_right _ ht)⟩ h3⟩
theorem AllP.app {g : Gh} {w : World} : ∀ (fs fs' : List Fact) (vs vs' : List Value), AllP g w fs vs → AllP g w fs' vs' → AllP g w (fs ++ fs') (vs ++ vs')
  | [], _, vs, _, h, k => by rw [show vs = [] from h]; exact k
  | f :: fs, fs', vs, vs', h, k => by
    obtain ⟨v, vr, rfl, h2, h3⟩ := h
    exact ⟨v, vr ++ vs', rfl, h2, AllP.app fs fs' vr vs' h3 k⟩

/-- A function's value: which one, with what it holds. -/
def Fact.fnv (k : FuncId) (fs cs : List Fact) : Fact where
  tags := (fs ++ cs).flatMap fun f => f.tags
  ids := (fs ++ cs).flatMap fun f => f.ids
  p := fun g v w => ∃ us vs, v = .func (.func k) us.toArray vs.toArray ∧ AllP g w fs us ∧ AllP g w cs vs
  stab := fun g g' v w w' hk h => by
    obtain ⟨us, vs, hv, h1, h2⟩ := h
    rw [List.flatMap_append] at hk
    rw [List.flatMap_append] at hk
    exact ⟨us, vs, hv, h1.stab fs us ⟨hk.size, fun b hb ht => hk.block b hb (List.mem_append_left _ ht), fun t ht => hk.ids t (List.mem_append_left _ ht)⟩,
      h2.stab cs vs ⟨hk.size, fun b hb ht => hk.block b hb (List.mem_append_right _ ht), fun t ht => hk.ids t (List.mem_append_right _ ht)⟩⟩

/-- A fact on a value that another frame keeps. -/
def Fact.cst (v0 : Value) (f : Fact) : Fact where
  tags := f.tags
  ids := f.ids
  p := fun g _ w => f.p g v0 w
  stab := fun g g' _ w w' hk h => f.stab g g' v0 w w' hk h

def VFree (f : Fact) : Prop := ∀ g v v' w, f.p g v w → f.p g v' w
theorem VFree.cst {v0 : Value} {f : Fact} : VFree (.cst v0 f) := fun _ _ _ _ h => h
theorem VFree.at {i : Nat} {f : Fact} : VFree (.at i f) := fun _ _ _ _ h => h
theorem VFree.obj {t : Nat} {ps : Ps} : VFree (.obj t ps) := fun _ _ _ _ h => h
theorem VFree.own {α : Type} [Rp α] {t : Nat} {te : List Nat} {e : TypeId} {l : List α} : VFree (.own t te e l) := fun _ _ _ _ h => h
theorem VFree.arr {α : Type} [Rp α] {t n : Nat} {te : List Nat} {l : List α} : VFree (.arr t te n l) := fun _ _ _ _ h => h
theorem VFree.mutS {α : Type} [Rp α] {t : Nat} {te : List Nat} {l : List α} : VFree (.mutS t te l) := fun _ _ _ _ h => h

section
variable {G : List It} {d : Option Nat} {ty : TypeId} {pos : String} {af : Array Edge} {gd : Option (Nat × Bool)}
/-- Facts on a list of operands. -/
def HasF (G : List It) : List Operand → List Fact → Prop
  | [], fs => fs = []
  | x :: xs, fs => ∃ f fr, fs = f :: fr ∧ Has G x f ∧ HasF G xs fr
theorem HasF.nil : HasF G [] [] := rfl
theorem HasF.cons {x : Operand} {xs : List Operand} {f : Fact} {fs : List Fact} (h : Has G x f) (k : HasF G xs fs) : HasF G (x :: xs) (f :: fs) := ⟨f, fs, rfl, h, k⟩
theorem HasF.all : ∀ (xs : List Operand) (fs : List Fact), HasF G xs fs → ∀ {a : Act} {w : World} {g : Gh}, Facts G g a w → AllP g w fs (xs.map a.eval)
  | [], fs, h, _, _, _, _ => by rw [show fs = [] from h]; rfl
  | x :: xs, fs, h, a, w, g, hf => by
    obtain ⟨f, fr, rfl, h1, h2⟩ := h
    exact ⟨_, _, rfl, h1 a w g hf, HasF.all xs fr h2 hf⟩

theorem Spec.makeFunc {X : Cx} {k : FuncId} {xs ys : List Operand} {fs cs : List Fact} {xa ya : Array Operand} (hxa : xa = xs.toArray) (hya : ya = ys.toArray) (h1 : HasF G xs fs) (h2 : HasF G ys cs)
    (hrun : ∀ (us vs : Array Value) w, (Instr.makeFunc (.func k) us vs).run X.P w = .ok (.func (.func k) us vs) w) : Spec X G ⟨d, .makeFunc (.func k) xa ya, ty, pos, af, gd⟩ (.fnv k fs cs) :=
  Spec.pure fun a w g hf => by
    refine ⟨.func (.func k) (xs.map a.eval).toArray (ys.map a.eval).toArray, ?_, _, _, rfl, h1.all xs fs hf, h2.all ys cs hf⟩
    unfold execOp
    simp [hxa, hya, hrun]

/-- A call that enters function k, with facts on all that it is handed. -/
def CallOk (X : Cx) (G : List It) (o : Oper) (k : FuncId) (FA : List Fact) : Prop :=
  ∀ a w g, Facts G g a w → ∃ vals, (execOp a.eval o).run X.P w = .ok (.enter k vals.toArray) w ∧ AllP g w FA vals
theorem CallOk.fn {X : Cx} {k : FuncId} {xs : List Operand} {fs : List Fact} {ats : Array TypeId} (hk : enters X.P k = true) (h : HasF G xs fs) :
    CallOk X G ⟨d, .call { callee := .value (.func k), args := xs.toArray, argTypes := ats }, ty, pos, af, gd⟩ k fs := fun a w g hf => by
  refine ⟨xs.map a.eval, ?_, h.all xs fs hf⟩
  unfold execOp
  simp [resolve, Deferred.ofValue, Act.eval, invoke, run_enter hk]
theorem CallOk.val {X : Cx} {k : FuncId} {x : Operand} {xs : List Operand} {us fs cs : List Fact} {ats : Array TypeId} (hk : enters X.P k = true) (hx : Has G x (.fnv k us cs)) (h : HasF G xs fs) :
    CallOk X G ⟨d, .call { callee := .value x, args := xs.toArray, argTypes := ats }, ty, pos, af, gd⟩ k (us ++ (fs ++ cs)) := fun a w g hf => by
  obtain ⟨uv, cv, hv, h1, h2⟩ := hx a w g hf
  refine ⟨uv ++ (xs.map a.eval ++ cv), ?_, h1.app _ _ _ _ ((h.all xs fs hf).app _ _ _ _ h2)⟩
  unfold execOp
  simp [resolve, Deferred.ofValue, hv, invoke, run_enter hk]

/-- Items for what a call is handed. -/
def argI (i : Nat) : List Fact → List It → List It
  | [], G => G
  | f :: fs, G => .fact i f :: argI (i + 1) fs G

/-- What the walk of a call goes on with, out of the caller's frame. -/
def Carry (G : List It) (u : Nat → Value) (Gc : List It) : Prop := ∀ a w g a', Facts G g a w → (∀ s, a.tmps.getD s undef = u s) → Facts Gc g a' w
theorem Carry.nil {u : Nat → Value} : Carry G u [] := fun _ _ _ _ _ _ => facts_nil
theorem Carry.slot {u : Nat → Value} {Gc : List It} {D s : Nat} {f : Fact} (h : Has G (.tmp s) f) (k : Carry G u Gc) : Carry G u (.fact (D + s) (.cst (u s) f) :: Gc) := fun a w g a' hf hu =>
  Facts.ghost (k a w g a' hf hu) (fun _ => by
    have := h a w g hf
    show f.p g (u s) w
    rw [← hu s]; exact this)
theorem Carry.keep {u : Nat → Value} {Gc : List It} {s : Nat} {f : Fact} (h : look G s = some f) (hv : VFree f) (k : Carry G u Gc) : Carry G u (.fact s f :: Gc) := fun a w g a' hf hu =>
  Facts.ghost (k a w g a' hf hu) (fun _ => hv _ _ _ _ (hf s f h))

/-- What is to be shown at the end of a call that is walked where it stands. -/
def InR {S : Type} (X : Cx) (J : S → List It) (F : S → Prop) (d : Option Nat) (u : Nat → Value) : Ending → World → Prop := fun e w' =>
  ∃ v, e = .returned v ∧ ∃ p, F p ∧ ∀ a0 : Act, a0.tmps.size = X.n → a0.defers = X.ds → (∀ s, a0.tmps.getD s undef = u s) → Env X (J p) (a0.put d v) w'

theorem facts_argI {G : List It} {g : Gh} {a : Act} {w : World} : ∀ (fs : List Fact) (vs : List Value) (i : Nat), Facts G g a w → AllP g w fs vs → (∀ j v, vs[j]? = some v → a.tmps.getD (i + j) undef = v) → Facts (argI i fs G) g a w
  | [], _, _, h, _, _ => h
  | f :: fs, vs, i, h, hp, hv => by
    obtain ⟨v, vr, rfl, h1, h2⟩ := hp
    intro s f' hl
    rcases lookK_nil_spec hl with ⟨rfl, rfl⟩ | ⟨_, hl⟩
    · have := hv 0 v rfl
      simp only [Nat.add_zero] at this
      rw [this]; exact h1
    · exact facts_argI fs vr (i + 1) h h2 (fun j x hj => by rw [show i + 1 + j = i + (j + 1) by omega]; exact hv (j + 1) x (by simpa using hj)) s f' hl

theorem AllP.len {g : Gh} {w : World} : ∀ (fs : List Fact) (vs : List Value), AllP g w fs vs → vs.length = fs.length
  | [], vs, h => by rw [show vs = [] from h]; rfl
  | f :: fs, vs, h => by
    obtain ⟨v, vr, rfl, _, h2⟩ := h
    simp [AllP.len fs vr h2]

theorem Walk.inline {S : Type} {X : Cx} {Q : Exit → Act → World → Prop} {ops : Array Oper} {rest : List Oper} {o : Oper} (J : S → List It) (F : S → Prop) (Gc : (Nat → Value) → List It) {k : FuncId} {fn : Func} {c : Code} {n : Nat} {FA : List Fact}
    (hg : o.guard = none) (hf : X.P.funcs[k]? = some fn) (hb : fn.body = some c) (hn : fn.ntmps = n) (hl : Nat.ble FA.length n = true) (hc : CallOk X G o k FA) (hcar : ∀ u, Carry G u (Gc u))
    (hbody : ∀ u : Nat → Value, CWalk ⟨X.P, n, X.w0, X.C, X.om0, none, []⟩ (argI 0 FA (Gc u)) c (bodyPost X.P fn (InR X J F o.dst u)))
    (hcont : ∀ p, F p → Walk X ops Q (J p) rest) (hnd : ndB o.op = true := by rfl) : Walk X ops Q G (o :: rest) := fun a w env =>
  wpListIn_plain hg fun K hK => wpIn_of hnd <| by
    obtain ⟨g, hge, hfa⟩ := env.facts
    obtain ⟨vals, hrun, hall⟩ := hc a w g hfa
    have hlen := AllP.len FA vals hall
    have hl' : FA.length ≤ n := by simpa using hl
    unfold Oper.wp
    rw [hrun]
    refine Calls.mono (calls_of_wp hf hb (R := InR X J F o.dst (fun s => a.tmps.getD s undef)) (wpIn_wide (n := 0).1 (hbody (fun s => a.tmps.getD s undef) _ w ?_))) ?_
    · subst hn
      refine ⟨by simp; omega, rfl, env.fr, g, ⟨hge.ok, hge.om⟩, ?_⟩
      refine facts_argI FA vals 0 (hcar _ a w g _ hfa (fun _ => rfl)) hall (fun j v hj => ?_)
      have hjl : j < vals.length := (List.getElem?_eq_some_iff.1 hj).1
      simp only [Nat.zero_add]
      rw [Array.getD_eq_getD_getElem?, Array.getElem?_append_left (by simpa using hjl)]
      simp [hj]
    · rintro e w' ⟨v, rfl, p, hp, hE⟩
      exact hK _ _ (hcont p hp _ _ (hE a env.size env.defers (fun _ => rfl)))

/-- A fact on a value that another frame keeps. -/
def HasC (G : List It) (v0 : Value) (f : Fact) : Prop := ∀ a w g, Facts G g a w → f.p g v0 w
theorem HasC.s {v0 : Value} {f : Fact} {s : Nat} (h : look G s = some (.cst v0 f)) : HasC G v0 f := fun _ _ _ hf => hf _ _ h
theorem HasC.cv {v0 : Value} {f f' : Fact} (h : HasC G v0 f) (k : Cv G f f') : HasC G v0 f' := fun a w g hf => k a w g _ hf (h a w g hf)
theorem Has.cst {v0 : Value} {f : Fact} {x : Operand} (h : HasC G v0 f) : Has G x (.cst v0 f) := h

/-- Back in the caller's frame. -/
def Low (G : List It) (u : Nat → Value) (d : Option Nat) (f0 : Fact) (J : List It) : Prop :=
  ∀ a w g (a0 : Act) v, Facts G g a w → f0.p g v w → (∀ s, a0.tmps.getD s undef = u s) → (∀ e, d = some e → e < a0.tmps.size) → Facts J g (a0.put d v) w
theorem Low.nil {u : Nat → Value} {f0 : Fact} : Low G u d f0 [] := fun _ _ _ _ _ _ _ _ _ => facts_nil
theorem Low.res {u : Nat → Value} {f0 : Fact} {e : Nat} {J : List It} (k : Low G u (some e) f0 J) : Low G u (some e) f0 (.fact e f0 :: J) := fun a w g a0 v hf h0 hu hd s f hl => by
  rcases lookK_nil_spec hl with ⟨rfl, rfl⟩ | ⟨_, hl⟩
  · rw [Act.getD_put (hd _ rfl), if_pos rfl]; exact h0
  · exact k a w g a0 v hf h0 hu hd s f hl
def neD : Option Nat → Nat → Bool
  | none, _ => true
  | some e, s => !(Nat.beq e s)
theorem Low.slot {u : Nat → Value} {f0 f : Fact} {s : Nat} {J : List It} (hs : neD d s = true) (h : HasC G (u s) f) (k : Low G u d f0 J) : Low G u d f0 (.fact s f :: J) := fun a w g a0 v hf h0 hu hd s' f' hl => by
  rcases lookK_nil_spec hl with ⟨rfl, rfl⟩ | ⟨_, hl⟩
  · have hv : (a0.put d v).tmps.getD s undef = u s := by
      cases d with
      | none => exact hu s
      | some e =>
        rw [Act.getD_put (hd _ rfl), if_neg (fun he => by subst he; simp [neD] at hs)]
        exact hu s
    rw [hv]; exact h a w g hf
  · exact k a w g a0 v hf h0 hu hd s' f' hl
theorem Low.keep {u : Nat → Value} {f0 f : Fact} {s : Nat} {J : List It} (h : ∀ a w g v, Facts G g a w → f.p g v w) (k : Low G u d f0 J) : Low G u d f0 (.fact s f :: J) := fun a w g a0 v hf h0 hu hd =>
  Facts.ghost (k a w g a0 v hf h0 hu hd) (fun _ => h a w g _ hf)
theorem Low.look {f : Fact} {s : Nat} (h : look G s = some f) (hv : VFree f) : ∀ a w g v, Facts G g a w → f.p g v w := fun a w g v hf => hv _ _ _ _ (hf s f h)

variable {S : Type} {X : Cx} {J : S → List It} {F : S → Prop} {u : Nat → Value} {n : Nat} {fn : Func}
theorem low_env {f0 : Fact} {a : Act} {w : World} {v : Value} {p : S} {g : Gh} (hd : ∀ e, d = some e → e < X.n) (env : Env ⟨X.P, n, X.w0, X.C, X.om0, none, []⟩ G a w) (hge : GhE ⟨X.P, n, X.w0, X.C, X.om0, none, []⟩ w g) (hf : Facts G g a w) (h0 : f0.p g v w) (hl : Low G u d f0 (J p))
    (a0 : Act) (hs : a0.tmps.size = X.n) (hdf : a0.defers = X.ds) (hu : ∀ s, a0.tmps.getD s undef = u s) : Env X (J p) (a0.put d v) w :=
  ⟨by cases d <;> simp [Act.put, hs], by cases d <;> exact hdf, env.fr, g, ⟨hge.ok, hge.om⟩, hl a w g a0 v hf h0 hu (fun e he => by rw [hs]; exact hd e he)⟩
def dOk (d : Option Nat) (n : Nat) : Bool := match d with
  | none => true
  | some e => Nat.blt e n
theorem dOk_spec {n : Nat} (h : dOk d n = true) : ∀ e, d = some e → e < n := fun e he => by subst he; simpa [dOk, Nat.blt_eq] using h

theorem Leaf.in1 {f0 : Fact} {r : ResultVar} (p : S) (hF : F p) (hd : dOk d X.n = true) (hr : fn.results = #[r]) (h : HasR X.P G r f0) (hl : Low G u d f0 (J p)) :
    Leaf ⟨X.P, n, X.w0, X.C, X.om0, none, []⟩ G (bodyPost X.P fn (InR X J F d u)) .ret := fun a w e => by
  obtain ⟨g, hg, hf⟩ := e.facts
  obtain ⟨v, h1, h2⟩ := h a w g hf
  refine ⟨e.defers, v, ?_, v, rfl, p, hF, fun a0 hs hdf hu => low_env (dOk_spec hd) e hg hf h2 hl a0 hs hdf hu⟩
  rw [results_eq, hr]
  simp [Array.mapM_eq_mapM_toList, List.mapM_cons, h1]
theorem Leaf.in0 {f0 : Fact} (p : S) (hF : F p) (hd : dOk d X.n = true) (hr : fn.results = #[]) (h : ∀ g w, f0.p g (.tuple #[]) w) (hl : Low G u d f0 (J p)) :
    Leaf ⟨X.P, n, X.w0, X.C, X.om0, none, []⟩ G (bodyPost X.P fn (InR X J F d u)) .ret := fun a w e => by
  obtain ⟨g, hg, hf⟩ := e.facts
  refine ⟨e.defers, .tuple #[], ?_, .tuple #[], rfl, p, hF, fun a0 hs hdf hu => low_env (dOk_spec hd) e hg hf (h g w) hl a0 hs hdf hu⟩
  rw [results_eq, hr]
  simp
theorem Leaf.in2 {f1 f2 : Fact} {r1 r2 : ResultVar} (p : S) (hF : F p) (hd : dOk d X.n = true) (hr : fn.results = #[r1, r2]) (h1 : HasR X.P G r1 f1) (h2 : HasR X.P G r2 f2) (hl : Low G u d (.tup2 f1 f2) (J p)) :
    Leaf ⟨X.P, n, X.w0, X.C, X.om0, none, []⟩ G (bodyPost X.P fn (InR X J F d u)) .ret := fun a w e => by
  obtain ⟨g, hg, hf⟩ := e.facts
  obtain ⟨v1, k1, k1'⟩ := h1 a w g hf
  obtain ⟨v2, k2, k2'⟩ := h2 a w g hf
  refine ⟨e.defers, .tuple #[v1, v2], ?_, _, rfl, p, hF, fun a0 hs hdf hu => low_env (f0 := .tup2 f1 f2) (dOk_spec hd) e hg hf ⟨v1, v2, rfl, k1', k2'⟩ hl a0 hs hdf hu⟩
  rw [results_eq, hr]
  simp [Array.mapM_eq_mapM_toList, List.mapM_cons, k1, k2]
theorem Leaf.in3 {f1 f2 f3 : Fact} {r1 r2 r3 : ResultVar} (p : S) (hF : F p) (hd : dOk d X.n = true) (hr : fn.results = #[r1, r2, r3]) (h1 : HasR X.P G r1 f1) (h2 : HasR X.P G r2 f2) (h3 : HasR X.P G r3 f3) (hl : Low G u d (.tup3 f1 f2 f3) (J p)) :
    Leaf ⟨X.P, n, X.w0, X.C, X.om0, none, []⟩ G (bodyPost X.P fn (InR X J F d u)) .ret := fun a w e => by
  obtain ⟨g, hg, hf⟩ := e.facts
  obtain ⟨v1, k1, k1'⟩ := h1 a w g hf
  obtain ⟨v2, k2, k2'⟩ := h2 a w g hf
  obtain ⟨v3, k3, k3'⟩ := h3 a w g hf
  refine ⟨e.defers, .tuple #[v1, v2, v3], ?_, _, rfl, p, hF, fun a0 hs hdf hu => low_env (f0 := .tup3 f1 f2 f3) (dOk_spec hd) e hg hf ⟨v1, v2, v3, rfl, k1', k2', k3'⟩ hl a0 hs hdf hu⟩
  rw [results_eq, hr]
  simp [Array.mapM_eq_mapM_toList, List.mapM_cons, k1, k2, k3]
/-- The same where the body ends without a return. -/
theorem Leaf.inN {Gx : List It} (h : Leaf ⟨X.P, n, X.w0, X.C, X.om0, none, []⟩ Gx (bodyPost X.P fn (InR X J F d u)) .ret) : Leaf ⟨X.P, n, X.w0, X.C, X.om0, none, []⟩ Gx (bodyPost X.P fn (InR X J F d u)) .normal := h
end
end GL
