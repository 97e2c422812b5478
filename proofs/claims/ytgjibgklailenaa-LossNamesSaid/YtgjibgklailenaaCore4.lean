/- Own library, part 4: loops, contracts, calls. -/
import Derived.Test.YtgjibgklailenaaCore3
namespace GL
open Go

section
variable {X : Cx} {G : List It} {Q : Exit → Act → World → Prop}

/-! ### loops -/
def LoopQ {S B : Type} (X : Cx) (Gs : S → List It) (out : B → Exit × List It) (c : Ctl S B) : Exit → Act → World → Prop := fun e a w =>
  match c with
  | .next s' => e = .normal ∧ Env X (Gs s') a w
  | .brk b => e ≠ .normal ∧ e = (out b).1 ∧ Env X (out b).2 a w

theorem Leaf.next {S B : Type} {Gs : S → List It} {out : B → Exit × List It} {c : Ctl S B} {s' : S} (hc : some (Ctl.next s') = some c) (h : Sub G (Gs s')) :
    Leaf X G (LoopQ X Gs out c) .normal := fun a w e => by
  cases hc; exact ⟨rfl, e.sub h⟩
theorem Leaf.brk {S B : Type} {Gs : S → List It} {out : B → Exit × List It} {c : Ctl S B} {b : B} {e : Exit} (hc : some (Ctl.brk b) = some c) (hn : e ≠ .normal) (he : e = (out b).1) (h : Sub G (out b).2) :
    Leaf X G (LoopQ X Gs out c) e := fun a w env => by
  cases hc; exact ⟨hn, he, env.sub h⟩

theorem loopM_ge {S B : Type} {step : S → Option (Ctl S B)} : ∀ {n : Nat} {s : S} {r : B}, loopM step n s = some r → 0 < n
  | 0, _, _, h => by cases h
  | n + 1, _, _, _ => Nat.succ_pos n

theorem CWalk.loop {S B : Type} {step : S → Option (Ctl S B)} {n : Nat} {s0 : S} {r : B} {body : Code} (Gs : S → List It) (out : B → Exit × List It)
    (hm : loopM step n s0 = some r) (h0 : Sub G (Gs s0))
    (round : ∀ s c, step s = some c → CWalk X (Gs s) body (LoopQ X Gs out c))
    (after : (out r).1 ≠ .normal → Leaf X (out r).2 Q (out r).1) : CWalk X G (.loop body) Q := fun a w env => by
  refine wpIn_loop_ghost (fun m a w => ∃ s, loopM step m s = some r ∧ Env X (Gs s) a w) n ⟨s0, hm, env.sub h0⟩ ?_
  rintro m a w ⟨s, hs, e⟩
  cases m with
  | zero => cases hs
  | succ m =>
    rw [loopM_succ] at hs
    cases hst : step s with
    | none => rw [hst] at hs; cases hs
    | some c =>
      rw [hst] at hs
      refine Code.wpIn_mono ?_ (round s c hst a w e)
      intro e' a' w' hq
      cases c with
      | next s' =>
        obtain ⟨rfl, henv⟩ := hq
        exact ⟨m, Nat.lt_succ_self m, s', hs, henv⟩
      | brk b =>
        obtain ⟨hn, he, henv⟩ := hq
        cases hs
        have := after (he ▸ hn) a' w' henv
        rw [← he] at this
        cases e' with
        | normal => exact (hn rfl).elim
        | exit id => exact this
        | goto l => exact this
        | ret => exact this
        | panic ch => exact this
        | outgrown => exact this

/-! ### where ways meet -/
def JQ {S : Type} (X : Cx) (Gj : S → List It) (R : S → Prop) : Act → World → Prop := fun a w => ∃ p, R p ∧ Env X (Gj p) a w
theorem CWalk.seqJ {S : Type} (Gj : S → List It) (R : S → Prop) {x y : Code} (hJ : ∀ p, R p → CWalk X (Gj p) y Q) (h : CWalk X G x (Exit.then (JQ X Gj R) Q)) : CWalk X G (.seq x y) Q := fun a w e =>
  wpIn_seq (Code.wpIn_mono (fun e' a' w' hq => by
    cases e' with
    | normal => obtain ⟨p, hR, henv⟩ := hq; exact hJ p hR a' w' henv
    | exit id => exact hq
    | goto l => exact hq
    | ret => exact hq
    | panic ch => exact hq
    | outgrown => exact hq) (h a w e))
theorem Leaf.join {S : Type} {Gj : S → List It} {R : S → Prop} (p : S) (hR : R p) (h : Sub G (Gj p)) : Leaf X G (Exit.then (JQ X Gj R) Q) .normal := fun _ _ e => ⟨p, hR, e.sub h⟩

/-! ### models -/
theorem bind_some {α β : Type} {e : Option α} {f : α → Option β} {r : β} (h : Option.bind e f = some r) : ∃ x, e = some x ∧ f x = some r := by
  cases e with
  | none => cases h
  | some x => exact ⟨x, rfl, h⟩
theorem cond_t {α : Type} {c : Bool} {A B r : α} (hb : c = true) (h : (bif c then A else B) = r) : A = r := by rw [hb] at h; exact h
theorem cond_f {α : Type} {c : Bool} {A B r : α} (hb : c = false) (h : (bif c then A else B) = r) : B = r := by rw [hb] at h; exact h
/-- A guarded step. -/
def gO {α : Type} [Inhabited α] (c : Bool) (e : Option α) : Option α := bif c then e else some default
theorem gO_t {α : Type} [Inhabited α] {c : Bool} {e : Option α} {x : α} (h : gO c e = some x) (hc : c = true) : e = some x := by rw [hc] at h; exact h
theorem gO_f {α : Type} [Inhabited α] {c : Bool} {e : Option α} {x : α} (h : gO (!c) e = some x) (hc : c = false) : e = some x := by rw [hc] at h; exact h
theorem and_t {a b : Bool} (h : a = true) (k : b = true) : (a && b) = true := by rw [h, k]; rfl
theorem not_t {a : Bool} (h : a = false) : (!a) = true := by rw [h]; rfl
/-- More rounds than any loop takes. -/
def FUEL : Nat := 18446744073709551616

/-! ### results: facts in terms of classes of blocks, each with a list of tags -/
abbrev Tg := Nat → List Nat
structure Shape where
  f : Tg → Fact
  tg : ∀ (T : Tg) (t : Nat), t ∈ (f T).tags → ∃ c, t ∈ T c
  idn : ∀ T : Tg, (f T).ids = []
  re : ∀ (T T' : Tg) (g g' : Gh) (v : Value) (w : World), (∀ c b, b < w.heap.size → g.om b ∈ T c → g'.om b ∈ T' c) → (f T).p g v w → (f T').p g' v w

def Shape.rep {α : Type} [Rp α] (c : Nat) (x : α) : Shape where
  f := fun T => Fact.rep (T c) x
  tg := fun _ _ h => ⟨c, h⟩
  idn := fun _ => rfl
  re := fun T T' g g' v w hk h => Rep.mono h (hk c)
def Shape.fl {α : Type} [Rp α] [Fl : Flat α] (x : α) : Shape where
  f := fun _ => Fact.rep [] x
  tg := fun _ _ h => nomatch h
  idn := fun _ => rfl
  re := fun T T' g g' v w hk h => by
    obtain ⟨cs, h1, h2⟩ := h
    exact ⟨cs, Fl.flat _ _ _ _ _ _ h1, h2⟩
def Shape.tup2 (s1 s2 : Shape) : Shape where
  f := fun T => Fact.tup2 (s1.f T) (s2.f T)
  tg := fun T t h => (List.mem_append.1 h).elim (s1.tg T t) (s2.tg T t)
  idn := fun T => by show (s1.f T).ids ++ (s2.f T).ids = []; rw [s1.idn, s2.idn]; rfl
  re := fun T T' g g' v w hk h => by
    obtain ⟨v1, v2, hv, h1, h2⟩ := h
    exact ⟨v1, v2, hv, s1.re T T' g g' v1 w hk h1, s2.re T T' g g' v2 w hk h2⟩
def Shape.tup3 (s1 s2 s3 : Shape) : Shape where
  f := fun T => Fact.tup3 (s1.f T) (s2.f T) (s3.f T)
  tg := fun T t h => (List.mem_append.1 h).elim (s1.tg T t) (fun h => (List.mem_append.1 h).elim (s2.tg T t) (s3.tg T t))
  idn := fun T => by show (s1.f T).ids ++ ((s2.f T).ids ++ (s3.f T).ids) = []; rw [s1.idn, s2.idn, s3.idn]; rfl
  re := fun T T' g g' v w hk h => by
    obtain ⟨v1, v2, v3, hv, h1, h2, h3⟩ := h
    exact ⟨v1, v2, v3, hv, s1.re T T' g g' v1 w hk h1, s2.re T T' g g' v2 w hk h2, s3.re T T' g g' v3 w hk h3⟩

theorem Shape.keep (s : Shape) {T : Tg} {g : Gh} {v : Value} {w w' : World} (hs : w.heap.size ≤ w'.heap.size) (hk : ∀ b, b < w.heap.size → (∃ c, g.om b ∈ T c) → w'.heap[b]? = w.heap[b]?)
    (h : (s.f T).p g v w) : (s.f T).p g v w' :=
  (s.f T).stab g g v w w' ⟨hs, fun b hb ht => ⟨hk b hb (s.tg T _ ht), rfl⟩, fun _ _ => rfl⟩ h

def cst (T : List Nat) : Tg := fun _ => T
def All2 (T : List Nat) (g : Gh) (w : World) : List Shape → List Value → Prop
  | [], [] => True
  | s :: ss, v :: vs => (s.f (cst T)).p g v w ∧ All2 T g w ss vs
  | _, _ => False

/-- The contract of a function that only reads what was there: arguments of the given shapes, a result of the given shape; shc: classes of the result that may lean on the arguments' memory. -/
def Ctr (P : Program) (k : FuncId) (pre : List Shape) (out : Shape) (shc : List Nat) : Prop :=
  ∀ (w : World) (g : Gh) (T : List Nat) (vs : List Value), All2 T g w pre vs → Calls P k vs.toArray w (fun e w' => ∃ v, e = .returned v ∧ Fr NoC w w' ∧ ∃ cls : Nat → Nat,
    ∀ (T' : Tg) (g' : Gh), (∀ b, w.heap.size ≤ b → b < w'.heap.size → g'.om b ∈ T' (cls b)) → (∀ b c, b < w.heap.size → g.om b ∈ T → c ∈ shc → g'.om b ∈ T' c) → (out.f T').p g' v w')

/-- Has, for a list of operands. -/
def HasAll (G : List It) (T : List Nat) : List Operand → List Shape → Prop
  | [], [] => True
  | x :: xs, s :: ss => Has G x (s.f (cst T)) ∧ HasAll G T xs ss
  | _, _ => False

theorem HasAll.nil {T : List Nat} : HasAll G T [] [] := trivial
theorem HasAll.cons {T : List Nat} {x : Operand} {xs : List Operand} {s : Shape} {ss : List Shape} (h : Has G x (s.f (cst T))) (k : HasAll G T xs ss) : HasAll G T (x :: xs) (s :: ss) := ⟨h, k⟩

theorem HasAll.all2 {T : List Nat} {xs : List Operand} {ss : List Shape} (h : HasAll G T xs ss) {a : Act} {w : World} {g : Gh} (hf : Facts G g a w) : All2 T g w ss (xs.map a.eval) := by
  induction xs generalizing ss with
  | nil => cases ss with
    | nil => trivial
    | cons s ss => exact h.elim
  | cons x xs ih => cases ss with
    | nil => exact h.elim
    | cons s ss => exact ⟨h.1 a w g hf, ih h.2⟩

/-- Closed: function k has a body, and may be entered. -/
def enters (P : Program) (k : FuncId) : Bool :=
  match P.funcs[k]? with
  | some fn => !(fn.name == "runtime.NumGoroutine") && fn.body.isSome
  | none => false

theorem run_enter {P : Program} {k : FuncId} (h : enters P k = true) (args : Array Value) (w : World) : (callFunc k args).run P w = .ok (.enter k args) w := by
  unfold enters at h
  cases hf : P.funcs[k]? with
  | none => simp [hf] at h
  | some fn =>
    simp [hf] at h
    obtain ⟨h1, h2⟩ := h
    obtain ⟨c, hb⟩ := Option.isSome_iff_exists.1 h2
    simp [callFunc, hf, h1, hb]

def tagCls (g : Gh) (n t : Nat) (cls : Nat → Nat) : Gh := ⟨fun b => if b < n then g.om b else t + cls b, g.ga⟩
def tagNew (g : Gh) (n t : Nat) : Gh := ⟨fun b => if b < n then g.om b else t, g.ga⟩

theorem GhE.tagCls {w w' : World} {g : Gh} (h : GhE X w g) {t : Nat} {cls : Nat → Nat} (ht : 10 ≤ t) (h0 : X.w0.heap.size ≤ w.heap.size) : GhE X w' (tagCls g w.heap.size t cls) := by
  refine ⟨⟨fun b hb => ?_, fun b hb hb' => ?_⟩, fun b hb => ?_⟩
  · simp only [GL.tagCls]; rw [if_pos (by omega)]; exact h.ok.old b hb
  · simp only [GL.tagCls]; split
    · exact h.ok.new b hb (by assumption)
    · omega
  · simp only [GL.tagCls]; rw [if_pos (by omega)]; exact h.om b hb
theorem GhE.tagNew {w w' : World} {g : Gh} (h : GhE X w g) {t : Nat} (ht : 10 ≤ t) (_ : w.heap.size ≤ w'.heap.size) (h0 : X.w0.heap.size ≤ w.heap.size) : GhE X w' (tagNew g w.heap.size t) :=
  h.tagCls (cls := fun _ => 0) ht h0

/-- The tags of a result's classes, at a call. -/
def cT (t : Nat) (T shc : List Nat) : Tg := fun c => bif shc.elem c then (t + c) :: T else [t + c]

theorem Spec.call {k : FuncId} {pre : List Shape} {out : Shape} {shc : List Nat} {d : Option Nat} {xs : List Operand} {ats : Array TypeId} {ty : TypeId} {pos : String} {af : Array Edge} {gd : Option (Nat × Bool)}
    (T : List Nat) (t : Nat) (ht : Nat.ble 10 t = true) (hk : enters X.P k = true) (hc : Ctr X.P k pre out shc) (hx : HasAll G T xs pre) :
    Spec X G ⟨d, .call { callee := .value (.func k), args := xs.toArray, argTypes := ats }, ty, pos, af, gd⟩ (out.f (cT t T shc)) := fun a w g hs hfr hg hf K Q hK => by
  have ht' : 10 ≤ t := by simpa using ht
  have hcall := hc w g T _ (hx.all2 hf)
  have hrun : (execOp a.eval ⟨d, .call { callee := .value (.func k), args := xs.toArray, argTypes := ats }, ty, pos, af, gd⟩).run X.P w = .ok (.enter k (xs.map a.eval).toArray) w := by
    unfold execOp
    simp [resolve, Deferred.ofValue, Act.eval, invoke, run_enter hk]
  unfold Oper.wp
  rw [hrun]
  refine Calls.mono hcall ?_
  rintro e w' ⟨v, rfl, hw, cls, hp⟩
  refine hK v w' ⟨hw, GL.tagCls g w.heap.size t cls, hg.tagCls ht' hfr.size, fun b hb => by simp [GL.tagCls, hb], fun _ => rfl, ?_⟩
  refine hp _ _ ?_ ?_
  · intro b h1 _
    simp only [GL.tagCls, cT]
    rw [if_neg (Nat.not_lt.2 h1)]
    cases shc.elem (cls b) <;> simp
  · intro b c h1 h2 h3
    simp only [GL.tagCls, cT]
    rw [if_pos h1, show shc.elem c = true by simpa using h3]
    simp [h2]

/-! ### a function's own walk -/
def ResT (fn : Func) (l : List Nat) : Prop := fn.results = (l.map ResultVar.tmp).toArray

/-- The context of a call of an ordinary function: all old blocks that the arguments lean on have tag 0, all others 9. -/
def om0 (w : World) (g : Gh) (T : List Nat) : Nat → Nat := fun b => if g.om b ∈ T then 0 else 9

/-- What is to be shown at a return. -/
def RetR (X : Cx) (out : Shape) (TT : List (List Nat)) : Ending → World → Prop := fun e w' => ∃ v, e = .returned v ∧ Fr X.C X.w0 w' ∧ ∃ g, GhE X w' g ∧ (out.f (fun c => TT.getD c [])).p g v w'

def clsOf : List (List Nat) → Nat → Nat
  | [], _ => 0
  | l :: ls, t => bif l.elem t then 0 else clsOf ls t + 1
/-- Closed: each tag from 10 on has one class; tag 0 is in classes that may lean on the arguments. -/
def clsB (TT : List (List Nat)) (shc : List Nat) : Bool :=
  TT.zipIdx.all fun x => x.1.all fun t => (Nat.ble 10 t && Nat.beq (clsOf TT t) x.2) || (Nat.beq t 0 && shc.elem x.2)
theorem clsB_spec {TT : List (List Nat)} {shc : List Nat} (h : clsB TT shc = true) {c t : Nat} (ht : t ∈ TT.getD c []) : (10 ≤ t ∧ clsOf TT t = c) ∨ (t = 0 ∧ c ∈ shc) := by
  have hc : c < TT.length := by
    rcases Nat.lt_or_ge c TT.length with h | h
    · exact h
    · rw [List.getD_eq_getElem?_getD, List.getElem?_eq_none h] at ht; simp at ht
  have h1 : (TT[c], c) ∈ TT.zipIdx := by
    rw [List.mem_zipIdx_iff_getElem?]; simp [hc]
  have ht' : t ∈ TT[c] := by rw [List.getD_eq_getElem?_getD, List.getElem?_eq_getElem hc] at ht; exact ht
  have h2 := List.all_eq_true.1 (List.all_eq_true.1 h _ h1) _ ht'
  simp only [Bool.or_eq_true, Bool.and_eq_true] at h2
  rcases h2 with ⟨h3, h4⟩ | ⟨h3, h4⟩
  · exact .inl ⟨by simpa using h3, Nat.eq_of_beq_eq_true h4⟩
  · exact .inr ⟨Nat.eq_of_beq_eq_true h3, by simpa using h4⟩

theorem ctr_of_walkG {P : Program} {k : FuncId} {fn : Func} {c : Code} {pre : List Shape} {out : Shape} {shc : List Nat} (TT : List (List Nat)) (n : Nat) (hf : P.funcs[k]? = some fn) (hb : fn.body = some c) (hnt : fn.ntmps = n)
    (hn : Nat.ble pre.length n = true) (hT : clsB TT shc = true) {PO : (Ending → World → Prop) → Exit → Act → World → Prop}
    (hcl : ∀ (R : Ending → World → Prop) (args : Array Value) (w : World), c.wpIn Fence.wide 0 P (PO R) { tmps := args ++ Array.replicate (fn.ntmps - args.size) undef, defers := [] } w → Calls P k args w R)
    (h : ∀ (w0 : World) (om : Nat → Nat), CWalk ⟨P, n, w0, NoC, om, none, []⟩ (pre.zipIdx.map fun x => It.fact x.2 (x.1.f (cst [0]))) c (PO (RetR ⟨P, n, w0, NoC, om, none, []⟩ out TT))) : Ctr P k pre out shc := by
  subst hnt
  intro w g T0 vs hvs
  have hn' : pre.length ≤ fn.ntmps := by simpa using hn
  have hlen : ∀ (pre : List Shape) (vs : List Value), All2 T0 g w pre vs → pre.length = vs.length := by
    intro pre
    induction pre with
    | nil => intro vs h; cases vs with
      | nil => rfl
      | cons v vs => exact h.elim
    | cons s ss ih => intro vs h; cases vs with
      | nil => exact h.elim
      | cons v vs => simp [ih vs h.2]
  have hl := hlen pre vs hvs
  let om : Nat → Nat := om0 w g T0
  let g0 : Gh := ⟨fun b => if b < w.heap.size then om b else 10, g.ga⟩
  refine Calls.mono (hcl (RetR ⟨P, fn.ntmps, w, NoC, om, none, []⟩ out TT) _ _ (h w om _ _ ?_)) ?_
  · refine ⟨by simp; omega, rfl, Fr.refl _ _, g0, ⟨⟨fun b hb => ?_, fun b hb hb' => ?_⟩, fun b hb => ?_⟩, ?_⟩
    · simp only [g0, if_pos hb, om, om0]; split <;> omega
    · exact absurd hb' (Nat.not_lt.2 hb)
    · simp only [g0]; exact if_pos hb
    · have key : ∀ (pre : List Shape) (vs : List Value) (i : Nat) (tm : Array Value), All2 T0 g w pre vs → (∀ j v, vs[j]? = some v → tm.getD (i + j) undef = v) →
          Facts ((pre.zipIdx i).map fun x => It.fact x.2 (x.1.f (cst [0]))) g0 ⟨tm, []⟩ w := by
        intro pre
        induction pre with
        | nil => intro vs i tm _ _ s f hl; simp [look, lookK] at hl
        | cons s ss ih =>
          intro vs i tm h hv
          cases vs with
          | nil => exact h.elim
          | cons v vs =>
            have hrest := ih vs (i + 1) tm h.2 (fun j u hj => by have := hv (j + 1) u hj; rwa [show i + (j + 1) = i + 1 + j by omega] at this)
            intro s' f' hl
            simp only [List.zipIdx_cons, List.map_cons, look, lookK] at hl
            cases hb : Nat.beq i s' with
            | true =>
              have he : i = s' := Nat.eq_of_beq_eq_true hb
              subst he
              simp only [hb, cond_true] at hl
              cases hc : (disj (s.f (cst [0])).tags [] && disj (s.f (cst [0])).ids []) with
              | true =>
                simp only [hc, cond_true, Option.some.injEq] at hl
                subst hl
                have h0 := hv 0 v rfl
                simp only [Nat.add_zero] at h0
                show (s.f (cst [0])).p g0 (tm.getD i undef) w
                rw [h0]
                refine s.re (cst T0) (cst [0]) g g0 v w ?_ h.1
                intro c b hb hm
                simp only [cst] at hm
                simp [g0, hb, om, om0, hm, cst]
              | false => simp [hc] at hl
            | false =>
              simp only [hb, cond_false] at hl
              exact hrest s' f' hl
      refine key pre vs 0 _ hvs ?_
      intro j v hj
      have hjl : j < vs.length := (List.getElem?_eq_some_iff.1 hj).1
      simp only [Nat.zero_add]
      rw [Array.getD_eq_getD_getElem?, Array.getElem?_append_left (by simpa using hjl)]
      simp [hj]
  · rintro e w' ⟨v, rfl, hw, g1, hg1, hp⟩
    refine ⟨v, rfl, hw, fun b => clsOf TT (g1.om b), fun T' g' hnew hold => out.re _ T' g1 g' v w' ?_ hp⟩
    intro c b hb hm
    rcases Nat.lt_or_ge b w.heap.size with hlt | hge
    · have h2 := hg1.om b hlt
      have h3 : g1.om b < 10 := hg1.ok.old b hlt
      rcases clsB_spec hT hm with ⟨h1, _⟩ | ⟨h4, hsh⟩
      · omega
      · refine hold b c hlt ?_ hsh
        rw [h4] at h2
        simp only [om, om0] at h2
        split at h2
        · assumption
        · omega
    · rcases clsB_spec hT hm with ⟨_, h1⟩ | ⟨h4, _⟩
      · rw [← h1]; exact hnew b hge hb
      · have := hg1.ok.new b hge hb
        omega

theorem ctr_of_walk {P : Program} {k : FuncId} {fn : Func} {c : Code} {pre : List Shape} {out : Shape} {shc : List Nat} (TT : List (List Nat)) (n : Nat) (hf : P.funcs[k]? = some fn) (hb : fn.body = some c) (hnt : fn.ntmps = n)
    (hn : Nat.ble pre.length n = true) (hT : clsB TT shc = true)
    (h : ∀ (w0 : World) (om : Nat → Nat), CWalk ⟨P, n, w0, NoC, om, none, []⟩ (pre.zipIdx.map fun x => It.fact x.2 (x.1.f (cst [0]))) c (bodyPost P fn (RetR ⟨P, n, w0, NoC, om, none, []⟩ out TT))) : Ctr P k pre out shc :=
  ctr_of_walkG TT n hf hb hnt hn hT (fun R args w hq => calls_of_wp hf hb (wpIn_wide (n := 0).1 hq)) h
end
end GL
