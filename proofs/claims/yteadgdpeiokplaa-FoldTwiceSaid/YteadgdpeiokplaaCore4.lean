/- Own library, part 4: loops, contracts, calls. -/
import Derived.Test.YteadgdpeiokplaaCore3
namespace GL
open Go

section
variable {X : Cx} {G : List It} {Q : Exit → Act → World → Prop}

/-! ### loops -/
def LoopQ {S B : Type} (X : Cx) (Gs : S → List It) (out : B → Exit × List It) (c : Ctl S B) : Exit → Act → World → Prop := fun e a w =>
  match c with
  | .next s' => e = .normal ∧ Env X (Gs s') a w
  | .brk b => e ≠ .normal ∧ e = (out b).1 ∧ Env X (out b).2 a w

theorem Leaf.next {S B : Type} {Gs : S → List It} {out : B → Exit × List It} {c : Ctl S B} {s' : S} (hc : some (Ctl.next s') = some c) (h : Sub G (Gs s')) :
    Leaf X G (LoopQ X Gs out c) .normal := fun a w e => by
  cases hc; exact ⟨rfl, e.sub h⟩
theorem Leaf.brk {S B : Type} {Gs : S → List It} {out : B → Exit × List It} {c : Ctl S B} {b : B} {e : Exit} (hc : some (Ctl.brk b) = some c) (hn : e ≠ .normal) (he : e = (out b).1) (h : Sub G (out b).2) :
    Leaf X G (LoopQ X Gs out c) e := fun a w env => by
  cases hc; exact ⟨hn, he, env.sub h⟩

theorem loopM_ge {S B : Type} {step : S → Option (Ctl S B)} : ∀ {n : Nat} {s : S} {r : B}, loopM step n s = some r → 0 < n
  | 0, _, _, h => by cases h
  | n + 1, _, _, _ => Nat.succ_pos n

theorem CWalk.loop {S B : Type} {step : S → Option (Ctl S B)} {n : Nat} {s0 : S} {r : B} {body : Code} (Gs : S → List It) (out : B → Exit × List It)
    (hm : loopM step n s0 = some r) (h0 : Sub G (Gs s0))
    (round : ∀ s c, step s = some c → CWalk X (Gs s) body (LoopQ X Gs out c))
    (after : (out r).1 ≠ .normal → Leaf X (out r).2 Q (out r).1) : CWalk X G (.loop body) Q := fun a w env => by
  refine wp_loop_ghost (fun m a w => ∃ s, loopM step m s = some r ∧ Env X (Gs s) a w) n ⟨s0, hm, env.sub h0⟩ ?_
  rintro m a w ⟨s, hs, e⟩
  cases m with
  | zero => cases hs
  | succ m =>
    rw [loopM_succ] at hs
    cases hst : step s with
    | none => rw [hst] at hs; cases hs
    | some c =>
      rw [hst] at hs
      refine Code.wp_mono ?_ (round s c hst a w e)
      intro e' a' w' hq
      cases c with
      | next s' =>
        obtain ⟨rfl, henv⟩ := hq
        exact ⟨m, Nat.lt_succ_self m, s', hs, henv⟩
      | brk b =>
        obtain ⟨hn, he, henv⟩ := hq
        cases hs
        have := after (he ▸ hn) a' w' henv
        rw [← he] at this
        cases e' with
        | normal => exact (hn rfl).elim
        | exit id => exact this
        | goto l => exact this
        | ret => exact this
        | panic ch => exact this
        | outgrown => exact this

/-! ### where ways meet -/
def JQ {S : Type} (X : Cx) (Gj : S → List It) (R : S → Prop) : Act → World → Prop := fun a w => ∃ p, R p ∧ Env X (Gj p) a w
theorem CWalk.seqJ {S : Type} (Gj : S → List It) (R : S → Prop) {x y : Code} (hJ : ∀ p, R p → CWalk X (Gj p) y Q) (h : CWalk X G x (Exit.then (JQ X Gj R) Q)) : CWalk X G (.seq x y) Q := fun a w e =>
  wp_seq (Code.wp_mono (fun e' a' w' hq => by
    cases e' with
    | normal => obtain ⟨p, hR, henv⟩ := hq; exact hJ p hR a' w' henv
    | exit id => exact hq
    | goto l => exact hq
    | ret => exact hq
    | panic ch => exact hq
    | outgrown => exact hq) (h a w e))
theorem Leaf.join {S : Type} {Gj : S → List It} {R : S → Prop} (p : S) (hR : R p) (h : Sub G (Gj p)) : Leaf X G (Exit.then (JQ X Gj R) Q) .normal := fun _ _ e => ⟨p, hR, e.sub h⟩

/-! ### models -/
theorem bind_some {α β : Type} {e : Option α} {f : α → Option β} {r : β} (h : Option.bind e f = some r) : ∃ x, e = some x ∧ f x = some r := by
  cases e with
  | none => cases h
  | some x => exact ⟨x, rfl, h⟩
theorem cond_t {α : Type} {c : Bool} {A B r : α} (hb : c = true) (h : (bif c then A else B) = r) : A = r := by rw [hb] at h; exact h
theorem cond_f {α : Type} {c : Bool} {A B r : α} (hb : c = false) (h : (bif c then A else B) = r) : B = r := by rw [hb] at h; exact h
/-- A guarded step. -/
def gO {α : Type} [Inhabited α] (c : Bool) (e : Option α) : Option α := bif c then e else some default
theorem gO_t {α : Type} [Inhabited α] {c : Bool} {e : Option α} {x : α} (h : gO c e = some x) (hc : c = true) : e = some x := by rw [hc] at h; exact h
theorem gO_f {α : Type} [Inhabited α] {c : Bool} {e : Option α} {x : α} (h : gO (!c) e = some x) (hc : c = false) : e = some x := by rw [hc] at h; exact h
theorem and_t {a b : Bool} (h : a = true) (k : b = true) : (a && b) = true := by rw [h, k]; rfl
theorem not_t {a : Bool} (h : a = false) : (!a) = true := by rw [h]; rfl
/-- More rounds than any loop takes. -/
def FUEL : Nat := 18446744073709551616

/-! ### results: facts in terms of one tag list -/
structure Shape where
  f : List Nat → Fact
  re : ∀ (T T' : List Nat) (g g' : Gh) (v : Value) (w : World), (∀ b, b < w.heap.size → g.om b ∈ T → g'.om b ∈ T') → (f T).p g v w → (f T').p g' v w
  st : ∀ (T : List Nat) (g g' : Gh) (v : Value) (w w' : World), Keeps T [] g g' w w' → (f T).p g v w → (f T).p g' v w'

def Shape.rep {α : Type} [Rp α] (x : α) : Shape where
  f := fun T => Fact.rep T x
  re := fun T T' g g' v w hk h => Rep.mono h hk
  st := fun T g g' v w w' hk h => (Fact.rep T x).stab g g' v w w' hk h
def Shape.tup2 (s1 s2 : Shape) : Shape where
  f := fun T => Fact.tup2 (s1.f T) (s2.f T)
  re := fun T T' g g' v w hk h => by
    obtain ⟨v1, v2, hv, h1, h2⟩ := h
    exact ⟨v1, v2, hv, s1.re T T' g g' v1 w hk h1, s2.re T T' g g' v2 w hk h2⟩
  st := fun T g g' v w w' hk h => by
    obtain ⟨v1, v2, hv, h1, h2⟩ := h
    exact ⟨v1, v2, hv, s1.st T g g' v1 w w' hk h1, s2.st T g g' v2 w w' hk h2⟩
def Shape.tup3 (s1 s2 s3 : Shape) : Shape where
  f := fun T => Fact.tup3 (s1.f T) (s2.f T) (s3.f T)
  re := fun T T' g g' v w hk h => by
    obtain ⟨v1, v2, v3, hv, h1, h2, h3⟩ := h
    exact ⟨v1, v2, v3, hv, s1.re T T' g g' v1 w hk h1, s2.re T T' g g' v2 w hk h2, s3.re T T' g g' v3 w hk h3⟩
  st := fun T g g' v w w' hk h => by
    obtain ⟨v1, v2, v3, hv, h1, h2, h3⟩ := h
    exact ⟨v1, v2, v3, hv, s1.st T g g' v1 w w' hk h1, s2.st T g g' v2 w w' hk h2, s3.st T g g' v3 w w' hk h3⟩

def All2 (T : List Nat) (g : Gh) (w : World) : List Shape → List Value → Prop
  | [], [] => True
  | s :: ss, v :: vs => (s.f T).p g v w ∧ All2 T g w ss vs
  | _, _ => False

/-- The contract of a function that only reads what was there: arguments of the given shapes, a result of the given shape; shared: the result may lean on the arguments' memory. -/
def Ctr (P : Program) (k : FuncId) (pre : List Shape) (out : Shape) (shared : Bool) : Prop :=
  ∀ (w : World) (g : Gh) (T : List Nat) (vs : List Value), All2 T g w pre vs → Calls P k vs.toArray w (fun e w' => ∃ v, e = .returned v ∧ Fr NoC w w' ∧
    ∀ (T' : List Nat) (g' : Gh), (∀ b, b < w'.heap.size → (w.heap.size ≤ b ∨ (shared = true ∧ b < w.heap.size ∧ g.om b ∈ T)) → g'.om b ∈ T') → (out.f T').p g' v w')

/-- Has, for a list of operands. -/
def HasAll (G : List It) (T : List Nat) : List Operand → List Shape → Prop
  | [], [] => True
  | x :: xs, s :: ss => Has G x (s.f T) ∧ HasAll G T xs ss
  | _, _ => False

theorem HasAll.nil {T : List Nat} : HasAll G T [] [] := trivial
theorem HasAll.cons {T : List Nat} {x : Operand} {xs : List Operand} {s : Shape} {ss : List Shape} (h : Has G x (s.f T)) (k : HasAll G T xs ss) : HasAll G T (x :: xs) (s :: ss) := ⟨h, k⟩

theorem HasAll.all2 {T : List Nat} {xs : List Operand} {ss : List Shape} (h : HasAll G T xs ss) {a : Act} {w : World} {g : Gh} (hf : Facts G g a w) : All2 T g w ss (xs.map a.eval) := by
  induction xs generalizing ss with
  | nil => cases ss with
    | nil => trivial
    | cons s ss => exact h.elim
  | cons x xs ih => cases ss with
    | nil => exact h.elim
    | cons s ss => exact ⟨h.1 a w g hf, ih h.2⟩

/-- Closed: function k has a body, and may be entered. -/
def enters (P : Program) (k : FuncId) : Bool :=
  match P.funcs[k]? with
  | some fn => !(fn.name == "runtime.NumGoroutine") && fn.body.isSome
  | none => false

theorem run_enter {P : Program} {k : FuncId} (h : enters P k = true) (args : Array Value) (w : World) : (callFunc k args).run P w = .ok (.enter k args) w := by
  unfold enters at h
  cases hf : P.funcs[k]? with
  | none => simp [hf] at h
  | some fn =>
    simp [hf] at h
    obtain ⟨h1, h2⟩ := h
    obtain ⟨c, hb⟩ := Option.isSome_iff_exists.1 h2
    simp [callFunc, hf, h1, hb]

def tagNew (g : Gh) (n t : Nat) : Gh := ⟨fun b => if b < n then g.om b else t, g.ga⟩

theorem GhE.tagNew {w w' : World} {g : Gh} (h : GhE X w g) {t : Nat} (ht : 10 ≤ t) (hs : w.heap.size ≤ w'.heap.size) (h0 : X.w0.heap.size ≤ w.heap.size) : GhE X w' (tagNew g w.heap.size t) := by
  refine ⟨⟨fun b hb => ?_, fun b hb hb' => ?_⟩, fun b hb => ?_⟩
  · simp only [GL.tagNew]; rw [if_pos (by omega)]; exact h.ok.old b hb
  · simp only [GL.tagNew]; split
    · exact h.ok.new b hb (by assumption)
    · exact ht
  · simp only [GL.tagNew]; rw [if_pos (by omega)]; exact h.om b hb

theorem Spec.call {k : FuncId} {pre : List Shape} {out : Shape} {shared : Bool} {d : Option Nat} {xs : List Operand} {ats : Array TypeId} {ty : TypeId} {pos : String} {af : Array Edge} {gd : Option (Nat × Bool)}
    (T : List Nat) (t : Nat) (ht : Nat.ble 10 t = true) (hk : enters X.P k = true) (hc : Ctr X.P k pre out shared) (hx : HasAll G T xs pre) :
    Spec X G ⟨d, .call { callee := .value (.func k), args := xs.toArray, argTypes := ats }, ty, pos, af, gd⟩ (out.f (if shared then t :: T else [t])) := fun a w g hs hfr hg hf K Q hK => by
  have ht' : 10 ≤ t := by simpa using ht
  have hcall := hc w g T _ (hx.all2 hf)
  have hrun : (execOp a.eval ⟨d, .call { callee := .value (.func k), args := xs.toArray, argTypes := ats }, ty, pos, af, gd⟩).run X.P w = .ok (.enter k (xs.map a.eval).toArray) w := by
    unfold execOp
    simp [resolve, Deferred.ofValue, Act.eval, invoke, run_enter hk]
  unfold Oper.wp
  rw [hrun]
  refine Calls.mono hcall ?_
  rintro e w' ⟨v, rfl, hw, hp⟩
  refine hK v w' ⟨hw, tagNew g w.heap.size t, hg.tagNew ht' hw.size hfr.size, fun b hb => by simp [tagNew, hb], fun _ => rfl, ?_⟩
  refine hp _ _ ?_
  intro b hb hor
  simp only [tagNew]
  rcases hor with h1 | ⟨h1, h2, h3⟩
  · rw [if_neg (Nat.not_lt.2 h1)]
    cases shared with
    | true => simp
    | false => simp
  · rw [if_pos h2, h1]; simp [h3]

/-! ### a function's own walk -/
def ResT (fn : Func) (l : List Nat) : Prop := fn.results = (l.map ResultVar.tmp).toArray

/-- The context of a call of an ordinary function: all old blocks that the arguments lean on have tag 0, all others 9. -/
def om0 (w : World) (g : Gh) (T : List Nat) : Nat → Nat := fun b => if g.om b ∈ T then 0 else 9

/-- What is to be shown at a return. -/
def RetR (X : Cx) (out : Shape) (T : List Nat) : Ending → World → Prop := fun e w' => ∃ v, e = .returned v ∧ Fr X.C X.w0 w' ∧ ∃ g, GhE X w' g ∧ (out.f T).p g v w'

theorem ctr_of_walk {P : Program} {k : FuncId} {fn : Func} {c : Code} {pre : List Shape} {out : Shape} {shared : Bool} {T : List Nat} (n : Nat) (hf : P.funcs[k]? = some fn) (hb : fn.body = some c) (hnt : fn.ntmps = n)
    (hn : Nat.ble pre.length n = true) (hT : (T.all fun t => Nat.ble 10 t || (shared && Nat.beq t 0)) = true)
    (h : ∀ (w0 : World) (om : Nat → Nat), CWalk ⟨P, n, w0, NoC, om⟩ (pre.zipIdx.map fun x => It.fact x.2 (x.1.f [0])) c (bodyPost P fn (RetR ⟨P, n, w0, NoC, om⟩ out T))) : Ctr P k pre out shared := by
  subst hnt
  intro w g T0 vs hvs
  have hn' : pre.length ≤ fn.ntmps := by simpa using hn
  have hlen : ∀ (pre : List Shape) (vs : List Value), All2 T0 g w pre vs → pre.length = vs.length := by
    intro pre
    induction pre with
    | nil => intro vs h; cases vs with
      | nil => rfl
      | cons v vs => exact h.elim
    | cons s ss ih => intro vs h; cases vs with
      | nil => exact h.elim
      | cons v vs => simp [ih vs h.2]
  have hl := hlen pre vs hvs
  let om : Nat → Nat := om0 w g T0
  let g0 : Gh := ⟨fun b => if b < w.heap.size then om b else 10, g.ga⟩
  refine Calls.mono (calls_of_wp hf hb (R := RetR ⟨P, fn.ntmps, w, NoC, om⟩ out T) (h w om _ _ ?_)) ?_
  · refine ⟨by simp; omega, rfl, Fr.refl _ _, g0, ⟨⟨fun b hb => ?_, fun b hb hb' => ?_⟩, fun b hb => ?_⟩, ?_⟩
    · simp only [g0, if_pos hb, om, om0]; split <;> omega
    · exact absurd hb' (Nat.not_lt.2 hb)
    · simp only [g0]; exact if_pos hb
    · have key : ∀ (pre : List Shape) (vs : List Value) (i : Nat) (tm : Array Value), All2 T0 g w pre vs → (∀ j v, vs[j]? = some v → tm.getD (i + j) undef = v) →
          Facts ((pre.zipIdx i).map fun x => It.fact x.2 (x.1.f [0])) g0 ⟨tm, []⟩ w := by
        intro pre
        induction pre with
        | nil => intro vs i tm _ _ s f hl; simp [look, lookK] at hl
        | cons s ss ih =>
          intro vs i tm h hv
          cases vs with
          | nil => exact h.elim
          | cons v vs =>
            have hrest := ih vs (i + 1) tm h.2 (fun j u hj => by have := hv (j + 1) u hj; rwa [show i + (j + 1) = i + 1 + j by omega] at this)
            intro s' f' hl
            simp only [List.zipIdx_cons, List.map_cons, look, lookK] at hl
            cases hb : Nat.beq i s' with
            | true =>
              have he : i = s' := Nat.eq_of_beq_eq_true hb
              subst he
              simp only [hb, cond_true] at hl
              cases hc : (disj (s.f [0]).tags [] && disj (s.f [0]).ids []) with
              | true =>
                simp only [hc, cond_true, Option.some.injEq] at hl
                subst hl
                have h0 := hv 0 v rfl
                simp only [Nat.add_zero] at h0
                show (s.f [0]).p g0 (tm.getD i undef) w
                rw [h0]
                refine s.re T0 [0] g g0 v w ?_ h.1
                intro b hb hm
                simp [g0, hb, om, om0, hm]
              | false => simp [hc] at hl
            | false =>
              simp only [hb, cond_false] at hl
              exact hrest s' f' hl
      refine key pre vs 0 _ hvs ?_
      intro j v hj
      have hjl : j < vs.length := (List.getElem?_eq_some_iff.1 hj).1
      simp only [Nat.zero_add]
      rw [Array.getD_eq_getD_getElem?, Array.getElem?_append_left (by simpa using hjl)]
      simp [hj]
  · rintro e w' ⟨v, rfl, hw, g1, hg1, hp⟩
    refine ⟨v, rfl, hw, fun T' g' hT' => out.re T T' g1 g' v w' ?_ hp⟩
    intro b hb hm
    have h1 := List.all_eq_true.1 hT _ hm
    simp only [Bool.or_eq_true, Bool.and_eq_true] at h1
    refine hT' b hb ?_
    rcases Nat.lt_or_ge b w.heap.size with hlt | hge
    · right
      have h2 := hg1.om b hlt
      have h3 : g1.om b < 10 := hg1.ok.old b hlt
      rcases h1 with h1 | ⟨hsh, h1⟩
      · have : 10 ≤ g1.om b := by simpa using h1
        omega
      · have h4 : g1.om b = 0 := Nat.eq_of_beq_eq_true h1
        refine ⟨hsh, hlt, ?_⟩
        rw [h4] at h2
        simp only [om, om0] at h2
        split at h2
        · assumption
        · omega
    · exact .inl hge

theorem Leaf.ret1 {P : Program} {fn : Func} {out : Shape} {T : List Nat} {w0 : World} {om : Nat → Nat} {C : Nat → Prop} {t n : Nat} (hr : fn.results = #[.tmp t])
    (h : Has G (.tmp t) (out.f T)) : Leaf ⟨P, n, w0, C, om⟩ G (bodyPost P fn (RetR ⟨P, n, w0, C, om⟩ out T)) .ret := fun a w e => by
  obtain ⟨g, hg, hf⟩ := e.facts
  exact ⟨e.defers, _, results_tmp hr _ _ _, _, rfl, e.fr, g, hg, h a w g hf⟩
theorem Leaf.ret2 {P : Program} {fn : Func} {s1 s2 : Shape} {T : List Nat} {w0 : World} {om : Nat → Nat} {C : Nat → Prop} {t u n : Nat} (hr : fn.results = #[.tmp t, .tmp u])
    (h1 : Has G (.tmp t) (s1.f T)) (h2 : Has G (.tmp u) (s2.f T)) : Leaf ⟨P, n, w0, C, om⟩ G (bodyPost P fn (RetR ⟨P, n, w0, C, om⟩ (.tup2 s1 s2) T)) .ret := fun a w e => by
  obtain ⟨g, hg, hf⟩ := e.facts
  exact ⟨e.defers, _, results_tmp2 hr _ _ _, _, rfl, e.fr, g, hg, _, _, rfl, h1 a w g hf, h2 a w g hf⟩
end
end GL
