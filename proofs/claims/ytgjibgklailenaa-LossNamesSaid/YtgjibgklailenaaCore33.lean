/- Own library, part 33: range over a function, walked where it stands. -/
import Derived.Test.YtgjibgklailenaaCore32
namespace GL
open Go

/-- What stays of a loop's record: where it lies, the block of the rounds' deferred calls, the temporaries at its entry. -/
structure RFr where
  l : Nat
  D : Nat
  fn : FuncId
  tm : Array Value
  ps : Array Tmp
  as : Code
  bd : Code
def RFr.rc (ρ : RFr) (st : LoopState) (pend : Option Code) : Loop := { state := st, pending := pend, fn := ρ.fn, tmps := ρ.tm, params := ρ.ps, assign := ρ.as, body := ρ.bd, defers := ρ.D }
def RFr.mark (ρ : RFr) : Deferred := { target := .collected ρ.D, args := #[] }
structure RFr.Ok (ρ : RFr) (N : Nat) (u : Nat → Value) (ps : Array Tmp) (as bd : Code) : Prop where
  sz : ρ.tm.size = N
  hu : ∀ s, ρ.tm.getD s undef = u s
  ps : ρ.ps = ps
  as : ρ.as = as
  bd : ρ.bd = bd

def Fact.rc (t : Nat) (ρ : RFr) (st : LoopState) (pend : Option Code) : Fact where
  tags := [t]
  ids := []
  p := fun g _ w => w.heap[ρ.l]? = some (.loop (ρ.rc st pend)) ∧ g.om ρ.l = t
  stab := fun g g' v w w' hk h => by
    obtain ⟨h1, h2⟩ := h
    have hlt := (Array.getElem?_eq_some_iff.1 h1).1
    have := hk.block ρ.l hlt (by rw [h2]; simp)
    exact ⟨by rw [this.1]; exact h1, by rw [this.2]; exact h2⟩
def Fact.dm (t D : Nat) : Fact where
  tags := [t]
  ids := []
  p := fun g _ w => w.heap[D]? = some (.deferred (some [])) ∧ g.om D = t
  stab := fun g g' v w w' hk h => by
    obtain ⟨h1, h2⟩ := h
    have hlt := (Array.getElem?_eq_some_iff.1 h1).1
    have := hk.block D hlt (by rw [h2]; simp)
    exact ⟨by rw [this.1]; exact h1, by rw [this.2]; exact h2⟩
/-- The function that a loop hands on. -/
def Fact.yv (l : Nat) : Fact where
  tags := []
  ids := []
  p := fun _ v _ => v = .func (.yield l) #[] #[]
  stab := fun _ _ _ _ _ _ h => h

section
variable {X : Cx} {G : List It} {Q : Exit → Act → World → Prop} {ops : Array Oper} {rest : List Oper}

/-- What is to be shown where the function that was ranged over returns. -/
def RfR (X : Cx) (Q : Exit → Act → World → Prop) (u : Nat → Value) (ρ : RFr) : Ending → World → Prop := fun e w' =>
  (∃ v, e = .returned v) ∧ ∃ st jump, w'.heap[ρ.l]? = some (.loop (ρ.rc st jump)) ∧ st ≠ .busy ∧
    ∀ a0 : Act, a0.tmps.size = X.n → a0.defers = [ρ.mark] → (∀ s, a0.tmps.getD s undef = u s) →
      match jump with
      | none => Q .normal a0 (w'.putObj ρ.l (.loop (ρ.rc .exhausted none)))
      | some c => c.wpIn X.F 0 X.P Q a0 (w'.putObj ρ.l (.loop (ρ.rc .exhausted (some c))))

def gh2 (g : Gh) (n t1 t2 : Nat) : Gh := ⟨fun b => if b < n then g.om b else if b = n then t1 else t2, g.ga⟩

theorem CWalk.rangeFunc {s : Nat} {ps : Array Tmp} {as bd : Code} {k : FuncId} {fn : Func} {c : Code} {n' : Nat} {cs : List Fact} (t : Nat) (Gc : (Nat → Value) → List It)
    (ht : Nat.ble 10 t = true) (hrd : X.rd = none) (hds : X.ds = []) (hx : look G s = some (.fnv k [] cs)) (hf : X.P.funcs[k]? = some fn) (hb : fn.body = some c) (hn : fn.ntmps = n')
    (hk : enters X.P k = true) (hl : Nat.ble (cs.length + 1) n' = true) (hcar : ∀ u, Carry G u (Gc u))
    (hbody : ∀ (u : Nat → Value) (ρ : RFr), ρ.Ok X.n u ps as bd → CWalk ⟨X.P, n', X.w0, X.C, X.om0, none, []⟩ (argI 0 (.yv ρ.l :: cs) (.fact (rs t) (.rc t ρ .ready none) :: .fact (rs (t + 1)) (.dm (t + 1) ρ.D) :: Gc u)) c (bodyPost X.P fn (RfR X Q u ρ))) :
    CWalk X G (.rangeFunc (.tmp s) ps as bd) Q := fun a w env => by
  have ht' : 10 ≤ t := by simpa using ht
  obtain ⟨g, hge, hfa⟩ := env.facts
  obtain ⟨us, vs, hv, hus, hvs⟩ := hfa s _ hx
  obtain rfl : us = [] := hus
  rw [Cx.F_none hrd]
  refine wpIn_rangeFunc ?_
  intro fi _
  let ρ : RFr := ⟨w.heap.size + 1, w.heap.size, fi, a.tmps, ps, as, bd⟩
  let W1 : World := (w.alloc (.deferred (some []))).alloc (.loop (ρ.rc .ready none))
  have hL1 : W1.heap[w.heap.size + 1]? = some (.loop (ρ.rc .ready none)) := by
    have := World.alloc_heap_new (w.alloc (.deferred (some []))) (.loop (ρ.rc .ready none)); rwa [World.size_alloc] at this
  have hK1 : W1.heap[w.heap.size]? = some (.deferred (some [])) :=
    (RowKit.Below.heap_alloc _ _ _ (by simp)).trans (World.alloc_heap_new w _)
  have hsz : W1.heap.size = w.heap.size + 2 := by simp [W1]
  have hold : ∀ b, b < w.heap.size → W1.heap[b]? = w.heap[b]? := fun b hb =>
    (RowKit.Below.heap_alloc _ _ _ (by simp; omega)).trans (RowKit.Below.heap_alloc _ _ _ hb)
  refine ⟨w.heap.size + 1, [ρ.mark], W1, { target := .fn (.func k) vs.toArray, args := #[.func (.yield (w.heap.size + 1)) #[] #[]] }, W1, k,
    (.func (.yield (w.heap.size + 1)) #[] #[] :: vs).toArray, W1, ?_, ?_, ?_, ?_, fun h => (by cases h), ?_⟩
  · exact run_enterLoop_outer _ _ _ _ _
  · have hev : a.eval (.tmp s) = .func (.func k) #[] vs.toArray := hv
    simp only [resolve, hev]
    simp [go_sem]
  · intro f' hf'; trivial
  · have := run_enter (P := X.P) hk
    simp [invoke, go_sem, this]
  · refine callsIn_of_wp hf hb trivial ?_
    have hcw := hbody (fun s => a.tmps.getD s undef) ρ ⟨env.size, fun _ => rfl, rfl, rfl, rfl⟩
    have hlen := AllP.len cs vs hvs
    have hl' : cs.length + 1 ≤ n' := by simpa using hl
    have hge' : GhE ⟨X.P, n', X.w0, X.C, X.om0, none, []⟩ W1 (gh2 g w.heap.size (t + 1) t) := by
      have h0 := env.fr.size
      refine ⟨⟨fun b hb => ?_, fun b hb hb' => ?_⟩, fun b hb => ?_⟩
      · have hb2 : b < X.w0.heap.size := hb
        simp only [gh2]; rw [if_pos (by omega)]; exact hge.ok.old b hb
      · simp only [gh2]; split
        · exact hge.ok.new b hb (by assumption)
        · split <;> omega
      · have hb2 : b < X.w0.heap.size := hb
        simp only [gh2]; rw [if_pos (by omega)]; exact hge.om b hb
    have hfr : Fr X.C X.w0 W1 := env.fr.trans (D := NoC) ⟨rfl, rfl, rfl, by omega, fun b hb _ => hold b hb⟩ (fun _ _ h => h.elim)
    have hkeep : ∀ f : Fact, ∀ v, f.p g v w → f.p (gh2 g w.heap.size (t + 1) t) v W1 := fun f v h =>
      f.stab g _ v w W1 ⟨by omega, fun b hb _ => ⟨hold b hb, by simp [gh2, hb]⟩, fun _ _ => rfl⟩ h
    have hcarF : ∀ a' : Act, Facts (Gc (fun s => a.tmps.getD s undef)) (gh2 g w.heap.size (t + 1) t) a' W1 := fun a' s f hlk =>
      hkeep f _ (hcar _ a w g a' hfa (fun _ => rfl) s f hlk)
    have hallv : AllP (gh2 g w.heap.size (t + 1) t) W1 (.yv ρ.l :: cs) (.func (.yield (w.heap.size + 1)) #[] #[] :: vs) :=
      ⟨_, _, rfl, rfl, AllP.stab (g := g) (w := w) cs vs ⟨by omega, fun b hb _ => ⟨hold b hb, by simp [gh2, hb]⟩, fun _ _ => rfl⟩ hvs⟩
    refine wpIn_wide.2 (wpIn_wide (n := 0).1 (wpIn_mono (hcw _ W1 ?_) ?_))
    · subst hn
      refine ⟨by simp; omega, rfl, hfr, _, hge', ?_⟩
      refine facts_argI _ _ 0 (Facts.ghost (Facts.ghost (hcarF _) (fun _ => ⟨hK1, ?_⟩)) (fun _ => ⟨hL1, ?_⟩)) hallv (fun j v hj => ?_)
      · simp [gh2, ρ]
      · simp only [gh2, ρ]; rw [if_neg (by omega), if_neg (by omega)]
      · have hjl : j < (Value.func (.yield (w.heap.size + 1)) #[] #[] :: vs).length := (List.getElem?_eq_some_iff.1 hj).1
        simp only [Nat.zero_add]
        rw [Array.getD_eq_getD_getElem?, Array.getElem?_append_left (by simpa using hjl)]
        simp only [List.getElem?_toArray, hj, Option.getD_some]
    · have hpost : ∀ e w3, RfR X Q (fun s => a.tmps.getD s undef) ρ e w3 → rangePost Fence.wide 0 X.P (w.heap.size + 1) Q { a with defers := [ρ.mark] ++ a.defers } e w3 := by
        rintro e w3 ⟨⟨v, rfl⟩, st, jump, h1, h2, h3⟩
        refine ⟨jump, w3.putObj ρ.l (.loop (ρ.rc .exhausted jump)), run_endLoop (P := X.P) h1 h2, ?_⟩
        have hq := h3 { a with defers := [ρ.mark] ++ a.defers } env.size (by rw [env.defers, hds]; rfl) (fun _ => rfl)
        cases jump with
        | none => exact hq
        | some c => rw [Cx.F_none hrd] at hq; exact hq
      intro e a3 w3 hq
      cases e with
      | normal => obtain ⟨h1, v, h2, h3⟩ := hq; exact ⟨h1, v, h2, hpost _ _ h3⟩
      | ret => obtain ⟨h1, v, h2, h3⟩ := hq; exact ⟨h1, v, h2, hpost _ _ h3⟩
      | panic ch => exact ⟨hq.1, hpost _ _ hq.2⟩
      | outgrown => exact hpost _ _ hq
      | exit id => exact hq
      | goto l => exact hq

theorem Has.top {x : Operand} : Has G x .top := fun _ _ _ _ => trivial

theorem lk {u : Nat → Value} {d : Option Nat} {f0 f : Fact} {s : Nat} {J : List It} (k : Low G u d f0 J) (h : look G s = some f := by rfl) (hv : VFree f := by exact fun _ _ _ _ h => h) : Low G u d f0 (.fact s f :: J) :=
  Low.keep (Low.look h hv) k

/-! ### one round -/
def Carry2 (G : List It) (u1 : Nat → Value) (ps : List Nat) (u2 : Nat → Value) (Gc : List It) : Prop := ∀ a w g a', Facts G g a w → (∀ s, a.tmps.getD s undef = u2 s) → (∀ s, s ∉ ps → a'.tmps.getD s undef = u1 s) → Facts Gc g a' w
theorem Carry2.nil {u1 u2 : Nat → Value} {ps : List Nat} : Carry2 G u1 ps u2 [] := fun _ _ _ _ _ _ _ => facts_nil
theorem Carry2.slot {u1 u2 : Nat → Value} {ps : List Nat} {Gc : List It} (D s : Nat) {q : Nat} {f : Fact} (k : Carry2 G u1 ps u2 Gc) (h : look G s = some f := by rfl) (hq : D + s = q := by rfl) : Carry2 G u1 ps u2 (.fact q (.cst (u2 s) f) :: Gc) := fun a w g a' hf h2 h1 =>
  Facts.ghost (k a w g a' hf h2 h1) (fun _ => by
    have := hf s f h
    show f.p g (u2 s) w
    rw [← h2 s]; exact this)
theorem Carry2.keep {u1 u2 : Nat → Value} {ps : List Nat} {Gc : List It} {s : Nat} {f : Fact} (k : Carry2 G u1 ps u2 Gc) (h : look G s = some f := by rfl) (hv : VFree f := by exact fun _ _ _ _ h => h) : Carry2 G u1 ps u2 (.fact s f :: Gc) := fun a w g a' hf h2 h1 =>
  Facts.ghost (k a w g a' hf h2 h1) (fun _ => hv _ _ _ _ (hf s f h))
/-- A temporary of the frame that loops, as the round finds it. -/
theorem Carry2.low {u1 u2 : Nat → Value} {ps : List Nat} {Gc : List It} (q s : Nat) {f : Fact} (k : Carry2 G u1 ps u2 Gc) (h : look G q = some (.cst (u1 s) f) := by rfl) (hs : ps.elem s = false := by rfl) : Carry2 G u1 ps u2 (.fact s f :: Gc) := fun a w g a' hf h2 h1 s' f' hl => by
  rcases lookK_nil_spec hl with ⟨rfl, rfl⟩ | ⟨_, hl⟩
  · rw [h1 s (by intro hm; have : ps.elem s = true := by simpa using hm
                 rw [hs] at this; cases this)]
    exact hf q _ h
  · exact k a w g a' hf h2 h1 s' f' hl

def psI : List Nat → List Fact → List It → List It
  | p :: ps, f :: fs, G => .fact p f :: psI ps fs G
  | _, _, G => G
def psOk (N : Nat) : List Nat → Bool
  | [] => true
  | p :: ps => Nat.blt p N && !ps.elem p && psOk N ps

theorem zip_fold : ∀ (ps : List Nat) (vs : List Value) (tm : Array Value), psOk tm.size ps = true → vs.length = ps.length →
    ((ps.zip vs).foldl (fun t (x : Nat × Value) => t.setIfInBounds x.1 x.2) tm).size = tm.size ∧
    (∀ s, s ∉ ps → ((ps.zip vs).foldl (fun t (x : Nat × Value) => t.setIfInBounds x.1 x.2) tm).getD s undef = tm.getD s undef) ∧
    ∀ (i p : Nat) (v : Value), ps[i]? = some p → vs[i]? = some v → ((ps.zip vs).foldl (fun t (x : Nat × Value) => t.setIfInBounds x.1 x.2) tm).getD p undef = v
  | [], _, _, _, _ => by simp
  | p :: ps, [], _, _, h => by simp at h
  | p :: ps, v :: vs, tm, hok, hlen => by
    simp only [psOk, Bool.and_eq_true, Bool.not_eq_true', Nat.blt_eq] at hok
    obtain ⟨⟨hp, hnp⟩, hok⟩ := hok
    have hnp' : p ∉ ps := by simpa using hnp
    obtain ⟨i1, i2, i3⟩ := zip_fold ps vs (tm.setIfInBounds p v) (by simpa using hok) (by simpa using hlen)
    simp only [List.zip_cons_cons, List.foldl_cons]
    refine ⟨by rw [i1]; simp, fun s hs => ?_, fun i q x hi hx => ?_⟩
    · simp only [List.mem_cons, not_or] at hs
      rw [i2 s hs.2]
      simp only [Array.getD_eq_getD_getElem?]
      rw [Array.getElem?_setIfInBounds_ne (Ne.symm hs.1)]
    · cases i with
      | zero =>
        simp at hi hx
        subst hi; subst hx
        rw [i2 p hnp']
        simp [Array.getD_eq_getD_getElem?, hp]
      | succ i => exact i3 i q x (by simpa using hi) (by simpa using hx)

theorem psI_facts {g : Gh} {a : Act} {w : World} : ∀ (ps : List Nat) (fs : List Fact) (vs : List Value) (G : List It), Facts G g a w → AllP g w fs vs → (∀ (i p : Nat) (v : Value), ps[i]? = some p → vs[i]? = some v → a.tmps.getD p undef = v) → Facts (psI ps fs G) g a w
  | [], fs, vs, G, h, _, _ => by cases fs <;> exact h
  | p :: ps, [], vs, G, h, _, _ => h
  | p :: ps, f :: fs, vs, G, h, hp, hv => by
    obtain ⟨v, vr, rfl, h1, h2⟩ := hp
    intro s f' hl
    rcases lookK_nil_spec hl with ⟨rfl, rfl⟩ | ⟨_, hl⟩
    · rw [hv 0 p v rfl rfl]; exact h1
    · exact psI_facts ps fs vr G h h2 (fun i q x hi hx => hv (i + 1) q x (by simpa using hi) (by simpa using hx)) s f' hl

/-- What is to be shown at a round's end. -/
def RdR (X : Cx) (ops : Array Oper) (Q : Exit → Act → World → Prop) (rest : List Oper) (d : Nat) (u2 : Nat → Value) : Ending → World → Prop := fun e w' =>
  ∃ v, e = .returned v ∧ ∀ a0 : Act, a0.tmps.size = X.n → a0.defers = X.ds → (∀ s, a0.tmps.getD s undef = u2 s) → wpListIn X.F 0 X.P ops Q rest (a0.put (some d) v) w'
def BgQ (X : Cx) (ρ : RFr) (bd : Code) (R : Ending → World → Prop) : Act → World → Prop := fun a1 w1 =>
  ∃ w2, (Instr.beginRound ρ.l).run X.P w1 = .ok () w2 ∧ bd.wpIn { Fence.wide with round := some ρ.l } 0 X.P (roundPost X.P ρ.l R) a1 w2

theorem Walk.yieldH {d s0 N : Nat} {xs : List Operand} {xa : Array Operand} {ats : Array TypeId} {ty : TypeId} {pos : String} {af : Array Edge} {fs : List Fact} {t : Nat} {ρ : RFr} {u1 : Nat → Value} {ps : List Nat} {pa : Array Tmp} {as bd : Code} (Gc : (Nat → Value) → List It)
    (hρ : ρ.Ok N u1 pa as bd) (hpa : pa = ps.toArray) (hrd : X.rd = none) (hs : Has G (.tmp s0) (.yv ρ.l)) (hrc : look G (rs t) = some (.rc t ρ .ready none)) (hxa : xa = xs.toArray) (hxs : HasF G xs fs)
    (hlen : Nat.beq fs.length ps.length = true) (hps : psOk N ps = true) (hcar : ∀ u2, Carry2 G u1 ps u2 (Gc u2))
    (h : ∀ u2, CWalk ⟨X.P, N, X.w0, X.C, X.om0, some ρ.l, []⟩ (psI ps fs (Gc u2)) as (Exit.then (BgQ X ρ bd (RdR X ops Q rest d u2)) (fun _ _ _ => False))) :
    Walk X ops Q G (⟨some d, .call { callee := .value (.tmp s0), args := xa, argTypes := ats }, ty, pos, af, none⟩ :: rest) := fun a w env => by
  obtain ⟨g, hge, hfa⟩ := env.facts
  have hfn : a.eval (.tmp s0) = .func (.yield ρ.l) #[] #[] := hs a w g hfa
  obtain ⟨hw1, hw2⟩ := hfa (rs t) _ hrc
  have hall := hxs.all xs fs hfa
  have hl1 := AllP.len _ _ hall
  have hl2 : fs.length = ps.length := Nat.eq_of_beq_eq_true hlen
  refine wpListIn_plain rfl fun K hK => ?_
  refine ⟨fun _ _ => trivial, ?_⟩
  rw [Oper.semAt_eq _ _ _ (fun c hc => by cases hc)]
  have hrun : (execOp a.eval ⟨some d, .call { callee := .value (.tmp s0), args := xa, argTypes := ats }, ty, pos, af, none⟩).run X.P w =
      .ok (.round ρ.l ρ.fn ((ρ.ps.zip (xs.map a.eval).toArray).foldl (fun tmps (t, a) => tmps.setIfInBounds t a) ρ.tm) ρ.as ρ.bd) w := by
    have hy := run_yield (P := X.P) (args := (xs.map a.eval).toArray) hw1 (by show _ = ρ.ps.size; rw [hρ.ps, hpa]; simp; simp at hl1; omega)
    unfold execOp
    simp [resolve, Deferred.ofValue, hfn, hxa, invoke]
    simpa [RFr.rc] using hy
  rw [hrun]
  refine ⟨fun h => (by cases h), ?_⟩
  refine RoundIn.mono (R := RdR X ops Q rest d (fun s => a.tmps.getD s undef)) ?_ ?_
  · have hr : RoundIn { Fence.wide with round := X.rd } (0 - 1) X.P ρ.l ρ.fn ((ρ.ps.zip (xs.map a.eval).toArray).foldl (fun tmps (t, a) => tmps.setIfInBounds t a) ρ.tm) ρ.as ρ.bd w (RdR X ops Q rest d (fun s => a.tmps.getD s undef)) := by
      refine roundIn_of_wpIn (F := { Fence.wide with round := X.rd }) (n := 0) trivial ?_
      rw [hρ.as, hρ.bd]
      have hz := zip_fold ps (xs.map a.eval) ρ.tm (by rw [hρ.sz]; exact hps) (by simp at hl1 ⊢; omega)
      have hzz : (ρ.ps.zip (xs.map a.eval).toArray).foldl (fun tmps (t, a) => tmps.setIfInBounds t a) ρ.tm = (ps.zip (xs.map a.eval)).foldl (fun t (x : Nat × Value) => t.setIfInBounds x.1 x.2) ρ.tm := by
        rw [hρ.ps, hpa]; simp
      rw [hzz]
      refine h (fun s => a.tmps.getD s undef) _ w ⟨by rw [hz.1]; exact hρ.sz, rfl, env.fr, g, ⟨hge.ok, hge.om⟩, ?_⟩
      exact psI_facts ps fs (xs.map a.eval) _ (hcar _ a w g _ hfa (fun _ => rfl) (fun s hs => by rw [hz.2.1 s hs]; exact hρ.hu s)) hall (fun i p v hi hv => hz.2.2 i p v hi hv)
    exact hr
  · rintro e w' ⟨v, rfl, hv⟩
    exact hK _ _ (hv a env.size env.defers (fun _ => rfl))

theorem Walk.yield {d s0 N : Nat} {xs : List Operand} {xa : Array Operand} {ats : Array TypeId} {ty : TypeId} {pos : String} {af : Array Edge} {fs : List Fact} {t : Nat} {ρ : RFr} {u1 : Nat → Value} {ps : List Nat} {pa : Array Tmp} {as bd : Code} (Gc : (Nat → Value) → List It)
    (hρ : ρ.Ok N u1 pa as bd) (hpa : pa = ps.toArray) (hrd : X.rd = none) (hs : look G s0 = some (.yv ρ.l)) (hrc : look G (rs t) = some (.rc t ρ .ready none)) (hxa : xa = xs.toArray) (hxs : HasF G xs fs)
    (hlen : Nat.beq fs.length ps.length = true) (hps : psOk N ps = true) (hcar : ∀ u2, Carry2 G u1 ps u2 (Gc u2))
    (h : ∀ u2, CWalk ⟨X.P, N, X.w0, X.C, X.om0, some ρ.l, []⟩ (psI ps fs (Gc u2)) as (Exit.then (BgQ X ρ bd (RdR X ops Q rest d u2)) (fun _ _ _ => False))) :
    Walk X ops Q G (⟨some d, .call { callee := .value (.tmp s0), args := xa, argTypes := ats }, ty, pos, af, none⟩ :: rest) :=
  Walk.yieldH Gc hρ hpa hrd (Has.s hs) hrc hxa hxs hlen hps hcar h

theorem facts_put {G : List It} {g : Gh} {a : Act} {w : World} {t l : Nat} {o : Obj} (h : Facts G g a w) (hl : g.om l = t) : Facts (.kill t :: G) g a (w.putObj l o) :=
  facts_killed' h (by simp) (fun b _ hb => World.putObj_heap_other (fun he => hb (by rw [he]; exact hl)))
theorem fr_put {X : Cx} {C : Nat → Prop} {w : World} {g : Gh} {l t : Nat} {o : Obj} (hfr : Fr C X.w0 w) (hge : GhE X w g) (hl : g.om l = t) (ht : 10 ≤ t) : Fr C X.w0 (w.putObj l o) :=
  hfr.trans (D := (· = l)) ⟨rfl, rfl, rfl, by simp, fun b _ hb => World.putObj_heap_other hb⟩ (fun b hb he => by have := hge.ok.old b hb; rw [he, hl] at this; omega)
theorem ghe_put {X X' : Cx} {w : World} {g : Gh} {l : Nat} {o : Obj} (hge : GhE X w g) (h0 : X'.w0 = X.w0) (h1 : X'.om0 = X.om0) : GhE X' (w.putObj l o) g :=
  ⟨⟨by rw [h0]; exact hge.ok.old, fun b hb hb' => hge.ok.new b (by rw [← h0]; exact hb) (by simpa using hb')⟩, by rw [h0, h1]; exact hge.om⟩

theorem Leaf.begin {N t : Nat} {ρ : RFr} {bd : Code} {R : Ending → World → Prop} (ht : Nat.ble 10 t = true) (hrc : look G (rs t) = some (.rc t ρ .ready none))
    (k : CWalk ⟨X.P, N, X.w0, X.C, X.om0, some ρ.l, []⟩ (.fact (rs t) (.rc t ρ .busy none) :: .kill t :: G) bd (roundPost X.P ρ.l R)) :
    Leaf ⟨X.P, N, X.w0, X.C, X.om0, some ρ.l, []⟩ G (Exit.then (BgQ X ρ bd R) (fun _ _ _ => False)) .normal := fun a w env => by
  obtain ⟨g, hge, hfa⟩ := env.facts
  obtain ⟨h1, h2⟩ := hfa (rs t) _ hrc
  have ht' : 10 ≤ t := by simpa using ht
  refine ⟨_, run_beginRound h1 rfl, ?_⟩
  refine k a _ ⟨env.size, env.defers, (fr_put env.fr hge h2 ht' :), g, ghe_put hge rfl rfl, ?_⟩
  refine Facts.ghost (facts_put hfa h2) (fun _ => ⟨?_, h2⟩)
  exact World.putObj_heap_same (Array.getElem?_eq_some_iff.1 h1).1

theorem Leaf.rdN {N t d : Nat} {ρ : RFr} {u2 : Nat → Value} {J : List It} (ht : Nat.ble 10 t = true) (hd : Nat.blt d X.n = true) (hrc : look G (rs t) = some (.rc t ρ .busy none)) (hl : Low G u2 (some d) (Fact.rep [] true) J)
    (k : Walk X ops Q (.fact (rs t) (.rc t ρ .ready none) :: .kill t :: J) rest) :
    Leaf ⟨X.P, N, X.w0, X.C, X.om0, some ρ.l, []⟩ G (roundPost X.P ρ.l (RdR X ops Q rest d u2)) .normal := fun a w env => by
  obtain ⟨g, hge, hfa⟩ := env.facts
  obtain ⟨h1, h2⟩ := hfa (rs t) _ hrc
  have ht' : 10 ≤ t := by simpa using ht
  refine ⟨_, _, run_endRound none h1, .bool true, rfl, fun a0 hs hds hu => ?_⟩
  have hd' : d < X.n := by simpa [Nat.blt_eq] using hd
  refine k _ _ ⟨by simp [Act.put, hs], hds, (fr_put env.fr hge h2 ht' :), g, ghe_put hge rfl rfl, ?_⟩
  refine Facts.ghost (facts_put (hl a w g a0 _ hfa (rep_bool.2 rfl) hu (fun e he => by cases he; rw [hs]; exact hd')) h2) (fun _ => ⟨?_, h2⟩)
  exact World.putObj_heap_same (Array.getElem?_eq_some_iff.1 h1).1
theorem rdJ {N t d : Nat} {ρ : RFr} {u2 : Nat → Value} {J : List It} {c : Code} (ht : Nat.ble 10 t = true) (hd : Nat.blt d X.n = true) (hrc : look G (rs t) = some (.rc t ρ .busy none)) (hl : Low G u2 (some d) (Fact.rep [] false) J)
    (k : Walk X ops Q (.fact (rs t) (.rc t ρ .done (some c)) :: .kill t :: J) rest) {a : Act} {w : World} (env : Env ⟨X.P, N, X.w0, X.C, X.om0, some ρ.l, []⟩ G a w) :
    ∃ v w', (Instr.endRound ρ.l (some c)).run X.P w = .ok v w' ∧ RdR X ops Q rest d u2 (.returned v) w' := by
  obtain ⟨g, hge, hfa⟩ := env.facts
  obtain ⟨h1, h2⟩ := hfa (rs t) _ hrc
  have ht' : 10 ≤ t := by simpa using ht
  refine ⟨_, _, run_endRound (some c) h1, .bool false, rfl, fun a0 hs hds hu => ?_⟩
  have hd' : d < X.n := by simpa [Nat.blt_eq] using hd
  refine k _ _ ⟨by simp [Act.put, hs], hds, (fr_put env.fr hge h2 ht' :), g, ghe_put hge rfl rfl, ?_⟩
  refine Facts.ghost (facts_put (hl a w g a0 _ hfa (rep_bool.2 rfl) hu (fun e he => by cases he; rw [hs]; exact hd')) h2) (fun _ => ⟨?_, h2⟩)
  exact World.putObj_heap_same (Array.getElem?_eq_some_iff.1 h1).1
theorem Leaf.rdR {N t d : Nat} {ρ : RFr} {u2 : Nat → Value} {J : List It} (ht : Nat.ble 10 t = true) (hd : Nat.blt d X.n = true) (hrc : look G (rs t) = some (.rc t ρ .busy none)) (hl : Low G u2 (some d) (Fact.rep [] false) J)
    (k : Walk X ops Q (.fact (rs t) (.rc t ρ .done (some .ret)) :: .kill t :: J) rest) :
    Leaf ⟨X.P, N, X.w0, X.C, X.om0, some ρ.l, []⟩ G (roundPost X.P ρ.l (RdR X ops Q rest d u2)) .ret := fun _ _ env => rdJ ht hd hrc hl k env
theorem Leaf.rdE {N t d id : Nat} {ρ : RFr} {u2 : Nat → Value} {J : List It} (ht : Nat.ble 10 t = true) (hd : Nat.blt d X.n = true) (hrc : look G (rs t) = some (.rc t ρ .busy none)) (hl : Low G u2 (some d) (Fact.rep [] false) J)
    (k : Walk X ops Q (.fact (rs t) (.rc t ρ .done (some (.exit id))) :: .kill t :: J) rest) :
    Leaf ⟨X.P, N, X.w0, X.C, X.om0, some ρ.l, []⟩ G (roundPost X.P ρ.l (RdR X ops Q rest d u2)) (.exit id) := fun _ _ env => rdJ ht hd hrc hl k env

/-! ### the function that was ranged over returns -/
theorem Leaf.rfN {n' t : Nat} {fn : Func} {ρ : RFr} {u : Nat → Value} {J : List It} {st : LoopState} (ht : Nat.ble 10 t = true) (hr : fn.results = #[]) (hrc : look G (rs t) = some (.rc t ρ st none)) (hst : st ≠ .busy) (hl : Low G u none Fact.top J)
    (k : Leaf ⟨X.P, X.n, X.w0, X.C, X.om0, X.rd, [ρ.mark]⟩ (.kill t :: J) Q .normal) :
    Leaf ⟨X.P, n', X.w0, X.C, X.om0, none, []⟩ G (bodyPost X.P fn (RfR X Q u ρ)) .ret := fun a w env => by
  obtain ⟨g, hge, hfa⟩ := env.facts
  obtain ⟨h1, h2⟩ := hfa (rs t) _ hrc
  have ht' : 10 ≤ t := by simpa using ht
  refine ⟨env.defers, .tuple #[], by rw [results_eq, hr]; simp, ⟨_, rfl⟩, st, none, h1, hst, fun a0 hs hds hu => ?_⟩
  refine k _ _ ⟨hs, hds, (fr_put env.fr hge h2 ht' :), g, ghe_put hge rfl rfl, ?_⟩
  exact facts_put (hl a w g a0 undef hfa trivial hu (fun e he => by cases he)) h2
theorem Leaf.rfJ {n' t : Nat} {fn : Func} {ρ : RFr} {u : Nat → Value} {J : List It} {st : LoopState} {c : Code} (ht : Nat.ble 10 t = true) (hr : fn.results = #[]) (hrc : look G (rs t) = some (.rc t ρ st (some c))) (hst : st ≠ .busy) (hl : Low G u none Fact.top J)
    (k : CWalk ⟨X.P, X.n, X.w0, X.C, X.om0, X.rd, [ρ.mark]⟩ (.kill t :: J) c Q) :
    Leaf ⟨X.P, n', X.w0, X.C, X.om0, none, []⟩ G (bodyPost X.P fn (RfR X Q u ρ)) .ret := fun a w env => by
  obtain ⟨g, hge, hfa⟩ := env.facts
  obtain ⟨h1, h2⟩ := hfa (rs t) _ hrc
  have ht' : 10 ≤ t := by simpa using ht
  refine ⟨env.defers, .tuple #[], by rw [results_eq, hr]; simp, ⟨_, rfl⟩, st, some c, h1, hst, fun a0 hs hds hu => ?_⟩
  refine k _ _ ⟨hs, hds, (fr_put env.fr hge h2 ht' :), g, ghe_put hge rfl rfl, ?_⟩
  exact facts_put (hl a w g a0 undef hfa trivial hu (fun e he => by cases he)) h2
theorem Leaf.rfe {n' : Nat} {Gx : List It} {fn : Func} {u : Nat → Value} {ρ : RFr} (h : Leaf ⟨X.P, n', X.w0, X.C, X.om0, none, []⟩ Gx (bodyPost X.P fn (RfR X Q u ρ)) .ret) :
    Leaf ⟨X.P, n', X.w0, X.C, X.om0, none, []⟩ Gx (bodyPost X.P fn (RfR X Q u ρ)) .normal := h

/-! ### a function that holds such a loop -/
def PostM (P : Program) (fn : Func) (R : Ending → World → Prop) : Exit → Act → World → Prop := bodyPostM Fence.wide 0 P fn R
theorem postM_of {P : Program} {fn : Func} {R : Ending → World → Prop} : ∀ (e : Exit) (a : Act) (w : World), bodyPost P fn R e a w → PostM P fn R e a w
  | .normal, a, w, h => by obtain ⟨h1, h2⟩ := h; show LeavesInM _ _ _ _ _ _ a.defers _ _; rw [h1]; exact h2
  | .ret, a, w, h => by obtain ⟨h1, h2⟩ := h; show LeavesInM _ _ _ _ _ _ a.defers _ _; rw [h1]; exact h2
  | .panic ch, a, w, h => by obtain ⟨h1, h2⟩ := h; show LeavesInM _ _ _ _ _ _ a.defers _ _; rw [h1]; exact h2
  | .outgrown, _, _, h => h
  | .exit _, _, _, h => h
  | .goto _, _, _, h => h
variable {P : Program} {n : Nat} {w0 : World} {C : Nat → Prop} {om : Nat → Nat} {fn : Func}
theorem Leaf.retM {R : Ending → World → Prop} {e : Exit} (h : Leaf ⟨P, n, w0, C, om, none, []⟩ G (bodyPost P fn R) e) : Leaf ⟨P, n, w0, C, om, none, []⟩ G (PostM P fn R) e := fun a w env => postM_of _ _ _ (h a w env)
theorem Leaf.unmark {R : Ending → World → Prop} {t : Nat} {ρ : RFr} (ht : Nat.ble 10 t = true) (hm : look G (rs t) = some (.dm t ρ.D)) (h : Leaf ⟨P, n, w0, C, om, none, []⟩ (.kill t :: G) (bodyPost P fn R) .ret) :
    Leaf ⟨P, n, w0, C, om, none, [ρ.mark]⟩ G (PostM P fn R) .ret := fun a w env => by
  obtain ⟨g, hge, hfa⟩ := env.facts
  obtain ⟨h1, h2⟩ := hfa (rs t) _ hm
  have ht' : 10 ≤ t := by simpa using ht
  have hq := h { a with defers := [] } (w.putObj ρ.D (.deferred none)) ⟨env.size, rfl, (fr_put env.fr hge h2 ht' :), g, ghe_put hge rfl rfl, facts_put hfa h2⟩
  show LeavesInM _ _ _ _ _ _ a.defers _ _
  rw [env.defers]
  exact ⟨by simp, .inl ⟨ρ.D, _, rfl, run_takeDeferred h1, hq.2⟩⟩
theorem Leaf.unmarkN {R : Ending → World → Prop} {ds : List Deferred} {Gx : List It} (h : Leaf ⟨P, n, w0, C, om, none, ds⟩ Gx (PostM P fn R) .ret) : Leaf ⟨P, n, w0, C, om, none, ds⟩ Gx (PostM P fn R) .normal := h

theorem ctr_of_walkM {P : Program} {k : FuncId} {fn : Func} {c : Code} {pre : List Shape} {out : Shape} {shc : List Nat} (TT : List (List Nat)) (n : Nat) (hf : P.funcs[k]? = some fn) (hb : fn.body = some c) (hnt : fn.ntmps = n)
    (hn : Nat.ble pre.length n = true) (hT : clsB TT shc = true)
    (h : ∀ (w0 : World) (om : Nat → Nat), CWalk ⟨P, n, w0, NoC, om, none, []⟩ (pre.zipIdx.map fun x => It.fact x.2 (x.1.f (cst [0]))) c (PostM P fn (RetR ⟨P, n, w0, NoC, om, none, []⟩ out TT))) : Ctr P k pre out shc :=
  ctr_of_walkG TT n hf hb hnt hn hT (fun R a w hq => callsIn_wide (n := 0).1 (callsIn_of_wp_marks hf hb trivial hq)) h
end
end GL
