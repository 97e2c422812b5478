/- Own library, texts 32 to 41 in one. -/
import Derived.Test.YtmlmlfghogoadaaCoreMC
set_option linter.unusedVariables false
set_option linter.unusedSimpArgs false
set_option linter.unnecessarySimpa false
namespace GL
section
open Go

/-- Scalars. -/
class LoSc (α : Type) [R : Rp α] [L : Lo α] where
  k : Nat
  ag : R.agg = false
  iff : ∀ F x cs w, L.rel F x cs w ↔ ∃ u, cs = [u] ∧ scK k u
instance : LoSc Int := ⟨0, rfl, fun _ _ _ _ => Iff.rfl⟩
instance : LoSc UInt8 := ⟨1, rfl, fun _ _ _ _ => Iff.rfl⟩
instance : LoSc UInt32 := ⟨2, rfl, fun _ _ _ _ => Iff.rfl⟩
instance : LoSc Bool := ⟨3, rfl, fun _ _ _ _ => Iff.rfl⟩

/-- A fact that stands where cells of blocks of tags T turn. -/
def Loose (T : List Nat) (f : Fact) : Prop := ∀ g v w w', LikeW w w' (fun b => g.om b ∈ T) (fun b => g.om b ∈ T) → f.p g v w → f.p g v w'
theorem Loose.lo {α : Type} [R : Rp α] [L : Lo α] {T : List Nat} {x : α} : Loose T (Fact.lo T x) := fun g v w w' hW ⟨cs, h, hv⟩ =>
  ⟨cs, L.like _ _ x cs cs w w' hW rfl (fun j u u' h1 h2 => by rw [h1] at h2; cases h2; exact .refl u) h, hv⟩
theorem Loose.at {T : List Nat} {i : Nat} {f : Fact} (h : Loose T f) : Loose T (Fact.at i f) := fun g _ w w' hW hp => h g (g.ga i) w w' hW hp

def LooseL (G : List It) (T : List Nat) : List It → Prop
  | [] => True
  | .fact s f :: L => look G s = some f ∧ Loose T f ∧ LooseL G T L
  | _ :: _ => False
theorem LooseL.nil {G : List It} {T : List Nat} : LooseL G T [] := trivial
theorem LooseL.cons {G : List It} {T : List Nat} {s : Nat} {f : Fact} {L : List It} (h : look G s = some f) (h1 : Loose T f) (k : LooseL G T L) : LooseL G T (.fact s f :: L) := ⟨h, h1, k⟩
theorem LooseL.lo {G : List It} {T : List Nat} {α : Type} [R : Rp α] [Lo α] {x : α} {s : Nat} {L : List It} (h : look G s = some (Fact.lo T x)) (k : LooseL G T L) : LooseL G T (.fact s (Fact.lo T x) :: L) := ⟨h, .lo, k⟩
section
variable {X : Cx} {G : List It} {d : Option Nat} {ty : TypeId} {pos : String} {af : Array Edge} {gd : Option (Nat × Bool)}

theorem Cv.lo {α : Type} [R : Rp α] [L : Lo α] {T T' : List Nat} {x : α} (h : subB T T' = true) : Cv G (Fact.rep T x) (Fact.lo T' x) := fun _ w g v _ ⟨cs, hr, hv⟩ =>
  ⟨cs, L.of _ x cs w (R.stab _ _ x cs w w (Nat.le_refl _) (fun _ _ hb => ⟨rfl, subB_spec h _ hb⟩) hr), hv⟩
theorem Ad.cv {s : Nat} {f f' : Fact} (hs : look G s = some f) (hc : Cv G f f') : Ad X G (.fact s f' :: G) := fun a w env => by
  obtain ⟨g, hg, hf⟩ := env.facts
  refine ⟨env.size, env.defers, env.fr, g, hg, fun s' f'' hl => ?_⟩
  rcases lookK_nil_spec hl with ⟨rfl, rfl⟩ | ⟨_, hl2⟩
  · exact hc a w g _ hf (hf _ _ hs)
  · exact hf s' f'' hl2
/-- A part of a datum. -/
def LoAt {α β : Type} [R : Rp α] [L : Lo α] [R' : Rp β] [L' : Lo β] (y : α) (off : Nat) (z : β) : Prop := ∀ F cs w, L.rel F y cs w → ∃ c, L'.rel F z c w ∧ ∀ (j : Nat) u, c[j]? = some u → cs[off + j]? = some u
theorem LoAt.self {α : Type} [R : Rp α] [L : Lo α] {y : α} : LoAt y 0 y := fun _ cs _ h => ⟨cs, h, fun j u hj => by rw [Nat.zero_add]; exact hj⟩
theorem LoAt.fst {α β : Type} [R : Rp α] [L : Lo α] [R' : Rp β] [L' : Lo β] {x : α} {y : β} : LoAt (x, y) 0 x := fun _ cs _ h => by
  obtain ⟨c1, c2, rfl, h1, _⟩ := h
  exact ⟨c1, h1, fun j u hj => by rw [Nat.zero_add, List.getElem?_append_left (List.getElem?_eq_some_iff.1 hj).1]; exact hj⟩
theorem LoAt.snd {α β γ : Type} [R : Rp α] [L : Lo α] [R' : Rp β] [L' : Lo β] [Rp γ] [Lo γ] {x : α} {y : β} {z : γ} {off : Nat} (k : LoAt y off z) : LoAt (x, y) (R.n + off) z := fun _ cs _ h => by
  obtain ⟨c1, c2, rfl, h1, h2⟩ := h
  obtain ⟨c, k1, k2⟩ := k _ _ _ h2
  have := L.len _ _ _ _ h1
  exact ⟨c, k1, fun j u hj => by rw [List.getElem?_append_right (by omega), show R.n + off + j - c1.length = off + j by omega]; exact k2 j u hj⟩
end
end
end GL

namespace GL
section
open Go

/-- What stays of a loop's record: where it lies, the block of the rounds' deferred calls, the temporaries at its entry. -/
structure RFr where
  l : Nat
  D : Nat
  fn : FuncId
  tm : Array Value
  ps : Array Tmp
  as : Code
  bd : Code
def RFr.rc (ρ : RFr) (st : LoopState) (pend : Option Code) : Loop := { state := st, pending := pend, fn := ρ.fn, tmps := ρ.tm, params := ρ.ps, assign := ρ.as, body := ρ.bd, defers := ρ.D }
def RFr.mark (ρ : RFr) : Deferred := { target := .collected ρ.D, args := #[] }
structure RFr.Ok (ρ : RFr) (N : Nat) (u : Nat → Value) (ps : Array Tmp) (as bd : Code) : Prop where
  sz : ρ.tm.size = N
  hu : ∀ s, ρ.tm.getD s undef = u s
  ps : ρ.ps = ps
  as : ρ.as = as
  bd : ρ.bd = bd

def Fact.rc (t : Nat) (ρ : RFr) (st : LoopState) (pend : Option Code) : Fact where
  tags := [t]
  ids := []
  p := fun g _ w => w.heap[ρ.l]? = some (.loop (ρ.rc st pend)) ∧ g.om ρ.l = t
  stab := fun g g' v w w' hk h => by
    obtain ⟨h1, h2⟩ := h
    have hlt := (Array.getElem?_eq_some_iff.1 h1).1
    have := hk.block ρ.l hlt (by rw [h2]; simp)
    exact ⟨by rw [this.1]; exact h1, by rw [this.2]; exact h2⟩
def Fact.dm (t D : Nat) : Fact where
  tags := [t]
  ids := []
  p := fun g _ w => w.heap[D]? = some (.deferred (some [])) ∧ g.om D = t
  stab := fun g g' v w w' hk h => by
    obtain ⟨h1, h2⟩ := h
    have hlt := (Array.getElem?_eq_some_iff.1 h1).1
    have := hk.block D hlt (by rw [h2]; simp)
    exact ⟨by rw [this.1]; exact h1, by rw [this.2]; exact h2⟩
/-- The function that a loop hands on. -/
def Fact.yv (l : Nat) : Fact where
  tags := []
  ids := []
  p := fun _ v _ => v = .func (.yield l) #[] #[]
  stab := fun _ _ _ _ _ _ h => h

section
variable {X : Cx} {G : List It} {Q : Exit → Act → World → Prop} {ops : Array Oper} {rest : List Oper}

/-- What is to be shown where the function that was ranged over returns. -/
def RfR (X : Cx) (Q : Exit → Act → World → Prop) (u : Nat → Value) (ρ : RFr) : Ending → World → Prop := fun e w' =>
  (∃ v, e = .returned v) ∧ ∃ st jump, w'.heap[ρ.l]? = some (.loop (ρ.rc st jump)) ∧ st ≠ .busy ∧
    ∀ a0 : Act, a0.tmps.size = X.n → a0.defers = [ρ.mark] → (∀ s, a0.tmps.getD s undef = u s) →
      match jump with
      | none => Q .normal a0 (w'.putObj ρ.l (.loop (ρ.rc .exhausted none)))
      | some c => c.wpIn X.F 0 X.P Q a0 (w'.putObj ρ.l (.loop (ρ.rc .exhausted (some c))))

def gh2 (g : Gh) (n t1 t2 : Nat) : Gh := ⟨fun b => if b < n then g.om b else if b = n then t1 else t2, g.ga⟩

theorem CWalk.rangeFunc {s : Nat} {ps : Array Tmp} {as bd : Code} {k : FuncId} {fn : Func} {c : Code} {n' : Nat} {cs : List Fact} (t : Nat) (Gc : (Nat → Value) → List It)
    (ht : Nat.ble 10 t = true) (hrd : X.rd = none) (hds : X.ds = []) (hx : look G s = some (.fnv k [] cs)) (hf : X.P.funcs[k]? = some fn) (hb : fn.body = some c) (hn : fn.ntmps = n')
    (hk : enters X.P k = true) (hl : Nat.ble (cs.length + 1) n' = true) (hcar : ∀ u, Carry G u (Gc u))
    (hbody : ∀ (u : Nat → Value) (ρ : RFr), ρ.Ok X.n u ps as bd → CWalk ⟨X.P, n', X.w0, X.C, X.om0, none, []⟩ (argI 0 (.yv ρ.l :: cs) (.fact (rs t) (.rc t ρ .ready none) :: .fact (rs (t + 1)) (.dm (t + 1) ρ.D) :: Gc u)) c (bodyPost X.P fn (RfR X Q u ρ))) :
    CWalk X G (.rangeFunc (.tmp s) ps as bd) Q := fun a w env => by
  have ht' : 10 ≤ t := by simpa using ht
  obtain ⟨g, hge, hfa⟩ := env.facts
  obtain ⟨us, vs, hv, hus, hvs⟩ := hfa s _ hx
  obtain rfl : us = [] := hus
  rw [Cx.F_none hrd]
  refine wpIn_rangeFunc ?_
  intro fi _
  let ρ : RFr := ⟨w.heap.size + 1, w.heap.size, fi, a.tmps, ps, as, bd⟩
  let W1 : World := (w.alloc (.deferred (some []))).alloc (.loop (ρ.rc .ready none))
  have hL1 : W1.heap[w.heap.size + 1]? = some (.loop (ρ.rc .ready none)) := by
    have := World.alloc_heap_new (w.alloc (.deferred (some []))) (.loop (ρ.rc .ready none)); rwa [World.size_alloc] at this
  have hK1 : W1.heap[w.heap.size]? = some (.deferred (some [])) :=
    (RowKit.Below.heap_alloc _ _ _ (by simp)).trans (World.alloc_heap_new w _)
  have hsz : W1.heap.size = w.heap.size + 2 := by simp [W1]
  have hold : ∀ b, b < w.heap.size → W1.heap[b]? = w.heap[b]? := fun b hb =>
    (RowKit.Below.heap_alloc _ _ _ (by simp; omega)).trans (RowKit.Below.heap_alloc _ _ _ hb)
  refine ⟨w.heap.size + 1, [ρ.mark], W1, { target := .fn (.func k) vs.toArray, args := #[.func (.yield (w.heap.size + 1)) #[] #[]] }, W1, k,
    (.func (.yield (w.heap.size + 1)) #[] #[] :: vs).toArray, W1, ?_, ?_, ?_, ?_, fun h => (by cases h), ?_⟩
  · exact run_enterLoop_outer _ _ _ _ _
  · have hev : a.eval (.tmp s) = .func (.func k) #[] vs.toArray := hv
    simp only [resolve, hev]
    simp [go_sem]
  · intro f' hf'; trivial
  · have := run_enter (P := X.P) hk
    simp [invoke, go_sem, this]
  · refine callsIn_of_wp hf hb trivial ?_
    have hcw := hbody (fun s => a.tmps.getD s undef) ρ ⟨env.size, fun _ => rfl, rfl, rfl, rfl⟩
    have hlen := AllP.len cs vs hvs
    have hl' : cs.length + 1 ≤ n' := by simpa using hl
    have hge' : GhE ⟨X.P, n', X.w0, X.C, X.om0, none, []⟩ W1 (gh2 g w.heap.size (t + 1) t) := by
      have h0 := env.fr.size
      refine ⟨⟨fun b hb => ?_, fun b hb hb' => ?_⟩, fun b hb => ?_⟩
      · have hb2 : b < X.w0.heap.size := hb
        simp only [gh2]; rw [if_pos (by omega)]; exact hge.ok.old b hb
      · simp only [gh2]; split
        · exact hge.ok.new b hb (by assumption)
        · split <;> omega
      · have hb2 : b < X.w0.heap.size := hb
        simp only [gh2]; rw [if_pos (by omega)]; exact hge.om b hb
    have hfr : Fr X.C X.w0 W1 := env.fr.trans (D := NoC) ⟨rfl, rfl, rfl, by omega, fun b hb _ => hold b hb⟩ (fun _ _ h => h.elim)
    have hkeep : ∀ f : Fact, ∀ v, f.p g v w → f.p (gh2 g w.heap.size (t + 1) t) v W1 := fun f v h =>
      f.stab g _ v w W1 ⟨by omega, fun b hb _ => ⟨hold b hb, by simp [gh2, hb]⟩, fun _ _ => rfl⟩ h
    have hcarF : ∀ a' : Act, Facts (Gc (fun s => a.tmps.getD s undef)) (gh2 g w.heap.size (t + 1) t) a' W1 := fun a' s f hlk =>
      hkeep f _ (hcar _ a w g a' hfa (fun _ => rfl) s f hlk)
    have hallv : AllP (gh2 g w.heap.size (t + 1) t) W1 (.yv ρ.l :: cs) (.func (.yield (w.heap.size + 1)) #[] #[] :: vs) :=
      ⟨_, _, rfl, rfl, AllP.stab (g := g) (w := w) cs vs ⟨by omega, fun b hb _ => ⟨hold b hb, by simp [gh2, hb]⟩, fun _ _ => rfl⟩ hvs⟩
    refine wpIn_wide.2 (wpIn_wide (n := 0).1 (wpIn_mono (hcw _ W1 ?_) ?_))
    · subst hn
      refine ⟨by simp; omega, rfl, hfr, _, hge', ?_⟩
      refine facts_argI _ _ 0 (Facts.ghost (Facts.ghost (hcarF _) (fun _ => ⟨hK1, ?_⟩)) (fun _ => ⟨hL1, ?_⟩)) hallv (fun j v hj => ?_)
      · simp [gh2, ρ]
      · simp only [gh2, ρ]; rw [if_neg (by omega), if_neg (by omega)]
      · have hjl : j < (Value.func (.yield (w.heap.size + 1)) #[] #[] :: vs).length := (List.getElem?_eq_some_iff.1 hj).1
        simp only [Nat.zero_add]
        rw [Array.getD_eq_getD_getElem?, Array.getElem?_append_left (by simpa using hjl)]
        simp only [List.getElem?_toArray, hj, Option.getD_some]
    · have hpost : ∀ e w3, RfR X Q (fun s => a.tmps.getD s undef) ρ e w3 → rangePost Fence.wide 0 X.P (w.heap.size + 1) Q { a with defers := [ρ.mark] ++ a.defers } e w3 := by
        rintro e w3 ⟨⟨v, rfl⟩, st, jump, h1, h2, h3⟩
        refine ⟨jump, w3.putObj ρ.l (.loop (ρ.rc .exhausted jump)), run_endLoop (P := X.P) h1 h2, ?_⟩
        have hq := h3 { a with defers := [ρ.mark] ++ a.defers } env.size (by rw [env.defers, hds]; rfl) (fun _ => rfl)
        cases jump with
        | none => exact hq
        | some c => rw [Cx.F_none hrd] at hq; exact hq
      intro e a3 w3 hq
      cases e with
      | normal => obtain ⟨h1, v, h2, h3⟩ := hq; exact ⟨h1, v, h2, hpost _ _ h3⟩
      | ret => obtain ⟨h1, v, h2, h3⟩ := hq; exact ⟨h1, v, h2, hpost _ _ h3⟩
      | panic ch => exact ⟨hq.1, hpost _ _ hq.2⟩
      | outgrown => exact hpost _ _ hq
      | exit id => exact hq
      | goto l => exact hq

theorem Has.top {x : Operand} : Has G x .top := fun _ _ _ _ => trivial

theorem lk {u : Nat → Value} {d : Option Nat} {f0 f : Fact} {s : Nat} {J : List It} (k : Low G u d f0 J) (h : look G s = some f := by rfl) (hv : VFree f := by exact fun _ _ _ _ h => h) : Low G u d f0 (.fact s f :: J) :=
  Low.keep (Low.look h hv) k

/-! ### one round -/
def Carry2 (G : List It) (u1 : Nat → Value) (ps : List Nat) (u2 : Nat → Value) (Gc : List It) : Prop := ∀ a w g a', Facts G g a w → (∀ s, a.tmps.getD s undef = u2 s) → (∀ s, s ∉ ps → a'.tmps.getD s undef = u1 s) → Facts Gc g a' w
theorem Carry2.nil {u1 u2 : Nat → Value} {ps : List Nat} : Carry2 G u1 ps u2 [] := fun _ _ _ _ _ _ _ => facts_nil
theorem Carry2.slot {u1 u2 : Nat → Value} {ps : List Nat} {Gc : List It} (D s : Nat) {q : Nat} {f : Fact} (k : Carry2 G u1 ps u2 Gc) (h : look G s = some f := by rfl) (hq : D + s = q := by rfl) : Carry2 G u1 ps u2 (.fact q (.cst (u2 s) f) :: Gc) := fun a w g a' hf h2 h1 =>
  Facts.ghost (k a w g a' hf h2 h1) (fun _ => by
    have := hf s f h
    show f.p g (u2 s) w
    rw [← h2 s]; exact this)
theorem Carry2.keep {u1 u2 : Nat → Value} {ps : List Nat} {Gc : List It} {s : Nat} {f : Fact} (k : Carry2 G u1 ps u2 Gc) (h : look G s = some f := by rfl) (hv : VFree f := by exact fun _ _ _ _ h => h) : Carry2 G u1 ps u2 (.fact s f :: Gc) := fun a w g a' hf h2 h1 =>
  Facts.ghost (k a w g a' hf h2 h1) (fun _ => hv _ _ _ _ (hf s f h))
/-- A temporary of the frame that loops, as the round finds it. -/
theorem Carry2.low {u1 u2 : Nat → Value} {ps : List Nat} {Gc : List It} (q s : Nat) {f : Fact} (k : Carry2 G u1 ps u2 Gc) (h : look G q = some (.cst (u1 s) f) := by rfl) (hs : ps.elem s = false := by rfl) : Carry2 G u1 ps u2 (.fact s f :: Gc) := fun a w g a' hf h2 h1 s' f' hl => by
  rcases lookK_nil_spec hl with ⟨rfl, rfl⟩ | ⟨_, hl⟩
  · rw [h1 s (by intro hm; have : ps.elem s = true := by simpa using hm
                 rw [hs] at this; cases this)]
    exact hf q _ h
  · exact k a w g a' hf h2 h1 s' f' hl

def psI : List Nat → List Fact → List It → List It
  | p :: ps, f :: fs, G => .fact p f :: psI ps fs G
  | _, _, G => G
def psOk (N : Nat) : List Nat → Bool
  | [] => true
  | p :: ps => Nat.blt p N && !ps.elem p && psOk N ps

theorem zip_fold : ∀ (ps : List Nat) (vs : List Value) (tm : Array Value), psOk tm.size ps = true → vs.length = ps.length →
    ((ps.zip vs).foldl (fun t (x : Nat × Value) => t.setIfInBounds x.1 x.2) tm).size = tm.size ∧
    (∀ s, s ∉ ps → ((ps.zip vs).foldl (fun t (x : Nat × Value) => t.setIfInBounds x.1 x.2) tm).getD s undef = tm.getD s undef) ∧
    ∀ (i p : Nat) (v : Value), ps[i]? = some p → vs[i]? = some v → ((ps.zip vs).foldl (fun t (x : Nat × Value) => t.setIfInBounds x.1 x.2) tm).getD p undef = v
  | [], _, _, _, _ => by simp
  | p :: ps, [], _, _, h => by simp at h
  | p :: ps, v :: vs, tm, hok, hlen => by
    simp only [psOk, Bool.and_eq_true, Bool.not_eq_true', Nat.blt_eq] at hok
    obtain ⟨⟨hp, hnp⟩, hok⟩ := hok
    have hnp' : p ∉ ps := by simpa using hnp
    obtain ⟨i1, i2, i3⟩ := zip_fold ps vs (tm.setIfInBounds p v) (by simpa using hok) (by simpa using hlen)
    simp only [List.zip_cons_cons, List.foldl_cons]
    refine ⟨by rw [i1]; simp, fun s hs => ?_, fun i q x hi hx => ?_⟩
    · simp only [List.mem_cons, not_or] at hs
      rw [i2 s hs.2]
      simp only [Array.getD_eq_getD_getElem?]
      rw [Array.getElem?_setIfInBounds_ne (Ne.symm hs.1)]
    · cases i with
      | zero =>
        simp at hi hx
        subst hi; subst hx
        rw [i2 p hnp']
        simp [Array.getD_eq_getD_getElem?, hp]
      | succ i => exact i3 i q x (by simpa using hi) (by simpa using hx)

theorem psI_facts {g : Gh} {a : Act} {w : World} : ∀ (ps : List Nat) (fs : List Fact) (vs : List Value) (G : List It), Facts G g a w → AllP g w fs vs → (∀ (i p : Nat) (v : Value), ps[i]? = some p → vs[i]? = some v → a.tmps.getD p undef = v) → Facts (psI ps fs G) g a w
  | [], fs, vs, G, h, _, _ => by cases fs <;> exact h
  | p :: ps, [], vs, G, h, _, _ => h
  | p :: ps, f :: fs, vs, G, h, hp, hv => by
    obtain ⟨v, vr, rfl, h1, h2⟩ := hp
    intro s f' hl
    rcases lookK_nil_spec hl with ⟨rfl, rfl⟩ | ⟨_, hl⟩
    · rw [hv 0 p v rfl rfl]; exact h1
    · exact psI_facts ps fs vr G h h2 (fun i q x hi hx => hv (i + 1) q x (by simpa using hi) (by simpa using hx)) s f' hl

/-- What is to be shown at a round's end. -/
def RdR (X : Cx) (ops : Array Oper) (Q : Exit → Act → World → Prop) (rest : List Oper) (d : Nat) (u2 : Nat → Value) : Ending → World → Prop := fun e w' =>
  ∃ v, e = .returned v ∧ ∀ a0 : Act, a0.tmps.size = X.n → a0.defers = X.ds → (∀ s, a0.tmps.getD s undef = u2 s) → wpListIn X.F 0 X.P ops Q rest (a0.put (some d) v) w'
def BgQ (X : Cx) (ρ : RFr) (bd : Code) (R : Ending → World → Prop) : Act → World → Prop := fun a1 w1 =>
  ∃ w2, (Instr.beginRound ρ.l).run X.P w1 = .ok () w2 ∧ bd.wpIn { Fence.wide with round := some ρ.l } 0 X.P (roundPost X.P ρ.l R) a1 w2

theorem Walk.yieldH {d s0 N : Nat} {xs : List Operand} {xa : Array Operand} {ats : Array TypeId} {ty : TypeId} {pos : String} {af : Array Edge} {fs : List Fact} {t : Nat} {ρ : RFr} {u1 : Nat → Value} {ps : List Nat} {pa : Array Tmp} {as bd : Code} (Gc : (Nat → Value) → List It)
    (hρ : ρ.Ok N u1 pa as bd) (hpa : pa = ps.toArray) (hrd : X.rd = none) (hs : Has G (.tmp s0) (.yv ρ.l)) (hrc : look G (rs t) = some (.rc t ρ .ready none)) (hxa : xa = xs.toArray) (hxs : HasF G xs fs)
    (hlen : Nat.beq fs.length ps.length = true) (hps : psOk N ps = true) (hcar : ∀ u2, Carry2 G u1 ps u2 (Gc u2))
    (h : ∀ u2, CWalk ⟨X.P, N, X.w0, X.C, X.om0, some ρ.l, []⟩ (psI ps fs (Gc u2)) as (Exit.then (BgQ X ρ bd (RdR X ops Q rest d u2)) (fun _ _ _ => False))) :
    Walk X ops Q G (⟨some d, .call { callee := .value (.tmp s0), args := xa, argTypes := ats }, ty, pos, af, none⟩ :: rest) := fun a w env => by
  obtain ⟨g, hge, hfa⟩ := env.facts
  have hfn : a.eval (.tmp s0) = .func (.yield ρ.l) #[] #[] := hs a w g hfa
  obtain ⟨hw1, hw2⟩ := hfa (rs t) _ hrc
  have hall := hxs.all xs fs hfa
  have hl1 := AllP.len _ _ hall
  have hl2 : fs.length = ps.length := Nat.eq_of_beq_eq_true hlen
  refine wpListIn_plain rfl fun K hK => ?_
  refine ⟨fun _ _ => trivial, ?_⟩
  rw [Oper.semAt_eq _ _ _ (fun c hc => by cases hc)]
  have hrun : (execOp a.eval ⟨some d, .call { callee := .value (.tmp s0), args := xa, argTypes := ats }, ty, pos, af, none⟩).run X.P w =
      .ok (.round ρ.l ρ.fn ((ρ.ps.zip (xs.map a.eval).toArray).foldl (fun tmps (t, a) => tmps.setIfInBounds t a) ρ.tm) ρ.as ρ.bd) w := by
    have hy := run_yield (P := X.P) (args := (xs.map a.eval).toArray) hw1 (by show _ = ρ.ps.size; rw [hρ.ps, hpa]; simp; simp at hl1; omega)
    unfold execOp
    simp [resolve, Deferred.ofValue, hfn, hxa, invoke]
    simpa [RFr.rc] using hy
  rw [hrun]
  refine ⟨fun h => (by cases h), ?_⟩
  refine RoundIn.mono (R := RdR X ops Q rest d (fun s => a.tmps.getD s undef)) ?_ ?_
  · have hr : RoundIn { Fence.wide with round := X.rd } (0 - 1) X.P ρ.l ρ.fn ((ρ.ps.zip (xs.map a.eval).toArray).foldl (fun tmps (t, a) => tmps.setIfInBounds t a) ρ.tm) ρ.as ρ.bd w (RdR X ops Q rest d (fun s => a.tmps.getD s undef)) := by
      refine roundIn_of_wpIn (F := { Fence.wide with round := X.rd }) (n := 0) trivial ?_
      rw [hρ.as, hρ.bd]
      have hz := zip_fold ps (xs.map a.eval) ρ.tm (by rw [hρ.sz]; exact hps) (by simp at hl1 ⊢; omega)
      have hzz : (ρ.ps.zip (xs.map a.eval).toArray).foldl (fun tmps (t, a) => tmps.setIfInBounds t a) ρ.tm = (ps.zip (xs.map a.eval)).foldl (fun t (x : Nat × Value) => t.setIfInBounds x.1 x.2) ρ.tm := by
        rw [hρ.ps, hpa]; simp
      rw [hzz]
      refine h (fun s => a.tmps.getD s undef) _ w ⟨by rw [hz.1]; exact hρ.sz, rfl, env.fr, g, ⟨hge.ok, hge.om⟩, ?_⟩
      exact psI_facts ps fs (xs.map a.eval) _ (hcar _ a w g _ hfa (fun _ => rfl) (fun s hs => by rw [hz.2.1 s hs]; exact hρ.hu s)) hall (fun i p v hi hv => hz.2.2 i p v hi hv)
    exact hr
  · rintro e w' ⟨v, rfl, hv⟩
    exact hK _ _ (hv a env.size env.defers (fun _ => rfl))

theorem Walk.yield {d s0 N : Nat} {xs : List Operand} {xa : Array Operand} {ats : Array TypeId} {ty : TypeId} {pos : String} {af : Array Edge} {fs : List Fact} {t : Nat} {ρ : RFr} {u1 : Nat → Value} {ps : List Nat} {pa : Array Tmp} {as bd : Code} (Gc : (Nat → Value) → List It)
    (hρ : ρ.Ok N u1 pa as bd) (hpa : pa = ps.toArray) (hrd : X.rd = none) (hs : look G s0 = some (.yv ρ.l)) (hrc : look G (rs t) = some (.rc t ρ .ready none)) (hxa : xa = xs.toArray) (hxs : HasF G xs fs)
    (hlen : Nat.beq fs.length ps.length = true) (hps : psOk N ps = true) (hcar : ∀ u2, Carry2 G u1 ps u2 (Gc u2))
    (h : ∀ u2, CWalk ⟨X.P, N, X.w0, X.C, X.om0, some ρ.l, []⟩ (psI ps fs (Gc u2)) as (Exit.then (BgQ X ρ bd (RdR X ops Q rest d u2)) (fun _ _ _ => False))) :
    Walk X ops Q G (⟨some d, .call { callee := .value (.tmp s0), args := xa, argTypes := ats }, ty, pos, af, none⟩ :: rest) :=
  Walk.yieldH Gc hρ hpa hrd (Has.s hs) hrc hxa hxs hlen hps hcar h

theorem facts_put {G : List It} {g : Gh} {a : Act} {w : World} {t l : Nat} {o : Obj} (h : Facts G g a w) (hl : g.om l = t) : Facts (.kill t :: G) g a (w.putObj l o) :=
  facts_killed' h (by simp) (fun b _ hb => World.putObj_heap_other (fun he => hb (by rw [he]; exact hl)))
theorem fr_put {X : Cx} {C : Nat → Prop} {w : World} {g : Gh} {l t : Nat} {o : Obj} (hfr : Fr C X.w0 w) (hge : GhE X w g) (hl : g.om l = t) (ht : 10 ≤ t) : Fr C X.w0 (w.putObj l o) :=
  hfr.trans (D := (· = l)) ⟨rfl, rfl, rfl, by simp, fun b _ hb => World.putObj_heap_other hb⟩ (fun b hb he => by have := hge.ok.old b hb; rw [he, hl] at this; omega)
theorem ghe_put {X X' : Cx} {w : World} {g : Gh} {l : Nat} {o : Obj} (hge : GhE X w g) (h0 : X'.w0 = X.w0) (h1 : X'.om0 = X.om0) : GhE X' (w.putObj l o) g :=
  ⟨⟨by rw [h0]; exact hge.ok.old, fun b hb hb' => hge.ok.new b (by rw [← h0]; exact hb) (by simpa using hb')⟩, by rw [h0, h1]; exact hge.om⟩

theorem Leaf.begin {N t : Nat} {ρ : RFr} {bd : Code} {R : Ending → World → Prop} (ht : Nat.ble 10 t = true) (hrc : look G (rs t) = some (.rc t ρ .ready none))
    (k : CWalk ⟨X.P, N, X.w0, X.C, X.om0, some ρ.l, []⟩ (.fact (rs t) (.rc t ρ .busy none) :: .kill t :: G) bd (roundPost X.P ρ.l R)) :
    Leaf ⟨X.P, N, X.w0, X.C, X.om0, some ρ.l, []⟩ G (Exit.then (BgQ X ρ bd R) (fun _ _ _ => False)) .normal := fun a w env => by
  obtain ⟨g, hge, hfa⟩ := env.facts
  obtain ⟨h1, h2⟩ := hfa (rs t) _ hrc
  have ht' : 10 ≤ t := by simpa using ht
  refine ⟨_, run_beginRound h1 rfl, ?_⟩
  refine k a _ ⟨env.size, env.defers, (fr_put env.fr hge h2 ht' :), g, ghe_put hge rfl rfl, ?_⟩
  refine Facts.ghost (facts_put hfa h2) (fun _ => ⟨?_, h2⟩)
  exact World.putObj_heap_same (Array.getElem?_eq_some_iff.1 h1).1

theorem Leaf.rdN {N t d : Nat} {ρ : RFr} {u2 : Nat → Value} {J : List It} (ht : Nat.ble 10 t = true) (hd : Nat.blt d X.n = true) (hrc : look G (rs t) = some (.rc t ρ .busy none)) (hl : Low G u2 (some d) (Fact.rep [] true) J)
    (k : Walk X ops Q (.fact (rs t) (.rc t ρ .ready none) :: .kill t :: J) rest) :
    Leaf ⟨X.P, N, X.w0, X.C, X.om0, some ρ.l, []⟩ G (roundPost X.P ρ.l (RdR X ops Q rest d u2)) .normal := fun a w env => by
  obtain ⟨g, hge, hfa⟩ := env.facts
  obtain ⟨h1, h2⟩ := hfa (rs t) _ hrc
  have ht' : 10 ≤ t := by simpa using ht
  refine ⟨_, _, run_endRound none h1, .bool true, rfl, fun a0 hs hds hu => ?_⟩
  have hd' : d < X.n := by simpa [Nat.blt_eq] using hd
  refine k _ _ ⟨by simp [Act.put, hs], hds, (fr_put env.fr hge h2 ht' :), g, ghe_put hge rfl rfl, ?_⟩
  refine Facts.ghost (facts_put (hl a w g a0 _ hfa (rep_bool.2 rfl) hu (fun e he => by cases he; rw [hs]; exact hd')) h2) (fun _ => ⟨?_, h2⟩)
  exact World.putObj_heap_same (Array.getElem?_eq_some_iff.1 h1).1
theorem rdJ {N t d : Nat} {ρ : RFr} {u2 : Nat → Value} {J : List It} {c : Code} (ht : Nat.ble 10 t = true) (hd : Nat.blt d X.n = true) (hrc : look G (rs t) = some (.rc t ρ .busy none)) (hl : Low G u2 (some d) (Fact.rep [] false) J)
    (k : Walk X ops Q (.fact (rs t) (.rc t ρ .done (some c)) :: .kill t :: J) rest) {a : Act} {w : World} (env : Env ⟨X.P, N, X.w0, X.C, X.om0, some ρ.l, []⟩ G a w) :
    ∃ v w', (Instr.endRound ρ.l (some c)).run X.P w = .ok v w' ∧ RdR X ops Q rest d u2 (.returned v) w' := by
  obtain ⟨g, hge, hfa⟩ := env.facts
  obtain ⟨h1, h2⟩ := hfa (rs t) _ hrc
  have ht' : 10 ≤ t := by simpa using ht
  refine ⟨_, _, run_endRound (some c) h1, .bool false, rfl, fun a0 hs hds hu => ?_⟩
  have hd' : d < X.n := by simpa [Nat.blt_eq] using hd
  refine k _ _ ⟨by simp [Act.put, hs], hds, (fr_put env.fr hge h2 ht' :), g, ghe_put hge rfl rfl, ?_⟩
  refine Facts.ghost (facts_put (hl a w g a0 _ hfa (rep_bool.2 rfl) hu (fun e he => by cases he; rw [hs]; exact hd')) h2) (fun _ => ⟨?_, h2⟩)
  exact World.putObj_heap_same (Array.getElem?_eq_some_iff.1 h1).1
theorem Leaf.rdR {N t d : Nat} {ρ : RFr} {u2 : Nat → Value} {J : List It} (ht : Nat.ble 10 t = true) (hd : Nat.blt d X.n = true) (hrc : look G (rs t) = some (.rc t ρ .busy none)) (hl : Low G u2 (some d) (Fact.rep [] false) J)
    (k : Walk X ops Q (.fact (rs t) (.rc t ρ .done (some .ret)) :: .kill t :: J) rest) :
    Leaf ⟨X.P, N, X.w0, X.C, X.om0, some ρ.l, []⟩ G (roundPost X.P ρ.l (RdR X ops Q rest d u2)) .ret := fun _ _ env => rdJ ht hd hrc hl k env
/-! ### the function that was ranged over returns -/
theorem Leaf.rfN {n' t : Nat} {fn : Func} {ρ : RFr} {u : Nat → Value} {J : List It} {st : LoopState} (ht : Nat.ble 10 t = true) (hr : fn.results = #[]) (hrc : look G (rs t) = some (.rc t ρ st none)) (hst : st ≠ .busy) (hl : Low G u none Fact.top J)
    (k : Leaf ⟨X.P, X.n, X.w0, X.C, X.om0, X.rd, [ρ.mark]⟩ (.kill t :: J) Q .normal) :
    Leaf ⟨X.P, n', X.w0, X.C, X.om0, none, []⟩ G (bodyPost X.P fn (RfR X Q u ρ)) .ret := fun a w env => by
  obtain ⟨g, hge, hfa⟩ := env.facts
  obtain ⟨h1, h2⟩ := hfa (rs t) _ hrc
  have ht' : 10 ≤ t := by simpa using ht
  refine ⟨env.defers, .tuple #[], by rw [results_eq, hr]; simp, ⟨_, rfl⟩, st, none, h1, hst, fun a0 hs hds hu => ?_⟩
  refine k _ _ ⟨hs, hds, (fr_put env.fr hge h2 ht' :), g, ghe_put hge rfl rfl, ?_⟩
  exact facts_put (hl a w g a0 undef hfa trivial hu (fun e he => by cases he)) h2
theorem Leaf.rfJ {n' t : Nat} {fn : Func} {ρ : RFr} {u : Nat → Value} {J : List It} {st : LoopState} {c : Code} (ht : Nat.ble 10 t = true) (hr : fn.results = #[]) (hrc : look G (rs t) = some (.rc t ρ st (some c))) (hst : st ≠ .busy) (hl : Low G u none Fact.top J)
    (k : CWalk ⟨X.P, X.n, X.w0, X.C, X.om0, X.rd, [ρ.mark]⟩ (.kill t :: J) c Q) :
    Leaf ⟨X.P, n', X.w0, X.C, X.om0, none, []⟩ G (bodyPost X.P fn (RfR X Q u ρ)) .ret := fun a w env => by
  obtain ⟨g, hge, hfa⟩ := env.facts
  obtain ⟨h1, h2⟩ := hfa (rs t) _ hrc
  have ht' : 10 ≤ t := by simpa using ht
  refine ⟨env.defers, .tuple #[], by rw [results_eq, hr]; simp, ⟨_, rfl⟩, st, some c, h1, hst, fun a0 hs hds hu => ?_⟩
  refine k _ _ ⟨hs, hds, (fr_put env.fr hge h2 ht' :), g, ghe_put hge rfl rfl, ?_⟩
  exact facts_put (hl a w g a0 undef hfa trivial hu (fun e he => by cases he)) h2
theorem Leaf.rfe {n' : Nat} {Gx : List It} {fn : Func} {u : Nat → Value} {ρ : RFr} (h : Leaf ⟨X.P, n', X.w0, X.C, X.om0, none, []⟩ Gx (bodyPost X.P fn (RfR X Q u ρ)) .ret) :
    Leaf ⟨X.P, n', X.w0, X.C, X.om0, none, []⟩ Gx (bodyPost X.P fn (RfR X Q u ρ)) .normal := h

/-! ### a function that holds such a loop -/
def PostM (P : Program) (fn : Func) (R : Ending → World → Prop) : Exit → Act → World → Prop := bodyPostM Fence.wide 0 P fn R
theorem postM_of {P : Program} {fn : Func} {R : Ending → World → Prop} : ∀ (e : Exit) (a : Act) (w : World), bodyPost P fn R e a w → PostM P fn R e a w
  | .normal, a, w, h => by obtain ⟨h1, h2⟩ := h; show LeavesInM _ _ _ _ _ _ a.defers _ _; rw [h1]; exact h2
  | .ret, a, w, h => by obtain ⟨h1, h2⟩ := h; show LeavesInM _ _ _ _ _ _ a.defers _ _; rw [h1]; exact h2
  | .panic ch, a, w, h => by obtain ⟨h1, h2⟩ := h; show LeavesInM _ _ _ _ _ _ a.defers _ _; rw [h1]; exact h2
  | .outgrown, _, _, h => h
  | .exit _, _, _, h => h
  | .goto _, _, _, h => h
variable {P : Program} {n : Nat} {w0 : World} {C : Nat → Prop} {om : Nat → Nat} {fn : Func}
theorem Leaf.retM {R : Ending → World → Prop} {e : Exit} (h : Leaf ⟨P, n, w0, C, om, none, []⟩ G (bodyPost P fn R) e) : Leaf ⟨P, n, w0, C, om, none, []⟩ G (PostM P fn R) e := fun a w env => postM_of _ _ _ (h a w env)
theorem Leaf.unmark {R : Ending → World → Prop} {t : Nat} {ρ : RFr} (ht : Nat.ble 10 t = true) (hm : look G (rs t) = some (.dm t ρ.D)) (h : Leaf ⟨P, n, w0, C, om, none, []⟩ (.kill t :: G) (bodyPost P fn R) .ret) :
    Leaf ⟨P, n, w0, C, om, none, [ρ.mark]⟩ G (PostM P fn R) .ret := fun a w env => by
  obtain ⟨g, hge, hfa⟩ := env.facts
  obtain ⟨h1, h2⟩ := hfa (rs t) _ hm
  have ht' : 10 ≤ t := by simpa using ht
  have hq := h { a with defers := [] } (w.putObj ρ.D (.deferred none)) ⟨env.size, rfl, (fr_put env.fr hge h2 ht' :), g, ghe_put hge rfl rfl, facts_put hfa h2⟩
  show LeavesInM _ _ _ _ _ _ a.defers _ _
  rw [env.defers]
  exact ⟨by simp, .inl ⟨ρ.D, _, rfl, run_takeDeferred h1, hq.2⟩⟩
theorem ctr_of_walkM {P : Program} {k : FuncId} {fn : Func} {c : Code} {pre : List Shape} {out : Shape} {shc : List Nat} (TT : List (List Nat)) (n : Nat) (hf : P.funcs[k]? = some fn) (hb : fn.body = some c) (hnt : fn.ntmps = n)
    (hn : Nat.ble pre.length n = true) (hT : clsB TT shc = true)
    (h : ∀ (w0 : World) (om : Nat → Nat), CWalk ⟨P, n, w0, NoC, om, none, []⟩ (pre.zipIdx.map fun x => It.fact x.2 (x.1.f (cst [0]))) c (PostM P fn (RetR ⟨P, n, w0, NoC, om, none, []⟩ out TT))) : Ctr P k pre out shc :=
  ctr_of_walkG TT n hf hb hnt hn hT (fun R a w hq => callsIn_wide (n := 0).1 (callsIn_of_wp_marks hf hb trivial hq)) h
end
end
end GL

namespace GL
section
open Go

/-- A pointer to an element that leans on other memory. -/
def Fact.pts {α : Type} [R : Rp α] (T te : List Nat) (x : α) : Fact where
  tags := T ++ te
  ids := []
  p := fun g v w => ∃ ad, v = .pointer (some ad) ∧ g.om ad.block ∈ T ∧ ad.block < w.heap.size ∧ ∃ es, CellsAt w ad es ∧ R.rel (fun b => g.om b ∈ te) x es w
  stab := fun g g' v w w' hk h => by
    obtain ⟨ad, hv, ht, hlt, es, he, hr⟩ := h
    have hb := hk.block ad.block hlt (List.mem_append_left _ ht)
    exact ⟨ad, hv, by rw [hb.2]; exact ht, Nat.lt_of_lt_of_le hlt hk.size, es, he.stab hb.1,
      R.stab _ _ x es w w' hk.size (fun b hb ht => ⟨(hk.block b hb (List.mem_append_right _ ht)).1, by rw [(hk.block b hb (List.mem_append_right _ ht)).2]; exact ht⟩) hr⟩

theorem RelL.take {α : Type} [R : Rp α] {F : Nat → Prop} {w : World} : ∀ (l : List α) (xs : List Value) (k : Nat), RelL F l xs w → RelL F (l.take k) (xs.take (k * R.n)) w
  | [], xs, k, h => by rw [show xs = [] from h]; simp [RelL]
  | y :: l, xs, 0, h => by simp [RelL]
  | y :: l, xs, k + 1, h => by
    obtain ⟨c1, c2, rfl, h1, h2⟩ := h
    have hl1 := R.len _ _ _ _ h1
    refine ⟨c1, c2.take (k * R.n), ?_, h1, RelL.take l c2 k h2⟩
    rw [List.take_append, show (k + 1) * R.n - c1.length = k * R.n by rw [hl1, Nat.add_mul]; omega, List.take_of_length_le (by rw [hl1, Nat.add_mul]; omega)]

section
variable {X : Cx} {G : List It} {Q : Exit → Act → World → Prop} {d : Option Nat} {ty : TypeId} {pos : String} {af : Array Edge} {gd : Option (Nat × Bool)}
theorem Spec.indexSl {x i : Operand} {α : Type} [R : Rp α] {T te T' : List Nat} {l : List α} {n : Int} {r : α} {t e : TypeId} (hr : idx l n = some r) (ht : SlTy X.P t e α)
    (hx : Has G x (Fact.sl T te l)) (hi : Has G i (Fact.rep T' n)) : Spec X G ⟨d, .indexAddr t x i, ty, pos, af, gd⟩ (Fact.pts T te r) := by
  unfold idx at hr
  split at hr
  case isFalse => cases hr
  rename_i h0
  have hlt : n.toNat < l.length := (List.getElem?_eq_some_iff.1 hr).1
  refine Spec.pure fun a w g hf => ?_
  obtain ⟨ad, c, hv, hc, hnil, hcells⟩ := hx a w g hf
  have h2 := rep_int.1 (hi a w g hf)
  cases ad with
  | none => have := (hnil rfl).1; subst this; simp at hlt
  | some ad =>
    obtain ⟨hF, hb, es, he, hrel⟩ := hcells ad rfl n.toNat r hr
    refine ⟨.pointer (some (ad.add (n.toNat * R.n))), ?_, ad.add (n.toNat * R.n), rfl, ?_, ?_, es, he, hrel⟩
    · unfold execOp
      simp [hv, h2, run_indexAt (R := R) ht.und ht.el h0 (show n < (l.length : Int) by omega)]
    · rw [Addr.add_block]; exact hF
    · rw [Addr.add_block]; exact hb
theorem Spec.loadS {x : Operand} {α : Type} [R : Rp α] {T te : List Nat} {r : α} {t : TypeId} (ht : Ty X.P t α) (hx : Has G x (Fact.pts T te r)) : Spec X G ⟨d, .load t x, ty, pos, af, gd⟩ (Fact.rep te r) :=
  Spec.pure fun a w g hf => by
    obtain ⟨ad, hv, _, _, es, he, hrel⟩ := hx a w g hf
    refine ⟨mkV R.agg es, ?_, es, hrel, rfl⟩
    unfold execOp
    simp [hv, Instr.loadAt, Instr.sureAddr, run_loadVar_rel ht he hrel]
theorem Spec.fieldAddrS {x : Operand} {s : TypeId} {i off n : Nat} {T te : List Nat} {α β : Type} [R : Rp α] [R' : Rp β] {y : α} {z : β} {es : List Ent} (h : FieldTy X.P s i off n) (hc : Ch y es) (he : entAt es i = some (off, ⟨R', z⟩))
    (hx : Has G x (Fact.pts T te y)) : Spec X G ⟨d, .fieldAddr s x i, ty, pos, af, gd⟩ (Fact.pts T te z) :=
  Spec.pure fun a w g hf => by
    obtain ⟨ad, hv, ht, hlt, cs, hcs, hrel⟩ := hx a w g hf
    obtain ⟨c, hc1, hc2⟩ := EntsRel.at es cs i off _ ((hc.rel _ _ _).1 hrel) he
    refine ⟨.pointer (some (ad.add off)), ?_, ad.add off, rfl, by rw [Addr.add_block]; exact ht, by rw [Addr.add_block]; exact hlt, c, hcs.sub hc2, hc1⟩
    unfold execOp
    simp [hv, run_fieldAt h]
/-! ### windows -/
/-- What lies from place k on of own memory. -/
def Fact.win (t k n : Nat) : Fact where
  tags := []
  ids := [t]
  p := fun g v _ => (∃ b cap m, g.ga t = .slice (some ⟨b, 0, none⟩) m cap ∧ k ≤ m ∧ v = .slice (some (if cap = k then ⟨b, 0, none⟩ else (⟨b, 0, none⟩ : Addr).add (k * n))) (m - k) (cap - k)) ∨
    (g.ga t = .slice none 0 0 ∧ v = .slice none 0 0 ∧ k = 0)
  stab := fun g g' v w w' hk h => by rw [hk.ids t (by simp)]; exact h

theorem Spec.slcWin {α : Type} [R : Rp α] {x lo : Operand} {t : Nat} {te T1 : List Nat} {l r : List α} {m : Int} {ts e : TypeId} (hr : GL.slc l m l.length = some r) (hty : OwnTy X.P ts e α)
    (hx : Has G x (.isv t)) (hrs : look G (rs t) = some (.own t te e l)) (hlo : Has G lo (Fact.rep T1 m)) : Spec X G ⟨d, .slice ts x (some lo) none none, ty, pos, af, gd⟩ (.win t m.toNat R.n) := by
  unfold GL.slc at hr
  split at hr
  case isFalse => cases hr
  rename_i hc
  refine Spec.pure fun a w g hf => ?_
  have hv : a.eval x = g.ga t := hx a w g hf
  obtain ⟨xs, hown, _, _⟩ := hf _ _ hrs
  have h1 := rep_int.1 (hlo a w g hf)
  rcases hown.2 with ⟨hnil, hn⟩ | ⟨b, cap, cs, hga, h0, hh, hnc, hcm, hcs, htake⟩
  · have hm : m.toNat = 0 := by omega
    refine ⟨.slice none 0 0, ?_, .inr ⟨hnil, rfl, hm⟩⟩
    have hm0 : m = 0 := by omega
    unfold execOp
    simp only [Option.map_some, Option.map_none, hv, hnil, h1, hm0, Sem.run_bind, Sem.run_map]
    unfold Instr.sliceAt
    simp [run_underlying hty.und, Instr.slice, Instr.sliceBounds, Instr.sliceBound, asIntOf, rt_sizeOf hty.el]
  · refine ⟨.slice (some (if cap = m.toNat then ⟨b, 0, none⟩ else (⟨b, 0, none⟩ : Addr).add (m.toNat * R.n))) (l.length - m.toNat) (cap - m.toNat), ?_, .inl ⟨b, cap, l.length, hga, by omega, rfl⟩⟩
    unfold execOp
    simp only [Option.map_some, Option.map_none, hv, hga, h1, Sem.run_bind, Sem.run_map]
    unfold Instr.sliceAt
    simp [run_underlying hty.und, Instr.slice, Instr.sliceBounds, Instr.sliceBound, asIntOf, hc.1, hc.2.1, rt_sizeOf hty.el]
    split <;> rfl

theorem Spec.slcHiOw {α : Type} [R : Rp α] {x hi : Operand} {T te T1 : List Nat} {l r : List α} {n : Int} {ts e : TypeId} (hr : GL.slc l 0 n = some r) (hty : OwnTy X.P ts e α)
    (hx : Has G x (Fact.ow T te e l)) (hhi : Has G hi (Fact.rep T1 n)) : Spec X G ⟨d, .slice ts x none (some hi) none, ty, pos, af, gd⟩ (Fact.ow T te e r) := by
  unfold GL.slc at hr
  split at hr
  case isFalse => cases hr
  rename_i hc
  obtain rfl := Option.some.inj hr
  refine Spec.pure fun a w g hf => ?_
  obtain ⟨xs, hown, hrel, htag⟩ := hx a w g hf
  have h1 := rep_int.1 (hhi a w g hf)
  have hlen := hown.1
  have hn0 : 0 ≤ n := by omega
  have hnl : n.toNat ≤ l.length := by omega
  have hsplit : RelL (fun b => g.om b ∈ te) (l.take n.toNat) (xs.take (n.toNat * R.n)) w := by
    exact RelL.take l xs n.toNat hrel
  have htl : (xs.take (n.toNat * R.n)).length = n.toNat * R.n := by
    rw [List.length_take, hlen]; exact Nat.min_eq_left (Nat.mul_le_mul_right _ hnl)
  rcases hown.2 with ⟨hnil, hn⟩ | ⟨b, cap, cs, hga, h0, hh, hnc, hcm, hcs, htake⟩
  · have hm : n = 0 := by omega
    subst hm
    refine ⟨.slice none 0 0, ?_, [], ⟨by simp, .inl ⟨rfl, by simp⟩⟩, by simp [RelL], by simp [Value.ownBlock]⟩
    unfold execOp
    simp only [Option.map_some, Option.map_none, hnil, h1, Sem.run_bind, Sem.run_map]
    unfold Instr.sliceAt
    simp [run_underlying hty.und, Instr.slice, Instr.sliceBounds, Instr.sliceBound, asIntOf, rt_sizeOf hty.el]
  · have hlt : (List.drop (Int.toNat 0) (List.take n.toNat l)).length = n.toNat := by simp; omega
    refine ⟨.slice (some ⟨b, 0, none⟩) n.toNat cap, ?_, xs.take (n.toNat * R.n), ⟨by rw [hlt]; exact htl, .inr ⟨b, cap, cs, by rw [hlt], h0, hh, by rw [hlt]; omega, hcm, hcs, ?_⟩⟩, by simpa using hsplit, fun b' hb' => htag b' (by rw [hga]; exact hb')⟩
    · have g1 : n ≤ (cap : Int) := by omega
      unfold execOp
      simp only [Option.map_some, Option.map_none, hga, h1, Sem.run_bind, Sem.run_map]
      unfold Instr.sliceAt
      simp [run_underlying hty.und, Instr.slice, Instr.sliceBounds, Instr.sliceBound, asIntOf, g1, hn0, rt_sizeOf hty.el]
      intro _; exact Go.Addr.add_zero' _
    · rw [hlt, ← htake, List.take_take]
      congr 1
      exact (Nat.min_eq_left (Nat.mul_le_mul_right _ hnl)).symm

/-- clear of what lies from a place on. -/
theorem Step.clearWin {α : Type} [R : Rp α] {x : Operand} {te te' : List Nat} {l : List α} {z : α} {t k : Nat} {ts e : TypeId} (hty : OwnTy X.P ts e α) (hz : ZeroTy X.P e z) (ht : Nat.ble 10 t = true)
    (hx : Has G x (.win t k R.n)) (hrs : look G (rs t) = some (.own t te e l)) (hte : ElKeep (α := α) t te te') :
    Step X G ⟨none, .call { callee := .builtin .clear, args := #[x], argTypes := #[ts] }, ty, pos, af, none⟩ [.fact (rs t) (.own t te' e (l.take k ++ List.replicate (l.length - k) z)), .kill t] := fun G' hsub a w env K Q hK => by
  have ht' : 10 ≤ t := by simpa using ht
  obtain ⟨g, hg, hf'⟩ := env.facts
  have hf := hsub a w g hf'
  obtain ⟨xs, hown, hrel, htag⟩ := hf _ _ hrs
  obtain ⟨i, zv, hi, hiz, hisz, hby, hzs⟩ := hty.info
  obtain ⟨zv', hz1, hz2⟩ := hz
  rw [hi] at hz1
  simp only [Option.bind_some, hiz, Option.some.injEq] at hz1
  subst hz1
  rcases hown.2 with ⟨hnil, hn⟩ | ⟨b, cap, cs, hga, h0, hh, hnc, hcm, hcs, htake⟩
  · have hk : a.eval x = .slice none 0 0 := by
      rcases hx a w g hf with ⟨b, cap, m, h1, _⟩ | ⟨_, h2, _⟩
      · rw [hnil] at h1; cases h1
      · exact h2
    have hl : l = [] := List.eq_nil_of_length_eq_zero hn
    have hrun : (execOp a.eval ⟨none, .call { callee := .builtin .clear, args := #[x], argTypes := #[ts] }, ty, pos, af, none⟩).run X.P w = .ok (.value (.tuple #[])) w := by
      unfold execOp
      simp [resolve, invoke, builtin, hk, Builtin.clear_, run_underlying hty.und]
    unfold Oper.wp
    rw [hrun]
    refine hK _ w ?_
    refine ⟨by simp [Act.put, env.size], env.defers, env.fr, g, hg, ?_⟩
    show Facts _ g a w
    refine Facts.ghost (facts_killed' hf' (Nat.le_refl _) (fun _ _ _ => rfl)) (fun v => ⟨[], ?_, ?_, htag⟩)
    · rw [hnil, hl]; simp; exact World.ownsRow_nil w 0 e R.n
    · rw [hl]; simp [RelL]
  · obtain ⟨hkm, hev⟩ : k ≤ l.length ∧ a.eval x = .slice (some (if cap = k then ⟨b, 0, none⟩ else (⟨b, 0, none⟩ : Addr).add (k * R.n))) (l.length - k) (cap - k) := by
      rcases hx a w g hf with ⟨b', cap', m, h1, h2, h3⟩ | ⟨h1, _⟩
      · rw [hga] at h1; cases h1; exact ⟨h2, h3⟩
      · rw [hga] at h1; cases h1
    have hom : g.om b = t := htag b (by rw [hga]; rfl)
    by_cases hl0 : l.length - k = 0
    · have hrun : (execOp a.eval ⟨none, .call { callee := .builtin .clear, args := #[x], argTypes := #[ts] }, ty, pos, af, none⟩).run X.P w = .ok (.value (.tuple #[])) w := by
        unfold execOp
        simp [resolve, invoke, builtin, hev, hl0, Builtin.clear_, run_underlying hty.und]
      unfold Oper.wp
      rw [hrun]
      refine hK _ w ?_
      refine ⟨by simp [Act.put, env.size], env.defers, env.fr, g, hg, ?_⟩
      show Facts _ g a w
      have he : l.take k ++ List.replicate (l.length - k) z = l := by rw [hl0, List.take_of_length_le (by omega)]; simp
      refine Facts.ghost (facts_killed' hf' (Nat.le_refl _) (fun _ _ _ => rfl)) (fun v => ⟨xs, ?_, ?_, htag⟩)
      · rw [he]; exact hown
      · rw [he]; exact hte (fun b => g.om b ∈ te') g w w l xs (Nat.le_refl _) (fun _ _ _ => rfl) (fun _ _ h => h) hrel
    · have hck : ¬ (cap = k) := by omega
      rw [if_neg hck, Go.Addr.add_lit] at hev
      have hzl : (madeCells zv.cells ((l.length - k) * R.n)).toList = (List.replicate (l.length - k) zv.cells.toList).flatten := by
        have h1 := madeCells_flatten zv.cells.toList (l.length - k)
        simpa [hzs] using h1
      have hzc : ∀ c ∈ zv.cells.toList, c.oneCell' = true := R.one _ _ _ _ (hz2 w)
      have hlen : ((List.replicate (l.length - k) zv.cells.toList).flatten).length = (l.length - k) * R.n := by simp [hzs]
      have hkn : k * R.n + (l.length - k) * R.n = l.length * R.n := by rw [← Nat.add_mul]; congr 1; omega
      have hcn : l.length * R.n ≤ cap * R.n := Nat.mul_le_mul_right _ hnc
      have hst := run_storeCells_at X.P b (0 + k * R.n) e ((List.replicate (l.length - k) zv.cells.toList).flatten) 0 cs w hh (by rw [hlen]; omega) (fun c hc => by
        obtain ⟨y, hy, hcy⟩ := List.mem_flatten.1 hc
        exact hzc c (by rw [(List.mem_replicate.1 hy).2] at hcy; exact hcy))
      have hzcells : (Builtin.zeroCells zv.cells (l.length - k)).toList = (List.replicate (l.length - k) zv.cells.toList).flatten := by
        rw [← hzl, ← hzs]; rfl
      rw [hlen] at hst
      simp only [Nat.zero_add, Nat.add_zero] at hst hev
      let row : Array Value := (cs.toList.take (k * R.n) ++ (List.replicate (l.length - k) zv.cells.toList).flatten ++ cs.toList.drop (k * R.n + (l.length - k) * R.n)).toArray
      have hrun : (execOp a.eval ⟨none, .call { callee := .builtin .clear, args := #[x], argTypes := #[ts] }, ty, pos, af, none⟩).run X.P w = .ok (.value (.tuple #[])) (w.setRow b row) := by
        unfold execOp
        have hz0 : (zeroValue e).run X.P w = .ok zv w := by simp [zeroValue, typeInfo, hi, hiz]
        have hcl : (Builtin.clear_ #[ts] ty #[.slice (some ⟨b, k * R.n, none⟩) (l.length - k) (cap - k)]).run X.P w = .ok (.tuple #[]) (w.setRow b row) := by
          obtain ⟨m, hm⟩ : ∃ m, l.length - k = m + 1 := ⟨l.length - k - 1, by omega⟩
          simp only [row]
          rw [hm] at hzcells hst ⊢
          unfold Builtin.clear_
          simp [run_underlying hty.und, hz0, hzcells, hst]
        simp [resolve, invoke, builtin, hev, hcl]
      unfold Oper.wp
      rw [hrun]
      refine hK _ _ ?_
      have hb : ∀ b', b' < w.heap.size → g.om b' ≠ t → (w.setRow b row).heap[b']? = w.heap[b']? := fun b' hb hne => setRow_other w b b' _ (fun h => hne (by rw [h]; exact hom))
      have hsz : (w.setRow b row).heap.size = w.heap.size := by simp
      refine ⟨by simp [Act.put, env.size], env.defers, Fr.own env.fr hg ht' (.inr trivial) rfl rfl rfl (by rw [hsz]; exact Nat.le_refl _) hb, g, ⟨⟨hg.ok.old, fun b h1 h2 => hg.ok.new b h1 (by rw [hsz] at h2; exact h2)⟩, hg.om⟩, ?_⟩
      show Facts _ g a _
      have hll : (l.take k ++ List.replicate (l.length - k) z).length = l.length := by simp; omega
      have htk : (cs.toList.take (k * R.n)).length = k * R.n := by rw [List.length_take, Array.length_toList, hcs]; exact Nat.min_eq_left (by omega)
      refine Facts.ghost (facts_killed' hf' (by rw [hsz]; exact Nat.le_refl _) hb) (fun v => ⟨cs.toList.take (k * R.n) ++ (List.replicate (l.length - k) zv.cells.toList).flatten, ⟨?_, .inr ⟨b, cap, row, by rw [hga, hll], h0, setRow_heap w b cs _ e (0, 0) hh, by rw [hll]; exact hnc, hcm, ?_, ?_⟩⟩, ?_, htag⟩)
      · rw [hll, List.length_append, htk, hlen]; exact hkn
      · simp only [row, List.size_toArray, List.length_append, htk, hlen, List.length_drop, Array.length_toList]
        omega
      · rw [hll, ← hkn]
        simp only [row]
        rw [List.take_append_of_le_length (by rw [List.length_append, htk, hlen]; exact Nat.le_refl _), List.take_of_length_le (by rw [List.length_append, htk, hlen]; exact Nat.le_refl _)]
      · have h1 := hte (fun b => g.om b ∈ te') g w (w.setRow b row) l xs (by rw [hsz]; exact Nat.le_refl _) hb (fun _ _ h => h) hrel
        have key : ∀ (l : List α) (xs : List Value) (k : Nat), RelL (fun b => g.om b ∈ te') l xs (w.setRow b row) → RelL (fun b => g.om b ∈ te') (l.take k) (xs.take (k * R.n)) (w.setRow b row) := fun l xs k h => RelL.take l xs k h
        have h2 := key l xs k h1
        have hxt : xs.take (k * R.n) = cs.toList.take (k * R.n) := by
          rw [← htake, List.take_take]; congr 1; exact Nat.min_eq_left (Nat.mul_le_mul_right _ hkm)
        rw [hxt] at h2
        exact RelL.app _ _ _ _ h2 (RelL.rep (R.stab _ _ z _ w _ (by rw [hsz]; exact Nat.le_refl _) (fun _ _ h => h.elim) (hz2 w)) (l.length - k))
end
end
end GL

namespace GL
section
open Go

section
variable {X : Cx} {G : List It} {Q : Exit → Act → World → Prop} {ops : Array Oper} {rest : List Oper}

/-- Whether an operation is wanted: just where gp holds. -/
def GOk (G : List It) (ops : Array Oper) (o : Oper) (gp : Prop) : Prop :=
  ∀ a w g, Facts G g a w → (Region.wanted o (yielded ops a.tmps) = true ∧ gp) ∨ (Region.wanted o (yielded ops a.tmps) = false ∧ ¬gp)
theorem GOk.one {d : Option Nat} {op : Op} {ty : TypeId} {pos : String} {af : Array Edge} {j dj : Nat} {want b : Bool} {T : List Nat} (hj : (ops[j]?).bind (·.dst) = some dj) (hb : look G dj = some (Fact.rep T b)) :
    GOk G ops ⟨d, op, ty, pos, af, some (j, want)⟩ (b = want) := fun a w g hf => by
  have hy := yielded_of hj (rep_bool.1 (hf dj _ hb))
  simp only [Region.wanted, hy]
  by_cases hw : b = want
  · subst hw; exact .inl ⟨by simp, rfl⟩
  · exact .inr ⟨by simp [hw], hw⟩
theorem GOk.two {d : Option Nat} {op : Op} {ty : TypeId} {pos : String} {af : Array Edge} {j dj : Nat} {want b : Bool} {c : Prop} {T : List Nat} (hj : (ops[j]?).bind (·.dst) = some dj) (hb : look G dj = some ((Fact.rep T b).under c)) :
    GOk G ops ⟨d, op, ty, pos, af, some (j, want)⟩ (c ∧ b = want) := fun a w g hf => by
  have hu := hf dj _ hb
  by_cases hc : c
  · have hy := yielded_of hj (rep_bool.1 (hu.1 hc))
    simp only [Region.wanted, hy]
    by_cases hw : b = want
    · subst hw; exact .inl ⟨by simp, hc, rfl⟩
    · exact .inr ⟨by simp [hw], fun h => hw h.2⟩
  · have hy : (yielded ops a.tmps j == some want) = false := by
      have h1 : a.tmps.getD dj undef = undef := hu.2 hc
      unfold yielded
      rw [hj]
      simp only [Option.bind_some]
      rw [Array.getD_eq_getD_getElem?] at h1
      cases h2 : a.tmps[dj]? with
      | none => rfl
      | some v => rw [h2] at h1; simp at h1; subst h1; rfl
    exact .inr ⟨by simp only [Region.wanted, hy], fun h => hc h.1⟩

/-- A slot that holds nothing. -/
def Fact.und : Fact where
  tags := []
  ids := []
  p := fun _ v _ => v = undef
  stab := fun _ _ _ _ _ _ h => h
theorem Has.und {t : Nat} {f : Fact} {c : Prop} (h : look G t = some .und) (hc : ¬c) : Has G (.tmp t) (f.under c) := fun a w g hf => ⟨fun h1 => (hc h1).elim, fun _ => hf t _ h⟩
theorem Cv.under {f : Fact} {c : Prop} (hc : c) : Cv G f (f.under c) := fun _ _ _ _ _ h => ⟨fun _ => h, fun h1 => (h1 hc).elim⟩

/-! ### function variables -/
/-- A value of one cell. -/
structure Cell1 where
  v : Value
  one : v.oneCell' = true
instance : Rp Cell1 where
  n := 1
  agg := false
  na := fun _ => rfl
  rel := fun _ x cs _ => cs = [x.v]
  len := fun _ _ _ _ h => by rw [h]; rfl
  one := fun _ x _ _ h => by rw [h]; simp [x.one]
  stab := fun _ _ _ _ _ _ _ _ h => h
variable {ty : TypeId} {pos : String} {af : Array Edge}
theorem Step.storeFG {p x : Operand} {e : TypeId} {α : Type} [R : Rp α] {t i off : Nat} {ps : Ps} {f : Fact} (ht : Nat.ble 10 t = true) (hty : Ty X.P e α) (hp : partAt ps i = some (off, R.agg, R.n)) (hpx : Has G p (.pto t off))
    (ho : look G (rs t) = some (.obj t ps)) (hr : ∀ a w g, Facts G g a w → ∃ (F : Nat → Prop) (y : α), Rep F y (a.eval x) w) (hx : Has G x f) (hok : lsOk t (t + 1 + i) 1 [(R.agg, R.n, f)] = true) :
    Step X G ⟨none, .store e p x, ty, pos, af, none⟩ [.fact (rs (t + 1 + i)) (.at (t + 1 + i) f), .fact (rs t) (.obj t ps), .kill t, .killId (t + 1 + i)] := fun G' hsub a w env K Q hK => by
    have ht' : 10 ≤ t := by simpa using ht
    obtain ⟨g, hg, hf'⟩ := env.facts
    have hf := hsub a w g hf'
    obtain ⟨b, hb, hv⟩ := hpx a w g hf
    obtain ⟨b', ty', cs, hga, hh, hom, hrel⟩ := hf _ _ ho
    rw [hga] at hb
    simp only [ownB, Option.some.injEq] at hb
    subst hb
    obtain ⟨c0, k1, k2, k3, k4⟩ := hrel.part ps (t + 1) _ i off _ _ hp
    obtain ⟨F0, y, hr0⟩ := hr a w g hf
    obtain ⟨es, hes, hre, hrun⟩ := run_storeVar (P := X.P) hty hh hr0 (show off + R.n ≤ cs.size by simpa using k3)
    have hl := R.len _ _ _ _ hre
    have h1 := R.one _ _ _ _ hre
    have hfx := hx a w g hf
    have hok' := lsOk_spec hok (l := (R.agg, R.n, f)) (by simp)
    have hrun' : (execOp a.eval ⟨none, .store e p x, ty, pos, af, none⟩).run X.P w = .ok .skip (w.setRow b' (cs.toList.take off ++ es ++ cs.toList.drop (off + R.n)).toArray) := by
      unfold execOp
      simp only [hv, Instr.storeAt, Instr.sureAddr, Sem.run_bind, Sem.run_pure, Result.andThen_ok]
      rw [hrun]
      rfl
    unfold Oper.wp
    rw [hrun']
    refine hK undef _ ?_
    have hb : ∀ b, b < w.heap.size → g.om b ≠ t → (w.setRow b' (cs.toList.take off ++ es ++ cs.toList.drop (off + R.n)).toArray).heap[b]? = w.heap[b]? := fun b hb hne => setRow_other w b' b _ (fun h => hne (by rw [h]; exact hom))
    have hsz : (w.setRow b' (cs.toList.take off ++ es ++ cs.toList.drop (off + R.n)).toArray).heap.size = w.heap.size := by simp
    let g2 : Gh := ⟨g.om, fun s => if s = t + 1 + i then a.eval x else g.ga s⟩
    have hgai : g2.ga (t + 1 + i) = a.eval x := if_pos rfl
    have hgao : ∀ s, s ≠ t + 1 + i → g2.ga s = g.ga s := fun s hs => if_neg hs
    refine ⟨by simp [Act.put, env.size], env.defers, Fr.own env.fr hg ht' (.inr trivial) rfl rfl rfl (by rw [hsz]; exact Nat.le_refl _) hb, g2, ⟨⟨hg.ok.old, fun b h1 h2 => hg.ok.new b h1 (by rw [hsz] at h2; exact h2)⟩, hg.om⟩, ?_⟩
    show Facts _ g2 a _
    refine Facts.ghost ?_ (fun v => ?_)
    · refine Facts.ghost ?_ (fun v => ⟨b', ty', _, by rw [hgao t (by omega)]; exact hga, setRow_heap w b' cs _ ty' (0, 0) hh, hom, ?_⟩)
      · exact facts_killIdsT [t + 1 + i] hf' (by rw [hsz]; exact Nat.le_refl _) hb (fun _ _ => rfl) (fun s hs => hgao s (by simpa using hs))
      · have := PRel.set (g := g) (g' := g2) ps (t + 1) cs.toList es i off _ _ hrel hp hl h1 (by rw [hgai]; exact hes) hgao
        simpa using this
    · show f.p g2 (g2.ga (t + 1 + i)) _
      rw [hgai]
      exact f.stab g g2 _ w _ ⟨by rw [hsz]; exact Nat.le_refl _, fun b hbl htg => ⟨hb b hbl (fun he => hok'.2 (he ▸ htg)), rfl⟩, fun s hs => hgao s (fun he => hok'.1 s hs (by omega))⟩ hfx


end
end
end GL

namespace GL
section
open Go

section
variable {X : Cx} {G : List It} {Q : Exit → Act → World → Prop} {ops : Array Oper} {rest : List Oper} {dO : Option Nat} {ty : TypeId} {pos : String} {af : Array Edge} {gd : Option (Nat × Bool)}

theorem Spec.idxVar8 {x io : Operand} {ts e : TypeId} {n t k : Nat} {T : List Nat} {z : UInt8} (hm : bnd n (z.toNat : Int) = some k) (h : SmTy X.P ts e n 1) (hx : Has G x (.pto t 0)) (hz : Has G io (Fact.rep T z)) :
    Spec X G ⟨dO, .indexAddr ts x io, ty, pos, af, gd⟩ (.pto t k) :=
  Spec.pure fun a w g hf => by
    obtain ⟨b, hb, hv⟩ := hx a w g hf
    obtain ⟨inf, h1, h2⟩ := h.sz
    obtain ⟨b1, b2, b3⟩ := bnd_some hm
    have hzv := rep_u8.1 (hz a w g hf)
    have hq : (z.toNat : Int) = (k : Int) := by omega
    rw [hq] at hzv
    refine ⟨.pointer (some ⟨b, k, none⟩), ?_, b, hb, rfl⟩
    unfold execOp
    simp only [hv, hzv, Instr.indexAt, asIntOf, Sem.run_bind, Sem.run_pure, Result.andThen_ok, run_underlying h.und, Instr.sureAddr, Sem.run_map]
    rw [if_pos (by omega)]
    simp only [Go.sizeOf, typeInfo, h1, h2]
    simp [h1, h2, Go.Addr.add_lit]

/-- All parts from i on are data. -/
def HasVs {α : Type} [Rp α] (G : List It) (T : List Nat) (i : Nat) : List α → Prop
  | [] => True
  | y :: l => HasG G i (Fact.rep T y) ∧ HasVs G T (i + 1) l
theorem HasVs.nil {α : Type} [Rp α] {T : List Nat} {i : Nat} : HasVs (α := α) G T i [] := trivial
theorem HasVs.cons {α : Type} [Rp α] {T : List Nat} {i : Nat} {y : α} {l : List α} (h : HasG G i (Fact.rep T y)) (k : HasVs G T (i + 1) l) : HasVs G T i (y :: l) := ⟨h, k⟩
theorem HasVs.get {α : Type} [Rp α] {T : List Nat} : ∀ {l : List α} {i k : Nat} {y : α}, HasVs G T i l → l[k]? = some y → HasG G (i + k) (Fact.rep T y)
  | [], _, _, _, _, h => by simp at h
  | x :: l, i, 0, y, h, hk => by
    simp at hk
    subst hk
    exact h.1
  | x :: l, i, k + 1, y, h, hk => by
    have := HasVs.get (k := k) h.2 (by simpa using hk)
    rw [show i + 1 + k = i + (k + 1) by omega] at this
    exact this
def partsV (ps : Ps) (n : Nat) : Bool := (List.range n).all fun j => partAt ps j == some (j, false, 1)
theorem partsV_at {ps : Ps} {n k : Nat} (h : partsV ps n = true) (hk : k < n) : partAt ps k = some (k, false, 1) := by
  have := List.all_eq_true.1 h k (List.mem_range.2 hk)
  simpa using this

theorem Spec.loadV {x : Operand} {e : TypeId} {α : Type} [R : Rp α] {t k : Nat} {ps : Ps} {T : List Nat} {l : List α} {y : α} (hk : l[k]? = some y) (hty : Ty X.P e α) (hag : R.agg = false) (hp : partsV ps l.length = true)
    (hx : Has G x (.pto t k)) (ho : look G (rs t) = some (.obj t ps)) (hf : HasVs G T (t + 1) l) : Spec X G ⟨dO, .load e x, ty, pos, af, gd⟩ (Fact.rep T y) :=
  Spec.loadF (i := k) hty (by rw [hag, R.na hag]; exact partsV_at hp (List.getElem?_eq_some_iff.1 hk).1) hx ho (hf.get hk)

end
end
end GL

namespace GL
section
open Go

/-- One of some functions, by its place; none is 0. -/
structure FnI (ks : List FuncId) where
  i : Nat
  deriving Inhabited, DecidableEq
def fnAt (ks : List FuncId) : Nat → Option FuncId
  | 0 => none
  | n + 1 => ks[n]?
def fnVal : Option FuncId → Value
  | none => .nilFunc
  | some k => .func (.func k) #[] #[]
instance {ks : List FuncId} : Rp (FnI ks) where
  n := 1
  agg := false
  na := fun _ => rfl
  rel := fun _ x cs _ => cs = [fnVal (fnAt ks x.i)]
  len := fun _ _ _ _ h => by rw [h]; rfl
  one := fun _ x _ _ h => by rw [h]; cases fnAt ks x.i <;> simp [fnVal, Value.oneCell']
  stab := fun _ _ _ _ _ _ _ _ h => h
instance {ks : List FuncId} : Flat (FnI ks) := ⟨fun _ _ _ _ _ _ h => h⟩
theorem rep_fni {ks : List FuncId} {F : Nat → Prop} {x : FnI ks} {v : Value} {w : World} : Rep F x v w ↔ v = fnVal (fnAt ks x.i) := by
  constructor
  · rintro ⟨cs, h, rfl⟩; cases h; rfl
  · rintro rfl; exact ⟨_, rfl, rfl⟩

section
variable {X : Cx} {G : List It} {Q : Exit → Act → World → Prop} {dO : Option Nat} {ty : TypeId} {pos : String} {af : Array Edge} {gd : Option (Nat × Bool)}
theorem Has.fniNil {ks : List FuncId} : Has G (.const .nilFunc) (Fact.rep [] (⟨0⟩ : FnI ks)) := fun _ _ _ _ => rep_fni.2 rfl
theorem Cv.fni {ks : List FuncId} {k : FuncId} {n : Nat} (h : fnAt ks n = some k) : Cv G (.fnv k [] []) (Fact.rep [] (⟨n⟩ : FnI ks)) := fun a w g v hf hp => by
  obtain ⟨us, vs, rfl, h1, h2⟩ := hp
  cases us with
  | nil =>
    cases vs with
    | nil => exact rep_fni.2 (by rw [h]; rfl)
    | cons _ _ => cases h2
  | cons _ _ => cases h1

theorem run_eqIn_func_nil {P : Program} (w : World) (d : Nat) {t : TypeId} {as rs : Array TypeId} {vr : Bool} (h : P.underlying t = some (.func as rs vr)) (o : Option FuncId) : (Op.equalIn (d + 1) t (fnVal o) .nilFunc).run P w = .ok o.isNone w := by
  cases o <;> simp [Op.equalIn, run_underlying h, fnVal]
theorem run_eq_func_nil {P : Program} (w : World) {t : TypeId} {as rs : Array TypeId} {vr : Bool} (h : P.underlying t = some (.func as rs vr)) (o : Option FuncId) : (Op.equal t (fnVal o) .nilFunc).run P w = .ok o.isNone w := run_eqIn_func_nil w 9999 h o
theorem eqGuard_fnv {op : BinOp} {t : TypeId} {x y : Operand} (o : Option FuncId) (v : Value) : eqGuard op t x y (fnVal o) v = pure () := by cases o <;> cases op <;> rfl
theorem Spec.eqlFni {ks : List FuncId} {x : Operand} {t t' : TypeId} {T : List Nat} {as rs : Array TypeId} {vr : Bool} {m : FnI ks} (ht : X.P.underlying t = some (.func as rs vr)) (hx : Has G x (Fact.rep T m)) :
    Spec X G ⟨dO, .binOp .eql t x (.const .nilFunc) t', ty, pos, af, gd⟩ (Fact.rep [] (fnAt ks m.i).isNone) :=
  Spec.pure fun a w g hf => by
    have hv := rep_fni.1 (hx a w g hf)
    refine ⟨.bool (fnAt ks m.i).isNone, ?_, rep_bool.2 rfl⟩
    unfold execOp
    have hr := run_eq_func_nil (P := X.P) w ht (fnAt ks m.i)
    simp [hv, eval_const, eqGuard_fnv, binOp, hr]
/-- A call of one of some functions. -/
theorem Spec.callI {ks : List FuncId} {m : FnI ks} {y : Operand} {pre : List Shape} {out : Shape} {shc : List Nat} {d : Option Nat} {xs : List Operand} {ats : Array TypeId}
    (T : List Nat) (t : Nat) (ht : Nat.ble 10 t = true) {Ty' : List Nat} (hy : Has G y (Fact.rep Ty' m)) (hc : ∃ k, fnAt ks m.i = some k ∧ enters X.P k = true ∧ Ctr X.P k pre out shc) (hx : HasAll G T xs pre) :
    Spec X G ⟨d, .call { callee := .value y, args := xs.toArray, argTypes := ats }, ty, pos, af, gd⟩ (out.f (cT t T shc)) := fun a w g hs hfr hg hf K Q hK => by
  have ht' : 10 ≤ t := by simpa using ht
  obtain ⟨k, hk1, hk, hc⟩ := hc
  have hv : a.eval y = .func (.func k) #[] #[] := by rw [rep_fni.1 (hy a w g hf), hk1]; rfl
  have hcall := hc w g T _ (hx.all2 hf)
  have hrun : (execOp a.eval ⟨d, .call { callee := .value y, args := xs.toArray, argTypes := ats }, ty, pos, af, gd⟩).run X.P w = .ok (.enter k (xs.map a.eval).toArray) w := by
    unfold execOp
    simp [resolve, Deferred.ofValue, hv, invoke, run_enter hk]
  unfold Oper.wp
  rw [hrun]
  refine Calls.mono hcall ?_
  rintro e w' ⟨v, rfl, hw, cls, hp⟩
  refine hK v w' ⟨hw, GL.tagCls g w.heap.size t cls, hg.tagCls ht' hfr.size, fun b hb => by simp [GL.tagCls, hb], fun _ => rfl, ?_⟩
  refine hp _ _ ?_ ?_
  · intro b h1 _
    simp only [GL.tagCls, cT]
    rw [if_neg (Nat.not_lt.2 h1)]
    cases shc.elem (cls b) <;> simp
  · intro b c h1 h2 h3
    simp only [GL.tagCls, cT]
    rw [if_pos h1, show shc.elem c = true by simpa using h3]
    simp [h2]
theorem Spec.callIE {ks : List FuncId} {m : FnI ks} {y : Operand} {pre : List Shape} {out : Shape} {shc : List Nat} {d : Option Nat} {xs : List Operand} {ats : Array TypeId} {f : Fact}
    (T : List Nat) (t : Nat) (ht : Nat.ble 10 t = true) {Ty' : List Nat} (hy : Has G y (Fact.rep Ty' m)) (hc : ∃ k, fnAt ks m.i = some k ∧ enters X.P k = true ∧ Ctr X.P k pre out shc) (hx : HasAll G T xs pre) (hf : out.f (cT t T shc) = f := by rfl) :
    Spec X G ⟨d, .call { callee := .value y, args := xs.toArray, argTypes := ats }, ty, pos, af, gd⟩ f := hf ▸ Spec.callI T t ht hy hc hx
end
end
end GL

namespace GL
section
open Go

/-! ### cells as they stand -/
structure Raw (n : Nat) where
  cs : List Value
  len : cs.length = n
  one : ∀ c ∈ cs, c.oneCell' = true
instance (n : Nat) : Rp (Raw n) where
  n := n
  agg := true
  na := fun h => by cases h
  rel := fun _ x cs _ => cs = x.cs
  len := fun _ x _ _ h => by rw [h]; exact x.len
  one := fun _ x _ _ h => by rw [h]; exact x.one
  stab := fun _ _ _ _ _ _ _ _ h => h
/-! ### data that begin with a slice -/
structure HdS (α β γ : Type) [R : Rp α] [B : Rp β] [C : Rp γ] where
  hd : α → List β
  tl : α → γ
  n : R.n = C.n + 1
  agg : R.agg = true
  split : ∀ F x cs w, R.rel F x cs w ↔ ∃ v c, cs = v :: c ∧ SlRel F F (hd x) v w ∧ C.rel F (tl x) c w
theorem list_rel {β : Type} [B : Rp β] (F : Nat → Prop) (l : List β) (cs : List Value) (w : World) : (inferInstance : Rp (List β)).rel F l cs w ↔ ∃ v, cs = [v] ∧ SlRel F F l v w := by
  constructor
  · rintro ⟨a, c, h1, h2, h3, h4⟩
    exact ⟨_, h1, a, c, rfl, h2, h3, h4⟩
  · rintro ⟨v, h0, a, c, h1, h2, h3, h4⟩
    exact ⟨a, c, by rw [h0, h1], h2, h3, h4⟩
def HdS.via {α β γ : Type} [B : Rp β] [C : Rp γ] (f : α → List β × γ) : @HdS α β γ (Rp.via (inferInstance : Rp (List β × γ)) f) B C :=
  @HdS.mk α β γ (Rp.via (inferInstance : Rp (List β × γ)) f) B C (fun x => (f x).1) (fun x => (f x).2) (Nat.add_comm 1 C.n) rfl (fun F x cs w => by
    show (∃ c1 c2, cs = c1 ++ c2 ∧ (inferInstance : Rp (List β)).rel F (f x).1 c1 w ∧ C.rel F (f x).2 c2 w) ↔ _
    constructor
    · rintro ⟨c1, c2, rfl, h1, h2⟩
      obtain ⟨v, rfl, h3⟩ := (list_rel F _ c1 w).1 h1
      exact ⟨v, c2, rfl, h3, h2⟩
    · rintro ⟨v, c, rfl, h1, h2⟩
      exact ⟨[v], c, rfl, (list_rel F _ _ w).2 ⟨v, rfl, h1⟩, h2⟩)

theorem OwRel.stab1 {α : Type} [R : Rp α] {F Fe F' Fe' : Nat → Prop} {e : TypeId} {l : List α} {v : Value} {w w' : World} (hs : w.heap.size ≤ w'.heap.size)
    (hk : ∀ b, v.ownBlock = some b → b < w.heap.size → F b → w'.heap[b]? = w.heap[b]? ∧ F' b) (hk' : ∀ b, b < w.heap.size → Fe b → w'.heap[b]? = w.heap[b]? ∧ Fe' b) (h : OwRel F Fe e l v w) : OwRel F' Fe' e l v w' := by
  obtain ⟨xs, h1, h2, h3⟩ := h
  have : OwRel (fun b => F b ∧ v.ownBlock = some b) Fe e l v w := ⟨xs, h1, h2, fun b hb => ⟨h3 b hb, hb⟩⟩
  exact OwRel.stab hs (fun b hb hF => hk b hF.2 hb hF.1) hk' this
theorem OwRel.lt {α : Type} [R : Rp α] {F Fe : Nat → Prop} {e : TypeId} {l : List α} {v : Value} {w : World} (h : OwRel F Fe e l v w) {b : Nat} (hb : v.ownBlock = some b) : F b ∧ b < w.heap.size := by
  obtain ⟨xs, h1, h2, h3⟩ := h
  exact ⟨h3 b hb, (h1.lt b hb).2⟩
theorem OwRel.one {α : Type} [R : Rp α] {F Fe : Nat → Prop} {e : TypeId} {l : List α} {v : Value} {w : World} (h : OwRel F Fe e l v w) : v.oneCell' = true := by
  obtain ⟨xs, h1, _⟩ := h
  rcases h1.2 with ⟨rfl, _⟩ | ⟨b, cap, cur, rfl, _⟩ <;> rfl

section
variable {α β γ : Type} [R : Rp α] [B : Rp β] [C : Rp γ] (H : HdS α β γ)

/-- The cells of a list of such data, each with a row of its own, and the blocks of those rows. -/
def RelN (Fr Fe : Nat → Prop) (er : TypeId) : List α → List Value → List (Option Nat) → World → Prop
  | [], cs, bs, _ => cs = [] ∧ bs = []
  | x :: l, cs, bs, w => ∃ v c1 c2 bs', cs = v :: (c1 ++ c2) ∧ bs = v.ownBlock :: bs' ∧ OwRel Fr Fe er (H.hd x) v w ∧ C.rel Fe (H.tl x) c1 w ∧ RelN Fr Fe er l c2 bs' w
variable {H} {Fr Fe Fr' Fe' : Nat → Prop} {er : TypeId} {w w' : World}
theorem RelN.stab (hs : w.heap.size ≤ w'.heap.size) (hk' : ∀ b, b < w.heap.size → Fe b → w'.heap[b]? = w.heap[b]? ∧ Fe' b) : ∀ (l : List α) (cs : List Value) (bs : List (Option Nat)),
    (∀ b, some b ∈ bs → b < w.heap.size → Fr b → w'.heap[b]? = w.heap[b]? ∧ Fr' b) → RelN H Fr Fe er l cs bs w → RelN H Fr' Fe' er l cs bs w'
  | [], _, _, _, h => h
  | x :: l, cs, bs, hk, h => by
    obtain ⟨v, c1, c2, bs', h1, rfl, h3, h4, h5⟩ := h
    exact ⟨v, c1, c2, bs', h1, rfl, OwRel.stab1 hs (fun b hb => hk b (by rw [hb]; simp)) hk' h3, C.stab Fe Fe' _ c1 w w' hs hk' h4, RelN.stab hs hk' l c2 bs' (fun b hb => hk b (by simp [hb])) h5⟩
theorem RelN.len : ∀ (l : List α) (cs : List Value) (bs : List (Option Nat)), RelN H Fr Fe er l cs bs w → cs.length = l.length * R.n ∧ bs.length = l.length
  | [], cs, bs, h => by rw [h.1, h.2]; simp
  | x :: l, cs, bs, h => by
    obtain ⟨v, c1, c2, bs', rfl, rfl, h3, h4, h5⟩ := h
    obtain ⟨k1, k2⟩ := RelN.len l c2 bs' h5
    have := C.len _ _ _ _ h4
    have hn := H.n
    simp only [List.length_cons, List.length_append]
    rw [k1, k2, this, Nat.add_mul]
    omega
theorem RelN.one : ∀ (l : List α) (cs : List Value) (bs : List (Option Nat)), RelN H Fr Fe er l cs bs w → ∀ c ∈ cs, c.oneCell' = true
  | [], cs, bs, h => by rw [h.1]; simp
  | x :: l, cs, bs, h => by
    obtain ⟨v, c1, c2, bs', rfl, rfl, h3, h4, h5⟩ := h
    intro c hc
    simp only [List.mem_cons, List.mem_append] at hc
    rcases hc with rfl | hc | hc
    · exact h3.one
    · exact C.one _ _ _ _ h4 c hc
    · exact RelN.one l c2 bs' h5 c hc
theorem RelN.mem : ∀ (l : List α) (cs : List Value) (bs : List (Option Nat)), RelN H Fr Fe er l cs bs w → ∀ b, some b ∈ bs → Fr b ∧ b < w.heap.size
  | [], cs, bs, h, b, hb => by rw [h.2] at hb; simp at hb
  | x :: l, cs, bs, h, b, hb => by
    obtain ⟨v, c1, c2, bs', rfl, rfl, h3, h4, h5⟩ := h
    simp only [List.mem_cons] at hb
    rcases hb with hb | hb
    · exact h3.lt hb.symm
    · exact RelN.mem l c2 bs' h5 b hb
theorem RelN.app : ∀ (l m : List α) (cs ds : List Value) (bs bt : List (Option Nat)), RelN H Fr Fe er l cs bs w → RelN H Fr Fe er m ds bt w → RelN H Fr Fe er (l ++ m) (cs ++ ds) (bs ++ bt) w
  | [], m, cs, ds, bs, bt, h, k => by rw [h.1, h.2]; exact k
  | x :: l, m, cs, ds, bs, bt, h, k => by
    obtain ⟨v, c1, c2, bs', rfl, rfl, h3, h4, h5⟩ := h
    exact ⟨v, c1, c2 ++ ds, bs' ++ bt, by simp, by simp, h3, h4, RelN.app l m c2 ds bs' bt h5 k⟩
theorem RelN.split : ∀ (l m : List α) (cs : List Value) (bs : List (Option Nat)), RelN H Fr Fe er (l ++ m) cs bs w → ∃ c1 c2 b1 b2, cs = c1 ++ c2 ∧ bs = b1 ++ b2 ∧ RelN H Fr Fe er l c1 b1 w ∧ RelN H Fr Fe er m c2 b2 w
  | [], m, cs, bs, h => ⟨[], cs, [], bs, rfl, rfl, ⟨rfl, rfl⟩, h⟩
  | x :: l, m, cs, bs, h => by
    obtain ⟨v, c1, c2, bs', rfl, rfl, h3, h4, h5⟩ := h
    obtain ⟨d1, d2, b1, b2, rfl, rfl, k1, k2⟩ := RelN.split l m c2 bs' h5
    exact ⟨v :: (c1 ++ d1), d2, v.ownBlock :: b1, b2, by simp, by simp, ⟨v, c1, d1, b1, rfl, rfl, h3, h4, k1⟩, k2⟩
end

def DistO (bs : List (Option Nat)) : Prop := bs.Pairwise (fun a b => a ≠ none → a ≠ b)
theorem DistO.app {bs bt : List (Option Nat)} (h : DistO bs) (k : DistO bt) (hd : ∀ b, some b ∈ bs → some b ∉ bt) : DistO (bs ++ bt) :=
  List.pairwise_append.2 ⟨h, k, fun a ha b hb hn he => by
    cases a with
    | none => exact hn rfl
    | some x => subst he; exact hd x ha hb⟩
theorem DistO.left {bs bt : List (Option Nat)} (h : DistO (bs ++ bt)) : DistO bs := (List.pairwise_append.1 h).1
theorem DistO.right {bs bt : List (Option Nat)} (h : DistO (bs ++ bt)) : DistO bt := (List.pairwise_append.1 h).2.1
theorem DistO.apart {bs bt : List (Option Nat)} (h : DistO (bs ++ bt)) (b : Nat) (h1 : some b ∈ bs) : some b ∉ bt := fun h2 =>
  (List.pairwise_append.1 h).2.2 _ h1 _ h2 (by simp) rfl

/-! ### facts -/
section
variable {α β γ : Type} [R : Rp α] [B : Rp β] [C : Rp γ]
def Ow2Rel (H : HdS α β γ) (Fo Fr Fe : Nat → Prop) (e er : TypeId) (l : List α) (v : Value) (w : World) : Prop :=
  ∃ xs bs, w.ownsRow 0 e R.n v l.length xs ∧ RelN H Fr Fe er l xs bs w ∧ DistO bs ∧ ∀ b, v.ownBlock = some b → Fo b
theorem ownsRow_keep {e : TypeId} {n m : Nat} {v : Value} {xs : List Value} {w w' : World} (h : w.ownsRow 0 e n v m xs) (hk : ∀ b, v.ownBlock = some b → b < w.heap.size → w'.heap[b]? = w.heap[b]?) : w'.ownsRow 0 e n v m xs := by
  refine ⟨h.1, ?_⟩
  rcases h.2 with hn | ⟨b, cap, cur, hv, h0, hb, rest⟩
  · exact .inl hn
  · refine .inr ⟨b, cap, cur, hv, h0, ?_, rest⟩
    have hlt : b < w.heap.size := (Array.getElem?_eq_some_iff.1 hb).1
    rw [hk b (by rw [hv]; rfl) hlt]
    exact hb
theorem Ow2Rel.stab {H : HdS α β γ} {Fo Fr Fe Fo' Fr' Fe' : Nat → Prop} {e er : TypeId} {l : List α} {v : Value} {w w' : World} (hs : w.heap.size ≤ w'.heap.size)
    (hk0 : ∀ b, b < w.heap.size → Fo b → w'.heap[b]? = w.heap[b]? ∧ Fo' b) (hk : ∀ b, b < w.heap.size → Fr b → w'.heap[b]? = w.heap[b]? ∧ Fr' b) (hk' : ∀ b, b < w.heap.size → Fe b → w'.heap[b]? = w.heap[b]? ∧ Fe' b)
    (h : Ow2Rel H Fo Fr Fe e er l v w) : Ow2Rel H Fo' Fr' Fe' e er l v w' := by
  obtain ⟨xs, bs, h1, h2, h3, h4⟩ := h
  exact ⟨xs, bs, ownsRow_keep h1 (fun b hb hlt => (hk0 b hlt (h4 b hb)).1), RelN.stab hs hk' l xs bs (fun b _ => hk b) h2, h3, fun b hb => (hk0 b (h1.lt b hb).2 (h4 b hb)).2⟩

end
section
variable {G : List It} {α β γ : Type} [R : Rp α] [B : Rp β] [C : Rp γ] {H : HdS α β γ} {T Tr te T' Tr' te' : List Nat} {e er : TypeId} {l : List α}
end

end
end GL

namespace GL
section
open Go

section
variable {X : Cx} {G : List It} {Q : Exit → Act → World → Prop} {ops : Array Oper} {rest : List Oper} {d : Nat} {dO : Option Nat} {ty : TypeId} {pos : String} {af : Array Edge} {gd : Option (Nat × Bool)}
variable {α β γ : Type} [R : Rp α] [B : Rp β] [C : Rp γ] {H : HdS α β γ}

/-- The ghost in which the blocks of some tags have another, and new ones a tag. -/
def ghTo (g : Gh) (n t : Nat) (K : List Nat) (r : Nat) : Gh := ⟨fun b => if b < n then (if K.elem (g.om b) then r else g.om b) else t, g.ga⟩
theorem ghTo_out {g : Gh} {n t : Nat} {K : List Nat} {r b : Nat} (hb : b < n) (h : g.om b ∉ K) : (ghTo g n t K r).om b = g.om b := by
  simp only [ghTo, if_pos hb]
  rw [if_neg]
  simpa using h
theorem ghTo_in {g : Gh} {n t : Nat} {K : List Nat} {r b : Nat} (hb : b < n) (h : g.om b ∈ K) : (ghTo g n t K r).om b = r := by
  simp only [ghTo, if_pos hb]
  rw [if_pos]
  simpa using h
theorem GhE.to {w w' : World} {g : Gh} (h : GhE X w g) {t r : Nat} {K : List Nat} (ht : 10 ≤ t) (hr : 10 ≤ r) (hK : all10 K = true) (h0 : X.w0.heap.size ≤ w.heap.size) : GhE X w' (ghTo g w.heap.size t K r) := by
  have ho : ∀ b, b < X.w0.heap.size → (ghTo g w.heap.size t K r).om b = g.om b := fun b hb => ghTo_out (by omega) (fun hm => by have := all10_spec hK hm; have := h.ok.old b hb; omega)
  refine ⟨⟨fun b hb => by rw [ho b hb]; exact h.ok.old b hb, fun b hb hb' => ?_⟩, fun b hb => by rw [ho b hb]; exact h.om b hb⟩
  by_cases hlt : b < w.heap.size
  · by_cases hm : g.om b ∈ K
    · rw [ghTo_in hlt hm]; exact hr
    · rw [ghTo_out hlt hm]; exact h.ok.new b hb hlt
  · simp only [ghTo]; rw [if_neg hlt]; exact ht

end
end
end GL

namespace GL
section
open Go

theorem FldRel.app {g : Gh} {w : World} : ∀ (a b : Ls) (c1 c2 : List Value), FldRel g w a c1 → FldRel g w b c2 → FldRel g w (a ++ b) (c1 ++ c2)
  | [], b, c1, c2, h, k => by rw [show c1 = [] from h]; exact k
  | l :: a, b, c1, c2, h, k => by
    obtain ⟨d1, d2, rfl, h2, h3, h3', h4, h5⟩ := h
    exact ⟨d1, d2 ++ c2, by simp, h2, h3, h3', h4, FldRel.app a b d2 c2 h5 k⟩

section
variable {α β γ : Type} [R : Rp α] [B : Rp β] [C : Rp γ]
structure LentP (H : HdS α β γ) (g : Gh) (w : World) (t u : Nat) (Tr te : List Nat) (e er : TypeId) (k : Nat) (l : List α) (ps : Ps) (b cap : Nat) (cur : Array Value) (c1 c2 c3 cs : List Value) (b1 b3 : List (Option Nat)) : Prop where
  sl : g.ga t = .slice (some ⟨b, 0, none⟩) l.length cap
  pt : g.ga u = .pointer (some ⟨b, 0, none⟩)
  om : g.om b = u
  row : w.heap[b]? = some (.cells cur e (0, 0))
  lc : l.length ≤ cap
  cm : cap ≤ maxLen
  sz : cur.size = cap * R.n
  kl : k < l.length
  eq : cur.toList = c1 ++ (c2 ++ (c3 ++ cs))
  pr : PRel g (u + 1) ps c2
  n2 : c2.length = R.n
  r1 : RelN H (fun b => g.om b ∈ Tr) (fun b => g.om b ∈ te) er (l.take k) c1 b1 w
  r3 : RelN H (fun b => g.om b ∈ Tr) (fun b => g.om b ∈ te) er (l.drop (k + 1)) c3 b3 w
  di : DistO (b1 ++ b3)
theorem LentP.n1 {H : HdS α β γ} {g : Gh} {w : World} {t u : Nat} {Tr te : List Nat} {e er : TypeId} {k : Nat} {l : List α} {ps : Ps} {b cap : Nat} {cur : Array Value} {c1 c2 c3 cs : List Value} {b1 b3 : List (Option Nat)}
    (h : LentP H g w t u Tr te e er k l ps b cap cur c1 c2 c3 cs b1 b3) : c1.length = k * R.n := by
  have := (RelN.len _ _ _ h.r1).1
  rw [this, List.length_take, Nat.min_eq_left (Nat.le_of_lt h.kl)]
/-- A slice t of which element k is lent: it lies in the row of the variable u. -/
def Fact.lent (H : HdS α β γ) (t u : Nat) (Tr te : List Nat) (e er : TypeId) (k : Nat) (l : List α) (ps : Ps) : Fact where
  tags := u :: (Tr ++ te)
  ids := t :: u :: psIds (u + 1) ps
  p := fun g _ w => ∃ b cap cur c1 c2 c3 cs b1 b3, LentP H g w t u Tr te e er k l ps b cap cur c1 c2 c3 cs b1 b3
  stab := fun g g' v w w' hk h => by
    obtain ⟨b, cap, cur, c1, c2, c3, cs, b1, b3, h⟩ := h
    have hlt : b < w.heap.size := (Array.getElem?_eq_some_iff.1 h.row).1
    have hb := hk.block b hlt (by rw [h.om]; simp)
    have hTr : ∀ b, b < w.heap.size → g.om b ∈ Tr → w'.heap[b]? = w.heap[b]? ∧ g'.om b ∈ Tr := fun b hb ht => by
      have := hk.block b hb (List.mem_cons_of_mem _ (List.mem_append_left _ ht))
      exact ⟨this.1, by rw [this.2]; exact ht⟩
    have hte : ∀ b, b < w.heap.size → g.om b ∈ te → w'.heap[b]? = w.heap[b]? ∧ g'.om b ∈ te := fun b hb ht => by
      have := hk.block b hb (List.mem_cons_of_mem _ (List.mem_append_right _ ht))
      exact ⟨this.1, by rw [this.2]; exact ht⟩
    exact ⟨b, cap, cur, c1, c2, c3, cs, b1, b3, by rw [hk.ids t (by simp)]; exact h.sl, by rw [hk.ids u (by simp)]; exact h.pt, by rw [hb.2]; exact h.om, by rw [hb.1]; exact h.row, h.lc, h.cm, h.sz, h.kl, h.eq,
      h.pr.stab ps (u + 1) _ (fun s hs => hk.ids s (List.mem_cons_of_mem _ (List.mem_cons_of_mem _ hs))), h.n2, RelN.stab hk.size hte _ _ _ (fun b _ => hTr b) h.r1, RelN.stab hk.size hte _ _ _ (fun b _ => hTr b) h.r3, h.di⟩
end

section
variable {X : Cx} {G : List It} {Q : Exit → Act → World → Prop} {ops : Array Oper} {rest : List Oper} {d : Nat} {dO : Option Nat} {ty : TypeId} {pos : String} {af : Array Edge} {gd : Option (Nat × Bool)}
variable {α β γ : Type} [R : Rp α] [B : Rp β] [C : Rp γ] {H : HdS α β γ}

end
end
end GL

namespace GL
section
open Go

section
variable {X : Cx} {G : List It} {Q : Exit → Act → World → Prop} {ops : Array Oper} {rest : List Oper} {d : Nat} {dO : Option Nat} {ty : TypeId} {pos : String} {af : Array Edge} {gd : Option (Nat × Bool)}
variable {α β γ : Type} [R : Rp α] [B : Rp β] [C : Rp γ] {H : HdS α β γ} {t u k : Nat} {Tr te : List Nat} {e er : TypeId} {l : List α} {ps : Ps}

/-- The cells of a lent element. -/
theorem LentP.cells {g : Gh} {w : World} {b cap : Nat} {cur : Array Value} {c1 c2 c3 cs : List Value} {b1 b3 : List (Option Nat)} (h : LentP H g w t u Tr te e er k l ps b cap cur c1 c2 c3 cs b1 b3)
    {off : Nat} {c : List Value} (hc : ∀ j x, c[j]? = some x → c2[off + j]? = some x) : CellsAt w ⟨b, k * R.n + off, none⟩ c := fun j x hj => by
  rw [Go.Addr.add_lit]
  refine ⟨?_, frozen_of_row w b _ cur e h.row⟩
  rw [cell_of_row w b _ cur e (0, 0) h.row]
  have h1 := hc j x hj
  have h2 : off + j < c2.length := (List.getElem?_eq_some_iff.1 h1).1
  have h3 : cur.toList[k * R.n + off + j]? = some x := by
    rw [h.eq, List.getElem?_append_right (by rw [h.n1]; omega), h.n1, show k * R.n + off + j - k * R.n = off + j by omega, List.getElem?_append_left h2]
    exact h1
  simpa using h3

end
end
end GL

