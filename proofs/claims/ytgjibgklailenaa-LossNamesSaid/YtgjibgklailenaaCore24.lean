/- Own library, part 24: functions that are handed on, by what they answer. -/
import Derived.Test.YtgjibgklailenaaCore23
namespace GL
open Go

theorem All2.app {T : List Nat} {g : Gh} {w : World} : ∀ (ss ss' : List Shape) (vs vs' : List Value), All2 T g w ss vs → All2 T g w ss' vs' → All2 T g w (ss ++ ss') (vs ++ vs')
  | [], _, [], _, _, k => k
  | s :: ss, ss', v :: vs, vs', h, k => ⟨h.1, All2.app ss ss' vs vs' h.2 k⟩
  | [], _, _ :: _, _, h, _ => h.elim
  | _ :: _, _, [], _, h, _ => h.elim
theorem AllP.all2 {T : List Nat} {g : Gh} {w : World} : ∀ (ss : List Shape) (vs : List Value), AllP g w (ss.map fun s => s.f (cst T)) vs → All2 T g w ss vs
  | [], vs, h => by rw [show vs = [] from h]; trivial
  | s :: ss, vs, h => by
    obtain ⟨v, vr, rfl, h1, h2⟩ := h
    exact ⟨h1, AllP.all2 ss vr h2⟩
theorem All2.later {T : List Nat} {g : Gh} {w w' : World} (hs : w.heap.size ≤ w'.heap.size) (hk : ∀ b, b < w.heap.size → g.om b ∈ T → w'.heap[b]? = w.heap[b]?) {g' : Gh} {T' : List Nat}
    (ht : ∀ b, b < w'.heap.size → g.om b ∈ T → g'.om b ∈ T') : ∀ (ss : List Shape) (vs : List Value), All2 T g w ss vs → All2 T' g' w' ss vs
  | [], [], _ => trivial
  | s :: ss, v :: vs, h => ⟨s.re (cst T) (cst T') g g' v w' (fun _ b hb h => ht b hb h) (s.keep hs (fun b hb ⟨_, h⟩ => hk b hb h) h.1), All2.later hs hk ht ss vs h.2⟩
  | [], _ :: _, h => h.elim
  | _ :: _, [], h => h.elim

/-- A function's value, by what calls of it answer: r; its arguments' shapes by x. -/
def FnRel (P : Program) {A β : Type} [Rp β] (pre : A → List Shape) (f : A → Option β) (F : Nat → Prop) (v : Value) (w : World) : Prop :=
  ∃ k us cs, v = .func (.func k) us cs ∧ enters P k = true ∧ ∀ (x : A) (r : β), f x = some r → ∀ (w' : World) (g' : Gh) (T : List Nat) (xs : List Value), w.heap.size ≤ w'.heap.size →
    (∀ b, b < w.heap.size → F b → w'.heap[b]? = w.heap[b]?) → All2 T g' w' (pre x) xs → Calls P k (us ++ xs.toArray ++ cs) w' (fun e w'' => ∃ rv, e = .returned rv ∧ Fr NoC w' w'' ∧ Rep (fun _ => False) r rv w'')
theorem FnRel.stab {P : Program} {A β : Type} [Rp β] {pre : A → List Shape} {f : A → Option β} {F F' : Nat → Prop} {v : Value} {w w' : World} (hs : w.heap.size ≤ w'.heap.size)
    (hk : ∀ b, b < w.heap.size → F b → w'.heap[b]? = w.heap[b]? ∧ F' b) (h : FnRel P pre f F v w) : FnRel P pre f F' v w' := by
  obtain ⟨k, us, cs, hv, he, hc⟩ := h
  refine ⟨k, us, cs, hv, he, fun x r hr w'' g' T xs hs' hk' ha => hc x r hr w'' g' T xs (Nat.le_trans hs hs') (fun b hb hF => ?_) ha⟩
  rw [hk' b (Nat.lt_of_lt_of_le hb hs) (hk b hb hF).2]
  exact (hk b hb hF).1

def Fact.fn (P : Program) {A β : Type} [Rp β] (pre : A → List Shape) (T : List Nat) (f : A → Option β) : Fact where
  tags := T
  ids := []
  p := fun g v w => FnRel P pre f (fun b => g.om b ∈ T) v w
  stab := fun g g' v w w' hk h => FnRel.stab hk.size (fun b hb ht => ⟨(hk.block b hb ht).1, by rw [(hk.block b hb ht).2]; exact ht⟩) h
def Shape.fn (P : Program) {A β : Type} [Rp β] (pre : A → List Shape) (c : Nat) (f : A → Option β) : Shape where
  f := fun T => Fact.fn P pre (T c) f
  tg := fun _ _ h => ⟨c, h⟩
  idn := fun _ => rfl
  re := fun T T' g g' v w hk h => FnRel.stab (Nat.le_refl _) (fun b hb ht => ⟨rfl, hk c b hb ht⟩) h

def pre1 {α : Type} [Rp α] (x : α) : List Shape := [.rep 0 x]
def pre2 {α β : Type} [Rp α] [Rp β] (x : α × β) : List Shape := [.rep 0 x.1, .rep 0 x.2]

/-- Facts, each turned. -/
def CvF (G : List It) : List Fact → List Fact → Prop
  | [], [] => True
  | f :: fs, m :: ms => Cv G f m ∧ CvF G fs ms
  | _, _ => False
theorem CvF.nil {G : List It} : CvF G [] [] := trivial
theorem CvF.cons {G : List It} {f f' : Fact} {fs ms : List Fact} (h : Cv G f f') (k : CvF G fs ms) : CvF G (f :: fs) (f' :: ms) := ⟨h, k⟩
theorem CvF.all {G : List It} {a : Act} {w : World} {g : Gh} (hf : Facts G g a w) : ∀ (fs ms : List Fact) (vs : List Value), CvF G fs ms → AllP g w fs vs → AllP g w ms vs
  | [], [], _, _, h => h
  | f :: fs, m :: ms, vs, hc, h => by
    obtain ⟨v, vr, rfl, h1, h2⟩ := h
    exact ⟨v, vr, rfl, hc.1 a w g v hf h1, CvF.all hf fs ms vr hc.2 h2⟩
  | [], _ :: _, _, hc, _ => hc.elim
  | _ :: _, [], _, hc, _ => hc.elim

theorem Cv.fn {G : List It} {P : Program} {A β : Type} [R : Rp β] [Fl : Flat β] {pre : A → List Shape} {T : List Nat} {f : A → Option β} {k : FuncId} {fs cs : List Fact} {pu pc : List Shape} {shc : List Nat} (hk : enters P k = true)
    (hu : CvF G fs (pu.map fun s => s.f (cst T))) (hcs : CvF G cs (pc.map fun s => s.f (cst T)))
    (hc : ∀ (x : A) (r : β), f x = some r → Ctr P k (pu ++ (pre x ++ pc)) (.fl r) shc) : Cv G (.fnv k fs cs) (Fact.fn P pre T f) := fun a w g v hf hp => by
  obtain ⟨us, vs, hv, h1, h2⟩ := hp
  have h1 := (CvF.all hf _ _ _ hu h1).all2
  have h2 := (CvF.all hf _ _ _ hcs h2).all2
  refine ⟨k, us.toArray, vs.toArray, hv, hk, fun x r hr w' g' T' xs hs hkp ha => ?_⟩
  classical
  let g2 : Gh := ⟨fun b => if (b < w.heap.size ∧ g.om b ∈ T) ∨ g'.om b ∈ T' then 0 else 1, g.ga⟩
  have e1 : ∀ ss vs, All2 T g w ss vs → All2 [0] g2 w' ss vs := fun ss vs h => by
    let g1 : Gh := ⟨fun b => if b < w.heap.size ∧ g.om b ∈ T then 0 else 1, g.ga⟩
    have h0 : All2 [0] g1 w ss vs := All2.later (Nat.le_refl _) (fun _ _ _ => rfl) (fun b hb hT => by simp [g1, hb, hT]) ss vs h
    refine All2.later (T := [0]) (g := g1) hs (fun b hb h => ?_) (fun b hb h => ?_) ss vs h0
    · simp only [g1, List.mem_singleton] at h
      split at h
      · rename_i h'; exact hkp b hb h'.2
      · cases h
    · simp only [g1, List.mem_singleton] at h
      split at h
      · rename_i h'; simp [g2, h']
      · cases h
  have e2 : All2 [0] g2 w' (pre x) xs := All2.later (Nat.le_refl _) (fun _ _ _ => rfl) (fun b _ h => by simp [g2, h]) _ _ ha
  have hall := All2.app _ _ _ _ (e1 pu us h1) (All2.app _ _ _ _ e2 (e1 pc vs h2))
  have harr : (us ++ (xs ++ vs)).toArray = us.toArray ++ xs.toArray ++ vs.toArray := by apply Array.toList_inj.1; simp
  have := hc x r hr w' g2 [0] _ hall
  rw [harr] at this
  refine this.mono ?_
  rintro e w'' ⟨rv, rfl, hfr, cls, hp⟩
  obtain ⟨cc, h3, h4⟩ := hp (cst [0]) ⟨fun _ => 0, fun _ => undef⟩ (fun b _ _ => by simp [cst]) (fun b c _ _ _ => by simp [cst])
  exact ⟨rv, rfl, hfr, cc, Fl.flat _ _ _ _ _ _ h3, h4⟩

section
variable {X : Cx} {G : List It} {d : Option Nat} {ty : TypeId} {pos : String} {af : Array Edge} {gd : Option (Nat × Bool)}
theorem Spec.callFn {A β : Type} [R : Rp β] {pre : A → List Shape} {f : A → Option β} {y : Operand} {xs : List Operand} {x : A} {r : β} {ats : Array TypeId} {T : List Nat} (T' : List Nat) (t : Nat) (ht : Nat.ble 10 t = true)
    (hr : f x = some r) (hy : Has G y (Fact.fn X.P pre T f)) (hx : HasAll G T' xs (pre x)) :
    Spec X G ⟨d, .call { callee := .value y, args := xs.toArray, argTypes := ats }, ty, pos, af, gd⟩ (Fact.rep [] r) := fun a w g hs hfr hg hf K Q hK => by
  have ht' : 10 ≤ t := by simpa using ht
  obtain ⟨k, us, cs, hv, hk, hc⟩ := hy a w g hf
  have hcall := hc x r hr w g T' _ (Nat.le_refl _) (fun _ _ _ => rfl) (hx.all2 hf)
  have hrun : (execOp a.eval ⟨d, .call { callee := .value y, args := xs.toArray, argTypes := ats }, ty, pos, af, gd⟩).run X.P w = .ok (.enter k (us ++ (xs.map a.eval).toArray ++ cs)) w := by
    unfold execOp
    simp [resolve, Deferred.ofValue, hv, invoke, run_enter hk]
  unfold Oper.wp
  rw [hrun]
  refine Calls.mono hcall ?_
  rintro e w' ⟨v, rfl, hw, hp⟩
  exact hK v w' ⟨hw, GL.tagNew g w.heap.size t, hg.tagNew ht' hw.size hfr.size, fun b hb => by simp [GL.tagNew, hb], fun _ => rfl, Rep.mono hp (fun _ _ h => h.elim)⟩
theorem Has.func {k : FuncId} : Has G (.func k) (.fnv k [] []) := fun _ _ _ _ => ⟨[], [], rfl, rfl, rfl⟩
end
end GL
