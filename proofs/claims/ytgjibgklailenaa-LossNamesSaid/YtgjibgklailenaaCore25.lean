/- Own library, part 25: regions that draw their order, with operations on own memory. -/
import Derived.Test.YtgjibgklailenaaCore24
namespace GL
open Go

/-! ### lists of what is known, compared -/
def Dom (H H' : List It) : Prop := ∀ K I s f, lookK H' K I s = some f → (∀ g v w, f.p g v w) ∨ lookK H K I s = some f
theorem Dom.refl {H : List It} : Dom H H := fun _ _ _ _ h => .inr h
theorem Dom.trans {A B C : List It} (h : Dom A B) (k : Dom B C) : Dom A C := fun K I s f hl => by
  rcases k K I s f hl with h1 | h1
  · exact .inl h1
  · exact h K I s f h1
theorem Dom.sub {H H' : List It} (h : Dom H H') : Sub H H' := fun a w g hf s f hl => by
  rcases h [] [] s f hl with h1 | h1
  · exact h1 _ _ _
  · exact hf s f h1
theorem Dom.cons1 {H H' : List It} (x : It) (h : Dom H H') : Dom (x :: H) (x :: H') := fun K I s f hl => by
  cases x with
  | fact d f0 =>
    simp only [lookK] at hl ⊢
    cases hb : Nat.beq d s with
    | true => rw [hb] at hl; exact .inr hl
    | false => rw [hb] at hl; exact h K I s f hl
  | kill t => exact h (t :: K) I s f hl
  | killId t => exact h K (t :: I) s f hl
theorem Dom.app {H H' : List It} (h : Dom H H') : ∀ x : List It, Dom (x ++ H) (x ++ H')
  | [] => h
  | a :: x => Dom.cons1 a (Dom.app h x)

def weakI : List It → List It
  | [] => []
  | .fact d _ :: l => .fact d Fact.top :: weakI l
  | .kill t :: l => .kill t :: weakI l
  | .killId t :: l => .killId t :: weakI l
theorem Dom.weak1 {H H' : List It} (h : Dom H H') : ∀ x : List It, Dom H (weakI x ++ H')
  | [] => h
  | .fact d f0 :: x => fun K I s f hl => by
    simp only [weakI, List.cons_append, lookK] at hl
    cases hb : Nat.beq d s with
    | true =>
      simp only [hb, cond_true] at hl
      left
      cases hc : (disj Fact.top.tags K && disj Fact.top.ids I) with
      | true => simp only [hc, cond_true, Option.some.injEq] at hl; subst hl; exact fun _ _ _ => trivial
      | false => simp [hc] at hl
    | false => simp only [hb, cond_false] at hl; exact Dom.weak1 h x K I s f hl
  | .kill t :: x => fun K I s f hl => by
    rcases Dom.weak1 h x (t :: K) I s f hl with h1 | h1
    · exact .inl h1
    · exact .inr (lookK_sub H _ _ _ _ s f (fun _ hx => List.mem_cons_of_mem _ hx) (fun _ hx => hx) h1)
  | .killId t :: x => fun K I s f hl => by
    rcases Dom.weak1 h x K (t :: I) s f hl with h1 | h1
    · exact .inl h1
    · exact .inr (lookK_sub H _ _ _ _ s f (fun _ hx => hx) (fun _ hx => List.mem_cons_of_mem _ hx) h1)
theorem Dom.weak2 {H H' : List It} (h : Dom H H') : ∀ x : List It, Dom (x ++ H) (weakI x ++ H')
  | [] => h
  | .fact d f0 :: x => fun K I s f hl => by
    simp only [weakI, List.cons_append, lookK] at hl ⊢
    cases hb : Nat.beq d s with
    | true =>
      simp only [hb, cond_true] at hl
      left
      cases hc : (disj Fact.top.tags K && disj Fact.top.ids I) with
      | true => simp only [hc, cond_true, Option.some.injEq] at hl; subst hl; exact fun _ _ _ => trivial
      | false => simp [hc] at hl
    | false => simp only [hb, cond_false] at hl ⊢; exact Dom.weak2 h x K I s f hl
  | .kill t :: x => fun K I s f hl => Dom.weak2 h x (t :: K) I s f hl
  | .killId t :: x => fun K I s f hl => Dom.weak2 h x K (t :: I) s f hl

def comm1 : It → It → Bool
  | .fact d _, .fact d' _ => !(Nat.beq d d')
  | .fact _ f, .kill t => !(f.tags.elem t)
  | .fact _ f, .killId t => !(f.ids.elem t)
  | .kill t, .fact _ f => !(f.tags.elem t)
  | .killId t, .fact _ f => !(f.ids.elem t)
  | _, _ => true
theorem disj_cons {l K : List Nat} {t : Nat} (h : l.elem t = false) : disj l (t :: K) = disj l K := by
  have h' : t ∉ l := by simpa using h
  clear h
  induction l with
  | nil => rfl
  | cons a l ih =>
    simp only [List.mem_cons, not_or] at h'
    simp only [disj, ih h'.2]
    have : (t :: K).elem a = K.elem a := by
      rw [Bool.eq_iff_iff]
      simp [Ne.symm h'.1]
    rw [this]
theorem Dom.swap1 {H : List It} (a b : It) (h : comm1 a b = true) : Dom (a :: b :: H) (b :: a :: H) := fun K I s f hl => by
  right
  cases a with
  | fact d fa => cases b with
    | fact d' fb =>
      simp only [comm1, Bool.not_eq_true'] at h
      simp only [lookK] at hl ⊢
      cases h1 : Nat.beq d s with
      | true =>
        cases h2 : Nat.beq d' s with
        | true =>
          have e1 := Nat.eq_of_beq_eq_true h1
          have e2 := Nat.eq_of_beq_eq_true h2
          subst e1 e2; simp at h
        | false => simp only [h1, h2, cond_false, cond_true] at hl ⊢; exact hl
      | false =>
        cases h2 : Nat.beq d' s with
        | true => simp only [h1, h2, cond_false, cond_true] at hl ⊢; exact hl
        | false => simp only [h1, h2, cond_false] at hl ⊢; exact hl
    | kill t =>
      simp only [comm1, Bool.not_eq_true'] at h
      simp only [lookK] at hl ⊢
      cases h1 : Nat.beq d s with
      | true => simp only [h1, cond_true, disj_cons h] at hl ⊢; exact hl
      | false => simp only [h1, cond_false] at hl ⊢; exact hl
    | killId t =>
      simp only [comm1, Bool.not_eq_true'] at h
      simp only [lookK] at hl ⊢
      cases h1 : Nat.beq d s with
      | true => simp only [h1, cond_true, disj_cons h] at hl ⊢; exact hl
      | false => simp only [h1, cond_false] at hl ⊢; exact hl
  | kill t => cases b with
    | fact d f =>
      simp only [comm1, Bool.not_eq_true'] at h
      simp only [lookK] at hl ⊢
      cases h1 : Nat.beq d s with
      | true => simp only [h1, cond_true, disj_cons h] at hl ⊢; exact hl
      | false => simp only [h1, cond_false] at hl ⊢; exact hl
    | kill t' =>
      simp only [lookK] at hl ⊢
      exact lookK_sub H _ _ _ _ s f (fun x hx => by simp at hx ⊢; rcases hx with rfl | rfl | hx <;> simp_all) (fun _ hx => hx) hl
    | killId t' => exact hl
  | killId t => cases b with
    | fact d f =>
      simp only [comm1, Bool.not_eq_true'] at h
      simp only [lookK] at hl ⊢
      cases h1 : Nat.beq d s with
      | true => simp only [h1, cond_true, disj_cons h] at hl ⊢; exact hl
      | false => simp only [h1, cond_false] at hl ⊢; exact hl
    | kill t' => exact hl
    | killId t' =>
      simp only [lookK] at hl ⊢
      exact lookK_sub H _ _ _ _ s f (fun _ hx => hx) (fun x hx => by simp at hx ⊢; rcases hx with rfl | rfl | hx <;> simp_all) hl
def commB (x y : List It) : Bool := x.all fun a => y.all fun b => comm1 a b
theorem Dom.swapL {H : List It} (a : It) : ∀ y : List It, (y.all fun b => comm1 a b) = true → Dom (a :: (y ++ H)) (y ++ a :: H)
  | [], _ => Dom.refl
  | b :: y, h => by
    simp only [List.all_cons, Bool.and_eq_true] at h
    exact Dom.trans (Dom.swap1 a b h.1) (Dom.cons1 b (Dom.swapL a y h.2))
theorem Dom.swap {H : List It} (y : List It) : ∀ x : List It, commB x y = true → Dom (x ++ (y ++ H)) (y ++ (x ++ H))
  | [], _ => Dom.refl
  | a :: x, h => by
    simp only [commB, List.all_cons, Bool.and_eq_true] at h
    exact Dom.trans (Dom.cons1 a (Dom.swap y x h.2)) (Dom.swapL a y h.1)

/-! ### the region -/
def isOf (Is : List (List It)) (i : Nat) : List It := (Is[i]?).getD []
def anOf (AH : List (List Nat)) (i : Nat) : List Nat := (AH[i]?).getD []
/-- What is known when operations are done. -/
def doneI (Is : List (List It)) (L : Array Bool) (G : List It) : Nat → List It
  | 0 => G
  | n + 1 => if L.getD n false = true then isOf Is n ++ doneI Is L G n else doneI Is L G n
/-- What is surely known ahead of operation i. -/
def ctxM (AH : List (List Nat)) (Is : List (List It)) (G : List It) (i : Nat) : Nat → List It
  | 0 => G
  | n + 1 => bif Nat.beq n i || (anOf AH n).elem i then ctxM AH Is G i n else bif (anOf AH i).elem n then isOf Is n ++ ctxM AH Is G i n else weakI (isOf Is n) ++ ctxM AH Is G i n
def finM (Is : List (List It)) (G : List It) : List It := Is.foldl (fun H I => I ++ H) G

theorem dom_ctx {AH : List (List Nat)} {Is : List (List It)} {G : List It} {L : Array Bool} {i : Nat} (hi : L.getD i false = false) (hanc : ∀ j, j ∈ anOf AH i → L.getD j false = true)
    (hdes : ∀ j, L.getD j false = true → i ∉ anOf AH j) : ∀ n, Dom (doneI Is L G n) (ctxM AH Is G i n)
  | 0 => Dom.refl
  | n + 1 => by
    have ih := dom_ctx (Is := Is) (G := G) hi hanc hdes n
    unfold doneI ctxM
    cases hl : L.getD n false with
    | true =>
      simp only [if_true]
      have h1 : Nat.beq n i = false := by
        cases h : Nat.beq n i with
        | false => rfl
        | true => have := Nat.eq_of_beq_eq_true h; subst this; rw [hi] at hl; cases hl
      have h2 : (anOf AH n).elem i = false := by
        cases h : (anOf AH n).elem i with
        | false => rfl
        | true => exact (hdes n hl (by simpa using h)).elim
      simp only [h1, h2, Bool.or_self, cond_false]
      cases h3 : (anOf AH i).elem n with
      | true => exact Dom.app ih _
      | false => exact Dom.weak2 ih _
    | false =>
      simp only [Bool.false_eq_true, if_false]
      cases h1 : (Nat.beq n i || (anOf AH n).elem i) with
      | true => exact ih
      | false =>
        simp only [cond_false]
        cases h3 : (anOf AH i).elem n with
        | true => have := hanc n (by simpa using h3); rw [hl] at this; cases this
        | false => exact Dom.weak1 ih _

theorem getD_set_f {L : Array Bool} {i n : Nat} (h : i ≠ n) : (L.setIfInBounds i true).getD n false = L.getD n false := by
  simp [Array.getD_eq_getD_getElem?, Array.getElem?_setIfInBounds, h]
theorem getD_set_t {L : Array Bool} {i : Nat} (h : i < L.size) : (L.setIfInBounds i true).getD i false = true := by
  simp [h]
theorem doneI_low {Is : List (List It)} {G : List It} {L : Array Bool} {i : Nat} : ∀ n, n ≤ i → doneI Is (L.setIfInBounds i true) G n = doneI Is L G n
  | 0, _ => rfl
  | n + 1, h => by unfold doneI; rw [getD_set_f (by omega), doneI_low n (by omega)]
theorem dom_set {Is : List (List It)} {G : List It} {L : Array Bool} {i : Nat} (hs : i < L.size) (hi : L.getD i false = false) (hc : ∀ j, i < j → L.getD j false = true → commB (isOf Is i) (isOf Is j) = true) :
    ∀ n, i < n → Dom (isOf Is i ++ doneI Is L G n) (doneI Is (L.setIfInBounds i true) G n)
  | 0, h => by omega
  | n + 1, h => by
    by_cases hin : i = n
    · subst hin
      unfold doneI
      rw [getD_set_t hs, hi, doneI_low i (Nat.le_refl _)]
      exact Dom.refl
    · have ih := dom_set (G := G) hs hi hc n (by omega)
      unfold doneI
      rw [getD_set_f hin]
      cases hl : L.getD n false with
      | true => exact Dom.trans (Dom.swap _ _ (hc n (by omega) hl)) (Dom.app ih _)
      | false => exact ih

def validM (ops : Array Oper) (AH : List (List Nat)) (Is : List (List It)) : Bool :=
  (AH.length == ops.size) && (Is.length == ops.size) &&
  ((List.range ops.size).all fun i =>
    ((anOf AH i).all fun j => Nat.blt j i && (((ops[i]?).map fun o => o.after.toList.any fun e => Region.binds .any e && (Nat.beq e.on j || (anOf AH e.on).elem j)).getD false)) &&
    (((ops[i]?).map fun o => o.after.toList.all fun e => !Region.binds .any e || Nat.blt e.on i).getD false) &&
    ((List.range i).all fun j => (anOf AH i).elem j || commB (isOf Is j) (isOf Is i)))

structure VMOk (ops : Array Oper) (AH : List (List Nat)) (Is : List (List It)) : Prop where
  islen : Is.length = ops.size
  anc : ∀ i o, ops[i]? = some o → ∀ j, j ∈ anOf AH i → j < i ∧ ∃ e ∈ o.after, Region.binds .any e = true ∧ (e.on = j ∨ j ∈ anOf AH e.on)
  after : ∀ i o, ops[i]? = some o → ∀ e ∈ o.after, Region.binds .any e = true → e.on < i
  pair : ∀ i j, i < ops.size → j < i → j ∈ anOf AH i ∨ commB (isOf Is j) (isOf Is i) = true

theorem validM_spec {ops : Array Oper} {AH : List (List Nat)} {Is : List (List It)} (h : validM ops AH Is = true) : VMOk ops AH Is := by
  unfold validM at h
  simp only [Bool.and_eq_true] at h
  obtain ⟨⟨_, h2⟩, h4⟩ := h
  have get : ∀ i o, ops[i]? = some o → i < ops.size := fun i o ho => (Array.getElem?_eq_some_iff.1 ho).1
  refine ⟨by simpa using h2, ?_, ?_, ?_⟩
  · intro i o ho j hj
    have h5 := List.all_eq_true.1 h4 i (List.mem_range.2 (get i o ho))
    simp only [Bool.and_eq_true] at h5
    have h6 := List.all_eq_true.1 h5.1.1 j hj
    simp only [ho, Option.map_some, Option.getD_some, Bool.and_eq_true, List.any_eq_true] at h6
    obtain ⟨h7, e, he, hb, hor⟩ := h6
    simp only [Bool.or_eq_true] at hor
    refine ⟨by simpa using h7, e, by simpa using he, hb, ?_⟩
    rcases hor with h | h
    · exact .inl (Nat.eq_of_beq_eq_true h)
    · exact .inr (by simpa using h)
  · intro i o ho e he hb
    have h5 := List.all_eq_true.1 h4 i (List.mem_range.2 (get i o ho))
    simp only [Bool.and_eq_true] at h5
    have h6 := h5.1.2
    simp only [ho, Option.map_some, Option.getD_some] at h6
    have h7 := List.all_eq_true.1 h6 e (by simpa using he)
    rw [hb] at h7
    simpa using h7
  · intro i j hi hj
    have h5 := List.all_eq_true.1 h4 i (List.mem_range.2 hi)
    simp only [Bool.and_eq_true] at h5
    have h6 := List.all_eq_true.1 h5.2 j (List.mem_range.2 hj)
    simp only [Bool.or_eq_true] at h6
    rcases h6 with h | h
    · exact .inl (by simpa using h)
    · exact .inr h

section
variable {X : Cx} {G : List It} {Q : Exit → Act → World → Prop}

/-- One operation of such a region, with its guard. -/
def StepG (X : Cx) (ops : Array Oper) (G : List It) (o : Oper) (I : List It) : Prop := ∀ G', Sub G' G → ∀ a w, Env X G' a w →
  (Region.wanted o (yielded ops a.tmps) = true → Yields X.P o a w (fun v w' => Env X (I ++ G') (a.put o.dst v) w')) ∧
  (Region.wanted o (yielded ops a.tmps) = false → Env X (I ++ G') (a.put o.dst undef) w)
theorem StepG.st {ops : Array Oper} {d : Option Nat} {op : Op} {ty : TypeId} {pos : String} {af : Array Edge} {I : List It} (h : Step X G ⟨d, op, ty, pos, af, none⟩ I) : StepG X ops G ⟨d, op, ty, pos, af, none⟩ I :=
  fun G' hs a w e => ⟨fun _ => h G' hs a w e, fun hw => by simp [Region.wanted] at hw⟩
theorem Step.spec {d : Nat} {op : Op} {ty : TypeId} {pos : String} {af : Array Edge} {gd : Option (Nat × Bool)} {f : Fact} (hd : Nat.blt d X.n = true) (h : Spec X G ⟨some d, op, ty, pos, af, gd⟩ f) : Step X G ⟨some d, op, ty, pos, af, gd⟩ [.fact d f] :=
  fun G' hs a w e K Q hK => by
    obtain ⟨g, hg, hf⟩ := e.facts
    exact h a w g e.size e.fr hg (hs a w g hf) K Q (fun v w' ⟨hw, g', hg', hom, hga, hp⟩ => hK v w' (Env.put (by simpa [Nat.blt_eq] using hd) e.size e.defers e.fr hf hw hg' hom hga hp))
theorem StepG.op {ops : Array Oper} {d : Nat} {op : Op} {ty : TypeId} {pos : String} {af : Array Edge} {f : Fact} (hd : Nat.blt d X.n = true) (h : Spec X G ⟨some d, op, ty, pos, af, none⟩ f) : StepG X ops G ⟨some d, op, ty, pos, af, none⟩ [.fact d f] :=
  StepG.st (Step.spec hd h)
theorem StepG.ofOk {ops : Array Oper} {o : Oper} {d : Nat} {f : Fact} (hdst : o.dst = some d) (hd : Nat.blt d X.n = true) (h : OpOk X ops G o f) : StepG X ops G o [.fact d f] :=
  fun G' hs a w e => by
    obtain ⟨g, hg, hf⟩ := e.facts
    have hd' : d < X.n := by simpa [Nat.blt_eq] using hd
    obtain ⟨h1, h2⟩ := h a w g e.size e.fr hg (hs a w g hf)
    refine ⟨fun hw K Q hK => ?_, fun hw => ?_⟩
    · exact h1 hw K Q (fun v w' ⟨hw, g', hg', hom, hga, hp⟩ => hK v w' (by rw [hdst]; exact Env.put hd' e.size e.defers e.fr hf hw hg' hom hga hp))
    · rw [hdst]; exact Env.put hd' e.size e.defers e.fr hf (Fr.refl _ _) hg (fun _ _ => rfl) (fun _ => rfl) (h2 hw)
theorem StepG.opg {ops : Array Oper} {d j dj : Nat} {want b : Bool} {T : List Nat} {op : Op} {ty : TypeId} {pos : String} {af : Array Edge} {f : Fact} (hd : Nat.blt d X.n = true)
    (hj : (ops[j]?).bind (·.dst) = some dj) (hb : look G dj = some (Fact.rep T b)) (h : b = want → Spec X G ⟨some d, op, ty, pos, af, some (j, want)⟩ f) : StepG X ops G ⟨some d, op, ty, pos, af, some (j, want)⟩ [.fact d (f.under (b = want))] :=
  StepG.ofOk rfl hd (OpOk.opg hj hb h)
theorem StepG.opgu {ops : Array Oper} {d j dj : Nat} {want b : Bool} {c : Prop} {T : List Nat} {op : Op} {ty : TypeId} {pos : String} {af : Array Edge} {f : Fact} (hd : Nat.blt d X.n = true)
    (hj : (ops[j]?).bind (·.dst) = some dj) (hb : look G dj = some ((Fact.rep T b).under c)) (h : c ∧ b = want → Spec X G ⟨some d, op, ty, pos, af, some (j, want)⟩ f) : StepG X ops G ⟨some d, op, ty, pos, af, some (j, want)⟩ [.fact d (f.under (c ∧ b = want))] :=
  StepG.ofOk rfl hd (OpOk.opgu hj hb h)

def AllM (X : Cx) (ops : Array Oper) (AH : List (List Nat)) (Is : List (List It)) (G : List It) (n : Nat) : List Oper → Nat → Prop
  | [], _ => True
  | o :: l, i => StepG X ops (ctxM AH Is G i n) o (isOf Is i) ∧ AllM X ops AH Is G n l (i + 1)
theorem AllM.nil {ops : Array Oper} {AH : List (List Nat)} {Is : List (List It)} {n k : Nat} : AllM X ops AH Is G n [] k := trivial
theorem AllM.cons {ops : Array Oper} {AH : List (List Nat)} {Is : List (List It)} {n k : Nat} {o : Oper} {l : List Oper} (h : StepG X ops (ctxM AH Is G k n) o (isOf Is k)) (r : AllM X ops AH Is G n l (k + 1)) : AllM X ops AH Is G n (o :: l) k := ⟨h, r⟩
theorem AllM.get {ops : Array Oper} {AH : List (List Nat)} {Is : List (List It)} {n : Nat} : ∀ (l : List Oper) (k : Nat), AllM X ops AH Is G n l k → ∀ (i : Nat) (o : Oper), l[i]? = some o → StepG X ops (ctxM AH Is G (k + i) n) o (isOf Is (k + i))
  | [], _, _, i, o, h => by simp at h
  | x :: l, k, hall, i, o, h => by
    cases i with
    | zero => simp at h; subst h; exact hall.1
    | succ i =>
      have := AllM.get l (k + 1) hall.2 i o (by simpa using h)
      rwa [show k + 1 + i = k + (i + 1) by omega] at this

structure DInvM (X : Cx) (ops : Array Oper) (AH : List (List Nat)) (Is : List (List It)) (G : List It) (L : Array Bool) (a : Act) (w : World) : Prop where
  env : Env X (doneI Is L G ops.size) a w
  lsize : L.size = ops.size
  anc : ∀ i, i < ops.size → L.getD i true = true → ∀ j, j ∈ anOf AH i → L.getD j true = true

theorem getD_tf {L : Array Bool} {i : Nat} (hi : i < L.size) (b c : Bool) : L.getD i b = L.getD i c := by
  simp [Array.getD_eq_getD_getElem?, hi]
theorem ready_ofM {ops : Array Oper} {AH : List (List Nat)} {Is : List (List It)} (hv : VMOk ops AH Is) {L : Array Bool} (hs : L.size = ops.size) (h : unl ops L ≠ 0) : Region.ready .any ops L ≠ [] := by
  unfold unl at h
  have hex : ∃ i, i < ops.size ∧ L.getD i true = false := by
    obtain ⟨i, hi, hp⟩ := List.countP_pos_iff.1 (Nat.pos_of_ne_zero h)
    exact ⟨i, List.mem_range.1 hi, by simpa using hp⟩
  have hleast : ∀ n : Nat, (∃ i, i ≤ n ∧ i < ops.size ∧ L.getD i true = false) → ∃ i, (i < ops.size ∧ L.getD i true = false) ∧ ∀ j, j < i → L.getD j true = true := by
    intro n
    induction n with
    | zero =>
      rintro ⟨i, h1, h2, h3⟩
      have : i = 0 := by omega
      subst this
      exact ⟨0, ⟨h2, h3⟩, fun j hj => by omega⟩
    | succ n ih =>
      rintro ⟨i, h1, h2, h3⟩
      by_cases hlow : ∃ i, i ≤ n ∧ i < ops.size ∧ L.getD i true = false
      · exact ih hlow
      · refine ⟨i, ⟨h2, h3⟩, fun j hj => ?_⟩
        cases hc : L.getD j true with
        | true => rfl
        | false => exact (hlow ⟨j, by omega, by omega, hc⟩).elim
  obtain ⟨i0, h1, h2⟩ := hex
  obtain ⟨i, ⟨h3, h4⟩, hmin⟩ := hleast i0 ⟨i0, Nat.le_refl _, h1, h2⟩
  have : i ∈ Region.ready .any ops L := by
    refine mem_ready.2 ⟨h4, ops[i], Array.getElem?_eq_getElem h3, fun e he hb => ?_⟩
    have := hv.after i _ (Array.getElem?_eq_getElem h3) e he hb
    have h5 := hmin e.on this
    rw [← h5]
    exact getD_tf (by rw [hs]; omega) _ _
  intro hn
  rw [hn] at this
  cases this

theorem wpAny_M {ops : Array Oper} {AH : List (List Nat)} {Is : List (List It)} (hv : VMOk ops AH Is)
    (hok : ∀ (i : Nat) (o : Oper), ops[i]? = some o → StepG X ops (ctxM AH Is G i ops.size) o (isOf Is i))
    (hQ : ∀ L a w, DInvM X ops AH Is G L a w → unl ops L = 0 → Q .normal a w) :
    ∀ (fuel : Nat) (L : Array Bool) (a : Act) (w : World), DInvM X ops AH Is G L a w → unl ops L = fuel → wpAny X.P .any ops Q fuel L a w := by
  intro fuel
  induction fuel with
  | zero =>
    intro L a w inv hu
    refine ⟨?_, hQ L a w inv hu⟩
    cases hr : Region.ready .any ops L with
    | nil => rfl
    | cons x l =>
      have hx : x ∈ Region.ready .any ops L := by rw [hr]; exact List.mem_cons_self
      obtain ⟨h1, o, ho, _⟩ := mem_ready.1 hx
      have := unl_zero hu x (Array.getElem?_eq_some_iff.1 ho).1
      rw [this] at h1; cases h1
  | succ fuel ih =>
    intro L a w inv hu
    refine ⟨fun h => (ready_ofM hv inv.lsize (by omega) h).elim, fun i hi => ?_⟩
    obtain ⟨h1, o, ho, hall⟩ := mem_ready.1 hi
    have hi' : i < ops.size := (Array.getElem?_eq_some_iff.1 ho).1
    have hiL : i < L.size := by rw [inv.lsize]; exact hi'
    have h1f : L.getD i false = false := by rw [getD_tf hiL false true]; exact h1
    have hanc : ∀ j, j ∈ anOf AH i → L.getD j true = true := by
      intro j hj
      obtain ⟨hji, e, he, hb, hor⟩ := hv.anc i o ho j hj
      have hon := hall e he hb
      have hlt := hv.after i o ho e he hb
      have hon' : L.getD e.on true = true := getD_ff (by rw [inv.lsize]; omega) hon
      rcases hor with rfl | hm
      · exact hon'
      · exact inv.anc e.on (by omega) hon' j hm
    have hlt : ∀ j, L.getD j false = true → j < ops.size := fun j hj => by
      rcases Nat.lt_or_ge j L.size with h | h
      · rw [← inv.lsize]; exact h
      · rw [Array.getD_eq_getD_getElem?, Array.getElem?_eq_none h] at hj; cases hj
    have hdes : ∀ j, L.getD j false = true → i ∉ anOf AH j := fun j hj hm => by
      have hjs := hlt j hj
      have := inv.anc j hjs (by rw [getD_tf (by rw [inv.lsize]; exact hjs) true false]; exact hj) i hm
      rw [this] at h1; cases h1
    have hsub : Sub (doneI Is L G ops.size) (ctxM AH Is G i ops.size) := (dom_ctx h1f (fun j hj => by
      have hjs : j < ops.size := by have := (hv.anc i o ho j hj).1; omega
      rw [getD_tf (by rw [inv.lsize]; exact hjs) false true]; exact hanc j hj) hdes ops.size).sub
    have hstep := hok i o ho _ hsub a w inv.env
    have hnext : ∀ v w', Env X (isOf Is i ++ doneI Is L G ops.size) (a.put o.dst v) w' → wpAny X.P .any ops Q fuel (L.setIfInBounds i true) (a.put o.dst v) w' := by
      intro v w' he
      refine ih _ _ _ ⟨he.sub (dom_set hiL h1f (fun j hij hj => ?_) ops.size hi').sub, by simp [inv.lsize], ?_⟩ ?_
      · rcases hv.pair j i (hlt j hj) hij with h | h
        · exact (hdes j hj h).elim
        · exact h
      · intro j hj hlj k hk
        by_cases he : i = j
        · subst he
          have := hanc k hk
          by_cases hik : i = k
          · subst hik; rw [h1] at this; cases this
          · rw [getD_set_ne true hik]; exact this
        · rw [getD_set_ne true he] at hlj
          have := inv.anc j hj hlj k hk
          by_cases hik : i = k
          · subst hik; rw [h1] at this; cases this
          · rw [getD_set_ne true hik]; exact this
      · have := unl_set hi' inv.lsize h1
        omega
    unfold wpOp
    rw [ho]
    simp only []
    cases hw : Region.wanted o (yielded ops a.tmps) with
    | true =>
      simp only [if_true]
      left
      exact hstep.1 hw _ _ (fun v w' he => hnext v w' he)
    | false =>
      simp only [Bool.false_eq_true, if_false]
      exact hnext undef w (hstep.2 hw)

theorem doneI_all {Is : List (List It)} {L : Array Bool} : ∀ n, n ≤ Is.length → (∀ i, i < n → L.getD i false = true) → doneI Is L G n = finM (Is.take n) G
  | 0, _, _ => by simp [doneI, finM]
  | n + 1, hn, h => by
    unfold doneI
    rw [h n (by omega), if_pos rfl, doneI_all n (by omega) (fun i hi => h i (by omega))]
    rw [List.take_succ_eq_append_getElem (by omega)]
    simp only [finM, List.foldl_append, List.foldl_cons, List.foldl_nil]
    congr 1
    simp [isOf, List.getElem?_eq_getElem (show n < Is.length by omega)]
theorem doneI_none {Is : List (List It)} {L : Array Bool} : ∀ n, (∀ i, i < n → L.getD i false = false) → doneI Is L G n = G
  | 0, _ => rfl
  | n + 1, h => by
    unfold doneI
    rw [h n (by omega), if_neg (by simp), doneI_none n (fun i hi => h i (by omega))]

theorem CWalk.drawM {id : Nat} {l : List Oper} (AH : List (List Nat)) (Is : List (List It)) (hm : X.P.follows .mixedOrders = true) (hv : validM l.toArray AH Is = true)
    (hS : AllM X l.toArray AH Is G l.length l 0) (h : Leaf X (finM Is G) Q .normal) (hrd : X.rd = none := by rfl) : CWalk X G (.region id l.toArray true) Q := fun a w env => by
  have hV := validM_spec hv
  rw [Cx.F_none hrd]
  refine wpIn_wide.2 (wp_region_any hm ?_)
  refine wpAny_M (AH := AH) (Is := Is) (G := G) hV ?_ ?_ l.toArray.size (Array.replicate l.toArray.size false) a _ ?_ ?_
  · intro i o ho
    have := AllM.get l 0 hS i o (by simpa using ho)
    simpa using this
  · intro L a' w' inv hu
    have he := inv.env
    rw [doneI_all _ (by rw [hV.islen]; exact Nat.le_refl _) (fun i hi => by rw [getD_tf (by rw [inv.lsize]; exact hi) false true]; exact unl_zero hu i hi)] at he
    rw [← hV.islen, List.take_length] at he
    exact h a' w' he
  · refine ⟨?_, by simp, ?_⟩
    · rw [doneI_none _ (fun i hi => by rw [getD_tf (by simpa using hi) false true]; exact rep_false hi)]
      obtain ⟨g, hg, hf⟩ := env.facts
      refine ⟨env.size, env.defers, env.fr.drew, g, ⟨⟨hg.ok.old, fun b h1 h2 => hg.ok.new b h1 h2⟩, hg.om⟩, fun s f hl => ?_⟩
      exact f.stab g g _ w _ ⟨Nat.le_refl _, fun b _ _ => ⟨rfl, rfl⟩, fun _ _ => rfl⟩ (hf s f hl)
    · intro i hi hl
      rw [rep_false hi] at hl; cases hl
  · unfold unl
    rw [List.countP_eq_length.2]
    · simp
    · intro i hi
      rw [rep_false (List.mem_range.1 hi)]; rfl
end
end GL
