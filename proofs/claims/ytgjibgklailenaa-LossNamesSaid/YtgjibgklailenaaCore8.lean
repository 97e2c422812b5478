/- Own library, part 8: regions that draw their order. -/
import Derived.Test.YtgjibgklailenaaCore7
namespace GL
open Go

def Fact.top : Fact := ⟨[], [], fun _ _ _ => True, fun _ _ _ _ _ _ h => h⟩

def dstOf (ops : Array Oper) (i : Nat) : Nat := ((ops[i]?).bind (·.dst)).getD 0
def ancOf (AH : List (List Nat × List Nat)) (i : Nat) : List Nat := ((AH[i]?).map (·.1)).getD []
def hidOf (AH : List (List Nat × List Nat)) (i : Nat) : List Nat := ((AH[i]?).map (·.2)).getD []
def fOf (fs : List Fact) (i : Nat) : Fact := (fs[i]?).getD Fact.top

/-- Closed: anc: what is surely done ahead of each operation; hid: slots that may have been written. -/
def validB (ops : Array Oper) (AH : List (List Nat × List Nat)) : Bool :=
  (AH.length == ops.size) && (ops.toList.all fun o => o.dst.isSome) && ((List.range ops.size).all fun i => (List.range ops.size).all fun j => Nat.beq i j || !Nat.beq (dstOf ops i) (dstOf ops j)) &&
  ((List.range ops.size).all fun i =>
    ((ancOf AH i).all fun j => Nat.blt j i && (((ops[i]?).map fun o => o.after.toList.any fun e => Region.binds .any e && (Nat.beq e.on j || (ancOf AH e.on).elem j)).getD false)) &&
    (((ops[i]?).map fun o => o.after.toList.all fun e => !Region.binds .any e || Nat.blt e.on i).getD false) &&
    ((List.range ops.size).all fun j => Nat.beq j i || (ancOf AH i).elem j || (ancOf AH j).elem i || (hidOf AH i).elem (dstOf ops j)))

def ctx (ops : Array Oper) (AH : List (List Nat × List Nat)) (fs : List Fact) (G : List It) (i : Nat) : List It :=
  (ancOf AH i).map (fun j => It.fact (dstOf ops j) (fOf fs j)) ++ ((hidOf AH i).map (fun s => It.fact s Fact.top) ++ G)

theorem put_defers (a : Act) (d : Option Nat) (v : Value) : (a.put d v).defers = a.defers := by cases d <;> rfl

section
variable {X : Cx} {G : List It} {Q : Exit → Act → World → Prop}

/-- One operation of such a region: guarded or not. -/
def OpOk (X : Cx) (ops : Array Oper) (G : List It) (o : Oper) (f : Fact) : Prop := ∀ a w g, a.tmps.size = X.n → Fr X.C X.w0 w → GhE X w g → Facts G g a w →
  (Region.wanted o (yielded ops a.tmps) = true → Yields X.P o a w (fun v w' => Fr NoC w w' ∧ ∃ g', GhE X w' g' ∧ (∀ b, b < w.heap.size → g'.om b = g.om b) ∧ (∀ t, g'.ga t = g.ga t) ∧ f.p g' v w')) ∧
  (Region.wanted o (yielded ops a.tmps) = false → f.p g undef w)

theorem OpOk.op {ops : Array Oper} {d : Option Nat} {op : Op} {ty : TypeId} {pos : String} {af : Array Edge} {f : Fact} (h : Spec X G ⟨d, op, ty, pos, af, none⟩ f) : OpOk X ops G ⟨d, op, ty, pos, af, none⟩ f :=
  fun a w g hs hfr hg hf => ⟨fun _ => h a w g hs hfr hg hf, fun hw => by simp [Region.wanted] at hw⟩
theorem OpOk.opg {ops : Array Oper} {d : Option Nat} {j dj : Nat} {want b : Bool} {T : List Nat} {op : Op} {ty : TypeId} {pos : String} {af : Array Edge} {f : Fact}
    (hj : (ops[j]?).bind (·.dst) = some dj) (hb : look G dj = some (Fact.rep T b)) (h : b = want → Spec X G ⟨d, op, ty, pos, af, some (j, want)⟩ f) : OpOk X ops G ⟨d, op, ty, pos, af, some (j, want)⟩ (f.under (b = want)) :=
  fun a w g hs hfr hg hf => by
    have hy := yielded_of hj (rep_bool.1 (hf dj _ hb))
    simp only [Region.wanted, hy]
    by_cases hw : b = want
    · subst hw
      refine ⟨fun _ => ?_, fun h => by simp at h⟩
      intro K Q hK
      exact h rfl a w g hs hfr hg hf K Q (fun v w' ⟨h1, g', h2, h3, h4, h5⟩ => hK v w' ⟨h1, g', h2, h3, h4, fun _ => h5, fun h => (h rfl).elim⟩)
    · exact ⟨fun h => by simp [hw] at h, fun _ => ⟨fun hc => (hw hc).elim, fun _ => rfl⟩⟩

theorem OpOk.opgu {ops : Array Oper} {d : Option Nat} {j dj : Nat} {want b : Bool} {c : Prop} {T : List Nat} {op : Op} {ty : TypeId} {pos : String} {af : Array Edge} {f : Fact}
    (hj : (ops[j]?).bind (·.dst) = some dj) (hb : look G dj = some ((Fact.rep T b).under c)) (h : c ∧ b = want → Spec X G ⟨d, op, ty, pos, af, some (j, want)⟩ f) : OpOk X ops G ⟨d, op, ty, pos, af, some (j, want)⟩ (f.under (c ∧ b = want)) :=
  fun a w g hs hfr hg hf => by
    have hu := hf dj _ hb
    by_cases hc : c
    · have hy := yielded_of hj (rep_bool.1 (hu.1 hc))
      simp only [Region.wanted, hy]
      by_cases hw : b = want
      · subst hw
        refine ⟨fun _ => ?_, fun h => by simp at h⟩
        intro K Q hK
        exact h ⟨hc, rfl⟩ a w g hs hfr hg hf K Q (fun v w' ⟨h1, g', h2, h3, h4, h5⟩ => hK v w' ⟨h1, g', h2, h3, h4, fun _ => h5, fun h => (h ⟨hc, rfl⟩).elim⟩)
      · exact ⟨fun h => by simp [hw] at h, fun _ => ⟨fun hc => (hw hc.2).elim, fun _ => rfl⟩⟩
    · have hy : (yielded ops a.tmps j == some want) = false := by
        have h1 : a.tmps.getD dj undef = undef := hu.2 hc
        unfold yielded
        rw [hj]
        simp only [Option.bind_some]
        rw [Array.getD_eq_getD_getElem?] at h1
        cases h2 : a.tmps[dj]? with
        | none => rfl
        | some v => rw [h2] at h1; simp at h1; subst h1; rfl
      simp only [Region.wanted, hy]
      exact ⟨(fun h => by cases h), (fun _ => ⟨fun h => (hc h.1).elim, fun _ => rfl⟩)⟩

def AllOk (X : Cx) (ops : Array Oper) (AH : List (List Nat × List Nat)) (fs : List Fact) (G : List It) : List Oper → Nat → Prop
  | [], _ => True
  | o :: l, i => OpOk X ops (ctx ops AH fs G i) o (fOf fs i) ∧ AllOk X ops AH fs G l (i + 1)

theorem AllOk.get {ops : Array Oper} {AH : List (List Nat × List Nat)} {fs : List Fact} : ∀ (l : List Oper) (k : Nat), AllOk X ops AH fs G l k → ∀ (i : Nat) (o : Oper), l[i]? = some o → OpOk X ops (ctx ops AH fs G (k + i)) o (fOf fs (k + i))
  | [], _, _, i, o, h => by simp at h
  | x :: l, k, hall, i, o, h => by
    cases i with
    | zero => simp at h; subst h; exact hall.1
    | succ i =>
      have := AllOk.get l (k + 1) hall.2 i o (by simpa using h)
      rwa [show k + 1 + i = k + (i + 1) by omega] at this

/-- What holds while some of the operations are done. -/
structure DInv (X : Cx) (ops : Array Oper) (AH : List (List Nat × List Nat)) (fs : List Fact) (G : List It) (L : Array Bool) (a : Act) (w : World) (g : Gh) : Prop where
  size : a.tmps.size = X.n
  defers : a.defers = X.ds
  fr : Fr X.C X.w0 w
  gh : GhE X w g
  lsize : L.size = ops.size
  done : ∀ i, i < ops.size → L.getD i true = true → (fOf fs i).p g (a.tmps.getD (dstOf ops i) undef) w
  rest : ∀ s f, look G s = some f → (∀ j, j < ops.size → L.getD j true = true → dstOf ops j ≠ s) → f.p g (a.tmps.getD s undef) w
  anc : ∀ i, i < ops.size → L.getD i true = true → ∀ j, j ∈ ancOf AH i → L.getD j true = true

def unl (ops : Array Oper) (L : Array Bool) : Nat := (List.range ops.size).countP fun i => !L.getD i true

structure VOk (ops : Array Oper) (AH : List (List Nat × List Nat)) : Prop where
  dst : ∀ i o, ops[i]? = some o → o.dst = some (dstOf ops i)
  nodup : ∀ i j, i < ops.size → j < ops.size → dstOf ops i = dstOf ops j → i = j
  anc : ∀ i o, ops[i]? = some o → ∀ j, j ∈ ancOf AH i → j < i ∧ ∃ e ∈ o.after, Region.binds .any e = true ∧ (e.on = j ∨ j ∈ ancOf AH e.on)
  after : ∀ i o, ops[i]? = some o → ∀ e ∈ o.after, Region.binds .any e = true → e.on < i
  pair : ∀ i j, i < ops.size → j < ops.size → j = i ∨ j ∈ ancOf AH i ∨ i ∈ ancOf AH j ∨ dstOf ops j ∈ hidOf AH i

theorem validB_spec {ops : Array Oper} {AH : List (List Nat × List Nat)} (h : validB ops AH = true) : VOk ops AH := by
  unfold validB at h
  simp only [Bool.and_eq_true] at h
  obtain ⟨⟨⟨_, h2⟩, h3⟩, h4⟩ := h
  have get : ∀ i o, ops[i]? = some o → i < ops.size ∧ o ∈ ops.toList := fun i o ho =>
    ⟨(Array.getElem?_eq_some_iff.1 ho).1, by
      obtain ⟨hi, he⟩ := Array.getElem?_eq_some_iff.1 ho
      rw [← he]; exact Array.mem_toList_iff.2 (Array.getElem_mem hi)⟩
  have all : ∀ i, i < ops.size → _ := fun i hi => List.all_eq_true.1 h4 i (List.mem_range.2 hi)
  refine ⟨?_, ?_, ?_, ?_, ?_⟩
  · intro i o ho
    have := List.all_eq_true.1 h2 o (get i o ho).2
    obtain ⟨d, hd⟩ := Option.isSome_iff_exists.1 this
    unfold dstOf
    rw [ho]; simp [hd]
  · intro i j hi hj he
    have h6 := List.all_eq_true.1 (List.all_eq_true.1 h3 i (List.mem_range.2 hi)) j (List.mem_range.2 hj)
    simp only [Bool.or_eq_true] at h6
    rcases h6 with h | h
    · exact Nat.eq_of_beq_eq_true h
    · rw [he] at h; simp at h
  · intro i o ho j hj
    have h5 := all i (get i o ho).1
    simp only [Bool.and_eq_true] at h5
    have h6 := List.all_eq_true.1 h5.1.1 j hj
    rw [ho] at h6
    simp only [Bool.and_eq_true, Option.map_some, Option.getD_some] at h6
    obtain ⟨h7, h8⟩ := h6
    obtain ⟨e, he, h9⟩ := List.any_eq_true.1 h8
    simp only [Bool.and_eq_true, Bool.or_eq_true] at h9
    refine ⟨by simpa using h7, e, Array.mem_toList_iff.1 he, h9.1, ?_⟩
    rcases h9.2 with h | h
    · exact .inl (Nat.eq_of_beq_eq_true h)
    · exact .inr (by simpa using h)
  · intro i o ho e he hb
    have h5 := all i (get i o ho).1
    simp only [Bool.and_eq_true] at h5
    have h6 := h5.1.2
    rw [ho] at h6
    simp only [Option.map_some, Option.getD_some] at h6
    have := List.all_eq_true.1 h6 e (Array.mem_toList_iff.2 he)
    simpa [hb] using this
  · intro i j hi hj
    have h5 := all i hi
    simp only [Bool.and_eq_true] at h5
    have h6 := List.all_eq_true.1 h5.2 j (List.mem_range.2 hj)
    simp only [Bool.or_eq_true] at h6
    rcases h6 with ((h | h) | h) | h
    · exact .inl (Nat.eq_of_beq_eq_true h)
    · exact .inr (.inl (by simpa using h))
    · exact .inr (.inr (.inl (by simpa using h)))
    · exact .inr (.inr (.inr (by simpa using h)))

theorem getD_lt {L : Array Bool} {i : Nat} (h : L.getD i true = false) : i < L.size := by
  rcases Nat.lt_or_ge i L.size with h' | h'
  · exact h'
  · simp [Array.getElem?_eq_none h'] at h
theorem getD_ff {L : Array Bool} {i : Nat} (hi : i < L.size) (h : L.getD i false = true) : L.getD i true = true := by
  simp [hi] at h ⊢; exact h

theorem unl_set {ops : Array Oper} {L : Array Bool} {i : Nat} (hi : i < ops.size) (hs : L.size = ops.size) (hu : L.getD i true = false) : unl ops L = unl ops (L.setIfInBounds i true) + 1 := by
  unfold unl
  have key : ∀ (l : List Nat), l.Nodup → i ∈ l → l.countP (fun j => !L.getD j true) = l.countP (fun j => !(L.setIfInBounds i true).getD j true) + 1 := by
    intro l
    induction l with
    | nil => intro _ h; cases h
    | cons x l ih =>
      intro hn hm
      obtain ⟨hx, hn⟩ := List.nodup_cons.1 hn
      simp only [List.countP_cons]
      by_cases he : x = i
      · subst he
        have h1 : l.countP (fun j => !L.getD j true) = l.countP (fun j => !(L.setIfInBounds x true).getD j true) := by
          apply List.countP_congr
          intro j hj
          have hne : x ≠ j := fun h => hx (h ▸ hj)
          rw [getD_set_ne true hne]
        have h2 : (L.setIfInBounds x true).getD x true = true := by
          have : x < L.size := by omega
          simp [this]
        rw [h1, h2, hu]
        simp
      · have hm' : i ∈ l := by
          rcases List.mem_cons.1 hm with h | h
          · exact (he h.symm).elim
          · exact h
        rw [ih hn hm', getD_set_ne true (Ne.symm he)]
        omega
  exact key _ List.nodup_range (List.mem_range.2 hi)

theorem unl_zero {ops : Array Oper} {L : Array Bool} (h : unl ops L = 0) (i : Nat) (hi : i < ops.size) : L.getD i true = true := by
  unfold unl at h
  rw [List.countP_eq_zero] at h
  have := h i (List.mem_range.2 hi)
  simpa using this

theorem ready_of {ops : Array Oper} {AH : List (List Nat × List Nat)} (hv : VOk ops AH) {L : Array Bool} (hs : L.size = ops.size) (h : unl ops L ≠ 0) : Region.ready .any ops L ≠ [] := by
  have hex : ∃ i, i < ops.size ∧ L.getD i true = false := by
    refine Classical.byContradiction fun hn => h ?_
    unfold unl
    rw [List.countP_eq_zero]
    intro i hi
    have hi' := List.mem_range.1 hi
    cases hl : L.getD i true with
    | true => simp
    | false => exact (hn ⟨i, hi', hl⟩).elim
  obtain ⟨i, ⟨hi, hu⟩, hmin⟩ := exists_least hex
  have : i ∈ Region.ready .any ops L := by
    rw [mem_ready]
    refine ⟨hu, ops[i], Array.getElem?_eq_getElem hi, fun e he hb => ?_⟩
    have hlt := hv.after i _ (Array.getElem?_eq_getElem hi) e he hb
    cases hl : L.getD e.on true with
    | true =>
      have hlt2 : e.on < L.size := by omega
      simp [hlt2] at hl ⊢; exact hl
    | false => have := hmin e.on ⟨by omega, hl⟩; omega
  intro hn
  rw [hn] at this
  cases this

theorem wpAny_draw {ops : Array Oper} {AH : List (List Nat × List Nat)} {fs : List Fact} (hv : VOk ops AH) (hd : ∀ i, i < ops.size → dstOf ops i < X.n)
    (hok : ∀ (i : Nat) (o : Oper), ops[i]? = some o → OpOk X ops (ctx ops AH fs G i) o (fOf fs i))
    (hQ : ∀ L a w g, DInv X ops AH fs G L a w g → unl ops L = 0 → Q .normal a w) :
    ∀ (fuel : Nat) (L : Array Bool) (a : Act) (w : World) (g : Gh), DInv X ops AH fs G L a w g → unl ops L = fuel → wpAny X.P .any ops Q fuel L a w := by
  intro fuel
  induction fuel with
  | zero =>
    intro L a w g inv hu
    refine ⟨?_, hQ L a w g inv hu⟩
    cases hr : Region.ready .any ops L with
    | nil => rfl
    | cons x l =>
      have hx : x ∈ Region.ready .any ops L := by rw [hr]; exact List.mem_cons_self
      obtain ⟨h1, o, ho, _⟩ := mem_ready.1 hx
      have := unl_zero hu x (Array.getElem?_eq_some_iff.1 ho).1
      rw [this] at h1; cases h1
  | succ fuel ih =>
    intro L a w g inv hu
    refine ⟨fun h => (ready_of hv inv.lsize (by omega) h).elim, fun i hi => ?_⟩
    obtain ⟨h1, o, ho, hall⟩ := mem_ready.1 hi
    have hi' : i < ops.size := (Array.getElem?_eq_some_iff.1 ho).1
    have hdst := hv.dst i o ho
    -- all ancestors are done
    have hanc : ∀ j, j ∈ ancOf AH i → L.getD j true = true := by
      intro j hj
      obtain ⟨hji, e, he, hb, hor⟩ := hv.anc i o ho j hj
      have hon := hall e he hb
      have hlt := hv.after i o ho e he hb
      have hon' : L.getD e.on true = true := getD_ff (by rw [inv.lsize]; omega) hon
      rcases hor with rfl | hm
      · exact hon'
      · exact inv.anc e.on (by omega) hon' j hm
    -- the facts of its context
    have hfacts : Facts (ctx ops AH fs G i) g a w := by
      have hmid : ∀ (hs : List Nat), (∀ s, s ∈ hidOf AH i → s ∈ hs ∨ ∀ f, look (hs.map (fun s => It.fact s Fact.top) ++ G) s = some f → True) → True := fun _ _ => trivial
      intro s f hl
      unfold ctx at hl
      have hA : ∀ (as : List Nat), (∀ j, j ∈ as → j ∈ ancOf AH i) → ∀ s f, look (as.map (fun j => It.fact (dstOf ops j) (fOf fs j)) ++ ((hidOf AH i).map (fun s => It.fact s Fact.top) ++ G)) s = some f →
          (∃ j, j ∈ as ∧ dstOf ops j = s ∧ f = fOf fs j) ∨ ((∀ j, j ∈ as → dstOf ops j ≠ s) ∧ look ((hidOf AH i).map (fun s => It.fact s Fact.top) ++ G) s = some f) := by
        intro as
        induction as with
        | nil => intro _ s f h; exact .inr ⟨fun j hj => by (cases hj), h⟩
        | cons x as iha =>
          intro hsub s f h
          rw [List.map_cons, List.cons_append] at h
          rcases lookK_nil_spec h with ⟨he, hf⟩ | ⟨hne, h⟩
          · exact .inl ⟨x, List.mem_cons_self, he, hf⟩
          · rcases iha (fun j hj => hsub j (List.mem_cons_of_mem _ hj)) s f h with ⟨j, hj, h2⟩ | ⟨h2, h3⟩
            · exact .inl ⟨j, List.mem_cons_of_mem _ hj, h2⟩
            · refine .inr ⟨fun j hj => ?_, h3⟩
              rcases List.mem_cons.1 hj with rfl | hj
              · exact hne
              · exact h2 j hj
      have hH : ∀ (hs : List Nat) s f, look (hs.map (fun s => It.fact s Fact.top) ++ G) s = some f → f = Fact.top ∨ (s ∉ hs ∧ look G s = some f) := by
        intro hs
        induction hs with
        | nil => intro s f h; exact .inr ⟨by simp, h⟩
        | cons x hs ihh =>
          intro s f h
          rw [List.map_cons, List.cons_append] at h
          rcases lookK_nil_spec h with ⟨_, hf⟩ | ⟨hne, h⟩
          · exact .inl hf
          · rcases ihh s f h with h2 | ⟨h2, h3⟩
            · exact .inl h2
            · exact .inr ⟨by simp [h2, Ne.symm hne], h3⟩
      rcases hA _ (fun _ h => h) s f hl with ⟨j, hj, rfl, rfl⟩ | ⟨hna, hl2⟩
      · have hji := (hv.anc i o ho j hj).1
        exact inv.done j (by omega) (hanc j hj)
      · rcases hH _ s f hl2 with rfl | ⟨hnh, hl3⟩
        · trivial
        · refine inv.rest s f hl3 (fun j hj hlj he => ?_)
          rcases hv.pair i j hi' hj with rfl | h | h | h
          · rw [h1] at hlj; cases hlj
          · exact hna j h he
          · have := inv.anc j hj hlj i h
            rw [h1] at this; cases this
          · rw [he] at h; exact hnh h
    have hspec := hok i o ho a w g inv.size inv.fr inv.gh hfacts
    -- behind the operation
    have hnext : ∀ v w' g', Fr NoC w w' → GhE X w' g' → (∀ b, b < w.heap.size → g'.om b = g.om b) → (∀ t, g'.ga t = g.ga t) → (fOf fs i).p g' v w' →
        wpAny X.P .any ops Q fuel (L.setIfInBounds i true) (a.put o.dst v) w' := by
      intro v w' g' hw hg' hom hga hp
      have hk : ∀ (f : Fact), Keeps f.tags f.ids g g' w w' := fun f => ⟨hw.size, fun b hb _ => ⟨hw.block b hb id, hom b hb⟩, fun t _ => hga t⟩
      have hdi : dstOf ops i < a.tmps.size := by rw [inv.size]; exact hd i hi'
      refine ih _ _ _ g' ⟨?_, (put_defers a o.dst v).trans inv.defers, inv.fr.trans hw (fun _ _ h => h.elim), hg', ?_, ?_, ?_, ?_⟩ ?_
      · rw [hdst]; simp [Act.put, inv.size]
      · simp [inv.lsize]
      · intro j hj hlj
        rw [hdst, Act.getD_put hdi]
        by_cases he : i = j
        · subst he; simp; exact hp
        · rw [getD_set_ne true he] at hlj
          have hne : dstOf ops i ≠ dstOf ops j := fun h => he (hv.nodup i j hi' hj h)
          rw [if_neg hne]
          exact (fOf fs j).stab g g' _ w w' (hk _) (inv.done j hj hlj)
      · intro s f hl hs
        have hi2 : (L.setIfInBounds i true).getD i true = true := by
          have : i < L.size := by rw [inv.lsize]; exact hi'
          simp [this]
        have hne : dstOf ops i ≠ s := hs i hi' hi2
        rw [hdst, Act.getD_put hdi, if_neg hne]
        refine f.stab g g' _ w w' (hk _) (inv.rest s f hl (fun j hj hlj => ?_))
        by_cases he : i = j
        · subst he; exact hne
        · exact hs j hj (by rw [getD_set_ne true he]; exact hlj)
      · intro j hj hlj k hk
        by_cases he : i = j
        · subst he
          have := hanc k hk
          by_cases hik : i = k
          · subst hik; rw [h1] at this; cases this
          · rw [getD_set_ne true hik]; exact this
        · rw [getD_set_ne true he] at hlj
          have := inv.anc j hj hlj k hk
          by_cases hik : i = k
          · subst hik; rw [h1] at this; cases this
          · rw [getD_set_ne true hik]; exact this
      · have := unl_set hi' inv.lsize h1
        omega
    unfold wpOp
    rw [ho]
    simp only []
    cases hw : Region.wanted o (yielded ops a.tmps) with
    | true =>
      simp only [if_true]
      left
      refine hspec.1 hw _ _ (fun v w' ⟨h2, g', h3, h4, h5, h6⟩ => hnext v w' g' h2 h3 h4 h5 h6)
    | false =>
      simp only [Bool.false_eq_true, if_false]
      exact hnext undef w g (Fr.refl _ _) inv.gh (fun _ _ => rfl) (fun _ => rfl) (hspec.2 hw)

def finalG : List Nat → List Fact → List It → List It
  | d :: ds, f :: fs, G => finalG ds fs (.fact d f :: G)
  | _, _, G => G

theorem finalG_look : ∀ (ds : List Nat) (fs : List Fact) (G : List It), fs.length = ds.length → ∀ s f, look (finalG ds fs G) s = some f →
    (∃ i : Nat, ds[i]? = some s ∧ f = fOf fs i) ∨ ((∀ i : Nat, ds[i]? ≠ some s) ∧ look G s = some f)
  | [], _, G, _, s, f, h => .inr ⟨fun i => by simp, by simpa [finalG] using h⟩
  | d :: ds, [], G, hl, _, _, _ => by simp at hl
  | d :: ds, f0 :: fs, G, hl, s, f, h => by
    rcases finalG_look ds fs (.fact d f0 :: G) (by simpa using hl) s f h with ⟨i, hi, hf⟩ | ⟨hno, h⟩
    · exact .inl ⟨i + 1, by simpa using hi, by simpa [fOf] using hf⟩
    · rcases lookK_nil_spec h with ⟨he, hf⟩ | ⟨hne, h⟩
      · exact .inl ⟨0, by simp [he], by simp [fOf, hf]⟩
      · refine .inr ⟨fun i => ?_, h⟩
        cases i with
        | zero => simp; exact hne
        | succ i => simpa using hno i

theorem rep_false {n i : Nat} (hi : i < n) : (Array.replicate n false).getD i true = false := by
  simp [hi]

theorem CWalk.draw {id : Nat} {l : List Oper} (AH : List (List Nat × List Nat)) (ds : List Nat) (fs : List Fact) (hm : X.P.follows .mixedOrders = true) (hv : validB l.toArray AH = true) (hds : l.map (·.dst) = ds.map some)
    (hn : (ds.all fun d => Nat.blt d X.n) = true) (hlen : fs.length = ds.length) (hS : AllOk X l.toArray AH fs G l 0) (h : Leaf X (finalG ds fs G) Q .normal) (hrd : X.rd = none := by rfl) : CWalk X G (.region id l.toArray true) Q := fun a w env => by
  have hV := validB_spec hv
  have hl : ds.length = l.length := by have := congrArg List.length hds; simpa using this.symm
  have hdi : ∀ (i : Nat) (d : Nat), ds[i]? = some d → dstOf l.toArray i = d := fun i d hd => by
    unfold dstOf
    have h1 : (l.map (·.dst))[i]? = some (some d) := by rw [hds]; simp [hd]
    rw [List.getElem?_map] at h1
    simp only [Option.map_eq_some_iff] at h1
    obtain ⟨o, ho, hod⟩ := h1
    simp [ho, hod]
  obtain ⟨g, hg, hf⟩ := env.facts
  rw [Cx.F_none hrd]
  refine wpIn_wide.2 (wp_region_any hm ?_)
  refine wpAny_draw (AH := AH) (fs := fs) (G := G) hV ?_ ?_ ?_ l.toArray.size (Array.replicate l.toArray.size false) a _ g ?_ ?_
  · intro i hi
    have hi2 : i < ds.length := by rw [hl]; simpa using hi
    have := hdi i ds[i] (List.getElem?_eq_getElem hi2)
    rw [this]
    have := List.all_eq_true.1 hn ds[i] (List.getElem_mem hi2)
    simpa using this
  · intro i o ho
    have := AllOk.get l 0 hS i o (by simpa using ho)
    simpa using this
  · intro L a' w' g' inv hu
    have hdone : ∀ i, i < l.length → (fOf fs i).p g' (a'.tmps.getD (dstOf l.toArray i) undef) w' := fun i hi => inv.done i (by simpa using hi) (unl_zero hu i (by simpa using hi))
    refine h a' w' ⟨inv.size, inv.defers, inv.fr, g', inv.gh, ?_⟩
    intro s f hlk
    rcases finalG_look ds fs G hlen s f hlk with ⟨i, hi, rfl⟩ | ⟨hno, hlk⟩
    · have hi2 : i < ds.length := (List.getElem?_eq_some_iff.1 hi).1
      have := hdone i (by rw [← hl]; exact hi2)
      rwa [hdi i s hi] at this
    · refine inv.rest s f hlk (fun j hj _ he => ?_)
      have hj2 : j < ds.length := by rw [hl]; simpa using hj
      have := hdi j ds[j] (List.getElem?_eq_getElem hj2)
      rw [this] at he
      exact hno j (by rw [List.getElem?_eq_getElem hj2, he])
  · refine ⟨env.size, env.defers, env.fr.drew, ⟨⟨hg.ok.old, fun b h1 h2 => hg.ok.new b h1 h2⟩, hg.om⟩, by simp, ?_, ?_, ?_⟩
    · intro i hi hl
      rw [rep_false hi] at hl; cases hl
    · intro s f hl _
      exact f.stab g g _ w _ ⟨Nat.le_refl _, fun b _ _ => ⟨rfl, rfl⟩, fun _ _ => rfl⟩ (hf s f hl)
    · intro i hi hl
      rw [rep_false hi] at hl; cases hl
  · unfold unl
    rw [List.countP_eq_length.2]
    · simp
    · intro i hi
      rw [rep_false (List.mem_range.1 hi)]; rfl
end
end GL
