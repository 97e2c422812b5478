/- Own library, part 9: regions that draw their order and end in a tail that comes behind all else; literals; slices of slices. -/
import Derived.Test.YtgjibgklailenaaCore8
namespace GL
open Go

/-- Closed: the first n operations have no order of their own, all others come behind all that stand ahead of them. -/
def validT (ops : Array Oper) (n : Nat) (AH : List (List Nat × List Nat)) : Bool :=
  Nat.ble n ops.size && ((List.range n).all fun i => ((ops[i]?).map fun o => o.dst.isSome).getD false) && ((List.range n).all fun i => (List.range n).all fun j => Nat.beq i j || !Nat.beq (dstOf ops i) (dstOf ops j)) &&
  ((List.range ops.size).all fun i =>
    ((ancOf AH i).all fun j => Nat.blt j i && (((ops[i]?).map fun o => o.after.toList.any fun e => Region.binds .any e && (Nat.beq e.on j || (ancOf AH e.on).elem j)).getD false)) &&
    (((ops[i]?).map fun o => o.after.toList.all fun e => !Region.binds .any e || Nat.blt e.on i).getD false)) &&
  ((List.range n).all fun i => (List.range n).all fun j => Nat.beq j i || (ancOf AH i).elem j || (ancOf AH j).elem i || (hidOf AH i).elem (dstOf ops j)) &&
  ((List.range ops.size).all fun i => Nat.blt i n || (List.range i).all fun j => (ancOf AH i).elem j)

structure VTOk (ops : Array Oper) (n : Nat) (AH : List (List Nat × List Nat)) : Prop where
  le : n ≤ ops.size
  dst : ∀ i o, i < n → ops[i]? = some o → o.dst = some (dstOf ops i)
  nodup : ∀ i j, i < n → j < n → dstOf ops i = dstOf ops j → i = j
  anc : ∀ i o, ops[i]? = some o → ∀ j, j ∈ ancOf AH i → j < i ∧ ∃ e ∈ o.after, Region.binds .any e = true ∧ (e.on = j ∨ j ∈ ancOf AH e.on)
  after : ∀ i o, ops[i]? = some o → ∀ e ∈ o.after, Region.binds .any e = true → e.on < i
  pair : ∀ i j, i < n → j < n → j = i ∨ j ∈ ancOf AH i ∨ i ∈ ancOf AH j ∨ dstOf ops j ∈ hidOf AH i
  tail : ∀ i, i < ops.size → n ≤ i → ∀ j, j < i → j ∈ ancOf AH i

theorem validT_spec {ops : Array Oper} {n : Nat} {AH : List (List Nat × List Nat)} (h : validT ops n AH = true) : VTOk ops n AH := by
  unfold validT at h
  simp only [Bool.and_eq_true] at h
  obtain ⟨⟨⟨⟨⟨h1, h2⟩, h3⟩, h4⟩, h5⟩, h6⟩ := h
  have hle : n ≤ ops.size := by simpa using h1
  have get : ∀ i o, ops[i]? = some o → i < ops.size := fun i o ho => (Array.getElem?_eq_some_iff.1 ho).1
  have all : ∀ i, i < ops.size → _ := fun i hi => List.all_eq_true.1 h4 i (List.mem_range.2 hi)
  refine ⟨hle, ?_, ?_, ?_, ?_, ?_, ?_⟩
  · intro i o hi ho
    have := List.all_eq_true.1 h2 i (List.mem_range.2 hi)
    rw [ho] at this
    simp only [Option.map_some, Option.getD_some] at this
    obtain ⟨d, hd⟩ := Option.isSome_iff_exists.1 this
    unfold dstOf
    rw [ho]; simp [hd]
  · intro i j hi hj he
    have h6 := List.all_eq_true.1 (List.all_eq_true.1 h3 i (List.mem_range.2 hi)) j (List.mem_range.2 hj)
    simp only [Bool.or_eq_true] at h6
    rcases h6 with h | h
    · exact Nat.eq_of_beq_eq_true h
    · rw [he] at h; simp at h
  · intro i o ho j hj
    have h5 := all i (get i o ho)
    simp only [Bool.and_eq_true] at h5
    have h6 := List.all_eq_true.1 h5.1 j hj
    rw [ho] at h6
    simp only [Bool.and_eq_true, Option.map_some, Option.getD_some] at h6
    obtain ⟨h7, h8⟩ := h6
    obtain ⟨e, he, h9⟩ := List.any_eq_true.1 h8
    simp only [Bool.and_eq_true, Bool.or_eq_true] at h9
    refine ⟨by simpa using h7, e, Array.mem_toList_iff.1 he, h9.1, ?_⟩
    rcases h9.2 with h | h
    · exact .inl (Nat.eq_of_beq_eq_true h)
    · exact .inr (by simpa using h)
  · intro i o ho e he hb
    have h5 := all i (get i o ho)
    simp only [Bool.and_eq_true] at h5
    have h6 := h5.2
    rw [ho] at h6
    simp only [Option.map_some, Option.getD_some] at h6
    have := List.all_eq_true.1 h6 e (Array.mem_toList_iff.2 he)
    simpa [hb] using this
  · intro i j hi hj
    have h6 := List.all_eq_true.1 (List.all_eq_true.1 h5 i (List.mem_range.2 hi)) j (List.mem_range.2 hj)
    simp only [Bool.or_eq_true] at h6
    rcases h6 with ((h | h) | h) | h
    · exact .inl (Nat.eq_of_beq_eq_true h)
    · exact .inr (.inl (by simpa using h))
    · exact .inr (.inr (.inl (by simpa using h)))
    · exact .inr (.inr (.inr (by simpa using h)))
  · intro i hi hn j hj
    have h7 := List.all_eq_true.1 h6 i (List.mem_range.2 hi)
    simp only [Bool.or_eq_true] at h7
    rcases h7 with h | h
    · have : i < n := by simpa using h
      omega
    · have := List.all_eq_true.1 h j (List.mem_range.2 hj)
      simpa using this

section
variable {X : Cx} {G : List It} {Q : Exit → Act → World → Prop}

structure DInvT (X : Cx) (ops : Array Oper) (n : Nat) (AH : List (List Nat × List Nat)) (fs : List Fact) (G : List It) (L : Array Bool) (a : Act) (w : World) (g : Gh) : Prop where
  size : a.tmps.size = X.n
  defers : a.defers = X.ds
  fr : Fr X.C X.w0 w
  gh : GhE X w g
  lsize : L.size = ops.size
  done : ∀ i, i < n → L.getD i true = true → (fOf fs i).p g (a.tmps.getD (dstOf ops i) undef) w
  rest : ∀ s f, look G s = some f → (∀ j, j < n → L.getD j true = true → dstOf ops j ≠ s) → f.p g (a.tmps.getD s undef) w
  anc : ∀ i, i < ops.size → L.getD i true = true → ∀ j, j ∈ ancOf AH i → L.getD j true = true
  tail : ∀ i, n ≤ i → i < ops.size → L.getD i true = false

def unlT (n : Nat) (L : Array Bool) : Nat := (List.range n).countP fun i => !L.getD i true

theorem unlT_set {n : Nat} {L : Array Bool} {i : Nat} (hi : i < n) (hs : n ≤ L.size) (hu : L.getD i true = false) : unlT n L = unlT n (L.setIfInBounds i true) + 1 := by
  unfold unlT
  have key : ∀ (l : List Nat), l.Nodup → i ∈ l → l.countP (fun j => !L.getD j true) = l.countP (fun j => !(L.setIfInBounds i true).getD j true) + 1 := by
    intro l
    induction l with
    | nil => intro _ h; cases h
    | cons x l ih =>
      intro hn hm
      obtain ⟨hx, hn⟩ := List.nodup_cons.1 hn
      simp only [List.countP_cons]
      by_cases he : x = i
      · subst he
        have h1 : l.countP (fun j => !L.getD j true) = l.countP (fun j => !(L.setIfInBounds x true).getD j true) := by
          apply List.countP_congr
          intro j hj
          have hne : x ≠ j := fun h => hx (h ▸ hj)
          rw [getD_set_ne true hne]
        have h2 : (L.setIfInBounds x true).getD x true = true := by
          have : x < L.size := by omega
          simp [this]
        rw [h1, h2, hu]
        simp
      · have hm' : i ∈ l := by
          rcases List.mem_cons.1 hm with h | h
          · exact (he h.symm).elim
          · exact h
        rw [ih hn hm', getD_set_ne true (Ne.symm he)]
        omega
  exact key _ List.nodup_range (List.mem_range.2 hi)

theorem unlT_zero {n : Nat} {L : Array Bool} (h : unlT n L = 0) (i : Nat) (hi : i < n) : L.getD i true = true := by
  unfold unlT at h
  rw [List.countP_eq_zero] at h
  have := h i (List.mem_range.2 hi)
  simpa using this

theorem ctx_facts {ops : Array Oper} {AH : List (List Nat × List Nat)} {fs : List Fact} {i : Nat} {a : Act} {w : World} {g : Gh}
    (hd : ∀ j, j ∈ ancOf AH i → (fOf fs j).p g (a.tmps.getD (dstOf ops j) undef) w)
    (hr : ∀ s f, look G s = some f → (∀ j, j ∈ ancOf AH i → dstOf ops j ≠ s) → s ∉ hidOf AH i → f.p g (a.tmps.getD s undef) w) : Facts (ctx ops AH fs G i) g a w := by
  intro s f hl
  unfold ctx at hl
  have hA : ∀ (as : List Nat), ∀ s f, look (as.map (fun j => It.fact (dstOf ops j) (fOf fs j)) ++ ((hidOf AH i).map (fun s => It.fact s Fact.top) ++ G)) s = some f →
      (∃ j, j ∈ as ∧ dstOf ops j = s ∧ f = fOf fs j) ∨ ((∀ j, j ∈ as → dstOf ops j ≠ s) ∧ look ((hidOf AH i).map (fun s => It.fact s Fact.top) ++ G) s = some f) := by
    intro as
    induction as with
    | nil => intro s f h; exact .inr ⟨fun j hj => by (cases hj), h⟩
    | cons x as iha =>
      intro s f h
      rw [List.map_cons, List.cons_append] at h
      rcases lookK_nil_spec h with ⟨he, hf⟩ | ⟨hne, h⟩
      · exact .inl ⟨x, List.mem_cons_self, he, hf⟩
      · rcases iha s f h with ⟨j, hj, h2⟩ | ⟨h2, h3⟩
        · exact .inl ⟨j, List.mem_cons_of_mem _ hj, h2⟩
        · refine .inr ⟨fun j hj => ?_, h3⟩
          rcases List.mem_cons.1 hj with rfl | hj
          · exact hne
          · exact h2 j hj
  have hH : ∀ (hs : List Nat) s f, look (hs.map (fun s => It.fact s Fact.top) ++ G) s = some f → f = Fact.top ∨ (s ∉ hs ∧ look G s = some f) := by
    intro hs
    induction hs with
    | nil => intro s f h; exact .inr ⟨by simp, h⟩
    | cons x hs ihh =>
      intro s f h
      rw [List.map_cons, List.cons_append] at h
      rcases lookK_nil_spec h with ⟨_, hf⟩ | ⟨hne, h⟩
      · exact .inl hf
      · rcases ihh s f h with h2 | ⟨h2, h3⟩
        · exact .inl h2
        · exact .inr ⟨by simp [h2, Ne.symm hne], h3⟩
  rcases hA _ s f hl with ⟨j, hj, rfl, rfl⟩ | ⟨hna, hl2⟩
  · exact hd j hj
  · rcases hH _ s f hl2 with rfl | ⟨hnh, hl3⟩
    · trivial
    · exact hr s f hl3 hna hnh

end
end GL
