/- Own library, part 9: regions that draw their order and end in a tail that comes behind all else; literals; slices of slices. -/
import Derived.Test.YtjefieckineneaaCore8
namespace GL
open Go

/-- Closed: the first n operations have no order of their own, all others come behind all that stand ahead of them. -/
def validT (ops : Array Oper) (n : Nat) (AH : List (List Nat × List Nat)) : Bool :=
  Nat.ble n ops.size && ((List.range n).all fun i => ((ops[i]?).map fun o => o.dst.isSome).getD false) && ((List.range n).all fun i => (List.range n).all fun j => Nat.beq i j || !Nat.beq (dstOf ops i) (dstOf ops j)) &&
  ((List.range ops.size).all fun i =>
    ((ancOf AH i).all fun j => Nat.blt j i && (((ops[i]?).map fun o => o.after.toList.any fun e => Region.binds .any e && (Nat.beq e.on j || (ancOf AH e.on).elem j)).getD false)) &&
    (((ops[i]?).map fun o => o.after.toList.all fun e => !Region.binds .any e || Nat.blt e.on i).getD false)) &&
  ((List.range n).all fun i => (List.range n).all fun j => Nat.beq j i || (ancOf AH i).elem j || (ancOf AH j).elem i || (hidOf AH i).elem (dstOf ops j)) &&
  ((List.range ops.size).all fun i => Nat.blt i n || (List.range i).all fun j => (ancOf AH i).elem j)

structure VTOk (ops : Array Oper) (n : Nat) (AH : List (List Nat × List Nat)) : Prop where
  le : n ≤ ops.size
  dst : ∀ i o, i < n → ops[i]? = some o → o.dst = some (dstOf ops i)
  nodup : ∀ i j, i < n → j < n → dstOf ops i = dstOf ops j → i = j
  anc : ∀ i o, ops[i]? = some o → ∀ j, j ∈ ancOf AH i → j < i ∧ ∃ e ∈ o.after, Region.binds .any e = true ∧ (e.on = j ∨ j ∈ ancOf AH e.on)
  after : ∀ i o, ops[i]? = some o → ∀ e ∈ o.after, Region.binds .any e = true → e.on < i
  pair : ∀ i j, i < n → j < n → j = i ∨ j ∈ ancOf AH i ∨ i ∈ ancOf AH j ∨ dstOf ops j ∈ hidOf AH i
  tail : ∀ i, i < ops.size → n ≤ i → ∀ j, j < i → j ∈ ancOf AH i

theorem validT_spec {ops : Array Oper} {n : Nat} {AH : List (List Nat × List Nat)} (h : validT ops n AH = true) : VTOk ops n AH := by
  unfold validT at h
  simp only [Bool.and_eq_true] at h
  obtain ⟨⟨⟨⟨⟨h1, h2⟩, h3⟩, h4⟩, h5⟩, h6⟩ := h
  have hle : n ≤ ops.size := by simpa using h1
  have get : ∀ i o, ops[i]? = some o → i < ops.size := fun i o ho => (Array.getElem?_eq_some_iff.1 ho).1
  have all : ∀ i, i < ops.size → _ := fun i hi => List.all_eq_true.1 h4 i (List.mem_range.2 hi)
  refine ⟨hle, ?_, ?_, ?_, ?_, ?_, ?_⟩
  · intro i o hi ho
    have := List.all_eq_true.1 h2 i (List.mem_range.2 hi)
    rw [ho] at this
    simp only [Option.map_some, Option.getD_some] at this
    obtain ⟨d, hd⟩ := Option.isSome_iff_exists.1 this
    unfold dstOf
    rw [ho]; simp [hd]
  · intro i j hi hj he
    have h6 := List.all_eq_true.1 (List.all_eq_true.1 h3 i (List.mem_range.2 hi)) j (List.mem_range.2 hj)
    simp only [Bool.or_eq_true] at h6
    rcases h6 with h | h
    · exact Nat.eq_of_beq_eq_true h
    · rw [he] at h; simp at h
  · intro i o ho j hj
    have h5 := all i (get i o ho)
    simp only [Bool.and_eq_true] at h5
    have h6 := List.all_eq_true.1 h5.1 j hj
    rw [ho] at h6
    simp only [Bool.and_eq_true, Option.map_some, Option.getD_some] at h6
    obtain ⟨h7, h8⟩ := h6
    obtain ⟨e, he, h9⟩ := List.any_eq_true.1 h8
    simp only [Bool.and_eq_true, Bool.or_eq_true] at h9
    refine ⟨by simpa using h7, e, Array.mem_toList_iff.1 he, h9.1, ?_⟩
    rcases h9.2 with h | h
    · exact .inl (Nat.eq_of_beq_eq_true h)
    · exact .inr (by simpa using h)
  · intro i o ho e he hb
    have h5 := all i (get i o ho)
    simp only [Bool.and_eq_true] at h5
    have h6 := h5.2
    rw [ho] at h6
    simp only [Option.map_some, Option.getD_some] at h6
    have := List.all_eq_true.1 h6 e (Array.mem_toList_iff.2 he)
    simpa [hb] using this
  · intro i j hi hj
    have h6 := List.all_eq_true.1 (List.all_eq_true.1 h5 i (List.mem_range.2 hi)) j (List.mem_range.2 hj)
    simp only [Bool.or_eq_true] at h6
    rcases h6 with ((h | h) | h) | h
    · exact .inl (Nat.eq_of_beq_eq_true h)
    · exact .inr (.inl (by simpa using h))
    · exact .inr (.inr (.inl (by simpa using h)))
    · exact .inr (.inr (.inr (by simpa using h)))
  · intro i hi hn j hj
    have h7 := List.all_eq_true.1 h6 i (List.mem_range.2 hi)
    simp only [Bool.or_eq_true] at h7
    rcases h7 with h | h
    · have : i < n := by simpa using h
      omega
    · have := List.all_eq_true.1 h j (List.mem_range.2 hj)
      simpa using this

section
variable {X : Cx} {G : List It} {Q : Exit → Act → World → Prop}

structure DInvT (X : Cx) (ops : Array Oper) (n : Nat) (AH : List (List Nat × List Nat)) (fs : List Fact) (G : List It) (L : Array Bool) (a : Act) (w : World) (g : Gh) : Prop where
  size : a.tmps.size = X.n
  defers : a.defers = []
  fr : Fr X.C X.w0 w
  gh : GhE X w g
  lsize : L.size = ops.size
  done : ∀ i, i < n → L.getD i true = true → (fOf fs i).p g (a.tmps.getD (dstOf ops i) undef) w
  rest : ∀ s f, look G s = some f → (∀ j, j < n → L.getD j true = true → dstOf ops j ≠ s) → f.p g (a.tmps.getD s undef) w
  anc : ∀ i, i < ops.size → L.getD i true = true → ∀ j, j ∈ ancOf AH i → L.getD j true = true
  tail : ∀ i, n ≤ i → i < ops.size → L.getD i true = false

def unlT (n : Nat) (L : Array Bool) : Nat := (List.range n).countP fun i => !L.getD i true

theorem unlT_set {n : Nat} {L : Array Bool} {i : Nat} (hi : i < n) (hs : n ≤ L.size) (hu : L.getD i true = false) : unlT n L = unlT n (L.setIfInBounds i true) + 1 := by
  unfold unlT
  have key : ∀ (l : List Nat), l.Nodup → i ∈ l → l.countP (fun j => !L.getD j true) = l.countP (fun j => !(L.setIfInBounds i true).getD j true) + 1 := by
    intro l
    induction l with
    | nil => intro _ h; cases h
    | cons x l ih =>
      intro hn hm
      obtain ⟨hx, hn⟩ := List.nodup_cons.1 hn
      simp only [List.countP_cons]
      by_cases he : x = i
      · subst he
        have h1 : l.countP (fun j => !L.getD j true) = l.countP (fun j => !(L.setIfInBounds x true).getD j true) := by
          apply List.countP_congr
          intro j hj
          have hne : x ≠ j := fun h => hx (h ▸ hj)
          rw [getD_set_ne true hne]
        have h2 : (L.setIfInBounds x true).getD x true = true := by
          have : x < L.size := by omega
          simp [this]
        rw [h1, h2, hu]
        simp
      · have hm' : i ∈ l := by
          rcases List.mem_cons.1 hm with h | h
          · exact (he h.symm).elim
          · exact h
        rw [ih hn hm', getD_set_ne true (Ne.symm he)]
        omega
  exact key _ List.nodup_range (List.mem_range.2 hi)

theorem unlT_zero {n : Nat} {L : Array Bool} (h : unlT n L = 0) (i : Nat) (hi : i < n) : L.getD i true = true := by
  unfold unlT at h
  rw [List.countP_eq_zero] at h
  have := h i (List.mem_range.2 hi)
  simpa using this

theorem ctx_facts {ops : Array Oper} {AH : List (List Nat × List Nat)} {fs : List Fact} {i : Nat} {a : Act} {w : World} {g : Gh}
    (hd : ∀ j, j ∈ ancOf AH i → (fOf fs j).p g (a.tmps.getD (dstOf ops j) undef) w)
    (hr : ∀ s f, look G s = some f → (∀ j, j ∈ ancOf AH i → dstOf ops j ≠ s) → s ∉ hidOf AH i → f.p g (a.tmps.getD s undef) w) : Facts (ctx ops AH fs G i) g a w := by
  intro s f hl
  unfold ctx at hl
  have hA : ∀ (as : List Nat), ∀ s f, look (as.map (fun j => It.fact (dstOf ops j) (fOf fs j)) ++ ((hidOf AH i).map (fun s => It.fact s Fact.top) ++ G)) s = some f →
      (∃ j, j ∈ as ∧ dstOf ops j = s ∧ f = fOf fs j) ∨ ((∀ j, j ∈ as → dstOf ops j ≠ s) ∧ look ((hidOf AH i).map (fun s => It.fact s Fact.top) ++ G) s = some f) := by
    intro as
    induction as with
    | nil => intro s f h; exact .inr ⟨fun j hj => by (cases hj), h⟩
    | cons x as iha =>
      intro s f h
      rw [List.map_cons, List.cons_append] at h
      rcases lookK_nil_spec h with ⟨he, hf⟩ | ⟨hne, h⟩
      · exact .inl ⟨x, List.mem_cons_self, he, hf⟩
      · rcases iha s f h with ⟨j, hj, h2⟩ | ⟨h2, h3⟩
        · exact .inl ⟨j, List.mem_cons_of_mem _ hj, h2⟩
        · refine .inr ⟨fun j hj => ?_, h3⟩
          rcases List.mem_cons.1 hj with rfl | hj
          · exact hne
          · exact h2 j hj
  have hH : ∀ (hs : List Nat) s f, look (hs.map (fun s => It.fact s Fact.top) ++ G) s = some f → f = Fact.top ∨ (s ∉ hs ∧ look G s = some f) := by
    intro hs
    induction hs with
    | nil => intro s f h; exact .inr ⟨by simp, h⟩
    | cons x hs ihh =>
      intro s f h
      rw [List.map_cons, List.cons_append] at h
      rcases lookK_nil_spec h with ⟨_, hf⟩ | ⟨hne, h⟩
      · exact .inl hf
      · rcases ihh s f h with h2 | ⟨h2, h3⟩
        · exact .inl h2
        · exact .inr ⟨by simp [h2, Ne.symm hne], h3⟩
  rcases hA _ s f hl with ⟨j, hj, rfl, rfl⟩ | ⟨hna, hl2⟩
  · exact hd j hj
  · rcases hH _ s f hl2 with rfl | ⟨hnh, hl3⟩
    · trivial
    · exact hr s f hl3 hna hnh

/-- The tail, once all ahead of it is done. -/
theorem wpAny_tail {P : Program} {ops : Array Oper} {n : Nat} {AH : List (List Nat × List Nat)} (hv : VTOk ops n AH) : ∀ (l : List Oper) (k : Nat), (∀ j, l[j]? = ops[k + j]?) → n ≤ k → k + l.length = ops.size →
    ∀ (L : Array Bool) (a : Act) (w : World), L.size = ops.size → (∀ i, i < ops.size → L.getD i true = decide (i < k)) → wpList P ops Q l a w → wpAny P .any ops Q l.length L a w
  | [], k, _, _, hk, L, a, w, hs, hL, h => by
    refine ⟨?_, h⟩
    cases hr : Region.ready .any ops L with
    | nil => rfl
    | cons x l =>
      have hx : x ∈ Region.ready .any ops L := by rw [hr]; exact List.mem_cons_self
      obtain ⟨h1, o, ho, _⟩ := mem_ready.1 hx
      have hxl := (Array.getElem?_eq_some_iff.1 ho).1
      rw [hL x hxl] at h1
      simp at hk
      simp at h1
      omega
  | o :: l, k, hl, hn, hk, L, a, w, hs, hL, h => by
    have hk' : k < ops.size := by simp at hk; omega
    have ho : ops[k]? = some o := by have := hl 0; simpa using this.symm
    have honly : ∀ i, i ∈ Region.ready .any ops L → i = k := by
      intro i hi
      obtain ⟨h1, oi, hoi, hall⟩ := mem_ready.1 hi
      have hil := (Array.getElem?_eq_some_iff.1 hoi).1
      rw [hL i hil] at h1
      simp at h1
      rcases Nat.lt_or_ge k i with hlt | hge
      · have hki := hv.tail i hil (by omega) k hlt
        obtain ⟨_, e, he, hb, hor⟩ := hv.anc i oi hoi k hki
        have hon := hall e he hb
        have honl := hv.after i oi hoi e he hb
        have hon' := getD_ff (by rw [hs]; omega) hon
        rw [hL e.on (by omega)] at hon'
        simp at hon'
        rcases hor with h2 | h2
        · omega
        · have hoe : ops[e.on]? = some ops[e.on] := Array.getElem?_eq_getElem (by omega)
          have := (hv.anc e.on _ hoe k h2).1
          omega
      · omega
    have hready : k ∈ Region.ready .any ops L := by
      rw [mem_ready]
      refine ⟨by rw [hL k hk']; simp, o, ho, fun e he hb => ?_⟩
      have hlt := hv.after k o ho e he hb
      have := hL e.on (by omega)
      have hlt2 : e.on < L.size := by omega
      simp [hlt2] at this ⊢
      rw [this]; simpa using hlt
    refine ⟨fun h0 => (by rw [h0] at hready; cases hready), fun i hi => ?_⟩
    have := honly i hi
    subst this
    have ih := wpAny_tail (P := P) hv l (i + 1) (fun j => by have := hl (j + 1); simpa [Nat.add_assoc, Nat.add_comm 1 j] using this) (by omega) (by simp at hk; omega) (L.setIfInBounds i true)
    have hL' : ∀ j, j < ops.size → (L.setIfInBounds i true).getD j true = decide (j < i + 1) := by
      intro j hj
      by_cases he : i = j
      · subst he
        have : i < L.size := by omega
        simp [this]
      · rw [getD_set_ne true he, hL j hj]
        simp; omega
    unfold wpList at h
    unfold wpOp
    rw [ho]
    simp only []
    split
    · rename_i hw
      rw [if_pos hw] at h
      rcases h with h | h
      · exact .inl (Oper.wp_mono (fun a' w' h' => ih a' w' (by simp [hs]) hL' h') h)
      · exact .inr h
    · rename_i hw
      rw [if_neg hw] at h
      exact ih _ _ (by simp [hs]) hL' h

theorem wpAny_drawT {ops : Array Oper} {n : Nat} {AH : List (List Nat × List Nat)} {fs : List Fact} {l2 : List Oper} (hv : VTOk ops n AH) (hd : ∀ i, i < n → dstOf ops i < X.n)
    (hl2 : ∀ j, l2[j]? = ops[n + j]?) (hsz : n + l2.length = ops.size)
    (hok : ∀ (i : Nat) (o : Oper), i < n → ops[i]? = some o → OpOk X ops (ctx ops AH fs G i) o (fOf fs i))
    (hQ : ∀ L a w g, DInvT X ops n AH fs G L a w g → unlT n L = 0 → wpList X.P ops Q l2 a w) :
    ∀ (fuel : Nat) (L : Array Bool) (a : Act) (w : World) (g : Gh), DInvT X ops n AH fs G L a w g → unlT n L = fuel → wpAny X.P .any ops Q (l2.length + fuel) L a w := by
  intro fuel
  induction fuel with
  | zero =>
    intro L a w g inv hu
    refine wpAny_tail hv l2 n hl2 (Nat.le_refl _) hsz L a w inv.lsize ?_ (hQ L a w g inv hu)
    intro i hi
    by_cases hin : i < n
    · rw [unlT_zero hu i hin]; simp [hin]
    · rw [inv.tail i (by omega) hi]; simp [hin]
  | succ fuel ih =>
    intro L a w g inv hu
    -- an operation of the head is ready, and none of the tail is
    have hex : ∃ i, i < n ∧ L.getD i true = false := by
      refine Classical.byContradiction fun hn => ?_
      have : unlT n L = 0 := by
        unfold unlT
        rw [List.countP_eq_zero]
        intro i hi
        have hi' := List.mem_range.1 hi
        cases hl : L.getD i true with
        | true => simp
        | false => exact (hn ⟨i, hi', hl⟩).elim
      omega
    obtain ⟨i0, ⟨hi0, hu0⟩, hmin⟩ := exists_least hex
    have hle := hv.le
    have hready : i0 ∈ Region.ready .any ops L := by
      rw [mem_ready]
      refine ⟨hu0, ops[i0], Array.getElem?_eq_getElem (by omega), fun e he hb => ?_⟩
      have hlt := hv.after i0 _ (Array.getElem?_eq_getElem (by omega)) e he hb
      cases hl : L.getD e.on true with
      | true =>
        have hlt2 : e.on < L.size := by rw [inv.lsize]; omega
        simp [hlt2] at hl ⊢; exact hl
      | false => have := hmin e.on ⟨by omega, hl⟩; omega
    refine ⟨fun h => (by rw [h] at hready; cases hready), fun i hi => ?_⟩
    obtain ⟨h1, o, ho, hall⟩ := mem_ready.1 hi
    have hio : i < ops.size := (Array.getElem?_eq_some_iff.1 ho).1
    have hanc : ∀ j, j ∈ ancOf AH i → L.getD j true = true := by
      intro j hj
      obtain ⟨hji, e, he, hb, hor⟩ := hv.anc i o ho j hj
      have hon := hall e he hb
      have hlt := hv.after i o ho e he hb
      have hon' : L.getD e.on true = true := getD_ff (by rw [inv.lsize]; omega) hon
      rcases hor with rfl | hm
      · exact hon'
      · exact inv.anc e.on (by omega) hon' j hm
    have hi' : i < n := by
      rcases Nat.lt_or_ge i n with h | h
      · exact h
      · have := hanc i0 (hv.tail i hio h i0 (by omega))
        rw [hu0] at this; cases this
    have hdst := hv.dst i o hi' ho
    have hfacts : Facts (ctx ops AH fs G i) g a w := by
      refine ctx_facts (fun j hj => ?_) (fun s f hl hna hnh => ?_)
      · have hji := (hv.anc i o ho j hj).1
        exact inv.done j (by omega) (hanc j hj)
      · refine inv.rest s f hl (fun j hj hlj he => ?_)
        rcases hv.pair i j hi' hj with rfl | h | h | h
        · rw [h1] at hlj; cases hlj
        · exact hna j h he
        · have := inv.anc j (by omega) hlj i h
          rw [h1] at this; cases this
        · rw [he] at h; exact hnh h
    have hspec := hok i o hi' ho a w g inv.size inv.fr inv.gh hfacts
    have hnext : ∀ v w' g', Fr NoC w w' → GhE X w' g' → (∀ b, b < w.heap.size → g'.om b = g.om b) → (∀ t, g'.ga t = g.ga t) → (fOf fs i).p g' v w' →
        wpAny X.P .any ops Q (l2.length + fuel) (L.setIfInBounds i true) (a.put o.dst v) w' := by
      intro v w' g' hw hg' hom hga hp
      have hk : ∀ (f : Fact), Keeps f.tags f.ids g g' w w' := fun f => ⟨hw.size, fun b hb _ => ⟨hw.block b hb id, hom b hb⟩, fun t _ => hga t⟩
      have hdi : dstOf ops i < a.tmps.size := by rw [inv.size]; exact hd i hi'
      refine ih _ _ _ g' ⟨?_, (put_defers a o.dst v).trans inv.defers, inv.fr.trans hw (fun _ _ h => h.elim), hg', ?_, ?_, ?_, ?_, ?_⟩ ?_
      · rw [hdst]; simp [Act.put, inv.size]
      · simp [inv.lsize]
      · intro j hj hlj
        rw [hdst, Act.getD_put hdi]
        by_cases he : i = j
        · subst he; simp; exact hp
        · rw [getD_set_ne true he] at hlj
          have hne : dstOf ops i ≠ dstOf ops j := fun h => he (hv.nodup i j hi' hj h)
          rw [if_neg hne]
          exact (fOf fs j).stab g g' _ w w' (hk _) (inv.done j hj hlj)
      · intro s f hl hs
        have hi2 : (L.setIfInBounds i true).getD i true = true := by
          have : i < L.size := by rw [inv.lsize]; exact hio
          simp [this]
        have hne : dstOf ops i ≠ s := hs i hi' hi2
        rw [hdst, Act.getD_put hdi, if_neg hne]
        refine f.stab g g' _ w w' (hk _) (inv.rest s f hl (fun j hj hlj => ?_))
        by_cases he : i = j
        · subst he; exact hne
        · exact hs j hj (by rw [getD_set_ne true he]; exact hlj)
      · intro j hj hlj k hk
        by_cases he : i = j
        · subst he
          have := hanc k hk
          by_cases hik : i = k
          · subst hik; rw [h1] at this; cases this
          · rw [getD_set_ne true hik]; exact this
        · rw [getD_set_ne true he] at hlj
          have := inv.anc j hj hlj k hk
          by_cases hik : i = k
          · subst hik; rw [h1] at this; cases this
          · rw [getD_set_ne true hik]; exact this
      · intro j hnj hj
        rw [getD_set_ne true (by omega)]
        exact inv.tail j hnj hj
      · have := unlT_set hi' (by rw [inv.lsize]; exact hle) h1
        omega
    unfold wpOp
    rw [ho]
    simp only []
    cases hw : Region.wanted o (yielded ops a.tmps) with
    | true =>
      simp only [if_true]
      left
      refine hspec.1 hw _ _ (fun v w' ⟨h2, g', h3, h4, h5, h6⟩ => hnext v w' g' h2 h3 h4 h5 h6)
    | false =>
      simp only [Bool.false_eq_true, if_false]
      exact hnext undef w g (Fr.refl _ _) inv.gh (fun _ _ => rfl) (fun _ => rfl) (hspec.2 hw)

theorem CWalk.drawT' {id : Nat} {l : List Oper} (n : Nat) (l1 l2 : List Oper) (AH : List (List Nat × List Nat)) (ds : List Nat) (fs : List Fact) (hl : l = l1 ++ l2) (hl1 : l1.length = n) (hm : X.P.follows .mixedOrders = true)
    (hv : validT l.toArray n AH = true) (hds : l1.map (·.dst) = ds.map some)
    (hn : (ds.all fun d => Nat.blt d X.n) = true) (hlen : fs.length = ds.length) (hS : AllOk X l.toArray AH fs G l1 0) (h : Walk X l.toArray Q (finalG ds fs G) l2) : CWalk X G (.region id l.toArray true) Q := fun a w env => by
  have hV := validT_spec hv
  have hdl : ds.length = n := by have := congrArg List.length hds; rw [List.length_map, List.length_map] at this; omega
  have hget : ∀ i, i < n → l[i]? = l1[i]? := fun i hi => by rw [hl, List.getElem?_append_left (by omega)]
  have hdi : ∀ (i : Nat) (d : Nat), ds[i]? = some d → dstOf l.toArray i = d := fun i d hd => by
    have hi : i < n := by rw [← hdl]; exact (List.getElem?_eq_some_iff.1 hd).1
    unfold dstOf
    have h1 : (l1.map (·.dst))[i]? = some (some d) := by rw [hds]; simp [hd]
    rw [List.getElem?_map] at h1
    simp only [Option.map_eq_some_iff] at h1
    obtain ⟨o, ho, hod⟩ := h1
    have : (l.toArray)[i]? = some o := by rw [List.getElem?_toArray, hget i hi]; exact ho
    rw [this]; simp [hod]
  obtain ⟨g, hg, hf⟩ := env.facts
  refine wp_region_any hm ?_
  have hszl : l.toArray.size = n + l2.length := by simp [hl, hl1]
  have hfuel : l.toArray.size = l2.length + n := by rw [hszl]; omega
  have key := wpAny_drawT (X := X) (G := G) (Q := Q) (AH := AH) (fs := fs) (l2 := l2) hV (fun i hi => by
      have hi2 : i < ds.length := by rw [hdl]; exact hi
      have := hdi i ds[i] (List.getElem?_eq_getElem hi2)
      rw [this]
      have := List.all_eq_true.1 hn ds[i] (List.getElem_mem hi2)
      simpa using this)
    (fun j => by rw [List.getElem?_toArray, hl, List.getElem?_append_right (by omega)]; congr 1; omega) hszl.symm
    (fun i o hi ho => by
      have h1 : l1[i]? = some o := by rw [List.getElem?_toArray, hget i hi] at ho; exact ho
      have := AllOk.get l1 0 hS i o h1
      simpa using this)
    (fun L a' w' g' inv hu => h a' w' ⟨inv.size, inv.defers, inv.fr, g', inv.gh, by
      intro s f hlk
      rcases finalG_look ds fs G hlen s f hlk with ⟨i, hi, rfl⟩ | ⟨hno, hlk⟩
      · have hi2 : i < n := by rw [← hdl]; exact (List.getElem?_eq_some_iff.1 hi).1
        have := inv.done i hi2 (unlT_zero hu i hi2)
        rwa [hdi i s hi] at this
      · refine inv.rest s f hlk (fun j hj _ he => ?_)
        have hj2 : j < ds.length := by rw [hdl]; exact hj
        have := hdi j ds[j] (List.getElem?_eq_getElem hj2)
        rw [this] at he
        exact hno j (by rw [List.getElem?_eq_getElem hj2, he])⟩)
    n (Array.replicate l.toArray.size false) a { w with drawn := w.drawn + 1 } g
    ⟨env.size, env.defers, env.fr.drew, ⟨⟨hg.ok.old, fun b h1 h2 => hg.ok.new b h1 h2⟩, hg.om⟩, by simp,
      (fun i hi hl => by rw [rep_false (by omega)] at hl; cases hl),
      (fun s f hl _ => f.stab g g _ w _ ⟨Nat.le_refl _, fun b _ _ => ⟨rfl, rfl⟩, fun _ _ => rfl⟩ (hf s f hl)),
      (fun i hi hl => by rw [rep_false hi] at hl; cases hl),
      (fun i _ hi => rep_false hi)⟩
    (by
      unfold unlT
      rw [List.countP_eq_length.2]
      · simp
      · intro i hi
        have := List.mem_range.1 hi
        rw [rep_false (by omega)]; rfl)
  rw [← hfuel] at key
  exact key

theorem CWalk.drawT {id : Nat} {l : List Oper} (n : Nat) (AH : List (List Nat × List Nat)) (ds : List Nat) (fs : List Fact) (hm : X.P.follows .mixedOrders = true)
    (hv : validT l.toArray n AH = true) (hl : Nat.ble n l.length = true) (hds : (l.take n).map (·.dst) = ds.map some)
    (hn : (ds.all fun d => Nat.blt d X.n) = true) (hlen : fs.length = ds.length) (hS : AllOk X l.toArray AH fs G (l.take n) 0) (h : Walk X l.toArray Q (finalG ds fs G) (l.drop n)) : CWalk X G (.region id l.toArray true) Q :=
  CWalk.drawT' n (l.take n) (l.drop n) AH ds fs (List.take_append_drop n l).symm (by rw [List.length_take]; have : n ≤ l.length := by simpa using hl
                                                                                     omega) hm hv hds hn hlen hS h
end
end GL
