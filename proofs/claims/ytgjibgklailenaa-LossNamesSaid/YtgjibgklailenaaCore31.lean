/- Own library, part 31: data of which only the form is known. -/
import Derived.Test.YtgjibgklailenaaCore30
namespace GL
open Go

/-- Scalars, by kind. -/
def scK : Nat → Value → Prop
  | 0, u => ∃ n : Int, u = .int .i64 n
  | 1, u => ∃ n : UInt8, u = .int .u8 (n.toNat : Int)
  | 2, u => ∃ n : UInt32, u = .int .u32 (n.toNat : Int)
  | _, u => ∃ b : Bool, u = .bool b
def Like (u v : Value) : Prop := u = v ∨ ∃ c, scK c u ∧ scK c v
theorem Like.refl (u : Value) : Like u u := .inl rfl
theorem scK_uniq {c d : Nat} {u : Value} (h : scK c u) (k : scK d u) : ∀ v, scK d v → scK c v := by
  intro v hv
  match c, d with
  | 0, 0 => exact hv
  | 1, 1 => exact hv
  | 2, 2 => exact hv
  | c + 3, d + 3 => exact hv
  | 0, 1 => obtain ⟨n, rfl⟩ := h; obtain ⟨m, hm⟩ := k; cases hm
  | 0, 2 => obtain ⟨n, rfl⟩ := h; obtain ⟨m, hm⟩ := k; cases hm
  | 0, d + 3 => obtain ⟨n, rfl⟩ := h; obtain ⟨m, hm⟩ := k; cases hm
  | 1, 0 => obtain ⟨n, rfl⟩ := h; obtain ⟨m, hm⟩ := k; cases hm
  | 1, 2 => obtain ⟨n, rfl⟩ := h; obtain ⟨m, hm⟩ := k; cases hm
  | 1, d + 3 => obtain ⟨n, rfl⟩ := h; obtain ⟨m, hm⟩ := k; cases hm
  | 2, 0 => obtain ⟨n, rfl⟩ := h; obtain ⟨m, hm⟩ := k; cases hm
  | 2, 1 => obtain ⟨n, rfl⟩ := h; obtain ⟨m, hm⟩ := k; cases hm
  | 2, d + 3 => obtain ⟨n, rfl⟩ := h; obtain ⟨m, hm⟩ := k; cases hm
  | c + 3, 0 => obtain ⟨n, rfl⟩ := h; obtain ⟨m, hm⟩ := k; cases hm
  | c + 3, 1 => obtain ⟨n, rfl⟩ := h; obtain ⟨m, hm⟩ := k; cases hm
  | c + 3, 2 => obtain ⟨n, rfl⟩ := h; obtain ⟨m, hm⟩ := k; cases hm
theorem Like.sc {c : Nat} {u v : Value} (h : Like u v) (k : scK c u) : scK c v := by
  rcases h with rfl | ⟨d, h1, h2⟩
  · exact k
  · exact scK_uniq k h1 v h2
theorem Like.trans {u v x : Value} (h : Like u v) (k : Like v x) : Like u x := by
  rcases h with rfl | ⟨c, h1, h2⟩
  · exact k
  · exact .inr ⟨c, h1, k.sc h2⟩
theorem Like.eq {u v : Value} (h : Like u v) (hn : ∀ c, ¬ scK c u) : u = v := by
  rcases h with rfl | ⟨c, h1, _⟩
  · rfl
  · exact (hn c h1).elim
theorem Like.slice {a : Option Addr} {n c : Nat} {v : Value} (h : Like (.slice a n c) v) : v = .slice a n c := by
  refine (h.eq (fun d hd => ?_)).symm
  match d with
  | 0 => obtain ⟨_, h⟩ := hd; cases h
  | 1 => obtain ⟨_, h⟩ := hd; cases h
  | 2 => obtain ⟨_, h⟩ := hd; cases h
  | _ + 3 => obtain ⟨_, h⟩ := hd; cases h
theorem Like.string {s : ByteArray} {v : Value} (h : Like (.string s) v) : v = .string s := by
  refine (h.eq (fun d hd => ?_)).symm
  match d with
  | 0 => obtain ⟨_, h⟩ := hd; cases h
  | 1 => obtain ⟨_, h⟩ := hd; cases h
  | 2 => obtain ⟨_, h⟩ := hd; cases h
  | _ + 3 => obtain ⟨_, h⟩ := hd; cases h
theorem scK_one {c : Nat} {u : Value} (h : scK c u) : u.oneCell' = true ∧ u.cells = #[u] := by
  match c with
  | 0 => obtain ⟨_, rfl⟩ := h; exact ⟨rfl, rfl⟩
  | 1 => obtain ⟨_, rfl⟩ := h; exact ⟨rfl, rfl⟩
  | 2 => obtain ⟨_, rfl⟩ := h; exact ⟨rfl, rfl⟩
  | _ + 3 => obtain ⟨_, rfl⟩ := h; exact ⟨rfl, rfl⟩

/-- Blocks of F hold in w' what they hold in w, but for scalars' values. -/
structure LikeW (w w' : World) (F F' : Nat → Prop) : Prop where
  size : w.heap.size ≤ w'.heap.size
  f : ∀ b, b < w.heap.size → F b → F' b
  cell : ∀ (ad : Addr) (u : Value), ad.block < w.heap.size → F ad.block → w.cell? ad = some u → w.frozen? ad = false → ∃ u', w'.cell? ad = some u' ∧ w'.frozen? ad = false ∧ Like u u'
theorem LikeW.refl (w : World) (F : Nat → Prop) : LikeW w w F F := ⟨Nat.le_refl _, fun _ _ h => h, fun _ u _ _ h k => ⟨u, h, k, .refl u⟩⟩
theorem LikeW.trans {a b c : World} {F G H : Nat → Prop} (h : LikeW a b F G) (k : LikeW b c G H) : LikeW a c F H :=
  ⟨Nat.le_trans h.size k.size, fun x hx hF => k.f x (Nat.lt_of_lt_of_le hx h.size) (h.f x hx hF), fun ad u hb hF hc hz => by
    obtain ⟨u1, h1, h2, h3⟩ := h.cell ad u hb hF hc hz
    obtain ⟨u2, k1, k2, k3⟩ := k.cell ad u1 (Nat.lt_of_lt_of_le hb h.size) (h.f _ hb hF) h1 h2
    exact ⟨u2, k1, k2, h3.trans k3⟩⟩
theorem LikeW.same {w w' : World} {F F' : Nat → Prop} (hs : w.heap.size ≤ w'.heap.size) (hk : ∀ b, b < w.heap.size → F b → w'.heap[b]? = w.heap[b]? ∧ F' b) : LikeW w w' F F' :=
  ⟨hs, fun b hb hF => (hk b hb hF).2, fun ad u hb hF hc hz => by
    have := (hk ad.block hb hF).1
    exact ⟨u, by rw [← hc]; exact World.cell?_of_block this, by rw [← hz]; exact World.frozen?_of_block this, .refl u⟩⟩

class Lo (α : Type) [R : Rp α] where
  rel : (Nat → Prop) → α → List Value → World → Prop
  of : ∀ F x cs w, R.rel F x cs w → rel F x cs w
  len : ∀ F x cs w, rel F x cs w → cs.length = R.n
  one : ∀ F x cs w, rel F x cs w → ∀ c ∈ cs, c.oneCell' = true
  like : ∀ (F F' : Nat → Prop) (x : α) (cs cs' : List Value) (w w' : World), LikeW w w' F F' → cs'.length = cs.length → (∀ (j : Nat) u u', cs[j]? = some u → cs'[j]? = some u' → Like u u') → rel F x cs w → rel F' x cs' w'

theorem one_of {cs : List Value} {v u : Value} (h : cs = [v]) {cs' : List Value} (hl : cs'.length = cs.length) (hk : ∀ (j : Nat) u u', cs[j]? = some u → cs'[j]? = some u' → Like u u') : ∃ u', cs' = [u'] ∧ Like v u' := by
  subst h
  match cs', hl with
  | [u'], _ => exact ⟨u', rfl, hk 0 v u' rfl rfl⟩
instance : Lo Int where
  rel := fun _ _ cs _ => ∃ u, cs = [u] ∧ scK 0 u
  of := fun _ x cs _ h => ⟨_, h, x, rfl⟩
  len := fun _ _ _ _ ⟨_, h, _⟩ => by rw [h]; rfl
  one := fun _ _ _ _ ⟨_, h, k⟩ => by rw [h]; simpa using (scK_one k).1
  like := fun _ _ _ cs cs' _ _ _ hl hk ⟨u, h, k⟩ => by
    obtain ⟨u', h', hlk⟩ := one_of (u := u) h hl hk
    exact ⟨u', h', hlk.sc k⟩
instance : Lo UInt8 where
  rel := fun _ _ cs _ => ∃ u, cs = [u] ∧ scK 1 u
  of := fun _ x cs _ h => ⟨_, h, x, rfl⟩
  len := fun _ _ _ _ ⟨_, h, _⟩ => by rw [h]; rfl
  one := fun _ _ _ _ ⟨_, h, k⟩ => by rw [h]; simpa using (scK_one k).1
  like := fun _ _ _ cs cs' _ _ _ hl hk ⟨u, h, k⟩ => by
    obtain ⟨u', h', hlk⟩ := one_of (u := u) h hl hk
    exact ⟨u', h', hlk.sc k⟩
instance : Lo UInt32 where
  rel := fun _ _ cs _ => ∃ u, cs = [u] ∧ scK 2 u
  of := fun _ x cs _ h => ⟨_, h, x, rfl⟩
  len := fun _ _ _ _ ⟨_, h, _⟩ => by rw [h]; rfl
  one := fun _ _ _ _ ⟨_, h, k⟩ => by rw [h]; simpa using (scK_one k).1
  like := fun _ _ _ cs cs' _ _ _ hl hk ⟨u, h, k⟩ => by
    obtain ⟨u', h', hlk⟩ := one_of (u := u) h hl hk
    exact ⟨u', h', hlk.sc k⟩
instance : Lo Bool where
  rel := fun _ _ cs _ => ∃ u, cs = [u] ∧ scK 3 u
  of := fun _ x cs _ h => ⟨_, h, x, rfl⟩
  len := fun _ _ _ _ ⟨_, h, _⟩ => by rw [h]; rfl
  one := fun _ _ _ _ ⟨_, h, k⟩ => by rw [h]; simpa using (scK_one k).1
  like := fun _ _ _ cs cs' _ _ _ hl hk ⟨u, h, k⟩ => by
    obtain ⟨u', h', hlk⟩ := one_of (u := u) h hl hk
    exact ⟨u', h', hlk.sc k⟩
instance : Lo Str where
  rel := fun _ x cs _ => cs = [.string ⟨x.s.toArray⟩]
  of := fun _ _ _ _ h => h
  len := fun _ _ _ _ h => by rw [h]; rfl
  one := fun _ _ _ _ h => by rw [h]; simp [Value.oneCell']
  like := fun _ _ _ cs cs' _ _ _ hl hk h => by
    obtain ⟨u', h', hlk⟩ := one_of (u := .string ⟨#[]⟩) h hl hk
    rw [h', hlk.string]

theorem likeCells {w w' : World} {F F' : Nat → Prop} (h : LikeW w w' F F') {ad : Addr} (hF : F ad.block) (hb : ad.block < w.heap.size) : ∀ es : List Value, CellsAt w ad es →
    ∃ es' : List Value, CellsAt w' ad es' ∧ es'.length = es.length ∧ ∀ (j : Nat) u u', es[j]? = some u → es'[j]? = some u' → Like u u' := fun es hc => by
  have key : ∀ (n : Nat), n ≤ es.length → ∃ es' : List Value, es'.length = n ∧ (∀ (j : Nat) u, es'[j]? = some u → w'.cell? (ad.add j) = some u ∧ w'.frozen? (ad.add j) = false) ∧ ∀ (j : Nat) u u', es[j]? = some u → es'[j]? = some u' → Like u u' := by
    intro n
    induction n with
    | zero => intro _; exact ⟨[], rfl, fun j u hj => by simp at hj, fun j u u' _ hj => by simp at hj⟩
    | succ n ih =>
      intro hn
      obtain ⟨es', h1, h2, h3⟩ := ih (by omega)
      have hn2 : n < es.length := by omega
      obtain ⟨c1, c2⟩ := hc n es[n] (List.getElem?_eq_getElem hn2)
      obtain ⟨u', k1, k2, k3⟩ := h.cell (ad.add n) es[n] (by rw [Addr.add_block]; exact hb) (by rw [Addr.add_block]; exact hF) c1 c2
      refine ⟨es' ++ [u'], by simp [h1], fun j u hj => ?_, fun j u v hj hj' => ?_⟩
      · rcases Nat.lt_or_ge j es'.length with hlt | hge
        · rw [List.getElem?_append_left hlt] at hj; exact h2 j u hj
        · rw [List.getElem?_append_right hge] at hj
          have hj0 : j - es'.length = 0 := by have := (List.getElem?_eq_some_iff.1 hj).1; simp at this; omega
          rw [hj0] at hj
          simp only [List.getElem?_cons_zero, Option.some.injEq] at hj
          subst hj
          have : j = n := by omega
          subst this
          exact ⟨k1, k2⟩
      · rcases Nat.lt_or_ge j es'.length with hlt | hge
        · rw [List.getElem?_append_left hlt] at hj'; exact h3 j u v hj hj'
        · rw [List.getElem?_append_right hge] at hj'
          have hj0 : j - es'.length = 0 := by have := (List.getElem?_eq_some_iff.1 hj').1; simp at this; omega
          rw [hj0] at hj'
          simp only [List.getElem?_cons_zero, Option.some.injEq] at hj'
          subst hj'
          have : j = n := by omega
          subst this
          rw [List.getElem?_eq_getElem hn2] at hj
          cases hj
          exact k3
  obtain ⟨es', h1, h2, h3⟩ := key es.length (Nat.le_refl _)
  exact ⟨es', h2, h1, h3⟩

instance {α : Type} [R : Rp α] [L : Lo α] : Lo (List α) where
  rel := fun F l cs w => ∃ (a : Option Addr) (c : Nat), cs = [.slice a l.length c] ∧ l.length ≤ c ∧ (a = none → l = [] ∧ c = 0) ∧
    ∀ ad, a = some ad → ∀ (i : Nat) (x : α), l[i]? = some x → F ad.block ∧ ad.block < w.heap.size ∧ ∃ es, CellsAt w (ad.add (i * R.n)) es ∧ L.rel F x es w
  of := fun F l cs w h => by
    obtain ⟨a, c, h1, h2, h3, h4⟩ := h
    refine ⟨a, c, h1, h2, h3, fun ad ha i x hx => ?_⟩
    obtain ⟨k1, k2, es, k3, k4⟩ := h4 ad ha i x hx
    exact ⟨k1, k2, es, k3, L.of F x es w k4⟩
  len := fun _ _ _ _ h => by obtain ⟨a, c, h, _⟩ := h; rw [h]; rfl
  one := fun _ _ _ _ h => by obtain ⟨a, c, h, _⟩ := h; rw [h]; simp [Value.oneCell']
  like := fun F F' l cs cs' w w' hW hl hk h => by
    obtain ⟨a, c, h1, h2, h3, h4⟩ := h
    obtain ⟨u', h5, h6⟩ := one_of (u := .bool true) h1 hl hk
    refine ⟨a, c, by rw [h5, h6.slice], h2, h3, fun ad ha i x hx => ?_⟩
    obtain ⟨k1, k2, es, k3, k4⟩ := h4 ad ha i x hx
    obtain ⟨es', j1, j2, j3⟩ := likeCells hW (ad := ad.add (i * R.n)) (by rw [Addr.add_block]; exact k1) (by rw [Addr.add_block]; exact k2) es k3
    exact ⟨hW.f _ k2 k1, Nat.lt_of_lt_of_le k2 hW.size, es', j1, L.like F F' x es es' w w' hW j2 j3 k4⟩
instance {α β : Type} [A : Rp α] [B : Rp β] [LA : Lo α] [LB : Lo β] : Lo (α × β) where
  rel := fun F x cs w => ∃ c1 c2, cs = c1 ++ c2 ∧ LA.rel F x.1 c1 w ∧ LB.rel F x.2 c2 w
  of := fun F x cs w h => by obtain ⟨c1, c2, h, h1, h2⟩ := h; exact ⟨c1, c2, h, LA.of _ _ _ _ h1, LB.of _ _ _ _ h2⟩
  len := fun F x cs w h => by obtain ⟨c1, c2, rfl, h1, h2⟩ := h; rw [List.length_append, LA.len _ _ _ _ h1, LB.len _ _ _ _ h2]; rfl
  one := fun F x cs w h => by
    obtain ⟨c1, c2, rfl, h1, h2⟩ := h
    intro c hc
    rcases List.mem_append.1 hc with hc | hc
    · exact LA.one _ _ _ _ h1 c hc
    · exact LB.one _ _ _ _ h2 c hc
  like := fun F F' x cs cs' w w' hW hl hk h => by
    obtain ⟨c1, c2, rfl, h1, h2⟩ := h
    have hl1 := LA.len _ _ _ _ h1
    have hl2 := LB.len _ _ _ _ h2
    rw [List.length_append] at hl
    refine ⟨cs'.take c1.length, cs'.drop c1.length, (List.take_append_drop _ _).symm, LA.like F F' x.1 c1 _ w w' hW (by simp; omega) (fun j u u' hj hj' => ?_) h1, LB.like F F' x.2 c2 _ w w' hW (by simp; omega) (fun j u u' hj hj' => ?_) h2⟩
    · have hjl : j < c1.length := (List.getElem?_eq_some_iff.1 hj).1
      rw [List.getElem?_take_of_lt hjl] at hj'
      exact hk j u u' (by rw [List.getElem?_append_left hjl]; exact hj) hj'
    · rw [List.getElem?_drop] at hj'
      exact hk (c1.length + j) u u' (by rw [List.getElem?_append_right (by omega), Nat.add_sub_cancel_left]; exact hj) hj'
abbrev Lo.via {α β : Type} (B : Rp β) (L : @Lo β B) (f : α → β) : @Lo α (Rp.via B f) :=
  @Lo.mk α (Rp.via B f) (fun F x cs w => L.rel F (f x) cs w) (fun F x cs w h => L.of F (f x) cs w h) (fun F x cs w h => L.len F (f x) cs w h) (fun F x cs w h => L.one F (f x) cs w h)
    (fun F F' x cs cs' w w' h1 h2 h3 h4 => L.like F F' (f x) cs cs' w w' h1 h2 h3 h4)

/-- A datum of which only the form is known. -/
def Fact.lo {α : Type} [R : Rp α] [L : Lo α] (T : List Nat) (x : α) : Fact where
  tags := T
  ids := []
  p := fun g v w => ∃ cs, L.rel (fun b => g.om b ∈ T) x cs w ∧ v = mkV R.agg cs
  stab := fun g g' v w w' hk h => by
    obtain ⟨cs, h1, h2⟩ := h
    exact ⟨cs, L.like _ _ x cs cs w w' (LikeW.same hk.size (fun b hb ht => ⟨(hk.block b hb ht).1, by rw [(hk.block b hb ht).2]; exact ht⟩)) rfl (fun j u u' h1 h2 => by rw [h1] at h2; cases h2; exact .refl u) h1, h2⟩
def Fact.lptr {α : Type} [R : Rp α] [L : Lo α] (T : List Nat) (x : α) : Fact where
  tags := T
  ids := []
  p := fun g v w => ∃ ad, v = .pointer (some ad) ∧ g.om ad.block ∈ T ∧ ad.block < w.heap.size ∧ ∃ es, CellsAt w ad es ∧ L.rel (fun b => g.om b ∈ T) x es w
  stab := fun g g' v w w' hk h => by
    obtain ⟨ad, hv, ht, hlt, es, he, hr⟩ := h
    have hb := hk.block ad.block hlt ht
    exact ⟨ad, hv, by rw [hb.2]; exact ht, Nat.lt_of_lt_of_le hlt hk.size, es, he.stab hb.1,
      L.like _ _ x es es w w' (LikeW.same hk.size (fun b hb ht => ⟨(hk.block b hb ht).1, by rw [(hk.block b hb ht).2]; exact ht⟩)) rfl (fun j u u' h1 h2 => by rw [h1] at h2; cases h2; exact .refl u) hr⟩
end GL
