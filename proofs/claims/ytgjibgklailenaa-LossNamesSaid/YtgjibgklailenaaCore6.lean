/- Own library, part 6: memory of the call's own. -/
import Derived.Test.YtgjibgklailenaaCore5
import Derived.Laws.OwnMore
namespace GL
open Go

/-- The cells of a list of data. -/
def RelL {α : Type} [R : Rp α] (F : Nat → Prop) : List α → List Value → World → Prop
  | [], cs, _ => cs = []
  | x :: l, cs, w => ∃ c1 c2, cs = c1 ++ c2 ∧ R.rel F x c1 w ∧ RelL F l c2 w

section
variable {α : Type} [R : Rp α] {F F' : Nat → Prop} {w w' : World}

theorem RelL.stab (hs : w.heap.size ≤ w'.heap.size) (hk : ∀ b, b < w.heap.size → F b → w'.heap[b]? = w.heap[b]? ∧ F' b) : ∀ (l : List α) (cs : List Value), RelL F l cs w → RelL F' l cs w'
  | [], _, h => h
  | x :: l, cs, h => by
    obtain ⟨c1, c2, h, h1, h2⟩ := h
    exact ⟨c1, c2, h, R.stab F F' x c1 w w' hs hk h1, RelL.stab hs hk l c2 h2⟩
theorem RelL.len : ∀ (l : List α) (cs : List Value), RelL F l cs w → cs.length = l.length * R.n
  | [], cs, h => by rw [show cs = [] from h]; simp
  | x :: l, cs, h => by
    obtain ⟨c1, c2, rfl, h1, h2⟩ := h
    rw [List.length_append, R.len _ _ _ _ h1, RelL.len l c2 h2, List.length_cons, Nat.add_mul]; omega
theorem RelL.one : ∀ (l : List α) (cs : List Value), RelL F l cs w → ∀ c ∈ cs, c.oneCell' = true
  | [], cs, h => by rw [show cs = [] from h]; simp
  | x :: l, cs, h => by
    obtain ⟨c1, c2, rfl, h1, h2⟩ := h
    intro c hc
    rcases List.mem_append.1 hc with hc | hc
    · exact R.one _ _ _ _ h1 c hc
    · exact RelL.one l c2 h2 c hc
theorem RelL.app : ∀ (l m : List α) (cs ds : List Value), RelL F l cs w → RelL F m ds w → RelL F (l ++ m) (cs ++ ds) w
  | [], m, cs, ds, h, k => by rw [show cs = [] from h]; exact k
  | x :: l, m, cs, ds, h, k => by
    obtain ⟨c1, c2, rfl, h1, h2⟩ := h
    exact ⟨c1, c2 ++ ds, by simp, h1, RelL.app l m c2 ds h2 k⟩
theorem RelL.get : ∀ (l : List α) (cs : List Value), RelL F l cs w → ∀ (i : Nat) (x : α), l[i]? = some x → ∃ es, R.rel F x es w ∧ ∀ (j : Nat) (u : Value), es[j]? = some u → cs[i * R.n + j]? = some u
  | [], _, _, i, x, hx => by simp at hx
  | y :: l, cs, h, i, x, hx => by
    obtain ⟨c1, c2, rfl, h1, h2⟩ := h
    have hl1 := R.len _ _ _ _ h1
    cases i with
    | zero =>
      simp at hx
      subst hx
      refine ⟨c1, h1, fun j u hj => ?_⟩
      have : j < c1.length := (List.getElem?_eq_some_iff.1 hj).1
      simp only [Nat.zero_mul, Nat.zero_add]
      rw [List.getElem?_append_left this]; exact hj
    | succ i =>
      simp at hx
      obtain ⟨es, he, hc⟩ := RelL.get l c2 h2 i x hx
      refine ⟨es, he, fun j u hj => ?_⟩
      rw [show (i + 1) * R.n + j = c1.length + (i * R.n + j) by rw [hl1, Nat.add_mul]; omega]
      rw [List.getElem?_append_right (by omega)]
      rw [show c1.length + (i * R.n + j) - c1.length = i * R.n + j by omega]
      exact hc j u hj
theorem RelL.rep {x : α} {c : List Value} (h : R.rel F x c w) : ∀ n : Nat, RelL F (List.replicate n x) (List.replicate n c).flatten w
  | 0 => rfl
  | n + 1 => by
    rw [List.replicate_succ, List.replicate_succ, List.flatten_cons]
    exact ⟨c, _, rfl, h, RelL.rep h n⟩
theorem RelL.set : ∀ (l : List α) (cs : List Value), RelL F l cs w → ∀ (i : Nat) (x : α) (es : List Value), i < l.length → R.rel F x es w →
    RelL F (l.set i x) (cs.take (i * R.n) ++ es ++ cs.drop (i * R.n + R.n)) w
  | [], _, _, i, x, es, hi, _ => by simp at hi
  | y :: l, cs, h, i, x, es, hi, he => by
    obtain ⟨c1, c2, rfl, h1, h2⟩ := h
    have hl1 := R.len _ _ _ _ h1
    cases i with
    | zero =>
      simp only [Nat.zero_mul, List.take_zero, List.nil_append, Nat.zero_add, List.set_cons_zero]
      exact ⟨es, c2, by rw [← hl1, List.drop_left], he, h2⟩
    | succ i =>
      have := RelL.set l c2 h2 i x es (by simpa using hi) he
      refine ⟨c1, _, ?_, h1, this⟩
      rw [show (i + 1) * R.n = c1.length + i * R.n by rw [hl1, Nat.add_mul]; omega]
      rw [show c1.length + i * R.n + R.n = c1.length + (i * R.n + R.n) by omega]
      rw [List.take_append, List.drop_append]
      rw [List.take_of_length_le (show c1.length ≤ c1.length + i * R.n by omega)]
      rw [show c1.length + i * R.n - c1.length = i * R.n by omega, show c1.length + (i * R.n + R.n) - c1.length = i * R.n + R.n by omega]
      rw [List.drop_of_length_le (show c1.length ≤ c1.length + (i * R.n + R.n) by omega)]
      simp
end

/-- The block in which an owner's memory lies. -/
def ownB : Value → Option Nat
  | .slice (some a) _ _ => some a.block
  | .pointer (some a) => some a.block
  | _ => none

/-- A slice of the call's own: its elements. -/
def Fact.own {α : Type} [R : Rp α] (t : Nat) (te : List Nat) (e : TypeId) (l : List α) : Fact where
  tags := t :: te
  ids := [t]
  p := fun g _ w => ∃ xs, w.ownsRow 0 e R.n (g.ga t) l.length xs ∧ RelL (fun b => g.om b ∈ te) l xs w ∧ ∀ b, (g.ga t).ownBlock = some b → g.om b = t
  stab := fun g g' v w w' hk h => by
    obtain ⟨xs, h1, h2, h3⟩ := h
    have hid := hk.ids t (by simp)
    refine ⟨xs, ?_, RelL.stab hk.size (fun b hb ht => ⟨(hk.block b hb (List.mem_cons_of_mem _ ht)).1, by rw [(hk.block b hb (List.mem_cons_of_mem _ ht)).2]; exact ht⟩) l xs h2, ?_⟩
    · rw [hid]
      refine ⟨h1.1, ?_⟩
      rcases h1.2 with hn | ⟨b, cap, cur, hv, h0, hb, rest⟩
      · exact .inl hn
      · refine .inr ⟨b, cap, cur, hv, h0, ?_, rest⟩
        have hlt : b < w.heap.size := (Array.getElem?_eq_some_iff.1 hb).1
        rw [(hk.block b hlt (by rw [h3 b (by rw [hv]; rfl)]; simp)).1]
        exact hb
    · rw [hid]
      intro b hb
      have hlt := (h1.lt b hb).2
      rw [(hk.block b hlt (by rw [h3 b hb]; simp)).2]
      exact h3 b hb

/-- An array variable of the call's own. -/
def Fact.arr {α : Type} [R : Rp α] (t : Nat) (te : List Nat) (n : Nat) (l : List α) : Fact where
  tags := t :: te
  ids := [t]
  p := fun g _ w => ∃ b ty cs, g.ga t = .pointer (some ⟨b, 0, none⟩) ∧ w.heap[b]? = some (.cells cs ty (0, 0)) ∧ RelL (fun b => g.om b ∈ te) l cs.toList w ∧ g.om b = t ∧ l.length = n
  stab := fun g g' v w w' hk h => by
    obtain ⟨b, ty, cs, h1, h2, h3, h4, h5⟩ := h
    have hid := hk.ids t (by simp)
    have hlt : b < w.heap.size := (Array.getElem?_eq_some_iff.1 h2).1
    have hb := hk.block b hlt (by rw [h4]; simp)
    exact ⟨b, ty, cs, by rw [hid]; exact h1, by rw [hb.1]; exact h2,
      RelL.stab hk.size (fun b hb ht => ⟨(hk.block b hb (List.mem_cons_of_mem _ ht)).1, by rw [(hk.block b hb (List.mem_cons_of_mem _ ht)).2]; exact ht⟩) l _ h3, by rw [hb.2]; exact h4, h5⟩

/-- A pointer into an owner's memory: so many elements of so many cells in. -/
def Fact.pto (t : Nat) (n : Nat) : Fact where
  tags := []
  ids := [t]
  p := fun g v _ => ∃ b, ownB (g.ga t) = some b ∧ v = .pointer (some ⟨b, n, none⟩)
  stab := fun g g' v w w' hk h => by rw [hk.ids t (by simp)]; exact h

/-- The slot of an owner's memory. -/
def rs (t : Nat) : Nat := 100000 + t

structure OwnTy (P : Program) (t e : TypeId) (α : Type) [R : Rp α] : Prop where
  und : P.underlying t = some (.slice e)
  el : Ty P e α
  pos : 0 < R.n
  info : ∃ i z, P.info? e = some i ∧ i.zero = some z ∧ i.size = R.n ∧ i.bytes ≤ 32768 ∧ z.cells.size = R.n

theorem OwnTy.sl {P : Program} {t e : TypeId} {α : Type} [R : Rp α] (h : OwnTy P t e α) : SlTy P t e α := ⟨h.und, h.el, h.pos⟩

/-- Lists that grow: within bounds. -/
def app {α : Type} (l m : List α) : Option (List α) := if l.length + m.length < 4294967296 then some (l ++ m) else none

/-- An operation, and what is known behind it, ahead of all that was known. -/
def Step (X : Cx) (G : List It) (o : Oper) (I : List It) : Prop := ∀ G', Sub G' G → ∀ a w, Env X G' a w → Yields X.P o a w (fun v w' => Env X (I ++ G') (a.put o.dst v) w')
theorem Walk.step {X : Cx} {G I : List It} {Q : Exit → Act → World → Prop} {ops : Array Oper} {rest : List Oper} {o : Oper} (hg : o.guard = none)
    (h : Step X G o I) (k : Walk X ops Q (I ++ G) rest) (hnd : ndB o.op = true := by rfl) : Walk X ops Q G (o :: rest) := fun a w e =>
  wpListIn_plain hg fun K hK => wpIn_of hnd <| h G (fun _ _ _ h => h) a w e K Q (fun _ _ he => hK _ _ (k _ _ he))
theorem Env.at {X : Cx} {G G' : List It} {a : Act} {w : World} (hs : Sub G' G) (e : Env X G' a w) : Env X G a w := e.sub hs

/-- The ghost behind a change of one owner's memory. -/
def ghOwn (g : Gh) (n t : Nat) (v : Value) : Gh := ⟨fun b => if b < n then g.om b else t, fun s => if s = t then v else g.ga s⟩

/-- The facts that stand behind a change of owner t: those that lean on neither its memory nor its value. -/
theorem facts_killed {G : List It} {g g' : Gh} {a : Act} {w w' : World} {t : Nat} (h : Facts G g a w) (hs : w.heap.size ≤ w'.heap.size)
    (hb : ∀ b, b < w.heap.size → g.om b ≠ t → w'.heap[b]? = w.heap[b]?) (hom : ∀ b, b < w.heap.size → g'.om b = g.om b) (hga : ∀ s, s ≠ t → g'.ga s = g.ga s) : Facts (.killId t :: .kill t :: G) g' a w' := fun s f hl => by
  have hl1 : lookK G [t] [t] s = some f := hl
  have hd := lookK_disj G [t] [t] s f hl1
  have h1 := disj_spec hd.1 (show t ∈ [t] by simp)
  have h2 := disj_spec hd.2 (show t ∈ [t] by simp)
  have hl2 : look G s = some f := lookK_sub G [t] [] [t] [] s f (by simp) (by simp) hl1
  refine f.stab g g' _ w w' ⟨hs, fun b hbl ht => ⟨hb b hbl (fun he => h1 (he ▸ ht)), hom b hbl⟩, fun s' hs' => hga s' (fun he => h2 (he ▸ hs'))⟩ (h s f hl2)

/-- The same, where no block has turned. -/
theorem facts_killedId {G : List It} {g g' : Gh} {a : Act} {w w' : World} {t : Nat} (h : Facts G g a w) (hs : w.heap.size ≤ w'.heap.size)
    (hb : ∀ b, b < w.heap.size → w'.heap[b]? = w.heap[b]?) (hom : ∀ b, b < w.heap.size → g'.om b = g.om b) (hga : ∀ s, s ≠ t → g'.ga s = g.ga s) : Facts (.killId t :: G) g' a w' := fun s f hl => by
  have hl1 : lookK G [] [t] s = some f := hl
  have hd := lookK_disj G [] [t] s f hl1
  have h2 := disj_spec hd.2 (show t ∈ [t] by simp)
  have hl2 : look G s = some f := lookK_sub G [] [] [t] [] s f (by simp) (by simp) hl1
  refine f.stab g g' _ w w' ⟨hs, fun b hbl ht => ⟨hb b hbl, hom b hbl⟩, fun s' hs' => hga s' (fun he => h2 (he ▸ hs'))⟩ (h s f hl2)

theorem facts_killed' {G : List It} {g : Gh} {a : Act} {w w' : World} {t : Nat} (h : Facts G g a w) (hs : w.heap.size ≤ w'.heap.size)
    (hb : ∀ b, b < w.heap.size → g.om b ≠ t → w'.heap[b]? = w.heap[b]?) : Facts (.kill t :: G) g a w' := fun s f hl => by
  have hl1 : lookK G [t] [] s = some f := hl
  have hd := lookK_disj G [t] [] s f hl1
  have h1 := disj_spec hd.1 (show t ∈ [t] by simp)
  have hl2 : look G s = some f := lookK_sub G [t] [] [] [] s f (by simp) (by simp) hl1
  exact f.stab g g _ w w' ⟨hs, fun b hbl ht => ⟨hb b hbl (fun he => h1 (he ▸ ht)), rfl⟩, fun _ _ => rfl⟩ (h s f hl2)

theorem lookK_nil_spec {d : Nat} {f : Fact} {G : List It} {s : Nat} {f' : Fact} (hl : look (.fact d f :: G) s = some f') : (d = s ∧ f' = f) ∨ (d ≠ s ∧ look G s = some f') := by
  simp only [look, lookK] at hl
  cases hb : Nat.beq d s with
  | true =>
    left
    simp only [hb, cond_true] at hl
    refine ⟨Nat.eq_of_beq_eq_true hb, ?_⟩
    cases hc : (disj f.tags [] && disj f.ids []) with
    | true => simp only [hc, cond_true, Option.some.injEq] at hl; exact hl.symm
    | false => simp [hc] at hl
  | false =>
    right
    simp only [hb, cond_false] at hl
    exact ⟨fun he => by subst he; simp at hb, hl⟩

/-- A fact whose slot is no real one. -/
theorem Facts.ghost {G : List It} {g : Gh} {a : Act} {w : World} {s : Nat} {f : Fact} (h : Facts G g a w) (hp : ∀ v, f.p g v w) : Facts (.fact s f :: G) g a w := fun s' f' hl => by
  rcases lookK_nil_spec hl with ⟨rfl, rfl⟩ | ⟨_, hl⟩
  · exact hp _
  · exact h s' f' hl

theorem GhE.own {X : Cx} {w w' : World} {g : Gh} (h : GhE X w g) {t : Nat} {v : Value} (ht : 10 ≤ t) (h0 : X.w0.heap.size ≤ w.heap.size) : GhE X w' (ghOwn g w.heap.size t v) := by
  refine ⟨⟨fun b hb => ?_, fun b hb hb' => ?_⟩, fun b hb => ?_⟩
  · simp only [ghOwn]; rw [if_pos (by omega)]; exact h.ok.old b hb
  · simp only [ghOwn]; split
    · exact h.ok.new b hb (by assumption)
    · exact ht
  · simp only [ghOwn]; rw [if_pos (by omega)]; exact h.om b hb

/-- A block changed that has a tag from 10 on is none that was there. -/
theorem Fr.own {X : Cx} {w w' : World} {g : Gh} (hfr : Fr X.C X.w0 w) (h : GhE X w g) {t : Nat} (ht : 10 ≤ t) (hg : w.grownBy w' (some 0) ∨ True)
    (hos : w'.os = w.os) (htape : w'.tape = w.tape) (hout : w'.output = w.output) (hs : w.heap.size ≤ w'.heap.size)
    (hb : ∀ b, b < w.heap.size → g.om b ≠ t → w'.heap[b]? = w.heap[b]?) : Fr X.C X.w0 w' :=
  ⟨hos.trans hfr.os, htape.trans hfr.tape, hout.trans hfr.output, Nat.le_trans hfr.size hs, fun k hk hn =>
    (hb k (Nat.lt_of_lt_of_le hk hfr.size) (fun he => by have := h.ok.old k hk; omega)).trans (hfr.block k hk hn)⟩

section
variable {X : Cx} {G : List It} {Q : Exit → Act → World → Prop} {ops : Array Oper} {rest : List Oper} {d : Nat} {ty : TypeId} {pos : String} {af : Array Edge}

/-- var x []T: an owner of nothing. -/
theorem Step.ownNil {α : Type} [R : Rp α] (t : Nat) (e : TypeId) (ht : Nat.ble 10 t = true) (hd : Nat.blt d X.n = true) :
    Step X G ⟨some d, .assign (.const (.slice none 0 0)), ty, pos, af, none⟩ [.fact d (.isv t), .fact (rs t) (.own t [] e ([] : List α)), .killId t] := fun G' hsub a w env K Q hK => by
    have ht' : 10 ≤ t := by simpa using ht
    have hd' : d < X.n := by simpa [Nat.blt_eq] using hd
    obtain ⟨g, hg, hf'⟩ := env.facts
    have hf := hsub a w g hf'
    unfold Oper.wp
    refine hK (.slice none 0 0) w ?_
    refine ⟨by simp [Act.put, env.size], env.defers, env.fr, ghOwn g w.heap.size t (.slice none 0 0), hg.own ht' env.fr.size, ?_⟩
    refine Facts.put (by rw [env.size]; exact hd') ?_ (by simp [Fact.isv, ghOwn])
    refine Facts.ghost ?_ (fun v => ⟨[], by simp only [ghOwn, if_true]; exact World.ownsRow_nil w 0 e R.n, rfl, by simp [ghOwn, Value.ownBlock]⟩)
    exact facts_killedId hf' (Nat.le_refl _) (fun _ _ => rfl) (fun b hb => by simp [ghOwn, hb]) (fun s hs => by simp [ghOwn, hs])

/-- The zero value of a type. -/
def ZeroTy {α : Type} [R : Rp α] (P : Program) (e : TypeId) (z : α) : Prop := ∃ zv, (P.info? e).bind (·.zero) = some zv ∧ ∀ w, R.rel (fun _ => False) z zv.cells.toList w

/-- make([]T, n). -/
def makeL {α : Type} (z : α) (n : Int) : Option (List α) := if 0 ≤ n ∧ n < 4294967296 then some (List.replicate n.toNat z) else none

theorem madeCells_flatten (z : List Value) : ∀ n : Nat, (madeCells z.toArray (n * z.length)).toList = (List.replicate n z).flatten := by
  intro n
  apply List.ext_getElem?
  intro j
  by_cases hz : z.length = 0
  · have : z = [] := List.eq_nil_of_length_eq_zero hz
    subst this
    simp [madeCells]
  have hflat : ∀ m : Nat, ((List.replicate m z).flatten)[j]? = if j < m * z.length then z[j % z.length]? else none := by
    intro m
    induction m generalizing j with
    | zero => simp
    | succ m ih =>
      rw [List.replicate_succ, List.flatten_cons]
      by_cases hj : j < z.length
      · rw [List.getElem?_append_left hj, Nat.mod_eq_of_lt hj, if_pos (by rw [Nat.add_mul]; omega)]
      · rw [List.getElem?_append_right (by omega), ih]
        have h1 : (j - z.length) % z.length = j % z.length := by
          rw [Nat.mod_eq_sub_mod (show z.length ≤ j by omega)]
        rw [h1]
        by_cases h2 : j < (m + 1) * z.length
        · rw [if_pos h2, if_pos (by rw [Nat.add_mul] at h2; omega)]
        · rw [if_neg h2, if_neg (by rw [Nat.add_mul] at h2; omega)]
  rw [hflat]
  by_cases hj : j < n * z.length
  · have hm : j % z.length < z.length := Nat.mod_lt _ (by omega)
    simp [madeCells, hj, hm]
  · simp [madeCells, hj]

theorem Step.makeOwn {α : Type} [R : Rp α] {n : Operand} {m : Int} {T : List Nat} {z : α} {l : List α} (t : Nat) {ts e : TypeId} (hl : makeL z m = some l) (ht : Nat.ble 10 t = true) (hd : Nat.blt d X.n = true) (hty : OwnTy X.P ts e α)
    (hz : ZeroTy X.P e z)
    (hn : Has G n (Fact.rep T m)) :
    Step X G ⟨some d, .makeSlice ts n n, ty, pos, af, none⟩ [.fact d (.isv t), .fact (rs t) (.own t [] e l), .killId t] := fun G' hsub a w env K Q hK => by
    have ht' : 10 ≤ t := by simpa using ht
    have hd' : d < X.n := by simpa [Nat.blt_eq] using hd
    obtain ⟨g, hg, hf'⟩ := env.facts
    have hf := hsub a w g hf'
    have hnv := rep_int.1 (hn a w g hf)
    unfold makeL at hl
    split at hl
    case isFalse => cases hl
    rename_i hm
    cases hl
    obtain ⟨i, zv, hi, hiz, hisz, hby, hzs⟩ := hty.info
    have hbytes : i.bytes * m.toNat ≤ 281474976710656 := by
      have : i.bytes * m.toNat ≤ 32768 * 4294967296 := Nat.mul_le_mul hby (by omega)
      omega
    obtain ⟨w', hr, hown, hgr⟩ := run_make_full (P := X.P) w 0 ts e i zv R.n hty.und hi hiz hisz .i64 .i64 m.toNat hbytes (by simp only [maxLen]; omega) (Nat.zero_le _)
    have hrun : (execOp a.eval ⟨some d, .makeSlice ts n n, ty, pos, af, none⟩).run X.P w = .ok (.value (.slice (some ⟨w.heap.size, 0, none⟩) m.toNat m.toNat)) w' := by
      have hm' : ((m.toNat : Nat) : Int) = m := by omega
      rw [hm'] at hr
      unfold execOp
      simp [hnv, hr]
    unfold Oper.wp
    rw [hrun]
    refine hK _ w' ?_
    have hb : ∀ b, b < w.heap.size → w'.heap[b]? = w.heap[b]? := fun b hb => hgr.block b hb (by simp)
    refine ⟨by simp [Act.put, env.size], env.defers, Fr.own env.fr hg ht' (.inr trivial) hgr.os hgr.tape hgr.output hgr.size (fun b hb' _ => hb b hb'),
      ghOwn g w.heap.size t (.slice (some ⟨w.heap.size, 0, none⟩) m.toNat m.toNat), hg.own ht' env.fr.size, ?_⟩
    refine Facts.put (by rw [env.size]; exact hd') ?_ (by simp [Fact.isv, ghOwn])
    refine Facts.ghost ?_ (fun v => ⟨_, by simp only [ghOwn, if_true, List.length_replicate]; exact hown, ?_, by simp [ghOwn, Value.ownBlock]⟩)
    · exact facts_killedId hf' hgr.size (fun b hb' => hb b hb') (fun b hb => by simp [ghOwn, hb]) (fun s hs => by simp [ghOwn, hs])
    · have h1 := madeCells_flatten zv.cells.toList m.toNat
      simp only [Array.toArray_toList, Array.length_toList, hzs] at h1
      rw [h1]
      refine RelL.rep ?_ m.toNat
      obtain ⟨zv', hz1, hz2⟩ := hz
      rw [hi] at hz1
      simp only [Option.bind_some, hiz, Option.some.injEq] at hz1
      subst hz1
      exact R.stab _ _ z _ w' w' (Nat.le_refl _) (fun _ _ h => h.elim) (hz2 w')

theorem Addr.add_add (a : Addr) (p q : Nat) : (a.add p).add q = a.add (p + q) := by
  unfold Addr.add
  by_cases hp : p = 0 <;> by_cases hq : q = 0 <;> simp [hp, hq, Nat.add_assoc]

/-- The cells of a slice that is read, one after the other. -/
theorem cells_of_rep {α : Type} [R : Rp α] {F : Nat → Prop} {w : World} {ad : Addr} : ∀ (m : List α) (k : Nat), (∀ (i : Nat) (y : α), m[i]? = some y → ∃ es, CellsAt w (ad.add ((k + i) * R.n)) es ∧ R.rel F y es w) →
    ∃ news, RelL F m news w ∧ CellsAt w (ad.add (k * R.n)) news
  | [], _, _ => ⟨[], rfl, fun j u hj => by simp at hj⟩
  | y :: m, k, h => by
    obtain ⟨es, hes, hey⟩ := h 0 y rfl
    obtain ⟨news, hn1, hn2⟩ := cells_of_rep m (k + 1) (fun i z hz => by
      obtain ⟨es', h1, h2⟩ := h (i + 1) z hz
      exact ⟨es', by rw [show k + 1 + i = k + (i + 1) by omega]; exact h1, h2⟩)
    have hel := R.len _ _ _ _ hey
    refine ⟨es ++ news, ⟨es, news, rfl, hey, hn1⟩, fun j u hj => ?_⟩
    by_cases hjl : j < es.length
    · rw [List.getElem?_append_left hjl] at hj
      exact hes j u hj
    · rw [List.getElem?_append_right (by omega)] at hj
      have h1 := hn2 _ u hj
      have h2 : k * R.n + j = (k + 1) * R.n + (j - es.length) := by rw [Nat.add_mul, hel]; omega
      rw [Addr.add_add, h2, ← Addr.add_add]
      exact h1

/-- append, as it runs on a slice of the call's own and one that is read. -/
theorem run_append {P : Program} {α : Type} [R : Rp α] {F : Nat → Prop} {w : World} {ts e ty : TypeId} (hty : OwnTy P ts e α) {v xv : Value} {n : Nat} {m : List α} {xs : List Value}
    (hlen : n + m.length < 4294967296) (hown : w.ownsRow 0 e R.n v n xs) (hx : Rep F m xv w) :
    ∃ v' w' news, (Builtin.append_ #[ts, ts] ty #[v, xv]).run P w = .ok v' w' ∧ w'.ownsRow 0 e R.n v' (n + m.length) (xs ++ news) ∧ w.grownBy w' v.ownBlock ∧ RelL F m news w ∧
      ∀ b, v'.ownBlock = some b → v.ownBlock = some b ∨ b = w.heap.size := by
  obtain ⟨ad, c, rfl, hxc, hxn, hxcells⟩ := rep_list hx
  obtain ⟨i, zv, hi, hiz, hisz, hby, hzs⟩ := hty.info
  have hbytes : (n + m.length) * i.bytes ≤ 140737488355328 := by
    have : (n + m.length) * i.bytes ≤ 4294967296 * 32768 := Nat.mul_le_mul (by omega) hby
    omega
  cases ad with
  | none =>
    obtain ⟨hm0, hc0⟩ := hxn rfl
    subst hm0 hc0
    refine ⟨v, w, [], ?_, ?_, ⟨rfl, rfl, rfl, Nat.le_refl _, fun _ _ _ => rfl⟩, rfl, fun b hb => .inl hb⟩
    · exact run_append_owned_none (P := P) (w := w) 0 ts ty e i R.n hty.und hi _ _ xs hown
    · simpa using hown
  | some ad =>
    obtain ⟨news, hn1, hn2⟩ := cells_of_rep (w := w) (F := F) (ad := ad) m 0 (fun i y hy => by
      obtain ⟨_, _, es, h1, h2⟩ := hxcells ad rfl i y hy
      exact ⟨es, by simpa using h1, h2⟩)
    have hn2 : CellsAt w ad news := by simpa [Go.Addr.add_zero'] using hn2
    have hnl := RelL.len _ _ hn1
    obtain ⟨v', w', hrun, h2, h3, _⟩ := Go.run_append_own (P := P) w 0 ts ty e i zv R.n i.bytes hty.und hi hiz hisz rfl hzs hty.pos v n xs hown ad m.length c news
      hnl (fun j u hj => (hn2 j u hj).1) (RelL.one _ _ hn1) (by simp only [maxLen]; omega) hbytes (Nat.zero_le _)
    refine ⟨v', w', news, hrun, h2, h3, hn1, fun b hb => ?_⟩
    rcases hown.2 with ⟨rfl, rfl⟩ | ⟨g, cap, cur, rfl, hbg, hg, hnc, hcm, hcs, htake⟩
    · by_cases hm : m.length = 0
      · have h4 : v' = .slice none 0 0 := by
          have := ‹v' = .slice none 0 0 ↔ _›
          exact this.2 ⟨rfl, hm⟩
        rw [h4] at hb; cases hb
      · have hr := run_append_nil (P := P) w ts ty e i zv hty.und hi hiz ad m.length c news (by rw [hnl, hisz]) (fun j u hj => (hn2 j u hj).1) (by omega) (by omega) (by simp only [Nat.zero_add] at hbytes; omega)
        rw [hrun] at hr
        simp only [Result.ok.injEq] at hr
        rw [hr.1] at hb
        simp only [Value.ownBlock, Option.some.injEq] at hb
        exact .inr hb.symm
    · by_cases hroom : n + m.length ≤ cap
      · have hr := run_append_room (P := P) w ts ty e i hty.und hi g n cap cur hg ad m.length c news (by rw [hnl, hisz]) (fun j u hj => (hn2 j u hj).1) (RelL.one _ _ hn1) hroom
          (by rw [hnl, hcs, hisz, ← Nat.add_mul]; exact Nat.mul_le_mul_right _ hroom)
        rw [hrun] at hr
        simp only [Result.ok.injEq] at hr
        rw [hr.1] at hb
        exact .inl hb
      · have holds : ∀ j u, xs[j]? = some u → w.cell? ((⟨g, 0, none⟩ : Addr).add j) = some u := hown.cells (g := g) rfl
        have hr := run_append_grow (P := P) w ts ty e i zv hty.und hi hiz ⟨g, 0, none⟩ n cap xs (by rw [hown.1, hisz]) holds ad m.length c news (by rw [hnl, hisz]) (fun j u hj => (hn2 j u hj).1) (by omega) (by omega) (growslice_fits (by omega) hbytes)
        rw [hrun] at hr
        simp only [Result.ok.injEq] at hr
        rw [hr.1] at hb
        simp only [Value.ownBlock, Option.some.injEq] at hb
        exact .inr hb.symm

theorem RelL.flat {α : Type} [R : Rp α] [Fl : Flat α] {F F' : Nat → Prop} {w w' : World} : ∀ (l : List α) (cs : List Value), RelL F l cs w → RelL F' l cs w'
  | [], _, h => h
  | x :: l, cs, h => by
    obtain ⟨c1, c2, h, h1, h2⟩ := h
    exact ⟨c1, c2, h, Fl.flat _ _ _ _ _ _ h1, RelL.flat l c2 h2⟩

/-- What elements keep behind a change of owner t. -/
def ElKeep {α : Type} [R : Rp α] (t : Nat) (te te' : List Nat) : Prop := ∀ (F' : Nat → Prop) (g : Gh) (w w' : World) (l : List α) (cs : List Value), w.heap.size ≤ w'.heap.size →
  (∀ b, b < w.heap.size → g.om b ≠ t → w'.heap[b]? = w.heap[b]?) → (∀ b, b < w.heap.size → g.om b ∈ te' → F' b) → RelL (fun b => g.om b ∈ te) l cs w → RelL F' l cs w'
theorem ElKeep.flat {α : Type} [R : Rp α] [Flat α] {t : Nat} {te te' : List Nat} : ElKeep (α := α) t te te' := fun _ _ _ _ l cs _ _ _ h => h.flat l cs
theorem ElKeep.tags {α : Type} [R : Rp α] {t : Nat} {te te' : List Nat} (h1 : subB te te' = true) (h2 : te.elem t = false) : ElKeep (α := α) t te te' := fun F' g w w' l cs hs hb hF h => by
  refine RelL.stab hs (fun b hlt ht => ⟨hb b hlt (fun he => ?_), hF b hlt (subB_spec h1 _ ht)⟩) l cs h
  rw [he] at ht
  simp at h2
  exact h2 ht

/-- append to a slice of the call's own. -/
theorem Step.append {α : Type} [R : Rp α] {s x : Operand} {T te te' : List Nat} {l m r : List α} (t : Nat) {ts e : TypeId} (hr : app l m = some r) (ht : Nat.ble 10 t = true) (hd : Nat.blt d X.n = true) (hty : OwnTy X.P ts e α)
    (hs : Has G s (.isv t)) (hrs : look G (rs t) = some (.own t te e l)) (hx : Has G x (Fact.rep T m)) (hte : ElKeep (α := α) t te te') (hT : ElKeep (α := α) t T te') :
    Step X G ⟨some d, .call { callee := .builtin .append, args := #[s, x], argTypes := #[ts, ts] }, ty, pos, af, none⟩ [.fact d (.isv t), .fact (rs t) (.own t te' e r), .killId t, .kill t] := fun G' hsub a w env K Q hK => by
    have ht' : 10 ≤ t := by simpa using ht
    have hd' : d < X.n := by simpa [Nat.blt_eq] using hd
    obtain ⟨g, hg, hf'⟩ := env.facts
    have hf := hsub a w g hf'
    have hsv : a.eval s = g.ga t := hs a w g hf
    obtain ⟨xs, hown, hrel, htag⟩ := hf _ _ hrs
    unfold app at hr
    split at hr
    case isFalse => cases hr
    rename_i hlen
    cases hr
    obtain ⟨v', w', news, hrun, hown', hgr, hnew, hblk⟩ := run_append (ty := ty) hty hlen hown (hx a w g hf)
    have hrun' : (execOp a.eval ⟨some d, .call { callee := .builtin .append, args := #[s, x], argTypes := #[ts, ts] }, ty, pos, af, none⟩).run X.P w = .ok (.value v') w' := by
      unfold execOp
      simp [resolve, invoke, builtin, hsv, hrun]
    unfold Oper.wp
    rw [hrun']
    refine hK v' w' ?_
    have hb : ∀ b, b < w.heap.size → g.om b ≠ t → w'.heap[b]? = w.heap[b]? := fun b hb hne => hgr.block b hb (fun he => hne (htag b he.symm))
    refine ⟨by simp [Act.put, env.size], env.defers, Fr.own env.fr hg ht' (.inr trivial) hgr.os hgr.tape hgr.output hgr.size hb,
      ghOwn g w.heap.size t v', hg.own ht' env.fr.size, ?_⟩
    refine Facts.put (by rw [env.size]; exact hd') ?_ (by simp [Fact.isv, ghOwn])
    have hF : ∀ b, b < w.heap.size → g.om b ∈ te' → (ghOwn g w.heap.size t v').om b ∈ te' := fun b hb h => by simp [ghOwn, hb, h]
    refine Facts.ghost ?_ (fun v => ⟨xs ++ news, by simp only [ghOwn, if_true, List.length_append]; exact hown', RelL.app l m xs news (hte _ g w w' l xs hgr.size hb hF hrel) (hT _ g w w' m news hgr.size hb hF hnew), ?_⟩)
    · exact facts_killed hf' hgr.size hb (fun b hb => by simp [ghOwn, hb]) (fun s hs => by simp [ghOwn, hs])
    · simp only [ghOwn, if_true]
      intro b hb'
      rcases hblk b hb' with h1 | h1
      · rw [if_pos (hown.lt b h1).2]; exact htag b h1
      · rw [if_neg (by omega)]
/-- append to nil: a new owner. -/
theorem Step.appendNil {α : Type} [R : Rp α] {x : Operand} {T te' : List Nat} {m r : List α} (t : Nat) {ts e : TypeId} (hr : app [] m = some r) (ht : Nat.ble 10 t = true) (hd : Nat.blt d X.n = true) (hty : OwnTy X.P ts e α)
    (hx : Has G x (Fact.rep T m)) (hT : ElKeep (α := α) t T te') :
    Step X G ⟨some d, .call { callee := .builtin .append, args := #[.const (.slice none 0 0), x], argTypes := #[ts, ts] }, ty, pos, af, none⟩ [.fact d (.isv t), .fact (rs t) (.own t te' e r), .killId t] := fun G' hsub a w env K Q hK => by
    have ht' : 10 ≤ t := by simpa using ht
    have hd' : d < X.n := by simpa [Nat.blt_eq] using hd
    obtain ⟨g, hg, hf'⟩ := env.facts
    have hf := hsub a w g hf'
    unfold app at hr
    split at hr
    case isFalse => cases hr
    rename_i hlen
    cases hr
    obtain ⟨v', w', news, hrun, hown', hgr, hnew, hblk⟩ := run_append (ty := ty) (n := 0) (xs := []) hty (by simpa using hlen) (World.ownsRow_nil w 0 e R.n) (hx a w g hf)
    have hrun' : (execOp a.eval ⟨some d, .call { callee := .builtin .append, args := #[.const (.slice none 0 0), x], argTypes := #[ts, ts] }, ty, pos, af, none⟩).run X.P w = .ok (.value v') w' := by
      unfold execOp
      simp [resolve, invoke, builtin, eval_const, hrun]
    unfold Oper.wp
    rw [hrun']
    refine hK v' w' ?_
    have hb' : ∀ b, b < w.heap.size → w'.heap[b]? = w.heap[b]? := fun b hb => hgr.block b hb (by simp [Value.ownBlock])
    have hb : ∀ b, b < w.heap.size → g.om b ≠ t → w'.heap[b]? = w.heap[b]? := fun b hb _ => hb' b hb
    refine ⟨by simp [Act.put, env.size], env.defers, Fr.own env.fr hg ht' (.inr trivial) hgr.os hgr.tape hgr.output hgr.size hb,
      ghOwn g w.heap.size t v', hg.own ht' env.fr.size, ?_⟩
    refine Facts.put (by rw [env.size]; exact hd') ?_ (by simp [Fact.isv, ghOwn])
    have hF : ∀ b, b < w.heap.size → g.om b ∈ te' → (ghOwn g w.heap.size t v').om b ∈ te' := fun b hb h => by simp [ghOwn, hb, h]
    refine Facts.ghost ?_ (fun v => ⟨news, by simp only [ghOwn, if_true, List.nil_append]; simpa using hown', by simpa using hT _ g w w' m news hgr.size hb hF hnew, ?_⟩)
    · exact facts_killedId hf' hgr.size hb' (fun b hb => by simp [ghOwn, hb]) (fun s hs => by simp [ghOwn, hs])
    · simp only [ghOwn, if_true]
      intro b hb'
      rcases hblk b hb' with h1 | h1
      · cases h1
      · rw [if_neg (by omega)]

/-- A slice of the call's own, as one that is read. -/
theorem Has.own {α : Type} [R : Rp α] {x : Operand} {t : Nat} {te : List Nat} {e : TypeId} {l : List α} (hs : Has G x (.isv t)) (hrs : look G (rs t) = some (.own t te e l)) : Has G x (Fact.rep (t :: te) l) := fun a w g hf => by
  have hv : a.eval x = g.ga t := hs a w g hf
  obtain ⟨xs, hown, hrel, htag⟩ := hf _ _ hrs
  show Rep _ l (a.eval x) w
  rw [hv]
  rcases hown.2 with ⟨hn, h0⟩ | ⟨b, cap, cur, hv', _, hb, hnc, hcm, hcs, htake⟩
  · have : l = [] := List.eq_nil_of_length_eq_zero h0
    subst this
    rw [hn]
    exact rep_nil
  · rw [hv']
    refine ⟨_, ⟨some ⟨b, 0, none⟩, cap, rfl, hnc, fun h => (by cases h), ?_⟩, rfl⟩
    intro ad had i x hx
    cases had
    have hlt : b < w.heap.size := (Array.getElem?_eq_some_iff.1 hb).1
    have hom : g.om b = t := htag b (by rw [hv']; rfl)
    obtain ⟨es, he, hc⟩ := RelL.get l xs hrel i x hx
    refine ⟨by simp [hom], hlt, es, fun j u hj => ?_, R.stab _ _ x es w w (Nat.le_refl _) (fun b _ h => ⟨rfl, List.mem_cons_of_mem _ h⟩) he⟩
    have h1 := hc j u hj
    rw [Addr.add_add, Go.Addr.add_lit]
    simp only [Nat.zero_add]
    refine ⟨?_, frozen_of_row w b _ cur e hb⟩
    rw [cell_of_row w b _ cur e (0, 0) hb]
    rw [← htake] at h1
    rw [List.getElem?_take] at h1
    split at h1
    · simpa using h1
    · cases h1

/-- A slice, its elements leaning on other memory than itself. -/
def SlRel {α : Type} [R : Rp α] (F Fe : Nat → Prop) (l : List α) (v : Value) (w : World) : Prop :=
  ∃ (a : Option Addr) (c : Nat), v = .slice a l.length c ∧ l.length ≤ c ∧ (a = none → l = [] ∧ c = 0) ∧
    ∀ ad, a = some ad → ∀ (i : Nat) (x : α), l[i]? = some x → F ad.block ∧ ad.block < w.heap.size ∧ ∃ es, CellsAt w (ad.add (i * R.n)) es ∧ R.rel Fe x es w
theorem SlRel.stab {α : Type} [R : Rp α] {F Fe F' Fe' : Nat → Prop} {l : List α} {v : Value} {w w' : World} (hs : w.heap.size ≤ w'.heap.size)
    (hk : ∀ b, b < w.heap.size → F b → w'.heap[b]? = w.heap[b]? ∧ F' b) (hk' : ∀ b, b < w.heap.size → Fe b → w'.heap[b]? = w.heap[b]? ∧ Fe' b) (h : SlRel F Fe l v w) : SlRel F' Fe' l v w' := by
  obtain ⟨a, c, h1, h2, h3, h4⟩ := h
  refine ⟨a, c, h1, h2, h3, fun ad ha i x hx => ?_⟩
  obtain ⟨hF, hlt, es, he, hr⟩ := h4 ad ha i x hx
  have := hk ad.block hlt hF
  exact ⟨this.2, Nat.lt_of_lt_of_le hlt hs, es, he.stab (by rw [Addr.add_block]; exact this.1), R.stab Fe Fe' x es w w' hs hk' hr⟩
theorem SlRel.rep {α : Type} [R : Rp α] {F Fe H : Nat → Prop} {l : List α} {v : Value} {w : World} (h1 : ∀ b, F b → H b) (h2 : ∀ b, Fe b → H b) (h : SlRel F Fe l v w) : Rep H l v w := by
  obtain ⟨a, c, hv, k⟩ := SlRel.stab (F' := H) (Fe' := H) (Nat.le_refl _) (fun b _ hb => ⟨rfl, h1 b hb⟩) (fun b _ hb => ⟨rfl, h2 b hb⟩) h
  exact ⟨_, ⟨a, c, rfl, k⟩, hv⟩
theorem Rep.sl {α : Type} [R : Rp α] {F : Nat → Prop} {l : List α} {v : Value} {w : World} (h : Rep F l v w) : SlRel F F l v w := rep_list h

/-- A slice that a call made: to be written. -/
def Fact.mutS {α : Type} [R : Rp α] (t : Nat) (te : List Nat) (l : List α) : Fact where
  tags := t :: te
  ids := [t]
  p := fun g _ w => SlRel (fun b => g.om b = t) (fun b => g.om b ∈ te) l (g.ga t) w
  stab := fun g g' v w w' hk h => by
    rw [hk.ids t (by simp)]
    exact SlRel.stab hk.size (fun b hb ht => ⟨(hk.block b hb (by rw [ht]; simp)).1, by rw [(hk.block b hb (by rw [ht]; simp)).2]; exact ht⟩)
      (fun b hb ht => ⟨(hk.block b hb (List.mem_cons_of_mem _ ht)).1, by rw [(hk.block b hb (List.mem_cons_of_mem _ ht)).2]; exact ht⟩) h

theorem Has.mutS {α : Type} [R : Rp α] {x : Operand} {t : Nat} {te : List Nat} {l : List α} (hs : Has G x (.isv t)) (hrs : look G (rs t) = some (.mutS t te l)) : Has G x (Fact.rep (t :: te) l) := fun a w g hf => by
  have hv : a.eval x = g.ga t := hs a w g hf
  show Rep _ l (a.eval x) w
  rw [hv]
  have h : SlRel (fun b => g.om b = t) (fun b => g.om b ∈ te) l (g.ga t) w := hf _ _ hrs
  exact SlRel.rep (fun b hb => by rw [hb]; simp) (fun b hb => List.mem_cons_of_mem _ hb) h
end
end GL
