/- Own library, part 17: variables made and written. -/
import Derived.Test.YtgjibgklailenaaCore16
namespace GL
open Go

/-- The parts' values. -/
def PV (g : Gh) (w : World) : Ls → List Value → List Value → Prop
  | [], cs, vs => cs = [] ∧ vs = []
  | l :: ls, cs, vs => ∃ c1 c2 v vr, cs = c1 ++ c2 ∧ vs = v :: vr ∧ c1.length = l.2.1 ∧ (∀ c ∈ c1, c.oneCell' = true) ∧ (l.1 = false → l.2.1 = 1) ∧ v = mkV l.1 c1 ∧ l.2.2.p g v w ∧ PV g w ls c2 vr
theorem FldRel.pv {g : Gh} {w : World} : ∀ (ls : Ls) (cs : List Value), FldRel g w ls cs → ∃ vs, PV g w ls cs vs
  | [], cs, h => ⟨[], h, rfl⟩
  | l :: ls, cs, h => by
    obtain ⟨c1, c2, h1, h2, h3, h3', h4, h5⟩ := h
    obtain ⟨vs, hv⟩ := FldRel.pv ls c2 h5
    exact ⟨_ :: vs, c1, c2, _, vs, h1, rfl, h2, h3, h3', rfl, h4, hv⟩
theorem PV.len {g : Gh} {w : World} : ∀ (ls : Ls) (cs vs : List Value), PV g w ls cs vs → vs.length = ls.length
  | [], _, vs, h => by rw [h.2]; rfl
  | l :: ls, _, vs, h => by
    obtain ⟨c1, c2, v, vr, _, rfl, _, _, _, _, _, h5⟩ := h
    simp [PV.len ls c2 vr h5]
/-- A ghost with values set from place i on. -/
def gaSet (ga : Nat → Value) (i : Nat) (vs : List Value) : Nat → Value := fun s => if i ≤ s ∧ s < i + vs.length then vs.getD (s - i) undef else ga s
theorem gaSet_in (ga : Nat → Value) (i : Nat) (vs : List Value) (j : Nat) (v : Value) (h : vs[j]? = some v) : gaSet ga i vs (i + j) = v := by
  have hj := (List.getElem?_eq_some_iff.1 h).1
  unfold gaSet
  rw [if_pos (by omega), List.getD_eq_getElem?_getD, show i + j - i = j by omega, h]; rfl
theorem gaSet_out (ga : Nat → Value) (i : Nat) (vs : List Value) (s : Nat) (h : ¬(i ≤ s ∧ s < i + vs.length)) : gaSet ga i vs s = ga s := if_neg h

theorem PV.prel {g g0 : Gh} {w : World} : ∀ (ls : Ls) (cs vs : List Value) (i : Nat), PV g w ls cs vs → (∀ j v, vs[j]? = some v → g0.ga (i + j) = v) → PRel g0 i (lsPs ls) cs
  | [], cs, vs, i, h, _ => h.1
  | l :: ls, cs, vs, i, h, hg => by
    obtain ⟨c1, c2, v, vr, h1, rfl, h2, h3, h3', h4, _, h5⟩ := h
    refine ⟨c1, c2, h1, h2, h3, h3', by rw [← h4]; exact hg 0 v rfl, PV.prel ls c2 vr (i + 1) h5 (fun j u hj => ?_)⟩
    rw [show i + 1 + j = i + (j + 1) by omega]
    exact hg (j + 1) u (by simpa using hj)

theorem lookK_killIds : ∀ (ts : List Nat) (G : List It) (K I : List Nat) (s : Nat) (f : Fact), lookK (killIds ts G) K I s = some f → ∃ I', (∀ x, x ∈ I → x ∈ I') ∧ (∀ x, x ∈ ts → x ∈ I') ∧ lookK G K I' s = some f
  | [], _, _, I, _, _, h => ⟨I, fun _ h => h, (fun x hx => absurd hx (by simp)), h⟩
  | t :: ts, G, K, I, s, f, h => by
    obtain ⟨I', h1, h2, h3⟩ := lookK_killIds ts G K (t :: I) s f h
    exact ⟨I', fun x hx => h1 x (List.mem_cons_of_mem _ hx), fun x hx => by
      rcases List.mem_cons.1 hx with rfl | hx
      · exact h1 _ (by simp)
      · exact h2 x hx, h3⟩

theorem facts_killIds {G : List It} {g g' : Gh} {a : Act} {w w' : World} (ts : List Nat) (h : Facts G g a w) (hs : w.heap.size ≤ w'.heap.size)
    (hb : ∀ b, b < w.heap.size → w'.heap[b]? = w.heap[b]?) (hom : ∀ b, b < w.heap.size → g'.om b = g.om b) (hga : ∀ s, s ∉ ts → g'.ga s = g.ga s) : Facts (killIds ts G) g' a w' := fun s f hl => by
  obtain ⟨I', _, h2, h3⟩ := lookK_killIds ts G [] [] s f hl
  have hd := lookK_disj G [] I' s f h3
  exact f.stab g g' _ w w' ⟨hs, fun b hbl _ => ⟨hb b hbl, hom b hbl⟩, fun s' hs' => hga s' (fun he => disj_spec hd.2 (h2 _ he) hs')⟩ (h s f (lookK_sub G [] [] I' [] s f (by simp) (by simp) h3))
theorem facts_killIdsT {G : List It} {g g' : Gh} {a : Act} {w w' : World} {t : Nat} (ts : List Nat) (h : Facts G g a w) (hs : w.heap.size ≤ w'.heap.size)
    (hb : ∀ b, b < w.heap.size → g.om b ≠ t → w'.heap[b]? = w.heap[b]?) (hom : ∀ b, b < w.heap.size → g'.om b = g.om b) (hga : ∀ s, s ∉ ts → g'.ga s = g.ga s) : Facts (.kill t :: killIds ts G) g' a w' := fun s f hl => by
  have hl' : lookK (killIds ts G) [t] [] s = some f := hl
  obtain ⟨I', _, h2, h3⟩ := lookK_killIds ts G [t] [] s f hl'
  have hd := lookK_disj G [t] I' s f h3
  exact f.stab g g' _ w w' ⟨hs, fun b hbl ht => ⟨hb b hbl (fun he => disj_spec hd.1 (show t ∈ [t] by simp) (he ▸ ht)), hom b hbl⟩, fun s' hs' => hga s' (fun he => disj_spec hd.2 (h2 _ he) hs')⟩ (h s f (lookK_sub G [t] [] I' [] s f (by simp) (by simp) h3))

theorem facts_flI {G : List It} {g' : Gh} {a : Act} {w' : World} : ∀ (ls : Ls) (i : Nat), Facts G g' a w' → (∀ (j : Nat) (l : Bool × Nat × Fact), ls[j]? = some l → l.2.2.p g' (g'.ga (i + j)) w') → Facts (flI i ls G) g' a w'
  | [], _, h, _ => h
  | l :: ls, i, h, hp => by
    refine Facts.ghost ?_ (fun _ => hp 0 l rfl)
    exact facts_flI ls (i + 1) h (fun j m hj => by rw [show i + 1 + j = i + (j + 1) by omega]; exact hp (j + 1) m (by simpa using hj))

/-- The parts' facts lean on none of these ids, and not on that tag. -/
def lsOk (t : Nat) (lo n : Nat) (ls : Ls) : Bool := ls.all fun l => (l.2.2.ids.all fun i => Nat.blt i lo || Nat.ble (lo + n) i) && !(l.2.2.tags.elem t)
theorem lsOk_spec {t lo n : Nat} {ls : Ls} (h : lsOk t lo n ls = true) {l : Bool × Nat × Fact} (hl : l ∈ ls) : (∀ i ∈ l.2.2.ids, ¬(lo ≤ i ∧ i < lo + n)) ∧ t ∉ l.2.2.tags := by
  have := List.all_eq_true.1 h l hl
  simp only [Bool.and_eq_true, List.all_eq_true, Bool.or_eq_true, Nat.ble_eq, Nat.blt_eq, Bool.not_eq_true'] at this
  refine ⟨fun i hi => ?_, ?_⟩
  · have := this.1 i hi
    omega
  · have := this.2
    simpa using this

theorem PV.facts {g g' : Gh} {w w' : World} {t lo n : Nat} : ∀ (ls : Ls) (cs vs : List Value), PV g w ls cs vs → lsOk t lo n ls = true → w.heap.size ≤ w'.heap.size → (∀ b, b < w.heap.size → g.om b ≠ t → w'.heap[b]? = w.heap[b]?) → (∀ b, b < w.heap.size → g'.om b = g.om b) →
    (∀ s, ¬(lo ≤ s ∧ s < lo + n) → g'.ga s = g.ga s) → ∀ (j : Nat) (l : Bool × Nat × Fact) (v : Value), ls[j]? = some l → vs[j]? = some v → l.2.2.p g' v w'
  | [], _, _, _, _, _, _, _, _, j, l, v, hl, _ => by simp at hl
  | m :: ls, cs, vs, h, hok, hs, hb, hom, hga, j, l, v, hl, hv => by
    obtain ⟨c1, c2, u, vr, h1, rfl, h2, h3, h3', h4, hp, h5⟩ := h
    cases j with
    | zero =>
      simp only [List.getElem?_cons_zero, Option.some.injEq] at hl hv
      subst hl hv
      have := lsOk_spec hok (l := m) (by simp)
      exact m.2.2.stab g g' _ w w' ⟨hs, fun b hbl ht => ⟨hb b hbl (fun he => this.2 (he ▸ ht)), hom b hbl⟩, fun s hs => hga s (this.1 s hs)⟩ hp
    | succ j =>
      refine PV.facts ls c2 vr h5 ?_ hs hb hom hga j l v (by simpa using hl) (by simpa using hv)
      simp only [lsOk, List.all_cons, Bool.and_eq_true] at hok ⊢
      exact hok.2

theorem psIds_mem : ∀ (ps : Ps) (i s : Nat), s ∈ psIds i ps ↔ i ≤ s ∧ s < i + ps.length
  | [], i, s => by simp only [psIds, List.not_mem_nil, List.length_nil, false_iff]; omega
  | p :: ps, i, s => by
    simp only [psIds, List.mem_cons, psIds_mem ps (i + 1) s, List.length_cons]
    omega

/-- An operand's cells, by parts. -/
def HasL (G : List It) (x : Operand) (ls : Ls) : Prop := ∀ a w g, Facts G g a w → ∃ cs, (a.eval x).cells = cs.toArray ∧ FldRel g w ls cs
theorem HasL.flds {G : List It} {x : Operand} {ls : Ls} (h : Has G x (.flds ls)) : HasL G x ls := fun a w g hf => by
  obtain ⟨cs, hv, hr⟩ := h a w g hf
  exact ⟨cs, by rw [hv]; rfl, hr⟩
theorem HasL.one {G : List It} {x : Operand} {α : Type} [R : Rp α] {y : α} {T : List Nat} {f : Fact} (h : Has G x (Fact.rep T y)) (hag : R.agg = false) (hx : Has G x f) : HasL G x [(false, 1, f)] := fun a w g hf => by
  obtain ⟨cs, hr, hv⟩ := h a w g hf
  have hc := rep_cells hr
  have hl := R.len _ _ _ _ hr
  have h1 := R.one _ _ _ _ hr
  rw [R.na hag] at hl
  refine ⟨cs, by rw [hv]; exact hc, cs, [], by simp, hl, h1, fun _ => rfl, ?_, rfl⟩
  have := hx a w g hf
  rw [hv, hag] at this
  exact this

theorem killIds_app : ∀ (ts : List Nat) (G : List It), killIds ts [] ++ G = killIds ts G
  | [], _ => rfl
  | t :: ts, G => by simp only [killIds, List.cons_append, killIds_app ts G]
theorem flI_app : ∀ (ls : Ls) (t : Nat) (H G : List It), flI t ls H ++ G = flI t ls (H ++ G)
  | [], _, _, _ => rfl
  | l :: ls, t, H, G => by simp only [flI, List.cons_append, flI_app ls (t + 1) H G]
section
variable {X : Cx} {G : List It} {Q : Exit → Act → World → Prop} {ops : Array Oper} {rest : List Oper} {d : Nat} {dO : Option Nat} {ty : TypeId} {pos : String} {af : Array Edge} {gd : Option (Nat × Bool)}

theorem Step.newObj {o : Oper} {ls : Ls} {ps : Ps} (t : Nat) (ht : Nat.ble 10 t = true) (hd : Nat.blt d X.n = true) (hdst : o.dst = some d) (hps : lsPs ls = ps) (hok : lsOk t t (ls.length + 1) ls = true)
    (hrun : ∀ a w g, Facts G g a w → ∃ e cs, FldRel g w ls cs ∧ (execOp a.eval o).run X.P w = .ok (.value (.pointer (some ⟨w.heap.size, 0, none⟩))) (w.alloc (.cells cs.toArray e))):
    Step X G o ([.fact d (.isv t), .fact (rs t) (.obj t ps)] ++ flI (t + 1) ls (killIds (t :: psIds (t + 1) ps) [])) := fun G' hsub a w env K Q hK => by
    have ht' : 10 ≤ t := by simpa using ht
    have hd' : d < X.n := by simpa [Nat.blt_eq] using hd
    obtain ⟨g, hg, hf'⟩ := env.facts
    have hf := hsub a w g hf'
    obtain ⟨e, cs, hrel, hrun⟩ := hrun a w g hf
    obtain ⟨vs, hpv⟩ := hrel.pv ls cs
    have hvl := PV.len ls cs vs hpv
    have hpl : ps.length = ls.length := by rw [← hps]; simp [lsPs]
    unfold Oper.wp
    rw [hrun]
    refine hK _ _ ?_
    rw [hdst, List.append_assoc, flI_app, killIds_app]
    have hb : ∀ b, b < w.heap.size → (w.alloc (.cells cs.toArray e)).heap[b]? = w.heap[b]? := fun b hb => RowKit.Below.heap_alloc w _ b hb
    let P0 : Value := .pointer (some ⟨w.heap.size, 0, none⟩)
    let g1 : Gh := ghOwn g w.heap.size t P0
    let g2 : Gh := ⟨g1.om, gaSet g1.ga (t + 1) vs⟩
    have hg1 : GhE X (w.alloc (.cells cs.toArray e)) g1 := hg.own ht' env.fr.size
    have hgat : g2.ga t = P0 := by
      show gaSet g1.ga (t + 1) vs t = P0
      rw [gaSet_out _ _ _ _ (by omega)]; simp [g1, ghOwn]
    have hom : ∀ b, b < w.heap.size → g2.om b = g.om b := fun b hb => by simp [g2, g1, ghOwn, hb]
    have hga : ∀ s, ¬(t ≤ s ∧ s < t + (ls.length + 1)) → g2.ga s = g.ga s := fun s hs => by
      show gaSet g1.ga (t + 1) vs s = g.ga s
      rw [gaSet_out _ _ _ _ (by omega)]
      have : s ≠ t := by omega
      simp [g1, ghOwn, this]
    refine ⟨by simp [Act.put, env.size], env.defers, Fr.own env.fr hg ht' (.inr trivial) rfl rfl rfl (by simp) (fun b hb' _ => hb b hb'), g2, ⟨⟨hg1.ok.old, hg1.ok.new⟩, hg1.om⟩, ?_⟩
    refine Facts.put (by rw [env.size]; exact hd') ?_ (show P0 = g2.ga t from hgat.symm)
    refine Facts.ghost ?_ (fun v => ⟨w.heap.size, e, cs.toArray, hgat, heap_alloc_new w _, by simp [g2, g1, ghOwn], ?_⟩)
    · refine facts_flI ls (t + 1) ?_ (fun j l hj => ?_)
      · refine facts_killIds _ hf' (by simp) hb hom (fun s hs => hga s (fun hx => hs ?_))
        simp only [List.mem_cons, psIds_mem, hpl]
        omega
      · have hjl : j < ls.length := (List.getElem?_eq_some_iff.1 hj).1
        obtain ⟨v, hv⟩ : ∃ v, vs[j]? = some v := ⟨_, List.getElem?_eq_getElem (by omega)⟩
        rw [show g2.ga (t + 1 + j) = v from gaSet_in _ _ _ _ _ hv]
        exact PV.facts ls cs vs hpv hok (by simp) (fun b hb' _ => hb b hb') hom hga j l v hj hv
    · rw [← hps]
      exact PV.prel ls cs vs (t + 1) hpv (fun j v hv => gaSet_in _ _ _ _ _ hv)

theorem Step.boxObj {x : Operand} {e : TypeId} {ls : Ls} {ps : Ps} (t : Nat) (ht : Nat.ble 10 t = true) (hd : Nat.blt d X.n = true) (hps : lsPs ls = ps) (hok : lsOk t t (ls.length + 1) ls = true) (hx : HasL G x ls):
    Step X G ⟨some d, .box e x, ty, pos, af, none⟩ ([.fact d (.isv t), .fact (rs t) (.obj t ps)] ++ flI (t + 1) ls (killIds (t :: psIds (t + 1) ps) [])) :=
  Step.newObj t ht hd rfl hps hok (fun a w g hf => by
    obtain ⟨cs, h1, h2⟩ := hx a w g hf
    refine ⟨e, cs, h2, ?_⟩
    unfold execOp
    simp [Instr.box, newVar, newRow, h1])

/-- The value that a variable has at first. -/
structure ZeroLs (P : Program) (e : TypeId) (ls : Ls) : Prop where
  z' : ∃ cs, ((P.info? e).bind (·.zero)).map (·.cells) = some cs.toArray ∧ ∀ g w, FldRel g w ls cs
theorem ZeroLs.z {P : Program} {e : TypeId} {ls : Ls} (b : ZeroLs P e ls) : ∃ i zv cs, P.info? e = some i ∧ i.zero = some zv ∧ zv.cells = cs.toArray ∧ ∀ g w, FldRel g w ls cs := by
  obtain ⟨cs, h1, h2⟩ := b.z'
  simp only [Option.map_eq_some_iff, Option.bind_eq_some_iff] at h1
  obtain ⟨zv, ⟨it, h6, h7⟩, h8⟩ := h1
  exact ⟨it, zv, cs, h6, h7, h8, h2⟩
theorem Step.allocObj {e : TypeId} {ls : Ls} {ps : Ps} (t : Nat) (ht : Nat.ble 10 t = true) (hd : Nat.blt d X.n = true) (hps : lsPs ls = ps) (hok : lsOk t t (ls.length + 1) ls = true) (hz : ZeroLs X.P e ls):
    Step X G ⟨some d, .alloc e, ty, pos, af, none⟩ ([.fact d (.isv t), .fact (rs t) (.obj t ps)] ++ flI (t + 1) ls (killIds (t :: psIds (t + 1) ps) [])) :=
  Step.newObj t ht hd rfl hps hok (fun a w g hf => by
    obtain ⟨i, zv, cs, h1, h2, h3, h4⟩ := hz.z
    refine ⟨e, cs, h4 g w, ?_⟩
    unfold execOp
    simp [Instr.alloc, zeroValue, typeInfo, h1, h2, newVar, newRow, h3])

/-- Parts of a row, one written. -/
theorem PRel.set {g g' : Gh} : ∀ (ps : Ps) (t : Nat) (cs es : List Value) (i off : Nat) (ag : Bool) (n : Nat), PRel g t ps cs → partAt ps i = some (off, ag, n) → es.length = n → (∀ c ∈ es, c.oneCell' = true) → g'.ga (t + i) = mkV ag es →
    (∀ s, s ≠ t + i → g'.ga s = g.ga s) → PRel g' t ps (cs.take off ++ es ++ cs.drop (off + n))
  | [], _, _, _, i, _, _, _, _, h, _, _, _, _ => by simp [partAt] at h
  | l :: ls, t, cs, es, 0, off, ag, n, hp, h, hl, h1, hv, hg => by
    obtain ⟨c1, c2, rfl, e1, e2, e2', e3, e4⟩ := hp
    simp only [partAt, Option.some.injEq, Prod.mk.injEq] at h
    obtain ⟨rfl, rfl⟩ := h
    have e1' : c1.length = n := e1
    refine ⟨es, c2, ?_, hl, h1, e2', hv, PRel.stab ls (t + 1) c2 (fun s hs => hg s (by have := (psIds_mem ls (t + 1) s).1 hs; omega)) e4⟩
    simp only [List.take_zero, List.nil_append, Nat.zero_add]
    rw [← e1', List.drop_left]
  | l :: ls, t, cs, es, i + 1, off, ag, n, hp, h, hl, h1, hv, hg => by
    obtain ⟨c1, c2, rfl, e1, e2, e2', e3, e4⟩ := hp
    simp only [partAt, Option.map_eq_some_iff] at h
    obtain ⟨⟨o, x⟩, h6, h7⟩ := h
    simp only [Prod.mk.injEq] at h7
    obtain ⟨rfl, rfl⟩ := h7
    have := PRel.set (g := g) (g' := g') ls (t + 1) c2 es i o ag n e4 h6 hl h1 (by rw [← hv]; congr 1; omega) (fun s hs => hg s (by omega))
    refine ⟨c1, _, ?_, e1, e2, e2', by rw [hg t (by omega)]; exact e3, this⟩
    rw [show o + l.2 = c1.length + o by omega, List.take_append, List.take_of_length_le (by omega), show c1.length + o - c1.length = o by omega]
    rw [show c1.length + o + n = c1.length + (o + n) by omega, List.drop_append, List.drop_of_length_le (by omega), show c1.length + (o + n) - c1.length = o + n by omega]
    simp

theorem Step.storeF {p x : Operand} {e : TypeId} {α : Type} [R : Rp α] {y : α} {T : List Nat} {t i off : Nat} {ps : Ps} {f : Fact} (ht : Nat.ble 10 t = true) (hty : Ty X.P e α) (hp : partAt ps i = some (off, R.agg, R.n)) (hpx : Has G p (.pto t off))
    (ho : look G (rs t) = some (.obj t ps)) (hr : Has G x (Fact.rep T y)) (hx : Has G x f) (hok : lsOk t (t + 1 + i) 1 [(R.agg, R.n, f)] = true) :
    Step X G ⟨none, .store e p x, ty, pos, af, none⟩ [.fact (rs (t + 1 + i)) (.at (t + 1 + i) f), .fact (rs t) (.obj t ps), .kill t, .killId (t + 1 + i)] := fun G' hsub a w env K Q hK => by
    have ht' : 10 ≤ t := by simpa using ht
    obtain ⟨g, hg, hf'⟩ := env.facts
    have hf := hsub a w g hf'
    obtain ⟨b, hb, hv⟩ := hpx a w g hf
    obtain ⟨b', ty', cs, hga, hh, hom, hrel⟩ := hf _ _ ho
    rw [hga] at hb
    simp only [ownB, Option.some.injEq] at hb
    subst hb
    obtain ⟨c0, k1, k2, k3, k4⟩ := hrel.part ps (t + 1) _ i off _ _ hp
    obtain ⟨es, hes, hre, hrun⟩ := run_storeVar (P := X.P) hty hh (hr a w g hf) (show off + R.n ≤ cs.size by simpa using k3)
    have hl := R.len _ _ _ _ hre
    have h1 := R.one _ _ _ _ hre
    have hfx := hx a w g hf
    have hok' := lsOk_spec hok (l := (R.agg, R.n, f)) (by simp)
    have hrun' : (execOp a.eval ⟨none, .store e p x, ty, pos, af, none⟩).run X.P w = .ok .skip (w.setRow b' (cs.toList.take off ++ es ++ cs.toList.drop (off + R.n)).toArray) := by
      unfold execOp
      simp only [hv, Instr.storeAt, Instr.sureAddr, Sem.run_bind, Sem.run_pure, Result.andThen_ok]
      rw [hrun]
      rfl
    unfold Oper.wp
    rw [hrun']
    refine hK undef _ ?_
    have hb : ∀ b, b < w.heap.size → g.om b ≠ t → (w.setRow b' (cs.toList.take off ++ es ++ cs.toList.drop (off + R.n)).toArray).heap[b]? = w.heap[b]? := fun b hb hne => setRow_other w b' b _ (fun h => hne (by rw [h]; exact hom))
    have hsz : (w.setRow b' (cs.toList.take off ++ es ++ cs.toList.drop (off + R.n)).toArray).heap.size = w.heap.size := by simp
    let g2 : Gh := ⟨g.om, fun s => if s = t + 1 + i then a.eval x else g.ga s⟩
    have hgai : g2.ga (t + 1 + i) = a.eval x := if_pos rfl
    have hgao : ∀ s, s ≠ t + 1 + i → g2.ga s = g.ga s := fun s hs => if_neg hs
    refine ⟨by simp [Act.put, env.size], env.defers, Fr.own env.fr hg ht' (.inr trivial) rfl rfl rfl (by rw [hsz]; exact Nat.le_refl _) hb, g2, ⟨⟨hg.ok.old, fun b h1 h2 => hg.ok.new b h1 (by rw [hsz] at h2; exact h2)⟩, hg.om⟩, ?_⟩
    show Facts _ g2 a _
    refine Facts.ghost ?_ (fun v => ?_)
    · refine Facts.ghost ?_ (fun v => ⟨b', ty', _, by rw [hgao t (by omega)]; exact hga, setRow_heap w b' cs _ ty' (0, 0) hh, hom, ?_⟩)
      · exact facts_killIdsT [t + 1 + i] hf' (by rw [hsz]; exact Nat.le_refl _) hb (fun _ _ => rfl) (fun s hs => hgao s (by simpa using hs))
      · have := PRel.set (g := g) (g' := g2) ps (t + 1) cs.toList es i off _ _ hrel hp hl h1 (by rw [hgai]; exact hes) hgao
        simpa using this
    · show f.p g2 (g2.ga (t + 1 + i)) _
      rw [hgai]
      exact f.stab g g2 _ w _ ⟨by rw [hsz]; exact Nat.le_refl _, fun b hbl htg => ⟨hb b hbl (fun he => hok'.2 (he ▸ htg)), rfl⟩, fun s hs => hgao s (fun he => hok'.1 s hs (by omega))⟩ hfx

theorem psN_lsPs : ∀ ls : Ls, psN (lsPs ls) = lsN ls
  | [] => rfl
  | l :: ls => by
    have := psN_lsPs ls
    simp only [lsPs, List.map_cons, psN, lsN] at this ⊢
    rw [this]

/-- A whole variable written. -/
theorem Step.storeObj {p x : Operand} {e : TypeId} {α : Type} [R : Rp α] {t : Nat} {ls : Ls} {ps : Ps} (ht : Nat.ble 10 t = true) (hty : Ty X.P e α) (hps : lsPs ls = ps) (hn : lsN ls = R.n) (hpx : Has G p (.isv t))
    (ho : look G (rs t) = some (.obj t ps)) (hx : HasL G x ls) (hok : lsOk t (t + 1) ls.length ls = true) :
    Step X G ⟨none, .store e p x, ty, pos, af, none⟩ ([.fact (rs t) (.obj t ps)] ++ flI (t + 1) ls (.kill t :: killIds (psIds (t + 1) ps) [])) := fun G' hsub a w env K Q hK => by
    have ht' : 10 ≤ t := by simpa using ht
    obtain ⟨g, hg, hf'⟩ := env.facts
    have hf := hsub a w g hf'
    have hv : a.eval p = g.ga t := hpx a w g hf
    obtain ⟨b', ty', cs, hga, hh, hom, hrel⟩ := hf _ _ ho
    obtain ⟨es, hxc, hfr⟩ := hx a w g hf
    have hel : es.length = R.n := by rw [hfr.len, hn]
    have hcl : cs.size = R.n := by
      have := hrel.len
      rw [Array.length_toList] at this
      rw [this, ← hn, ← hps]
      exact psN_lsPs ls
    have h1 := FldRel.one ls es hfr
    obtain ⟨vs, hpv⟩ := hfr.pv ls es
    have hvl := PV.len ls es vs hpv
    have hpl : ps.length = ls.length := by rw [← hps]; simp [lsPs]
    have hrun' : (execOp a.eval ⟨none, .store e p x, ty, pos, af, none⟩).run X.P w = .ok .skip (w.setRow b' es.toArray) := by
      have h2 := run_storeCells_at X.P b' 0 ty' es 0 cs w hh (by omega) h1
      simp only [Nat.add_zero, List.take_zero, List.nil_append, Nat.zero_add, hel] at h2
      rw [List.drop_of_length_le (by simp; omega), List.append_nil] at h2
      unfold execOp
      simp only [hv, hga, Instr.storeAt, Instr.sureAddr, Sem.run_bind, Sem.run_pure, Result.andThen_ok]
      unfold storeVar
      simp [rt_sizeOf hty, hxc, hel, h2]
    unfold Oper.wp
    rw [hrun']
    refine hK undef _ ?_
    rw [List.append_assoc, flI_app]
    simp only [List.cons_append, List.nil_append, killIds_app]
    have hb : ∀ b, b < w.heap.size → g.om b ≠ t → (w.setRow b' es.toArray).heap[b]? = w.heap[b]? := fun b hb hne => setRow_other w b' b _ (fun h => hne (by rw [h]; exact hom))
    have hsz : (w.setRow b' es.toArray).heap.size = w.heap.size := by simp
    let g2 : Gh := ⟨g.om, gaSet g.ga (t + 1) vs⟩
    have hgao : ∀ s, ¬(t + 1 ≤ s ∧ s < t + 1 + ls.length) → g2.ga s = g.ga s := fun s hs => gaSet_out _ _ _ _ (by omega)
    refine ⟨by simp [Act.put, env.size], env.defers, Fr.own env.fr hg ht' (.inr trivial) rfl rfl rfl (by rw [hsz]; exact Nat.le_refl _) hb, g2, ⟨⟨hg.ok.old, fun b h1 h2 => hg.ok.new b h1 (by rw [hsz] at h2; exact h2)⟩, hg.om⟩, ?_⟩
    show Facts _ g2 a _
    refine Facts.ghost ?_ (fun v => ⟨b', ty', _, by rw [hgao t (by omega)]; exact hga, setRow_heap w b' cs _ ty' (0, 0) hh, hom, ?_⟩)
    · refine facts_flI ls (t + 1) ?_ (fun j l hj => ?_)
      · refine facts_killIdsT _ hf' (by rw [hsz]; exact Nat.le_refl _) hb (fun _ _ => rfl) (fun s hs => hgao s (fun hx => hs ?_))
        rw [psIds_mem, hpl]; exact hx
      · have hjl : j < ls.length := (List.getElem?_eq_some_iff.1 hj).1
        obtain ⟨v, hv⟩ : ∃ v, vs[j]? = some v := ⟨_, List.getElem?_eq_getElem (by omega)⟩
        rw [show g2.ga (t + 1 + j) = v from gaSet_in _ _ _ _ _ hv]
        exact PV.facts (g' := g2) ls es vs hpv hok (by rw [hsz]; exact Nat.le_refl _) hb (fun _ _ => rfl) hgao j l v hj hv
    · rw [← hps]
      exact PV.prel ls es vs (t + 1) hpv (fun j v hv => gaSet_in _ _ _ _ _ hv)
end
end GL
