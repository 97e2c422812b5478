/- Own library, part 35: guarded calls that are walked; pointers to function variables. -/
import Derived.Test.YtgjibgklailenaaCore34
namespace GL
open Go

section
variable {X : Cx} {G : List It} {Q : Exit → Act → World → Prop} {ops : Array Oper} {rest : List Oper}

/-- Whether an operation is wanted: just where gp holds. -/
def GOk (G : List It) (ops : Array Oper) (o : Oper) (gp : Prop) : Prop :=
  ∀ a w g, Facts G g a w → (Region.wanted o (yielded ops a.tmps) = true ∧ gp) ∨ (Region.wanted o (yielded ops a.tmps) = false ∧ ¬gp)
theorem GOk.one {d : Option Nat} {op : Op} {ty : TypeId} {pos : String} {af : Array Edge} {j dj : Nat} {want b : Bool} {T : List Nat} (hj : (ops[j]?).bind (·.dst) = some dj) (hb : look G dj = some (Fact.rep T b)) :
    GOk G ops ⟨d, op, ty, pos, af, some (j, want)⟩ (b = want) := fun a w g hf => by
  have hy := yielded_of hj (rep_bool.1 (hf dj _ hb))
  simp only [Region.wanted, hy]
  by_cases hw : b = want
  · subst hw; exact .inl ⟨by simp, rfl⟩
  · exact .inr ⟨by simp [hw], hw⟩
theorem GOk.two {d : Option Nat} {op : Op} {ty : TypeId} {pos : String} {af : Array Edge} {j dj : Nat} {want b : Bool} {c : Prop} {T : List Nat} (hj : (ops[j]?).bind (·.dst) = some dj) (hb : look G dj = some ((Fact.rep T b).under c)) :
    GOk G ops ⟨d, op, ty, pos, af, some (j, want)⟩ (c ∧ b = want) := fun a w g hf => by
  have hu := hf dj _ hb
  by_cases hc : c
  · have hy := yielded_of hj (rep_bool.1 (hu.1 hc))
    simp only [Region.wanted, hy]
    by_cases hw : b = want
    · subst hw; exact .inl ⟨by simp, hc, rfl⟩
    · exact .inr ⟨by simp [hw], fun h => hw h.2⟩
  · have hy : (yielded ops a.tmps j == some want) = false := by
      have h1 : a.tmps.getD dj undef = undef := hu.2 hc
      unfold yielded
      rw [hj]
      simp only [Option.bind_some]
      rw [Array.getD_eq_getD_getElem?] at h1
      cases h2 : a.tmps[dj]? with
      | none => rfl
      | some v => rw [h2] at h1; simp at h1; subst h1; rfl
    exact .inr ⟨by simp only [Region.wanted, hy], fun h => hc h.1⟩

/-- A slot that holds nothing. -/
def Fact.und : Fact where
  tags := []
  ids := []
  p := fun _ v _ => v = undef
  stab := fun _ _ _ _ _ _ h => h
theorem Has.und {t : Nat} {f : Fact} {c : Prop} (h : look G t = some .und) (hc : ¬c) : Has G (.tmp t) (f.under c) := fun a w g hf => ⟨fun h1 => (hc h1).elim, fun _ => hf t _ h⟩
theorem Cv.under {f : Fact} {c : Prop} (hc : c) : Cv G f (f.under c) := fun _ _ _ _ _ h => ⟨fun _ => h, fun h1 => (h1 hc).elim⟩

theorem Cv.underM {f f' : Fact} {c : Prop} (h : Cv G f f') : Cv G (f.under c) (f'.under c) := fun a w g v hf k => ⟨fun hc => h a w g v hf (k.1 hc), k.2⟩
theorem Spec.andT {dO : Option Nat} {ty : TypeId} {pos : String} {af : Array Edge} {gd : Option (Nat × Bool)} {x y : Operand} {T : List Nat} {c b : Bool} (hc : c = true) (h : Spec X G ⟨dO, .pick x y (.const (.bool false)), ty, pos, af, gd⟩ (Fact.rep T (c && b))) :
    Spec X G ⟨dO, .pick x y (.const (.bool false)), ty, pos, af, gd⟩ (Fact.rep T b) := by rw [hc] at h; exact h
theorem Spec.andF {dO : Option Nat} {ty : TypeId} {pos : String} {af : Array Edge} {gd : Option (Nat × Bool)} {x y : Operand} {T : List Nat} {c b : Bool} (hc : c = false) (h : Spec X G ⟨dO, .pick x y (.const (.bool false)), ty, pos, af, gd⟩ (Fact.rep T (c && b))) :
    Spec X G ⟨dO, .pick x y (.const (.bool false)), ty, pos, af, gd⟩ (Fact.rep T false) := by rw [hc] at h; exact h
theorem ne_f {b : Bool} (h : ¬b = true) : b = false := by cases b <;> simp_all
theorem ne_nf {b : Bool} (h : ¬b = false) : (!b) = false := by cases b <;> simp_all
theorem and_ff {p q : Prop} {c c' : Bool} (h1 : ¬p → c = false) (h2 : ¬q → c' = false) (h : ¬(p ∧ q)) : (c && c') = false := by
  by_cases hp : p
  · rw [h2 (fun hq => h ⟨hp, hq⟩)]; simp
  · rw [h1 hp]; rfl

/-- A guarded operation, by its guard. -/
theorem Walk.gsplit {d : Nat} {op : Op} {ty : TypeId} {pos : String} {af : Array Edge} {gd : Nat × Bool} {gp : Prop} (hd : Nat.blt d X.n = true) (hw : GOk G ops ⟨some d, op, ty, pos, af, some gd⟩ gp)
    (ht : gp → Walk X ops Q G (⟨some d, op, ty, pos, af, none⟩ :: rest)) (hf : ¬gp → Walk X ops Q (.fact d .und :: G) rest) : Walk X ops Q G (⟨some d, op, ty, pos, af, some gd⟩ :: rest) := fun a w env => by
  obtain ⟨g, hg, hfa⟩ := env.facts
  refine wpListIn_step fun K hK => ?_
  rcases hw a w g hfa with ⟨h1, h2⟩ | ⟨h1, h2⟩
  · rw [h1, if_pos rfl]
    have h3 := ht h2 a w env
    simp only [wpListIn, Region.wanted, if_true] at h3
    have mono : ∀ {K K' : Act → World → Prop} {o : Oper}, (∀ a w, K a w → K' a w) → o.wpIn X.F 0 X.P a w K Q → o.wpIn X.F 0 X.P a w K' Q := by
      intro K K' o hKK h
      refine ⟨h.1, ?_⟩
      have h2 := h.2
      revert h2
      generalize (o.semAt X.F.round a.eval).run X.P w = r
      intro h2
      cases r with
      | ok x w' =>
        cases x with
        | value v => exact hKK _ _ h2
        | skip => exact hKK _ _ h2
        | defer d => exact hKK _ _ h2
        | enter f args => exact ⟨h2.1, h2.2.1, fun cs hr => let ⟨e, w2, fr, k1, k2⟩ := h2.2.2 cs hr; ⟨e, w2, fr, (by cases e <;> first | exact hKK _ _ k1 | exact k1), k2⟩⟩
        | row row args => exact ⟨h2.1, fun c cs hr => let ⟨v, w2, k1, k2⟩ := h2.2 c cs hr; ⟨v, w2, hKK _ _ k1, k2⟩⟩
        | round l f tm as bd => exact ⟨h2.1, RoundIn.mono h2.2 (fun e w2 k => by cases e <;> first | exact hKK _ _ k | exact k)⟩
        | _ => exact h2
      | halt hh w' => cases hh with
        | panic v => exact h2
        | _ => exact h2
    exact mono hK h3
  · rw [h1]
    simp only [Bool.false_eq_true, if_false]
    refine ⟨fun _ _ => trivial, ?_⟩
    exact hK _ _ (hf h2 _ _ (Env.put (by simpa [Nat.blt_eq] using hd) env.size env.defers env.fr hfa (Fr.refl _ _) hg (fun _ _ => rfl) (fun _ => rfl) rfl))

theorem Walk.gsplitU {d : Nat} {op : Op} {ty : TypeId} {pos : String} {af : Array Edge} {gd : Nat × Bool} {gp : Prop} (f : Fact) (hd : Nat.blt d X.n = true) (hw : GOk G ops ⟨some d, op, ty, pos, af, some gd⟩ gp)
    (ht : gp → Walk X ops Q G (⟨some d, op, ty, pos, af, none⟩ :: rest)) (hf : ¬gp → Walk X ops Q (.fact d (f.under gp) :: G) rest) : Walk X ops Q G (⟨some d, op, ty, pos, af, some gd⟩ :: rest) :=
  Walk.gsplit hd hw ht (fun h a w e => hf h a w (e.sub (fun a w g hf s f' hl => by
    rcases lookK_nil_spec hl with ⟨rfl, rfl⟩ | ⟨hne, hl⟩
    · have hdd : Nat.beq d d = true := by simp
      exact ⟨fun h1 => (h h1).elim, fun _ => hf d .und (by simp [look, lookK, hdd, disj]; simp [Fact.und, disj])⟩
    · exact hf s f' (by
        have : Nat.beq d s = false := by
          cases hb : Nat.beq d s with
          | true => exact (hne (Nat.eq_of_beq_eq_true hb)).elim
          | false => rfl
        simpa [look, lookK, this] using hl))))
/-- A guarded call that is walked where it stands. -/
theorem Walk.inlineG {S : Type} {d : Nat} {op : Op} {ty : TypeId} {pos : String} {af : Array Edge} {gd : Nat × Bool} {gp : Prop} (J : S → List It) (F : S → Prop) (Gc : (Nat → Value) → List It) {k : FuncId} {fn : Func} {c : Code} {n : Nat} {FA : List Fact}
    (hd : Nat.blt d X.n = true) (hw : GOk G ops ⟨some d, op, ty, pos, af, some gd⟩ gp) (hf : X.P.funcs[k]? = some fn) (hb : fn.body = some c) (hn : fn.ntmps = n) (hl : Nat.ble FA.length n = true)
    (hc : gp → CallOk X G ⟨some d, op, ty, pos, af, none⟩ k FA) (hcar : ∀ u, Carry G u (Gc u))
    (hbody : gp → ∀ u : Nat → Value, CWalk ⟨X.P, n, X.w0, X.C, X.om0, none, []⟩ (argI 0 FA (Gc u)) c (bodyPost X.P fn (InR X J F (some d) u)))
    (hskip : ¬gp → ∃ p, F p ∧ Sub (.fact d .und :: G) (J p))
    (hcont : ∀ p, F p → Walk X ops Q (J p) rest) (hnd : ndB op = true := by rfl) : Walk X ops Q G (⟨some d, op, ty, pos, af, some gd⟩ :: rest) :=
  Walk.gsplit hd hw (fun h => Walk.inline J F Gc rfl hf hb hn hl (hc h) hcar (hbody h) hcont hnd)
    (fun h a w e => by obtain ⟨p, hp, hs⟩ := hskip h; exact hcont p hp a w (e.sub hs))

/-! ### function variables -/
/-- A value of one cell. -/
structure Cell1 where
  v : Value
  one : v.oneCell' = true
instance : Rp Cell1 where
  n := 1
  agg := false
  na := fun _ => rfl
  rel := fun _ x cs _ => cs = [x.v]
  len := fun _ _ _ _ h => by rw [h]; rfl
  one := fun _ x _ _ h => by rw [h]; simp [x.one]
  stab := fun _ _ _ _ _ _ _ _ h => h
variable {ty : TypeId} {pos : String} {af : Array Edge}
theorem Step.storeFG {p x : Operand} {e : TypeId} {α : Type} [R : Rp α] {t i off : Nat} {ps : Ps} {f : Fact} (ht : Nat.ble 10 t = true) (hty : Ty X.P e α) (hp : partAt ps i = some (off, R.agg, R.n)) (hpx : Has G p (.pto t off))
    (ho : look G (rs t) = some (.obj t ps)) (hr : ∀ a w g, Facts G g a w → ∃ (F : Nat → Prop) (y : α), Rep F y (a.eval x) w) (hx : Has G x f) (hok : lsOk t (t + 1 + i) 1 [(R.agg, R.n, f)] = true) :
    Step X G ⟨none, .store e p x, ty, pos, af, none⟩ [.fact (rs (t + 1 + i)) (.at (t + 1 + i) f), .fact (rs t) (.obj t ps), .kill t, .killId (t + 1 + i)] := fun G' hsub a w env K Q hK => by
    have ht' : 10 ≤ t := by simpa using ht
    obtain ⟨g, hg, hf'⟩ := env.facts
    have hf := hsub a w g hf'
    obtain ⟨b, hb, hv⟩ := hpx a w g hf
    obtain ⟨b', ty', cs, hga, hh, hom, hrel⟩ := hf _ _ ho
    rw [hga] at hb
    simp only [ownB, Option.some.injEq] at hb
    subst hb
    obtain ⟨c0, k1, k2, k3, k4⟩ := hrel.part ps (t + 1) _ i off _ _ hp
    obtain ⟨F0, y, hr0⟩ := hr a w g hf
    obtain ⟨es, hes, hre, hrun⟩ := run_storeVar (P := X.P) hty hh hr0 (show off + R.n ≤ cs.size by simpa using k3)
    have hl := R.len _ _ _ _ hre
    have h1 := R.one _ _ _ _ hre
    have hfx := hx a w g hf
    have hok' := lsOk_spec hok (l := (R.agg, R.n, f)) (by simp)
    have hrun' : (execOp a.eval ⟨none, .store e p x, ty, pos, af, none⟩).run X.P w = .ok .skip (w.setRow b' (cs.toList.take off ++ es ++ cs.toList.drop (off + R.n)).toArray) := by
      unfold execOp
      simp only [hv, Instr.storeAt, Instr.sureAddr, Sem.run_bind, Sem.run_pure, Result.andThen_ok]
      rw [hrun]
      rfl
    unfold Oper.wp
    rw [hrun']
    refine hK undef _ ?_
    have hb : ∀ b, b < w.heap.size → g.om b ≠ t → (w.setRow b' (cs.toList.take off ++ es ++ cs.toList.drop (off + R.n)).toArray).heap[b]? = w.heap[b]? := fun b hb hne => setRow_other w b' b _ (fun h => hne (by rw [h]; exact hom))
    have hsz : (w.setRow b' (cs.toList.take off ++ es ++ cs.toList.drop (off + R.n)).toArray).heap.size = w.heap.size := by simp
    let g2 : Gh := ⟨g.om, fun s => if s = t + 1 + i then a.eval x else g.ga s⟩
    have hgai : g2.ga (t + 1 + i) = a.eval x := if_pos rfl
    have hgao : ∀ s, s ≠ t + 1 + i → g2.ga s = g.ga s := fun s hs => if_neg hs
    refine ⟨by simp [Act.put, env.size], env.defers, Fr.own env.fr hg ht' (.inr trivial) rfl rfl rfl (by rw [hsz]; exact Nat.le_refl _) hb, g2, ⟨⟨hg.ok.old, fun b h1 h2 => hg.ok.new b h1 (by rw [hsz] at h2; exact h2)⟩, hg.om⟩, ?_⟩
    show Facts _ g2 a _
    refine Facts.ghost ?_ (fun v => ?_)
    · refine Facts.ghost ?_ (fun v => ⟨b', ty', _, by rw [hgao t (by omega)]; exact hga, setRow_heap w b' cs _ ty' (0, 0) hh, hom, ?_⟩)
      · exact facts_killIdsT [t + 1 + i] hf' (by rw [hsz]; exact Nat.le_refl _) hb (fun _ _ => rfl) (fun s hs => hgao s (by simpa using hs))
      · have := PRel.set (g := g) (g' := g2) ps (t + 1) cs.toList es i off _ _ hrel hp hl h1 (by rw [hgai]; exact hes) hgao
        simpa using this
    · show f.p g2 (g2.ga (t + 1 + i)) _
      rw [hgai]
      exact f.stab g g2 _ w _ ⟨by rw [hsz]; exact Nat.le_refl _, fun b hbl htg => ⟨hb b hbl (fun he => hok'.2 (he ▸ htg)), rfl⟩, fun s hs => hgao s (fun he => hok'.1 s hs (by omega))⟩ hfx


theorem Step.storeFn {p x : Operand} {e : TypeId} {t i off : Nat} {ps : Ps} {f : Fact} (ht : Nat.ble 10 t = true) (hty : Ty X.P e Cell1) (hp : partAt ps i = some (off, false, 1)) (hpx : Has G p (.pto t off))
    (ho : look G (rs t) = some (.obj t ps)) (h1 : OneC f) (hx : Has G x f) (hok : lsOk t (t + 1 + i) 1 [(false, 1, f)] = true) :
    Step X G ⟨none, .store e p x, ty, pos, af, none⟩ [.fact (rs (t + 1 + i)) (.at (t + 1 + i) f), .fact (rs t) (.obj t ps), .kill t, .killId (t + 1 + i)] :=
  Step.storeFG (α := Cell1) ht hty hp hpx ho (fun a w g hf => by
    obtain ⟨k1, k2⟩ := h1 _ _ _ (hx a w g hf)
    exact ⟨fun _ => True, ⟨a.eval x, k2⟩, [a.eval x], rfl, rfl⟩) hx hok

def maxB (a b : UInt8) : UInt8 := if b.toNat > a.toNat then b else a
theorem Spec.maxB {dO : Option Nat} {gd : Option (Nat × Bool)} {x y : Operand} {T T' : List Nat} {m n : UInt8} {ts : Array TypeId} (hx : Has G x (Fact.rep T m)) (hy : Has G y (Fact.rep T' n)) :
    Spec X G ⟨dO, .call { callee := .builtin .max, args := #[x, y], argTypes := ts }, ty, pos, af, gd⟩ (Fact.rep [] (GL.maxB m n)) :=
  Spec.pure fun a w g hf => by
    have h1 := rep_u8.1 (hx a w g hf)
    have h2 := rep_u8.1 (hy a w g hf)
    refine ⟨.int .u8 ((GL.maxB m n).toNat : Int), ?_, rep_u8.2 rfl⟩
    have : (if (n.toNat : Int) > (m.toNat : Int) then (n.toNat : Int) else (m.toNat : Int)) = ((GL.maxB m n).toNat : Int) := by
      unfold GL.maxB
      by_cases h : n.toNat > m.toNat
      · rw [if_pos h, if_pos (by omega)]
      · rw [if_neg h, if_neg (by omega)]
    unfold execOp
    simp [resolve, invoke, builtin, h1, h2, Builtin.max_, Builtin.max2]
    simpa using this
end
end GL
