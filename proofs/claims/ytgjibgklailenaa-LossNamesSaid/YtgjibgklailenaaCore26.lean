/- Own library, part 26: pointers that are handed on; appends to values; more operations. -/
import Derived.Test.YtgjibgklailenaaCore25
import Derived.Lib.SliceRun
namespace GL
open Go

/-! ### calls -/
section
variable {X : Cx} {G : List It}
theorem Spec.callE {k : FuncId} {pre : List Shape} {out : Shape} {shc : List Nat} {d : Option Nat} {xs : List Operand} {ats : Array TypeId} {ty : TypeId} {pos : String} {af : Array Edge} {gd : Option (Nat × Bool)} {f : Fact}
    (T : List Nat) (t : Nat) (ht : Nat.ble 10 t = true) (hk : enters X.P k = true) (hc : Ctr X.P k pre out shc) (hx : HasAll G T xs pre) (hf : out.f (cT t T shc) = f := by rfl) :
    Spec X G ⟨d, .call { callee := .value (.func k), args := xs.toArray, argTypes := ats }, ty, pos, af, gd⟩ f := hf ▸ Spec.call T t ht hk hc hx
end
theorem StepG.stE {X : Cx} {G : List It} {ops : Array Oper} {d : Option Nat} {op : Op} {ty : TypeId} {pos : String} {af : Array Edge} {I I' : List It} (h : Step X G ⟨d, op, ty, pos, af, none⟩ I) (hI : I = I' := by rfl) : StepG X ops G ⟨d, op, ty, pos, af, none⟩ I' :=
  hI ▸ StepG.st h
theorem CallOk.valE {X : Cx} {G : List It} {d : Option Nat} {ty : TypeId} {pos : String} {af : Array Edge} {gd : Option (Nat × Bool)} {k : FuncId} {x : Operand} {xs : List Operand} {us fs cs FA : List Fact} {ats : Array TypeId} (hk : enters X.P k = true) (hx : Has G x (.fnv k us cs)) (h : HasF G xs fs) (hF : us ++ (fs ++ cs) = FA := by rfl) :
    CallOk X G ⟨d, .call { callee := .value x, args := xs.toArray, argTypes := ats }, ty, pos, af, gd⟩ k FA := hF ▸ CallOk.val hk hx h

/-! ### division of bytes and words -/
def remB (m n : UInt8) : Option UInt8 := if n = 0 then none else some (m % n)
def quoB (m n : UInt8) : Option UInt8 := if n = 0 then none else some (m / n)
def remW (m n : UInt32) : Option UInt32 := if n = 0 then none else some (m % n)
def quoW (m n : UInt32) : Option UInt32 := if n = 0 then none else some (m / n)
section
variable {X : Cx} {G : List It} {d : Option Nat} {ty : TypeId} {pos : String} {af : Array Edge} {gd : Option (Nat × Bool)} {x y : Operand} {t t' : TypeId} {T T' : List Nat}
theorem Spec.remB {m n r : UInt8} (hr : GL.remB m n = some r) (hx : Has G x (Fact.rep T m)) (hy : Has G y (Fact.rep T' n)) : Spec X G ⟨d, .binOp .rem t x y t', ty, pos, af, gd⟩ (Fact.rep [] r) := by
  unfold GL.remB at hr
  split at hr
  · cases hr
  · rename_i hn
    cases hr
    have hn' : n.toNat ≠ 0 := fun h => hn (by rw [← UInt8.toNat_inj]; simpa using h)
    exact Spec.bin_u8 hx hy (v := .int .u8 ((m % n).toNat : Int)) (fun w => by simp [binOp, Op.intDiv, hn', UInt8.toNat_mod]; try rfl) (fun _ _ => rep_u8.2 rfl)
theorem Spec.quoB {m n r : UInt8} (hr : GL.quoB m n = some r) (hx : Has G x (Fact.rep T m)) (hy : Has G y (Fact.rep T' n)) : Spec X G ⟨d, .binOp .quo t x y t', ty, pos, af, gd⟩ (Fact.rep [] r) := by
  unfold GL.quoB at hr
  split at hr
  · cases hr
  · rename_i hn
    cases hr
    have hn' : n.toNat ≠ 0 := fun h => hn (by rw [← UInt8.toNat_inj]; simpa using h)
    have hw : IntKind.u8.wrap ((m.toNat : Int).tdiv (n.toNat : Int)) = ((m / n).toNat : Int) := by
      have h1 : (m.toNat : Int).tdiv (n.toNat : Int) = ((m.toNat / n.toNat : Nat) : Int) := by simp [Int.tdiv_eq_ediv_of_nonneg]
      rw [h1, wrap_u8, UInt8.toNat_ofNat', Nat.mod_eq_of_lt (Nat.lt_of_le_of_lt (Nat.div_le_self _ _) m.toNat_lt), UInt8.toNat_div]
    exact Spec.bin_u8 hx hy (v := .int .u8 ((m / n).toNat : Int)) (fun w => by
      rw [← hw]
      simp [binOp, Op.intDiv, hn']; try rfl) (fun _ _ => rep_u8.2 rfl)
end
/-! ### pointers handed on -/
def Shape.ptr {α : Type} [R : Rp α] (c : Nat) (x : α) : Shape where
  f := fun T => Fact.ptr (T c) x
  tg := fun _ _ h => ⟨c, h⟩
  idn := fun _ => rfl
  re := fun T T' g g' v w hk h => by
    obtain ⟨ad, hv, ht, hlt, es, he, hr⟩ := h
    exact ⟨ad, hv, hk c _ hlt ht, hlt, es, he, R.stab _ _ x es w w (Nat.le_refl _) (fun b hb hm => ⟨rfl, hk c b hb hm⟩) hr⟩

section
variable {G : List It}
theorem Cv.ptrM {α : Type} [R : Rp α] {x : α} {T T' : List Nat} (h : subB T T' = true) : Cv G (Fact.ptr T x) (Fact.ptr T' x) := fun a w g v _ hp => by
  obtain ⟨ad, hv, ht, hlt, es, he, hr⟩ := hp
  exact ⟨ad, hv, subB_spec h _ ht, hlt, es, he, R.stab _ _ x es w w (Nat.le_refl _) (fun b _ hm => ⟨rfl, subB_spec h _ hm⟩) hr⟩
theorem Cv.fnM {P : Program} {A β : Type} [Rp β] {pre : A → List Shape} {f : A → Option β} {T T' : List Nat} (h : subB T T' = true) : Cv G (Fact.fn P pre T f) (Fact.fn P pre T' f) := fun _ _ _ _ _ hp =>
  FnRel.stab (Nat.le_refl _) (fun _ _ hb => ⟨rfl, subB_spec h _ hb⟩) hp
theorem Cv.tup2 {f1 f2 m1 m2 : Fact} (h1 : Cv G f1 m1) (h2 : Cv G f2 m2) : Cv G (.tup2 f1 f2) (.tup2 m1 m2) := fun a w g v hf hp => by
  obtain ⟨v1, v2, hv, k1, k2⟩ := hp
  exact ⟨v1, v2, hv, h1 a w g v1 hf k1, h2 a w g v2 hf k2⟩
theorem Cv.tup3 {f1 f2 f3 m1 m2 m3 : Fact} (h1 : Cv G f1 m1) (h2 : Cv G f2 m2) (h3 : Cv G f3 m3) : Cv G (.tup3 f1 f2 f3) (.tup3 m1 m2 m3) := fun a w g v hf hp => by
  obtain ⟨v1, v2, v3, hv, k1, k2, k3⟩ := hp
  exact ⟨v1, v2, v3, hv, h1 a w g v1 hf k1, h2 a w g v2 hf k2, h3 a w g v3 hf k3⟩
theorem Has.mutM {α : Type} [R : Rp α] {x : Operand} {t : Nat} {te te' : List Nat} {l : List α} (h : Has G x (.mutS t te l)) (hT : subB te te' = true) : Has G x (.mutS t te' l) := fun a w g hf =>
  SlRel.stab (F' := fun b => g.om b = t) (Fe' := fun b => g.om b ∈ te') (Nat.le_refl _) (fun _ _ hb => ⟨rfl, hb⟩) (fun _ _ hb => ⟨rfl, subB_spec hT _ hb⟩) (h a w g hf)

theorem toA_inj {cs cs' : List Value} (h : cs.toArray = cs'.toArray) : cs = cs' := by simpa using congrArg Array.toList h
theorem Cv.objPtr {t : Nat} {ls : Ls} {ps : Ps} {α : Type} [R : Rp α] {y : α} {T : List Nat} (hps : lsPs ls = ps) (ho : look G (rs t) = some (.obj t ps)) (hg : HasGs G (t + 1) ls) (hc : Cv G (.flds ls) (Fact.rep T y)) (hag : R.agg = true := by rfl) :
    Cv G (.isv t) (Fact.ptr (t :: T) y) := fun a w g v hf hv => by
  subst hps
  obtain ⟨b, ty, cs, h1, h2, h3, h4⟩ := hf _ _ ho
  have hfl := h4.flds hf ls _ _ hg
  obtain ⟨cs', hr, he⟩ := hc a w g (.agg cs.toList.toArray) hf ⟨cs.toList, rfl, hfl⟩
  rw [hag] at he
  simp only [mkV, if_true] at he
  have he' : cs.toList = cs' := toA_inj (by injection he)
  subst he'
  refine ⟨⟨b, 0, none⟩, by rw [show v = g.ga t from hv, h1], by simp [h3], (Array.getElem?_eq_some_iff.1 h2).1, cs.toList, fun j u hj => ?_, R.stab _ _ y _ w w (Nat.le_refl _) (fun b _ hb => ⟨rfl, List.mem_cons_of_mem _ hb⟩) hr⟩
  rw [Go.Addr.add_lit]
  refine ⟨?_, frozen_of_row w b _ cs ty h2⟩
  rw [cell_of_row w b _ cs ty (0, 0) h2]
  simpa using hj
theorem Cv.objPtr1 {t : Nat} {f : Fact} {ps : Ps} {α : Type} [R : Rp α] {y : α} {T : List Nat} (hps : [(false, 1)] = ps) (ho : look G (rs t) = some (.obj t ps)) (hg : HasG G (t + 1) f) (hc : Cv G f (Fact.rep T y)) (hag : R.agg = false := by rfl) :
    Cv G (.isv t) (Fact.ptr (t :: T) y) := fun a w g v hf hv => by
  subst hps
  obtain ⟨b, ty, cs, h1, h2, h3, h4⟩ := hf _ _ ho
  obtain ⟨c1, c2, e1, e2, e3, _, e4, e5⟩ := h4
  have e5' : c2 = [] := e5
  subst e5'
  obtain ⟨cs', hr, he⟩ := hc a w g _ hf (hg a w g hf)
  rw [e4, hag] at he
  have hl := R.len _ _ _ _ hr
  rw [R.na hag] at hl
  have e2' : c1.length = 1 := e2
  match c1, cs', e2', hl with
  | [u], [u'], _, _ =>
    have huu : u = u' := he
    subst huu
    refine ⟨⟨b, 0, none⟩, by rw [show v = g.ga t from hv, h1], by simp [h3], (Array.getElem?_eq_some_iff.1 h2).1, [u], fun j x hj => ?_, R.stab _ _ y _ w w (Nat.le_refl _) (fun b _ hb => ⟨rfl, List.mem_cons_of_mem _ hb⟩) hr⟩
    rw [Go.Addr.add_lit]
    refine ⟨?_, frozen_of_row w b _ cs ty h2⟩
    rw [cell_of_row w b _ cs ty (0, 0) h2]
    have : cs.toList = [u] := by simpa using e1
    have h6 : cs.toList[0 + j]? = some x := by rw [this]; simpa using hj
    simpa using h6
end

/-! ### back in the frame that called -/
section
variable {G : List It} {u : Nat → Value} {d : Option Nat} {f0 f : Fact} {s : Nat} {J : List It}
theorem Low.keepG {i : Nat} (h : HasG G i f) (k : Low G u d f0 J) : Low G u d f0 (.fact s (.at i f) :: J) := Low.keep (fun a w g _ hf => h a w g hf) k
theorem Low.keepC {v0 : Value} (h : HasC G v0 f) (k : Low G u d f0 J) : Low G u d f0 (.fact s (.cst v0 f) :: J) := Low.keep (fun a w g _ hf => h a w g hf) k
theorem Low.keepR (hv : VFree f) (h : Has G (.tmp s) f) (k : Low G u d f0 J) : Low G u d f0 (.fact s f :: J) := Low.keep (fun a w g _ hf => hv _ _ _ _ (h a w g hf)) k
end

/-! ### appends to values -/
def ElKeeps {α : Type} [R : Rp α] (T te te' : List Nat) : Prop := ∀ (F' : Nat → Prop) (g : Gh) (w w' : World) (l : List α) (cs : List Value), w.heap.size ≤ w'.heap.size →
  (∀ b, b < w.heap.size → g.om b ∉ T → w'.heap[b]? = w.heap[b]?) → (∀ b, b < w.heap.size → g.om b ∈ te' → F' b) → RelL (fun b => g.om b ∈ te) l cs w → RelL F' l cs w'
theorem ElKeeps.flat {α : Type} [R : Rp α] [Flat α] {T te te' : List Nat} : ElKeeps (α := α) T te te' := fun _ _ _ _ l cs _ _ _ h => h.flat l cs
theorem ElKeeps.tags {α : Type} [R : Rp α] {T te te' : List Nat} (h1 : subB te te' = true) (h2 : disj te T = true) : ElKeeps (α := α) T te te' := fun F' g w w' l cs hs hb hF h =>
  RelL.stab hs (fun b hlt ht => ⟨hb b hlt (fun hT => disj_spec h2 hT ht), hF b hlt (subB_spec h1 _ ht)⟩) l cs h
theorem facts_killTs {G : List It} {g g' : Gh} {a : Act} {w w' : World} {T : List Nat} (h : Facts G g a w) (hs : w.heap.size ≤ w'.heap.size) (hb : ∀ b, b < w.heap.size → g.om b ∉ T → w'.heap[b]? = w.heap[b]?)
    (hom : ∀ b, b < w.heap.size → g'.om b = g.om b) (hga : ∀ s, g'.ga s = g.ga s) : Facts (killTs T G) g' a w' := fun s f hl => by
  obtain ⟨K', _, h2, h3⟩ := lookK_killTs T G [] [] s f hl
  have hd := lookK_disj G K' [] s f h3
  have hl2 : look G s = some f := lookK_sub G K' [] [] [] s f (by simp) (by simp) h3
  exact f.stab g g' _ w w' ⟨hs, fun b hlt ht => ⟨hb b hlt (fun hT => disj_spec hd.1 (h2 _ hT) ht), hom b hlt⟩, fun s' _ => hga s'⟩ (h s f hl2)
theorem killTs_app : ∀ (ts : List Nat) (G : List It), killTs ts [] ++ G = killTs ts G
  | [], _ => rfl
  | t :: ts, G => by simp only [killTs, List.cons_append, killTs_app ts G]

theorem Fr.owns {X : Cx} {w w' : World} {g : Gh} (hfr : Fr X.C X.w0 w) (h : GhE X w g) {T : List Nat} (hT : all10 T = true)
    (hos : w'.os = w.os) (htape : w'.tape = w.tape) (hout : w'.output = w.output) (hs : w.heap.size ≤ w'.heap.size)
    (hb : ∀ b, b < w.heap.size → g.om b ∉ T → w'.heap[b]? = w.heap[b]?) : Fr X.C X.w0 w' :=
  ⟨hos.trans hfr.os, htape.trans hfr.tape, hout.trans hfr.output, Nat.le_trans hfr.size hs, fun k hk hn =>
    (hb k (Nat.lt_of_lt_of_le hk hfr.size) (fun he => by have := h.ok.old k hk; have := all10_spec hT he; omega)).trans (hfr.block k hk hn)⟩

section
variable {X : Cx} {G : List It} {Q : Exit → Act → World → Prop} {ops : Array Oper} {rest : List Oper} {d : Nat} {dO : Option Nat} {ty : TypeId} {pos : String} {af : Array Edge} {gd : Option (Nat × Bool)}

theorem Step.appendOw {α : Type} [R : Rp α] {s x : Operand} {T te te' Tx : List Nat} {l m r : List α} {ts e : TypeId} (hr : app l m = some r) (hT10 : all10 T = true) (hT0 : T.isEmpty = false) (hd : Nat.blt d X.n = true) (hty : OwnTy X.P ts e α)
    (hs : Has G s (Fact.ow T te e l)) (hx : Has G x (Fact.rep Tx m)) (hte : ElKeeps (α := α) T te te') (hTx : ElKeeps (α := α) T Tx te') :
    Step X G ⟨some d, .call { callee := .builtin .append, args := #[s, x], argTypes := #[ts, ts] }, ty, pos, af, none⟩ (.fact d (Fact.ow T te' e r) :: killTs T []) := fun G' hsub a w env K Q hK => by
  have hd' : d < X.n := by simpa [Nat.blt_eq] using hd
  obtain ⟨g, hg, hf'⟩ := env.facts
  have hf := hsub a w g hf'
  obtain ⟨xs, hown, hrel, htag⟩ := hs a w g hf
  obtain ⟨t, ht⟩ : ∃ t, t ∈ T := by
    cases T with
    | nil => simp at hT0
    | cons t _ => exact ⟨t, by simp⟩
  have ht' : 10 ≤ t := all10_spec hT10 ht
  unfold app at hr
  split at hr
  case isFalse => cases hr
  rename_i hlen
  cases hr
  obtain ⟨v', w', news, hrun, hown', hgr, hnew, hblk⟩ := run_append (ty := ty) hty hlen hown (hx a w g hf)
  have hrun' : (execOp a.eval ⟨some d, .call { callee := .builtin .append, args := #[s, x], argTypes := #[ts, ts] }, ty, pos, af, none⟩).run X.P w = .ok (.value v') w' := by
    unfold execOp
    simp [resolve, invoke, builtin, hrun]
  unfold Oper.wp
  rw [hrun']
  refine hK v' w' ?_
  rw [List.cons_append, killTs_app]
  have hb : ∀ b, b < w.heap.size → g.om b ∉ T → w'.heap[b]? = w.heap[b]? := fun b hb hne => hgr.block b hb (fun he => hne (htag b he.symm))
  have hom : ∀ b, b < w.heap.size → (tagNew g w.heap.size t).om b = g.om b := fun b hb => by simp [tagNew, hb]
  refine ⟨by simp [Act.put, env.size], env.defers, Fr.owns env.fr hg hT10 hgr.os hgr.tape hgr.output hgr.size hb, tagNew g w.heap.size t, hg.tagNew ht' hgr.size env.fr.size, ?_⟩
  refine Facts.put (by rw [env.size]; exact hd') (facts_killTs hf' hgr.size hb hom (fun _ => rfl)) ?_
  have hF : ∀ b, b < w.heap.size → g.om b ∈ te' → (tagNew g w.heap.size t).om b ∈ te' := fun b hb h => by rw [hom b hb]; exact h
  refine ⟨xs ++ news, by rw [List.length_append]; exact hown', RelL.app l m xs news (hte _ g w w' l xs hgr.size hb hF hrel) (hTx _ g w w' m news hgr.size hb hF hnew), ?_⟩
  intro b hb'
  rcases hblk b hb' with h1 | h1
  · rw [hom b (hown.lt b h1).2]; exact htag b h1
  · show (tagNew g w.heap.size t).om b ∈ T
    simp only [tagNew]
    rw [if_neg (by omega)]; exact ht

theorem Spec.appNilO {α : Type} [R : Rp α] {s x : Operand} {T te' : List Nat} {m r : List α} (t : Nat) {ts e : TypeId} (hr : app [] m = some r) (ht : Nat.ble 10 t = true) (hty : OwnTy X.P ts e α)
    (hs : Has G s .nilv) (hx : Has G x (Fact.rep T m)) (hT : ElKeep (α := α) t T te') :
    Spec X G ⟨dO, .call { callee := .builtin .append, args := #[s, x], argTypes := #[ts, ts] }, ty, pos, af, gd⟩ (Fact.ow [t] te' e r) := fun a w g hsz hfr hg hf K Q hK => by
  have ht' : 10 ≤ t := by simpa using ht
  unfold app at hr
  split at hr
  case isFalse => cases hr
  rename_i hlen
  cases hr
  have hsv : a.eval s = .slice none 0 0 := hs a w g hf
  obtain ⟨v', w', news, hrun, hown', hgr, hnew, hblk⟩ := run_append (ty := ty) (n := 0) (xs := []) hty (by simpa using hlen) (World.ownsRow_nil w 0 e R.n) (hx a w g hf)
  have hrun' : (execOp a.eval ⟨dO, .call { callee := .builtin .append, args := #[s, x], argTypes := #[ts, ts] }, ty, pos, af, gd⟩).run X.P w = .ok (.value v') w' := by
    unfold execOp
    simp [resolve, invoke, builtin, hsv, hrun]
  unfold Oper.wp
  rw [hrun']
  have hb' : ∀ b, b < w.heap.size → w'.heap[b]? = w.heap[b]? := fun b hb => hgr.block b hb (by simp [Value.ownBlock])
  have hom : ∀ b, b < w.heap.size → (tagNew g w.heap.size t).om b = g.om b := fun b hb => by simp [tagNew, hb]
  refine hK v' w' ⟨⟨hgr.os, hgr.tape, hgr.output, hgr.size, fun b hb _ => hb' b hb⟩, tagNew g w.heap.size t, hg.tagNew ht' hgr.size hfr.size, hom, fun _ => rfl, ?_⟩
  have hF : ∀ b, b < w.heap.size → g.om b ∈ te' → (tagNew g w.heap.size t).om b ∈ te' := fun b hb h => by rw [hom b hb]; exact h
  have hb : ∀ b, b < w.heap.size → g.om b ≠ t → w'.heap[b]? = w.heap[b]? := fun b hb _ => hb' b hb
  refine ⟨news, by simpa using hown', by simpa using hT _ g w w' m news hgr.size hb hF hnew, fun b hb' => ?_⟩
  rcases hblk b hb' with h1 | h1
  · cases h1
  · show (tagNew g w.heap.size t).om b ∈ [t]
    simp only [tagNew]
    rw [if_neg (by omega)]; simp

/-! ### function values in variables -/
def OneC (f : Fact) : Prop := ∀ g v w, f.p g v w → v.cells = #[v] ∧ v.oneCell' = true
theorem OneC.fnv {k : FuncId} {fs cs : List Fact} : OneC (.fnv k fs cs) := fun g v w h => by
  obtain ⟨us, vs, rfl, _⟩ := h
  exact ⟨rfl, rfl⟩
theorem OneC.fn {P : Program} {A β : Type} [Rp β] {pre : A → List Shape} {f : A → Option β} {T : List Nat} : OneC (.fn P pre T f) := fun g v w h => by
  obtain ⟨k, us, cs, rfl, _⟩ := h
  exact ⟨rfl, rfl⟩
theorem HasL.one1 {x : Operand} {f : Fact} (ho : OneC f) (hx : Has G x f) : HasL G x [(false, 1, f)] := fun a w g hf => by
  have h := hx a w g hf
  obtain ⟨h1, h2⟩ := ho _ _ _ h
  exact ⟨[a.eval x], by rw [h1], [a.eval x], [], rfl, rfl, by simpa using h2, fun _ => rfl, h, rfl⟩
theorem HasL.fnv {x : Operand} {k : FuncId} {fs cs : List Fact} (hx : Has G x (.fnv k fs cs)) : HasL G x [(false, 1, .fnv k fs cs)] := HasL.one1 OneC.fnv hx

theorem Spec.nilCheckP {x : Operand} {α : Type} [Rp α] {T : List Nat} {y : α} (hx : Has G x (Fact.ptr T y)) : Spec X G ⟨dO, .nilCheck x, ty, pos, af, gd⟩ (Fact.ptr T y) :=
  Spec.pure fun a w g hfa => by
    obtain ⟨ad, hv, h⟩ := hx a w g hfa
    refine ⟨a.eval x, ?_, ad, hv, h⟩
    unfold execOp
    simp [hv]
theorem Spec.sliceArrS {α : Type} [R : Rp α] {x : Operand} {te : List Nat} {l : List α} {t : Nat} {ts e : TypeId} {N : Nat} {z : α} (hty : ArrTy X.P ts e N α z)
    (hx : Has G x (.isv t)) (hrs : look G (rs t) = some (.arr t te N l)) : Spec X G ⟨dO, .slice ts x none none none, ty, pos, af, gd⟩ (Fact.sl [t] te l) :=
  Spec.pure fun a w g hf => by
    have hv : a.eval x = g.ga t := hx a w g hf
    have hfa := hf _ _ hrs
    obtain ⟨b, ty', cs, hp, hh, hrel, hom, hl⟩ := hfa
    have hbig : ¬ (N = 0) := by have := hty.big; simp at this; omega
    refine ⟨.slice (some ⟨b, 0, none⟩) N N, ?_, some ⟨b, 0, none⟩, N, by rw [hl], by omega, (fun h => by cases h), ?_⟩
    · unfold execOp
      simp only [hv, hp, Sem.run_bind, Option.map_none]
      unfold Instr.sliceAt
      simp [run_underlying hty.und, Instr.sureAddr, Instr.sliceBounds, rt_sizeOf hty.el, hbig, Go.Addr.add_zero']
    · intro ad had i r hr
      cases had
      have hlt : b < w.heap.size := (Array.getElem?_eq_some_iff.1 hh).1
      obtain ⟨es, he, hrel'⟩ := arr_cells (hf _ _ hrs) (b := b) (by rw [hp]; rfl) hr
      refine ⟨by simp [hom], hlt, es, ?_, hrel'⟩
      rw [Go.Addr.add_lit, Nat.zero_add]; exact he

theorem run_storeCells_own {P : Program} {w : World} {b : Nat} {cur : Array Value} {te : TypeId} (hb : w.heap[b]? = some (.cells cur te (0, 0))) {es : List Value} (hl : es.length ≤ cur.size) (h1 : ∀ c ∈ es, c.oneCell' = true) :
    (storeCells ⟨b, 0, none⟩ es).run P w = .ok () (w.setRow b (es ++ cur.toList.drop es.length).toArray) := by
  have := run_storeCells_at P b 0 te es 0 cur w hb (by omega) h1
  simpa using this
/-- clear of a slice of the call's own. -/
theorem Step.clearOwn {α : Type} [R : Rp α] {x : Operand} {te : List Nat} {l : List α} {z : α} {t : Nat} {ts e : TypeId} (hty : OwnTy X.P ts e α) (hz : ZeroTy X.P e z) (ht : Nat.ble 10 t = true)
    (hx : Has G x (.isv t)) (hrs : look G (rs t) = some (.own t te e l)) :
    Step X G ⟨none, .call { callee := .builtin .clear, args := #[x], argTypes := #[ts] }, ty, pos, af, none⟩ [.fact (rs t) (.own t [] e (List.replicate l.length z)), .kill t] := fun G' hsub a w env K Q hK => by
  have ht' : 10 ≤ t := by simpa using ht
  obtain ⟨g, hg, hf'⟩ := env.facts
  have hf := hsub a w g hf'
  have hv : a.eval x = g.ga t := hx a w g hf
  obtain ⟨xs, hown, hrel, htag⟩ := hf _ _ hrs
  obtain ⟨i, zv, hi, hiz, hisz, hby, hzs⟩ := hty.info
  obtain ⟨zv', hz1, hz2⟩ := hz
  rw [hi] at hz1
  simp only [Option.bind_some, hiz, Option.some.injEq] at hz1
  subst hz1
  rcases hown.2 with ⟨hnil, hn⟩ | ⟨b, cap, cs, hga, h0, hh, hnc, hcm, hcs, htake⟩
  · have hrun : (execOp a.eval ⟨none, .call { callee := .builtin .clear, args := #[x], argTypes := #[ts] }, ty, pos, af, none⟩).run X.P w = .ok (.value (.tuple #[])) w := by
      unfold execOp
      simp [resolve, invoke, builtin, hv, hnil, Builtin.clear_, run_underlying hty.und]
    unfold Oper.wp
    rw [hrun]
    refine hK _ w ?_
    refine ⟨by simp [Act.put, env.size], env.defers, env.fr, g, hg, ?_⟩
    show Facts _ g a w
    refine Facts.ghost (facts_killed' hf' (Nat.le_refl _) (fun _ _ _ => rfl)) (fun v => ⟨[], ?_, ?_, htag⟩)
    · rw [hnil, List.length_replicate, hn]; exact World.ownsRow_nil w 0 e R.n
    · rw [hn]; rfl
  · by_cases hl0 : l.length = 0
    · have hrun : (execOp a.eval ⟨none, .call { callee := .builtin .clear, args := #[x], argTypes := #[ts] }, ty, pos, af, none⟩).run X.P w = .ok (.value (.tuple #[])) w := by
        unfold execOp
        simp [resolve, invoke, builtin, hv, hga, hl0, Builtin.clear_, run_underlying hty.und]
      unfold Oper.wp
      rw [hrun]
      refine hK _ w ?_
      refine ⟨by simp [Act.put, env.size], env.defers, env.fr, g, hg, ?_⟩
      show Facts _ g a w
      refine Facts.ghost (facts_killed' hf' (Nat.le_refl _) (fun _ _ _ => rfl)) (fun v => ⟨xs, ?_, ?_, htag⟩)
      · rw [List.length_replicate]; exact hown
      · have : xs = [] := List.eq_nil_of_length_eq_zero (by rw [hown.1, hl0, Nat.zero_mul])
        rw [hl0, this]; rfl
    · have hzl : (madeCells zv.cells (l.length * R.n)).toList = (List.replicate l.length zv.cells.toList).flatten := by
        have h1 := madeCells_flatten zv.cells.toList l.length
        simpa [hzs] using h1
      have hzc : ∀ c ∈ zv.cells.toList, c.oneCell' = true := R.one _ _ _ _ (hz2 w)
      have hlen : ((List.replicate l.length zv.cells.toList).flatten).length = l.length * R.n := by simp [hzs]
      have hfit : l.length * R.n ≤ cs.size := by rw [hcs]; exact Nat.mul_le_mul_right _ hnc
      have hst := GL.run_storeCells_own (P := X.P) (w := w) hh (es := (List.replicate l.length zv.cells.toList).flatten) (by rw [hlen]; exact hfit) (fun c hc => by
        obtain ⟨y, hy, hcy⟩ := List.mem_flatten.1 hc
        exact hzc c (by rw [(List.mem_replicate.1 hy).2] at hcy; exact hcy))
      have hzcells : (Builtin.zeroCells zv.cells l.length).toList = (List.replicate l.length zv.cells.toList).flatten := by
        rw [← hzl, ← hzs]; rfl
      have hrun : (execOp a.eval ⟨none, .call { callee := .builtin .clear, args := #[x], argTypes := #[ts] }, ty, pos, af, none⟩).run X.P w = .ok (.value (.tuple #[])) (w.setRow b ((List.replicate l.length zv.cells.toList).flatten ++ cs.toList.drop (l.length * R.n)).toArray) := by
        rw [hlen] at hst
        unfold execOp
        have hz0 : (zeroValue e).run X.P w = .ok zv w := by simp [zeroValue, typeInfo, hi, hiz]
        have hcl : (Builtin.clear_ #[ts] ty #[.slice (some ⟨b, 0, none⟩) l.length cap]).run X.P w = .ok (.tuple #[]) (w.setRow b ((List.replicate l.length zv.cells.toList).flatten ++ cs.toList.drop (l.length * R.n)).toArray) := by
          obtain ⟨m, hm⟩ : ∃ m, l.length = m + 1 := ⟨l.length - 1, by omega⟩
          rw [hm] at hzcells hst ⊢
          unfold Builtin.clear_
          simp [run_underlying hty.und, hz0, hzcells, hst]
        simp [resolve, invoke, builtin, hv, hga, hcl]
      unfold Oper.wp
      rw [hrun]
      refine hK _ _ ?_
      have hom : g.om b = t := htag b (by rw [hga]; rfl)
      have hb : ∀ b', b' < w.heap.size → g.om b' ≠ t → (w.setRow b ((List.replicate l.length zv.cells.toList).flatten ++ cs.toList.drop (l.length * R.n)).toArray).heap[b']? = w.heap[b']? := fun b' hb hne => setRow_other w b b' _ (fun h => hne (by rw [h]; exact hom))
      have hsz : (w.setRow b ((List.replicate l.length zv.cells.toList).flatten ++ cs.toList.drop (l.length * R.n)).toArray).heap.size = w.heap.size := by simp
      refine ⟨by simp [Act.put, env.size], env.defers, Fr.own env.fr hg ht' (.inr trivial) rfl rfl rfl (by rw [hsz]; exact Nat.le_refl _) hb, g, ⟨⟨hg.ok.old, fun b h1 h2 => hg.ok.new b h1 (by rw [hsz] at h2; exact h2)⟩, hg.om⟩, ?_⟩
      show Facts _ g a _
      refine Facts.ghost (facts_killed' hf' (by rw [hsz]; exact Nat.le_refl _) hb) (fun v => ⟨(List.replicate l.length zv.cells.toList).flatten, ⟨by rw [hlen, List.length_replicate], .inr ⟨b, cap, _, by rw [hga, List.length_replicate], h0, setRow_heap w b cs _ e (0, 0) hh, by rw [List.length_replicate]; exact hnc, hcm, ?_, ?_⟩⟩, ?_, htag⟩)
      · simp only [List.size_toArray, List.length_append, hlen, List.length_drop, Array.length_toList]
        omega
      · rw [List.length_replicate, List.take_append_of_le_length (by rw [hlen]; exact Nat.le_refl _), List.take_of_length_le (by rw [hlen]; exact Nat.le_refl _)]
      · exact RelL.rep (R.stab _ _ z _ w _ (by rw [hsz]; exact Nat.le_refl _) (fun _ _ h => h.elim) (hz2 w)) l.length
end
end GL
