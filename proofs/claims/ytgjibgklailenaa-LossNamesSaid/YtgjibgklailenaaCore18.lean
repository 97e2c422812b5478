/- Own library, part 18: struct literals, results out of variables, whole numbers of other kinds. -/
import Derived.Test.YtgjibgklailenaaCore17
import Derived.Laws.Tables
import Derived.OwnWalk
import Derived.Laws.Small
namespace GL
open Go

/-! ### whole numbers -/
class Sc (α : Type) [R : Rp α] where
  k : IntKind
  val : α → Int
  of : Int → α
  rel : ∀ (F : Nat → Prop) (x : α) (v : Value) (w : World), Rep F x v w ↔ v = .int k (val x)
  wrap : ∀ n : Int, k.wrap n = val (of n)
instance : Sc Int := ⟨.i64, fun x => x, wI, fun _ _ _ _ => rep_int, fun _ => rfl⟩
instance : Sc UInt8 := ⟨.u8, fun x => (x.toNat : Int), fun n => UInt8.ofNat (n % 256).toNat, fun _ _ _ _ => rep_u8, fun n => by
  have h : IntKind.u8.wrap n = n % 256 := by simp [IntKind.wrap, IntKind.signed, IntKind.bits]
  rw [h]; simp; omega⟩
instance : Sc UInt32 := ⟨.u32, fun x => (x.toNat : Int), fun n => UInt32.ofNat (n % 4294967296).toNat, fun _ _ _ _ => rep_u32, fun n => by
  have h : IntKind.u32.wrap n = n % 4294967296 := by simp [IntKind.wrap, IntKind.signed, IntKind.bits]
  rw [h]; simp; omega⟩

section
variable {X : Cx} {G : List It} {d : Option Nat} {ty : TypeId} {pos : String} {af : Array Edge} {gd : Option (Nat × Bool)}

theorem Spec.bin_sc {op : BinOp} {x y : Operand} {t t' : TypeId} {T T' : List Nat} {α : Type} [R : Rp α] [S : Sc α] {m n : α} {β : Type} [Rp β] {r : β} {v : Value} (hx : Has G x (Fact.rep T m)) (hy : Has G y (Fact.rep T' n))
    (hr : ∀ w, (binOp op t (.int S.k (S.val m)) (.int S.k (S.val n))).run X.P w = .ok v w) (hv : ∀ w F, Rep F r v w) :
    Spec X G ⟨d, .binOp op t x y t', ty, pos, af, gd⟩ (Fact.rep [] r) :=
  Spec.pure fun a w g hf => ⟨v, by
    have h1 := (S.rel _ _ _ _).1 (hx a w g hf)
    have h2 := (S.rel _ _ _ _).1 (hy a w g hf)
    unfold execOp
    simp [h1, h2, eqGuard_at_int, hr], hv w _⟩
section
variable {x y : Operand} {t t' : TypeId} {T T' : List Nat} {α : Type} [R : Rp α] [S : Sc α] {m n : α} (hx : Has G x (Fact.rep T m)) (hy : Has G y (Fact.rep T' n))
include hx hy
theorem Spec.eqlN : Spec X G ⟨d, .binOp .eql t x y t', ty, pos, af, gd⟩ (Fact.rep [] (S.val m == S.val n)) :=
  Spec.bin_sc hx hy (fun w => by simp [binOp, Op.intCmp]; try rfl) (fun _ _ => rep_bool.2 rfl)
theorem Spec.neqN : Spec X G ⟨d, .binOp .neq t x y t', ty, pos, af, gd⟩ (Fact.rep [] (S.val m != S.val n)) :=
  Spec.bin_sc hx hy (fun w => by simp [binOp, Op.intCmp]; try rfl) (fun _ _ => rep_bool.2 rfl)
theorem Spec.lssN : Spec X G ⟨d, .binOp .lss t x y t', ty, pos, af, gd⟩ (Fact.rep [] (decide (S.val m < S.val n))) :=
  Spec.bin_sc hx hy (fun w => by simp [binOp, Op.intCmp]; try rfl) (fun _ _ => rep_bool.2 rfl)
theorem Spec.leqN : Spec X G ⟨d, .binOp .leq t x y t', ty, pos, af, gd⟩ (Fact.rep [] (decide (S.val m ≤ S.val n))) :=
  Spec.bin_sc hx hy (fun w => by simp [binOp, Op.intCmp]; try rfl) (fun _ _ => rep_bool.2 rfl)
theorem Spec.gtrN : Spec X G ⟨d, .binOp .gtr t x y t', ty, pos, af, gd⟩ (Fact.rep [] (decide (S.val m > S.val n))) :=
  Spec.bin_sc hx hy (fun w => by simp [binOp, Op.intCmp]; try rfl) (fun _ _ => rep_bool.2 rfl)
theorem Spec.geqN : Spec X G ⟨d, .binOp .geq t x y t', ty, pos, af, gd⟩ (Fact.rep [] (decide (S.val m ≥ S.val n))) :=
  Spec.bin_sc hx hy (fun w => by simp [binOp, Op.intCmp]; try rfl) (fun _ _ => rep_bool.2 rfl)
theorem Spec.addN : Spec X G ⟨d, .binOp .add t x y t', ty, pos, af, gd⟩ (Fact.rep [] (S.of (S.val m + S.val n))) :=
  Spec.bin_sc hx hy (fun w => by simp [binOp, Op.intArith, S.wrap]; try rfl) (fun _ _ => (S.rel _ _ _ _).2 rfl)
theorem Spec.subN : Spec X G ⟨d, .binOp .sub t x y t', ty, pos, af, gd⟩ (Fact.rep [] (S.of (S.val m - S.val n))) :=
  Spec.bin_sc hx hy (fun w => by simp [binOp, Op.intArith, S.wrap]; try rfl) (fun _ _ => (S.rel _ _ _ _).2 rfl)
end
theorem Spec.conv {x : Operand} {s t : TypeId} {T : List Nat} {α β : Type} [R : Rp α] [S : Sc α] [R' : Rp β] [S' : Sc β] {m : α} {ds : TypeDesc} (hs : X.P.underlying s = some ds) (ht : X.P.underlying t = some (.int S'.k)) (hx : Has G x (Fact.rep T m)) :
    Spec X G ⟨d, .convert s t x, ty, pos, af, gd⟩ (Fact.rep [] (S'.of (S.val m))) :=
  Spec.pure fun a w g hf => by
    have h1 := (S.rel _ _ _ _).1 (hx a w g hf)
    refine ⟨.int S'.k (S'.val (S'.of (S.val m))), ?_, (S'.rel _ _ _ _).2 rfl⟩
    unfold execOp
    simp only [h1, convert, Sem.run_bind, run_underlying hs, run_underlying ht, Result.andThen_ok]
    simp [Conv.intToInt, S'.wrap]
theorem Spec.eqlT {x y : Operand} {t t' : TypeId} {T T' : List Nat} {m n : Bool} (hx : Has G x (Fact.rep T m)) (hy : Has G y (Fact.rep T' n)) (ht : X.P.underlying t = some .bool) : Spec X G ⟨d, .binOp .eql t x y t', ty, pos, af, gd⟩ (Fact.rep [] (m == n)) :=
  Spec.pure fun a w g hf => ⟨.bool (m == n), by
    have h1 := rep_bool.1 (hx a w g hf)
    have h2 := rep_bool.1 (hy a w g hf)
    unfold execOp
    simp [h1, h2, eqGuard_at_bool, binOp, run_equal_bool w t _ _ ht, bne], rep_bool.2 rfl⟩
theorem Spec.neqT {x y : Operand} {t t' : TypeId} {T T' : List Nat} {m n : Bool} (hx : Has G x (Fact.rep T m)) (hy : Has G y (Fact.rep T' n)) (ht : X.P.underlying t = some .bool) : Spec X G ⟨d, .binOp .neq t x y t', ty, pos, af, gd⟩ (Fact.rep [] (m != n)) :=
  Spec.pure fun a w g hf => ⟨.bool (m != n), by
    have h1 := rep_bool.1 (hx a w g hf)
    have h2 := rep_bool.1 (hy a w g hf)
    unfold execOp
    simp [h1, h2, eqGuard_at_bool, binOp, run_equal_bool w t _ _ ht, bne], rep_bool.2 rfl⟩

theorem Spec.ext0_3 {x : Operand} {f1 f2 f3 : Fact} (hx : Has G x (Fact.tup3 f1 f2 f3)) : Spec X G ⟨d, .extract x 0, ty, pos, af, gd⟩ f1 :=
  Spec.pure fun a w g hf => by
    obtain ⟨v1, v2, v3, hv, h1, _, _⟩ := hx a w g hf
    exact ⟨v1, by unfold execOp; simp [hv, Instr.extract], h1⟩
theorem Spec.ext1_3 {x : Operand} {f1 f2 f3 : Fact} (hx : Has G x (Fact.tup3 f1 f2 f3)) : Spec X G ⟨d, .extract x 1, ty, pos, af, gd⟩ f2 :=
  Spec.pure fun a w g hf => by
    obtain ⟨v1, v2, v3, hv, _, h2, _⟩ := hx a w g hf
    exact ⟨v2, by unfold execOp; simp [hv, Instr.extract], h2⟩
theorem Spec.ext2_3 {x : Operand} {f1 f2 f3 : Fact} (hx : Has G x (Fact.tup3 f1 f2 f3)) : Spec X G ⟨d, .extract x 2, ty, pos, af, gd⟩ f3 :=
  Spec.pure fun a w g hf => by
    obtain ⟨v1, v2, v3, hv, _, _, h3⟩ := hx a w g hf
    exact ⟨v3, by unfold execOp; simp [hv, Instr.extract], h3⟩

/-! ### struct literals -/
/-- Parts put into a struct's value. -/
def BP (G : List It) (pl : List (Nat × Nat)) (ls : Ls) (us : List (Nat × Operand)) (ls' : Ls) : Prop :=
  ∀ a w g, Facts G g a w → ∀ cs, FldRel g w ls cs → ∃ cs', Instr.fill (pl.toArray[·]?) cs.toArray (us.map fun u => (u.1, a.eval u.2)) = some cs'.toArray ∧ FldRel g w ls' cs'
theorem BP.nil {pl : List (Nat × Nat)} {ls : Ls} : BP G pl ls [] ls := fun _ _ _ _ cs h => ⟨cs, rfl, h⟩
theorem FldRel.set {g : Gh} {w : World} : ∀ (ls : Ls) (cs es : List Value) (i off : Nat) (ag : Bool) (n : Nat) (f0 f : Fact), FldRel g w ls cs → fldAt ls i = some (off, ag, n, f0) → es.length = n → (∀ c ∈ es, c.oneCell' = true) → f.p g (mkV ag es) w →
    off + n ≤ cs.length ∧ FldRel g w (ls.set i (ag, n, f)) (cs.take off ++ es ++ cs.drop (off + n))
  | [], _, _, i, _, _, _, _, _, _, h, _, _, _ => by simp [fldAt] at h
  | l :: ls, cs, es, 0, off, ag, n, f0, f, hp, h, hl, h1, hv => by
    obtain ⟨c1, c2, rfl, e1, e2, e2', e3, e4⟩ := hp
    simp only [fldAt, Option.some.injEq, Prod.mk.injEq] at h
    obtain ⟨rfl, rfl⟩ := h
    have e1' : c1.length = n := e1
    refine ⟨by rw [List.length_append]; omega, es, c2, ?_, hl, h1, e2', hv, e4⟩
    simp only [List.take_zero, List.nil_append, Nat.zero_add]
    rw [← e1', List.drop_left]
  | l :: ls, cs, es, i + 1, off, ag, n, f0, f, hp, h, hl, h1, hv => by
    obtain ⟨c1, c2, rfl, e1, e2, e2', e3, e4⟩ := hp
    simp only [fldAt, Option.map_eq_some_iff] at h
    obtain ⟨⟨o, x⟩, h6, h7⟩ := h
    simp only [Prod.mk.injEq] at h7
    obtain ⟨rfl, rfl⟩ := h7
    obtain ⟨k1, k2⟩ := FldRel.set ls c2 es i o ag n f0 f e4 h6 hl h1 hv
    refine ⟨by rw [List.length_append]; omega, c1, _, ?_, e1, e2, e2', e3, k2⟩
    rw [show o + l.2.1 = c1.length + o by omega, List.take_append, List.take_of_length_le (by omega), show c1.length + o - c1.length = o by omega]
    rw [show c1.length + o + n = c1.length + (o + n) by omega, List.drop_append, List.drop_of_length_le (by omega), show c1.length + (o + n) - c1.length = o + n by omega]
    simp
theorem BP.cons {pl : List (Nat × Nat)} {ls ls' : Ls} {us : List (Nat × Operand)} {i off : Nat} {x : Operand} {α : Type} [R : Rp α] {y : α} {T : List Nat} {f f0 : Fact} (hl : fldAt ls i = some (off, R.agg, R.n, f0)) (hp : pl[i]? = some (off, R.n))
    (hr : Has G x (Fact.rep T y)) (hx : Has G x f) (k : BP G pl (ls.set i (R.agg, R.n, f)) us ls') : BP G pl ls ((i, x) :: us) ls' := fun a w g hf cs h => by
  obtain ⟨es, hre, hv⟩ := hr a w g hf
  have hc := rep_cells hre
  have hel := R.len _ _ _ _ hre
  have h1 := R.one _ _ _ _ hre
  have hfx := hx a w g hf
  rw [hv] at hfx
  obtain ⟨k1, k2⟩ := FldRel.set ls cs es i off _ _ f0 f h hl hel h1 hfx
  obtain ⟨cs', k3, k4⟩ := k a w g hf _ k2
  refine ⟨cs', ?_, k4⟩
  rw [← k3]
  simp only [List.map_cons, Instr.fill]
  have hp' : pl.toArray[i]? = some (off, R.n) := by simpa using hp
  simp only [hp', hv, hc]
  rw [if_neg (by simp [hel]; omega)]
  have h2 := fold_set es off cs.toArray 0 (by simp; omega)
  simp only [Nat.add_zero, hel] at h2
  congr 1
  apply Array.toList_inj.1
  simpa using h2

structure BuildTy (P : Program) (t : TypeId) (pl : List (Nat × Nat)) (ls : Ls) : Prop where
  h' : ∃ fs zc, ((P.info? t).bind (·.zero)).map (·.cells) = some zc.toArray ∧ P.underlying t = some (.struct fs) ∧ (∀ g w, FldRel g w ls zc) ∧
    fs.toList.mapM (fun f => (P.info? f.type).map fun i => (f.offset, i.size)) = some pl
theorem BuildTy.h {P : Program} {t : TypeId} {pl : List (Nat × Nat)} {ls : Ls} (b : BuildTy P t pl ls) : ∃ it fs zv zc, P.info? t = some it ∧ P.underlying t = some (.struct fs) ∧ it.zero = some zv ∧ zv.cells = zc.toArray ∧ (∀ g w, FldRel g w ls zc) ∧
    fs.toList.mapM (fun f => (P.info? f.type).map fun i => (f.offset, i.size)) = some pl := by
  obtain ⟨fs, zc, h1, h2, h3, h4⟩ := b.h'
  simp only [Option.map_eq_some_iff, Option.bind_eq_some_iff] at h1
  obtain ⟨zv, ⟨it, h6, h7⟩, h8⟩ := h1
  exact ⟨it, fs, zv, zc, h6, h2, h7, h8, h3, h4⟩
theorem Spec.build {t : TypeId} {pl : List (Nat × Nat)} {ls ls' : Ls} {us : List (Nat × Operand)} {ua : Array (Nat × Operand)} (ht : BuildTy X.P t pl ls) (hu : ua = us.toArray) (h : BP G pl ls us ls') :
    Spec X G ⟨d, .build t ua, ty, pos, af, gd⟩ (.flds ls') :=
  Spec.pure fun a w g hf => by
    obtain ⟨it, fs, zv, zc, h1, h2, h3, h4, h5, h6⟩ := ht.h
    obtain ⟨cs', k1, k2⟩ := h a w g hf zc (h5 g w)
    refine ⟨.agg cs'.toArray, ?_, cs', rfl, k2⟩
    unfold execOp
    have hb : X.P.built t ((ua.map fun (i, x) => (i, a.eval x)).toList) = some cs'.toArray := by
      unfold Program.built
      simp only [h1, h2, h3, h6, h4]
      rw [← k1, hu]
      simp
    simp only [Sem.run_bind, run_build w t _ _ hb, Result.andThen_ok]
    simp
end

/-! ### results -/
section
variable {G : List It}
def resOne (tmps : Array Value) : ResultVar → Sem Value
  | .tmp t => pure (tmps.getD t undef)
  | .cell p t => do loadVar t (← asAddr (tmps.getD p undef))
theorem results_eq (fn : Func) (tmps : Array Value) : results fn tmps = (do
    let vs ← fn.results.mapM (resOne tmps)
    pure (if h : vs.size = 1 then vs[0] else .tuple vs)) := by
  unfold results
  congr 1
/-- A result: a slot, or a variable. -/
def HasR (P : Program) (G : List It) (r : ResultVar) (f : Fact) : Prop := ∀ a w g, Facts G g a w → ∃ v, (resOne a.tmps r).run P w = .ok v w ∧ f.p g v w
theorem HasR.tmp {P : Program} {t : Nat} {f : Fact} (h : Has G (.tmp t) f) : HasR P G (.tmp t) f := fun a w g hf => ⟨_, rfl, h a w g hf⟩
theorem HasR.cv {P : Program} {r : ResultVar} {f f' : Fact} (h : HasR P G r f) (k : Cv G f f') : HasR P G r f' := fun a w g hf => by
  obtain ⟨v, h1, h2⟩ := h a w g hf
  exact ⟨v, h1, k a w g v hf h2⟩
theorem HasR.obj {P : Program} {p : Nat} {e : TypeId} {α : Type} [R : Rp α] {t : Nat} {ls : Ls} (hty : Ty P e α) (hag : R.agg = true) (hn : lsN ls = R.n) (hx : Has G (.tmp p) (.isv t))
    (ho : look G (rs t) = some (.obj t (lsPs ls))) (hf : HasGs G (t + 1) ls) : HasR P G (.cell p e) (.flds ls) := fun a w g hfa => by
  have hv : a.tmps.getD p undef = g.ga t := hx a w g hfa
  obtain ⟨b, ty', cs, h1, h2, h3, h4⟩ := hfa _ _ ho
  have h5 := h4.flds hfa ls _ _ hf
  have hl := h5.len
  refine ⟨mkV R.agg cs.toList, ?_, cs.toList, by rw [hag]; rfl, h5⟩
  have hc : CellsAt w ⟨b, 0, none⟩ cs.toList := fun j u hj => by
    rw [Go.Addr.add_lit]
    refine ⟨?_, frozen_of_row w b _ cs ty' h2⟩
    rw [cell_of_row w b _ cs ty' (0, 0) h2]
    simpa using hj
  unfold resOne
  simp only [Sem.run_bind, hv, h1, asAddr, Sem.run_pure, Result.andThen_ok, run_loadVar_cells hty hc (by rw [hl, hn])]
theorem HasR.cell1 {P : Program} {p : Nat} {e : TypeId} {α : Type} [R : Rp α] {t : Nat} {f : Fact} (hty : Ty P e α) (hag : R.agg = false) (hx : Has G (.tmp p) (.isv t))
    (ho : look G (rs t) = some (.obj t [(false, 1)])) (hf : HasG G (t + 1) f) : HasR P G (.cell p e) f := fun a w g hfa => by
  have hv : a.tmps.getD p undef = g.ga t := hx a w g hfa
  obtain ⟨b, c, h1, h2, h3, h4⟩ := obj_cells (i := 0) (off := 0) (n := 1) (ag := false) (hfa _ _ ho) rfl
  have hn := R.na hag
  refine ⟨mkV R.agg c, ?_, by rw [hag, ← h2]; exact hf a w g hfa⟩
  unfold resOne
  simp only [Sem.run_bind, hv, h1, asAddr, Sem.run_pure, Result.andThen_ok, run_loadVar_cells hty h4 (by rw [h3, hn])]

variable {P : Program} {fn : Func} {T : List (List Nat)} {w0 : World} {om : Nat → Nat} {C : Nat → Prop} {n : Nat}
theorem Leaf.retC1 {out : Shape} {r : ResultVar} (hr : fn.results = #[r]) (h : HasR P G r (out.f (fun c => T.getD c []))) : Leaf ⟨P, n, w0, C, om, none, []⟩ G (bodyPost P fn (RetR ⟨P, n, w0, C, om, none, []⟩ out T)) .ret := fun a w e => by
  obtain ⟨g, hg, hf⟩ := e.facts
  obtain ⟨v, h1, h2⟩ := h a w g hf
  refine ⟨e.defers, v, ?_, _, rfl, e.fr, g, hg, h2⟩
  rw [results_eq, hr]
  simp [Array.mapM_eq_mapM_toList, List.mapM_cons, h1]
theorem Leaf.retC2 {s1 s2 : Shape} {r1 r2 : ResultVar} (hr : fn.results = #[r1, r2]) (h1 : HasR P G r1 (s1.f (fun c => T.getD c []))) (h2 : HasR P G r2 (s2.f (fun c => T.getD c []))) : Leaf ⟨P, n, w0, C, om, none, []⟩ G (bodyPost P fn (RetR ⟨P, n, w0, C, om, none, []⟩ (.tup2 s1 s2) T)) .ret := fun a w e => by
  obtain ⟨g, hg, hf⟩ := e.facts
  obtain ⟨v1, k1, k1'⟩ := h1 a w g hf
  obtain ⟨v2, k2, k2'⟩ := h2 a w g hf
  refine ⟨e.defers, .tuple #[v1, v2], ?_, _, rfl, e.fr, g, hg, _, _, rfl, k1', k2'⟩
  rw [results_eq, hr]
  simp [Array.mapM_eq_mapM_toList, List.mapM_cons, k1, k2]
theorem Leaf.retC3 {s1 s2 s3 : Shape} {r1 r2 r3 : ResultVar} (hr : fn.results = #[r1, r2, r3]) (h1 : HasR P G r1 (s1.f (fun c => T.getD c []))) (h2 : HasR P G r2 (s2.f (fun c => T.getD c []))) (h3 : HasR P G r3 (s3.f (fun c => T.getD c []))) : Leaf ⟨P, n, w0, C, om, none, []⟩ G (bodyPost P fn (RetR ⟨P, n, w0, C, om, none, []⟩ (.tup3 s1 s2 s3) T)) .ret := fun a w e => by
  obtain ⟨g, hg, hf⟩ := e.facts
  obtain ⟨v1, k1, k1'⟩ := h1 a w g hf
  obtain ⟨v2, k2, k2'⟩ := h2 a w g hf
  obtain ⟨v3, k3, k3'⟩ := h3 a w g hf
  refine ⟨e.defers, .tuple #[v1, v2, v3], ?_, _, rfl, e.fr, g, hg, _, _, _, rfl, k1', k2', k3'⟩
  rw [results_eq, hr]
  simp [Array.mapM_eq_mapM_toList, List.mapM_cons, k1, k2, k3]
end
end GL
