/- Own library, part 49: arrays as values, copies into arrays, shifts and bits. -/
import Derived.Test.YtgjibgklailenaaCore48
namespace GL
open Go

/-- An array of N elements, as a value. -/
structure ArrV (N : Nat) (α : Type) where
  l : List α
instance {N : Nat} {α : Type} : Inhabited (ArrV N α) := ⟨⟨[]⟩⟩
instance {N : Nat} {α : Type} [R : Rp α] : Rp (ArrV N α) where
  n := N * R.n
  agg := true
  na := fun h => by cases h
  rel := fun F x cs w => x.l.length = N ∧ RelL F x.l cs w
  len := fun F x cs w h => by rw [RelL.len _ _ h.2, h.1]
  one := fun F x cs w h => RelL.one _ _ h.2
  stab := fun F F' x cs w w' hs hk h => ⟨h.1, RelL.stab hs hk _ _ h.2⟩
instance {N : Nat} {α : Type} [R : Rp α] [Fl : Flat α] : Flat (ArrV N α) := ⟨fun _ _ x cs _ _ h => ⟨h.1, RelL.flat x.l cs h.2⟩⟩

section
variable {X : Cx} {G : List It} {dO : Option Nat} {ty : TypeId} {pos : String} {af : Array Edge} {gd : Option (Nat × Bool)}
theorem Spec.loadArrV {α : Type} [R : Rp α] {x : Operand} {te : List Nat} {l : List α} {t N : Nat} {e : TypeId} (hty : Ty X.P e (ArrV N α)) (hx : Has G x (.isv t)) (hrs : look G (rs t) = some (.arr t te N l)) :
    Spec X G ⟨dO, .load e x, ty, pos, af, gd⟩ (Fact.rep te (ArrV.mk l : ArrV N α)) :=
  Spec.pure fun a w g hf => by
    have hv : a.eval x = g.ga t := hx a w g hf
    obtain ⟨b, ty', cs, hp, hh, hrel, hom, hl⟩ := hf _ _ hrs
    have hc : CellsAt w ⟨b, 0, none⟩ cs.toList := fun j u hj => by
      rw [Go.Addr.add_lit, Nat.zero_add]
      refine ⟨?_, frozen_of_row w b _ cs ty' hh⟩
      rw [cell_of_row w b _ cs ty' (0, 0) hh, ← Array.getElem?_toList]
      exact hj
    have hr : (inferInstance : Rp (ArrV N α)).rel (fun b => g.om b ∈ te) (ArrV.mk l) cs.toList w := ⟨hl, hrel⟩
    refine ⟨mkV true cs.toList, ?_, cs.toList, hr, rfl⟩
    unfold execOp
    simp [hv, hp, Instr.loadAt, Instr.sureAddr, run_loadVar_rel hty hc hr]
    rfl
theorem Step.storeArrV {α : Type} [R : Rp α] [Fl : Flat α] {p x : Operand} {T te : List Nat} {l : List α} {t N : Nat} {y : ArrV N α} {e : TypeId} (ht : Nat.ble 10 t = true) (hty : Ty X.P e (ArrV N α))
    (hp : Has G p (.isv t)) (hrs : look G (rs t) = some (.arr t te N l)) (hx : Has G x (Fact.rep T y)) :
    Step X G ⟨none, .store e p x, ty, pos, af, none⟩ [.fact (rs t) (.arr t [] N y.l), .kill t] := fun G' hsub a w env K Q hK => by
    have ht' : 10 ≤ t := by simpa using ht
    obtain ⟨g, hg, hf'⟩ := env.facts
    have hf := hsub a w g hf'
    have hv : a.eval p = g.ga t := hp a w g hf
    obtain ⟨b', ty', cs, hga, hh, hrel, hom, hN⟩ := hf _ _ hrs
    have hlen := RelL.len l _ hrel
    rw [hN, Array.length_toList] at hlen
    have hRn : (inferInstance : Rp (ArrV N α)).n = N * R.n := rfl
    obtain ⟨es, hes, hr, hrun⟩ := run_storeVar (P := X.P) (o := 0) hty hh (hx a w g hf) (by rw [hRn, hlen]; omega)
    have hrun' : (execOp a.eval ⟨none, .store e p x, ty, pos, af, none⟩).run X.P w = .ok .skip (w.setRow b' (cs.toList.take 0 ++ es ++ cs.toList.drop (0 + (inferInstance : Rp (ArrV N α)).n)).toArray) := by
      unfold execOp
      simp only [hv, hga, Instr.storeAt, Instr.sureAddr, Sem.run_bind, Sem.run_pure, Result.andThen_ok]
      rw [hrun]
      rfl
    unfold Oper.wp
    rw [hrun']
    refine hK undef _ ?_
    have hrow : (cs.toList.take 0 ++ es ++ cs.toList.drop (0 + (inferInstance : Rp (ArrV N α)).n)).toArray = es.toArray := by
      rw [hRn, List.take_zero, List.nil_append, Nat.zero_add, List.drop_of_length_le (by rw [Array.length_toList, hlen]; exact Nat.le_refl _), List.append_nil]
    rw [hrow]
    have hb : ∀ b, b < w.heap.size → g.om b ≠ t → (w.setRow b' es.toArray).heap[b]? = w.heap[b]? := fun b hb hne => setRow_other w b' b _ (fun h => hne (by rw [h]; exact hom))
    have hsz : (w.setRow b' es.toArray).heap.size = w.heap.size := by simp
    refine ⟨by simp [Act.put, env.size], env.defers, Fr.own env.fr hg ht' (.inr trivial) rfl rfl rfl (by rw [hsz]; exact Nat.le_refl _) hb, g, ⟨⟨hg.ok.old, fun b h1 h2 => hg.ok.new b h1 (by rw [hsz] at h2; exact h2)⟩, hg.om⟩, ?_⟩
    show Facts _ g a _
    refine Facts.ghost ?_ (fun v => ⟨b', ty', _, hga, setRow_heap w b' cs _ ty' (0, 0) hh, ?_, hom, hr.1⟩)
    · exact facts_killed' hf' (by rw [hsz]; exact Nat.le_refl _) hb
    · simpa using RelL.flat y.l es hr.2
/-- The slice of a whole array variable. -/
def Fact.whA (t N : Nat) : Fact where
  tags := []
  ids := [t]
  p := fun g v _ => ∃ b, g.ga t = .pointer (some ⟨b, 0, none⟩) ∧ v = .slice (some ⟨b, 0, none⟩) N N
  stab := fun g g' v w w' hk h => by rw [hk.ids t (by simp)]; exact h
theorem Spec.sliceWh {α : Type} [R : Rp α] {x : Operand} {te : List Nat} {l : List α} {t : Nat} {ts e : TypeId} {N : Nat} {z : α} (hty : ArrTy X.P ts e N α z)
    (hx : Has G x (.isv t)) (hrs : look G (rs t) = some (.arr t te N l)) : Spec X G ⟨dO, .slice ts x none none none, ty, pos, af, gd⟩ (Fact.whA t N) :=
  Spec.pure fun a w g hf => by
    have hv : a.eval x = g.ga t := hx a w g hf
    obtain ⟨b, ty', cs, hp, hh, hrel, hom, hl⟩ := hf _ _ hrs
    have hbig : ¬ (N = 0) := by have := hty.big; simp at this; omega
    refine ⟨.slice (some ⟨b, 0, none⟩) N N, ?_, b, hp, rfl⟩
    unfold execOp
    simp only [hv, hp, Sem.run_bind, Option.map_none]
    unfold Instr.sliceAt
    simp [run_underlying hty.und, Instr.sureAddr, Instr.sliceBounds, rt_sizeOf hty.el, hbig, Go.Addr.add_zero']
def cpyA {α : Type} (l m : List α) : List α := m.take l.length ++ l.drop (m.length)
theorem cpyA_len {α : Type} (l m : List α) : (cpyA l m).length = l.length := by
  unfold cpyA
  rw [List.length_append, List.length_take, List.length_drop]
  omega
theorem cells_of_list {α : Type} [R : Rp α] {F : Nat → Prop} {w : World} {l : List α} {ad : Option Addr} {c : Nat} (h : Rep F l (.slice ad l.length c) w) : ∀ k, k ≤ l.length → ∃ es, RelL F (l.take k) es w ∧ ∀ j u, es[j]? = some u → ∃ a, ad = some a ∧ w.cell? (a.add j) = some u := by
  obtain ⟨ad', c', hv, hc, hnil, hcells⟩ := rep_list h
  cases hv
  cases ad with
  | none =>
    have := (hnil rfl).1
    subst this
    intro k _
    exact ⟨[], by simp [RelL], fun j u hj => by simp at hj⟩
  | some a =>
    intro k hk
    obtain ⟨news, hn1, hn2⟩ := cells_of_rep (w := w) (F := F) (ad := a) l 0 (fun i y hy => by
      obtain ⟨_, _, es, h1, h2⟩ := hcells a rfl i y hy
      exact ⟨es, by simpa using h1, h2⟩)
    have hn2 : CellsAt w a news := by simpa [Go.Addr.add_zero'] using hn2
    refine ⟨news.take (k * R.n), RelL.take l news k hn1, fun j u hj => ⟨a, rfl, (hn2 j u ?_).1⟩⟩
    rw [List.getElem?_take] at hj
    split at hj
    · exact hj
    · cases hj
/-- copy(a[:], m) into an array variable. -/
theorem Step.copyA {α : Type} [R : Rp α] [Fl : Flat α] {p x : Operand} {T te : List Nat} {l m : List α} {t N d : Nat} {ts ts' e : TypeId} (ht : Nat.ble 10 t = true) (hd : Nat.blt d X.n = true) (hty : OwnTy X.P ts e α)
    (hp : Has G p (.whA t N)) (hrs : look G (rs t) = some (.arr t te N l)) (hx : Has G x (Fact.rep T m)) :
    Step X G ⟨some d, .call { callee := .builtin .copy, args := #[p, x], argTypes := #[ts, ts'] }, ty, pos, af, none⟩ [.fact d (Fact.rep [] ((min m.length N : Nat) : Int)), .fact (rs t) (.arr t [] N (cpyA l m)), .kill t] := fun G' hsub a w env K Q hK => by
    have ht' : 10 ≤ t := by simpa using ht
    have hd' : d < X.n := by simpa [Nat.blt_eq] using hd
    obtain ⟨g, hg, hf'⟩ := env.facts
    have hf := hsub a w g hf'
    obtain ⟨b', hga', hv⟩ := hp a w g hf
    obtain ⟨b, ty', cs, hga, hh, hrel, hom, hN⟩ := hf _ _ hrs
    have hbb : b' = b := by rw [hga] at hga'; simpa using hga'.symm
    subst hbb
    have hlen := RelL.len l _ hrel
    rw [hN, Array.length_toList] at hlen
    have hrepx := hx a w g hf
    obtain ⟨ad, c, hxv, _⟩ := rep_list hrepx
    rw [hxv] at hrepx
    obtain ⟨i, zv, hi, hiz, hisz, hby, hzs⟩ := hty.info
    obtain ⟨es, hes, hcell⟩ := cells_of_list hrepx (min m.length N) (Nat.min_le_left _ _)
    have hel := RelL.len _ _ hes
    have hml : (m.take (min m.length N)).length = min m.length N := by rw [List.length_take]; omega
    rw [hml] at hel
    have hfc : (Builtin.firstCells R.n (min m.length N) (.slice ad m.length c)).run X.P w = .ok es.toArray w := by
      cases ad with
      | none =>
        have : es = [] := by
          cases es with
          | nil => rfl
          | cons u es =>
            obtain ⟨a, h, _⟩ := hcell 0 u rfl
            cases h
        subst this
        exact run_firstCells_none w _ _ _ _
      | some ad => exact run_firstCells_some w R.n (min m.length N) ad m.length c es hel (fun j u hj => by
          obtain ⟨a, h, h2⟩ := hcell j u hj
          cases h; exact h2)
    have hmn : (min m.length N) * R.n ≤ N * R.n := Nat.mul_le_mul_right _ (Nat.min_le_right _ _)
    have hst := run_storeCells_at X.P b' 0 ty' es 0 cs w hh (by rw [hel, hlen]; omega) (RelL.one _ es hes)
    simp only [Nat.add_zero, List.take_zero, List.nil_append, Nat.zero_add] at hst
    have hrun' : (execOp a.eval ⟨some d, .call { callee := .builtin .copy, args := #[p, x], argTypes := #[ts, ts'] }, ty, pos, af, none⟩).run X.P w = .ok (.value (.int .i64 ((min m.length N : Nat) : Int))) (w.setRow b' (es ++ cs.toList.drop es.length).toArray) := by
      have hmin : Nat.min m.length N = min m.length N := rfl
      unfold execOp
      simp [resolve, invoke, builtin, hv, hxv, Builtin.copy_, run_underlying hty.und, Builtin.lenOf, Go.sizeOf, typeInfo, hi, hisz, hmin, hfc, hst, goInt]
    unfold Oper.wp
    rw [hrun']
    refine hK _ _ ?_
    have hb : ∀ b, b < w.heap.size → g.om b ≠ t → (w.setRow b' (es ++ cs.toList.drop es.length).toArray).heap[b]? = w.heap[b]? := fun b hb hne => setRow_other w b' b _ (fun h => hne (by rw [h]; exact hom))
    have hsz : (w.setRow b' (es ++ cs.toList.drop es.length).toArray).heap.size = w.heap.size := by simp
    refine ⟨by simp [Act.put, env.size], env.defers, Fr.own env.fr hg ht' (.inr trivial) rfl rfl rfl (by rw [hsz]; exact Nat.le_refl _) hb, g, ⟨⟨hg.ok.old, fun b h1 h2 => hg.ok.new b h1 (by rw [hsz] at h2; exact h2)⟩, hg.om⟩, ?_⟩
    refine Facts.put (by rw [env.size]; exact hd') (Facts.ghost (facts_killed' hf' (by rw [hsz]; exact Nat.le_refl _) hb) (fun v => ⟨b', ty', _, hga, setRow_heap w b' cs _ ty' (0, 0) hh, ?_, hom, by rw [cpyA_len]; exact hN⟩)) (rep_int.2 rfl)
    have hw2 : RelL (fun _ => False) (m.take (min m.length N)) es (w.setRow b' (es ++ cs.toList.drop es.length).toArray) := RelL.flat _ _ hes
    have e1 : m.take l.length = m.take (min m.length N) := by
      rw [hN, List.take_eq_take_iff]; omega
    unfold cpyA
    rw [e1]
    have hdr : RelL (fun b => g.om b ∈ te) (l.drop (min m.length N)) (cs.toList.drop ((min m.length N) * R.n)) w := RelL.drop l _ _ hrel
    have e2 : l.drop m.length = l.drop (min m.length N) := by
      by_cases h : m.length ≤ N
      · rw [Nat.min_eq_left h]
      · rw [Nat.min_eq_right (by omega), List.drop_of_length_le (by omega), List.drop_of_length_le (by omega)]
    rw [e2, ← hel] at *
    have := RelL.app _ _ _ _ (RelL.flat (F' := fun b => g.om b ∈ ([] : List Nat)) (w' := w.setRow b' (es ++ cs.toList.drop es.length).toArray) _ _ hes) (RelL.flat (F' := fun b => g.om b ∈ ([] : List Nat)) (w' := w.setRow b' (es ++ cs.toList.drop es.length).toArray) _ _ hdr)
    simpa using this

/-! ### shifts and bits -/
def shrI (m n : Int) : Option Int := if n < 0 then none else some (m.fdiv (2 ^ (min n.toNat 64)))
def shlI (m n : Int) : Option Int := if n < 0 then none else some (wI (m * 2 ^ (min n.toNat 64)))
theorem Spec.shrI {x y : Operand} {t t' : TypeId} {T T' : List Nat} {m n r : Int} (hr : GL.shrI m n = some r) (hx : Has G x (Fact.rep T m)) (hy : Has G y (Fact.rep T' n)) : Spec X G ⟨dO, .binOp .shr t x y t', ty, pos, af, gd⟩ (Fact.rep [] r) := by
  unfold GL.shrI at hr
  split at hr
  case isTrue => cases hr
  rename_i h
  cases hr
  exact Spec.bin_int hx hy (fun w => by simp [binOp, Op.shift, h, IntKind.bits]; try rfl) (fun _ _ => rep_int.2 rfl)
theorem Spec.shlI {x y : Operand} {t t' : TypeId} {T T' : List Nat} {m n r : Int} (hr : GL.shlI m n = some r) (hx : Has G x (Fact.rep T m)) (hy : Has G y (Fact.rep T' n)) : Spec X G ⟨dO, .binOp .shl t x y t', ty, pos, af, gd⟩ (Fact.rep [] r) := by
  unfold GL.shlI at hr
  split at hr
  case isTrue => cases hr
  rename_i h
  cases hr
  exact Spec.bin_int hx hy (fun w => by simp [binOp, Op.shift, h, IntKind.bits]; try rfl) (fun _ _ => rep_int.2 rfl)
def orI (m n : Int) : Int := wI ((BitVec.ofInt 64 m ||| BitVec.ofInt 64 n).toNat)
theorem Spec.orI {x y : Operand} {t t' : TypeId} {T T' : List Nat} {m n : Int} (hx : Has G x (Fact.rep T m)) (hy : Has G y (Fact.rep T' n)) : Spec X G ⟨dO, .binOp .or t x y t', ty, pos, af, gd⟩ (Fact.rep [] (GL.orI m n)) :=
  Spec.bin_int hx hy (fun w => by simp [binOp, Op.intBits, IntKind.bits]; try rfl) (fun _ _ => rep_int.2 rfl)
theorem u32_ofInt (m : UInt32) : BitVec.ofInt 32 (m.toNat : Int) = m.toBitVec := by
  apply BitVec.eq_of_toNat_eq
  simp [BitVec.ofInt_natCast]
theorem u32_wrap (n : Nat) (h : n < 4294967296) : IntKind.u32.wrap (n : Int) = (n : Int) := by
  simp [IntKind.wrap, IntKind.signed, IntKind.bits]; omega
theorem Spec.xorW {x y : Operand} {t t' : TypeId} {T T' : List Nat} {m n : UInt32} (hx : Has G x (Fact.rep T m)) (hy : Has G y (Fact.rep T' n)) : Spec X G ⟨dO, .binOp .xor t x y t', ty, pos, af, gd⟩ (Fact.rep [] (m ^^^ n)) :=
  Spec.bin_sc (v := .int .u32 ((m ^^^ n).toNat : Int)) hx hy (fun w => by
    show (binOp .xor t (.int .u32 (m.toNat : Int)) (.int .u32 (n.toNat : Int))).run X.P w = _
    have h : IntKind.u32.wrap (((BitVec.ofInt 32 (m.toNat : Int)) ^^^ (BitVec.ofInt 32 (n.toNat : Int))).toNat : Int) = ((m ^^^ n).toNat : Int) := by
      rw [u32_ofInt, u32_ofInt, u32_wrap _ (BitVec.isLt _)]; rfl
    simp only [binOp, Op.intBits, ne_eq, not_true_eq_false, if_false, Sem.run_pure]
    exact congrArg (fun z => Result.ok (Value.int .u32 z) w) h) (fun _ _ => rep_u32.2 rfl)
theorem Spec.andW {x y : Operand} {t t' : TypeId} {T T' : List Nat} {m n : UInt32} (hx : Has G x (Fact.rep T m)) (hy : Has G y (Fact.rep T' n)) : Spec X G ⟨dO, .binOp .and t x y t', ty, pos, af, gd⟩ (Fact.rep [] (m &&& n)) :=
  Spec.bin_sc (v := .int .u32 ((m &&& n).toNat : Int)) hx hy (fun w => by
    show (binOp .and t (.int .u32 (m.toNat : Int)) (.int .u32 (n.toNat : Int))).run X.P w = _
    have h : IntKind.u32.wrap (((BitVec.ofInt 32 (m.toNat : Int)) &&& (BitVec.ofInt 32 (n.toNat : Int))).toNat : Int) = ((m &&& n).toNat : Int) := by
      rw [u32_ofInt, u32_ofInt, u32_wrap _ (BitVec.isLt _)]; rfl
    simp only [binOp, Op.intBits, ne_eq, not_true_eq_false, if_false, Sem.run_pure]
    exact congrArg (fun z => Result.ok (Value.int .u32 z) w) h) (fun _ _ => rep_u32.2 rfl)
theorem Spec.notW {x : Operand} {t : TypeId} {T : List Nat} {m : UInt32} (hx : Has G x (Fact.rep T m)) : Spec X G ⟨dO, .unOp .xor t x, ty, pos, af, gd⟩ (Fact.rep [] (4294967295 ^^^ m)) :=
  Spec.pure fun a w g hf => by
    have h1 := rep_u32.1 (hx a w g hf)
    refine ⟨.int .u32 ((4294967295 ^^^ m : UInt32).toNat : Int), ?_, rep_u32.2 rfl⟩
    have h : IntKind.u32.wrap (((BitVec.ofInt 32 (4294967295 : Int)) ^^^ (BitVec.ofInt 32 (m.toNat : Int))).toNat : Int) = ((4294967295 ^^^ m : UInt32).toNat : Int) := by
      rw [u32_ofInt, u32_wrap _ (BitVec.isLt _)]; rfl
    unfold execOp
    simp only [h1, Op.unary, Op.intBits, Sem.run_bind, Sem.run_pure, Result.andThen_ok]
    exact congrArg (fun z => Result.ok (Next.value (Value.int .u32 z)) w) h
def shrW (m : UInt32) (k : Nat) : UInt32 := UInt32.ofNat (m.toNat / 2 ^ (min k 32))
theorem Spec.shrW {x : Operand} {t t' : TypeId} {T : List Nat} {m : UInt32} {k : Nat} {kk : IntKind} (hx : Has G x (Fact.rep T m)) : Spec X G ⟨dO, .binOp .shr t x (.const (.int kk (k : Int))) t', ty, pos, af, gd⟩ (Fact.rep [] (GL.shrW m k)) :=
  Spec.pure fun a w g hf => by
    have h1 := rep_u32.1 (hx a w g hf)
    refine ⟨.int .u32 ((GL.shrW m k).toNat : Int), ?_, rep_u32.2 rfl⟩
    have hlt : m.toNat / 2 ^ (min k 32) < 4294967296 := Nat.lt_of_le_of_lt (Nat.div_le_self _ _) m.toNat_lt
    have h : ((m.toNat : Int)).fdiv (2 ^ (min k 32)) = ((GL.shrW m k).toNat : Int) := by
      unfold GL.shrW
      rw [UInt32.toNat_ofNat_of_lt' hlt, Int.fdiv_eq_ediv_of_nonneg _ (Int.pow_nonneg (by omega))]
      norm_cast
    unfold execOp
    simp only [h1, eval_const, eqGuard_at_int, binOp, Op.shift, Sem.run_bind, Sem.run_pure, Result.andThen_ok, Int.toNat_natCast]
    rw [if_neg (by omega)]
    simp only [Sem.run_pure, Result.andThen_ok]
    exact congrArg (fun z => Result.ok (Next.value (Value.int .u32 z)) w) h
/-- An array variable at an index that is no int. -/
theorem Spec.idxArrN {α β : Type} [R : Rp α] [B : Rp β] [S : Sc β] {x i : Operand} {T te : List Nat} {l : List α} {n : β} {k t : Nat} {ts e : TypeId} {N : Nat} {z : α} (hk : bnd N (S.val n) = some k) (hty : ArrTy X.P ts e N α z)
    (hx : Has G x (.isv t)) (hrs : look G (rs t) = some (.arr t te N l)) (hi : Has G i (Fact.rep T n)) : Spec X G ⟨dO, .indexAddr ts x i, ty, pos, af, gd⟩ (Fact.pto t (k * R.n)) := by
  obtain ⟨h0, h1, rfl⟩ := bnd_some hk
  refine Spec.pure fun a w g hf => ?_
  have hv : a.eval x = g.ga t := hx a w g hf
  obtain ⟨b, ty', cs, hp, _⟩ := hf _ _ hrs
  have h2 := (S.rel _ _ _ _).1 (hi a w g hf)
  refine ⟨.pointer (some ⟨b, (S.val n).toNat * R.n, none⟩), ?_, b, by rw [hp]; rfl, rfl⟩
  have hbig : ¬ (N ≤ 1) := by have := hty.big; simp at this; omega
  unfold execOp
  simp only [hv, h2, hp, Sem.run_bind, Sem.run_map]
  unfold Instr.indexAt
  simp [asIntOf, run_underlying hty.und, Instr.sureAddr, h0, h1, rt_sizeOf hty.el, Go.Addr.add_lit]
/-- An operation that gives a value known beforehand. -/
theorem Spec.known {α : Type} [R : Rp α] {o : Op} {x : α} {v : Value} (hrun : ∀ (ev : Operand → Value) w, (∀ c, ev (.const c) = c) → (execOp ev ⟨dO, o, ty, pos, af, gd⟩).run X.P w = .ok (.value v) w) (hv : ∀ F w, Rep F x v w) : Spec X G ⟨dO, o, ty, pos, af, gd⟩ (Fact.rep [] x) :=
  Spec.pure fun a w g _ => ⟨v, hrun a.eval w (fun c => rfl), hv _ _⟩
end
end GL
