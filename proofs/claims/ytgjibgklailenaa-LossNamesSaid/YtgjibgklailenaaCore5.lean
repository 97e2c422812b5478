/- Own library, part 5: what operations do. -/
import Derived.Test.YtgjibgklailenaaCore4
namespace GL
open Go

/-- int's wrap. -/
def wI (x : Int) : Int := IntKind.i64.wrap x

/-- An element, or a panic. -/
def idx {α : Type} (l : List α) (i : Int) : Option α := if 0 ≤ i then l[i.toNat]? else none

theorem eval_const (a : Act) (v : Value) : a.eval (.const v) = v := rfl

section
variable {X : Cx} {G : List It} {d : Option Nat} {ty : TypeId} {pos : String} {af : Array Edge} {gd : Option (Nat × Bool)}

theorem Spec.move {x : Operand} {f : Fact} (h : Has G x f) : Spec X G ⟨d, .move x, ty, pos, af, gd⟩ f :=
  Spec.pure fun a w g hf => ⟨a.eval x, rfl, h a w g hf⟩
theorem Spec.assign {x : Operand} {f : Fact} (h : Has G x f) : Spec X G ⟨d, .assign x, ty, pos, af, gd⟩ f :=
  Spec.pure fun a w g hf => ⟨a.eval x, rfl, h a w g hf⟩

theorem Spec.len {x : Operand} {α : Type} [Rp α] {T : List Nat} {l : List α} {t e : TypeId} (h : Has G x (Fact.rep T l)) (ht : X.P.underlying t = some (.slice e)) :
    Spec X G ⟨d, .call { callee := .builtin .len, args := #[x], argTypes := #[t] }, ty, pos, af, gd⟩ (Fact.rep [] (l.length : Int)) :=
  Spec.pure fun a w g hf => by
    obtain ⟨ad, c, hv, _⟩ := rep_list (h a w g hf)
    refine ⟨.int .i64 l.length, ?_, rep_int.2 rfl⟩
    unfold execOp
    simp [resolve, invoke, builtin, hv, Builtin.len_, run_underlying ht, goInt]

/-! ints -/
theorem Spec.bin_int {op : BinOp} {x y : Operand} {t t' : TypeId} {T T' : List Nat} {m n : Int} {β : Type} [Rp β] {r : β} {v : Value} (hx : Has G x (Fact.rep T m)) (hy : Has G y (Fact.rep T' n))
    (hr : ∀ w, (binOp op t (.int .i64 m) (.int .i64 n)).run X.P w = .ok v w) (hv : ∀ w F, Rep F r v w) :
    Spec X G ⟨d, .binOp op t x y t', ty, pos, af, gd⟩ (Fact.rep [] r) :=
  Spec.pure fun a w g hf => ⟨v, by
    have h1 := rep_int.1 (hx a w g hf)
    have h2 := rep_int.1 (hy a w g hf)
    unfold execOp
    simp [h1, h2, eqGuard_at_int, hr], hv w _⟩

section
variable {x y : Operand} {t t' : TypeId} {T T' : List Nat} {m n : Int} (hx : Has G x (Fact.rep T m)) (hy : Has G y (Fact.rep T' n))
include hx hy
theorem Spec.addI : Spec X G ⟨d, .binOp .add t x y t', ty, pos, af, gd⟩ (Fact.rep [] (wI (m + n))) :=
  Spec.bin_int hx hy (fun w => by simp [binOp, Op.intArith]; try rfl) (fun _ _ => rep_int.2 rfl)
theorem Spec.subI : Spec X G ⟨d, .binOp .sub t x y t', ty, pos, af, gd⟩ (Fact.rep [] (wI (m - n))) :=
  Spec.bin_int hx hy (fun w => by simp [binOp, Op.intArith]; try rfl) (fun _ _ => rep_int.2 rfl)
theorem Spec.mulI : Spec X G ⟨d, .binOp .mul t x y t', ty, pos, af, gd⟩ (Fact.rep [] (wI (m * n))) :=
  Spec.bin_int hx hy (fun w => by simp [binOp, Op.intArith]; try rfl) (fun _ _ => rep_int.2 rfl)
theorem Spec.eqlI : Spec X G ⟨d, .binOp .eql t x y t', ty, pos, af, gd⟩ (Fact.rep [] (m == n)) :=
  Spec.bin_int hx hy (fun w => by simp [binOp, Op.intCmp]; try rfl) (fun _ _ => rep_bool.2 rfl)
theorem Spec.neqI : Spec X G ⟨d, .binOp .neq t x y t', ty, pos, af, gd⟩ (Fact.rep [] (m != n)) :=
  Spec.bin_int hx hy (fun w => by simp [binOp, Op.intCmp]; try rfl) (fun _ _ => rep_bool.2 rfl)
theorem Spec.lssI : Spec X G ⟨d, .binOp .lss t x y t', ty, pos, af, gd⟩ (Fact.rep [] (decide (m < n))) :=
  Spec.bin_int hx hy (fun w => by simp [binOp, Op.intCmp]; try rfl) (fun _ _ => rep_bool.2 rfl)
theorem Spec.leqI : Spec X G ⟨d, .binOp .leq t x y t', ty, pos, af, gd⟩ (Fact.rep [] (decide (m ≤ n))) :=
  Spec.bin_int hx hy (fun w => by simp [binOp, Op.intCmp]; try rfl) (fun _ _ => rep_bool.2 rfl)
theorem Spec.gtrI : Spec X G ⟨d, .binOp .gtr t x y t', ty, pos, af, gd⟩ (Fact.rep [] (decide (m > n))) :=
  Spec.bin_int hx hy (fun w => by simp [binOp, Op.intCmp]; try rfl) (fun _ _ => rep_bool.2 rfl)
theorem Spec.geqI : Spec X G ⟨d, .binOp .geq t x y t', ty, pos, af, gd⟩ (Fact.rep [] (decide (m ≥ n))) :=
  Spec.bin_int hx hy (fun w => by simp [binOp, Op.intCmp]; try rfl) (fun _ _ => rep_bool.2 rfl)
end
/-- Division, whole part: by a number that is not 0. -/
def quoI (m n : Int) : Option Int := if n = 0 then none else some (wI (m.tdiv n))
def remI (m n : Int) : Option Int := if n = 0 then none else some (m.tmod n)
theorem Spec.quoI {x y : Operand} {t t' : TypeId} {T T' : List Nat} {m n r : Int} (hr : GL.quoI m n = some r) (hx : Has G x (Fact.rep T m)) (hy : Has G y (Fact.rep T' n)) :
    Spec X G ⟨d, .binOp .quo t x y t', ty, pos, af, gd⟩ (Fact.rep [] r) := by
  unfold GL.quoI at hr
  split at hr
  · cases hr
  · rename_i hn
    cases hr
    exact Spec.bin_int hx hy (fun w => by simp [binOp, Op.intDiv, hn]; try rfl) (fun _ _ => rep_int.2 rfl)
theorem Spec.remI {x y : Operand} {t t' : TypeId} {T T' : List Nat} {m n r : Int} (hr : GL.remI m n = some r) (hx : Has G x (Fact.rep T m)) (hy : Has G y (Fact.rep T' n)) :
    Spec X G ⟨d, .binOp .rem t x y t', ty, pos, af, gd⟩ (Fact.rep [] r) := by
  unfold GL.remI at hr
  split at hr
  · cases hr
  · rename_i hn
    cases hr
    exact Spec.bin_int hx hy (fun w => by simp [binOp, Op.intDiv, hn]; try rfl) (fun _ _ => rep_int.2 rfl)

/-! bytes -/
theorem wrap_u8 (n : Nat) : IntKind.u8.wrap (n : Int) = ((UInt8.ofNat n).toNat : Int) := by
  simp [IntKind.wrap, IntKind.signed, IntKind.bits]
theorem Spec.bin_u8 {op : BinOp} {x y : Operand} {t t' : TypeId} {T T' : List Nat} {m n : UInt8} {β : Type} [Rp β] {r : β} {v : Value} (hx : Has G x (Fact.rep T m)) (hy : Has G y (Fact.rep T' n))
    (hr : ∀ w, (binOp op t (.int .u8 m.toNat) (.int .u8 n.toNat)).run X.P w = .ok v w) (hv : ∀ w F, Rep F r v w) :
    Spec X G ⟨d, .binOp op t x y t', ty, pos, af, gd⟩ (Fact.rep [] r) :=
  Spec.pure fun a w g hf => ⟨v, by
    have h1 := rep_u8.1 (hx a w g hf)
    have h2 := rep_u8.1 (hy a w g hf)
    unfold execOp
    simp [h1, h2, eqGuard_at_int, hr], hv w _⟩
section
variable {x y : Operand} {t t' : TypeId} {T T' : List Nat} {m n : UInt8} (hx : Has G x (Fact.rep T m)) (hy : Has G y (Fact.rep T' n))
include hx hy
theorem Spec.addB : Spec X G ⟨d, .binOp .add t x y t', ty, pos, af, gd⟩ (Fact.rep [] (m + n)) :=
  Spec.bin_u8 hx hy (v := .int .u8 ((m + n).toNat : Int)) (fun w => by
    simp only [binOp, Op.intArith]
    have : IntKind.u8.wrap ((m.toNat : Int) + (n.toNat : Int)) = ((m + n).toNat : Int) := by
      rw [← Int.natCast_add, wrap_u8]; simp [UInt8.ofNat_add]
    simp [this]) (fun _ _ => rep_u8.2 rfl)
theorem Spec.xorB : Spec X G ⟨d, .binOp .xor t x y t', ty, pos, af, gd⟩ (Fact.rep [] (m ^^^ n)) :=
  Spec.bin_u8 hx hy (v := .int .u8 ((m ^^^ n).toNat : Int)) (fun w => by
    simp only [binOp, Op.intBits]
    have h1 : ∀ k : UInt8, BitVec.ofInt 8 (k.toNat : Int) = k.toBitVec := fun k => by
      apply BitVec.eq_of_toNat_eq
      have := k.toNat_lt
      simp
    have : IntKind.u8.wrap ((BitVec.ofInt 8 (m.toNat : Int) ^^^ BitVec.ofInt 8 (n.toNat : Int)).toNat : Int) = ((m ^^^ n).toNat : Int) := by
      rw [h1, h1, wrap_u8]
      congr 1
      simp
    have h3 : ∀ k : Int, k = IntKind.u8.wrap ((BitVec.ofInt 8 (m.toNat : Int) ^^^ BitVec.ofInt 8 (n.toNat : Int)).toNat : Int) → (Sem.run X.P (Pure.pure (Value.int .u8 k)) w) = .ok (.int .u8 ((m ^^^ n).toNat : Int)) w := fun k hk => by rw [hk, this]; rfl
    exact h3 _ rfl) (fun _ _ => rep_u8.2 rfl)
theorem Spec.eqlB : Spec X G ⟨d, .binOp .eql t x y t', ty, pos, af, gd⟩ (Fact.rep [] (m == n)) :=
  Spec.bin_u8 hx hy (v := .bool (m == n)) (fun w => by
    have : ((m.toNat : Int) == (n.toNat : Int)) = (m == n) := by
      rw [Bool.eq_iff_iff]; simp [← UInt8.toNat_inj]; omega
    simp [binOp, Op.intCmp, this]) (fun _ _ => rep_bool.2 rfl)
theorem Spec.neqB : Spec X G ⟨d, .binOp .neq t x y t', ty, pos, af, gd⟩ (Fact.rep [] (m != n)) :=
  Spec.bin_u8 hx hy (v := .bool (m != n)) (fun w => by
    have : ((m.toNat : Int) != (n.toNat : Int)) = (m != n) := by
      rw [Bool.eq_iff_iff]; simp [← UInt8.toNat_inj]; omega
    simp [binOp, Op.intCmp, this]) (fun _ _ => rep_bool.2 rfl)
end

/-! bools -/
theorem Spec.not {x : Operand} {t : TypeId} {T : List Nat} {m : Bool} (hx : Has G x (Fact.rep T m)) : Spec X G ⟨d, .unOp .not t x, ty, pos, af, gd⟩ (Fact.rep [] (!m)) :=
  Spec.pure fun a w g hf => ⟨.bool (!m), by
    have h1 := rep_bool.1 (hx a w g hf)
    unfold execOp
    simp [h1, Op.unary], rep_bool.2 rfl⟩
theorem Spec.or {c y : Operand} {T T' : List Nat} {m n : Bool} (hc : Has G c (Fact.rep T m)) (hy : m = false → Has G y (Fact.rep T' n)) :
    Spec X G ⟨d, .pick c (.const (.bool true)) y, ty, pos, af, gd⟩ (Fact.rep [] (m || n)) :=
  Spec.pure fun a w g hf => by
    have h1 := rep_bool.1 (hc a w g hf)
    cases m with
    | true => exact ⟨.bool true, by unfold execOp; simp [h1, asBool, eval_const], rep_bool.2 rfl⟩
    | false => exact ⟨.bool n, by have h2 := rep_bool.1 (hy rfl a w g hf); unfold execOp; simp [h1, h2, asBool], rep_bool.2 rfl⟩
theorem Spec.and {c y : Operand} {T T' : List Nat} {m n : Bool} (hc : Has G c (Fact.rep T m)) (hy : m = true → Has G y (Fact.rep T' n)) :
    Spec X G ⟨d, .pick c y (.const (.bool false)), ty, pos, af, gd⟩ (Fact.rep [] (m && n)) :=
  Spec.pure fun a w g hf => by
    have h1 := rep_bool.1 (hc a w g hf)
    cases m with
    | false => exact ⟨.bool false, by unfold execOp; simp [h1, asBool, eval_const], rep_bool.2 rfl⟩
    | true => exact ⟨.bool n, by have h2 := rep_bool.1 (hy rfl a w g hf); unfold execOp; simp [h1, h2, asBool], rep_bool.2 rfl⟩

/-! reading memory -/
theorem run_indexAt {P : Program} {t e : TypeId} {α : Type} [R : Rp α] (ht : P.underlying t = some (.slice e)) (he : Ty P e α) {ad : Addr} {len cap : Nat} {i : Int} (h0 : 0 ≤ i) (h1 : i < len) (w : World) :
    (Instr.indexAt t (.slice (some ad) len cap) (.int .i64 i)).run P w = .ok (.pointer (some (ad.add (i.toNat * R.n)))) w := by
  unfold Instr.indexAt
  simp [asIntOf, run_underlying ht, h0, h1, rt_sizeOf he]

theorem Spec.indexAddr {x i : Operand} {α : Type} [R : Rp α] {T T' : List Nat} {l : List α} {n : Int} {r : α} {t e : TypeId} (hr : idx l n = some r) (ht : SlTy X.P t e α)
    (hx : Has G x (Fact.rep T l)) (hi : Has G i (Fact.rep T' n)) : Spec X G ⟨d, .indexAddr t x i, ty, pos, af, gd⟩ (Fact.ptr T r) := by
  unfold idx at hr
  split at hr
  case isFalse => cases hr
  rename_i h0
  have hlt : n.toNat < l.length := (List.getElem?_eq_some_iff.1 hr).1
  refine Spec.pure fun a w g hf => ?_
  obtain ⟨ad, c, hv, hc, hnil, hcells⟩ := rep_list (hx a w g hf)
  have h2 := rep_int.1 (hi a w g hf)
  cases ad with
  | none => have := (hnil rfl).1; subst this; simp at hlt
  | some ad =>
    obtain ⟨hF, hb, es, he, hrel⟩ := hcells ad rfl n.toNat r hr
    refine ⟨.pointer (some (ad.add (n.toNat * R.n))), ?_, ad.add (n.toNat * R.n), rfl, ?_, ?_, es, he, hrel⟩
    · unfold execOp
      simp [hv, h2, run_indexAt (R := R) ht.und ht.el h0 (show n < (l.length : Int) by omega)]
    · rw [Addr.add_block]; exact hF
    · rw [Addr.add_block]; exact hb

theorem Spec.load {x : Operand} {α : Type} [R : Rp α] {T : List Nat} {r : α} {t : TypeId} (ht : Ty X.P t α) (hx : Has G x (Fact.ptr T r)) : Spec X G ⟨d, .load t x, ty, pos, af, gd⟩ (Fact.rep T r) :=
  Spec.pure fun a w g hf => by
    obtain ⟨ad, hv, _, _, es, he, hrel⟩ := hx a w g hf
    refine ⟨mkV R.agg es, ?_, es, hrel, rfl⟩
    unfold execOp
    simp [hv, Instr.loadAt, Instr.sureAddr, run_loadVar_rel ht he hrel]

/-! tuples -/
theorem Spec.ext0 {x : Operand} {f1 f2 : Fact} (hx : Has G x (Fact.tup2 f1 f2)) : Spec X G ⟨d, .extract x 0, ty, pos, af, gd⟩ f1 :=
  Spec.pure fun a w g hf => by
    obtain ⟨v1, v2, hv, h1, _⟩ := hx a w g hf
    exact ⟨v1, by unfold execOp; simp [hv, Instr.extract], h1⟩
theorem Spec.ext1 {x : Operand} {f1 f2 : Fact} (hx : Has G x (Fact.tup2 f1 f2)) : Spec X G ⟨d, .extract x 1, ty, pos, af, gd⟩ f2 :=
  Spec.pure fun a w g hf => by
    obtain ⟨v1, v2, hv, _, h2⟩ := hx a w g hf
    exact ⟨v2, by unfold execOp; simp [hv, Instr.extract], h2⟩

theorem Spec.flat {o : Oper} {α : Type} [R : Rp α] [Flat α] {y : α} {T T' : List Nat} (h : Spec X G o (Fact.rep T y)) : Spec X G o (Fact.rep T' y) := fun a w g hs hfr hg hf K Q hK =>
  h a w g hs hfr hg hf K Q (fun v w' ⟨h1, g', h2, h3, h4, ⟨cs, h5, h6⟩⟩ => hK v w' ⟨h1, g', h2, h3, h4, ⟨cs, Flat.flat _ _ _ _ _ _ h5, h6⟩⟩)

/-! strings -/
theorem run_bytes {P : Program} {w : World} {l : List UInt8} {a : Option Addr} {c : Nat} {F : Nat → Prop} (h : Rep F l (.slice a l.length c) w) :
    (Conv.bytesToString (.slice a l.length c)).run P w = .ok (.string ⟨l.toArray⟩) w := by
  obtain ⟨a', c', hv, hc, hnil, hcells⟩ := rep_list h
  cases hv
  cases a with
  | none =>
    have := (hnil rfl).1
    subst this
    rfl
  | some ad =>
    have hl : ∀ j : Nat, j < (l.map fun x => (x.toNat : Int)).length → w.cell? (ad.add j) = some (.int .u8 ((l.map fun x => (x.toNat : Int)).getD j 0)) := by
      intro j hj
      have hj' : j < l.length := by simpa using hj
      obtain ⟨_, _, es, he, hrel⟩ := hcells ad rfl j l[j] (List.getElem?_eq_getElem hj')
      cases hrel
      have := (he 0 _ rfl).1
      simp only [Go.Addr.add_zero', show Rp.n UInt8 = 1 from rfl, Nat.mul_one] at this
      rw [this]
      simp [List.getD, hj']
    have hld : (loadCells ad l.length).run P w = .ok (((l.map fun x => (x.toNat : Int)).map fun n => Value.int .u8 n).toArray) w := by
      have := run_loadCells_list (P := P) w ad ((l.map fun x => (x.toNat : Int)).map fun n => Value.int .u8 n) (fun j v hj => by
        have hj2 : j < l.length := by
          have := (List.getElem?_eq_some_iff.1 hj).1
          simpa using this
        rw [hl j (by simpa using hj2)]
        rw [List.getElem?_map] at hj
        simp [hj2] at hj
        simp [List.getD, hj2, hj])
      simpa using this
    rw [show l.length = (l.map fun x => (x.toNat : Int)).length by simp] at hld ⊢
    rw [run_bytesToString w ad _ c _ hld, foldl_push_bytes]
    have he : (l.map fun x => (x.toNat : Int)).map (fun n => UInt8.ofNat n.toNat) = l := by
      rw [List.map_map]
      conv => rhs; rw [← List.map_id l]
      exact List.map_congr_left (fun x _ => by simp)
    rw [he]
    simp

theorem Spec.toStr {x : Operand} {T : List Nat} {l : List UInt8} {t e s : TypeId} (ht : X.P.underlying t = some (.slice e)) (he : X.P.underlying e = some (.int .u8)) (hs : X.P.underlying s = some .string)
    (hx : Has G x (Fact.rep T l)) : Spec X G ⟨d, .convert t s x, ty, pos, af, gd⟩ (Fact.rep [] (Str.mk l)) :=
  Spec.pure fun a w g hf => by
    have h := hx a w g hf
    obtain ⟨ad, c, hv, _⟩ := rep_list h
    refine ⟨.string ⟨l.toArray⟩, ?_, rep_str.2 rfl⟩
    have h' : Rep (fun b => g.om b ∈ T) l (.slice ad l.length c) w := by rw [← hv]; exact h
    unfold execOp
    simp [hv, run_convert_bytes_string w t s e ad l.length c ht he hs, run_bytes h']

theorem Spec.eqlS {x y : Operand} {t t' : TypeId} {T T' : List Nat} {m n : Str} (hx : Has G x (Fact.rep T m)) (hy : Has G y (Fact.rep T' n)) :
    Spec X G ⟨d, .binOp .eql t x y t', ty, pos, af, gd⟩ (Fact.rep [] (m.s == n.s)) :=
  Spec.pure fun a w g hf => ⟨.bool (m.s == n.s), by
    have h1 := rep_str.1 (hx a w g hf)
    have h2 := rep_str.1 (hy a w g hf)
    unfold execOp
    simp [h1, h2, eqGuard_at_string, binOp, Op.stringOp], rep_bool.2 rfl⟩
theorem Spec.neqS {x y : Operand} {t t' : TypeId} {T T' : List Nat} {m n : Str} (hx : Has G x (Fact.rep T m)) (hy : Has G y (Fact.rep T' n)) :
    Spec X G ⟨d, .binOp .neq t x y t', ty, pos, af, gd⟩ (Fact.rep [] (!(m.s == n.s))) :=
  Spec.pure fun a w g hf => ⟨.bool (!(m.s == n.s)), by
    have h1 := rep_str.1 (hx a w g hf)
    have h2 := rep_str.1 (hy a w g hf)
    unfold execOp
    simp [h1, h2, eqGuard_at_string, binOp, Op.stringOp], rep_bool.2 rfl⟩
end
end GL
