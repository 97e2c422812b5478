/- Own library, texts 55 to 56 in one. -/
import Derived.Test.YtmlmlfghogoadaaCoreME
import Derived.Lib.AppendZerosOnto
set_option linter.unusedVariables false
set_option linter.unusedSimpArgs false
set_option linter.unnecessarySimpa false
namespace GL
section
open Go

section
variable {X : Cx} {G : List It} {dO : Option Nat} {d : Nat} {ty : TypeId} {pos : String} {af : Array Edge} {gd : Option (Nat × Bool)}
theorem gotK_some {L : List DRow} {s : Int} {r : DRow} (h : gotK L s = some r) : hasK L s = true ∧ getK L s = r := by
  unfold gotK at h
  cases hk : hasK L s with
  | true => rw [hk] at h; exact ⟨rfl, Option.some.inj h⟩
  | false => rw [hk] at h; cases h
theorem Spec.nilCheckLk {x : Operand} {q : Nat} {te : List Nat} {e1 e2 : TypeId} {L : List DRow} {s : Int} {r : DRow} (hr : gotK L s = some r) (hx : Has G x (.lkp q s)) (hm : look G (rs q) = some (.mpd q te e1 e2 L)) :
    Spec X G ⟨dO, .nilCheck x, ty, pos, af, gd⟩ (.lkp q s) :=
  Spec.pure fun a w g hf => by
    have h := hx a w g hf
    obtain ⟨h1, _⟩ := gotK_some hr
    rcases lkp_mpd h (hf _ _ hm) with ⟨h2, _⟩ | ⟨_, p, _, _, _, h2, _⟩
    · rw [h1] at h2; cases h2
    · refine ⟨.pointer (some ⟨p, 0, none⟩), ?_, by rw [← h2]; exact h⟩
      unfold execOp
      simp [h2]
/-- A deal of a map, read. -/
def lsDeal (q : Nat) (te : List Nat) (s : Int) (r : DRow) : Ls := [(false, 1, Fact.rep [] s), (false, 1, Fact.rep [q] r.2.1), (false, 1, Fact.rep (q :: te) r.2.2), (false, 1, .nilv)]
theorem Spec.loadLk {x : Operand} {e : TypeId} {α : Type} [R : Rp α] {q : Nat} {te : List Nat} {e1 e2 : TypeId} {L : List DRow} {s : Int} {r : DRow} (hr : gotK L s = some r) (hty : Ty X.P e α) (hag : R.agg = true) (hn : R.n = 4) (hx : Has G x (.lkp q s)) (hm : look G (rs q) = some (.mpd q te e1 e2 L)) :
    Spec X G ⟨dO, .load e x, ty, pos, af, gd⟩ (.flds (lsDeal q te s r)) :=
  Spec.pure fun a w g hf => by
    have h := hx a w g hf
    obtain ⟨h1, rfl⟩ := gotK_some hr
    rcases lkp_mpd h (hf _ _ hm) with ⟨h2, _⟩ | ⟨_, p, ty', sv, bv, h2, h3, h4, h5, h6⟩
    · rw [h1] at h2; cases h2
    · have hcs : CellsAt w ⟨p, 0, none⟩ [.int .i64 s, sv, bv, .slice none 0 0] := fun j v hj => by
        rw [Go.Addr.add_lit, Nat.zero_add]
        refine ⟨?_, frozen_of_row w p _ _ ty' h3⟩
        rw [cell_of_row w p _ _ ty' (0, 0) h3, ← Array.getElem?_toList]
        exact hj
      have hl := run_loadVar_cells (P := X.P) hty hcs (by rw [hn]; rfl)
      have c1 : ∀ {α : Type} [Rp α] {F Fe : Nat → Prop} {e : TypeId} {l : List α} {v : Value}, OwRel F Fe e l v w → v.oneCell' = true := fun h => by
        obtain ⟨xs, hown, _⟩ := h
        rcases hown.2 with ⟨hv, _⟩ | ⟨b, cap, cur, hv, _⟩ <;> rw [hv] <;> rfl
      refine ⟨mkV R.agg [.int .i64 s, sv, bv, .slice none 0 0], ?_, [.int .i64 s, sv, bv, .slice none 0 0], by rw [hag]; rfl, ?_⟩
      · unfold execOp
        simp [h2, Instr.loadAt, Instr.sureAddr, hl]
      · refine ⟨[.int .i64 s], [sv, bv, .slice none 0 0], rfl, rfl, by simp [Value.oneCell'], fun _ => rfl, rep_int.2 rfl, [sv], [bv, .slice none 0 0], rfl, rfl, by simpa using c1 h5, fun _ => rfl, ?_, [bv], [.slice none 0 0], rfl, rfl, by simpa using c1 h6, fun _ => rfl, ?_, [.slice none 0 0], [], rfl, rfl, by simp [Value.oneCell'], fun _ => rfl, rfl, rfl⟩
        · exact SlRel.rep (fun b hb => by show g.om b ∈ [q]; rw [hb]; simp) (fun _ h => h.elim) h5.sl
        · exact SlRel.rep (fun b hb => by show g.om b ∈ q :: te; rw [hb]; simp) (fun b hb => List.mem_cons_of_mem _ hb) h6.sl

/-! ### values of one cell -/
def One (G : List It) (x : Operand) : Prop := ∀ a w g, Facts G g a w → (a.eval x).cells = #[a.eval x] ∧ (a.eval x).oneCell' = true
theorem One.obj {x : Operand} {t : Nat} {ps : Ps} (hx : Has G x (.isv t)) (ho : look G (rs t) = some (.obj t ps)) : One G x := fun a w g hf => by
  obtain ⟨b, _, _, h, _⟩ := hf _ _ ho
  rw [show a.eval x = g.ga t from hx a w g hf, h]
  exact ⟨rfl, rfl⟩
theorem One.mpd {x : Operand} {q : Nat} {te : List Nat} {e1 e2 : TypeId} {L : List DRow} (hx : Has G x (.isv q)) (hm : look G (rs q) = some (.mpd q te e1 e2 L)) : One G x := fun a w g hf => by
  obtain ⟨m, _, _, _, h, _⟩ := hf _ _ hm
  rw [show a.eval x = g.ga q from hx a w g hf, h]
  exact ⟨rfl, rfl⟩
theorem Step.storeP {p x : Operand} {e : TypeId} {t i off : Nat} {ps : Ps} {f : Fact} (ht : Nat.ble 10 t = true) (hty : Ty X.P e Cell1) (hp : partAt ps i = some (off, false, 1)) (hpx : Has G p (.pto t off))
    (ho : look G (rs t) = some (.obj t ps)) (h1 : One G x) (hx : Has G x f) (hok : lsOk t (t + 1 + i) 1 [(false, 1, f)] = true) :
    Step X G ⟨none, .store e p x, ty, pos, af, none⟩ [.fact (rs (t + 1 + i)) (.at (t + 1 + i) f), .fact (rs t) (.obj t ps), .kill t, .killId (t + 1 + i)] :=
  Step.storeFG (α := Cell1) ht hty hp hpx ho (fun a w g hf => by
    obtain ⟨k1, k2⟩ := h1 a w g hf
    exact ⟨fun _ => True, ⟨a.eval x, k2⟩, [a.eval x], rfl, rfl⟩) hx hok
theorem BP.consP {pl : List (Nat × Nat)} {ls ls' : Ls} {us : List (Nat × Operand)} {i off : Nat} {x : Operand} {f f0 : Fact} (hl : fldAt ls i = some (off, false, 1, f0)) (hp : pl[i]? = some (off, 1))
    (ho : One G x) (hx : Has G x f) (k : BP G pl (ls.set i (false, 1, f)) us ls') : BP G pl ls ((i, x) :: us) ls' := fun a w g hf cs h => by
  have hfx := hx a w g hf
  obtain ⟨hc, h1⟩ := ho a w g hf
  obtain ⟨k1, k2⟩ := FldRel.set ls cs [a.eval x] i off _ _ f0 f h hl rfl (by simpa using h1) hfx
  obtain ⟨cs', k3, k4⟩ := k a w g hf _ k2
  refine ⟨cs', ?_, k4⟩
  rw [← k3]
  simp only [List.map_cons, Instr.fill]
  have hp' : pl.toArray[i]? = some (off, 1) := by simpa using hp
  simp only [hp', hc]
  rw [if_neg (by simp; omega)]
  have h2 := fold_set [a.eval x] off cs.toArray 0 (by simp; omega)
  simp only [Nat.add_zero, List.length_singleton] at h2
  congr 1
  apply Array.toList_inj.1
  simpa using h2
theorem FldRel.zp {v : Value} {g : Gh} {w : World} {ls : Ls} {cs : List Value} (h1 : v.oneCell' = true) (k : FldRel g w ls cs) : FldRel g w ((false, 1, .top) :: ls) (v :: cs) :=
  ⟨[v], cs, rfl, rfl, by simpa using h1, fun _ => rfl, trivial, k⟩

/-! ### slices.Insert of one element at any place -/
def insAt {α : Type} (l : List α) (i : Int) (y : α) : Option (List α) := if 0 ≤ i ∧ i ≤ l.length ∧ l.length + 1 < 4294967296 then some (l.take i.toNat ++ y :: l.drop i.toNat) else none
def InsAtFn (P : Program) (k : FuncId) (e : TypeId) : Prop := ∀ (sv vv : Value) (L i : Nat) (xs : List Value) (v : Value) (w : World), w.ownsRow 0 e 1 sv L xs → w.ownsRow 0 e 1 vv 1 [v] → (∀ b, sv.ownBlock = some b → vv.ownBlock ≠ some b) → L + 1 < 4294967296 → i ≤ L →
  (∀ u ∈ xs, u.oneCell' = true) → v.oneCell' = true →
  Calls P k #[sv, .int .i64 i, vv] w fun o w' => ∃ v', o = .returned v' ∧ w'.ownsRow 0 e 1 v' (L + 1) (xs.take i ++ v :: xs.drop i) ∧ w.grownBy w' sv.ownBlock ∧ ∀ b, v'.ownBlock = some b → sv.ownBlock = some b ∨ b = w.heap.size
theorem Step.insertAt {α : Type} [R : Rp α] {x y z : Operand} {T te te' Tx tx Ty' : List Nat} {l r : List α} {m : Int} {y0 : α} {e : TypeId} {k : FuncId} {ats : Array TypeId} (hr : insAt l m y0 = some r) (hn : R.n = 1) (hT10 : all10 T = true) (hT0 : T.isEmpty = false) (hd : Nat.blt d X.n = true)
    (hk : enters X.P k = true) (hI : InsAtFn X.P k e) (hs : Has G x (Fact.ow T te e l)) (hy : Has G y (Fact.rep Ty' m)) (hz : Has G z (Fact.ow Tx tx e [y0])) (hap : (T.all fun t => !Tx.elem t) = true) (hte : ElKeeps (α := α) T te te') (htx : ElKeeps (α := α) T tx te') :
    Step X G ⟨some d, .call { callee := .value (.func k), args := #[x, y, z], argTypes := ats }, ty, pos, af, none⟩ (.fact d (Fact.ow T te' e r) :: killTs T []) := fun G' hsub a w env K Q hK => by
  have hd' : d < X.n := by simpa [Nat.blt_eq] using hd
  obtain ⟨g, hg, hf'⟩ := env.facts
  have hf := hsub a w g hf'
  obtain ⟨xs, hown, hrel, htag⟩ := hs a w g hf
  obtain ⟨vs, hownv, hrelv, htagv⟩ := hz a w g hf
  have e1 := rep_int.1 (hy a w g hf)
  rw [hn] at hown hownv
  obtain ⟨t, ht⟩ : ∃ t, t ∈ T := by
    cases T with
    | nil => simp at hT0
    | cons t _ => exact ⟨t, by simp⟩
  have ht' : 10 ≤ t := all10_spec hT10 ht
  unfold insAt at hr
  split at hr
  case isFalse => cases hr
  rename_i hb0
  cases hr
  obtain ⟨i, rfl⟩ : ∃ i : Nat, m = (i : Int) := ⟨m.toNat, by omega⟩
  have hvl : vs.length = 1 := by have := RelL.len _ _ hrelv; rw [hn] at this; simpa using this
  obtain ⟨v, rfl⟩ := List.length_eq_one_iff.1 hvl
  have hne : ∀ b, (a.eval x).ownBlock = some b → (a.eval z).ownBlock ≠ some b := fun b h1 h2 => by
    have h3 := htag b h1
    have h4 := htagv b h2
    have := List.all_eq_true.1 hap _ h3
    simp at this
    exact this h4
  have hcall := hI (a.eval x) (a.eval z) l.length i xs v w hown hownv hne (by omega) (by omega) (RelL.one l xs hrel) (RelL.one _ _ hrelv v (by simp))
  have hrun : (execOp a.eval ⟨some d, .call { callee := .value (.func k), args := #[x, y, z], argTypes := ats }, ty, pos, af, none⟩).run X.P w = .ok (.enter k #[a.eval x, a.eval y, a.eval z]) w := by
    unfold execOp
    simp [resolve, Deferred.ofValue, Act.eval, invoke, run_enter hk]
  rw [e1] at hrun
  unfold Oper.wp
  rw [hrun]
  refine Calls.mono hcall ?_
  rintro o w' ⟨v', rfl, hown', hgr, hblk⟩
  refine hK v' w' ?_
  rw [List.cons_append, killTs_app]
  have hb : ∀ b, b < w.heap.size → g.om b ∉ T → w'.heap[b]? = w.heap[b]? := fun b hb hne => hgr.block b hb (fun he => hne (htag b he.symm))
  have hom : ∀ b, b < w.heap.size → (tagNew g w.heap.size t).om b = g.om b := fun b hb => by simp [tagNew, hb]
  refine ⟨by simp [Act.put, env.size], env.defers, Fr.owns env.fr hg hT10 hgr.os hgr.tape hgr.output hgr.size hb, tagNew g w.heap.size t, hg.tagNew ht' hgr.size env.fr.size, ?_⟩
  refine Facts.put (by rw [env.size]; exact hd') (facts_killTs hf' hgr.size hb hom (fun _ => rfl)) ?_
  have hF : ∀ b, b < w.heap.size → g.om b ∈ te' → (tagNew g w.heap.size t).om b ∈ te' := fun b hb h => by rw [hom b hb]; exact h
  have r1 := hte _ g w w' l xs hgr.size hb hF hrel
  have r2 := htx _ g w w' _ [v] hgr.size hb hF hrelv
  have r3 := RelL.take l xs i r1
  have r4 := RelL.drop l xs i r1
  rw [hn, Nat.mul_one] at r3 r4
  refine ⟨xs.take i ++ v :: xs.drop i, ?_, ?_, ?_⟩
  · rw [hn]
    have : ((l.take (i : Int).toNat ++ y0 :: l.drop (i : Int).toNat)).length = l.length + 1 := by simp; omega
    rw [this]; exact hown'
  · exact RelL.app (l.take i) (y0 :: l.drop i) _ _ r3 (RelL.app [y0] (l.drop i) [v] _ r2 r4)
  · intro b hb'
    rcases hblk b hb' with h1 | h1
    · rw [hom b (hown.lt b h1).2]; exact htag b h1
    · show (tagNew g w.heap.size t).om b ∈ T
      simp only [tagNew]
      rw [if_neg (by omega)]; exact ht
end

/-! ### words of 64 bits -/
instance : Rp UInt64 where
  n := 1
  agg := false
  na := fun _ => rfl
  rel := fun _ x cs _ => cs = [.int .u64 (x.toNat : Int)]
  len := fun _ _ _ _ h => by rw [h]; rfl
  one := fun _ _ _ _ h => by rw [h]; simp [Value.oneCell']
  stab := fun _ _ _ _ _ _ _ _ h => h
instance : Flat UInt64 := ⟨fun _ _ _ _ _ _ h => h⟩
theorem rep_u64 {F : Nat → Prop} {x : UInt64} {v : Value} {w : World} : Rep F x v w ↔ v = .int .u64 (x.toNat : Int) := by
  constructor
  · rintro ⟨cs, h, rfl⟩; cases h; rfl
  · rintro rfl; exact ⟨_, rfl, rfl⟩
def scQ.of (n : Int) : UInt64 := UInt64.ofNat (n % 18446744073709551616).toNat
instance : Sc UInt64 := ⟨.u64, fun x => (x.toNat : Int), scQ.of, fun _ _ _ _ => rep_u64, fun n => by
  have h : IntKind.u64.wrap n = n % 18446744073709551616 := by simp [IntKind.wrap, IntKind.signed, IntKind.bits]
  rw [h]; unfold scQ.of; simp; omega⟩
def shrQ (m : UInt64) (k : Nat) : UInt64 := UInt64.ofNat (m.toNat / 2 ^ (min k 64))
theorem Spec.shrQ {X : Cx} {G : List It} {dO : Option Nat} {ty : TypeId} {pos : String} {af : Array Edge} {gd : Option (Nat × Bool)} {x : Operand} {t t' : TypeId} {T : List Nat} {m : UInt64} {k : Nat} {kk : IntKind} (hx : Has G x (Fact.rep T m)) : Spec X G ⟨dO, .binOp .shr t x (.const (.int kk (k : Int))) t', ty, pos, af, gd⟩ (Fact.rep [] (GL.shrQ m k)) :=
  Spec.pure fun a w g hf => by
    have h1 := rep_u64.1 (hx a w g hf)
    refine ⟨.int .u64 ((GL.shrQ m k).toNat : Int), ?_, rep_u64.2 rfl⟩
    have hlt : m.toNat / 2 ^ (min k 64) < 18446744073709551616 := Nat.lt_of_le_of_lt (Nat.div_le_self _ _) m.toNat_lt
    have h : ((m.toNat : Int)).fdiv (2 ^ (min k 64)) = ((GL.shrQ m k).toNat : Int) := by
      unfold GL.shrQ
      rw [UInt64.toNat_ofNat_of_lt' hlt, Int.fdiv_eq_ediv_of_nonneg _ (Int.pow_nonneg (by omega))]
      norm_cast
    unfold execOp
    simp only [h1, eval_const, eqGuard_at_int, binOp, Op.shift, Sem.run_bind, Sem.run_pure, Result.andThen_ok, Int.toNat_natCast]
    rw [if_neg (by omega)]
    simp only [Sem.run_pure, Result.andThen_ok]
    exact congrArg (fun z => Result.ok (Next.value (Value.int .u64 z)) w) h
theorem MapTy.of {P : Program} {t kt et : TypeId} (h1 : P.underlying t = some (.map kt et)) (h2 : P.underlying kt = some (.int .i64)) (h3 : (P.info? et).bind (·.zero) = some (.pointer none)) : MapTy P t kt et := ⟨h1, h2, by
  cases hi : P.info? et with
  | none => rw [hi] at h3; cases h3
  | some i => rw [hi] at h3; exact ⟨i, rfl, h3⟩⟩
theorem nn_t {b : Bool} (h : (!b) = false) : b = true := by cases b <;> first | rfl | cases h
end
end GL

namespace GL
section
open Go

theorem run_appZ_room {P : Program} (w : World) (t tn ty e : TypeId) (i : TypeInfo) (z : Value) (ht : P.underlying t = some (.slice e)) (htn : P.underlying tn = some (.int .i64)) (hi : P.info? e = some i) (hz : i.zero = some z) (hzs : z.cells.size = i.size)
    (g sLen sCap : Nat) (cur : Array Value) (hg : w.heap[g]? = some (.cells cur e (0, 0))) (m : Nat) (hm : 0 < m * i.size) (h1 : ∀ u ∈ (List.replicate m z.cells.toList).flatten, u.oneCell' = true)
    (hroom : sLen + m ≤ sCap) (hfit : sLen * i.size + m * i.size ≤ cur.size) (h63 : (m : Int) ≤ 9223372036854775807) (h48 : m * i.bytes ≤ 281474976710656) :
    (Builtin.append_ #[t, tn] ty #[.slice (some ⟨g, 0, none⟩) sLen sCap, .int .i64 m]).run P w =
      .ok (.slice (some ⟨g, 0, none⟩) (sLen + m) sCap) (w.setRow g (cur.toList.take (sLen * i.size) ++ (List.replicate m z.cells.toList).flatten ++ cur.toList.drop (sLen * i.size + m * i.size)).toArray) := by
  have hw : IntKind.i64.wrap (m : Int) = m := by rw [IntKind.wrap_i64]; omega
  have hneg : ¬ ((m : Int) < 0) := by omega
  have h48i : ¬ (281474976710656 < (m : Int) * (i.bytes : Int)) := by
    rw [← Int.natCast_mul]
    omega
  have hns : ¬ (m * i.size = 0) := by omega
  have hl : ((List.replicate m z.cells.toList).flatten).length = m * i.size := by simp [hzs]
  have hst := run_storeCells_at P g (sLen * i.size) e (List.replicate m z.cells.toList).flatten 0 cur w hg (by rw [hl]; simpa using hfit) h1
  simp only [Nat.add_zero, hl] at hst
  have hzc : (Builtin.zeroCells z.cells m).toList = (List.replicate m z.cells.toList).flatten := by
    have h1 := madeCells_flatten z.cells.toList m
    simp only [Array.toArray_toList, Array.length_toList] at h1
    rw [← h1]; rfl
  simp [Builtin.append_, run_underlying ht, run_underlying htn, Go.sizeOf, typeInfo, zeroValue, hi, hz, Go.asInt, asIntOf, hw, hneg, h48i, hns, hroom, Addr.add_lit, hzc, hst]

/-- append of so many zeros to a slice of the call's own. -/
theorem run_appZ {P : Program} {α : Type} [R : Rp α] {w : World} {ts e ti ty : TypeId} {z : α} (hty : OwnTy P ts e α) (hz : ZeroTy P e z) (hti : P.underlying ti = some (.int .i64)) {v : Value} {n m : Nat} {xs : List Value}
    (hlen : n + m < 4294967296) (hown : w.ownsRow 0 e R.n v n xs) :
    ∃ v' w' news, (Builtin.append_ #[ts, ti] ty #[v, .int .i64 m]).run P w = .ok v' w' ∧ w'.ownsRow 0 e R.n v' (n + m) (xs ++ news) ∧ w.grownBy w' v.ownBlock ∧ RelL (fun _ => False) (List.replicate m z) news w ∧
      ∀ b, v'.ownBlock = some b → v.ownBlock = some b ∨ b = w.heap.size := by
  obtain ⟨i, zv, hi, hiz, hisz, hby, hzs⟩ := hty.info
  obtain ⟨zv', hz1, hz2⟩ := hz
  rw [hi] at hz1
  simp only [Option.bind_some, hiz, Option.some.injEq] at hz1
  subst hz1
  have hp := hty.pos
  have hbytes : (n + m) * i.bytes ≤ 140737488355328 := by
    have : (n + m) * i.bytes ≤ 4294967296 * 32768 := Nat.mul_le_mul (by omega) hby
    omega
  have hmb : m * i.bytes ≤ 140737488355328 := Nat.le_trans (Nat.mul_le_mul_right _ (by omega)) hbytes
  have hrel : RelL (R := R) (fun _ => False) (List.replicate m z) (List.replicate m zv.cells.toList).flatten w := RelL.rep (hz2 w) m
  have hl : ((List.replicate m zv.cells.toList).flatten).length = m * R.n := by simp [hzs]
  have hzcells : ∀ q : Nat, (Builtin.zeroCells zv.cells q).toList = (List.replicate q zv.cells.toList).flatten := fun q => by
    have h1 := madeCells_flatten zv.cells.toList q
    simp only [Array.toArray_toList, Array.length_toList] at h1
    rw [← h1]; rfl
  by_cases hm : m = 0
  · subst hm
    refine ⟨v, w, [], ?_, by simpa using hown, ⟨rfl, rfl, rfl, Nat.le_refl _, fun _ _ _ => rfl⟩, rfl, fun b hb => .inl hb⟩
    have hw : IntKind.i64.wrap 0 = 0 := by decide
    rcases hown.2 with ⟨rfl, rfl⟩ | ⟨g, cap, cur, rfl, hbg, hg, hnc, hcm, hcs, htake⟩
    · simp [Builtin.append_, run_underlying hty.und, run_underlying hti, Go.sizeOf, typeInfo, zeroValue, hi, hiz, Go.asInt, asIntOf, hw]
    · simp [Builtin.append_, run_underlying hty.und, run_underlying hti, Go.sizeOf, typeInfo, zeroValue, hi, hiz, Go.asInt, asIntOf, hw, hnc, storeCells]
  have hmp : 0 < m := by omega
  have grown : ∀ (old : Nat), old < n + m →
      (w.drew.alloc (.cells (xs.toArray ++ Builtin.zeroCells zv.cells m ++ Builtin.zeroCells zv.cells (grownCap w (n + m) old e - (n + m))) e)).ownsRow 0 e R.n
        (.slice (some ⟨w.heap.size, 0, none⟩) (n + m) (grownCap w (n + m) old e)) (n + m) (xs ++ (List.replicate m zv.cells.toList).flatten) := by
    intro old ho
    have hge := grownCap_ge w (n + m) old e
    have hcm : grownCap w (n + m) old e ≤ maxLen := grownCap_le_maxLen w (n + m) old e (by simp only [maxLen]; omega)
    have hlen' : (xs ++ (List.replicate m zv.cells.toList).flatten).length = (n + m) * R.n := by rw [List.length_append, hown.1, hl, Nat.add_mul]
    refine ⟨hlen', .inr ⟨w.heap.size, _, _, rfl, Nat.zero_le _, heap_alloc_new w.drew _, hge, hcm, ?_, ?_⟩⟩
    · simp only [Array.size_append, List.size_toArray, size_zeroCells, hzs, hown.1, ← Nat.add_mul]
      congr 1
      omega
    · simp only [Array.toList_append, hzcells]
      rw [← hlen']
      exact List.take_left
  rcases hown.2 with ⟨rfl, rfl⟩ | ⟨g, cap, cur, rfl, hbg, hg, hnc, hcm, hcs, htake⟩
  · have hx : xs = [] := List.eq_nil_of_length_eq_zero (by simpa using hown.1)
    subst hx
    have hr := Lib.run_append_grow_zeros (P := P) w ts ti ty e i zv .i64 .i64 hty.und hti hi hiz none 0 0 [] (by simp [Builtin.firstCells]) m hmp (by omega) (by omega) (by omega) (by omega) (growslice_fits (by omega) hbytes)
    exact ⟨_, _, _, hr, grown 0 (by omega), ⟨rfl, rfl, rfl, by simp, fun k hk _ => heap_alloc_old w.drew _ hk⟩, hrel, fun b hb => .inr (by simpa [Value.ownBlock] using hb.symm)⟩
  · by_cases hroom : n + m ≤ cap
    · have hfit : n * i.size + m * i.size ≤ cur.size := by rw [hcs, hisz, ← Nat.add_mul]; exact Nat.mul_le_mul_right _ hroom
      have hr := run_appZ_room (P := P) (ty := ty) w ts ti e i zv hty.und hti hi hiz (by rw [hzs, hisz]) g n cap cur hg m (by rw [hisz]; exact Nat.mul_pos hmp (by omega)) (RelL.one _ _ hrel) hroom hfit (by omega) (by omega)
      have hlen' : (xs ++ (List.replicate m zv.cells.toList).flatten).length = (n + m) * R.n := by rw [List.length_append, hown.1, hl, Nat.add_mul]
      refine ⟨_, _, _, hr, ⟨hlen', .inr ⟨g, cap, _, rfl, hbg, setRow_heap w g cur _ e _ hg, hroom, hcm, ?_, ?_⟩⟩, ⟨rfl, rfl, rfl, by simp, fun k _ hk => setRow_other w g k _ (fun e => hk (by simp [Value.ownBlock, e]))⟩, hrel, fun b hb => .inl (by simpa [Value.ownBlock] using hb)⟩
      · simp only [List.size_toArray, List.length_append, List.length_take, List.length_drop, Array.length_toList, hl, hisz] at hfit ⊢
        omega
      · rw [hisz, htake, ← hlen']
        exact List.take_left
    · have holds : ∀ j u, xs[j]? = some u → w.cell? ((⟨g, 0, none⟩ : Addr).add j) = some u := hown.cells (g := g) rfl
      have hr := Lib.run_append_grow_zeros (P := P) w ts ti ty e i zv .i64 .i64 hty.und hti hi hiz (some ⟨g, 0, none⟩) n cap xs (run_firstCells_some (P := P) w.drew i.size n ⟨g, 0, none⟩ n cap xs (by rw [hown.1, hisz]) holds) m hmp (by omega) (by omega) (by omega) (by omega) (growslice_fits (by omega) hbytes)
      exact ⟨_, _, _, hr, grown cap (by omega), ⟨rfl, rfl, rfl, by simp, fun k hk _ => heap_alloc_old w.drew _ hk⟩, hrel, fun b hb => .inr (by simpa [Value.ownBlock] using hb.symm)⟩

section
variable {X : Cx} {G : List It} {d : Nat} {ty : TypeId} {pos : String} {af : Array Edge}
theorem Step.appZOw {α : Type} [R : Rp α] {s x : Operand} {T te te' Tx : List Nat} {l r : List α} {n : Int} {z : α} {ts e ti : TypeId} (hr : GL.appZ z l n = some r) (hT10 : all10 T = true) (hT0 : T.isEmpty = false) (hd : Nat.blt d X.n = true) (hty : OwnTy X.P ts e α)
    (hz : ZeroTy X.P e z) (hti : X.P.underlying ti = some (.int .i64)) (hs : Has G s (Fact.ow T te e l)) (hx : Has G x (Fact.rep Tx n)) (hte : ElKeeps (α := α) T te te') :
    Step X G ⟨some d, .call { callee := .builtin .append, args := #[s, x], argTypes := #[ts, ti] }, ty, pos, af, none⟩ (.fact d (Fact.ow T te' e r) :: killTs T []) := fun G' hsub a w env K Q hK => by
  have hd' : d < X.n := by simpa [Nat.blt_eq] using hd
  obtain ⟨g, hg, hf'⟩ := env.facts
  have hf := hsub a w g hf'
  obtain ⟨xs, hown, hrel, htag⟩ := hs a w g hf
  obtain ⟨t, ht⟩ : ∃ t, t ∈ T := by
    cases T with
    | nil => simp at hT0
    | cons t _ => exact ⟨t, by simp⟩
  have ht' : 10 ≤ t := all10_spec hT10 ht
  unfold GL.appZ at hr
  split at hr
  case isFalse => cases hr
  rename_i hlen
  cases hr
  obtain ⟨m, rfl⟩ : ∃ m : Nat, n = (m : Int) := ⟨n.toNat, by omega⟩
  have hxv := rep_int.1 (hx a w g hf)
  obtain ⟨v', w', news, hrun, hown', hgr, hnew, hblk⟩ := run_appZ (ty := ty) hty hz hti (m := m) (by omega) hown
  have hrun' : (execOp a.eval ⟨some d, .call { callee := .builtin .append, args := #[s, x], argTypes := #[ts, ti] }, ty, pos, af, none⟩).run X.P w = .ok (.value v') w' := by
    unfold execOp
    simp [resolve, invoke, builtin, hxv, hrun]
  unfold Oper.wp
  rw [hrun']
  refine hK v' w' ?_
  rw [List.cons_append, killTs_app]
  have hb : ∀ b, b < w.heap.size → g.om b ∉ T → w'.heap[b]? = w.heap[b]? := fun b hb hne => hgr.block b hb (fun he => hne (htag b he.symm))
  have hom : ∀ b, b < w.heap.size → (tagNew g w.heap.size t).om b = g.om b := fun b hb => by simp [tagNew, hb]
  refine ⟨by simp [Act.put, env.size], env.defers, Fr.owns env.fr hg hT10 hgr.os hgr.tape hgr.output hgr.size hb, tagNew g w.heap.size t, hg.tagNew ht' hgr.size env.fr.size, ?_⟩
  refine Facts.put (by rw [env.size]; exact hd') (facts_killTs hf' hgr.size hb hom (fun _ => rfl)) ?_
  have hF : ∀ b, b < w.heap.size → g.om b ∈ te' → (tagNew g w.heap.size t).om b ∈ te' := fun b hb h => by rw [hom b hb]; exact h
  have hml : (List.replicate m z).length = m := by simp
  refine ⟨xs ++ news, by rw [Int.toNat_natCast, List.length_append, hml]; exact hown', RelL.app l _ xs news (hte _ g w w' l xs hgr.size hb hF hrel) (RelL.stab hgr.size (fun _ _ h => h.elim) _ _ hnew), ?_⟩
  intro b hb'
  rcases hblk b hb' with h1 | h1
  · rw [hom b (hown.lt b h1).2]; exact htag b h1
  · show (tagNew g w.heap.size t).om b ∈ T
    simp only [tagNew]
    rw [if_neg (by omega)]; exact ht
end
end
end GL

namespace GL
open Go
theorem Gz {G : List It} {i n : Nat} {ag : Bool} {f : Fact} {ls : Ls} (h : look G (rs i) = some (.at i f)) (k : HasGs G (i + 1) ls) : HasGs G i ((ag, n, f) :: ls) := HasGs.cons (HasG.s h) k
theorem Vf {G : List It} {α : Type} [R : Rp α] [Fl : Flat α] {y : α} {T T' : List Nat} {ag : Bool} {n : Nat} {ls ms : Ls} (k : CvL G ls ms) : CvL G ((ag, n, Fact.rep T y) :: ls) ((ag, n, Fact.rep T' y) :: ms) := CvL.cons Cv.fl k
end GL
