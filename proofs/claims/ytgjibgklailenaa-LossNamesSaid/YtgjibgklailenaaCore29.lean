/- Own library, part 29: structs compared. -/
import Derived.Test.YtgjibgklailenaaCore28
import Derived.Laws.StructEq
namespace GL
open Go

/-- Values of type t are compared as data are. -/
def EqV (P : Program) (k : Nat) (t : TypeId) (α : Type) [R : Rp α] : Prop := ∀ d, k ≤ d → ∀ (x y : α) (F F' : Nat → Prop) (cs ds : List Value) (w0 w1 w : World), R.rel F x cs w0 → R.rel F' y ds w1 →
  ∃ b : Bool, (Op.equalIn d t (mkV R.agg cs) (mkV R.agg ds)).run P w = .ok b w ∧ (b = true ↔ x = y)
/-- Fields from an offset on. -/
def EqF (P : Program) (k : Nat) (off : Nat) (fs : List Field) (α : Type) [R : Rp α] : Prop := ∀ d, k ≤ d → ∀ (x y : α) (F F' : Nat → Prop) (pa qa cs ds pb qb : List Value) (w0 w1 w : World), pa.length = off → qa.length = off → R.rel F x cs w0 → R.rel F' y ds w1 →
  ∃ b : Bool, (Op.eqFields d (pa ++ (cs ++ pb)).toArray (qa ++ (ds ++ qb)).toArray fs).run P w = .ok b w ∧ (b = true ↔ x = y)

theorem EqV.i64 {P : Program} {t : TypeId} (h : P.underlying t = some (.int .i64)) : EqV P 1 t Int := fun d hd x y F F' cs ds w0 w1 w h1 h2 => by
  obtain ⟨d, rfl⟩ : ∃ e, d = e + 1 := ⟨d - 1, by omega⟩
  rw [show cs = _ from h1, show ds = _ from h2]
  exact ⟨_, run_equalIn_int w d t .i64 .i64 x y h, by simp⟩
theorem EqV.u8 {P : Program} {t : TypeId} (h : P.underlying t = some (.int .u8)) : EqV P 1 t UInt8 := fun d hd x y F F' cs ds w0 w1 w h1 h2 => by
  obtain ⟨d, rfl⟩ : ∃ e, d = e + 1 := ⟨d - 1, by omega⟩
  rw [show cs = _ from h1, show ds = _ from h2]
  exact ⟨_, run_equalIn_int w d t .u8 .u8 _ _ h, by simp [← UInt8.toNat_inj]; omega⟩
theorem EqV.u32 {P : Program} {t : TypeId} (h : P.underlying t = some (.int .u32)) : EqV P 1 t UInt32 := fun d hd x y F F' cs ds w0 w1 w h1 h2 => by
  obtain ⟨d, rfl⟩ : ∃ e, d = e + 1 := ⟨d - 1, by omega⟩
  rw [show cs = _ from h1, show ds = _ from h2]
  exact ⟨_, run_equalIn_int w d t .u32 .u32 _ _ h, by simp [← UInt32.toNat_inj]; omega⟩
theorem EqV.bool {P : Program} {t : TypeId} (h : P.underlying t = some .bool) : EqV P 1 t Bool := fun d hd x y F F' cs ds w0 w1 w h1 h2 => by
  obtain ⟨d, rfl⟩ : ∃ e, d = e + 1 := ⟨d - 1, by omega⟩
  rw [show cs = _ from h1, show ds = _ from h2]
  exact ⟨_, run_equalIn_bool' w d t x y h, by simp⟩
theorem EqV.mono {P : Program} {k k' : Nat} {t : TypeId} {α : Type} [R : Rp α] (h : EqV P k t α) (hk : k ≤ k') : EqV P k' t α := fun d hd => h d (Nat.le_trans hk hd)

theorem part_mid {P : Program} {t : TypeId} {α : Type} [R : Rp α] (hty : Ty P t α) {F : Nat → Prop} {x : α} {pa cs pb : List Value} {w0 w : World} (h : R.rel F x cs w0) :
    (part t (pa ++ (cs ++ pb)).toArray pa.length).run P w = .ok (mkV R.agg cs) w := by
  have hl := R.len _ _ _ _ h
  unfold part
  simp only [Sem.run_bind, run_isAgg hty, Result.andThen_ok]
  cases hag : R.agg with
  | true =>
    simp only [if_true, Sem.run_bind, rt_sizeOf hty, Result.andThen_ok, Sem.run_pure, mkV]
    congr 2
    apply Array.toList_inj.1
    simp [List.extract_eq_take_drop, ← hl]
  | false =>
    have hn := R.na hag
    rw [hn] at hl
    match cs, hl with
    | [c], _ =>
      simp [mkV]

theorem eqFields_cons {P : Program} (d : Nat) (xs ys : Array Value) (f : Field) (fs : List Field) (w : World) (hb : (f.name == "_") = false) (u v : Value) (b : Bool) (h1 : (part f.type xs f.offset).run P w = .ok u w) (h2 : (part f.type ys f.offset).run P w = .ok v w)
    (h3 : (Op.equalIn d f.type u v).run P w = .ok b w) : (Op.eqFields d xs ys (f :: fs)).run P w = if b then (Op.eqFields d xs ys fs).run P w else .ok false w := by
  have hb' : f.name ≠ "_" := by simpa using hb
  simp only [Op.eqFields, Sem.run_bind, Sem.run_ite, h1, h2, h3, Result.andThen_ok]
  cases b <;> simp [hb', h1, h2, h3]

theorem EqF.one {P : Program} {k off : Nat} {f : Field} {α : Type} [R : Rp α] (hv : EqV P k f.type α) (hty : Ty P f.type α) (ho : f.offset = off) (hb : (f.name == "_") = false) : EqF P k off [f] α := fun d hd x y F F' pa qa cs ds pb qb w0 w1 w hp hq h1 h2 => by
  subst ho
  have e1 := part_mid (P := P) (w := w) hty (pa := pa) (pb := pb) h1
  have e2 := part_mid (P := P) (w := w) hty (pa := qa) (pb := qb) h2
  rw [hp] at e1; rw [hq] at e2
  obtain ⟨b, h3, h4⟩ := hv d hd x y F F' cs ds w0 w1 w h1 h2
  refine ⟨b, ?_, h4⟩
  rw [eqFields_cons d _ _ f [] w hb _ _ _ e1 e2 h3]
  cases b <;> simp [Op.eqFields]
theorem EqF.cons {P : Program} {k off : Nat} {f : Field} {fs : List Field} {α β : Type} [A : Rp α] [B : Rp β] (hv : EqV P k f.type α) (hty : Ty P f.type α) (ho : f.offset = off) (hb : (f.name == "_") = false)
    (h : EqF P k (off + A.n) fs β) : EqF P k off (f :: fs) (α × β) := fun d hd x y F F' pa qa cs ds pb qb w0 w1 w hp hq h1 h2 => by
  subst ho
  obtain ⟨c1, c2, rfl, k1, k2⟩ := h1
  obtain ⟨d1, d2, rfl, j1, j2⟩ := h2
  have e1 := part_mid (P := P) (w := w) hty (pa := pa) (pb := c2 ++ pb) k1
  have e2 := part_mid (P := P) (w := w) hty (pa := qa) (pb := d2 ++ qb) j1
  rw [hp] at e1; rw [hq] at e2
  obtain ⟨b1, h3, h4⟩ := hv d hd x.1 y.1 F F' c1 d1 w0 w1 w k1 j1
  obtain ⟨b2, h5, h6⟩ := h d hd x.2 y.2 F F' (pa ++ c1) (qa ++ d1) c2 d2 pb qb w0 w1 w (by rw [List.length_append, hp, A.len _ _ _ _ k1]) (by rw [List.length_append, hq, A.len _ _ _ _ j1]) k2 j2
  rw [List.append_assoc, List.append_assoc] at h5
  refine ⟨b1 && b2, ?_, by rw [Bool.and_eq_true, h4, h6, Prod.ext_iff]⟩
  rw [List.append_assoc, List.append_assoc, eqFields_cons d _ _ f fs w hb _ _ _ e1 e2 h3, h5]
  cases b1 <;> simp
theorem EqV.via {P : Program} {k : Nat} {t : TypeId} {α β : Type} {B : Rp β} {f : α → β} (ht : P.underlying t = some (.struct (P.fieldsOf t))) (hp : P.stoodInHeld t = false) (hF : @EqF P k 0 (P.fieldsOf t).toList β B)
    (hinj : ∀ x y, f x = f y → x = y) : @EqV P (k + 1) t α (Rp.via B f) := fun d hd x y F F' cs ds w0 w1 w h1 h2 => by
  obtain ⟨d, rfl⟩ : ∃ e, d = e + 1 := ⟨d - 1, by omega⟩
  obtain ⟨b, h3, h4⟩ := hF d (by omega) (f x) (f y) F F' [] [] cs ds [] [] w0 w1 w rfl rfl h1 h2
  refine ⟨b, ?_, h4.trans ⟨hinj x y, fun h => by rw [h]⟩⟩
  show (Op.equalIn (d + 1) t (.agg cs.toArray) (.agg ds.toArray)).run P w = _
  rw [run_equalIn_agg w d t _ _ ht hp]
  simpa using h3

theorem EqV.viaU {P : Program} {k : Nat} {t : TypeId} {fs : Array Field} {α β : Type} {B : Rp β} {f : α → β} (hu : P.underlying t = some (.struct fs)) (hp : P.stoodInHeld t = false) (hF : @EqF P k 0 fs.toList β B)
    (hinj : ∀ x y, f x = f y → x = y) : @EqV P (k + 1) t α (Rp.via B f) := by
  have h1 : P.fieldsOf t = fs := by unfold Program.fieldsOf; rw [hu]
  exact EqV.via (by rw [h1]; exact hu) hp (by rw [h1]; exact hF) hinj
section
variable {X : Cx} {G : List It} {d : Option Nat} {ty : TypeId} {pos : String} {af : Array Edge} {gd : Option (Nat × Bool)} {x y : Operand} {t t' : TypeId} {T T' : List Nat} {α : Type} [R : Rp α] [DecidableEq α] {m n : α}
theorem Spec.eqlSt {k : Nat} (he : EqV X.P k t α) (hg : X.P.eqGuardType X.P.depth t = false) (hk : Nat.ble k 10000 = true) (hx : Has G x (Fact.rep T m)) (hy : Has G y (Fact.rep T' n)) (hag : R.agg = true := by rfl) :
    Spec X G ⟨d, .binOp .eql t x y t', ty, pos, af, gd⟩ (Fact.rep [] (decide (m = n))) :=
  Spec.pure fun a w g hf => by
    obtain ⟨cs, h1, h1'⟩ := hx a w g hf
    obtain ⟨ds, h2, h2'⟩ := hy a w g hf
    obtain ⟨b, hrun, hbe⟩ := he 10000 (by simpa using hk) m n _ _ cs ds w w w h1 h2
    have hbd : b = decide (m = n) := by rw [Bool.eq_iff_iff, hbe]; simp
    subst hbd
    rw [hag] at h1' h2' hrun
    refine ⟨.bool (decide (m = n)), ?_, rep_bool.2 rfl⟩
    unfold execOp
    simp only [mkV, if_true] at h1' h2' hrun
    simp [h1', h2', run_eqGuard_agg w _ t _ _ _ _ hg, run_eql_struct w t, hrun]
theorem Spec.neqSt {k : Nat} (he : EqV X.P k t α) (hg : X.P.eqGuardType X.P.depth t = false) (hk : Nat.ble k 10000 = true) (hx : Has G x (Fact.rep T m)) (hy : Has G y (Fact.rep T' n)) (hag : R.agg = true := by rfl) :
    Spec X G ⟨d, .binOp .neq t x y t', ty, pos, af, gd⟩ (Fact.rep [] (!decide (m = n))) :=
  Spec.pure fun a w g hf => by
    obtain ⟨cs, h1, h1'⟩ := hx a w g hf
    obtain ⟨ds, h2, h2'⟩ := hy a w g hf
    obtain ⟨b, hrun, hbe⟩ := he 10000 (by simpa using hk) m n _ _ cs ds w w w h1 h2
    have hbd : b = decide (m = n) := by rw [Bool.eq_iff_iff, hbe]; simp
    subst hbd
    rw [hag] at h1' h2' hrun
    refine ⟨.bool (!decide (m = n)), ?_, rep_bool.2 rfl⟩
    unfold execOp
    simp only [mkV, if_true] at h1' h2' hrun
    simp [h1', h2', run_eqGuard_agg w _ t _ _ _ _ hg, run_neq_struct w t, hrun]
end
end GL
