/- Own library, part 27: short forms for printed proofs. -/
import Derived.Test.YtgjibgklailenaaCore26
namespace GL
open Go

section
variable {G : List It} {u : Nat → Value} {d : Option Nat} {f0 f f' : Fact} {s i : Nat} {J : List It}
/-- A register kept, as it is. -/
theorem lg (k : Low G u d f0 J) (h : look G (rs i) = some (.at i f) := by rfl) : Low G u d f0 (.fact s (.at i f) :: J) := Low.keepG (HasG.s h) k
/-- A register kept, flat. -/
theorem lf {α : Type} [R : Rp α] [Flat α] {y : α} {T T' : List Nat} (k : Low G u d f0 J) (h : look G (rs i) = some (.at i (Fact.rep T y)) := by rfl) : Low G u d f0 (.fact s (.at i (Fact.rep T' y)) :: J) := Low.keepG (HasG.cv (HasG.s h) Cv.fl) k
/-- A register kept, by more tags. -/
theorem lm {α : Type} [R : Rp α] {y : α} {T T' : List Nat} (k : Low G u d f0 J) (h : look G (rs i) = some (.at i (Fact.rep T y)) := by rfl) (hT : subB T T' = true := by rfl) : Low G u d f0 (.fact s (.at i (Fact.rep T' y)) :: J) := Low.keepG (HasG.cv (HasG.s h) (Cv.m hT)) k
/-- A variable kept. -/
theorem lo {t : Nat} {ps : Ps} (k : Low G u d f0 J) (h : look G s = some (.obj t ps) := by rfl) : Low G u d f0 (.fact s (.obj t ps) :: J) := Low.keepR (fun _ _ _ _ h => h) (Has.s h) k
/-- A slot of a frame farther out. -/
theorem lc {v0 : Value} (k : Low G u d f0 J) (h : look G s = some (.cst v0 f) := by rfl) : Low G u d f0 (.fact s (.cst v0 f) :: J) := Low.keepC (HasC.s h) k
/-- A slot of the frame that called. -/
theorem ls (c : Nat) (k : Low G u d f0 J) (h : look G c = some (.cst (u s) f) := by rfl) (hs : neD d s = true := by rfl) : Low G u d f0 (.fact s f :: J) := Low.slot hs (HasC.s h) k

variable {G' : List It}
theorem sg (k : Sub G G') (h : look G (rs i) = some (.at i f) := by rfl) : Sub G (.fact s (.at i f) :: G') := Sub.cons (Has.at (HasG.s h)) k
theorem sf {α : Type} [R : Rp α] [Flat α] {y : α} {T T' : List Nat} (k : Sub G G') (h : look G (rs i) = some (.at i (Fact.rep T y)) := by rfl) : Sub G (.fact s (.at i (Fact.rep T' y)) :: G') := Sub.cons (Has.at (HasG.cv (HasG.s h) Cv.fl)) k
theorem sm {α : Type} [R : Rp α] {y : α} {T T' : List Nat} (k : Sub G G') (h : look G (rs i) = some (.at i (Fact.rep T y)) := by rfl) (hT : subB T T' = true := by rfl) : Sub G (.fact s (.at i (Fact.rep T' y)) :: G') := Sub.cons (Has.at (HasG.cv (HasG.s h) (Cv.m hT))) k
theorem sn (k : Sub G G') (h : look G s = some f := by rfl) : Sub G (.fact s f :: G') := Sub.cons (Has.s h) k
theorem sc {v0 : Value} (k : Sub G G') (h : look G s = some (.cst v0 f) := by rfl) : Sub G (.fact s (.cst v0 f) :: G') := Sub.cons (Has.cst (HasC.s h)) k
theorem st {α : Type} [R : Rp α] [Flat α] {y : α} {T T' : List Nat} (k : Sub G G') (h : look G s = some (Fact.rep T y) := by rfl) : Sub G (.fact s (Fact.rep T' y) :: G') := Sub.cons (Has.cv (Has.s h) Cv.fl) k
theorem su {α : Type} [R : Rp α] {y : α} {T T' : List Nat} (k : Sub G G') (h : look G s = some (Fact.rep T y) := by rfl) (hT : subB T T' = true := by rfl) : Sub G (.fact s (Fact.rep T' y) :: G') := Sub.cons (Has.cv (Has.s h) (Cv.m hT)) k

variable {Gc : List It}
theorem ck (k : Carry G u Gc) (h : look G s = some f := by rfl) (hv : VFree f := by exact fun _ _ _ _ h => h) : Carry G u (.fact s f :: Gc) := Carry.keep h hv k
theorem cs (D q : Nat) (k : Carry G u Gc) (h : look G q = some f := by rfl) (hs : D + q = s := by rfl) : Carry G u (.fact s (.cst (u q) f) :: Gc) := hs ▸ Carry.slot (Has.s h) k
end

section
variable {X : Cx} {G : List It} {Q : Exit → Act → World → Prop} {ops : Array Oper} {rest : List Oper} {d : Nat} {op : Op} {ty : TypeId} {pos : String} {af : Array Edge}
/-- An operation. -/
theorem wo {f : Fact} (h : Spec X G ⟨some d, op, ty, pos, af, none⟩ f) (k : Walk X ops Q (.fact d f :: G) rest) (hd : Nat.blt d X.n = true := by rfl) (hnd : ndB op = true := by rfl) : Walk X ops Q G (⟨some d, op, ty, pos, af, none⟩ :: rest) := Walk.op hd h k hnd
theorem ws {I : List It} {o : Oper} (h : Step X G o I) (k : Walk X ops Q (I ++ G) rest) (hg : o.guard = none := by rfl) (hnd : ndB o.op = true := by rfl) : Walk X ops Q G (o :: rest) := Walk.step hg h k hnd
theorem wg {j dj : Nat} {want b : Bool} {T : List Nat} {f : Fact} (hj : (ops[j]?).bind (·.dst) = some dj) (hb : look G dj = some (Fact.rep T b)) (h : b = want → Spec X G ⟨some d, op, ty, pos, af, some (j, want)⟩ f) (k : Walk X ops Q (.fact d (f.under (b = want)) :: G) rest) (hd : Nat.blt d X.n = true := by rfl) (hnd : ndB op = true := by rfl) : Walk X ops Q G (⟨some d, op, ty, pos, af, some (j, want)⟩ :: rest) := Walk.opg hd hj hb h k hnd
theorem hs {x : Nat} {f : Fact} (h : look G x = some f := by rfl) : Has G (.tmp x) f := Has.s h
/-- Move of a slot. -/
theorem mv {x : Nat} {f : Fact} (k : Walk X ops Q (.fact d f :: G) rest) (h : look G x = some f := by rfl) (hd : Nat.blt d X.n = true := by rfl) : Walk X ops Q G (⟨some d, .move (.tmp x), ty, pos, af, none⟩ :: rest) := Walk.op hd (Spec.move (Has.s h)) k
/-- Whatever stands after the semicolon. -/
theorem ao {n k : Nat} {AH : List (List Nat)} {Is : List (List It)} {o : Oper} {l : List Oper} (h : StepG X ops (ctxM AH Is G k n) o (isOf Is k)) (r : AllM X ops AH Is G n l (k + 1)) : AllM X ops AH Is G n (o :: l) k := ⟨h, r⟩
theorem so {f : Fact} (h : Spec X G ⟨some d, op, ty, pos, af, none⟩ f) (hd : Nat.blt d X.n = true := by rfl) : StepG X ops G ⟨some d, op, ty, pos, af, none⟩ [.fact d f] := StepG.op hd h
end
end GL
