/- Own library, part 32: reading and writing data of which only the form is known. -/
import Derived.Test.YtgjibgklailenaaCore31
namespace GL
open Go

/-- Scalars. -/
class LoSc (α : Type) [R : Rp α] [L : Lo α] where
  k : Nat
  ag : R.agg = false
  iff : ∀ F x cs w, L.rel F x cs w ↔ ∃ u, cs = [u] ∧ scK k u
instance : LoSc Int := ⟨0, rfl, fun _ _ _ _ => Iff.rfl⟩
instance : LoSc UInt8 := ⟨1, rfl, fun _ _ _ _ => Iff.rfl⟩
instance : LoSc UInt32 := ⟨2, rfl, fun _ _ _ _ => Iff.rfl⟩
instance : LoSc Bool := ⟨3, rfl, fun _ _ _ _ => Iff.rfl⟩

theorem lo_sc {α : Type} [R : Rp α] [L : Lo α] [S : LoSc α] {T : List Nat} {x : α} {g : Gh} {v : Value} {w : World} : (Fact.lo T x).p g v w ↔ scK S.k v := by
  constructor
  · rintro ⟨cs, h, rfl⟩
    obtain ⟨u, rfl, hu⟩ := (S.iff _ _ _ _).1 h
    rw [S.ag]; exact hu
  · intro h
    exact ⟨[v], (S.iff _ _ _ _).2 ⟨v, rfl, h⟩, by rw [S.ag]; rfl⟩

/-- A fact that stands where cells of blocks of tags T turn. -/
def Loose (T : List Nat) (f : Fact) : Prop := ∀ g v w w', LikeW w w' (fun b => g.om b ∈ T) (fun b => g.om b ∈ T) → f.p g v w → f.p g v w'
theorem Loose.lo {α : Type} [R : Rp α] [L : Lo α] {T : List Nat} {x : α} : Loose T (Fact.lo T x) := fun g v w w' hW ⟨cs, h, hv⟩ =>
  ⟨cs, L.like _ _ x cs cs w w' hW rfl (fun j u u' h1 h2 => by rw [h1] at h2; cases h2; exact .refl u) h, hv⟩
theorem Loose.lptr {α : Type} [R : Rp α] [L : Lo α] {T : List Nat} {x : α} : Loose T (Fact.lptr T x) := fun g v w w' hW ⟨ad, hv, ht, hlt, es, he, hr⟩ => by
  obtain ⟨es', h1, h2, h3⟩ := likeCells hW (ad := ad) ht hlt es he
  exact ⟨ad, hv, ht, Nat.lt_of_lt_of_le hlt hW.size, es', h1, L.like _ _ x es es' w w' hW h2 h3 hr⟩
theorem Loose.at {T : List Nat} {i : Nat} {f : Fact} (h : Loose T f) : Loose T (Fact.at i f) := fun g _ w w' hW hp => h g (g.ga i) w w' hW hp

def LooseL (G : List It) (T : List Nat) : List It → Prop
  | [] => True
  | .fact s f :: L => look G s = some f ∧ Loose T f ∧ LooseL G T L
  | _ :: _ => False
theorem LooseL.nil {G : List It} {T : List Nat} : LooseL G T [] := trivial
theorem LooseL.cons {G : List It} {T : List Nat} {s : Nat} {f : Fact} {L : List It} (h : look G s = some f) (h1 : Loose T f) (k : LooseL G T L) : LooseL G T (.fact s f :: L) := ⟨h, h1, k⟩
theorem LooseL.lo {G : List It} {T : List Nat} {α : Type} [R : Rp α] [Lo α] {x : α} {s : Nat} {L : List It} (h : look G s = some (Fact.lo T x)) (k : LooseL G T L) : LooseL G T (.fact s (Fact.lo T x) :: L) := ⟨h, .lo, k⟩
theorem LooseL.loF {G : List It} {T : List Nat} {α : Type} [R : Rp α] [Lo α] {x : α} {s i : Nat} {L : List It} (h : look G s = some (Fact.at i (Fact.lo T x))) (k : LooseL G T L) : LooseL G T (.fact s (Fact.at i (Fact.lo T x)) :: L) := ⟨h, Loose.at .lo, k⟩
theorem LooseL.lptr {G : List It} {T : List Nat} {α : Type} [R : Rp α] [Lo α] {x : α} {s : Nat} {L : List It} (h : look G s = some (Fact.lptr T x)) (k : LooseL G T L) : LooseL G T (.fact s (Fact.lptr T x) :: L) := ⟨h, .lptr, k⟩

theorem facts_loose {G G1 : List It} {g : Gh} {a : Act} {w w' : World} {T : List Nat} (hf : Facts G g a w) (h1 : Facts G1 g a w') (hW : LikeW w w' (fun b => g.om b ∈ T) (fun b => g.om b ∈ T)) :
    ∀ L, LooseL G T L → Facts (L ++ G1) g a w'
  | [], _ => h1
  | .fact s f :: L, h => fun s' f' hl => by
    have hl' : look (.fact s f :: (L ++ G1)) s' = some f' := hl
    rcases lookK_nil_spec hl' with ⟨rfl, rfl⟩ | ⟨_, hl2⟩
    · exact h.2.1 g _ w w' hW (hf _ _ h.1)
    · exact facts_loose hf h1 hW L h.2.2 s' f' hl2
  | .kill _ :: _, h => h.elim
  | .killId _ :: _, h => h.elim

theorem likeW_set {w : World} {ad : Addr} {u u0 : Value} {F : Nat → Prop} (hc : w.cell? ad = some u0) (hl : Like u0 u) : LikeW w (w.setCell ad u) F F :=
  ⟨by simp, fun _ _ h => h, fun a v hb _ hv hz => by
    by_cases h : ad = a
    · subst h
      rw [hc] at hv; cases hv
      exact ⟨u, World.cell?_setCell_same _ _ _ hc, by rw [World.frozen?_setCell]; exact hz, hl⟩
    · exact ⟨v, by rw [World.cell?_setCell_other _ _ _ _ h]; exact hv, by rw [World.frozen?_setCell]; exact hz, .refl v⟩⟩

section
variable {X : Cx} {G : List It} {d : Option Nat} {ty : TypeId} {pos : String} {af : Array Edge} {gd : Option (Nat × Bool)}

theorem Cv.lo {α : Type} [R : Rp α] [L : Lo α] {T T' : List Nat} {x : α} (h : subB T T' = true) : Cv G (Fact.rep T x) (Fact.lo T' x) := fun _ w g v _ ⟨cs, hr, hv⟩ =>
  ⟨cs, L.of _ x cs w (R.stab _ _ x cs w w (Nat.le_refl _) (fun _ _ hb => ⟨rfl, subB_spec h _ hb⟩) hr), hv⟩
theorem Cv.loF {α : Type} [R : Rp α] [Fl : Flat α] [L : Lo α] {T T' : List Nat} {x : α} : Cv G (Fact.rep T x) (Fact.lo T' x) := fun _ w g v _ ⟨cs, hr, hv⟩ =>
  ⟨cs, L.of _ x cs w (Fl.flat _ _ _ _ _ _ hr), hv⟩
theorem Cv.loM {α : Type} [R : Rp α] [L : Lo α] {T T' : List Nat} {x : α} (h : subB T T' = true) : Cv G (Fact.lo T x) (Fact.lo T' x) := fun _ w g v _ ⟨cs, hr, hv⟩ =>
  ⟨cs, L.like _ _ x cs cs w w ⟨Nat.le_refl _, fun _ _ hb => subB_spec h _ hb, fun _ u _ _ h1 h2 => ⟨u, h1, h2, .refl u⟩⟩ rfl (fun j u u' h1 h2 => by rw [h1] at h2; cases h2; exact .refl u) hr, hv⟩
theorem Cv.loSc {α : Type} [R : Rp α] [L : Lo α] [S : LoSc α] {T T' : List Nat} {x y : α} : Cv G (Fact.lo T x) (Fact.lo T' y) := fun _ w g v _ h => lo_sc.2 (lo_sc.1 h)

theorem Ad.cv {s : Nat} {f f' : Fact} (hs : look G s = some f) (hc : Cv G f f') : Ad X G (.fact s f' :: G) := fun a w env => by
  obtain ⟨g, hg, hf⟩ := env.facts
  refine ⟨env.size, env.defers, env.fr, g, hg, fun s' f'' hl => ?_⟩
  rcases lookK_nil_spec hl with ⟨rfl, rfl⟩ | ⟨_, hl2⟩
  · exact hc a w g _ hf (hf _ _ hs)
  · exact hf s' f'' hl2
theorem Ad.cvF {i : Nat} {f f' : Fact} (hs : look G (rs i) = some (.at i f)) (hc : Cv G f f') : Ad X G (.fact (rs i) (.at i f') :: G) := fun a w env => by
  obtain ⟨g, hg, hf⟩ := env.facts
  refine ⟨env.size, env.defers, env.fr, g, hg, fun s' f'' hl => ?_⟩
  rcases lookK_nil_spec hl with ⟨rfl, rfl⟩ | ⟨_, hl2⟩
  · exact hc a w g _ hf (show f.p g (g.ga i) w from hf _ _ hs)
  · exact hf s' f'' hl2

theorem Spec.lenLo {x : Operand} {α : Type} [Rp α] [Lo α] {T : List Nat} {l : List α} {t e : TypeId} (h : Has G x (Fact.lo T l)) (ht : X.P.underlying t = some (.slice e)) :
    Spec X G ⟨d, .call { callee := .builtin .len, args := #[x], argTypes := #[t] }, ty, pos, af, gd⟩ (Fact.rep [] (l.length : Int)) :=
  Spec.pure fun a w g hf => by
    obtain ⟨cs, ⟨ad, c, rfl, _⟩, hv⟩ := h a w g hf
    have hv' : a.eval x = .slice ad l.length c := hv
    refine ⟨.int .i64 l.length, ?_, rep_int.2 rfl⟩
    unfold execOp
    simp [resolve, invoke, builtin, hv', Builtin.len_, run_underlying ht, goInt]
theorem Spec.idxLo {x i : Operand} {α : Type} [R : Rp α] [L : Lo α] {T T' : List Nat} {l : List α} {n : Int} {r : α} {t e : TypeId} (hr : idx l n = some r) (ht : SlTy X.P t e α)
    (hx : Has G x (Fact.lo T l)) (hi : Has G i (Fact.rep T' n)) : Spec X G ⟨d, .indexAddr t x i, ty, pos, af, gd⟩ (Fact.lptr T r) := by
  unfold idx at hr
  split at hr
  case isFalse => cases hr
  rename_i h0
  have hlt : n.toNat < l.length := (List.getElem?_eq_some_iff.1 hr).1
  refine Spec.pure fun a w g hf => ?_
  obtain ⟨cs, ⟨ad, c, rfl, hc, hnil, hcells⟩, hv0⟩ := hx a w g hf
  have hv : a.eval x = .slice ad l.length c := hv0
  have h2 := rep_int.1 (hi a w g hf)
  cases ad with
  | none => have := (hnil rfl).1; subst this; simp at hlt
  | some ad =>
    obtain ⟨hF, hb, es, he, hrel⟩ := hcells ad rfl n.toNat r hr
    refine ⟨.pointer (some (ad.add (n.toNat * R.n))), ?_, ad.add (n.toNat * R.n), rfl, ?_, ?_, es, he, hrel⟩
    · unfold execOp
      simp [hv, h2, run_indexAt (R := R) ht.und ht.el h0 (show n < (l.length : Int) by omega)]
    · rw [Addr.add_block]; exact hF
    · rw [Addr.add_block]; exact hb
theorem Spec.loadLo {x : Operand} {α : Type} [R : Rp α] [L : Lo α] {T : List Nat} {r : α} {t : TypeId} (ht : Ty X.P t α) (hx : Has G x (Fact.lptr T r)) : Spec X G ⟨d, .load t x, ty, pos, af, gd⟩ (Fact.lo T r) :=
  Spec.pure fun a w g hf => by
    obtain ⟨ad, hv, _, _, es, he, hrel⟩ := hx a w g hf
    refine ⟨mkV R.agg es, ?_, es, hrel, rfl⟩
    unfold execOp
    simp [hv, Instr.loadAt, Instr.sureAddr, run_loadVar_cells ht he (L.len _ _ _ _ hrel)]
theorem Spec.add8Lo {x y : Operand} {t t' : TypeId} {T T' : List Nat} {m n : UInt8} (hx : Has G x (Fact.lo T m)) (hy : Has G y (Fact.rep T' n)) :
    Spec X G ⟨d, .binOp .add t x y t', ty, pos, af, gd⟩ (Fact.lo [] (0 : UInt8)) :=
  Spec.pure fun a w g hf => by
    obtain ⟨m', h1⟩ := (lo_sc (α := UInt8)).1 (hx a w g hf)
    have h2 := rep_u8.1 (hy a w g hf)
    refine ⟨.int .u8 ((UInt8.ofNat (((m'.toNat : Int) + n.toNat) % 256).toNat).toNat : Int), ?_, (lo_sc (α := UInt8)).2 ⟨_, rfl⟩⟩
    have hw := (inferInstance : Sc UInt8).wrap ((m'.toNat : Int) + n.toNat)
    unfold execOp
    simp only [h1, h2, eqGuard_at_int]
    have : (binOp .add t (.int .u8 (m'.toNat : Int)) (.int .u8 (n.toNat : Int))).run X.P w = .ok (.int .u8 (IntKind.u8.wrap ((m'.toNat : Int) + n.toNat))) w := by
      simp [binOp, Op.intArith]
    have hw' : IntKind.u8.wrap ((m'.toNat : Int) + n.toNat) = ((UInt8.ofNat (((m'.toNat : Int) + n.toNat) % 256).toNat).toNat : Int) := hw
    rw [hw'] at this
    simp [this]
theorem Spec.notLo {x : Operand} {t : TypeId} {T : List Nat} {m : Bool} (hx : Has G x (Fact.lo T m)) : Spec X G ⟨d, .unOp .not t x, ty, pos, af, gd⟩ (Fact.lo [] false) :=
  Spec.pure fun a w g hf => by
    obtain ⟨b, h1⟩ := (lo_sc (α := Bool)).1 (hx a w g hf)
    refine ⟨.bool (!b), ?_, (lo_sc (α := Bool)).2 ⟨_, rfl⟩⟩
    unfold execOp
    simp [h1, Op.unary]

theorem Step.storeL {α : Type} [R : Rp α] [L : Lo α] [S : LoSc α] {p x : Operand} {T Tx : List Nat} {y z : α} {LL : List It} {e : TypeId} (hT : all10 T = true) (hty : Ty X.P e α)
    (hp : Has G p (.lptr T y)) (hx : Has G x (.lo Tx z)) (hL : LooseL G T LL) :
    Step X G ⟨none, .store e p x, ty, pos, af, none⟩ (LL ++ killTs T []) := fun G' hsub a w env K Q hK => by
    have hn1 := R.na S.ag
    obtain ⟨g, hg, hf'⟩ := env.facts
    have hf := hsub a w g hf'
    obtain ⟨ad, hv, hF, hlt, es, he, hrel⟩ := hp a w g hf
    obtain ⟨u0, rfl, hu0⟩ := (S.iff _ _ _ _).1 hrel
    have hu := lo_sc.1 (hx a w g hf)
    have hcell := he 0 u0 rfl
    simp only [Go.Addr.add_zero'] at hcell
    obtain ⟨hu1, huc⟩ := scK_one hu
    have hrun : (execOp a.eval ⟨none, .store e p x, ty, pos, af, none⟩).run X.P w = .ok .skip (w.setCell ad (a.eval x)) := by
      unfold execOp
      simp only [hv, Instr.storeAt, Instr.sureAddr, Sem.run_bind, Sem.run_pure, Result.andThen_ok]
      unfold storeVar
      have hs : (Go.sizeOf e).run X.P w = .ok 1 w := by rw [rt_sizeOf hty, hn1]
      simp [hs, huc, storeCells, run_store X.P w _ _ _ hu1, stored, Go.Addr.add_zero', hcell.1, hcell.2]
    unfold Oper.wp
    rw [hrun]
    refine hK undef _ ?_
    have hb : ∀ b, b < w.heap.size → g.om b ∉ T → (w.setCell ad (a.eval x)).heap[b]? = w.heap[b]? := fun b hb hne => heap_setCell_other w _ b _ (fun h => hne (by rw [h]; exact hF))
    have hsz : (w.setCell ad (a.eval x)).heap.size = w.heap.size := by simp
    refine ⟨by simp [Act.put, env.size], env.defers, Fr.owns env.fr hg hT rfl rfl rfl (by rw [hsz]; exact Nat.le_refl _) hb, g, ⟨⟨hg.ok.old, fun b h1 h2 => hg.ok.new b h1 (by rw [hsz] at h2; exact h2)⟩, hg.om⟩, ?_⟩
    show Facts _ g a _
    rw [List.append_assoc, killTs_app]
    have hk : Facts (killTs T G') g a (w.setCell ad (a.eval x)) := facts_killTs hf' (by rw [hsz]; exact Nat.le_refl _) hb (fun _ _ => rfl) (fun _ => rfl)
    exact facts_loose hf hk (likeW_set hcell.1 (.inr ⟨S.k, hu0, hu⟩)) LL hL

/-- A part of a datum. -/
def LoAt {α β : Type} [R : Rp α] [L : Lo α] [R' : Rp β] [L' : Lo β] (y : α) (off : Nat) (z : β) : Prop := ∀ F cs w, L.rel F y cs w → ∃ c, L'.rel F z c w ∧ ∀ (j : Nat) u, c[j]? = some u → cs[off + j]? = some u
theorem LoAt.self {α : Type} [R : Rp α] [L : Lo α] {y : α} : LoAt y 0 y := fun _ cs _ h => ⟨cs, h, fun j u hj => by rw [Nat.zero_add]; exact hj⟩
theorem LoAt.fst {α β : Type} [R : Rp α] [L : Lo α] [R' : Rp β] [L' : Lo β] {x : α} {y : β} : LoAt (x, y) 0 x := fun _ cs _ h => by
  obtain ⟨c1, c2, rfl, h1, _⟩ := h
  exact ⟨c1, h1, fun j u hj => by rw [Nat.zero_add, List.getElem?_append_left (List.getElem?_eq_some_iff.1 hj).1]; exact hj⟩
theorem LoAt.snd {α β γ : Type} [R : Rp α] [L : Lo α] [R' : Rp β] [L' : Lo β] [Rp γ] [Lo γ] {x : α} {y : β} {z : γ} {off : Nat} (k : LoAt y off z) : LoAt (x, y) (R.n + off) z := fun _ cs _ h => by
  obtain ⟨c1, c2, rfl, h1, h2⟩ := h
  obtain ⟨c, k1, k2⟩ := k _ _ _ h2
  have := L.len _ _ _ _ h1
  exact ⟨c, k1, fun j u hj => by rw [List.getElem?_append_right (by omega), show R.n + off + j - c1.length = off + j by omega]; exact k2 j u hj⟩
theorem Spec.fieldLo {x : Operand} {s : TypeId} {i off n : Nat} {T : List Nat} {α β : Type} [R : Rp α] [Lo α] [R' : Rp β] [Lo β] {y : α} {z : β} (h : FieldTy X.P s i off n) (hc : LoAt y off z)
    (hx : Has G x (Fact.lptr T y)) : Spec X G ⟨d, .fieldAddr s x i, ty, pos, af, gd⟩ (Fact.lptr T z) :=
  Spec.pure fun a w g hf => by
    obtain ⟨ad, hv, ht, hlt, cs, hcs, hrel⟩ := hx a w g hf
    obtain ⟨c, hc1, hc2⟩ := hc _ _ _ hrel
    refine ⟨.pointer (some (ad.add off)), ?_, ad.add off, rfl, by rw [Addr.add_block]; exact ht, by rw [Addr.add_block]; exact hlt, c, hcs.sub hc2, hc1⟩
    unfold execOp
    simp [hv, run_fieldAt h]
end
end GL
