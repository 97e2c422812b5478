/- Own library, part 13: statements closed. -/
import Derived.Test.YtgjibgklailenaaCore12
namespace GL
open Go Go.ChangeShapes Go.WideShapes Go.ChangeAt Go.RowKit

theorem okWide_mkV {P : Program} {t : TypeId} {α : Type} [R : Rp α] (hty : Ty P t α) {W : World} {r : Reach} {base : Nat} {v : Value} (h : Value.okWide P W r base t v) : v = mkV R.agg v.cells.toList := by
  obtain ⟨d, hd, ha⟩ := hty.und
  unfold Value.okWide at h
  rw [hd] at h
  cases d with
  | struct fs => obtain ⟨cs, rfl, _⟩ := h; rw [← ha]; simp [aggD, mkV, Value.cells]
  | array n e => obtain ⟨cs, rfl, _⟩ := h; rw [← ha]; simp [aggD, mkV, Value.cells]
  | _ =>
    rw [← ha]
    simp only [aggD, mkV]
    unfold Cell.okWide at h
    rw [hd] at h
    cases v <;> first
      | (simp [Value.cells]; done)
      | (exfalso; simp [Cell.ok, hd] at h)

theorem open_arg {P : Program} {t : TypeId} {α : Type} [R : Rp α] {wf : α → Prop} (hty : Ty P t α) (ho : OpenTy P t α wf) {H : Type} {enc : TypeId × Value → H} {W : World} {r : Reach} {base : Nat} {v : Value} {d : DataW H} {p : List MemPlace}
    (hval : Value.okWide P W r base t v) (h : DataW.Trod enc P W 0 (fun _ => true) true t v d p) (hfz : W.noneFrozen p) : ∃ y : α, wf y ∧ Rep (fun _ => True) y v W := by
  obtain ⟨fuel, hf⟩ := h
  obtain ⟨y, hy, hr⟩ := ho enc W fuel v.cells.toList (d, p) hf hfz
  exact ⟨y, hy, v.cells.toList, hr, okWide_mkV hty hval⟩

theorem args_read {H : Type} {enc : TypeId × Value → H} {P : Program} (hl : laidOutB P = true) {W W' : World} (hb : Below W.heap.size W W') : ∀ (ts : List TypeId) (vs : List Value) (ds : List (DataW H)) (p : List MemPlace),
    (∀ t, t ∈ ts → P.readableRec t = true ∧ t < P.types.size) → DataW.TrodAll enc P W 0 (fun _ => true) true ts vs ds p → (∀ x ∈ p, x.block < W.heap.size) →
    DataW.TrodAll enc P W' 0 (fun b => decide (b < W.heap.size)) true ts vs ds p
  | [], [], [], p, _, h, _ => h
  | t :: ts, v :: vs, d :: ds, p, ht, h, hlt => by
    obtain ⟨p1, p2, h1, h2, rfl⟩ := h
    exact ⟨p1, p2, Below.trod hl (ht t (by simp)).1 (ht t (by simp)).2 h1 hb (fun x hx => hlt x (by simp [hx])),
      args_read hl hb ts vs ds p2 (fun t' ht' => ht t' (by simp [ht'])) h2 (fun x hx => hlt x (by simp [hx])), rfl⟩
  | [], [], _ :: _, _, _, h, _ => h.elim
  | [], _ :: _, _, _, _, h, _ => h.elim
  | _ :: _, [], _, _, _, h, _ => h.elim
  | _ :: _, _ :: _, [], _, _, h, _ => h.elim

theorem trodAll_len {H : Type} {enc : TypeId × Value → H} {P : Program} {W : World} {sp : Nat → Bool} : ∀ (ts : List TypeId) (vs : List Value) (ds : List (DataW H)) (p : List MemPlace),
    DataW.TrodAll enc P W 0 sp true ts vs ds p → ds.length = ts.length
  | [], [], [], _, _ => rfl
  | t :: ts, v :: vs, d :: ds, p, h => by
    obtain ⟨p1, p2, _, h2, _⟩ := h
    simp [trodAll_len ts vs ds p2 h2]
  | [], [], _ :: _, _, h => h.elim
  | [], _ :: _, _, _, h => h.elim
  | _ :: _, [], _, _, h => h.elim
  | _ :: _, _ :: _, [], _, h => h.elim

theorem law_close {P : Program} {f : FuncId} {fn : Func} {s : ChangeSpec} {tb : TypeId} {H : Type} {enc : TypeId × Value → H} {W : World} {args : Array Value} {ds gs : List (DataW H)} {before : List MemPlace}
    (hl : laidOutB P = true) (hp : (fn.params.toList.all fun t => P.readableRec t && decide (t < P.types.size)) = true) (hres : fn.resultTypes = #[tb]) (htb : P.underlying tb = some .bool)
    (hv : s.vars = []) (hfn : ∀ ds : List (DataW H), ds.length = fn.params.toList.length → s.fn H ds = { results := [.lit (.bool true)], args := ds })
    (hW : DataW.Whole enc P fn.params.toList s.vars false W args.toList ds gs before)
    (h : Calls P f args W fun e W' => e = .returned (.bool true) ∧ Fr NoC W W') :
    Calls P f args W fun e W' => ∃ v, e = .returned v ∧ s.post enc P fn false true false false W args v W' := by
  refine h.mono ?_
  rintro e W' ⟨rfl, hfr⟩
  refine ⟨_, rfl, ?_⟩
  have hW' := hW
  obtain ⟨p, q, hA, hV, rfl, _, _⟩ := hW
  rw [hv] at hV
  obtain ⟨rfl, rfl⟩ := trodVars_none hV
  have hb := hfr.below
  have hlen := trodAll_len _ _ _ _ hA
  have hfn' := hfn ds hlen
  have hlt : ∀ x ∈ p, x.block < W.heap.size := fun x hx => hW'.lt x (by simp [hx])
  refine ⟨ds, [], p ++ [], [], p, [], hW', ?_, ?_, ?_, hb.frame _, fun h => by cases h⟩
  · rw [List.append_nil, hfn', hres]
    exact ⟨[], [], shut_bool htb _, rfl, rfl⟩
  · rw [List.append_nil, hfn']
    refine args_read hl hb _ _ _ _ (fun t ht => ?_) hA hlt
    have := List.all_eq_true.1 hp t ht
    simpa using this
  · rw [List.append_nil, hfn', hv]
    rfl

def g00 : Gh := ⟨fun _ => 0, fun _ => undef⟩

theorem law_calls {P : Program} {f : FuncId} {pre : List Shape} {sh : List Nat} (hc : Ctr P f pre (.fl true) sh) {W : World} {vs : List Value} (ha : All2 [0] g00 W pre vs) :
    Calls P f vs.toArray W (fun e W' => e = .returned (.bool true) ∧ Fr NoC W W') := by
  refine (hc W g00 [0] vs ha).mono ?_
  rintro e W' ⟨v, rfl, hfr, cls, hp⟩
  refine ⟨?_, hfr⟩
  have := hp (cst [0]) ⟨fun _ => 0, fun _ => undef⟩ (fun b _ _ => by simp [cst]) (fun b _ _ _ _ => by simp [cst])
  rw [rep_bool.1 this]

theorem all2_nil {W : World} : All2 [0] g00 W [] [] := trivial
theorem all2_cons {α : Type} [Rp α] {W : World} {y : α} {v : Value} {pre : List Shape} {vs : List Value} (h : Rep (fun _ => True) y v W) (k : All2 [0] g00 W pre vs) : All2 [0] g00 W (.rep 0 y :: pre) (v :: vs) :=
  ⟨h.mono (fun _ _ _ => by simp [g00, cst]), k⟩
end GL
