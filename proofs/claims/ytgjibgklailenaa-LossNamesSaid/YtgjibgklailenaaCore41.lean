/- Own library, part 41: what is done to an element that is lent. -/
import Derived.Test.YtgjibgklailenaaCore40
namespace GL
open Go

section
variable {X : Cx} {G : List It} {Q : Exit → Act → World → Prop} {ops : Array Oper} {rest : List Oper} {d : Nat} {dO : Option Nat} {ty : TypeId} {pos : String} {af : Array Edge} {gd : Option (Nat × Bool)}
variable {α β γ : Type} [R : Rp α] [B : Rp β] [C : Rp γ] {H : HdS α β γ} {t u k : Nat} {Tr te : List Nat} {e er : TypeId} {l : List α} {ps : Ps}

theorem Spec.idxLent {x i : Operand} {T : List Nat} {n : Int} {ts : TypeId} (hk : bnd l.length n = some k) (hty : OwnTy X.P ts e α)
    (hx : Has G x (.isv t)) (hrs : look G (rs t) = some (.lent H t u Tr te e er k l ps)) (hi : Has G i (Fact.rep T n)) : Spec X G ⟨dO, .indexAddr ts x i, ty, pos, af, gd⟩ (Fact.pto u (k * R.n)) := by
  obtain ⟨h0, h1, rfl⟩ := bnd_some hk
  refine Spec.pure fun a w g hf => ?_
  have hv : a.eval x = g.ga t := hx a w g hf
  obtain ⟨b, cap, cur, c1, c2, c3, cs, b1, b3, h⟩ := hf _ _ hrs
  have h2 := rep_int.1 (hi a w g hf)
  refine ⟨.pointer (some ⟨b, n.toNat * R.n, none⟩), ?_, b, by rw [h.pt]; rfl, rfl⟩
  unfold execOp
  simp only [hv, h2, h.sl, Sem.run_bind, Sem.run_map]
  rw [run_indexAt (R := R) hty.und hty.el h0 h1]
  simp [Go.Addr.add_lit]

theorem Spec.nilCheckO {x : Operand} {u o : Nat} (hx : Has G x (.pto u o)) : Spec X G ⟨dO, .nilCheck x, ty, pos, af, gd⟩ (.pto u o) :=
  Spec.pure fun a w g hfa => by
    obtain ⟨b, hb, hv⟩ := hx a w g hfa
    refine ⟨.pointer (some ⟨b, o, none⟩), ?_, b, hb, rfl⟩
    unfold execOp
    simp [hv]

/-- The cells of a lent element. -/
theorem LentP.cells {g : Gh} {w : World} {b cap : Nat} {cur : Array Value} {c1 c2 c3 cs : List Value} {b1 b3 : List (Option Nat)} (h : LentP H g w t u Tr te e er k l ps b cap cur c1 c2 c3 cs b1 b3)
    {off : Nat} {c : List Value} (hc : ∀ j x, c[j]? = some x → c2[off + j]? = some x) : CellsAt w ⟨b, k * R.n + off, none⟩ c := fun j x hj => by
  rw [Go.Addr.add_lit]
  refine ⟨?_, frozen_of_row w b _ cur e h.row⟩
  rw [cell_of_row w b _ cur e (0, 0) h.row]
  have h1 := hc j x hj
  have h2 : off + j < c2.length := (List.getElem?_eq_some_iff.1 h1).1
  have h3 : cur.toList[k * R.n + off + j]? = some x := by
    rw [h.eq, List.getElem?_append_right (by rw [h.n1]; omega), h.n1, show k * R.n + off + j - k * R.n = off + j by omega, List.getElem?_append_left h2]
    exact h1
  simpa using h3

theorem Spec.loadFL {x : Operand} {e' : TypeId} {δ : Type} [D : Rp δ] {i off o' : Nat} {f : Fact} (H : HdS α β γ) (hty : Ty X.P e' δ) (hp : partAt ps i = some (off, D.agg, D.n)) (hx : Has G x (.pto u o')) (ho' : k * R.n + off = o')
    (ho : look G (rs t) = some (.lent H t u Tr te e er k l ps)) (hf : HasG G (u + 1 + i) f) : Spec X G ⟨dO, .load e' x, ty, pos, af, gd⟩ f :=
  Spec.pure fun a w g hfa => by
    subst ho'
    obtain ⟨b, hb, hv⟩ := hx a w g hfa
    obtain ⟨b', cap, cur, c1, c2, c3, cs, b1, b3, h⟩ := hfa _ _ ho
    rw [h.pt] at hb
    simp only [ownB, Option.some.injEq] at hb
    subst hb
    obtain ⟨c, k1, k2, k3, k4⟩ := h.pr.part ps (u + 1) _ i off _ _ hp
    refine ⟨mkV D.agg c, ?_, by rw [← k1]; exact hf a w g hfa⟩
    unfold execOp
    simp [hv, Instr.loadAt, Instr.sureAddr, run_loadVar_cells hty (h.cells k4) k2]

theorem Spec.loadPartsL {x : Operand} {ls : Ls} (H : HdS α β γ) (hty : Ty X.P e α) (hps : lsPs ls = ps) (hx : Has G x (.pto u (k * R.n)))
    (ho : look G (rs t) = some (.lent H t u Tr te e er k l ps)) (hf : HasGs G (u + 1) ls) : Spec X G ⟨dO, .load e x, ty, pos, af, gd⟩ (.flds ls) :=
  Spec.pure fun a w g hfa => by
    subst hps
    obtain ⟨b, hb, hv⟩ := hx a w g hfa
    obtain ⟨b', cap, cur, c1, c2, c3, cs, b1, b3, h⟩ := hfa _ _ ho
    rw [h.pt] at hb
    simp only [ownB, Option.some.injEq] at hb
    subst hb
    have h5 := h.pr.flds hfa ls _ _ hf
    refine ⟨mkV R.agg c2, ?_, c2, by rw [H.agg]; rfl, h5⟩
    have hc := h.cells (off := 0) (c := c2) (fun j x hj => by rw [Nat.zero_add]; exact hj)
    rw [Nat.add_zero] at hc
    unfold execOp
    simp [hv, Instr.loadAt, Instr.sureAddr, run_loadVar_cells hty hc h.n2]

theorem Step.storeFL {p x : Operand} {e' : TypeId} {δ : Type} [D : Rp δ] {y : δ} {T : List Nat} {i off o' : Nat} {f : Fact} (H : HdS α β γ) (hu : Nat.ble 10 u = true) (hty : Ty X.P e' δ) (hp : partAt ps i = some (off, D.agg, D.n)) (hpx : Has G p (.pto u o')) (ho' : k * R.n + off = o')
    (ho : look G (rs t) = some (.lent H t u Tr te e er k l ps)) (hr : Has G x (Fact.rep T y)) (hx : Has G x f) (hok : lsOk u (u + 1 + i) 1 [(D.agg, D.n, f)] = true) (htu : (Nat.blt t u || Nat.blt (u + 1 + i) t) = true) (hdj : disj (Tr ++ te) [u] = true) :
    Step X G ⟨none, .store e' p x, ty, pos, af, none⟩ [.fact (rs (u + 1 + i)) (.at (u + 1 + i) f), .fact (rs t) (.lent H t u Tr te e er k l ps), .kill u, .killId (u + 1 + i)] := fun G' hsub a w env K Q hK => by
    subst ho'
    have hu' : 10 ≤ u := by simpa using hu
    obtain ⟨g, hg, hf'⟩ := env.facts
    have hf := hsub a w g hf'
    obtain ⟨b, hb, hv⟩ := hpx a w g hf
    obtain ⟨b', cap, cur, c1, c2, c3, cs, b1, b3, h⟩ := hf _ _ ho
    rw [h.pt] at hb
    simp only [ownB, Option.some.injEq] at hb
    subst hb
    obtain ⟨c0, k1, k2, k3, k4⟩ := h.pr.part ps (u + 1) _ i off _ _ hp
    have hlen : cur.size = k * R.n + (c2.length + (c3.length + cs.length)) := by
      have := congrArg List.length h.eq
      simpa [h.n1] using this
    obtain ⟨es, hes, hre, hrun⟩ := run_storeVar (P := X.P) hty h.row (hr a w g hf) (show k * R.n + off + D.n ≤ cur.size by rw [hlen]; omega)
    have hl := D.len _ _ _ _ hre
    have h1 := D.one _ _ _ _ hre
    have hfx := hx a w g hf
    have hok' := lsOk_spec hok (l := (D.agg, D.n, f)) (by simp)
    have hrun' : (execOp a.eval ⟨none, .store e' p x, ty, pos, af, none⟩).run X.P w = .ok .skip (w.setRow b' (cur.toList.take (k * R.n + off) ++ es ++ cur.toList.drop (k * R.n + off + D.n)).toArray) := by
      unfold execOp
      simp only [hv, Instr.storeAt, Instr.sureAddr, Sem.run_bind, Sem.run_pure, Result.andThen_ok]
      rw [hrun]
      rfl
    unfold Oper.wp
    rw [hrun']
    refine hK undef _ ?_
    have hb : ∀ b, b < w.heap.size → g.om b ≠ u → (w.setRow b' (cur.toList.take (k * R.n + off) ++ es ++ cur.toList.drop (k * R.n + off + D.n)).toArray).heap[b]? = w.heap[b]? := fun b hb hne => setRow_other w b' b _ (fun he => hne (by rw [he]; exact h.om))
    have hsz : (w.setRow b' (cur.toList.take (k * R.n + off) ++ es ++ cur.toList.drop (k * R.n + off + D.n)).toArray).heap.size = w.heap.size := by simp
    let g2 : Gh := ⟨g.om, fun s => if s = u + 1 + i then a.eval x else g.ga s⟩
    have hgai : g2.ga (u + 1 + i) = a.eval x := if_pos rfl
    have hgao : ∀ s, s ≠ u + 1 + i → g2.ga s = g.ga s := fun s hs => if_neg hs
    have htu' : t ≠ u + 1 + i := by
      simp only [Bool.or_eq_true, Nat.blt_eq] at htu
      omega
    have hkeep : ∀ x, x ∈ Tr ++ te → x ≠ u := fun x hx he => disj_spec hdj (show u ∈ [u] by simp) (he ▸ hx)
    refine ⟨by simp [Act.put, env.size], env.defers, Fr.own env.fr hg hu' (.inr trivial) rfl rfl rfl (by rw [hsz]; exact Nat.le_refl _) hb, g2, ⟨⟨hg.ok.old, fun b h1 h2 => hg.ok.new b h1 (by rw [hsz] at h2; exact h2)⟩, hg.om⟩, ?_⟩
    show Facts _ g2 a _
    have hnew : (cur.toList.take (k * R.n + off) ++ es ++ cur.toList.drop (k * R.n + off + D.n)) = c1 ++ ((c2.take off ++ es ++ c2.drop (off + D.n)) ++ (c3 ++ cs)) := by
      rw [h.eq]
      rw [List.take_append, List.take_of_length_le (by rw [h.n1]; omega), h.n1, show k * R.n + off - k * R.n = off by omega, List.take_append_of_le_length (by omega)]
      rw [show k * R.n + off + D.n = c1.length + (off + D.n) by rw [h.n1]; omega, List.drop_append, List.drop_of_length_le (by omega), show c1.length + (off + D.n) - c1.length = off + D.n by omega, List.drop_append_of_le_length (by omega)]
      simp
    refine Facts.ghost (Facts.ghost ?_ (fun _ => ⟨b', cap, _, c1, c2.take off ++ es ++ c2.drop (off + D.n), c3, cs, b1, b3, by rw [hgao t htu']; exact h.sl, by rw [hgao u (by omega)]; exact h.pt, h.om, setRow_heap w b' cur _ e (0, 0) h.row, h.lc, h.cm, ?_, h.kl, ?_, ?_, ?_, ?_, ?_, h.di⟩)) (fun v => ?_)
    · exact facts_killIdsT [u + 1 + i] hf' (by rw [hsz]; exact Nat.le_refl _) hb (fun _ _ => rfl) (fun s hs => hgao s (by simpa using hs))
    · have := congrArg List.length hnew
      have h9 := congrArg List.length h.eq
      have h10 := h.sz
      simp only [List.length_append, List.length_take, List.length_drop, Array.length_toList] at this h9
      simp only [List.size_toArray, List.length_append, List.length_take, List.length_drop, Array.length_toList]
      omega
    · rw [← hnew]
    · have := PRel.set (g := g) (g' := g2) ps (u + 1) c2 es i off _ _ h.pr hp hl h1 (by rw [hgai]; exact hes) hgao
      exact this
    · simp only [List.length_append, List.length_take, List.length_drop]
      have := h.n2
      omega
    · exact RelN.stab (by rw [hsz]; exact Nat.le_refl _) (fun x hx hT => ⟨hb x hx (hkeep _ (List.mem_append_right _ hT)), hT⟩) _ _ _ (fun x _ hx hT => ⟨hb x hx (hkeep _ (List.mem_append_left _ hT)), hT⟩) h.r1
    · exact RelN.stab (by rw [hsz]; exact Nat.le_refl _) (fun x hx hT => ⟨hb x hx (hkeep _ (List.mem_append_right _ hT)), hT⟩) _ _ _ (fun x _ hx hT => ⟨hb x hx (hkeep _ (List.mem_append_left _ hT)), hT⟩) h.r3
    · show f.p g2 (g2.ga (u + 1 + i)) _
      rw [hgai]
      exact f.stab g g2 _ w _ ⟨by rw [hsz]; exact Nat.le_refl _, fun b hbl htg => ⟨hb b hbl (fun he => hok'.2 (he ▸ htg)), rfl⟩, fun s hs => hgao s (fun he => hok'.1 s hs (by omega))⟩ hfx

/-- The lent element is written whole, and taken back. -/
theorem Step.storeBack {p x : Operand} {y : α} {h : List β} {es : List Ent} {T0 te' : List Nat} {l' : List α} (H : HdS α β γ) (q : Nat) (hty : Ty X.P e α) (hpx : Has G p (.pto u (k * R.n))) (ho : look G (rs t) = some (.lent H t u Tr te e er k l ps))
    (hx : Has G x (.flds ((false, 1, .ow T0 te' er h) :: entsL te' es))) (hh : H.hd y = h) (hes : ∀ F cs w, C.rel F (H.tl y) cs w ↔ EntsRel F es cs w) (hl' : l' = l.set k y)
    (h10 : all10 (t :: u :: T0) = true) (hq10 : Nat.ble 10 q = true) (hq : Tr.elem q = true) (h1 : disj (Tr ++ te') (u :: T0) = true) (h2 : subB te te' = true) (h3 : T0.elem u = false) :
    Step X G ⟨none, .store e p x, ty, pos, af, none⟩ (.fact (rs t) (.own2 H t Tr te' e er l') :: killTs (u :: T0) []) := fun G' hsub a w env K Q hK => by
    subst hh hl'
    simp only [all10, Bool.and_eq_true, Nat.ble_eq] at h10
    obtain ⟨t10, u10, h010⟩ := h10
    have hq' : 10 ≤ q := by simpa using hq10
    have hqm : q ∈ Tr := by simpa using hq
    have hu0 : u ∉ T0 := by simpa using h3
    obtain ⟨g, hg, hf'⟩ := env.facts
    have hf := hsub a w g hf'
    obtain ⟨b, hb, hv⟩ := hpx a w g hf
    obtain ⟨b', cap, cur, c1, c2, c3, cs, b1, b3, hP⟩ := hf _ _ ho
    rw [hP.pt] at hb
    simp only [ownB, Option.some.injEq] at hb
    subst hb
    obtain ⟨cx, hxv, hxr⟩ := hx a w g hf
    obtain ⟨v, ct, rfl, k3, k4⟩ := flds_split hxr
    have hn := H.n
    have hct : ct.length = C.n := C.len _ _ _ _ ((hes _ _ _).2 k4)
    have hone : ∀ z ∈ v :: ct, z.oneCell' = true := fun z hz => by
      rcases List.mem_cons.1 hz with rfl | hz
      · exact k3.one
      · exact C.one _ _ _ _ ((hes _ _ _).2 k4) z hz
    have hlen : cur.size = k * R.n + (c2.length + (c3.length + cs.length)) := by
      have := congrArg List.length hP.eq
      simpa [hP.n1] using this
    have hrep : Rep (fun _ => True) (⟨v :: ct, by simp; omega, hone⟩ : Raw R.n) (a.eval x) w := ⟨v :: ct, rfl, by rw [hxv]; rfl⟩
    obtain ⟨es', hes', hre, hrun⟩ := run_storeVar (P := X.P) (hty.raw H.agg) hP.row hrep (show k * R.n + R.n ≤ cur.size by rw [hlen, hP.n2]; omega)
    obtain rfl : es' = v :: ct := hre
    have hrun' : (execOp a.eval ⟨none, .store e p x, ty, pos, af, none⟩).run X.P w = .ok .skip (w.setRow b' (cur.toList.take (k * R.n) ++ (v :: ct) ++ cur.toList.drop (k * R.n + R.n)).toArray) := by
      unfold execOp
      simp only [hv, Instr.storeAt, Instr.sureAddr, Sem.run_bind, Sem.run_pure, Result.andThen_ok]
      rw [hrun]
      rfl
    unfold Oper.wp
    rw [hrun']
    refine hK undef _ ?_
    rw [List.cons_append, killTs_app]
    have hnew : (cur.toList.take (k * R.n) ++ (v :: ct) ++ cur.toList.drop (k * R.n + R.n)) = (c1 ++ ((v :: ct) ++ c3)) ++ cs := by
      rw [hP.eq]
      rw [List.take_append_of_le_length (by rw [hP.n1]; omega), List.take_of_length_le (by rw [hP.n1]; omega)]
      rw [show k * R.n + R.n = c1.length + c2.length by rw [hP.n1, hP.n2], List.drop_append, List.drop_of_length_le (by omega), show c1.length + c2.length - c1.length = c2.length by omega, List.drop_left]
      simp
    rw [hnew]
    have hbw : ∀ b, b < w.heap.size → g.om b ≠ u → (w.setRow b' ((c1 ++ ((v :: ct) ++ c3)) ++ cs).toArray).heap[b]? = w.heap[b]? := fun b hb hne => setRow_other w b' b _ (fun he => hne (by rw [he]; exact hP.om))
    have hsz : (w.setRow b' ((c1 ++ ((v :: ct) ++ c3)) ++ cs).toArray).heap.size = w.heap.size := by simp
    let g2 : Gh := ⟨fun x => if x = b' then t else if T0.elem (g.om x) then q else g.om x, g.ga⟩
    have hTr : ∀ x, g.om x ∈ Tr ++ te' → g.om x ≠ u ∧ g.om x ∉ T0 := fun x hx => ⟨fun he => disj_spec h1 (show u ∈ u :: T0 by simp) (he ▸ hx), fun he => disj_spec h1 (List.mem_cons_of_mem u he) hx⟩
    have homb : g2.om b' = t := if_pos rfl
    have homo : ∀ x, g.om x ≠ u → g.om x ∉ T0 → g2.om x = g.om x := fun x e1 e2 => by
      have e3 : x ≠ b' := fun he => e1 (by rw [he]; exact hP.om)
      show (if x = b' then t else if T0.elem (g.om x) then q else g.om x) = _
      rw [if_neg e3, if_neg (by simpa using e2)]
    have homT : ∀ x, g.om x ∈ T0 → g2.om x = q := fun x e2 => by
      have e3 : x ≠ b' := fun he => hu0 (by rw [← hP.om, ← he]; exact e2)
      show (if x = b' then t else if T0.elem (g.om x) then q else g.om x) = _
      rw [if_neg e3, if_pos (by simpa using e2)]
    have hold : ∀ x, x < X.w0.heap.size → g.om x ≠ u ∧ g.om x ∉ T0 := fun x hx => ⟨fun he => by have := hg.ok.old x hx; omega, fun he => by have h6 := hg.ok.old x hx; have h7 := all10_spec h010 he; omega⟩
    refine ⟨by simp [Act.put, env.size], env.defers, Fr.own env.fr hg u10 (.inr trivial) rfl rfl rfl (by rw [hsz]; exact Nat.le_refl _) hbw, g2, ⟨⟨fun x hx => by rw [homo x (hold x hx).1 (hold x hx).2]; exact hg.ok.old x hx, fun x h8 h9 => ?_⟩, fun x hx => by rw [homo x (hold x hx).1 (hold x hx).2]; exact hg.om x hx⟩, ?_⟩
    · by_cases e1 : x = b'
      · rw [e1, homb]; exact t10
      · by_cases e2 : g.om x ∈ T0
        · rw [homT x e2]; exact hq'
        · by_cases e4 : g.om x = u
          · show 10 ≤ (if x = b' then t else if T0.elem (g.om x) then q else g.om x)
            rw [if_neg e1, if_neg (by simpa using e2), e4]; exact u10
          · rw [homo x e4 e2]; exact hg.ok.new x h8 (by rw [hsz] at h9; exact h9)
    show Facts _ g2 a _
    have hkE : ∀ x, x < w.heap.size → g.om x ∈ te' → (w.setRow b' ((c1 ++ ((v :: ct) ++ c3)) ++ cs).toArray).heap[x]? = w.heap[x]? ∧ g2.om x ∈ te' := fun x hx hT => by
      obtain ⟨e1, e2⟩ := hTr x (List.mem_append_right _ hT)
      exact ⟨hbw x hx e1, by rw [homo x e1 e2]; exact hT⟩
    have hkE0 : ∀ x, x < w.heap.size → g.om x ∈ te → (w.setRow b' ((c1 ++ ((v :: ct) ++ c3)) ++ cs).toArray).heap[x]? = w.heap[x]? ∧ g2.om x ∈ te' := fun x hx hT => hkE x hx (subB_spec h2 _ hT)
    have hkR : ∀ x, x < w.heap.size → g.om x ∈ Tr → (w.setRow b' ((c1 ++ ((v :: ct) ++ c3)) ++ cs).toArray).heap[x]? = w.heap[x]? ∧ g2.om x ∈ Tr := fun x hx hT => by
      obtain ⟨e1, e2⟩ := hTr x (List.mem_append_left _ hT)
      exact ⟨hbw x hx e1, by rw [homo x e1 e2]; exact hT⟩
    have hll : (l.set k y).length = l.length := List.length_set
    have hls : l.set k y = l.take k ++ (y :: l.drop (k + 1)) := by
      rw [List.set_eq_take_append_cons_drop, if_pos hP.kl]
    refine Facts.ghost (facts_killR (u :: T0) [] hf' (by rw [hsz]; exact Nat.le_refl _) (fun x hx hn => ⟨hbw x hx (fun he => hn (by rw [he]; simp)), homo x (fun he => hn (by rw [he]; simp)) (fun he => hn (List.mem_cons_of_mem _ he))⟩) (fun _ _ => rfl)) (fun _ => ?_)
    have hn3 := (RelN.len _ _ _ hP.r3).1
    have hxl : (c1 ++ ((v :: ct) ++ c3)).length = l.length * R.n := by
      have hkl := hP.kl
      have e1 : l.length = k + 1 + (l.length - (k + 1)) := by omega
      simp only [List.length_append, List.length_cons, hP.n1, hn3, List.length_drop, hct]
      conv => rhs; rw [e1]
      simp only [Nat.add_mul, Nat.one_mul]
      omega
    refine ⟨c1 ++ ((v :: ct) ++ c3), b1 ++ (v.ownBlock :: b3), ⟨by rw [hll]; exact hxl, .inr ⟨b', cap, _, by rw [hll]; exact hP.sl, Nat.zero_le _, setRow_heap w b' cur _ e (0, 0) hP.row, by rw [hll]; exact hP.lc, hP.cm, ?_, ?_⟩⟩, ?_, ?_, ?_⟩
    · have := hP.sz
      have h9 := hP.n2
      simp only [List.size_toArray, List.length_append, List.length_cons, hct]
      rw [hP.n1]
      omega
    · rw [hll, ← hxl]
      show List.take _ ((c1 ++ ((v :: ct) ++ c3)) ++ cs) = _
      rw [List.take_left]
    · rw [hls]
      refine RelN.app _ _ _ _ _ _ (RelN.stab (by rw [hsz]; exact Nat.le_refl _) hkE0 _ _ _ (fun x _ => hkR x) hP.r1) ⟨v, ct, c3, b3, rfl, rfl, ?_, ?_, RelN.stab (by rw [hsz]; exact Nat.le_refl _) hkE0 _ _ _ (fun x _ => hkR x) hP.r3⟩
      · exact OwRel.stab1 (by rw [hsz]; exact Nat.le_refl _) (fun x _ hx hT => ⟨hbw x hx (fun he => hu0 (he ▸ hT)), by rw [homT x hT]; exact hqm⟩) hkE k3
      · exact C.stab _ _ _ ct w _ (by rw [hsz]; exact Nat.le_refl _) hkE ((hes _ _ _).2 k4)
    · have hvx : ∀ x, some x = v.ownBlock → g.om x ∈ T0 := fun x hx => (k3.lt hx.symm).1
      refine DistO.app hP.di.left (List.pairwise_cons.2 ⟨fun o ho hne he => ?_, hP.di.right⟩) (fun x h8 h9 => ?_)
      · cases o with
        | none => exact hne he
        | some x => exact (hTr x (List.mem_append_left _ (RelN.mem _ _ _ hP.r3 x ho).1)).2 (hvx x he.symm)
      · rcases List.mem_cons.1 h9 with h9 | h9
        · exact (hTr x (List.mem_append_left _ (RelN.mem _ _ _ hP.r1 x h8).1)).2 (hvx x h9)
        · exact hP.di.apart x h8 h9
    · intro x hx
      show g2.om x = t
      rw [show g2.ga t = g.ga t from rfl, hP.sl] at hx
      simp only [Value.ownBlock, Option.some.injEq] at hx
      rw [← hx, homb]
end
end GL
