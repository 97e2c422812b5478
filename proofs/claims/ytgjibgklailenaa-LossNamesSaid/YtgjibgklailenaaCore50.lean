/- Own library, part 50: a closure that counts on in a variable. -/
import Derived.Test.YtgjibgklailenaaCore49
namespace GL
open Go

/-- Function k, called with two numbers and a variable, tells a value by these and the variable's, and adds the second to the variable. -/
def CntFn (P : Program) (k : FuncId) (γ : Type) [Rp γ] (F : Int → Int → Int → γ) : Prop := ∀ (ba : Nat) (n s a : Int) (ty : TypeId) (w : World), w.heap[ba]? = some (.cells #[.int .i64 a] ty (0, 0)) →
  Calls P k #[.int .i64 n, .int .i64 s, .pointer (some ⟨ba, 0, none⟩)] w fun o w' => ∃ v', o = .returned v' ∧ (∀ H w, Rep H (F n s a) v' w) ∧ w'.heap[ba]? = some (.cells #[.int .i64 (wI (a + s))] ty (0, 0)) ∧ w.grownBy w' (some ba)

section
variable {X : Cx} {G : List It} {d : Nat} {ty : TypeId} {pos : String} {af : Array Edge}
theorem Step.callCnt {γ : Type} [R : Rp γ] {F : Int → Int → Int → γ} {op : Op} {k : FuncId} {t : Nat} {T1 T2 Ta : List Nat} {m n a0 : Int} (ht : Nat.ble 10 t = true) (hd : Nat.blt d X.n = true) (hF : CntFn X.P k γ F)
    (hc : CallOk X G ⟨some d, op, ty, pos, af, none⟩ k [Fact.rep T1 m, Fact.rep T2 n, .isv t]) (ho : look G (rs t) = some (.obj t [(false, 1)])) (ha : HasG G (t + 1) (Fact.rep Ta a0)) :
    Step X G ⟨some d, op, ty, pos, af, none⟩ [.fact d (Fact.rep [] (F m n a0)), .fact (rs (t + 1)) (.at (t + 1) (Fact.rep [] (wI (a0 + n)))), .fact (rs t) (.obj t [(false, 1)]), .kill t, .killId (t + 1)] := fun G' hsub a w env K Q hK => by
    have ht' : 10 ≤ t := by simpa using ht
    have hd' : d < X.n := by simpa [Nat.blt_eq] using hd
    obtain ⟨g, hg, hf'⟩ := env.facts
    have hf := hsub a w g hf'
    obtain ⟨vals, hrun, hall⟩ := hc a w g hf
    obtain ⟨b', ty', cs, hga, hh, hom, hrel⟩ := hf _ _ ho
    have hav := rep_int.1 (ha a w g hf)
    obtain ⟨v1, r1, rfl, p1, h2⟩ := hall
    obtain ⟨v2, r2, rfl, p2, h3⟩ := h2
    obtain ⟨v3, r3, rfl, p3, h4⟩ := h3
    have hr3 : r3 = [] := h4
    subst hr3
    have e1 := rep_int.1 p1
    have e2 := rep_int.1 p2
    have e3 : v3 = g.ga t := p3
    subst e1 e2 e3
    obtain ⟨c1, c2, hcs, hc1, hone, _, hgv, hc2⟩ := hrel
    have hc2' : c2 = [] := hc2
    subst hc2'
    obtain ⟨c, rfl⟩ := List.length_eq_one_iff.1 hc1
    have hcv : c = .int .i64 a0 := by
      have : g.ga (t + 1) = c := hgv
      rw [← this]; exact hav
    have hcs' : cs = #[.int .i64 a0] := by
      apply Array.toList_inj.1
      rw [hcs, hcv]; rfl
    subst hcs'
    have hcall := hF b' m n a0 ty' w hh
    rw [hga] at hrun
    unfold Oper.wp
    rw [hrun]
    refine Calls.mono hcall ?_
    rintro o w' ⟨v', rfl, hrep, hrow, hgr⟩
    refine hK v' w' ?_
    have hb : ∀ b, b < w.heap.size → g.om b ≠ t → w'.heap[b]? = w.heap[b]? := fun b hb hne => hgr.block b hb (fun he => hne (by rw [Option.some.inj he]; exact hom))
    have hbl : b' < w.heap.size := (Array.getElem?_eq_some_iff.1 hh).1
    let g2 : Gh := ⟨(tagNew g w.heap.size t).om, fun s => if s = t + 1 then .int .i64 (wI (a0 + n)) else g.ga s⟩
    have hom2 : ∀ b, b < w.heap.size → g2.om b = g.om b := fun b hb => by simp [g2, tagNew, hb]
    have hgai : g2.ga (t + 1) = .int .i64 (wI (a0 + n)) := if_pos rfl
    have hgao : ∀ s, s ≠ t + 1 → g2.ga s = g.ga s := fun s hs => if_neg hs
    have hgn := hg.tagNew (w' := w') ht' hgr.size env.fr.size
    refine ⟨by simp [Act.put, env.size], env.defers, Fr.own env.fr hg ht' (.inr trivial) hgr.os hgr.tape hgr.output hgr.size hb, g2, ⟨⟨hgn.ok.old, hgn.ok.new⟩, hgn.om⟩, ?_⟩
    refine Facts.put (by rw [env.size]; exact hd') ?_ (hrep _ _)
    refine Facts.ghost ?_ (fun v => ?_)
    · refine Facts.ghost ?_ (fun v => ⟨b', ty', _, by rw [hgao t (by omega)]; exact hga, hrow, by rw [hom2 b' hbl]; exact hom, ?_⟩)
      · exact facts_killIdsT [t + 1] hf' hgr.size hb hom2 (fun s hs => hgao s (by simpa using hs))
      · exact ⟨[.int .i64 (wI (a0 + n))], [], rfl, rfl, fun c hc => by
          simp only [List.mem_singleton] at hc
          rw [hc]; rfl, fun _ => rfl, hgai, rfl⟩
    · show (Fact.rep [] (wI (a0 + n))).p g2 (g2.ga (t + 1)) _
      rw [hgai]
      exact rep_int.2 rfl
end
end GL
