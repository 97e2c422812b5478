/- Own library, part 40: an element of such a slice lent as a variable, and taken back. -/
import Derived.Test.YtgjibgklailenaaCore39
namespace GL
open Go

/-- The ghost in which some blocks have other tags, and some names other values. -/
def ghLend (g : Gh) (f : Nat → Option Nat) (u : Nat) (vs : List Value) : Gh := ⟨fun b => (f b).getD (g.om b), gaSet g.ga u vs⟩

theorem FldRel.app {g : Gh} {w : World} : ∀ (a b : Ls) (c1 c2 : List Value), FldRel g w a c1 → FldRel g w b c2 → FldRel g w (a ++ b) (c1 ++ c2)
  | [], b, c1, c2, h, k => by rw [show c1 = [] from h]; exact k
  | l :: a, b, c1, c2, h, k => by
    obtain ⟨d1, d2, rfl, h2, h3, h3', h4, h5⟩ := h
    exact ⟨d1, d2 ++ c2, by simp, h2, h3, h3', h4, FldRel.app a b d2 c2 h5 k⟩

section
variable {α β γ : Type} [R : Rp α] [B : Rp β] [C : Rp γ]
structure LentP (H : HdS α β γ) (g : Gh) (w : World) (t u : Nat) (Tr te : List Nat) (e er : TypeId) (k : Nat) (l : List α) (ps : Ps) (b cap : Nat) (cur : Array Value) (c1 c2 c3 cs : List Value) (b1 b3 : List (Option Nat)) : Prop where
  sl : g.ga t = .slice (some ⟨b, 0, none⟩) l.length cap
  pt : g.ga u = .pointer (some ⟨b, 0, none⟩)
  om : g.om b = u
  row : w.heap[b]? = some (.cells cur e (0, 0))
  lc : l.length ≤ cap
  cm : cap ≤ maxLen
  sz : cur.size = cap * R.n
  kl : k < l.length
  eq : cur.toList = c1 ++ (c2 ++ (c3 ++ cs))
  pr : PRel g (u + 1) ps c2
  n2 : c2.length = R.n
  r1 : RelN H (fun b => g.om b ∈ Tr) (fun b => g.om b ∈ te) er (l.take k) c1 b1 w
  r3 : RelN H (fun b => g.om b ∈ Tr) (fun b => g.om b ∈ te) er (l.drop (k + 1)) c3 b3 w
  di : DistO (b1 ++ b3)
theorem LentP.n1 {H : HdS α β γ} {g : Gh} {w : World} {t u : Nat} {Tr te : List Nat} {e er : TypeId} {k : Nat} {l : List α} {ps : Ps} {b cap : Nat} {cur : Array Value} {c1 c2 c3 cs : List Value} {b1 b3 : List (Option Nat)}
    (h : LentP H g w t u Tr te e er k l ps b cap cur c1 c2 c3 cs b1 b3) : c1.length = k * R.n := by
  have := (RelN.len _ _ _ h.r1).1
  rw [this, List.length_take, Nat.min_eq_left (Nat.le_of_lt h.kl)]
/-- A slice t of which element k is lent: it lies in the row of the variable u. -/
def Fact.lent (H : HdS α β γ) (t u : Nat) (Tr te : List Nat) (e er : TypeId) (k : Nat) (l : List α) (ps : Ps) : Fact where
  tags := u :: (Tr ++ te)
  ids := t :: u :: psIds (u + 1) ps
  p := fun g _ w => ∃ b cap cur c1 c2 c3 cs b1 b3, LentP H g w t u Tr te e er k l ps b cap cur c1 c2 c3 cs b1 b3
  stab := fun g g' v w w' hk h => by
    obtain ⟨b, cap, cur, c1, c2, c3, cs, b1, b3, h⟩ := h
    have hlt : b < w.heap.size := (Array.getElem?_eq_some_iff.1 h.row).1
    have hb := hk.block b hlt (by rw [h.om]; simp)
    have hTr : ∀ b, b < w.heap.size → g.om b ∈ Tr → w'.heap[b]? = w.heap[b]? ∧ g'.om b ∈ Tr := fun b hb ht => by
      have := hk.block b hb (List.mem_cons_of_mem _ (List.mem_append_left _ ht))
      exact ⟨this.1, by rw [this.2]; exact ht⟩
    have hte : ∀ b, b < w.heap.size → g.om b ∈ te → w'.heap[b]? = w.heap[b]? ∧ g'.om b ∈ te := fun b hb ht => by
      have := hk.block b hb (List.mem_cons_of_mem _ (List.mem_append_right _ ht))
      exact ⟨this.1, by rw [this.2]; exact ht⟩
    exact ⟨b, cap, cur, c1, c2, c3, cs, b1, b3, by rw [hk.ids t (by simp)]; exact h.sl, by rw [hk.ids u (by simp)]; exact h.pt, by rw [hb.2]; exact h.om, by rw [hb.1]; exact h.row, h.lc, h.cm, h.sz, h.kl, h.eq,
      h.pr.stab ps (u + 1) _ (fun s hs => hk.ids s (List.mem_cons_of_mem _ (List.mem_cons_of_mem _ hs))), h.n2, RelN.stab hk.size hte _ _ _ (fun b _ => hTr b) h.r1, RelN.stab hk.size hte _ _ _ (fun b _ => hTr b) h.r3, h.di⟩
end

section
variable {X : Cx} {G : List It} {Q : Exit → Act → World → Prop} {ops : Array Oper} {rest : List Oper} {d : Nat} {dO : Option Nat} {ty : TypeId} {pos : String} {af : Array Edge} {gd : Option (Nat × Bool)}
variable {α β γ : Type} [R : Rp α] [B : Rp β] [C : Rp γ] {H : HdS α β γ}

theorem Ad.lend {Tr te : List Nat} {e er : TypeId} {l : List α} {y : α} {h : List β} {k : Nat} {es : List Ent} {ps : Ps} (H : HdS α β γ) (t u R1 : Nat) (hrs : look G (rs t) = some (.own2 H t Tr te e er l)) (hy : l[k]? = some y) (hh : H.hd y = h)
    (hes : ∀ F cs w, C.rel F (H.tl y) cs w ↔ EntsRel F es cs w) (h10 : all10 (t :: u :: R1 :: Tr) = true) (h1 : disj (Tr ++ te) [t, u, R1] = true) (h2 : disj te Tr = true) (h3 : disj [R1] [t, u] = true) (h5 : (Nat.blt t u || Nat.blt (u + es.length + 1) t) = true)
    (hps : lsPs ((false, 1, Fact.ow [R1] te er h) :: entsL te es) = ps) :
    Ad X G (.fact (rs t) (.lent H t u Tr te e er k l ps) :: flI (u + 1) ((false, 1, Fact.ow [R1] te er h) :: entsL te es) (killIds (u :: psIds (u + 1) ps) (killTs (t :: Tr) G))) := fun a w env => by
  subst hh
  obtain ⟨g, hg, hf⟩ := env.facts
  obtain ⟨xs, bs, hown, hrel, hdis, htag⟩ := hf _ _ hrs
  have hkl : k < l.length := (List.getElem?_eq_some_iff.1 hy).1
  have hl : l = l.take k ++ y :: l.drop (k + 1) := by
    have := (List.take_append_drop k l).symm
    rw [List.drop_eq_getElem_cons hkl, (List.getElem?_eq_some_iff.1 hy).2] at this
    exact this
  rw [hl] at hrel
  obtain ⟨c1, c2, b1, b2, rfl, rfl, k1, k2⟩ := RelN.split _ _ _ _ hrel
  obtain ⟨v, ct, cs, b3, rfl, rfl, k3, k4, k5⟩ := k2
  have hct : ct.length = C.n := C.len _ _ _ _ k4
  have hn := H.n
  have hap := hdis.apart
  have hd1 := hdis.left
  have hd3 : DistO b3 := (List.pairwise_cons.1 hdis.right).2
  have hv3 : ∀ b, v.ownBlock = some b → some b ∉ b3 := fun b hb hb3 => (List.pairwise_cons.1 hdis.right).1 _ hb3 (by rw [hb]; simp) hb
  have hv1 : ∀ b, v.ownBlock = some b → some b ∉ b1 := fun b hb hb1 => hap b hb1 (by rw [hb]; simp)
  have h13 : ∀ b, some b ∈ b1 → some b ∉ b3 := fun b hb1 hb3 => hap b hb1 (by simp [hb3])
  simp only [all10, Bool.and_eq_true, Nat.ble_eq] at h10
  obtain ⟨t10, u10, r10, htr10⟩ := h10
  have hne : ∀ x, x ∈ Tr ++ te → x ≠ t ∧ x ≠ u ∧ x ≠ R1 := fun x hx => ⟨fun he => disj_spec h1 (show t ∈ [t, u, R1] by simp) (he ▸ hx), fun he => disj_spec h1 (show u ∈ [t, u, R1] by simp) (he ▸ hx), fun he => disj_spec h1 (show R1 ∈ [t, u, R1] by simp) (he ▸ hx)⟩
  have hteTr : ∀ x, x ∈ te → x ∉ Tr := fun x hx hx' => disj_spec h2 hx' hx
  rcases hown.2 with ⟨_, h0⟩ | ⟨b, cap, cur, hv, _, hb, hnc, hcm, hcs, htake⟩
  · omega
  have hbt : g.om b = t := htag b (by rw [hv]; rfl)
  have hblt : b < w.heap.size := (Array.getElem?_eq_some_iff.1 hb).1
  have hcur : cur.toList = c1 ++ ((v :: ct) ++ (cs ++ cur.toList.drop (l.length * R.n))) := by
    have : cur.toList = (c1 ++ (v :: (ct ++ cs))) ++ cur.toList.drop (l.length * R.n) := by rw [← htake, List.take_append_drop]
    conv => lhs; rw [this]
    simp
  -- the new ghost
  let fb : Nat → Option Nat := fun x => if x = b then some u else if v.ownBlock = some x then some R1 else none
  have hfb0 : ∀ x, x ≠ b → v.ownBlock ≠ some x → fb x = none := fun x e1 e2 => by simp only [fb]; rw [if_neg e1, if_neg e2]
  have hTrb : ∀ x, g.om x ∈ Tr → x ≠ b := fun x hx he => (hne t (by rw [← hbt, ← he]; exact List.mem_append_left _ hx)).1 rfl
  have hteb : ∀ x, g.om x ∈ te → fb x = none := fun x hx => hfb0 x (fun he => (hne t (by rw [← hbt, ← he]; exact List.mem_append_right _ hx)).1 rfl) (fun he => hteTr _ hx (k3.lt he).1)
  have hFld : FldRel g w ((false, 1, Fact.ow Tr te er (H.hd y)) :: entsL te es) (v :: ct) :=
    ⟨[v], ct, rfl, rfl, by simpa using k3.one, fun _ => rfl, k3, (entsL_rel es ct).2 ((hes _ _ _).1 k4)⟩
  obtain ⟨vs, hpv⟩ := hFld.pv _ _
  have hvl := PV.len _ _ _ hpv
  obtain ⟨vr, rfl⟩ : ∃ vr, vs = v :: vr := by
    obtain ⟨d1, d2, v', vr, e1, e2, e3, e4, e5, e6, e7, e8⟩ := hpv
    match d1, e3 with
    | [x], _ =>
      simp only [List.cons_append, List.nil_append, List.cons.injEq] at e1
      exact ⟨vr, by rw [e2, e6, e1.1]; rfl⟩
  have hpvt : PV g w (entsL te es) ct vr := by
    obtain ⟨d1, d2, v', vr', e1, e2, e3, e4, e5, e6, e7, e8⟩ := hpv
    match d1, e3 with
    | [x], _ =>
      simp only [List.cons_append, List.nil_append, List.cons.injEq] at e1 e2
      rw [e1.2, e2.2]; exact e8
  have hes_len : (entsL te es).length = es.length := by simp [entsL]
  have hvrl : vr.length = es.length := by simp [hes_len] at hvl; exact hvl
  have hpsl : ps.length = es.length + 1 := by rw [← hps]; simp [lsPs, hes_len]
  let g2 : Gh := ghLend g fb u (.pointer (some ⟨b, 0, none⟩) :: v :: vr)
  have hgu : g2.ga u = .pointer (some ⟨b, 0, none⟩) := by
    show gaSet g.ga u (.pointer (some ⟨b, 0, none⟩) :: v :: vr) (u + 0) = _
    exact gaSet_in g.ga u (.pointer (some ⟨b, 0, none⟩) :: v :: vr) 0 _ rfl
  have hgi : ∀ j x, (v :: vr)[j]? = some x → g2.ga (u + 1 + j) = x := fun j x hj => by
    have := gaSet_in g.ga u (.pointer (some ⟨b, 0, none⟩) :: v :: vr) (j + 1) x (by simpa using hj)
    rw [show u + 1 + j = u + (j + 1) by omega]; exact this
  have hgo : ∀ s, ¬(u ≤ s ∧ s < u + es.length + 2) → g2.ga s = g.ga s := fun s hs => gaSet_out _ _ _ _ (by simp [hvrl]; omega)
  have hgt : g2.ga t = g.ga t := hgo t (by
    simp only [Bool.or_eq_true, Nat.blt_eq] at h5
    omega)
  have homb : g2.om b = u := by show (fb b).getD _ = u; simp [fb]
  have homv : ∀ x, v.ownBlock = some x → g2.om x = R1 := fun x hx => by
    have : x ≠ b := hTrb x (k3.lt hx).1
    show (fb x).getD _ = R1
    simp only [fb]; rw [if_neg this, if_pos hx]; rfl
  have homo : ∀ x, fb x = none → g2.om x = g.om x := fun x hx => by show (fb x).getD _ = _; rw [hx]; rfl
  have hold : ∀ x, x < X.w0.heap.size → fb x = none := fun x hx => hfb0 x (fun he => by have := hg.ok.old x hx; rw [he, hbt] at this; omega) (fun he => by
    have h6 := hg.ok.old x hx
    have h7 := all10_spec htr10 (k3.lt he).1
    omega)
  refine ⟨env.size, env.defers, env.fr, g2, ⟨⟨fun x hx => by rw [homo x (hold x hx)]; exact hg.ok.old x hx, fun x hx hx' => ?_⟩, fun x hx => by rw [homo x (hold x hx)]; exact hg.om x hx⟩, ?_⟩
  · by_cases e1 : x = b
    · rw [e1, homb]; exact u10
    · by_cases e2 : v.ownBlock = some x
      · rw [homv x e2]; exact r10
      · rw [homo x (hfb0 x e1 e2)]; exact hg.ok.new x hx hx'
  have hkeepE : ∀ x, x < w.heap.size → g.om x ∈ te → w.heap[x]? = w.heap[x]? ∧ g2.om x ∈ te := fun x _ hx => ⟨rfl, by rw [homo x (hteb x hx)]; exact hx⟩
  refine Facts.ghost ?_ (fun _ => ⟨b, cap, cur, c1, v :: ct, cs, cur.toList.drop (l.length * R.n), b1, b3, by rw [hgt]; exact hv, hgu, homb, hb, hnc, hcm, hcs, hkl, hcur, ?_, by simp [hct, hn], ?_, ?_, ?_⟩)
  · refine facts_flI _ (u + 1) ?_ (fun j x hj => ?_)
    · refine facts_killR (t :: Tr) _ hf (Nat.le_refl _) (fun x _ hx => ⟨rfl, homo x (hfb0 x (fun he => hx (by rw [he, hbt]; simp)) (fun he => hx (List.mem_cons_of_mem _ (k3.lt he).1)))⟩) (fun s hs => hgo s (fun hx => hs ?_))
      simp only [List.mem_cons, psIds_mem, hpsl]
      omega
    · cases j with
      | zero =>
        simp only [List.getElem?_cons_zero, Option.some.injEq] at hj
        subst hj
        rw [hgi 0 v rfl]
        exact OwRel.stab1 (Nat.le_refl _) (fun x hx _ _ => ⟨rfl, by rw [homv x hx]; simp⟩) hkeepE k3
      | succ j =>
        have hj' : (entsL te es)[j]? = some x := by simpa using hj
        have hjl : j < es.length := by have := (List.getElem?_eq_some_iff.1 hj').1; omega
        have hvj : vr[j]? = some vr[j] := List.getElem?_eq_getElem (by omega)
        rw [hgi (j + 1) vr[j] (by simp)]
        obtain ⟨en, hen⟩ : ∃ en, es[j]? = some en := ⟨_, List.getElem?_eq_getElem hjl⟩
        have hxe : x = (en.R.agg, en.R.n, @Fact.rep en.α en.R te en.y) := by
          simp only [entsL, List.getElem?_map, hen, Option.map_some, Option.some.injEq] at hj'
          exact hj'.symm
        have hp : ∀ (ls : Ls) (cs vs : List Value) (j : Nat) (l : Bool × Nat × Fact) (v : Value), PV g w ls cs vs → ls[j]? = some l → vs[j]? = some v → l.2.2.p g v w := by
          intro ls
          induction ls with
          | nil => intro cs vs j l v _ hl; simp at hl
          | cons m ls ih =>
            intro cs vs j l v h hl hv
            obtain ⟨d1, d2, v', vr', e1, rfl, e3, e4, e5, e6, e7, e8⟩ := h
            cases j with
            | zero =>
              simp only [List.getElem?_cons_zero, Option.some.injEq] at hl hv
              rw [← hl, ← hv]; exact e7
            | succ j => exact ih d2 vr' j l v e8 (by simpa using hl) (by simpa using hv)
        have h8 := hp _ _ _ j x vr[j] hpvt hj' hvj
        rw [hxe] at h8 ⊢
        exact Rep.stab (R := en.R) (Nat.le_refl _) (fun b hb hF => hkeepE b hb hF) h8
  · rw [← hps]
    have hps2 : lsPs ((false, 1, Fact.ow [R1] te er (H.hd y)) :: entsL te es) = lsPs ((false, 1, Fact.ow Tr te er (H.hd y)) :: entsL te es) := rfl
    rw [hps2]
    exact PV.prel (g0 := g2) _ _ _ (u + 1) hpv hgi
  · exact RelN.stab (Nat.le_refl _) hkeepE _ _ _ (fun x hx _ hT => ⟨rfl, by rw [homo x (hfb0 x (hTrb x hT) (fun he => hv1 x he hx))]; exact hT⟩) k1
  · exact RelN.stab (Nat.le_refl _) hkeepE _ _ _ (fun x hx _ hT => ⟨rfl, by rw [homo x (hfb0 x (hTrb x hT) (fun he => hv3 x he hx))]; exact hT⟩) k5
  · exact DistO.app hd1 hd3 h13
end
end GL
