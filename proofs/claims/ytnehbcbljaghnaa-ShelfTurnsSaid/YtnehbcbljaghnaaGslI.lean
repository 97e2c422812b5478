/- slices.Insert over heads, one at the front, on a row. -/
import Derived.Test.YtnehbcbljaghnaaGslD
import Derived.Lib.Overlaps
import Derived.Laws.Externs
import Derived.Laws.CopyRow
import Derived.Lib.AppendZerosOnto
import Derived.Lib.JoinLaws
import Derived.Lib.AppendZeros
import Derived.Laws.IdiomCopy
namespace Go.Proofs.Ytnehbcbljaghnaa
open Go GL Go.RowKit Go.Lib

theorem run_copy_rowN {P : Program} (w : World) (dT sT ty elem : TypeId) (g o dLen dCap : Nat) (a : Addr) (sLen sCap : Nat) (cur : Array Value) (t : TypeId) (cs : List Value) (i : TypeInfo) (size n : Nat)
    (hu : P.underlying dT = some (.slice elem)) (hi : P.info? elem = some i) (hsz : i.size = size)
    (hg : w.heap[g]? = some (.cells cur t (0, 0))) (hm : Nat.min sLen dLen = n) (hn : cs.length = n * size)
    (hsrc : ∀ j v, cs[j]? = some v → w.cell? (a.add j) = some v) (hfit : o + cs.length ≤ cur.size) (h1 : ∀ v ∈ cs, v.oneCell' = true) :
    (Builtin.copy_ #[dT, sT] ty #[.slice (some ⟨g, o, none⟩) dLen dCap, .slice (some a) sLen sCap]).run P w =
      .ok (goInt n) (w.setRow g (cur.toList.take o ++ cs ++ cur.toList.drop (o + cs.length)).toArray) := by
  have hf := run_firstCells_some (P := P) w size n a sLen sCap cs hn hsrc
  have hst := run_storeCells_at P g o t cs 0 cur w hg (by simpa using hfit) h1
  simp only [Nat.add_zero] at hst
  subst hm
  simp [Builtin.copy_, run_underlying hu, Builtin.lenOf, sizeOf, typeInfo, hi, hsz, hf, hst]
theorem step_call_row {P : Program} {ops : Array Oper} {o : Oper} {a : Act} {w : World} {K : Act → World → Prop} {Q : Exit → Act → World → Prop} {E : Prop}
    (hg : o.guard = none) (d x : Operand) (dT sT : TypeId) (hop : o.op = Op.call { callee := Callee.builtin Builtin.copy, args := #[d, x], argTypes := #[dT, sT] })
    (v u v' : Value) (w' : World) (hd : a.eval d = v) (hx : a.eval x = u) (hr : (Builtin.copy_ #[dT, sT] o.type #[v, u]).run P w = .ok v' w') (hK : K (a.put o.dst v') w') :
    if Region.wanted o (yielded ops a.tmps) = true then Oper.wp P o a w K Q else E := by
  have hw : Region.wanted o (yielded ops a.tmps) = true := by simp [Region.wanted, hg]
  rw [if_pos hw]
  unfold Oper.wp
  simp [execOp, hop, resolve, invoke, builtin, hd, hx, hr, Result.andThen]
  exact hK
theorem wpList_copy_row {P : Program} (w : World) {ops : Array Oper} {rest : List Oper} {o : Oper} {a : Act} {Q : Exit → Act → World → Prop} (hgd : o.guard = none) (d s : Operand) (t t' : TypeId)
    (ho : o.op = .call { callee := .builtin .copy, args := #[d, s], argTypes := #[t, t'] }) (v u : Value) (hd : a.eval d = v) (hs : a.eval s = u) {v' : Value} {w' : World}
    (hr : (Builtin.copy_ #[t, t'] o.type #[v, u]).run P w = .ok v' w') (h : wpList P ops Q rest (a.put o.dst v') w') : wpList P ops Q (o :: rest) a w :=
  wpList_plain hgd fun _ hK => by
    unfold Oper.wp execOp
    simp only [ho, resolve, invoke, builtin, Sem.run_bind, Sem.run_pure, Result.andThen_ok, List.map_toArray, List.map_cons, List.map_nil, hd, hs, hr]
    exact hK _ _ h

set_option maxHeartbeats 4000000 in
set_option maxRecDepth 1000000 in
theorem insert_room (b cap L vb vc : Nat) (cur curv : Array Value) (vs : List Value) (w : World) (hrow : w.heap[b]? = some (.cells cur 45 (0, 0))) (hcs : cur.size = cap * 6) (hL : 0 < L) (hLc : L + 1 ≤ cap) (hm : cap ≤ 9223372036854775807)
    (hvr : w.heap[vb]? = some (.cells curv 45 (0, 0))) (hvs : curv.toList.take 6 = vs) (hvl : vs.length = 6) (hne : vb ≠ b)
    (h1 : ∀ v ∈ cur.toList.take (L * 6), v.oneCell' = true) (h1v : ∀ v ∈ vs, v.oneCell' = true) :
    Calls Try.prog 67 #[.slice (some ⟨b, 0, none⟩) L cap, .int .i64 0, .slice (some ⟨vb, 0, none⟩) 1 vc] w fun e w' => e = .returned (.slice (some ⟨b, 0, none⟩) (L + 1) cap) ∧ ∃ row : Array Value,
      RowOnly w w' b 45 row ∧ row.size = cap * 6 ∧ row.toList.take ((L + 1) * 6) = vs ++ cur.toList.take (L * 6) := by
  obtain ⟨i0, hi0, hz0, hzs, hzb⟩ : ∃ i, Try.prog.info? 45 = some i ∧ i.zero = some (Value.agg #[.int .i64 0, .slice none 0 0, .slice none 0 0, .int .u8 0, .bool false, .int .u32 0]) ∧ i.size = 6 ∧ i.bytes = 64 := info_parts (by kernel_rfl)
  have hcell : ∀ t, w.cell? ⟨b, t, none⟩ = cur[t]? := fun t => cell_of_row w b t cur 45 (0, 0) hrow
  have hcellv : ∀ t, w.cell? ⟨vb, t, none⟩ = curv[t]? := fun t => cell_of_row w vb t curv 45 (0, 0) hvr
  have hbig : L * 6 ≤ cur.size := by omega
  have hlen : (cur.toList.take (L * 6)).length = L * 6 := by rw [List.length_take, Array.length_toList]; omega
  have hov : ∀ lb cb, (callFunc 75 #[.slice (some ⟨vb, 0, none⟩) 1 vc, .slice (some ⟨b, 6, none⟩) lb cb]).run Try.prog w = .ok (.value (.bool false)) w := fun lb cb => by
    rw [run_callFunc_extern Try.func75 (by kernel_rfl) (by kernel_rfl) (by kernel_rfl) (e := Extern.SlicesOverlaps.overlaps #[25, 25] #[4]) (by kernel_rfl),
      Lib.run_overlaps_apart w 25 4 45 Try.underlying25 6 Try.sizeOf45 ⟨vb, 0, none⟩ ⟨b, 6, none⟩ 1 vc lb cb hne 45 45 curv.size cur.size (by unfold World.shape?; rw [hvr]) (by unfold World.shape?; rw [hrow]) (by omega) (frozen_of_row w vb 0 curv 45 hvr) (frozen_of_row w vb _ curv 45 hvr)]
    rfl
  obtain ⟨row1, hrow1⟩ : ∃ row1 : Array Value, row1 = (cur.toList.take 6 ++ cur.toList.take (L * 6) ++ cur.toList.drop (6 + (cur.toList.take (L * 6)).length)).toArray := ⟨_, rfl⟩
  have hr1 : row1.size = cap * 6 := by
    rw [hrow1]
    simp only [List.size_toArray, List.length_append, List.length_take, List.length_drop, Array.length_toList, hcs]
    omega
  obtain ⟨W1, hW1⟩ : ∃ W1, W1 = w.drew.setRow b row1 := ⟨_, rfl⟩
  have hO1 : RowOnly w W1 b 45 row1 := by rw [hW1]; exact (RowOnly.refl hrow).drew.set
  have hcp1 : ∀ ty dc sc, (Builtin.copy_ #[25, 25] ty #[.slice (some ⟨b, 6, none⟩) L dc, .slice (some ⟨b, 0, none⟩) (L + 1) sc]).run Try.prog w.drew = .ok (goInt L) W1 := fun ty dc sc => by
    rw [hW1, hrow1]
    exact run_copy_rowN w.drew 25 25 ty 45 b 6 L dc ⟨b, 0, none⟩ (L + 1) sc cur 45 (cur.toList.take (L * 6)) i0 6 L Try.underlying25 hi0 hzs hrow (by simp only [Nat.min_def]; split <;> omega) hlen
      (fun j v hj => by
        rw [Addr.add_lit, Nat.zero_add]
        have hjl : j < L * 6 := by have := (List.getElem?_eq_some_iff.1 hj).1; rwa [hlen] at this
        rw [List.getElem?_take_of_lt hjl, Array.getElem?_toList] at hj
        exact (hcell j).trans hj) (by rw [hlen, hcs]; omega) h1
  obtain ⟨row2, hrow2⟩ : ∃ row2 : Array Value, row2 = (row1.toList.take 0 ++ vs ++ row1.toList.drop (0 + vs.length)).toArray := ⟨_, rfl⟩
  have hcp2 : ∀ ty dc, (Builtin.copy_ #[25, 25] ty #[.slice (some ⟨b, 0, none⟩) (L + 1) dc, .slice (some ⟨vb, 0, none⟩) 1 vc]).run Try.prog W1 = .ok (goInt 1) (W1.setRow b row2) := fun ty dc => by
    rw [hrow2]
    exact run_copy_rowN W1 25 25 ty 45 b 0 (L + 1) dc ⟨vb, 0, none⟩ 1 vc row1 45 vs i0 6 1 Try.underlying25 hi0 hzs hO1.row (by simp only [Nat.min_def]; split <;> omega) hvl
      (fun j v hj => by
        rw [Addr.add_lit, Nat.zero_add]
        have hjl : j < 6 := by have := (List.getElem?_eq_some_iff.1 hj).1; rwa [hvl] at this
        rw [← hvs, List.getElem?_take_of_lt hjl, Array.getElem?_toList] at hj
        rw [cell_of_row W1 vb j curv 45 (0, 0) ((hO1.other vb hne).trans hvr)]; exact hj) (by rw [hvl, hr1]; omega) h1v
  have hfin : Hid (row2.size = cap * 6 ∧ row2.toList.take ((L + 1) * 6) = vs ++ cur.toList.take (L * 6)) := by
    refine ⟨?_, ?_⟩
    · rw [hrow2]
      simp only [List.size_toArray, List.length_append, List.length_take, List.length_drop, Array.length_toList, hvl, hr1]
      omega
    · have e1 : row1.toList.drop 6 = cur.toList.take (L * 6) ++ cur.toList.drop (6 + (cur.toList.take (L * 6)).length) := by
        rw [hrow1, List.toList_toArray, List.append_assoc, List.drop_append_of_le_length (by rw [List.length_take, Array.length_toList]; omega), List.drop_of_length_le (by rw [List.length_take]; omega), List.nil_append]
      rw [hrow2, List.toList_toArray, hvl, List.take_zero, List.nil_append, Nat.zero_add, e1, ← List.append_assoc, List.take_append_of_le_length (by rw [List.length_append, hvl, hlen]; omega), List.take_of_length_le (by rw [List.length_append, hvl, hlen]; omega)]
  have hOe : Hid (RowOnly w W1 b 45 row1) := hO1
  have hw1 : IntKind.i64.wrap ((L : Int) + 1) = (L : Int) + 1 := by rw [IntKind.wrap_i64]; omega
  have hw2 : IntKind.i64.wrap ((0 : Int) + 1) = 1 := by rfl
  have hw3 : IntKind.i64.wrap (1 : Int) = 1 := by rfl
  have hz2 : ¬ ((0 : Int) = (L : Int)) := by omega
  have hb1 : (0 : Int) ≤ (L : Int) + 1 := by omega
  have htn : ((L : Int) + 1).toNat = L + 1 := by omega
  have hb2 : ¬ (cap = 1) := by omega
  have hb3 : ¬ (cap = 0) := by omega
  have hb4 : ¬ ((cap : Int) < (L : Int) + 1) := by omega
  have hb5 : (L : Int) + 1 ≤ (cap : Int) := by omega
  have hb6 : (1 : Int) ≤ (L : Int) + 1 := by omega
  have hb7 : 1 ≤ L + 1 := by omega
  have mixed : Try.prog.follows Departure.mixedOrders = true := by kernel_rfl
  clear hrow1 hrow2 hW1 hO1 hr1 hcell hcellv hbig hlen hvs hvl h1 h1v hrow hvr hcs
  go_enter Try.func67, Try.ntmps67
  go_wp2_with (simp only [hov])
  have hcp1' := hcp1
  clear hcp1
  go_region_law_o (refine step_call_row rfl _ _ 25 25 rfl (.slice (some ⟨b, 6, none⟩) L (cap - 1)) (.slice (some ⟨b, 0, none⟩) (L + 1) cap) _ _ (by simp [Act.eval, Act.put]) (by simp [Act.eval, Act.put]) (hcp1' _ _ _) ?_)
  all_goals go_wp2_with (at_builtin; refine wpList_copy_row _ rfl _ _ 25 25 rfl _ _ rfl rfl (hcp2 _ _) ?_)
  all_goals go_ret
  all_goals exact ⟨rfl, row2, hOe.out.set, hfin.out⟩

set_option maxHeartbeats 4000000 in
set_option maxRecDepth 1000000 in
theorem insert_grow (b cap L vb vc : Nat) (cur curv : Array Value) (vs : List Value) (w : World) (hrow : w.heap[b]? = some (.cells cur 45 (0, 0))) (hcs : cur.size = cap * 6) (hL : 0 < L) (hLc : L ≤ cap) (hcL : cap < L + 1) (hm : cap ≤ 9223372036854775807) (h32 : L + 1 < 4294967296)
    (hvr : w.heap[vb]? = some (.cells curv 45 (0, 0))) (hvs : curv.toList.take 6 = vs) (hvl : vs.length = 6)
    (h1 : ∀ v ∈ cur.toList.take (L * 6), v.oneCell' = true) (h1v : ∀ v ∈ vs, v.oneCell' = true) :
    Calls Try.prog 67 #[.slice (some ⟨b, 0, none⟩) L cap, .int .i64 0, .slice (some ⟨vb, 0, none⟩) 1 vc] w fun e w' => ∃ G, L + 1 ≤ G ∧ G ≤ maxLen ∧ e = .returned (.slice (some ⟨w.heap.size, 0, none⟩) (L + 1) G) ∧ ∃ (row row0 : Array Value),
      RowOnly (w.drew.alloc (.cells row0 45)) w' w.heap.size 45 row ∧ row.size = G * 6 ∧ row.toList.take ((L + 1) * 6) = vs ++ cur.toList.take (L * 6) := by
  obtain ⟨i0, hi0, hz0, hzs, hzb⟩ : ∃ i, Try.prog.info? 45 = some i ∧ i.zero = some (Value.agg #[.int .i64 0, .slice none 0 0, .slice none 0 0, .int .u8 0, .bool false, .int .u32 0]) ∧ i.size = 6 ∧ i.bytes = 64 := info_parts (by kernel_rfl)
  have hbw : b < w.heap.size := (Array.getElem?_eq_some_iff.1 hrow).1
  have hvw : vb < w.heap.size := (Array.getElem?_eq_some_iff.1 hvr).1
  have hbig : L * 6 ≤ cur.size := by omega
  have hlen : (cur.toList.take (L * 6)).length = L * 6 := by rw [List.length_take, Array.length_toList]; omega
  obtain ⟨zc, hzc⟩ : ∃ zc : Array Value, zc = (Value.agg #[.int .i64 0, .slice none 0 0, .slice none 0 0, .int .u8 0, .bool false, .int .u32 0]).cells := ⟨_, rfl⟩
  have hzcs : zc.size = 6 := by rw [hzc]; rfl
  obtain ⟨G, hG⟩ : ∃ G, G = grownCap w (L + 1) cap 45 := ⟨_, rfl⟩
  have hGn : L + 1 ≤ G := by rw [hG]; exact grownCap_ge w _ _ _
  have hG63 : G ≤ maxLen := by
    rw [hG]
    exact grownCap_le_maxLen w (L + 1) cap 45 (by unfold maxLen; omega)
  obtain ⟨row0, hrow0⟩ : ∃ row0 : Array Value, row0 = #[] ++ Builtin.zeroCells zc (L + 1) ++ Builtin.zeroCells zc (G - (L + 1)) := ⟨_, rfl⟩
  have hr0 : row0.size = G * 6 := by
    rw [hrow0]
    simp only [Array.size_append, size_zeroCells, hzcs, List.size_toArray, List.length_nil]
    omega
  obtain ⟨N, hN⟩ : ∃ N, N = w.heap.size := ⟨_, rfl⟩
  obtain ⟨W0, hW0⟩ : ∃ W0, W0 = w.drew.alloc (.cells row0 45) := ⟨_, rfl⟩
  have hrz : ∀ ty, (Builtin.append_ #[25, 3] ty #[.slice (some ⟨b, 0, none⟩) 0 cap, .int .i64 ((L : Int) + 1)]).run Try.prog w =
      .ok (.slice (some ⟨N, 0, none⟩) (L + 1) G) W0 := fun ty => by
    have h := Lib.run_append_grow_zeros w 25 3 ty 45 i0 _ .i64 .i64 Try.underlying25 Try.underlying3 hi0 hz0 (some ⟨b, 0, none⟩) 0 cap [] (by
      rw [hzs]
      exact run_firstCells_some w.drew 6 0 ⟨b, 0, none⟩ 0 cap [] rfl (fun j v hj => by simp at hj)) (L + 1) (by omega) (by omega) (by omega) (by omega) (by rw [hzb]; omega) (by rw [hzb, Nat.zero_add]; exact growslice_fits (by omega) (by omega))
    rw [Nat.zero_add] at h
    rw [hW0, hrow0, hN, hG, hzc]
    have e : ((L + 1 : Nat) : Int) = (L : Int) + 1 := by omega
    rw [e] at h
    exact h
  have hO0 : RowOnly W0 W0 N 45 row0 := RowOnly.refl (by
    rw [hW0, hN]
    exact Array.getElem?_push_size)
  have hold : ∀ k, k < w.heap.size → W0.heap[k]? = w.heap[k]? := fun k hk => by
    rw [hW0]
    exact RowKit.Below.heap_alloc w.drew _ k hk
  obtain ⟨row1, hrow1⟩ : ∃ row1 : Array Value, row1 = (row0.toList.take 0 ++ vs ++ row0.toList.drop (0 + vs.length)).toArray := ⟨_, rfl⟩
  have hr1 : row1.size = G * 6 := by
    rw [hrow1]
    simp only [List.size_toArray, List.length_append, List.length_take, List.length_drop, Array.length_toList, hvl, hr0]
    omega
  obtain ⟨W1, hW1⟩ : ∃ W1, W1 = W0.setRow N row1 := ⟨_, rfl⟩
  have hO1 : RowOnly W0 W1 N 45 row1 := by rw [hW1]; exact hO0.set
  have hcpA : ∀ ty dc, (Builtin.copy_ #[25, 25] ty #[.slice (some ⟨N, 0, none⟩) (L + 1) dc, .slice (some ⟨vb, 0, none⟩) 1 vc]).run Try.prog W0 = .ok (goInt 1) W1 := fun ty dc => by
    rw [hW1, hrow1]
    exact run_copy_rowN W0 25 25 ty 45 N 0 (L + 1) dc ⟨vb, 0, none⟩ 1 vc row0 45 vs i0 6 1 Try.underlying25 hi0 hzs hO0.row (by simp only [Nat.min_def]; split <;> omega) hvl
      (fun j v hj => by
        rw [Addr.add_lit, Nat.zero_add]
        have hjl : j < 6 := by have := (List.getElem?_eq_some_iff.1 hj).1; rwa [hvl] at this
        rw [← hvs, List.getElem?_take_of_lt hjl, Array.getElem?_toList] at hj
        rw [cell_of_row W0 vb j curv 45 (0, 0) ((hold vb hvw).trans hvr)]; exact hj) (by rw [hvl, hr0]; omega) h1v
  obtain ⟨row2, hrow2⟩ : ∃ row2 : Array Value, row2 = (row1.toList.take 6 ++ cur.toList.take (L * 6) ++ row1.toList.drop (6 + (cur.toList.take (L * 6)).length)).toArray := ⟨_, rfl⟩
  have hcpB : ∀ ty dc sc, (Builtin.copy_ #[25, 25] ty #[.slice (some ⟨N, 6, none⟩) L dc, .slice (some ⟨b, 0, none⟩) L sc]).run Try.prog W1.drew = .ok (goInt L) (W1.drew.setRow N row2) := fun ty dc sc => by
    rw [hrow2]
    exact run_copy_rowN W1.drew 25 25 ty 45 N 6 L dc ⟨b, 0, none⟩ L sc row1 45 (cur.toList.take (L * 6)) i0 6 L Try.underlying25 hi0 hzs hO1.row (by simp only [Nat.min_def]; split <;> omega) hlen
      (fun j v hj => by
        rw [Addr.add_lit, Nat.zero_add]
        have hjl : j < L * 6 := by have := (List.getElem?_eq_some_iff.1 hj).1; rwa [hlen] at this
        rw [List.getElem?_take_of_lt hjl, Array.getElem?_toList] at hj
        have hb : W1.drew.heap[b]? = some (.cells cur 45 (0, 0)) := (hO1.other b (by omega)).trans ((hold b hbw).trans hrow)
        rw [cell_of_row W1.drew b j cur 45 (0, 0) hb]; exact hj) (by rw [hlen, hr1]; omega) h1
  have hfin : Hid (row2.size = G * 6 ∧ row2.toList.take ((L + 1) * 6) = vs ++ cur.toList.take (L * 6)) := by
    refine ⟨?_, ?_⟩
    · rw [hrow2]
      simp only [List.size_toArray, List.length_append, List.length_take, List.length_drop, Array.length_toList, hlen, hr1]
      omega
    · have e1 : row1.toList.take 6 = vs := by
        rw [hrow1, List.toList_toArray, List.take_zero, List.nil_append, List.take_append_of_le_length (by omega), List.take_of_length_le (by omega)]
      rw [hrow2, List.toList_toArray, e1, List.take_append_of_le_length (by rw [List.length_append, hvl, hlen]; omega), List.take_of_length_le (by rw [List.length_append, hvl, hlen]; omega)]
  have hOe : Hid (RowOnly W0 W1 N 45 row1) := hO1
  have hWe : Hid (W0 = w.drew.alloc (.cells row0 45)) := hW0
  have hNe : Hid (N = w.heap.size) := hN
  have hGe : Hid (L + 1 ≤ G ∧ G ≤ maxLen) := ⟨hGn, hG63⟩
  have hw1 : IntKind.i64.wrap ((L : Int) + 1) = (L : Int) + 1 := by rw [IntKind.wrap_i64]; omega
  have hw2 : IntKind.i64.wrap ((0 : Int) + 1) = 1 := by rfl
  have hw3 : IntKind.i64.wrap (1 : Int) = 1 := by rfl
  have hw4 : IntKind.i64.wrap ((L : Int) + 1 - 0) = (L : Int) + 1 := by rw [IntKind.wrap_i64]; omega
  have hz2 : ¬ ((0 : Int) = (L : Int)) := by omega
  have hz3 : (cap : Int) < (L : Int) + 1 := by omega
  have hb2 : ¬ (G = 1) := by omega
  have hb3 : ¬ (cap = 0) := by omega
  have hb4 : ¬ (G = 0) := by omega
  have hb6 : (1 : Int) ≤ (L : Int) + 1 := by omega
  have mixed : Try.prog.follows Departure.mixedOrders = true := by kernel_rfl
  clear hrow1 hrow2 hW1 hO1 hr1 hbig hlen hvs hvl h1 h1v hrow hvr hcs hW0 hO0 hold hrow0 hr0 hzc hzcs hGn hG63 hG
  rw [← hN]
  clear hN
  go_enter Try.func67, Try.ntmps67
  go_wp2_with (first
    | (at_builtin; refine Lib.wpList_append_run _ rfl _ _ _ _ rfl _ _ rfl rfl _ _ (hrz _) ?_)
    | (at_builtin; refine wpList_copy_row _ rfl _ _ 25 25 rfl _ _ rfl rfl (hcpA _ _) ?_))
  go_region_law_o (refine step_call_row rfl _ _ 25 25 rfl (.slice (some ⟨N, 6, none⟩) L (G - 1)) (.slice (some ⟨b, 0, none⟩) L cap) _ _ (by simp [Act.eval, Act.put]) (by simp [Act.eval, Act.put]) (hcpB _ _ _) ?_)
  all_goals go_wp2
  all_goals go_ret
  all_goals exact ⟨G, hGe.out.1, hGe.out.2, rfl, row2, row0, by rw [← hWe.out]; exact hOe.out.drew.set, hfin.out⟩

set_option maxHeartbeats 4000000 in
set_option maxRecDepth 1000000 in
theorem insert_first_nil (vv v' : Value) (w w' : World) (vb vc : Nat) (hvv : vv = .slice (some ⟨vb, 0, none⟩) 1 vc)
    (hr : (Builtin.append_ #[25, 25] 25 #[.slice none 0 0, .slice (some ⟨vb, 0, none⟩) 1 vc]).run Try.prog w = .ok v' w') :
    Calls Try.prog 67 #[.slice none 0 0, .int .i64 0, vv] w fun e w1 => e = .returned v' ∧ w1 = w' := by
  subst hvv
  have mixed : Try.prog.follows Departure.mixedOrders = true := by kernel_rfl
  go_enter Try.func67, Try.ntmps67
  go_wp2_with (at_builtin; refine Lib.wpList_append_run _ rfl _ _ _ _ rfl _ _ rfl rfl _ _ hr ?_)
  go_ret
  exact ⟨rfl, rfl⟩
set_option maxHeartbeats 4000000 in
set_option maxRecDepth 1000000 in
theorem insert_first_row (b cap : Nat) (vv v' : Value) (w w' : World) (vb vc : Nat) (hvv : vv = .slice (some ⟨vb, 0, none⟩) 1 vc)
    (hr : (Builtin.append_ #[25, 25] 25 #[.slice (some ⟨b, 0, none⟩) 0 cap, .slice (some ⟨vb, 0, none⟩) 1 vc]).run Try.prog w = .ok v' w') :
    Calls Try.prog 67 #[.slice (some ⟨b, 0, none⟩) 0 cap, .int .i64 0, vv] w fun e w1 => e = .returned v' ∧ w1 = w' := by
  subst hvv
  have mixed : Try.prog.follows Departure.mixedOrders = true := by kernel_rfl
  go_enter Try.func67, Try.ntmps67
  go_wp2_with (at_builtin; refine Lib.wpList_append_run _ rfl _ _ _ _ rfl _ _ rfl rfl _ _ hr ?_)
  go_ret
  exact ⟨rfl, rfl⟩

/-! ### as owners' rows -/
theorem RowOnly.grown {w w' : World} {b : Nat} {e : TypeId} {row : Array Value} (h : RowOnly w w' b e row) : w.grownBy w' (some b) :=
  ⟨h.os, h.tape, h.output, by rw [h.size]; exact Nat.le_refl _, fun k _ hk => h.other k (fun he => hk (by rw [he]))⟩
theorem delete_own {sv : Value} {L i j : Nat} {xs : List Value} {w : World} (hs : w.ownsRow 0 45 6 sv L xs) (hij : i < j) (hj : j ≤ L) (h1 : ∀ v ∈ xs, v.oneCell' = true) :
    Calls Try.prog 66 #[sv, .int .i64 i, .int .i64 j] w fun e w' => ∃ v', e = .returned v' ∧ w'.ownsRow 0 45 6 v' (i + (L - j)) (xs.take (i * 6) ++ xs.drop (j * 6)) ∧ w.grownBy w' sv.ownBlock ∧ v'.ownBlock = sv.ownBlock := by
  obtain ⟨hlen, hs⟩ := hs
  rcases hs with ⟨_, h0⟩ | ⟨b, cap, cur, rfl, _, hrow, hLc, hm, hcs, htake⟩
  · omega
  have hd : (cur.toList.drop (j * 6)).take ((L - j) * 6) = xs.drop (j * 6) := by
    rw [← htake, List.drop_take]
    congr 1
    omega
  have ht : cur.toList.take (i * 6) = xs.take (i * 6) := by
    rw [← htake, List.take_take]
    congr 1
    omega
  refine (delete_row b cap L i j cur w hrow hcs hLc (by simp only [maxLen] at hm; omega) hij hj (by rw [hd]; exact fun v hv => h1 v (List.mem_of_mem_drop hv))).mono ?_
  rintro e w' ⟨rfl, row, hO, hr1, hr2⟩
  rw [hd, ht] at hr2
  refine ⟨_, rfl, ⟨?_, .inr ⟨b, cap, row, rfl, Nat.zero_le _, hO.row, by omega, hm, hr1, hr2⟩⟩, hO.grown, rfl⟩
  rw [List.length_append, List.length_take, List.length_drop, hlen]
  omega
theorem insert_own {sv vv : Value} {L : Nat} {xs vs : List Value} {w : World} (hs : w.ownsRow 0 45 6 sv L xs) (hv : w.ownsRow 0 45 6 vv 1 vs) (hne : ∀ b, sv.ownBlock = some b → vv.ownBlock ≠ some b) (h32 : L + 1 < 4294967296)
    (h1 : ∀ v ∈ xs, v.oneCell' = true) (h1v : ∀ v ∈ vs, v.oneCell' = true) :
    Calls Try.prog 67 #[sv, .int .i64 0, vv] w fun e w' => ∃ v', e = .returned v' ∧ w'.ownsRow 0 45 6 v' (L + 1) (vs ++ xs) ∧ w.grownBy w' sv.ownBlock ∧ ∀ b, v'.ownBlock = some b → sv.ownBlock = some b ∨ b = w.heap.size := by
  obtain ⟨i0, hi0, hz0, hzs, hzb⟩ : ∃ i, Try.prog.info? 45 = some i ∧ i.zero = some (Value.agg #[.int .i64 0, .slice none 0 0, .slice none 0 0, .int .u8 0, .bool false, .int .u32 0]) ∧ i.size = 6 ∧ i.bytes = 64 := info_parts (by kernel_rfl)
  have hs0 := hs
  obtain ⟨hlen, hs⟩ := hs
  obtain ⟨hvl, hv⟩ := hv
  rcases hv with ⟨_, h0⟩ | ⟨vb, vc, curv, rfl, _, hvr, _, _, hvc, hvt⟩
  · omega
  have hvl6 : vs.length = 6 := by omega
  have hvt6 : curv.toList.take 6 = vs := hvt
  by_cases hL : L = 0
  · subst hL
    have hx : xs = [] := List.eq_nil_of_length_eq_zero (by omega)
    subst hx
    obtain ⟨v', w', hrun, h2, h3, h4⟩ := Go.run_append_own (P := Try.prog) w 0 25 25 45 i0 _ 6 64 Try.underlying25 hi0 hz0 hzs hzb rfl (by omega) sv 0 [] hs0 ⟨vb, 0, none⟩ 1 vc vs (by omega) (fun j v hj => by
      rw [Addr.add_lit, Nat.zero_add, cell_of_row w vb j curv 45 (0, 0) hvr]
      have hjl : j < 6 := by have := (List.getElem?_eq_some_iff.1 hj).1; omega
      rw [← hvt6, List.getElem?_take_of_lt hjl, Array.getElem?_toList] at hj
      exact hj) h1v (by simp only [maxLen]; omega) (by omega) (Nat.zero_le _)
    have hcv : ∀ (j : Nat) v, vs[j]? = some v → w.cell? ((⟨vb, 0, none⟩ : Addr).add j) = some v := fun j v hj => by
      rw [Addr.add_lit, Nat.zero_add, cell_of_row w vb j curv 45 (0, 0) hvr]
      have hjl : j < 6 := by have := (List.getElem?_eq_some_iff.1 hj).1; omega
      rw [← hvt6, List.getElem?_take_of_lt hjl, Array.getElem?_toList] at hj
      exact hj
    have hnew : ∀ b, v'.ownBlock = some b → sv.ownBlock = some b ∨ b = w.heap.size := fun b' hb' => by
      rcases hs with ⟨rfl, _⟩ | ⟨b, cap, cur, rfl, _, hrow, hLc, hm, hcs, htake⟩
      · have hr := run_append_nil (P := Try.prog) w 25 25 45 i0 _ Try.underlying25 hi0 hz0 ⟨vb, 0, none⟩ 1 vc vs (by rw [hvl6, hzs]) hcv (by omega) (by omega) (by rw [hzb]; omega)
        rw [hrun] at hr
        simp only [Result.ok.injEq] at hr
        rw [hr.1] at hb'
        simp only [Value.ownBlock, Option.some.injEq] at hb'
        exact .inr hb'.symm
      · by_cases hroom : 0 + 1 ≤ cap
        · have hr := run_append_room (P := Try.prog) w 25 25 45 i0 Try.underlying25 hi0 b 0 cap cur hrow ⟨vb, 0, none⟩ 1 vc vs (by rw [hvl6, hzs]) hcv h1v hroom (by rw [hvl6, hcs]; omega)
          rw [hrun] at hr
          simp only [Result.ok.injEq] at hr
          rw [hr.1] at hb'
          exact .inl hb'
        · have hr := run_append_grow (P := Try.prog) w 25 25 45 i0 _ Try.underlying25 hi0 hz0 ⟨b, 0, none⟩ 0 cap [] (by rw [hzs]; rfl) (fun j u hj => by simp at hj) ⟨vb, 0, none⟩ 1 vc vs (by rw [hvl6, hzs]) hcv (by omega) (by omega) (growslice_fits (by omega) (by rw [hzb]; omega))
          rw [hrun] at hr
          simp only [Result.ok.injEq] at hr
          rw [hr.1] at hb'
          simp only [Value.ownBlock, Option.some.injEq] at hb'
          exact .inr hb'.symm
    simp only [List.append_nil]
    simp only [List.nil_append] at h2
    rcases hs with ⟨rfl, _⟩ | ⟨b, cap, cur, rfl, _⟩
    · exact (insert_first_nil _ v' w w' vb vc rfl hrun).mono (fun e w1 ⟨h5, h6⟩ => by subst h6; exact ⟨v', h5, h2, h3, hnew⟩)
    · exact (insert_first_row b cap _ v' w w' vb vc rfl hrun).mono (fun e w1 ⟨h5, h6⟩ => by subst h6; exact ⟨v', h5, h2, h3, hnew⟩)
  rcases hs with ⟨_, h0⟩ | ⟨b, cap, cur, rfl, _, hrow, hLc, hm, hcs, htake⟩
  · omega
  have hnb : vb ≠ b := fun he => hne b rfl (by rw [he]; rfl)
  have hm' : cap ≤ 9223372036854775807 := by simp only [maxLen] at hm; omega
  by_cases hroom : L + 1 ≤ cap
  · refine (insert_room b cap L vb vc cur curv vs w hrow hcs (by omega) hroom hm' hvr hvt6 hvl6 hnb (by rw [htake]; exact h1) h1v).mono ?_
    rintro e w' ⟨rfl, row, hO, hr1, hr2⟩
    rw [htake] at hr2
    refine ⟨_, rfl, ⟨?_, .inr ⟨b, cap, row, rfl, Nat.zero_le _, hO.row, hroom, hm, hr1, hr2⟩⟩, hO.grown, fun b' hb' => .inl hb'⟩
    rw [List.length_append, hvl6, hlen]; omega
  · refine (insert_grow b cap L vb vc cur curv vs w hrow hcs (by omega) hLc (by omega) hm' h32 hvr hvt6 hvl6 (by rw [htake]; exact h1) h1v).mono ?_
    rintro e w' ⟨G, hG1, hG2, rfl, row, row0, hO, hr1, hr2⟩
    rw [htake] at hr2
    refine ⟨_, rfl, ⟨?_, .inr ⟨w.heap.size, G, row, rfl, Nat.zero_le _, hO.row, hG1, hG2, hr1, hr2⟩⟩, ⟨hO.os, hO.tape, hO.output, ?_, fun k hk _ => ?_⟩, fun b' hb' => .inr ?_⟩
    · rw [List.length_append, hvl6, hlen]; omega
    · rw [hO.size]
      show w.heap.size ≤ (w.drew.heap.push _).size
      rw [Array.size_push]; exact Nat.le_succ _
    · rw [hO.other k (by omega)]; exact RowKit.Below.heap_alloc w.drew _ k hk
    · simp only [Value.ownBlock, Option.some.injEq] at hb'; exact hb'.symm
end Go.Proofs.Ytnehbcbljaghnaa
