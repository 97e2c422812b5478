/- slices.Insert of one element of one cell, at any place, on a row. -/
import Derived.Test.YtmlmlfghogoadaaGsnI
set_option linter.unusedVariables false
set_option linter.unusedSimpArgs false
set_option linter.unnecessarySimpa false
namespace Go.Proofs.Ytmlmlfghogoadaa
open Go GL Go.RowKit Go.Lib

set_option maxHeartbeats 4000000 in
set_option maxRecDepth 1000000 in
theorem insY_room (b cap L I vb vc : Nat) (cur curv : Array Value) (v : Value) (w : World) (hrow : w.heap[b]? = some (.cells cur 37 (0, 0))) (hcs : cur.size = cap) (hI : I < L) (hLc : L + 1 ≤ cap) (hm : cap ≤ 9223372036854775807)
    (hvr : w.heap[vb]? = some (.cells curv 37 (0, 0))) (hvs : curv.toList.take 1 = [v]) (hne : vb ≠ b)
    (h1 : ∀ u ∈ cur.toList.take L, u.oneCell' = true) (h1v : v.oneCell' = true) :
    Calls Try.prog 61 #[.slice (some ⟨b, 0, none⟩) L cap, .int .i64 I, .slice (some ⟨vb, 0, none⟩) 1 vc] w fun e w' => e = .returned (.slice (some ⟨b, 0, none⟩) (L + 1) cap) ∧ ∃ row : Array Value,
      RowOnly w w' b 37 row ∧ row.size = cap ∧ row.toList.take (L + 1) = cur.toList.take I ++ v :: (cur.toList.take L).drop I := by
  obtain ⟨i0, hi0, hz0, hzs, hzb⟩ : ∃ i, Try.prog.info? 37 = some i ∧ i.zero = some (.slice none 0 0) ∧ i.size = 1 ∧ i.bytes = 24 := info_parts (by kernel_rfl)
  have hcell : ∀ t, w.cell? ⟨b, t, none⟩ = cur[t]? := fun t => cell_of_row w b t cur 37 (0, 0) hrow
  have hcellv : ∀ t, w.cell? ⟨vb, t, none⟩ = curv[t]? := fun t => cell_of_row w vb t curv 37 (0, 0) hvr
  obtain ⟨mid, hmid⟩ : ∃ mid, mid = (cur.toList.take L).drop I := ⟨_, rfl⟩
  have hlen : mid.length = L - I := by rw [hmid, List.length_drop, List.length_take, Array.length_toList]; omega
  have h1m : ∀ u ∈ mid, u.oneCell' = true := fun u hu => h1 u (by rw [hmid] at hu; exact List.mem_of_mem_drop hu)
  have hov : ∀ lb cb, (callFunc 89 #[.slice (some ⟨vb, 0, none⟩) 1 vc, .slice (some ⟨b, I + 1, none⟩) lb cb]).run Try.prog w = .ok (.value (.bool false)) w := fun lb cb => by
    rw [run_callFunc_extern Try.func89 (by kernel_rfl) (by kernel_rfl) (by kernel_rfl) (e := Extern.SlicesOverlaps.overlaps #[36, 36] #[4]) (by kernel_rfl),
      Lib.run_overlaps_apart w 36 4 37 Try.underlying36 1 Try.sizeOf37 ⟨vb, 0, none⟩ ⟨b, I + 1, none⟩ 1 vc lb cb hne 37 37 curv.size cur.size (by unfold World.shape?; rw [hvr]) (by unfold World.shape?; rw [hrow]) (by omega) (frozen_of_row w vb 0 curv 37 hvr) (frozen_of_row w vb _ curv 37 hvr)]
    rfl
  obtain ⟨row1, hrow1⟩ : ∃ row1 : Array Value, row1 = (cur.toList.take (I + 1) ++ mid ++ cur.toList.drop (I + 1 + mid.length)).toArray := ⟨_, rfl⟩
  have hr1 : row1.size = cap := by
    rw [hrow1]
    simp only [List.size_toArray, List.length_append, List.length_take, List.length_drop, Array.length_toList, hcs, hlen]
    omega
  obtain ⟨W1, hW1⟩ : ∃ W1, W1 = w.drew.setRow b row1 := ⟨_, rfl⟩
  have hO1 : RowOnly w W1 b 37 row1 := by rw [hW1]; exact (RowOnly.refl hrow).drew.set
  have hcp1 : ∀ ty dc sl sc, L - I ≤ sl → (Builtin.copy_ #[36, 36] ty #[.slice (some ⟨b, I + 1, none⟩) (L - I) dc, .slice (some ⟨b, I, none⟩) sl sc]).run Try.prog w.drew = .ok (goInt (L - I : Nat)) W1 := fun ty dc sl sc hsl => by
    rw [hW1, hrow1]
    exact run_copy_rowN w.drew 36 36 ty 37 b (I + 1) (L - I) dc ⟨b, I, none⟩ sl sc cur 37 mid i0 1 (L - I) Try.underlying36 hi0 hzs hrow (Nat.min_eq_right hsl) (by rw [hlen, Nat.mul_one])
      (fun j u hj => by
        rw [Addr.add_lit]
        have hjl : j < L - I := by have := (List.getElem?_eq_some_iff.1 hj).1; rwa [hlen] at this
        rw [hmid, List.getElem?_drop, List.getElem?_take_of_lt (by omega), Array.getElem?_toList] at hj
        exact (hcell (I + j)).trans hj) (by rw [hlen, hcs]; omega) h1m
  obtain ⟨row2, hrow2⟩ : ∃ row2 : Array Value, row2 = (row1.toList.take I ++ [v] ++ row1.toList.drop (I + [v].length)).toArray := ⟨_, rfl⟩
  have hcp2 : ∀ ty dl dc, 1 ≤ dl → (Builtin.copy_ #[36, 36] ty #[.slice (some ⟨b, I, none⟩) dl dc, .slice (some ⟨vb, 0, none⟩) 1 vc]).run Try.prog W1 = .ok (goInt 1) (W1.setRow b row2) := fun ty dl dc hdl => by
    rw [hrow2]
    exact run_copy_rowN W1 36 36 ty 37 b I dl dc ⟨vb, 0, none⟩ 1 vc row1 37 [v] i0 1 1 Try.underlying36 hi0 hzs hO1.row (Nat.min_eq_left hdl) rfl
      (fun j u hj => by
        rw [Addr.add_lit, Nat.zero_add]
        have hjl : j < 1 := (List.getElem?_eq_some_iff.1 hj).1
        rw [← hvs, List.getElem?_take_of_lt hjl, Array.getElem?_toList] at hj
        rw [cell_of_row W1 vb j curv 37 (0, 0) ((hO1.other vb hne).trans hvr)]; exact hj) (by rw [hr1]; simp only [List.length_singleton]; omega) (fun u hu => by rw [List.mem_singleton.1 hu]; exact h1v)
  have hfin : Hid (row2.size = cap ∧ row2.toList.take (L + 1) = cur.toList.take I ++ v :: mid) := by
    refine ⟨?_, ?_⟩
    · rw [hrow2]
      simp only [List.size_toArray, List.length_append, List.length_take, List.length_drop, Array.length_toList, List.length_singleton, hr1]
      omega
    · have e0 : row1.toList.take I = cur.toList.take I := by
        rw [hrow1, List.toList_toArray, List.append_assoc, List.take_append_of_le_length (by rw [List.length_take, Array.length_toList]; omega), List.take_take]
        congr 1; omega
      have e1 : row1.toList.drop (I + 1) = mid ++ cur.toList.drop (I + 1 + mid.length) := by
        rw [hrow1, List.toList_toArray, List.append_assoc, List.drop_append_of_le_length (by rw [List.length_take, Array.length_toList]; omega), List.drop_of_length_le (by rw [List.length_take]; omega), List.nil_append]
      rw [hrow2, List.toList_toArray, List.length_singleton, e0, e1]
      rw [show cur.toList.take I ++ [v] ++ (mid ++ cur.toList.drop (I + 1 + mid.length)) = (cur.toList.take I ++ v :: mid) ++ cur.toList.drop (I + 1 + mid.length) by simp]
      have hl2 : (cur.toList.take I ++ v :: mid).length = L + 1 := by rw [List.length_append, List.length_cons, hlen, List.length_take, Array.length_toList]; omega
      rw [List.take_append_of_le_length (by omega), List.take_of_length_le (by omega)]
  rw [← hmid]
  have hOe : Hid (RowOnly w W1 b 37 row1) := hO1
  have hw1 : IntKind.i64.wrap ((L : Int) + 1) = (L : Int) + 1 := by rw [IntKind.wrap_i64]; omega
  have hw2 : IntKind.i64.wrap ((I : Int) + 1) = (I : Int) + 1 := by rw [IntKind.wrap_i64]; omega
  have hw3 : IntKind.i64.wrap (1 : Int) = 1 := by rfl
  have hz2 : ¬ ((I : Int) = (L : Int)) := by omega
  have hb1 : (0 : Int) ≤ (L : Int) + 1 := by omega
  have hb0 : (0 : Int) ≤ (I : Int) + 1 := by omega
  have htn : ((L : Int) + 1).toNat = L + 1 := by omega
  have hti : ((I : Int) + 1).toNat = I + 1 := by omega
  have hb2 : ¬ (cap - (I + 1) = 0) := by omega
  have hb3 : ¬ (cap - I = 0) := by omega
  have hb4 : ¬ ((cap : Int) < (L : Int) + 1) := by omega
  have hc2 : ¬ cap = I + 1 := by omega
  have hc3 : ¬ cap = I := by omega
  have hb5 : (L : Int) + 1 ≤ (cap : Int) := by omega
  have hb6 : (I : Int) + 1 ≤ (L : Int) + 1 := by omega
  have hb7 : (I : Int) ≤ (L : Int) := by omega
  have hb8 : (I : Int) ≤ (L : Int) + 1 := by omega
  have hb9 : L + 1 - (I + 1) = L - I := by omega
  have hs1 : L - I ≤ L + 1 - I := by omega
  have hs2 : 1 ≤ L + 1 - I := by omega
  have mixed : Try.prog.follows Departure.mixedOrders = true := by kernel_rfl
  clear hrow1 hrow2 hW1 hO1 hr1 hcell hcellv hlen hvs h1 h1v hrow hvr hcs hmid h1m
  go_enter Try.func61, Try.ntmps61
  go_wp2_with (simp only [hov])
  have hcp1' := hcp1
  clear hcp1
  go_region_law_o (refine step_call_row rfl _ _ 36 36 rfl (.slice (some ⟨b, I + 1, none⟩) (L - I) (cap - (I + 1))) (.slice (some ⟨b, I, none⟩) (L + 1 - I) (cap - I)) _ _ (by simp [Act.eval, Act.put, hc2]) (by simp [Act.eval, Act.put, hc3]) (hcp1' _ _ _ _ hs1) ?_)
  all_goals go_wp2_with (at_builtin; refine wpList_copy_row _ rfl _ _ 36 36 rfl _ _ rfl rfl (hcp2 _ _ _ hs2) ?_)
  all_goals go_ret
  all_goals exact ⟨rfl, row2, hOe.out.set, hfin.out⟩

set_option maxHeartbeats 4000000 in
set_option maxRecDepth 1000000 in
theorem insY_grow (b cap L I vb vc : Nat) (cur curv : Array Value) (v : Value) (w : World) (hrow : w.heap[b]? = some (.cells cur 37 (0, 0))) (hcs : cur.size = cap) (hI : I < L) (hLc : L ≤ cap) (hcL : cap < L + 1) (hm : cap ≤ 9223372036854775807) (h32 : L + 1 < 4294967296)
    (hvr : w.heap[vb]? = some (.cells curv 37 (0, 0))) (hvs : curv.toList.take 1 = [v])
    (h1 : ∀ u ∈ cur.toList.take L, u.oneCell' = true) (h1v : v.oneCell' = true) :
    Calls Try.prog 61 #[.slice (some ⟨b, 0, none⟩) L cap, .int .i64 I, .slice (some ⟨vb, 0, none⟩) 1 vc] w fun e w' => ∃ G, L + 1 ≤ G ∧ G ≤ maxLen ∧ e = .returned (.slice (some ⟨w.heap.size, 0, none⟩) (L + 1) G) ∧ ∃ (row row0 : Array Value),
      RowOnly (w.drew.alloc (.cells row0 37)) w' w.heap.size 37 row ∧ row.size = G ∧ row.toList.take (L + 1) = cur.toList.take I ++ v :: (cur.toList.take L).drop I := by
  obtain ⟨i0, hi0, hz0, hzs, hzb⟩ : ∃ i, Try.prog.info? 37 = some i ∧ i.zero = some (.slice none 0 0) ∧ i.size = 1 ∧ i.bytes = 24 := info_parts (by kernel_rfl)
  have hbw : b < w.heap.size := (Array.getElem?_eq_some_iff.1 hrow).1
  have hvw : vb < w.heap.size := (Array.getElem?_eq_some_iff.1 hvr).1
  obtain ⟨mid, hmid⟩ : ∃ mid, mid = (cur.toList.take L).drop I := ⟨_, rfl⟩
  have hlen : mid.length = L - I := by rw [hmid, List.length_drop, List.length_take, Array.length_toList]; omega
  have h1m : ∀ u ∈ mid, u.oneCell' = true := fun u hu => h1 u (by rw [hmid] at hu; exact List.mem_of_mem_drop hu)
  obtain ⟨pre, hpre⟩ : ∃ pre, pre = cur.toList.take I := ⟨_, rfl⟩
  have hpl : pre.length = I := by rw [hpre, List.length_take, Array.length_toList]; omega
  obtain ⟨zc, hzc⟩ : ∃ zc : Array Value, zc = (.slice none 0 0 : Value).cells := ⟨_, rfl⟩
  have hzcs : zc.size = 1 := by rw [hzc]; rfl
  obtain ⟨G, hG⟩ : ∃ G, G = grownCap w (L + 1) cap 37 := ⟨_, rfl⟩
  have hGn : L + 1 ≤ G := by rw [hG]; exact grownCap_ge w _ _ _
  have hG63 : G ≤ maxLen := by
    rw [hG]
    exact grownCap_le_maxLen w (L + 1) cap 37 (by unfold maxLen; omega)
  obtain ⟨row0, hrow0⟩ : ∃ row0 : Array Value, row0 = pre.toArray ++ Builtin.zeroCells zc (L + 1 - I) ++ Builtin.zeroCells zc (G - (L + 1)) := ⟨_, rfl⟩
  have hr0 : row0.size = G := by
    rw [hrow0]
    simp only [Array.size_append, size_zeroCells, hzcs, List.size_toArray, hpl]
    omega
  have hr0p : row0.toList.take I = pre := by
    rw [hrow0]
    simp only [Array.toList_append, List.append_assoc]
    rw [List.take_append_of_le_length (by omega), List.take_of_length_le (by omega)]
  obtain ⟨N, hN⟩ : ∃ N, N = w.heap.size := ⟨_, rfl⟩
  obtain ⟨W0, hW0⟩ : ∃ W0, W0 = w.drew.alloc (.cells row0 37) := ⟨_, rfl⟩
  have hrz : ∀ ty, (Builtin.append_ #[36, 3] ty #[.slice (some ⟨b, 0, none⟩) I cap, .int .i64 ((L : Int) + 1 - (I : Int))]).run Try.prog w =
      .ok (.slice (some ⟨N, 0, none⟩) (L + 1) G) W0 := fun ty => by
    have h := Lib.run_append_grow_zeros w 36 3 ty 37 i0 _ .i64 .i64 Try.underlying36 Try.underlying3 hi0 hz0 (some ⟨b, 0, none⟩) I cap pre (by
      rw [hzs]
      exact run_firstCells_some w.drew 1 I ⟨b, 0, none⟩ I cap pre (by rw [hpl, Nat.mul_one]) (fun j u hj => by
        have hjl : j < I := by have := (List.getElem?_eq_some_iff.1 hj).1; omega
        rw [Addr.add_lit, Nat.zero_add]
        rw [hpre, List.getElem?_take_of_lt hjl, Array.getElem?_toList] at hj
        exact (cell_of_row w b j cur 37 (0, 0) hrow).trans hj)) (L + 1 - I) (by omega) (by omega) (by omega) (by omega) (by rw [hzb]; omega) (by rw [hzb]; exact growslice_fits (by omega) (by omega))
    have e0 : I + (L + 1 - I) = L + 1 := by omega
    rw [e0] at h
    rw [hW0, hrow0, hN, hG, hzc]
    have e : ((L + 1 - I : Nat) : Int) = (L : Int) + 1 - (I : Int) := by omega
    rw [e] at h
    exact h
  have hO0 : RowOnly W0 W0 N 37 row0 := RowOnly.refl (by
    rw [hW0, hN]
    exact Array.getElem?_push_size)
  have hold : ∀ k, k < w.heap.size → W0.heap[k]? = w.heap[k]? := fun k hk => by
    rw [hW0]
    exact RowKit.Below.heap_alloc w.drew _ k hk
  obtain ⟨row1, hrow1⟩ : ∃ row1 : Array Value, row1 = (row0.toList.take I ++ [v] ++ row0.toList.drop (I + [v].length)).toArray := ⟨_, rfl⟩
  have hr1 : row1.size = G := by
    rw [hrow1]
    simp only [List.size_toArray, List.length_append, List.length_take, List.length_drop, Array.length_toList, List.length_singleton, hr0]
    omega
  obtain ⟨W1, hW1⟩ : ∃ W1, W1 = W0.setRow N row1 := ⟨_, rfl⟩
  have hO1 : RowOnly W0 W1 N 37 row1 := by rw [hW1]; exact hO0.set
  have hcpA : ∀ ty dl dc, 1 ≤ dl → (Builtin.copy_ #[36, 36] ty #[.slice (some ⟨N, I, none⟩) dl dc, .slice (some ⟨vb, 0, none⟩) 1 vc]).run Try.prog W0 = .ok (goInt 1) W1 := fun ty dl dc hdl => by
    rw [hW1, hrow1]
    exact run_copy_rowN W0 36 36 ty 37 N I dl dc ⟨vb, 0, none⟩ 1 vc row0 37 [v] i0 1 1 Try.underlying36 hi0 hzs hO0.row (Nat.min_eq_left hdl) rfl
      (fun j u hj => by
        rw [Addr.add_lit, Nat.zero_add]
        have hjl : j < 1 := (List.getElem?_eq_some_iff.1 hj).1
        rw [← hvs, List.getElem?_take_of_lt hjl, Array.getElem?_toList] at hj
        rw [cell_of_row W0 vb j curv 37 (0, 0) ((hold vb hvw).trans hvr)]; exact hj) (by rw [hr0]; simp only [List.length_singleton]; omega) (fun u hu => by rw [List.mem_singleton.1 hu]; exact h1v)
  obtain ⟨row2, hrow2⟩ : ∃ row2 : Array Value, row2 = (row1.toList.take (I + 1) ++ mid ++ row1.toList.drop (I + 1 + mid.length)).toArray := ⟨_, rfl⟩
  have hcpB : ∀ ty dc sl sc, sl = L - I → (Builtin.copy_ #[36, 36] ty #[.slice (some ⟨N, I + 1, none⟩) (L - I) dc, .slice (some ⟨b, I, none⟩) sl sc]).run Try.prog W1.drew = .ok (goInt (L - I : Nat)) (W1.drew.setRow N row2) := fun ty dc sl sc hsl => by
    subst hsl
    rw [hrow2]
    exact run_copy_rowN W1.drew 36 36 ty 37 N (I + 1) (L - I) dc ⟨b, I, none⟩ (L - I) sc row1 37 mid i0 1 (L - I) Try.underlying36 hi0 hzs hO1.row (Nat.min_self _) (by rw [hlen, Nat.mul_one])
      (fun j u hj => by
        rw [Addr.add_lit]
        have hjl : j < L - I := by have := (List.getElem?_eq_some_iff.1 hj).1; rwa [hlen] at this
        rw [hmid, List.getElem?_drop, List.getElem?_take_of_lt (by omega), Array.getElem?_toList] at hj
        have hb : W1.drew.heap[b]? = some (.cells cur 37 (0, 0)) := (hO1.other b (by omega)).trans ((hold b hbw).trans hrow)
        rw [cell_of_row W1.drew b (I + j) cur 37 (0, 0) hb]; exact hj) (by rw [hlen, hr1]; omega) h1m
  have hfin : Hid (row2.size = G ∧ row2.toList.take (L + 1) = cur.toList.take I ++ v :: mid) := by
    refine ⟨?_, ?_⟩
    · rw [hrow2]
      simp only [List.size_toArray, List.length_append, List.length_take, List.length_drop, Array.length_toList, hlen, hr1]
      omega
    · have e1 : row1.toList.take (I + 1) = pre ++ [v] := by
        rw [hrow1, List.toList_toArray, hr0p, List.take_append_of_le_length (by rw [List.length_append, hpl, List.length_singleton]; omega), List.take_of_length_le (by rw [List.length_append, hpl, List.length_singleton]; omega)]
      rw [hrow2, List.toList_toArray, e1, ← hpre, show pre ++ [v] ++ mid = pre ++ v :: mid by simp]
      have hl2 : (pre ++ v :: mid).length = L + 1 := by rw [List.length_append, List.length_cons, hlen, hpl]; omega
      rw [List.take_append_of_le_length (by omega), List.take_of_length_le (by omega)]
  rw [← hmid]
  have hOe : Hid (RowOnly W0 W1 N 37 row1) := hO1
  have hWe : Hid (W0 = w.drew.alloc (.cells row0 37)) := hW0
  have hGe : Hid (L + 1 ≤ G ∧ G ≤ maxLen) := ⟨hGn, hG63⟩
  have hw1 : IntKind.i64.wrap ((L : Int) + 1) = (L : Int) + 1 := by rw [IntKind.wrap_i64]; omega
  have hw2 : IntKind.i64.wrap ((I : Int) + 1) = (I : Int) + 1 := by rw [IntKind.wrap_i64]; omega
  have hw3 : IntKind.i64.wrap (1 : Int) = 1 := by rfl
  have hw4 : IntKind.i64.wrap ((L : Int) + 1 - (I : Int)) = (L : Int) + 1 - (I : Int) := by rw [IntKind.wrap_i64]; omega
  have hz2 : ¬ ((I : Int) = (L : Int)) := by omega
  have hz3 : (cap : Int) < (L : Int) + 1 := by omega
  have hb0 : (0 : Int) ≤ (I : Int) + 1 := by omega
  have hti : ((I : Int) + 1).toNat = I + 1 := by omega
  have hc2 : ¬ (G = I + 1) := by omega
  have hc3 : ¬ (cap = I) := by omega
  have hc4 : ¬ (G = I) := by omega
  have hb2 : ¬ (G - (I + 1) = 0) := by omega
  have hb3 : ¬ (cap - I = 0) := by omega
  have hb4 : ¬ (G - I = 0) := by omega
  have hb6 : (I : Int) + 1 ≤ (L : Int) + 1 := by omega
  have hb7 : (I : Int) ≤ (L : Int) := by omega
  have hb8 : (I : Int) ≤ (L : Int) + 1 := by omega
  have hb10 : (I : Int) ≤ (cap : Int) := by omega
  have hb11 : I ≤ cap := by omega
  have hb9 : L + 1 - (I + 1) = L - I := by omega
  have hs2 : 1 ≤ L + 1 - I := by omega
  have mixed : Try.prog.follows Departure.mixedOrders = true := by kernel_rfl
  clear hrow1 hrow2 hW1 hO1 hr1 hlen hvs h1 h1v h1m hrow hvr hcs hW0 hO0 hold hrow0 hr0 hr0p hzc hzcs hGn hG63 hG hmid hpre hpl
  rw [← hN]
  clear hN
  go_enter Try.func61, Try.ntmps61
  go_wp2_with (first
    | (at_builtin; refine Lib.wpList_append_run _ rfl _ _ _ _ rfl _ _ rfl rfl _ _ (hrz _) ?_)
    | (at_builtin; refine wpList_copy_row _ rfl _ _ 36 36 rfl _ _ rfl rfl (hcpA _ _ _ hs2) ?_))
  go_region_law_o (refine step_call_row rfl _ _ 36 36 rfl (.slice (some ⟨N, I + 1, none⟩) (L - I) (G - (I + 1))) (.slice (some ⟨b, I, none⟩) (L - I) (cap - I)) _ _ (by simp [Act.eval, Act.put, hc2, hc3, hb9]) (by simp [Act.eval, Act.put, hc2, hc3]) (hcpB _ _ _ _ rfl) ?_)
  all_goals go_wp2
  all_goals go_ret
  all_goals exact ⟨G, hGe.out.1, hGe.out.2, rfl, row2, row0, by rw [← hWe.out]; exact hOe.out.drew.set, hfin.out⟩

set_option maxHeartbeats 4000000 in
set_option maxRecDepth 1000000 in
theorem insY_end_nil (vv v' : Value) (w w' : World) (vb vc : Nat) (hvv : vv = .slice (some ⟨vb, 0, none⟩) 1 vc)
    (hr : (Builtin.append_ #[36, 36] 36 #[.slice none 0 0, .slice (some ⟨vb, 0, none⟩) 1 vc]).run Try.prog w = .ok v' w') :
    Calls Try.prog 61 #[.slice none 0 0, .int .i64 0, vv] w fun e w1 => e = .returned v' ∧ w1 = w' := by
  subst hvv
  have mixed : Try.prog.follows Departure.mixedOrders = true := by kernel_rfl
  go_enter Try.func61, Try.ntmps61
  go_wp2_with (at_builtin; refine Lib.wpList_append_run _ rfl _ _ _ _ rfl _ _ rfl rfl _ _ hr ?_)
  go_ret
  exact ⟨rfl, rfl⟩
set_option maxHeartbeats 4000000 in
set_option maxRecDepth 1000000 in
theorem insY_end_row (b cap L : Nat) (hLc : L ≤ cap) (vv v' : Value) (w w' : World) (vb vc : Nat) (hvv : vv = .slice (some ⟨vb, 0, none⟩) 1 vc)
    (hr : (Builtin.append_ #[36, 36] 36 #[.slice (some ⟨b, 0, none⟩) L cap, .slice (some ⟨vb, 0, none⟩) 1 vc]).run Try.prog w = .ok v' w') :
    Calls Try.prog 61 #[.slice (some ⟨b, 0, none⟩) L cap, .int .i64 L, vv] w fun e w1 => e = .returned v' ∧ w1 = w' := by
  subst hvv
  have mixed : Try.prog.follows Departure.mixedOrders = true := by kernel_rfl
  go_enter Try.func61, Try.ntmps61
  go_wp2_with (at_builtin; refine Lib.wpList_append_run _ rfl _ _ _ _ rfl _ _ rfl rfl _ _ hr ?_)
  all_goals go_ret
  all_goals exact ⟨rfl, rfl⟩

theorem insY_own {sv vv : Value} {L I : Nat} {xs : List Value} {v : Value} {w : World} (hs : w.ownsRow 0 37 1 sv L xs) (hv : w.ownsRow 0 37 1 vv 1 [v]) (hne : ∀ b, sv.ownBlock = some b → vv.ownBlock ≠ some b) (h32 : L + 1 < 4294967296) (hI : I ≤ L)
    (h1 : ∀ u ∈ xs, u.oneCell' = true) (h1v : v.oneCell' = true) :
    Calls Try.prog 61 #[sv, .int .i64 I, vv] w fun e w' => ∃ v', e = .returned v' ∧ w'.ownsRow 0 37 1 v' (L + 1) (xs.take I ++ v :: xs.drop I) ∧ w.grownBy w' sv.ownBlock ∧ ∀ b, v'.ownBlock = some b → sv.ownBlock = some b ∨ b = w.heap.size := by
  obtain ⟨i0, hi0, hz0, hzs, hzb⟩ : ∃ i, Try.prog.info? 37 = some i ∧ i.zero = some (.slice none 0 0) ∧ i.size = 1 ∧ i.bytes = 24 := info_parts (by kernel_rfl)
  have hs0 := hs
  obtain ⟨hlen, hs⟩ := hs
  obtain ⟨hvl, hv⟩ := hv
  rcases hv with ⟨_, h0⟩ | ⟨vb, vc, curv, rfl, _, hvr, hv1, _, hvc, hvt⟩
  · omega
  have hvt1 : curv.toList.take 1 = [v] := hvt
  rw [Nat.mul_one] at hlen
  by_cases hLI : I = L
  · subst hLI
    have hcv : ∀ (j : Nat) u, [v][j]? = some u → w.cell? ((⟨vb, 0, none⟩ : Addr).add j) = some u := fun j u hj => by
      rw [Addr.add_lit, Nat.zero_add, cell_of_row w vb j curv 37 (0, 0) hvr]
      have hjl : j < 1 := (List.getElem?_eq_some_iff.1 hj).1
      rw [← hvt1, List.getElem?_take_of_lt hjl, Array.getElem?_toList] at hj
      exact hj
    have h1s : ∀ u ∈ [v], u.oneCell' = true := fun u hu => by rw [List.mem_singleton.1 hu]; exact h1v
    obtain ⟨v', w', hrun, h2, h3, h4⟩ := Go.run_append_own (P := Try.prog) w 0 36 36 37 i0 _ 1 24 Try.underlying36 hi0 hz0 hzs hzb rfl (by omega) sv I xs hs0 ⟨vb, 0, none⟩ 1 vc [v] rfl hcv h1s (by simp only [maxLen]; omega) (by omega) (Nat.zero_le _)
    have hnew : ∀ b, v'.ownBlock = some b → sv.ownBlock = some b ∨ b = w.heap.size := fun b' hb' => by
      rcases hs with ⟨rfl, rfl⟩ | ⟨b, cap, cur, rfl, _, hrow, hLc, hm, hcs, htake⟩
      · have hr := run_append_nil (P := Try.prog) w 36 36 37 i0 _ Try.underlying36 hi0 hz0 ⟨vb, 0, none⟩ 1 vc [v] (by rw [hzs]; rfl) hcv (by omega) (by omega) (by rw [hzb]; omega)
        rw [hrun] at hr
        simp only [Result.ok.injEq] at hr
        rw [hr.1] at hb'
        simp only [Value.ownBlock, Option.some.injEq] at hb'
        exact .inr hb'.symm
      · by_cases hroom : I + 1 ≤ cap
        · have hr := run_append_room (P := Try.prog) w 36 36 37 i0 Try.underlying36 hi0 b I cap cur hrow ⟨vb, 0, none⟩ 1 vc [v] (by rw [hzs]; rfl) hcv h1s hroom (by rw [hcs, hzs]; simp only [List.length_singleton, Nat.mul_one]; omega)
          rw [hrun] at hr
          simp only [Result.ok.injEq] at hr
          rw [hr.1] at hb'
          exact .inl hb'
        · have hr := run_append_grow (P := Try.prog) w 36 36 37 i0 _ Try.underlying36 hi0 hz0 ⟨b, 0, none⟩ I cap (cur.toList.take I) (by rw [hzs, List.length_take, Array.length_toList]; omega) (fun j u hj => by
            have hjl : j < I := by have := (List.getElem?_eq_some_iff.1 hj).1; rw [List.length_take] at this; omega
            rw [Addr.add_lit, Nat.zero_add]
            rw [List.getElem?_take_of_lt hjl, Array.getElem?_toList] at hj
            exact (cell_of_row w b j cur 37 (0, 0) hrow).trans hj) ⟨vb, 0, none⟩ 1 vc [v] (by rw [hzs]; rfl) hcv (by omega) (by omega) (growslice_fits (by omega) (by rw [hzb]; omega))
          rw [hrun] at hr
          simp only [Result.ok.injEq] at hr
          rw [hr.1] at hb'
          simp only [Value.ownBlock, Option.some.injEq] at hb'
          exact .inr hb'.symm
    have e1 : xs.take I ++ v :: xs.drop I = xs ++ [v] := by rw [List.take_of_length_le (by omega), List.drop_of_length_le (by omega)]
    rw [e1]
    rcases hs with ⟨rfl, rfl⟩ | ⟨b, cap, cur, rfl, _, _, hLc, _⟩
    · exact (insY_end_nil _ v' w w' vb vc rfl hrun).mono (fun e w1 ⟨h5, h6⟩ => by subst h6; exact ⟨v', h5, h2, h3, hnew⟩)
    · exact (insY_end_row b cap I hLc _ v' w w' vb vc rfl hrun).mono (fun e w1 ⟨h5, h6⟩ => by subst h6; exact ⟨v', h5, h2, h3, hnew⟩)
  have hIL : I < L := by omega
  rcases hs with ⟨_, h0⟩ | ⟨b, cap, cur, rfl, _, hrow, hLc, hm, hcs, htake⟩
  · omega
  have hnb : vb ≠ b := fun he => hne b rfl (by rw [he]; rfl)
  have hm' : cap ≤ 9223372036854775807 := by simp only [maxLen] at hm; omega
  rw [Nat.mul_one] at hcs htake
  have e2 : cur.toList.take I = xs.take I := by rw [← htake, List.take_take, Nat.min_eq_left (Nat.le_of_lt hIL)]
  by_cases hroom : L + 1 ≤ cap
  · refine (insY_room b cap L I vb vc cur curv v w hrow hcs hIL hroom hm' hvr hvt1 hnb (by rw [htake]; exact h1) h1v).mono ?_
    rintro e w' ⟨rfl, row, hO, hr1, hr2⟩
    rw [htake, e2] at hr2
    refine ⟨_, rfl, ⟨?_, .inr ⟨b, cap, row, rfl, Nat.zero_le _, hO.row, hroom, hm, by rw [Nat.mul_one]; exact hr1, by rw [Nat.mul_one]; exact hr2⟩⟩, hO.grown, fun b' hb' => .inl hb'⟩
    simp only [List.length_append, List.length_cons, List.length_take, List.length_drop]
    omega
  · refine (insY_grow b cap L I vb vc cur curv v w hrow hcs hIL hLc (by omega) hm' h32 hvr hvt1 (by rw [htake]; exact h1) h1v).mono ?_
    rintro e w' ⟨G, hG1, hG2, rfl, row, row0, hO, hr1, hr2⟩
    rw [htake, e2] at hr2
    refine ⟨_, rfl, ⟨?_, .inr ⟨w.heap.size, G, row, rfl, Nat.zero_le _, hO.row, hG1, hG2, by rw [Nat.mul_one]; exact hr1, by rw [Nat.mul_one]; exact hr2⟩⟩, ⟨hO.os, hO.tape, hO.output, ?_, fun k hk _ => ?_⟩, fun b' hb' => .inr ?_⟩
    · simp only [List.length_append, List.length_cons, List.length_take, List.length_drop]
      omega
    · rw [hO.size]
      show w.heap.size ≤ (w.drew.heap.push _).size
      rw [Array.size_push]; exact Nat.le_succ _
    · rw [hO.other k (by omega)]; exact RowKit.Below.heap_alloc w.drew _ k hk
    · simp only [Value.ownBlock, Option.some.injEq] at hb'; exact hb'.symm
end Go.Proofs.Ytmlmlfghogoadaa
