/- slices.Delete over heads, on a row. -/
import Derived.Test.YtnehbcbljaghnaaProg
import Derived.Test.YtnehbcbljaghnaaCore46
import Derived.Shelf.RegionOpenPlain
import Derived.WalkKit
import Derived.Lib.Walk
import Derived.Lib.SliceRun
import Derived.Deep.LoopGhost
import Derived.Deep.RegionLaw
import Derived.Sort.WalkB12
namespace Go.Proofs.Ytnehbcbljaghnaa
open Go GL Go.RowKit Go.Lib

theorem step_append_row {P : Program} {ops : Array Oper} {o : Oper} {a : Act} {w : World} {K : Act → World → Prop} {Q : Exit → Act → World → Prop} {E : Prop}
    (hg : o.guard = none) (s x : Operand) (t : TypeId) (hop : o.op = Op.call { callee := Callee.builtin Builtin.append, args := #[s, x], argTypes := #[t, t] })
    (v u v' : Value) (w' : World) (hs : a.eval s = v) (hx : a.eval x = u) (hrun : (Builtin.append_ #[t, t] o.type #[v, u]).run P w = .ok v' w')
    (hK : K (a.put o.dst v') w') :
    if Region.wanted o (yielded ops a.tmps) = true then Oper.wp P o a w K Q else E := by
  have hw : Region.wanted o (yielded ops a.tmps) = true := by simp [Region.wanted, hg]
  rw [if_pos hw]
  unfold Oper.wp
  simp [execOp, hop, resolve, invoke, builtin, hs, hx, hrun, Result.andThen]
  exact hK

/-- Only the row of one block is another. -/
structure RowOnly (w w' : World) (b : Nat) (e : TypeId) (row : Array Value) : Prop where
  os : w'.os = w.os
  tape : w'.tape = w.tape
  output : w'.output = w.output
  size : w'.heap.size = w.heap.size
  row : w'.heap[b]? = some (.cells row e (0, 0))
  other : ∀ k, k ≠ b → w'.heap[k]? = w.heap[k]?
theorem RowOnly.drew {w w' : World} {b : Nat} {e : TypeId} {row : Array Value} (h : RowOnly w w' b e row) : RowOnly w w'.drew b e row := ⟨h.os, h.tape, h.output, h.size, h.row, h.other⟩
theorem RowOnly.set {w w' : World} {b : Nat} {e : TypeId} {row row' : Array Value} (h : RowOnly w w' b e row) : RowOnly w (w'.setRow b row') b e row' :=
  ⟨h.os, h.tape, h.output, by simpa using h.size, setRow_heap w' b row row' e (0, 0) h.row, fun k hk => (setRow_other w' b k row' hk).trans (h.other k hk)⟩
theorem RowOnly.refl {w : World} {b : Nat} {e : TypeId} {row : Array Value} (h : w.heap[b]? = some (.cells row e (0, 0))) : RowOnly w w b e row := ⟨rfl, rfl, rfl, rfl, h, fun _ _ => rfl⟩

set_option maxHeartbeats 4000000 in
set_option maxRecDepth 1000000 in
theorem delete_row (b cap L i j : Nat) (cur : Array Value) (w : World) (hrow : w.heap[b]? = some (.cells cur 45 (0, 0))) (hcs : cur.size = cap * 6) (hLc : L ≤ cap) (hm : cap ≤ 9223372036854775807) (hij : i < j) (hj : j ≤ L)
    (h1 : ∀ v ∈ (cur.toList.drop (j * 6)).take ((L - j) * 6), v.oneCell' = true) :
    Calls Try.prog 66 #[.slice (some ⟨b, 0, none⟩) L cap, .int .i64 i, .int .i64 j] w fun e w' => e = .returned (.slice (some ⟨b, 0, none⟩) (i + (L - j)) cap) ∧ ∃ row : Array Value,
      RowOnly w w' b 45 row ∧ row.size = cap * 6 ∧ row.toList.take ((i + (L - j)) * 6) = cur.toList.take (i * 6) ++ (cur.toList.drop (j * 6)).take ((L - j) * 6) := by
  obtain ⟨i0, hi0, hz0, hzs, hzb⟩ : ∃ i, Try.prog.info? 45 = some i ∧ i.zero = some (Value.agg #[.int .i64 0, .slice none 0 0, .slice none 0 0, .int .u8 0, .bool false, .int .u32 0]) ∧ i.size = 6 ∧ i.bytes = 64 := info_parts (by kernel_rfl)
  obtain ⟨news, hnews⟩ : ∃ news, news = (cur.toList.drop (j * 6)).take ((L - j) * 6) := ⟨_, rfl⟩
  rw [← hnews] at h1 ⊢
  have hlen : news.length = (L - j) * 6 := by
    rw [hnews, List.length_take, List.length_drop, Array.length_toList, hcs]
    omega
  have hcell : ∀ t, w.cell? ⟨b, t, none⟩ = cur[t]? := fun t => cell_of_row w b t cur 45 (0, 0) hrow
  obtain ⟨A, hA, hsrc⟩ : ∃ A : Addr, (if cap = j then some (⟨b, 0, none⟩ : Addr) else some ⟨b, j * 6, none⟩) = some A ∧ Hid (∀ t u, news[t]? = some u → w.drew.cell? (A.add t) = some u) := by
    by_cases h : cap = j
    · refine ⟨⟨b, 0, none⟩, by simp [h], fun t u hu => ?_⟩
      have h0 : news.length = 0 := by rw [hlen]; omega
      rw [List.length_eq_zero_iff.1 h0] at hu
      simp at hu
    · refine ⟨⟨b, j * 6, none⟩, by simp [h], fun t u hu => ?_⟩
      have ht : t < (L - j) * 6 := by
        have := (List.getElem?_eq_some_iff.1 hu).1
        rwa [hlen] at this
      rw [hnews, List.getElem?_take_of_lt ht, List.getElem?_drop] at hu
      rw [Addr.add_lit]
      show w.cell? ⟨b, j * 6 + t, none⟩ = some u
      rw [hcell, ← Array.getElem?_toList]; exact hu
  obtain ⟨row1, hrow1⟩ : ∃ row1 : Array Value, row1 = (cur.toList.take (i * 6) ++ news ++ cur.toList.drop (i * 6 + news.length)).toArray := ⟨_, rfl⟩
  obtain ⟨k, hk⟩ : ∃ k, k = i + (L - j) := ⟨_, rfl⟩
  have happ : ∀ ty, (Builtin.append_ #[25, 25] ty #[.slice (some ⟨b, 0, none⟩) i cap, .slice (some A) (L - j) (cap - j)]).run Try.prog w.drew = .ok (.slice (some ⟨b, 0, none⟩) k cap) (w.drew.setRow b row1) := fun ty => by
    rw [hrow1, hk, ← hzs]
    exact run_append_room (P := Try.prog) w.drew 25 ty 45 i0 Try.underlying25 hi0 b i cap cur hrow A (L - j) (cap - j) news (by rw [hlen, hzs]) hsrc.out h1 (by omega) (by rw [hlen, hcs, hzs]; omega)
  have hr1 : row1.size = cap * 6 := by
    rw [hrow1]
    simp only [List.size_toArray, List.length_append, List.length_take, List.length_drop, Array.length_toList, hlen, hcs]
    omega
  obtain ⟨W1, hW1⟩ : ∃ W1, W1 = w.drew.setRow b row1 := ⟨_, rfl⟩
  have hO1 : RowOnly w W1 b 45 row1 := by rw [hW1]; exact (RowOnly.refl hrow).drew.set
  obtain ⟨zs, hzs2⟩ : ∃ zs, zs = (Builtin.zeroCells (Value.agg #[.int .i64 0, .slice none 0 0, .slice none 0 0, .int .u8 0, .bool false, .int .u32 0]).cells (L - k)).toList := ⟨_, rfl⟩
  have hzl : zs.length = (L - k) * 6 := by
    rw [hzs2]
    simp [Builtin.zeroCells, Value.cells]
  have hz1 : ∀ v ∈ zs, v.oneCell' = true := by
    rw [hzs2]
    intro v hv
    obtain ⟨n, hn⟩ : ∃ n, n = L - k := ⟨_, rfl⟩
    rw [← hn] at hv
    have h2 : (Builtin.zeroCells (Value.agg #[.int .i64 0, .slice none 0 0, .slice none 0 0, .int .u8 0, .bool false, .int .u32 0]).cells n).toList = (List.replicate n [.int .i64 0, .slice none 0 0, .slice none 0 0, .int .u8 0, .bool false, .int .u32 0]).flatten := madeCells_flatten [.int .i64 0, .slice none 0 0, .slice none 0 0, .int .u8 0, .bool false, .int .u32 0] n
    rw [h2] at hv
    obtain ⟨y, hy, hvy⟩ := List.mem_flatten.1 hv
    rw [(List.mem_replicate.1 hy).2] at hvy
    simp only [List.mem_cons, List.not_mem_nil, or_false] at hvy
    rcases hvy with rfl | rfl | rfl | rfl | rfl | rfl <;> rfl
  obtain ⟨row2, hrow2⟩ : ∃ row2 : Array Value, row2 = (row1.toList.take (k * 6) ++ zs ++ row1.toList.drop (k * 6 + zs.length)).toArray := ⟨_, rfl⟩
  have hcl : ∀ ty, (Builtin.clear_ #[25] ty #[.slice (some ⟨b, k * 6, none⟩) (L - k) (cap - k)]).run Try.prog W1 = .ok (.tuple #[]) (W1.setRow b row2) := fun ty => by
    have hst := run_storeCells_at Try.prog b (k * 6) 45 zs 0 row1 W1 hO1.row (by rw [hzl, hr1]; omega) hz1
    simp only [Nat.add_zero] at hst
    rw [← hrow2] at hst
    obtain ⟨m, hm⟩ : ∃ m, L - k = m + 1 := ⟨L - k - 1, by omega⟩
    rw [hm] at hzs2 ⊢
    unfold Builtin.clear_
    simp [run_underlying Try.underlying25, Try.zeroValue45, ← hzs2, hst]
  have hfin : row2.size = cap * 6 ∧ row2.toList.take (k * 6) = cur.toList.take (i * 6) ++ news := by
    refine ⟨?_, ?_⟩
    · rw [hrow2]
      simp only [List.size_toArray, List.length_append, List.length_take, List.length_drop, Array.length_toList, hzl, hr1]
      omega
    · rw [hrow2, List.toList_toArray, List.append_assoc, List.take_append_of_le_length (by rw [List.length_take, Array.length_toList, hr1]; omega), List.take_take, Nat.min_self, hrow1, List.toList_toArray, List.take_append_of_le_length (by
        simp only [List.length_append, List.length_take, Array.length_toList, hlen, hcs]; omega), List.take_of_length_le (by
        simp only [List.length_append, List.length_take, Array.length_toList, hlen, hcs]; omega)]
  have hWe : Hid (W1 = w.drew.setRow b row1) := hW1
  have hOe : Hid (RowOnly w W1 b 45 row1) := hO1
  rw [← hW1] at happ
  have happ' : Hid (∀ ty, (Builtin.append_ #[25, 25] ty #[.slice (some ⟨b, 0, none⟩) i cap, .slice (some A) (L - j) (cap - j)]).run Try.prog w.drew = .ok (.slice (some ⟨b, 0, none⟩) k cap) W1) := happ
  have hcl' : Hid (∀ ty, (Builtin.clear_ #[25] ty #[.slice (some ⟨b, k * 6, none⟩) (L - k) (cap - k)]).run Try.prog W1 = .ok (.tuple #[]) (W1.setRow b row2)) := hcl
  have hfin2 : Hid (row2.size = cap * 6 ∧ row2.toList.take (k * 6) = cur.toList.take (i * 6) ++ news) := hfin
  have hiL : i ≤ L := by omega
  have hic : i ≤ cap := by omega
  have hjc : j ≤ cap := by omega
  have hkL : k < L := by omega
  have hkc : k ≤ cap := by omega
  have hij1 : ¬ ((i : Int) = (j : Int)) := by omega
  have hij2 : (i : Int) ≤ (j : Int) := by omega
  have hjL : (j : Int) ≤ (L : Int) := by omega
  rw [← hk]
  clear hW1 hO1 happ hcl hfin hrow1 hrow2 hzs2 hzl hz1 hr1 hcell hnews hlen h1 hrow hcs hk
  have mixed : Try.prog.follows Departure.mixedOrders = true := by kernel_rfl
  go_enter Try.func66, Try.ntmps66
  go_wp2_with fail
  go_region_law_o (refine step_append_row rfl (.tmp 22) (.tmp 25) 25 rfl (.slice (some ⟨b, 0, none⟩) i cap) (.slice (some A) (L - j) (cap - j)) _ _ (by simp [Act.eval, Act.put]) (by simp [Act.eval, Act.put]) (happ'.out _) ?_)
  have hclo := hcl'.out
  all_goals go_wp2
  all_goals go_ret
  all_goals exact ⟨rfl, row2, hOe.out.set, hfin2.out⟩
end Go.Proofs.Ytnehbcbljaghnaa
