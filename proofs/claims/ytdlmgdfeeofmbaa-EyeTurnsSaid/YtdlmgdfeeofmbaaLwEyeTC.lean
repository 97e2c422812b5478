/- Plain law: eyes: one block turned. -/
import Derived.Test.YtdlmgdfeeofmbaaLwEyeOC
import Derived.Test.YtdlmgdfeeofmbaaLwDiskOC
namespace Go.Proofs.Ytdlmgdfeeofmbaa
open Go GL

theorem dAt_set (ds : List Disk) (m : Nat) (x : Disk) (hm : m < ds.length) (i : Nat) : dAt (ds.set m x) i = if i = m then x else dAt ds i := by
  unfold dAt
  rw [List.getD_eq_getElem?_getD, List.getD_eq_getElem?_getD, List.getElem?_set]
  by_cases h : m = i
  · subst h; rw [if_pos rfl, if_pos hm, if_pos rfl]; rfl
  · rw [if_neg h, if_neg (fun e => h e.symm)]
theorem okA_set {c : Config} {ds : List Disk} (h : OkA c ds) {m : Nat} (hm : m < ds.length) {x : Disk} (hx : MayD x) (hl : x.Blocks.length = (dAt ds m).Blocks.length) : OkA c (ds.set m x) := by
  refine ⟨h.mc, by simp [h.len], h.m, h.s, fun i hi => ?_, fun i hi => ?_⟩
  · rw [dAt_set ds m x hm]
    split
    · exact hx
    · exact h.may i (by simpa using hi)
  · rw [dAt_set ds m x hm]
    split
    · rename_i he; subst he; rw [hl]; exact h.want i (by simpa using hi)
    · exact h.want i (by simpa using hi)
theorem dead_set {c : Config} {ds : List Disk} {m : Nat} (hm : m < ds.length) {x : Disk} (hd : x.Dead = (dAt ds m).Dead) : deadA c (ds.set m x) = deadA c ds := by
  unfold deadA
  rw [Bool.eq_iff_iff, List.any_eq_true, List.any_eq_true]
  have key : ∀ i, (dAt (ds.set m x) i).Dead = (dAt ds i).Dead := fun i => by
    rw [dAt_set ds m x hm]
    split
    · rename_i he; rw [hd, he]
    · rfl
  simp only [key]
theorem even_set {c : Config} {ds : List Disk} {m : Nat} (hm : m < ds.length) {x : Disk} (hd : x.Dead = (dAt ds m).Dead) {s : Nat} (hs : m < mN c → liesD x (s + 1) = liesD (dAt ds m) (s + 1)) : evenA c (ds.set m x) s = evenA c ds s := by
  unfold evenA
  rw [dead_set hm hd]
  have : colA c (ds.set m x) s = colA c ds s := by
    unfold colA
    refine List.map_congr_left (fun i hi => ?_)
    rw [dAt_set ds m x hm]
    split
    · rename_i he; subst he; exact hs (List.mem_range.1 hi)
    · rfl
  rw [this]
theorem odd_set {c : Config} {ds : List Disk} (h : OkA c ds) {m : Nat} (hm : m < ds.length) {x : Disk} (hx : MayD x) (hl : x.Blocks.length = (dAt ds m).Blocks.length) (hd : x.Dead = (dAt ds m).Dead)
    (hs : ∀ s, s < sN c → m < mN c → liesD x (s + 1) = liesD (dAt ds m) (s + 1)) : oddR c (ds.set m x) = oddR c ds := by
  unfold oddR
  rw [(okA_iff c ds).2 h, (okA_iff c _).2 (okA_set h hm hx hl)]
  simp only [Bool.not_true, cond_false]
  unfold oddL
  have : ((List.range (sN c)).filter fun s => !evenA c (ds.set m x) s) = (List.range (sN c)).filter fun s => !evenA c ds s := by
    refine List.filter_congr (fun s hs' => ?_)
    rw [even_set hm hd (hs s (List.mem_range.1 hs'))]
  rw [this]
theorem with_eq {ds : List Disk} (hl : ds.length ≤ 100000) {m : Nat} (hm : m < ds.length) (at_ : Int) (data : List UInt8) : law22_with ds (m : Int) at_ data =
    some (ds.set m (bif (errD (dAt ds m) at_ data != 0) then noD else pfuaD (dAt ds m) at_.toNat data), errD (dAt ds m) at_ data == 0) := by
  unfold law22_with
  rw [app_some _ _ (by simp; omega)]
  simp only [Option.bind_some, List.nil_append]
  rw [idx_nat, dAt_get hm, bnd_nat hm]
  simp only [Option.bind_some, pfua_eq]
  cases h : (errD (dAt ds m) at_ data != 0) with
  | true => simp only [cond_true]
  | false =>
    have : errD (dAt ds m) at_ data = 0 := by simpa using h
    simp only [cond_false, this]
theorem fua_lies_same (d : Disk) (k : Nat) (data : List UInt8) (hk : k < d.Blocks.length) : liesD (pfuaD d k data) k = fullB data := by
  unfold liesD pfuaD
  rw [List.getD_eq_getElem?_getD, List.getElem?_set]
  simp [hk, fullB_full]

def dropS (s : Int) (l : List Int) : List Int := l.filter fun x => x != s
theorem others1_eq (l m : List Int) (s : Int) (hl : l.length < 1000000) (hm : m.length < 1000000) : law22_others l m s = some (decide (dropS s l = dropS s m)) := by
  unfold law22_others
  have h1 := loop_run (step := fun q : (List Int) × Int => law22_others_L1 l s q.1 q.2) (fun k => (dropS s (l.take k), (k : Int))) l.length (dropS s l) (fuel_ltD (by omega)) (fun k hk => by
    unfold law22_others_L1 law22_others_J2
    simp only
    rw [decide_eq_true (by omega), idx_nat, List.getElem?_eq_getElem hk]
    simp only [cond_true, Option.bind_some]
    rw [wI_succ (by omega), take_succ_get _ _ _ (List.getElem?_eq_getElem hk)]
    unfold dropS
    rw [List.filter_append]
    have hfl := List.length_filter_le (fun x => x != s) (l.take k)
    simp at hfl
    cases hx : (l[k] != s) with
    | true =>
      simp only [cond_true]
      rw [app_some _ _ (by simp; omega)]
      simp [hx]
    | false => simp [hx]) (by
    unfold law22_others_L1
    simp only
    rw [decide_eq_false (by omega), List.take_length]; rfl)
  have h2 := loop_run (step := fun q : (List Int) × Int => law22_others_L3 m s q.1 q.2) (fun k => (dropS s (m.take k), (k : Int))) m.length (dropS s m) (fuel_ltD (by omega)) (fun k hk => by
    unfold law22_others_L3 law22_others_J4
    simp only
    rw [decide_eq_true (by omega), idx_nat, List.getElem?_eq_getElem hk]
    simp only [cond_true, Option.bind_some]
    rw [wI_succ (by omega), take_succ_get _ _ _ (List.getElem?_eq_getElem hk)]
    unfold dropS
    rw [List.filter_append]
    have hfl := List.length_filter_le (fun x => x != s) (m.take k)
    simp at hfl
    cases hx : (m[k] != s) with
    | true =>
      simp only [cond_true]
      rw [app_some _ _ (by simp; omega)]
      simp [hx]
    | false => simp [hx]) (by
    unfold law22_others_L3
    simp only
    rw [decide_eq_false (by omega), List.take_length]; rfl)
  have e1 : (([] : List Int), (0 : Int)) = (fun k : Nat => (dropS s (l.take k), (k : Int))) 0 := by simp [dropS]
  have e2 : (([] : List Int), (0 : Int)) = (fun k : Nat => (dropS s (m.take k), (k : Int))) 0 := by simp [dropS]
  rw [show loopM (fun q : (List Int) × Int => law22_others_L1 l s q.1 q.2) FUEL (([] : List Int), (0 : Int)) = some (dropS s l) by rw [e1]; exact h1]
  simp only [Option.bind_some]
  rw [show loopM (fun q : (List Int) × Int => law22_others_L3 m s q.1 q.2) FUEL (([] : List Int), (0 : Int)) = some (dropS s m) by rw [e2]; exact h2]
  simp only [Option.bind_some]
  have hfl := List.length_filter_le (fun x => x != s) l
  rw [ints_eq _ _ (by unfold dropS; omega)]; rfl
theorem oddL_small (c : Config) (ds : List Disk) (h : OkA c ds) : (oddL c ds).length < 1000000 := by
  have := List.length_filter_le (fun s => !evenA c ds s) (List.range (sN c))
  have hs := h.s
  simp [oddL] at this ⊢
  omega

theorem turn_last {c : Config} {ds : List Disk} (h : OkA c ds) (hda : deadA c ds = false) {k j : Nat} (hk : k < sN c) (hj : j < mN c) (data : List UInt8) (hl : ds.length ≤ 100000) :
    law22_EyeTurns_J1 c ds (k : Int) (j : Int) data true (evenA c ds k, 0) (oddL c ds, 0) = some true := by
  obtain ⟨m1, m2, m3⟩ := h.m
  have hlen := h.len
  have hsn := h.s
  have hjd : j < ds.length := by omega
  have hmay := h.may j hjd
  have hnd := nodead_get hda hj
  have hmem := h.mem hj hk
  unfold law22_EyeTurns_J1
  rw [idx_nat, dAt_get hjd]
  simp only [Option.bind_some]
  rw [wI_one (by omega), last_of hmay hnd hmem, with_eq hl hjd]
  simp only [Option.bind_some, bne_self_eq_false, Bool.false_or]
  cases he : (errD (dAt ds j) ((k + 1 : Nat) : Int) data != 0) with
  | true => rw [show (errD (dAt ds j) ((k + 1 : Nat) : Int) data == 0) = false by simpa [bne] using he]; rfl
  | false =>
  rw [show (errD (dAt ds j) ((k + 1 : Nat) : Int) data == 0) = true by simpa [bne] using he]
  obtain ⟨_, _, hsz, _⟩ := errD_ok (by simpa using he)
  simp only [Bool.not_true, cond_false, Int.toNat_natCast]
  have hfm : MayD (pfuaD (dAt ds j) (k + 1) data) := fua_may hmay hnd hsz
  have hfl : (pfuaD (dAt ds j) (k + 1) data).Blocks.length = (dAt ds j).Blocks.length := by simp [pfuaD]
  have hfd : (pfuaD (dAt ds j) (k + 1) data).Dead = (dAt ds j).Dead := rfl
  have hok' := okA_set h hjd hfm hfl
  have hda' : deadA c (ds.set j (pfuaD (dAt ds j) (k + 1) data)) = false := by rw [dead_set hjd hfd]; exact hda
  have hdj : dAt (ds.set j (pfuaD (dAt ds j) (k + 1) data)) j = pfuaD (dAt ds j) (k + 1) data := by rw [dAt_set ds j _ hjd, if_pos rfl]
  rw [idx_nat, dAt_get (by simpa using hjd), hdj]
  simp only [Option.bind_some]
  rw [last_of hfm (by rw [hfd]; exact hnd) (by rw [hfl]; exact hmem), fua_lies_same _ _ _ hmem]
  simp only [Option.bind_some, peven_eq, podd_eqL]
  have hev : evenR c (ds.set j (pfuaD (dAt ds j) (k + 1) data)) (k : Int) = (evenA c (ds.set j (pfuaD (dAt ds j) (k + 1) data)) k, 0) := by
    unfold evenR
    rw [(okA_iff c _).2 hok', show (decide ((k : Int) < 0) || decide ((k : Int) ≥ (sN c : Int))) = false by simp; omega]; rfl
  have hod : oddR c (ds.set j (pfuaD (dAt ds j) (k + 1) data)) = (oddL c (ds.set j (pfuaD (dAt ds j) (k + 1) data)), 0) := by
    unfold oddR
    rw [(okA_iff c _).2 hok']; rfl
  rw [hev, hod]
  simp only [bne_self_eq_false, Bool.false_or, beqL]
  have hjc : j < (colA c ds k).length := by rw [col_len]; exact hj
  have hcol : (colA c ds k)[j] = liesD (dAt ds j) (k + 1) := by simp [colA]
  have hjl : (colA c ds k)[j].length = 128 := by rw [hcol]; exact lies_szB hmay hmem
  have hjc' : j < (colA c (ds.set j (pfuaD (dAt ds j) (k + 1) data)) k).length := by rw [col_len]; exact hj
  have hcol' : (colA c (ds.set j (pfuaD (dAt ds j) (k + 1) data)) k)[j] = fullB data := by
    simp only [colA, List.getElem_map, List.getElem_range]
    rw [hdj, fua_lies_same _ _ _ hmem]
  have hjl' : (colA c (ds.set j (pfuaD (dAt ds j) (k + 1) data)) k)[j].length = 128 := by rw [hcol']; exact fullB_len hsz
  have hset : colA c (ds.set j (pfuaD (dAt ds j) (k + 1) data)) k = (colA c ds k).set j (fullB data) := by
    apply List.ext_getElem
    · simp [colA]
    · intro i h1 h2
      rw [List.getElem_set]
      by_cases he : j = i
      · subst he; rw [if_pos rfl]; exact hcol'
      · rw [if_neg he]
        simp only [colA, List.getElem_map, List.getElem_range]
        rw [dAt_set ds j _ hjd, if_neg (fun e => he e.symm)]
  have hoth : (colA c (ds.set j (pfuaD (dAt ds j) (k + 1) data)) k).take j ++ (colA c (ds.set j (pfuaD (dAt ds j) (k + 1) data)) k).drop (j + 1) = (colA c ds k).take j ++ (colA c ds k).drop (j + 1) := by
    rw [hset, List.take_set_of_le (Nat.le_refl _), List.drop_set_of_lt (by omega)]
  have hst : (evenA c ds k && (evenA c (ds.set j (pfuaD (dAt ds j) (k + 1) data)) k != decide (fullB data = liesD (dAt ds j) (k + 1)))) = false := by
    cases hE : evenA c ds k with
    | false => rfl
    | true =>
      unfold evenA at hE ⊢
      rw [hda, Bool.false_or, zero_iff_others _ (col_ok h hk) j hjc hjl, decide_eq_true_iff, hcol] at hE
      rw [hda', Bool.false_or, zero_iff_others _ (col_ok hok' hk) j hjc' hjl', hcol', hoth, hE]
      simp only [Bool.true_and]
      rw [show decide (liesD (dAt ds j) (k + 1) = fullB data) = decide (fullB data = liesD (dAt ds j) (k + 1)) from decide_eq_decide.2 eq_comm]
      simp
  rw [hst]
  simp only [cond_false, gO, cond_true]
  rw [others1_eq _ _ _ (oddL_small c ds h) (oddL_small c _ hok')]
  simp only [Option.bind_some, Bool.true_and]
  rw [decide_eq_true]
  unfold dropS oddL
  rw [List.filter_map, List.filter_map, List.filter_filter, List.filter_filter]
  congr 1
  refine List.filter_congr (fun s hs => ?_)
  by_cases he : s = k
  · subst he; simp
  · rw [even_set hjd hfd (fun _ => fua_lies _ _ _ _ (by omega))]

theorem odd_step (c : Config) (ds ds' : List Disk) (ok : Bool) {R : Option Bool} (hs : ok = true → oddR c ds' = (oddL c ds, 0)) (hl : (oddL c ds).length < 1000000) :
    Option.bind (bif (ok && !((oddR c ds').2 != 0)) then (ref22_SameInts (oddR c ds').1 (oddL c ds)) else some default) (fun x => bif ok && ((oddR c ds').2 != 0 || !x) then some false else R) = R := by
  cases ok with
  | false => simp
  | true =>
    rw [hs rfl]
    simp only [bne_self_eq_false, Bool.not_false, Bool.and_true, cond_true]
    rw [ints_eq _ _ (by omega)]
    simp
theorem writeD_ok {d : Disk} {at_ : Int} {data : List UInt8} (h : (writeD d at_ data).2 = 0) : (writeD d at_ data).1 = putD d at_ data ∧ szB data = true ∧ ¬ 1024 ≤ d.Wait.length := by
  unfold writeD at h ⊢
  cases he : (errD d at_ data != 0) with
  | true => rw [he] at h; simp at he h; exact absurd h he
  | false =>
    rw [he] at h
    obtain ⟨_, _, hsz, _⟩ := errD_ok (by simpa using he)
    cases hw : decide (1024 ≤ d.Wait.length) with
    | true => rw [hw] at h; simp at h
    | false => exact ⟨rfl, hsz, by simpa using hw⟩
theorem eyeturns_true (c : Config) (ds : List Disk) (s m : Int) (data : List UInt8) (at_ : Int) : law22_EyeTurns c ds s m data at_ = some true := by
  unfold law22_EyeTurns
  obtain ⟨g, hg, hs⟩ := agreat_eq ds
  rw [ealive_true, hg]
  simp only [Option.bind_some, Bool.not_true, Bool.or_false]
  cases hgl : (g || decide (((data.length : Nat) : Int) > 1000)) with
  | true => rfl
  | false =>
  rw [Bool.or_eq_false_iff] at hgl
  obtain ⟨hl, hsm⟩ := hs hgl.1
  simp only [cond_false, peven_eq, podd_eqL, Option.bind_some]
  cases he : ((evenR c ds s).2 != 0) with
  | true => simp [gO]
  | false =>
  obtain ⟨h, k, rfl, hk, hev⟩ := evenR_ok (by simpa using he)
  obtain ⟨m1, m2, m3⟩ := h.m
  have hlen := h.len
  have hsn := h.s
  have hod : oddR c ds = (oddL c ds, 0) := by unfold oddR; rw [(okA_iff c ds).2 h]; rfl
  rw [hev, hod, whole_eq22 h]
  simp only [bne_self_eq_false, Bool.or_self, Bool.not_false, gO, cond_true, Option.bind_some, Bool.false_or, Bool.not_not]
  by_cases hm : 0 ≤ m ∧ m < c.Members
  case neg =>
    have : ((deadA c ds || decide (m < 0)) || decide (m ≥ c.Members)) = true := by simp; omega
    rw [this]; rfl
  cases hda : deadA c ds with
  | true => rfl
  | false =>
  have : ((false || decide (m < 0)) || decide (m ≥ c.Members)) = false := by simp; omega
  rw [this]
  obtain ⟨j, rfl⟩ : ∃ j : Nat, m = (j : Int) := ⟨m.toNat, by omega⟩
  have hj : j < mN c := by omega
  have hjd : j < ds.length := by omega
  have hmay := h.may j hjd
  have hnd := nodead_get hda hj
  have hmem := h.mem hj hk
  have hl' : ds.length ≤ 100000 := by omega
  simp only [cond_false]
  rw [with_eq hl' hjd]
  simp only [Option.bind_some]
  have hA : (errD (dAt ds j) 0 data == 0) = true → oddR c (ds.set j (bif (errD (dAt ds j) 0 data != 0) then noD else pfuaD (dAt ds j) (Int.toNat 0) data)) = (oddL c ds, 0) := fun hz => by
    have hz' : errD (dAt ds j) 0 data = 0 := by simpa using hz
    obtain ⟨_, _, hsz, _⟩ := errD_ok hz'
    rw [show (errD (dAt ds j) 0 data != 0) = false by simp [hz']]
    simp only [cond_false, Int.toNat_zero]
    rw [odd_set h hjd (fua_may hmay hnd hsz) (by simp [pfuaD]) rfl (fun t _ _ => fua_lies _ 0 _ _ (by omega)), hod]
  rw [odd_step _ _ _ _ hA (oddL_small c ds h)]
  rw [app_some _ _ (by simp; omega)]
  simp only [Option.bind_some, List.nil_append]
  rw [idx_nat, dAt_get hjd]
  simp only [Option.bind_some]
  rw [wI_one (by omega), pwrite_eq, bnd_nat hjd]
  simp only [Option.bind_some]
  have hB : ((writeD (dAt ds j) ((k + 1 : Nat) : Int) data).2 == 0) = true → oddR c (ds.set j (writeD (dAt ds j) ((k + 1 : Nat) : Int) data).1) = (oddL c ds, 0) := fun hz => by
    have hz' : (writeD (dAt ds j) ((k + 1 : Nat) : Int) data).2 = 0 := by simpa using hz
    obtain ⟨e, hsz, hmx⟩ := writeD_ok hz'
    rw [e, odd_set h hjd (put_may hmay hnd hsz hmem hmx) (by rfl) (by rfl) (fun t _ _ => rfl), hod]
  rw [odd_step _ _ _ _ hB (oddL_small c ds h)]
  have hMd : mN c < ds.length := by omega
  have eM : c.Members = ((mN c : Nat) : Int) := by omega
  have hmM := h.may _ hMd
  rw [eM, idx_nat, dAt_get hMd]
  have last : (law22_EyeTurns_J1 c ds (k : Int) (j : Int) data true (evenA c ds k, 0) (oddL c ds, 0)) = some true := turn_last h hda hk hj data hl'
  cases ha : decide (at_ ≥ 0) with
  | false => simpa using last
  | true =>
  simp only [cond_true, Option.bind_some, Bool.true_and]
  cases hb : decide (at_ < (((dAt ds (mN c)).Blocks.length : Nat) : Int)) with
  | false => simpa using last
  | true =>
  simp only [cond_true, Option.bind_some, Bool.true_and]
  cases hd : (dAt ds (mN c)).Dead with
  | true => exact last
  | false =>
  simp only [Bool.not_false, cond_true]
  rw [with_eq hl' hMd]
  simp only [Option.bind_some]
  have hC : (errD (dAt ds (mN c)) at_ data == 0) = true → oddR c (ds.set (mN c) (bif (errD (dAt ds (mN c)) at_ data != 0) then noD else pfuaD (dAt ds (mN c)) at_.toNat data)) = (oddL c ds, 0) := fun hz => by
    have hz' : errD (dAt ds (mN c)) at_ data = 0 := by simpa using hz
    obtain ⟨_, _, hsz, _⟩ := errD_ok hz'
    rw [show (errD (dAt ds (mN c)) at_ data != 0) = false by simp [hz']]
    simp only [cond_false]
    rw [odd_set h hMd (fua_may hmM hd hsz) (by simp [pfuaD]) rfl (fun t _ hlt => absurd hlt (Nat.lt_irrefl _)), hod]
  rw [odd_step _ _ _ _ hC (oddL_small c ds h)]
  exact last
end Go.Proofs.Ytdlmgdfeeofmbaa
