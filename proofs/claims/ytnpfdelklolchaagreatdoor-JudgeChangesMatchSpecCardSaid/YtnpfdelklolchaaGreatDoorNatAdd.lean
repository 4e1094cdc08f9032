/- Package nat: Add. -/
import Derived.Test.YtnpfdelklolchaaGreatDoorG3
import Derived.Shelf.Spec.BitsCarry
import Derived.OwnWalk
namespace Go.Proofs.YtnpfdelklolchaaGreatDoor
open Go Go.RowKit Go.Proofs

theorem add64_eq (x y c : Nat) (hx : x < 18446744073709551616) (hy : y < 18446744073709551616) (hc : c ≤ 1) (w : World) :
    (callFunc 77 #[.int .u64 x, .int .u64 y, .int .u64 c]).run Tryz.prog w =
      .ok (.value (.tuple #[.int .u64 (((x + y + c) % 18446744073709551616 : Nat) : Int), .int .u64 (((x + y + c) / 18446744073709551616 : Nat) : Int)])) w := by
  rw [run_callFunc_extern Tryz.func77 (by kernel_rfl) (by kernel_rfl) (by kernel_rfl) (e := add64Entry) (by kernel_rfl), run_add64 x y c (by omega) (by omega) (by omega) (by omega)]
  simp only [Result.andThen]
  congr 5 <;> omega
theorem Tryz.infoU : (Tryz.prog.info? 110).map (fun i => (i.zero, i.size, i.bytes)) = some (some (.int .u64 0), 1, 8) := by kernel_rfl
/-- block g holds these words -/
def Blk (w : World) (g : Nat) (o : List Nat) : Prop := w.heap[g]? = some (.cells (u64s o).toArray 110 (0, 0))
theorem Blk.cell {w : World} {g : Nat} {o : List Nat} (h : Blk w g o) {i d : Nat} (hi : o[i]? = some d) : w.cell? ⟨g, i, none⟩ = some (.int .u64 d) := by
  rw [cellsAt h]; simp [u64s, hi]
theorem Blk.frozen {w : World} {g : Nat} {o : List Nat} (h : Blk w g o) (i : Nat) : w.frozen? ⟨g, i, none⟩ = false := frozenAt h i
theorem Blk.set {w : World} {g : Nat} {o : List Nat} (h : Blk w g o) (i d : Nat) : Blk (w.setCell ⟨g, i, none⟩ (.int .u64 d)) g (o.set i d) := by
  unfold Blk at *
  simp only [World.setCell, Array.getElem?_modify, h, if_true, Option.map_some]
  congr 2
  rw [List.setIfInBounds_toArray]
  simp [u64s, List.map_set]
theorem Blk.of_own {w : World} {base g n : Nat} {o : List Nat} (h : w.ownsRow base 110 1 (.slice (some ⟨g, 0, none⟩) n n) n (u64s o)) : Blk w g o ∧ o.length = n := by
  have hl : o.length = n := by have := h.1; simpa [u64s] using this
  rcases h.2 with ⟨hv, _⟩ | ⟨g', cap, cur, hv, hb, hh, h1, h2, h3, h4⟩
  · cases hv
  · simp only [Value.slice.injEq, Option.some.injEq, Addr.mk.injEq] at hv
    obtain ⟨⟨rfl, _⟩, _, rfl⟩ := hv
    refine ⟨?_, hl⟩
    unfold Blk
    rw [hh]
    have e : cur = (u64s o).toArray := by
      apply Array.toList_inj.1
      rw [← h4, List.take_of_length_le (by simp; omega)]
    rw [e]
theorem Blk.rd {w : World} {g : Nat} {o : List Nat} (h : Blk w g o) : Rd w 0 w.heap.size 1 (some ⟨g, 0, none⟩) o.length (u64s o) :=
  ⟨by simp [u64s], fun _ => ⟨g, 0, rfl, Nat.zero_le _, heap_lt h, fun j u hj => by rw [cellsAt h, Nat.zero_add]; simpa using hj⟩⟩
theorem made_zeros (n : Nat) : (madeCells #[Value.int .u64 0] n).toList = u64s (List.replicate n 0) := by
  apply List.ext_getElem
  · simp [madeCells, u64s]
  · intro i h1 h2
    simp [madeCells, u64s, Nat.mod_one]
theorem take_set_succ {o : List Nat} {k d : Nat} (h : k < o.length) : (o.set k d).take (k + 1) = o.take k ++ [d] := by
  rw [List.take_succ_eq_append_getElem (by simpa using h), List.take_set, List.set_eq_of_length_le (by simp; omega)]
  simp
theorem take_snoc' {l : List Nat} {k d : Nat} (h : l[k]? = some d) : l.take (k + 1) = l.take k ++ [d] := by rw [List.take_add_one, h]; rfl
theorem mem_set {o : List Nat} {k d : Nat} (ho : ∀ x ∈ o, x < W64) (hd : d < W64) : ∀ x ∈ o.set k d, x < W64 := by
  intro x hx
  rcases List.mem_or_eq_of_mem_set hx with h | h
  · exact ho x h
  · rw [h]; exact hd
def AddRel (w wr : World) (g : Nat) (la lb : List Nat) (k c : Nat) : Prop :=
  ∃ o, o.length = la.length + 1 ∧ (∀ d ∈ o, d < W64) ∧ Blk wr g o ∧ val W64 (o.take k) + W64 ^ k * c = val W64 (la.take k) + val W64 (lb.take k) ∧ Below w.heap.size w wr

set_option maxHeartbeats 2000000 in
set_option maxRecDepth 100000 in
theorem natAdd_a (A1 A2 : Option Addr) (c1 c2 : Nat) (l1 l2 : List Nat) (x y : Nat) (w : World) (h1 : NatR w A1 c1 l1 x) (h2 : NatR w A2 c2 l2 y) (hs : l1.length ≤ 1000000) (_hs2 : l2.length ≤ 1000000) (hle : l2.length ≤ l1.length) :
    Calls Tryz.prog 30 #[.slice A1 l1.length c1, .slice A2 l2.length c2] w (NatNew (x + y) w) := by
  obtain ⟨i0, hi0, hz0, hz1, hz2⟩ := info_parts Tryz.infoU
  have HN1 := Lib.hid h1
  have HN2 := Lib.hid h2
  have t0 : decide (l1.length < l2.length) = false := by simp; omega
  clear h1 h2
  go_enter Tryz.func30, Tryz.ntmps30
  go_wp2_with (at_make; refine wpList_make_full _ rfl (.tmp 18) (.tmp 18) 61 rfl w.heap.size 110 i0 _ 1 Tryz.underlying61 hi0 hz0 hz1 .i64 .i64 _ _ (l1.length + 1) rfl rfl ?m1 ?m2 ?m3 ?m4 ?m5 ?_)
  case m1 => omega
  case m2 => omega
  case m3 => rw [hz2]; omega
  case m4 => unfold maxLen; omega
  case m5 => exact Nat.le_refl _
  intro w1 hown hgr
  rw [made_zeros] at hown
  obtain ⟨hblk, _⟩ := Blk.of_own hown
  have hb1 : Below w.heap.size w w1 := (Below.refl _ w).grown hgr (Nat.le_refl _) (fun k hk => by cases hk)
  have hsz1 : w.heap.size < w1.heap.size := heap_lt hblk
  have HBK := Lib.hid hblk
  have HB1 := Lib.hid hb1
  clear hown hgr hblk hb1
  go_wp2
  go_loopw [6, 7, 8, 22] (fun cy _ _ i wr => ∃ (k c : Nat), i = .int .i64 k ∧ cy = .int .u64 c ∧ k ≤ l1.length ∧ c ≤ 1 ∧ AddRel w wr w.heap.size l1 l2 k c) (fun _ _ _ i _ => l1.length - (intOf i).toNat)
  case atStart => exact ⟨0, 0, rfl, rfl, Nat.zero_le _, by omega, List.replicate (l1.length + 1) 0, by simp, fun d hd => by rw [List.eq_of_mem_replicate hd]; unfold W64; omega, HBK.out, by simp [val], HB1.out⟩
  case round =>
    obtain ⟨k, c, rfl, rfl, hk, hc, o, hol, hod, hblk, hval, hbw⟩ := hrel
    have hgl := heap_lt hblk
    have HO := Lib.hid hod
    have HOL := Lib.hid hol
    have HV := Lib.hid hval
    have HBW := Lib.hid hbw
    have HBL := Lib.hid hblk
    clear hod hol hval
    by_cases hlt : k < l1.length
    · obtain ⟨ba, oa, ua, rfl, hba, hua, qa⟩ := (HN1.out.rd.below hbw (Nat.le_refl _)).at1 hlt
      obtain ⟨da, hda, rfl⟩ := u64s_get hua
      have hdaW : da < 18446744073709551616 := HN1.out.norm.1 da (List.mem_of_getElem? hda)
      have HDA := Lib.hid hda
      have hko : k < o.length := by have := HOL.out; omega
      obtain ⟨od, hod⟩ : ∃ od, o[k]? = some od := ⟨o[k], List.getElem?_eq_getElem hko⟩
      have q0 := hblk.cell hod
      have z0 := hblk.frozen k
      clear hua hda hod hblk hbw
      have hki : (k : Int) < (l1.length : Int) + 1 := by omega
      have step : ∀ yb : Nat, yb < 18446744073709551616 → l2.take (k + 1) = l2.take k ++ (if k < l2.length then [yb] else []) → (k < l2.length ∨ yb = 0) → AddRel w (wr.setCell ⟨w.heap.size, k, none⟩ (.int .u64 (((da + yb + c) % 18446744073709551616 : Nat) : Int))) w.heap.size l1 l2 (k + 1) ((da + yb + c) / 18446744073709551616) := by
        intro yb hyb htk hor
        refine ⟨o.set k ((da + yb + c) % 18446744073709551616), by simp [HOL.out], mem_set HO.out (by unfold W64; omega), HBL.out.set k _, ?_, HBW.out.setCell (Nat.le_refl _) _⟩
        rw [take_set_succ hko, take_snoc' HDA.out, val_snoc, val_snoc, htk]
        have e1 : (o.take k).length = k := by simp; omega
        have e2 : (l1.take k).length = k := by simp; omega
        rw [e1, e2]
        have hv := HV.out
        have e3 : (da + yb + c) % 18446744073709551616 + W64 * ((da + yb + c) / 18446744073709551616) = da + yb + c := by unfold W64; omega
        have e4 : W64 ^ k * ((da + yb + c) % 18446744073709551616) + W64 ^ (k + 1) * ((da + yb + c) / 18446744073709551616) = W64 ^ k * (da + yb + c) := by
          rw [Nat.pow_succ, Nat.mul_assoc, ← Nat.mul_add, e3]
        have e5 : val W64 (l2.take k ++ (if k < l2.length then [yb] else [])) = val W64 (l2.take k) + W64 ^ k * yb := by
          rcases Nat.lt_or_ge k l2.length with h | h
          · rw [if_pos h, val_snoc]
            have : (l2.take k).length = k := by simp; omega
            rw [this]
          · rw [if_neg (by omega), List.append_nil]
            have : yb = 0 := by omega
            rw [this]; simp
        rw [e5]
        rw [Nat.mul_add, Nat.mul_add] at e4
        omega
      have STEP := Lib.hid step
      clear step
      by_cases hlb : k < l2.length
      · have t1 : decide (k < l2.length) = true := by simpa using hlb
        obtain ⟨bb, ob, ub, rfl, hbb, hub, qb⟩ := (HN2.out.rd.below HBW.out (Nat.le_refl _)).at1 hlb
        obtain ⟨db, hdb, rfl⟩ := u64s_get hub
        have hdbW : db < 18446744073709551616 := HN2.out.norm.1 db (List.mem_of_getElem? hdb)
        have HS := Lib.hid (STEP.out db hdbW (by rw [take_snoc' hdb, if_pos hlb]) (.inl hlb))
        have hadd := fun W => add64_eq da db c hdaW hdbW hc W
        have hc2 : (da + db + c) / 18446744073709551616 ≤ 1 := by omega
        clear hub hdb
        go_wp2
        go_roundw
        case rel => exact ⟨k + 1, _, by go_num, rfl, by omega, hc2, HS.out⟩
        case measure => simp [intOf]; omega
      · have t1 : decide (k < l2.length) = false := by simpa using hlb
        have HS := Lib.hid (STEP.out 0 (by omega) (by rw [if_neg hlb, List.append_nil, List.take_of_length_le (by omega), List.take_of_length_le (by omega)]) (.inr rfl))
        have hadd : ∀ W, (callFunc 77 #[.int .u64 da, .int .u64 0, .int .u64 c]).run Tryz.prog W = .ok (.value (.tuple #[.int .u64 (((da + 0 + c) % 18446744073709551616 : Nat) : Int), .int .u64 (((da + 0 + c) / 18446744073709551616 : Nat) : Int)])) W := fun W => add64_eq da 0 c hdaW (by omega) hc W
        have hc2 : (da + 0 + c) / 18446744073709551616 ≤ 1 := by omega
        go_wp2
        go_roundw
        case rel => exact ⟨k + 1, _, by go_num, rfl, by omega, hc2, HS.out⟩
        case measure => simp [intOf]; omega
    · obtain rfl : k = l1.length := by omega
      have hko : l1.length < o.length := by have := HOL.out; omega
      obtain ⟨od, hod⟩ : ∃ od, o[l1.length]? = some od := ⟨o[l1.length], List.getElem?_eq_getElem hko⟩
      have q0 := hblk.cell hod
      have z0 := hblk.frozen l1.length
      have hset := HBL.out.set l1.length c
      have hl' : (o.set l1.length c).length = l1.length + 1 := by simp [HOL.out]
      have hd' := mem_set (k := l1.length) (d := c) HO.out (by unfold W64; omega)
      have hrd := hset.rd
      have HCUT := Lib.hid (cut_any (some ⟨w.heap.size, 0, none⟩) (l1.length + 1) (o.set l1.length c) _ hrd (by omega) (by unfold maxLen; omega) (fun h => by cases h))
      have hnr := natr_cut (c := l1.length + 1) hrd hd' (by omega) (by unfold maxLen; omega) (fun h => by cases h)
      have hval : val W64 (o.set l1.length c) = x + y := by
        have e1 := take_set_succ (d := c) hko
        rw [List.take_of_length_le (by rw [hl']; exact Nat.le_refl _)] at e1
        rw [e1, val_snoc]
        have e2 : (o.take l1.length).length = l1.length := by simp; omega
        rw [e2, HV.out, List.take_length, List.take_of_length_le (by omega)]
        have := HN1.out.val
        have := HN2.out.val
        omega
      rw [hval] at hnr
      rw [hl'] at HCUT
      have HNR := Lib.hid hnr
      have HBE := Lib.hid (HBW.out.setCell (p := ⟨w.heap.size, l1.length, none⟩) (Nat.le_refl _) (.int .u64 c))
      clear hod hblk hbw hset hl' hd' hrd hnr hval
      go_wp2_with fail
      refine HCUT.out.mono ?_
      rintro e w' ⟨rfl, rfl⟩
      go_wp2
      go_ret
      exact ⟨_, _, _, rfl, HNR.out, HBE.out, fun b o h => by cases h; exact Nat.le_refl _⟩

set_option maxHeartbeats 2000000 in
set_option maxRecDepth 100000 in
theorem natAdd_b (A1 A2 : Option Addr) (c1 c2 : Nat) (l1 l2 : List Nat) (x y : Nat) (w : World) (h1 : NatR w A1 c1 l1 x) (h2 : NatR w A2 c2 l2 y) (hs : l1.length ≤ 1000000) (hs2 : l2.length ≤ 1000000) (hle : l1.length < l2.length) :
    Calls Tryz.prog 30 #[.slice A1 l1.length c1, .slice A2 l2.length c2] w (NatNew (x + y) w) := by
  obtain ⟨i0, hi0, hz0, hz1, hz2⟩ := info_parts Tryz.infoU
  have HN1 := Lib.hid h1
  have HN2 := Lib.hid h2
  have t0 : decide (l1.length < l2.length) = true := by simp; omega
  clear h1 h2
  go_enter Tryz.func30, Tryz.ntmps30
  go_wp2_with (at_make; refine wpList_make_full _ rfl (.tmp 18) (.tmp 18) 61 rfl w.heap.size 110 i0 _ 1 Tryz.underlying61 hi0 hz0 hz1 .i64 .i64 _ _ (l2.length + 1) rfl rfl ?m1 ?m2 ?m3 ?m4 ?m5 ?_)
  case m1 => omega
  case m2 => omega
  case m3 => rw [hz2]; omega
  case m4 => unfold maxLen; omega
  case m5 => exact Nat.le_refl _
  intro w1 hown hgr
  rw [made_zeros] at hown
  obtain ⟨hblk, _⟩ := Blk.of_own hown
  have hb1 : Below w.heap.size w w1 := (Below.refl _ w).grown hgr (Nat.le_refl _) (fun k hk => by cases hk)
  have hsz1 : w.heap.size < w1.heap.size := heap_lt hblk
  have HBK := Lib.hid hblk
  have HB1 := Lib.hid hb1
  clear hown hgr hblk hb1
  go_wp2
  go_loopw [6, 7, 8, 22] (fun cy _ _ i wr => ∃ (k c : Nat), i = .int .i64 k ∧ cy = .int .u64 c ∧ k ≤ l2.length ∧ c ≤ 1 ∧ AddRel w wr w.heap.size l2 l1 k c) (fun _ _ _ i _ => l2.length - (intOf i).toNat)
  case atStart => exact ⟨0, 0, rfl, rfl, Nat.zero_le _, by omega, List.replicate (l2.length + 1) 0, by simp, fun d hd => by rw [List.eq_of_mem_replicate hd]; unfold W64; omega, HBK.out, by simp [val], HB1.out⟩
  case round =>
    obtain ⟨k, c, rfl, rfl, hk, hc, o, hol, hod, hblk, hval, hbw⟩ := hrel
    have hgl := heap_lt hblk
    have HO := Lib.hid hod
    have HOL := Lib.hid hol
    have HV := Lib.hid hval
    have HBW := Lib.hid hbw
    have HBL := Lib.hid hblk
    clear hod hol hval
    by_cases hlt : k < l2.length
    · obtain ⟨ba, oa, ua, rfl, hba, hua, qa⟩ := (HN2.out.rd.below hbw (Nat.le_refl _)).at1 hlt
      obtain ⟨da, hda, rfl⟩ := u64s_get hua
      have hdaW : da < 18446744073709551616 := HN2.out.norm.1 da (List.mem_of_getElem? hda)
      have HDA := Lib.hid hda
      have hko : k < o.length := by have := HOL.out; omega
      obtain ⟨od, hod⟩ : ∃ od, o[k]? = some od := ⟨o[k], List.getElem?_eq_getElem hko⟩
      have q0 := hblk.cell hod
      have z0 := hblk.frozen k
      clear hua hda hod hblk hbw
      have hki : (k : Int) < (l2.length : Int) + 1 := by omega
      have step : ∀ yb : Nat, yb < 18446744073709551616 → l1.take (k + 1) = l1.take k ++ (if k < l1.length then [yb] else []) → (k < l1.length ∨ yb = 0) → AddRel w (wr.setCell ⟨w.heap.size, k, none⟩ (.int .u64 (((da + yb + c) % 18446744073709551616 : Nat) : Int))) w.heap.size l2 l1 (k + 1) ((da + yb + c) / 18446744073709551616) := by
        intro yb hyb htk hor
        refine ⟨o.set k ((da + yb + c) % 18446744073709551616), by simp [HOL.out], mem_set HO.out (by unfold W64; omega), HBL.out.set k _, ?_, HBW.out.setCell (Nat.le_refl _) _⟩
        rw [take_set_succ hko, take_snoc' HDA.out, val_snoc, val_snoc, htk]
        have e1 : (o.take k).length = k := by simp; omega
        have e2 : (l2.take k).length = k := by simp; omega
        rw [e1, e2]
        have hv := HV.out
        have e3 : (da + yb + c) % 18446744073709551616 + W64 * ((da + yb + c) / 18446744073709551616) = da + yb + c := by unfold W64; omega
        have e4 : W64 ^ k * ((da + yb + c) % 18446744073709551616) + W64 ^ (k + 1) * ((da + yb + c) / 18446744073709551616) = W64 ^ k * (da + yb + c) := by
          rw [Nat.pow_succ, Nat.mul_assoc, ← Nat.mul_add, e3]
        have e5 : val W64 (l1.take k ++ (if k < l1.length then [yb] else [])) = val W64 (l1.take k) + W64 ^ k * yb := by
          rcases Nat.lt_or_ge k l1.length with h | h
          · rw [if_pos h, val_snoc]
            have : (l1.take k).length = k := by simp; omega
            rw [this]
          · rw [if_neg (by omega), List.append_nil]
            have : yb = 0 := by omega
            rw [this]; simp
        rw [e5]
        rw [Nat.mul_add, Nat.mul_add] at e4
        omega
      have STEP := Lib.hid step
      clear step
      by_cases hlb : k < l1.length
      · have t1 : decide (k < l1.length) = true := by simpa using hlb
        obtain ⟨bb, ob, ub, rfl, hbb, hub, qb⟩ := (HN1.out.rd.below HBW.out (Nat.le_refl _)).at1 hlb
        obtain ⟨db, hdb, rfl⟩ := u64s_get hub
        have hdbW : db < 18446744073709551616 := HN1.out.norm.1 db (List.mem_of_getElem? hdb)
        have HS := Lib.hid (STEP.out db hdbW (by rw [take_snoc' hdb, if_pos hlb]) (.inl hlb))
        have hadd := fun W => add64_eq da db c hdaW hdbW hc W
        have hc2 : (da + db + c) / 18446744073709551616 ≤ 1 := by omega
        clear hub hdb
        go_wp2
        go_roundw
        case rel => exact ⟨k + 1, _, by go_num, rfl, by omega, hc2, HS.out⟩
        case measure => simp [intOf]; omega
      · have t1 : decide (k < l1.length) = false := by simpa using hlb
        have HS := Lib.hid (STEP.out 0 (by omega) (by rw [if_neg hlb, List.append_nil, List.take_of_length_le (by omega), List.take_of_length_le (by omega)]) (.inr rfl))
        have hadd : ∀ W, (callFunc 77 #[.int .u64 da, .int .u64 0, .int .u64 c]).run Tryz.prog W = .ok (.value (.tuple #[.int .u64 (((da + 0 + c) % 18446744073709551616 : Nat) : Int), .int .u64 (((da + 0 + c) / 18446744073709551616 : Nat) : Int)])) W := fun W => add64_eq da 0 c hdaW (by omega) hc W
        have hc2 : (da + 0 + c) / 18446744073709551616 ≤ 1 := by omega
        go_wp2
        go_roundw
        case rel => exact ⟨k + 1, _, by go_num, rfl, by omega, hc2, HS.out⟩
        case measure => simp [intOf]; omega
    · obtain rfl : k = l2.length := by omega
      have hko : l2.length < o.length := by have := HOL.out; omega
      obtain ⟨od, hod⟩ : ∃ od, o[l2.length]? = some od := ⟨o[l2.length], List.getElem?_eq_getElem hko⟩
      have q0 := hblk.cell hod
      have z0 := hblk.frozen l2.length
      have hset := HBL.out.set l2.length c
      have hl' : (o.set l2.length c).length = l2.length + 1 := by simp [HOL.out]
      have hd' := mem_set (k := l2.length) (d := c) HO.out (by unfold W64; omega)
      have hrd := hset.rd
      have HCUT := Lib.hid (cut_any (some ⟨w.heap.size, 0, none⟩) (l2.length + 1) (o.set l2.length c) _ hrd (by omega) (by unfold maxLen; omega) (fun h => by cases h))
      have hnr := natr_cut (c := l2.length + 1) hrd hd' (by omega) (by unfold maxLen; omega) (fun h => by cases h)
      have hval : val W64 (o.set l2.length c) = x + y := by
        have e1 := take_set_succ (d := c) hko
        rw [List.take_of_length_le (by rw [hl']; exact Nat.le_refl _)] at e1
        rw [e1, val_snoc]
        have e2 : (o.take l2.length).length = l2.length := by simp; omega
        rw [e2, HV.out, List.take_length, List.take_of_length_le (by omega)]
        have := HN2.out.val
        have := HN1.out.val
        omega
      rw [hval] at hnr
      rw [hl'] at HCUT
      have HNR := Lib.hid hnr
      have HBE := Lib.hid (HBW.out.setCell (p := ⟨w.heap.size, l2.length, none⟩) (Nat.le_refl _) (.int .u64 c))
      clear hod hblk hbw hset hl' hd' hrd hnr hval
      go_wp2_with fail
      refine HCUT.out.mono ?_
      rintro e w' ⟨rfl, rfl⟩
      go_wp2
      go_ret
      exact ⟨_, _, _, rfl, HNR.out, HBE.out, fun b o h => by cases h; exact Nat.le_refl _⟩

theorem natAddN_any (A1 A2 : Option Addr) (c1 c2 : Nat) (l1 l2 : List Nat) (x y : Nat) (w : World) (h1 : NatR w A1 c1 l1 x) (h2 : NatR w A2 c2 l2 y) (hs : l1.length ≤ 1000000) (hs2 : l2.length ≤ 1000000) :
    Calls Tryz.prog 30 #[.slice A1 l1.length c1, .slice A2 l2.length c2] w (NatNew (x + y) w) := by
  by_cases hle : l1.length < l2.length
  · exact natAdd_b A1 A2 c1 c2 l1 l2 x y w h1 h2 hs hs2 hle
  · exact natAdd_a A1 A2 c1 c2 l1 l2 x y w h1 h2 hs hs2 (by omega)
theorem natAdd_any (A1 A2 : Option Addr) (c1 c2 : Nat) (l1 l2 : List Nat) (x y : Nat) (w : World) (h1 : NatR w A1 c1 l1 x) (h2 : NatR w A2 c2 l2 y) (hs : l1.length ≤ 1000000) (hs2 : l2.length ≤ 1000000) :
    Calls Tryz.prog 30 #[.slice A1 l1.length c1, .slice A2 l2.length c2] w (NatPost (x + y) w) :=
  (natAddN_any A1 A2 c1 c2 l1 l2 x y w h1 h2 hs hs2).mono fun _ _ h => h.post
end Go.Proofs.YtnpfdelklolchaaGreatDoor
