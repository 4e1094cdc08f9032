import Derived.Test.YtepfmoaihhonlaaGreatDoorG11
import Derived.Test.YtepfmoaihhonlaaGreatDoorNatAdd
/- Package dynamometerref0: blocks of words. -/
namespace Go.Proofs.YtepfmoaihhonlaaGreatDoor
open Go Go.RowKit Go.Proofs

theorem Tryz.infoI4 : (Tryz.prog.info? 3).map (fun i => (i.zero, i.size, i.bytes)) = some (some (.int .i64 0), 1, 8) := by kernel_rfl
/-- block g holds these words -/
def Blk4 (w : World) (g : Nat) (o : List Nat) : Prop := w.heap[g]? = some (.cells (d4s o).toArray 3 (0, 0))
theorem Blk4.cell {w : World} {g : Nat} {o : List Nat} (h : Blk4 w g o) {i d : Nat} (hi : o[i]? = some d) : w.cell? ⟨g, i, none⟩ = some (.int .i64 d) := by
  rw [cellsAt h]; simp [d4s, hi]
theorem Blk4.frozen {w : World} {g : Nat} {o : List Nat} (h : Blk4 w g o) (i : Nat) : w.frozen? ⟨g, i, none⟩ = false := frozenAt h i
theorem Blk4.set {w : World} {g : Nat} {o : List Nat} (h : Blk4 w g o) (i d : Nat) : Blk4 (w.setCell ⟨g, i, none⟩ (.int .i64 d)) g (o.set i d) := by
  unfold Blk4 at *
  simp only [World.setCell, Array.getElem?_modify, h, if_true, Option.map_some]
  congr 2
  rw [List.setIfInBounds_toArray]
  simp [d4s, List.map_set]
theorem Blk4.of_own {w : World} {base g n : Nat} {o : List Nat} (h : w.ownsRow base 3 1 (.slice (some ⟨g, 0, none⟩) n n) n (d4s o)) : Blk4 w g o ∧ o.length = n := by
  have hl : o.length = n := by have := h.1; simpa [d4s] using this
  rcases h.2 with ⟨hv, _⟩ | ⟨g', cap, cur, hv, hb, hh, h1, h2, h3, h4⟩
  · cases hv
  · simp only [Value.slice.injEq, Option.some.injEq, Addr.mk.injEq] at hv
    obtain ⟨⟨rfl, _⟩, _, rfl⟩ := hv
    refine ⟨?_, hl⟩
    unfold Blk4
    rw [hh]
    have e : cur = (d4s o).toArray := by
      apply Array.toList_inj.1
      rw [← h4, List.take_of_length_le (by simp; omega)]
    rw [e]
theorem Blk4.rd {w : World} {g : Nat} {o : List Nat} (h : Blk4 w g o) : Rd w 0 w.heap.size 1 (some ⟨g, 0, none⟩) o.length (d4s o) :=
  ⟨by simp [d4s], fun _ => ⟨g, 0, rfl, Nat.zero_le _, heap_lt h, fun j u hj => by rw [cellsAt h, Nat.zero_add]; simpa using hj⟩⟩
theorem made_zeros4 (n : Nat) : (madeCells #[Value.int .i64 0] n).toList = d4s (List.replicate n 0) := by
  apply List.ext_getElem
  · simp [madeCells, d4s]
  · intro i h1 h2
    simp [madeCells, d4s, Nat.mod_one]
theorem mem_set4 {o : List Nat} {k d : Nat} (ho : ∀ x ∈ o, x < T4) (hd : d < T4) : ∀ x ∈ o.set k d, x < T4 := by
  intro x hx
  rcases List.mem_or_eq_of_mem_set hx with h | h
  · exact ho x h
  · rw [h]; exact hd

end Go.Proofs.YtepfmoaihhonlaaGreatDoor

/- Package dynamometerref0: Of. -/
namespace Go.Proofs.YtepfmoaihhonlaaGreatDoor
open Go Go.RowKit Go.Proofs

/-- what the loop of Of keeps: the digits so far, and the rest of the number -/
def ROfR (w wr : World) (n m : Nat) (v : Value) : Prop :=
  ∃ o, o.length ≤ 20 ∧ m * 10000 ^ o.length ≤ n ∧ (∀ d ∈ o, d < T4) ∧ val T4 o + T4 ^ o.length * m = n ∧ (m = 0 → o.getLast? ≠ some 0) ∧ wr.ownsRow w.heap.size 3 1 v o.length (d4s o) ∧ Below w.heap.size w wr
theorem rof_step {_w : World} {n m : Nat} {o : List Nat} (hm : 0 < m) (hn : n ≤ 9223372036854775807) (h1 : m * 10000 ^ o.length ≤ n) (h3 : val T4 o + T4 ^ o.length * m = n) :
    (o ++ [m % 10000]).length ≤ 20 ∧ m / 10000 * 10000 ^ (o ++ [m % 10000]).length ≤ n ∧ val T4 (o ++ [m % 10000]) + T4 ^ (o ++ [m % 10000]).length * (m / 10000) = n ∧ (m / 10000 = 0 → (o ++ [m % 10000]).getLast? ≠ some 0) := by
  have hl : o.length ≤ 19 := by
    refine Classical.byContradiction fun hc => ?_
    have : (10000 : Nat) ^ 20 ≤ 10000 ^ o.length := Nat.pow_le_pow_right (by omega) (by omega)
    have h4 : 1 * 10000 ^ o.length ≤ m * 10000 ^ o.length := Nat.mul_le_mul_right _ hm
    omega
  refine ⟨by simp; omega, ?_, ?_, ?_⟩
  · simp only [List.length_append, List.length_singleton, Nat.pow_succ]
    have : m / 10000 * (10000 ^ o.length * 10000) = (m / 10000 * 10000) * 10000 ^ o.length := by rw [Nat.mul_comm (10000 ^ o.length), Nat.mul_assoc]
    rw [this]
    exact Nat.le_trans (Nat.mul_le_mul_right _ (by omega)) h1
  · rw [val_snoc]
    simp only [List.length_append, List.length_singleton, Nat.pow_succ]
    have e : T4 ^ o.length * (m % 10000) + T4 ^ o.length * T4 * (m / 10000) = T4 ^ o.length * m := by
      rw [Nat.mul_assoc, ← Nat.mul_add]; congr 1; unfold T4; omega
    omega
  · intro h
    simp; omega

set_option maxHeartbeats 1000000 in
set_option maxRecDepth 100000 in
theorem rnatOf_any (n : Int) (w : World) (hn : n ≤ 9223372036854775807) : Calls Tryz.prog 97 #[.int .i64 n] w (RNatPost n.toNat w) := by
  obtain ⟨i0, hi0, hz0, hz1, hz2⟩ := info_parts Tryz.infoI4
  by_cases h0 : n ≤ 0
  · have h' : decide (0 < n) = false := by simp; omega
    have HZ := Lib.hid (show n.toNat = 0 by omega)
    go_enter Tryz.func97, Tryz.ntmps97
    go_wp2
    refine wp_loop_rounds 1 ?_
    rw [rounds_succ]
    go_wp2
    go_ret
    exact ⟨none, 0, [], rfl, by rw [HZ.out]; exact rnatr_nil w, Below.refl _ _⟩
  · obtain ⟨N, rfl⟩ := Int.eq_ofNat_of_zero_le (show 0 ≤ n by omega)
    rw [Int.toNat_natCast]
    go_enter Tryz.func97, Tryz.ntmps97
    go_wp2
    go_loopw [0, 3] (fun i v wr => ∃ m : Nat, i = .int .i64 m ∧ m ≤ N ∧ ROfR w wr N m v) (fun i _ _ => (intOf i).toNat)
    case atStart => exact ⟨N, rfl, Nat.le_refl _, [], by simp, by simp, fun _ h => by simp at h, by simp [val], fun _ => by simp, ⟨by simp [d4s], .inl ⟨rfl, rfl⟩⟩, Below.refl _ _⟩
    case round =>
      obtain ⟨m, rfl, hm, o, ho1, ho2, ho3, ho4, ho5, hown, hbw⟩ := hrel
      have HOW := Lib.hid hown
      have HBW := Lib.hid hbw
      have hsz := hbw.size
      have H3 := Lib.hid ho3
      have H4 := Lib.hid ho4
      have H5 := Lib.hid ho5
      have H2 := Lib.hid ho2
      clear ho2 ho3 ho4 ho5 hown hbw
      by_cases hp : 0 < m
      · have t1 : decide ((0 : Int) < ↑m) = true := by simp; omega
        have t2 : decide (0 < m) = true := by simpa using hp
        go_wp2_with (at_builtin; refine wpList_append_own _ rfl (.tmp 6) (.tmp 9) 37 rfl w.heap.size 3 i0 _ 1 8 Tryz.underlying37 hi0 hz0 hz1 hz2 rfl (by decide) _ _ _ rfl (HOW.out.alloc _) ⟨wr.heap.size, 0, none⟩ 1 1 [.int .i64 ((m : Int) % 10000)] rfl rfl (cell_one_new _ _ _) (by simp [Value.oneCell']) ?c3 ?c4 ?c5 ?_)
        case c3 => unfold maxLen; omega
        case c4 => omega
        case c5 => simp; omega
        intro v' w2 hown' hgrow _
        obtain ⟨g1, g2, g3, g4⟩ := rof_step (_w := w) hp (by omega) H2.out H4.out
        have hnew : ROfR w w2 N (m / 10000) v' := by
          refine ⟨o ++ [m % 10000], g1, g2, ?_, g3, g4, ?_, ?_⟩
          · intro d hd
            rcases List.mem_append.1 hd with h | h
            · exact H3.out d h
            · simp at h; subst h; unfold T4; omega
          · simpa [d4s] using hown'
          · exact (HBW.out.alloc hsz _).grown hgrow (by simp; omega) (fun j hj => (ownsRow_block HOW.out hj.symm).1)
        have HN := Lib.hid hnew
        clear hown' hgrow g1 g2 g3 g4 hnew
        go_wp2
        go_roundw
        case rel => exact ⟨m / 10000, by first | rfl | go_num, by omega, HN.out⟩
        case measure => simp [intOf]; omega
      · obtain rfl : m = 0 := by omega
        obtain ⟨A', cap', rfl, hnc, hcm, hA'⟩ := ownsRow_shape HOW.out
        have HF := Lib.hid (show RNatR wr A' cap' o N from ⟨(Rd.of_own HOW.out).more (Nat.zero_le _) (Nat.le_refl _), ⟨H3.out, H5.out rfl⟩, by have := H4.out; simpa using this, hnc, hcm, hA'⟩)
        clear hA'
        go_wp2
        go_ret
        exact ⟨A', cap', o, rfl, HF.out, HBW.out⟩
end Go.Proofs.YtepfmoaihhonlaaGreatDoor

/- Package dynamometerref0: Add. -/
namespace Go.Proofs.YtepfmoaihhonlaaGreatDoor
open Go Go.RowKit Go.Proofs

/-- the digit at a place, 0 behind the end -/
def dig (l : List Nat) (k : Nat) : Nat := (l[k]?).getD 0
theorem dig_lt {l : List Nat} (h : ∀ d ∈ l, d < T4) (k : Nat) : dig l k < 10000 := by
  unfold dig
  cases e : l[k]? with
  | none => simp
  | some d => exact h d (List.mem_of_getElem? e)
theorem val_take_dig (l : List Nat) (k : Nat) : val T4 (l.take (k + 1)) = val T4 (l.take k) + T4 ^ k * dig l k := by
  unfold dig
  cases e : l[k]? with
  | none =>
    have hl : l.length ≤ k := List.getElem?_eq_none_iff.1 e
    rw [List.take_of_length_le hl, List.take_of_length_le (by omega)]; simp
  | some d =>
    have hk := (List.getElem?_eq_some_iff.1 e).1
    rw [take_snoc' e, val_snoc]
    have : (l.take k).length = k := by simp; omega
    rw [this]; simp
theorem dig_none {l : List Nat} {k : Nat} (h : l.length ≤ k) : dig l k = 0 := by unfold dig; rw [List.getElem?_eq_none h]; rfl
theorem dig_some {l : List Nat} {k d : Nat} (h : l[k]? = some d) : dig l k = d := by unfold dig; rw [h]; rfl
theorem dig_last {l : List Nat} (h : Norm T4 l) {k : Nat} (hk : l.length = k + 1) : dig l k ≠ 0 := by
  have h2 := h.2
  rw [List.getLast?_eq_getElem?, hk, Nat.add_sub_cancel] at h2
  unfold dig
  intro e
  cases e2 : l[k]? with
  | none => have := List.getElem?_eq_none_iff.1 e2; omega
  | some d =>
    rw [e2] at e h2
    simp at e
    exact h2 (by rw [e])
/-- what the loop of Add keeps -/
def RAddR (w wr : World) (la lb : List Nat) (k c : Nat) (v : Value) : Prop :=
  ∃ o, o.length = k ∧ (∀ d ∈ o, d < T4) ∧ val T4 o + T4 ^ k * c = val T4 (la.take k) + val T4 (lb.take k) ∧ ((la.length ≤ k ∧ lb.length ≤ k ∧ c = 0) → o.getLast? ≠ some 0) ∧ wr.ownsRow w.heap.size 3 1 v o.length (d4s o) ∧ Below w.heap.size w wr
set_option maxHeartbeats 2000000 in
set_option maxRecDepth 100000 in
theorem rnatAdd_any (A1 A2 : Option Addr) (c1 c2 : Nat) (l1 l2 : List Nat) (x y : Nat) (w : World) (h1 : RNatR w A1 c1 l1 x) (h2 : RNatR w A2 c2 l2 y) (hs : l1.length ≤ 1000000) (hs2 : l2.length ≤ 1000000) :
    Calls Tryz.prog 77 #[.slice A1 l1.length c1, .slice A2 l2.length c2] w (RNatPost (x + y) w) := by
  obtain ⟨i0, hi0, hz0, hz1, hz2⟩ := info_parts Tryz.infoI4
  have HN1 := Lib.hid h1
  have HN2 := Lib.hid h2
  clear h1 h2
  go_enter Tryz.func77, Tryz.ntmps77
  go_wp2
  go_loopw [5, 6, 7] (fun v cy i wr => ∃ k c : Nat, i = .int .i64 k ∧ cy = .int .i64 c ∧ c ≤ 1 ∧ k ≤ l1.length + l2.length + 1 ∧ (k ≤ l1.length + l2.length ∨ c = 0) ∧ RAddR w wr l1 l2 k c v) (fun _ _ i _ => l1.length + l2.length + 2 - (intOf i).toNat)
  case atStart => exact ⟨0, 0, rfl, rfl, by omega, by omega, .inr rfl, [], rfl, fun _ h => by simp at h, by simp [val], fun _ => by simp, ⟨by simp [d4s], .inl ⟨rfl, rfl⟩⟩, Below.refl _ _⟩
  case round =>
    obtain ⟨k, c, rfl, rfl, hc, hk, hkc, o, hol, hod, hval, hlast, hown, hbw⟩ := hrel
    have hsz := hbw.size
    have HOW := Lib.hid hown
    have HBW := Lib.hid hbw
    have HO := Lib.hid hod
    have HV := Lib.hid hval
    have HLA := Lib.hid hlast
    have hd1 := dig_lt HN1.out.norm.1 k
    have hd2 := dig_lt HN2.out.norm.1 k
    clear hod hval hlast hown hbw
    have step : (k < l1.length ∨ k < l2.length ∨ 0 < c) → ∀ v' w2, w2.ownsRow w.heap.size 3 1 v' (k + 1) (d4s o ++ [.int .i64 (((c + dig l1 k + dig l2 k) % 10000 : Nat) : Int)]) → Below w.heap.size w w2 → RAddR w w2 l1 l2 (k + 1) ((c + dig l1 k + dig l2 k) / 10000) v' := by
      intro hor v' w2 hown' hbw2
      refine ⟨o ++ [(c + dig l1 k + dig l2 k) % 10000], by simp [hol], ?_, ?_, ?_, ?_, ?_⟩
      · intro d hd
        rcases List.mem_append.1 hd with h | h
        · exact HO.out d h
        · simp at h; subst h; unfold T4; omega
      · rw [val_snoc, val_take_dig, val_take_dig, hol, Nat.pow_succ, Nat.mul_assoc]
        have e : T4 ^ k * ((c + dig l1 k + dig l2 k) % 10000) + T4 ^ k * (T4 * ((c + dig l1 k + dig l2 k) / 10000)) = T4 ^ k * c + T4 ^ k * dig l1 k + T4 ^ k * dig l2 k := by
          rw [← Nat.mul_add, ← Nat.mul_add, ← Nat.mul_add]; congr 1; unfold T4; omega
        have := HV.out
        omega
      · rintro ⟨h1, h2, h3⟩
        simp only [List.getLast?_append, List.getLast?_singleton, Option.some_or, ne_eq, Option.some.injEq]
        intro h4
        have hz : c + dig l1 k + dig l2 k = 0 := by omega
        rcases Nat.lt_or_ge k l1.length with h | h
        · exact dig_last HN1.out.norm (show l1.length = k + 1 by omega) (by omega)
        · rcases Nat.lt_or_ge k l2.length with h' | h'
          · exact dig_last HN2.out.norm (show l2.length = k + 1 by omega) (by omega)
          · omega
      · simpa [d4s, hol] using hown'
      · exact hbw2
    have STEP := Lib.hid step
    clear step
    by_cases hla : k < l1.length
    · have ta : decide (k < l1.length) = true := by simpa using hla
      by_cases hlb : k < l2.length
      · have tb : decide (k < l2.length) = true := by simpa using hlb
        obtain ⟨ba, oa, ua, rfl, hba, hua, qa⟩ := (HN1.out.rd.below HBW.out (Nat.le_refl _)).at1 hla
        obtain ⟨da, hda, rfl⟩ := d4s_get hua
        have ea := dig_some hda
        obtain ⟨bb, ob, ub, rfl, hbb, hub, qb⟩ := (HN2.out.rd.below HBW.out (Nat.le_refl _)).at1 hlb
        obtain ⟨db, hdb, rfl⟩ := d4s_get hub
        have eb := dig_some hdb
        rw [ea] at hd1
        rw [eb] at hd2
        have HSP := Lib.hid (STEP.out (by omega))
        rw [ea, eb] at HSP
        clear ea eb hua hda hub hdb
        go_wp2_with (at_builtin; refine wpList_append_own _ rfl (.tmp 44) (.tmp 47) 37 rfl w.heap.size 3 i0 _ 1 8 Tryz.underlying37 hi0 hz0 hz1 hz2 rfl (by decide) _ _ _ rfl (HOW.out.alloc _) ⟨wr.heap.size, 0, none⟩ 1 1 [.int .i64 (((c : Int) + da + db) % 10000)] rfl rfl (cell_one_new _ _ _) (by simp [Value.oneCell']) ?c3a ?c4a ?c5a ?_)
        case c3a => unfold maxLen; omega
        case c4a => omega
        case c5a => simp; omega
        intro v' w2 hown' hgrow _
        have HN := Lib.hid (HSP.out v' w2 (by have e : (((c + da + db) % 10000 : Nat) : Int) = ((c : Int) + da + db) % 10000 := by omega
                                              rw [e, hol] at *; exact hown') ((HBW.out.alloc hsz _).grown hgrow (by simp; omega) (fun j hj => (ownsRow_block HOW.out hj.symm).1)))
        clear hown' hgrow
        go_wp2
        go_roundw
        case rel => exact ⟨k + 1, (c + da + db) / 10000, by go_num, by first | rfl | go_num | (simp; done), by omega, by omega, by omega, HN.out⟩
        case measure => simp [intOf]; omega
      · have tb : decide (k < l2.length) = false := by simpa using hlb
        obtain ⟨ba, oa, ua, rfl, hba, hua, qa⟩ := (HN1.out.rd.below HBW.out (Nat.le_refl _)).at1 hla
        obtain ⟨da, hda, rfl⟩ := d4s_get hua
        have ea := dig_some hda
        have eb := dig_none (l := l2) (k := k) (by omega)
        rw [ea] at hd1
        rw [eb] at hd2
        have HSP := Lib.hid (STEP.out (by omega))
        rw [ea, eb] at HSP
        clear ea eb hua hda
        go_wp2_with (at_builtin; refine wpList_append_own _ rfl (.tmp 44) (.tmp 47) 37 rfl w.heap.size 3 i0 _ 1 8 Tryz.underlying37 hi0 hz0 hz1 hz2 rfl (by decide) _ _ _ rfl (HOW.out.alloc _) ⟨wr.heap.size, 0, none⟩ 1 1 [.int .i64 (((c : Int) + da) % 10000)] rfl rfl (cell_one_new _ _ _) (by simp [Value.oneCell']) ?c3b ?c4b ?c5b ?_)
        case c3b => unfold maxLen; omega
        case c4b => omega
        case c5b => simp; omega
        intro v' w2 hown' hgrow _
        have HN := Lib.hid (HSP.out v' w2 (by have e : (((c + da + 0) % 10000 : Nat) : Int) = ((c : Int) + da) % 10000 := by omega
                                              rw [e, hol] at *; exact hown') ((HBW.out.alloc hsz _).grown hgrow (by simp; omega) (fun j hj => (ownsRow_block HOW.out hj.symm).1)))
        clear hown' hgrow
        go_wp2
        go_roundw
        case rel => exact ⟨k + 1, (c + da + 0) / 10000, by go_num, by first | rfl | go_num | (simp; done), by omega, by omega, by omega, HN.out⟩
        case measure => simp [intOf]; omega
    · have ta : decide (k < l1.length) = false := by simpa using hla
      by_cases hlb : k < l2.length
      · have tb : decide (k < l2.length) = true := by simpa using hlb
        have ea := dig_none (l := l1) (k := k) (by omega)
        obtain ⟨bb, ob, ub, rfl, hbb, hub, qb⟩ := (HN2.out.rd.below HBW.out (Nat.le_refl _)).at1 hlb
        obtain ⟨db, hdb, rfl⟩ := d4s_get hub
        have eb := dig_some hdb
        rw [ea] at hd1
        rw [eb] at hd2
        have HSP := Lib.hid (STEP.out (by omega))
        rw [ea, eb] at HSP
        clear ea eb hub hdb
        go_wp2_with (at_builtin; refine wpList_append_own _ rfl (.tmp 44) (.tmp 47) 37 rfl w.heap.size 3 i0 _ 1 8 Tryz.underlying37 hi0 hz0 hz1 hz2 rfl (by decide) _ _ _ rfl (HOW.out.alloc _) ⟨wr.heap.size, 0, none⟩ 1 1 [.int .i64 (((c : Int) + db) % 10000)] rfl rfl (cell_one_new _ _ _) (by simp [Value.oneCell']) ?c3c ?c4c ?c5c ?_)
        case c3c => unfold maxLen; omega
        case c4c => omega
        case c5c => simp; omega
        intro v' w2 hown' hgrow _
        have HN := Lib.hid (HSP.out v' w2 (by have e : (((c + 0 + db) % 10000 : Nat) : Int) = ((c : Int) + db) % 10000 := by omega
                                              rw [e, hol] at *; exact hown') ((HBW.out.alloc hsz _).grown hgrow (by simp; omega) (fun j hj => (ownsRow_block HOW.out hj.symm).1)))
        clear hown' hgrow
        go_wp2
        go_roundw
        case rel => exact ⟨k + 1, (c + 0 + db) / 10000, by go_num, by first | rfl | go_num | (simp; done), by omega, by omega, by omega, HN.out⟩
        case measure => simp [intOf]; omega
      · have tb : decide (k < l2.length) = false := by simpa using hlb
        by_cases hcp : 0 < c
        · have tc : decide ((0 : Int) < (c : Int)) = true := by simp; omega
          have tc' : decide (0 < c) = true := by simpa using hcp
          have ea := dig_none (l := l1) (k := k) (by omega)
          have eb := dig_none (l := l2) (k := k) (by omega)
          rw [ea] at hd1
          rw [eb] at hd2
          have HSP := Lib.hid (STEP.out (by omega))
          rw [ea, eb] at HSP
          clear ea eb
          go_wp2_with (at_builtin; refine wpList_append_own _ rfl (.tmp 44) (.tmp 47) 37 rfl w.heap.size 3 i0 _ 1 8 Tryz.underlying37 hi0 hz0 hz1 hz2 rfl (by decide) _ _ _ rfl (HOW.out.alloc _) ⟨wr.heap.size, 0, none⟩ 1 1 [.int .i64 (((c : Int)) % 10000)] rfl rfl (cell_one_new _ _ _) (by simp [Value.oneCell']) ?c3d ?c4d ?c5d ?_)
          case c3d => unfold maxLen; omega
          case c4d => omega
          case c5d => simp; omega
          intro v' w2 hown' hgrow _
          have HN := Lib.hid (HSP.out v' w2 (by have e : (((c + 0 + 0) % 10000 : Nat) : Int) = ((c : Int)) % 10000 := by omega
                                                rw [e, hol] at *; exact hown') ((HBW.out.alloc hsz _).grown hgrow (by simp; omega) (fun j hj => (ownsRow_block HOW.out hj.symm).1)))
          clear hown' hgrow
          go_wp2
          go_roundw
          case rel => exact ⟨k + 1, (c + 0 + 0) / 10000, by go_num, by first | rfl | go_num | (simp; done), by omega, by omega, by omega, HN.out⟩
          case measure => simp [intOf]; omega
        · obtain rfl : c = 0 := by omega
          obtain ⟨A', cap', rfl, hnc, hcm, hA'⟩ := ownsRow_shape HOW.out
          have HF := Lib.hid (show RNatR wr A' cap' o (x + y) from ⟨(Rd.of_own HOW.out).more (Nat.zero_le _) (Nat.le_refl _), ⟨HO.out, HLA.out ⟨by omega, by omega, rfl⟩⟩, by have h := HV.out; rw [List.take_of_length_le (by omega), List.take_of_length_le (by omega), HN1.out.val, HN2.out.val] at h; simpa using h, hnc, hcm, hA'⟩)
          clear hA'
          subst hol
          go_wp2
          go_ret
          exact ⟨A', cap', o, rfl, HF.out, HBW.out⟩
end Go.Proofs.YtepfmoaihhonlaaGreatDoor
