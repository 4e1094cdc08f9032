import Derived.Test.YtnpfdelklolchaaGreatDoorG12
import Derived.Test.YtnpfdelklolchaaGreatDoorG6
/- Package dynamometerref0: Add. -/
namespace Go.Proofs.YtnpfdelklolchaaGreatDoor
open Go Go.RowKit Go.Proofs

/-- the digit at a place, 0 behind the end -/
def dig (l : List Nat) (k : Nat) : Nat := (l[k]?).getD 0
theorem dig_lt {l : List Nat} (h : ∀ d ∈ l, d < T4) (k : Nat) : dig l k < 10000 := by
  unfold dig
  cases e : l[k]? with
  | none => simp
  | some d => exact h d (List.mem_of_getElem? e)
theorem val_take_dig (l : List Nat) (k : Nat) : val T4 (l.take (k + 1)) = val T4 (l.take k) + T4 ^ k * dig l k := by
  unfold dig
  cases e : l[k]? with
  | none =>
    have hl : l.length ≤ k := List.getElem?_eq_none_iff.1 e
    rw [List.take_of_length_le hl, List.take_of_length_le (by omega)]; simp
  | some d =>
    have hk := (List.getElem?_eq_some_iff.1 e).1
    rw [take_snoc' e, val_snoc]
    have : (l.take k).length = k := by simp; omega
    rw [this]; simp
theorem dig_none {l : List Nat} {k : Nat} (h : l.length ≤ k) : dig l k = 0 := by unfold dig; rw [List.getElem?_eq_none h]; rfl
theorem dig_some {l : List Nat} {k d : Nat} (h : l[k]? = some d) : dig l k = d := by unfold dig; rw [h]; rfl
theorem dig_last {l : List Nat} (h : Norm T4 l) {k : Nat} (hk : l.length = k + 1) : dig l k ≠ 0 := by
  have h2 := h.2
  rw [List.getLast?_eq_getElem?, hk, Nat.add_sub_cancel] at h2
  unfold dig
  intro e
  cases e2 : l[k]? with
  | none => have := List.getElem?_eq_none_iff.1 e2; omega
  | some d =>
    rw [e2] at e h2
    simp at e
    exact h2 (by rw [e])
/-- what the loop of Add keeps -/
def RAddR (w wr : World) (la lb : List Nat) (k c : Nat) (v : Value) : Prop :=
  ∃ o, o.length = k ∧ (∀ d ∈ o, d < T4) ∧ val T4 o + T4 ^ k * c = val T4 (la.take k) + val T4 (lb.take k) ∧ ((la.length ≤ k ∧ lb.length ≤ k ∧ c = 0) → o.getLast? ≠ some 0) ∧ wr.ownsRow w.heap.size 3 1 v o.length (d4s o) ∧ Below w.heap.size w wr
set_option maxHeartbeats 2000000 in
set_option maxRecDepth 100000 in
theorem rnatAddN_any (A1 A2 : Option Addr) (c1 c2 : Nat) (l1 l2 : List Nat) (x y : Nat) (w : World) (h1 : RNatR w A1 c1 l1 x) (h2 : RNatR w A2 c2 l2 y) (hs : l1.length ≤ 1000000) (hs2 : l2.length ≤ 1000000) :
    Calls Tryz.prog 49 #[.slice A1 l1.length c1, .slice A2 l2.length c2] w (RNatNew (x + y) w) := by
  obtain ⟨i0, hi0, hz0, hz1, hz2⟩ := info_parts Tryz.infoI4
  have HN1 := Lib.hid h1
  have HN2 := Lib.hid h2
  clear h1 h2
  go_enter Tryz.func49, Tryz.ntmps49
  go_wp2
  go_loopw [5, 6, 7] (fun v cy i wr => ∃ k c : Nat, i = .int .i64 k ∧ cy = .int .i64 c ∧ c ≤ 1 ∧ k ≤ l1.length + l2.length + 1 ∧ (k ≤ l1.length + l2.length ∨ c = 0) ∧ RAddR w wr l1 l2 k c v) (fun _ _ i _ => l1.length + l2.length + 2 - (intOf i).toNat)
  case atStart => exact ⟨0, 0, rfl, rfl, by omega, by omega, .inr rfl, [], rfl, fun _ h => by simp at h, by simp [val], fun _ => by simp, ⟨by simp [d4s], .inl ⟨rfl, rfl⟩⟩, Below.refl _ _⟩
  case round =>
    obtain ⟨k, c, rfl, rfl, hc, hk, hkc, o, hol, hod, hval, hlast, hown, hbw⟩ := hrel
    have hsz := hbw.size
    have HOW := Lib.hid hown
    have HBW := Lib.hid hbw
    have HO := Lib.hid hod
    have HV := Lib.hid hval
    have HLA := Lib.hid hlast
    have hd1 := dig_lt HN1.out.norm.1 k
    have hd2 := dig_lt HN2.out.norm.1 k
    clear hod hval hlast hown hbw
    have step : (k < l1.length ∨ k < l2.length ∨ 0 < c) → ∀ v' w2, w2.ownsRow w.heap.size 3 1 v' (k + 1) (d4s o ++ [.int .i64 (((c + dig l1 k + dig l2 k) % 10000 : Nat) : Int)]) → Below w.heap.size w w2 → RAddR w w2 l1 l2 (k + 1) ((c + dig l1 k + dig l2 k) / 10000) v' := by
      intro hor v' w2 hown' hbw2
      refine ⟨o ++ [(c + dig l1 k + dig l2 k) % 10000], by simp [hol], ?_, ?_, ?_, ?_, ?_⟩
      · intro d hd
        rcases List.mem_append.1 hd with h | h
        · exact HO.out d h
        · simp at h; subst h; unfold T4; omega
      · rw [val_snoc, val_take_dig, val_take_dig, hol, Nat.pow_succ, Nat.mul_assoc]
        have e : T4 ^ k * ((c + dig l1 k + dig l2 k) % 10000) + T4 ^ k * (T4 * ((c + dig l1 k + dig l2 k) / 10000)) = T4 ^ k * c + T4 ^ k * dig l1 k + T4 ^ k * dig l2 k := by
          rw [← Nat.mul_add, ← Nat.mul_add, ← Nat.mul_add]; congr 1; unfold T4; omega
        have := HV.out
        omega
      · rintro ⟨h1, h2, h3⟩
        simp only [List.getLast?_append, List.getLast?_singleton, Option.some_or, ne_eq, Option.some.injEq]
        intro h4
        have hz : c + dig l1 k + dig l2 k = 0 := by omega
        rcases Nat.lt_or_ge k l1.length with h | h
        · exact dig_last HN1.out.norm (show l1.length = k + 1 by omega) (by omega)
        · rcases Nat.lt_or_ge k l2.length with h' | h'
          · exact dig_last HN2.out.norm (show l2.length = k + 1 by omega) (by omega)
          · omega
      · simpa [d4s, hol] using hown'
      · exact hbw2
    have STEP := Lib.hid step
    clear step
    by_cases hla : k < l1.length
    · have ta : decide (k < l1.length) = true := by simpa using hla
      by_cases hlb : k < l2.length
      · have tb : decide (k < l2.length) = true := by simpa using hlb
        obtain ⟨ba, oa, ua, rfl, hba, hua, qa⟩ := (HN1.out.rd.below HBW.out (Nat.le_refl _)).at1 hla
        obtain ⟨da, hda, rfl⟩ := d4s_get hua
        have ea := dig_some hda
        obtain ⟨bb, ob, ub, rfl, hbb, hub, qb⟩ := (HN2.out.rd.below HBW.out (Nat.le_refl _)).at1 hlb
        obtain ⟨db, hdb, rfl⟩ := d4s_get hub
        have eb := dig_some hdb
        rw [ea] at hd1
        rw [eb] at hd2
        have HSP := Lib.hid (STEP.out (by omega))
        rw [ea, eb] at HSP
        clear ea eb hua hda hub hdb
        go_wp2_with (at_builtin; refine wpList_append_own _ rfl (.tmp 44) (.tmp 47) 29 rfl w.heap.size 3 i0 _ 1 8 Tryz.underlying29 hi0 hz0 hz1 hz2 rfl (by decide) _ _ _ rfl (HOW.out.alloc _) ⟨wr.heap.size, 0, none⟩ 1 1 [.int .i64 (((c : Int) + da + db) % 10000)] rfl rfl (cell_one_new _ _ _) (by simp [Value.oneCell']) ?c3a ?c4a ?c5a ?_)
        case c3a => unfold maxLen; omega
        case c4a => omega
        case c5a => simp; omega
        intro v' w2 hown' hgrow _
        have HN := Lib.hid (HSP.out v' w2 (by have e : (((c + da + db) % 10000 : Nat) : Int) = ((c : Int) + da + db) % 10000 := by omega
                                              rw [e, hol] at *; exact hown') ((HBW.out.alloc hsz _).grown hgrow (by simp; omega) (fun j hj => (ownsRow_block HOW.out hj.symm).1)))
        clear hown' hgrow
        go_wp2
        go_roundw
        case rel => exact ⟨k + 1, (c + da + db) / 10000, by go_num, by first | rfl | go_num | (simp; done), by omega, by omega, by omega, HN.out⟩
        case measure => simp [intOf]; omega
      · have tb : decide (k < l2.length) = false := by simpa using hlb
        obtain ⟨ba, oa, ua, rfl, hba, hua, qa⟩ := (HN1.out.rd.below HBW.out (Nat.le_refl _)).at1 hla
        obtain ⟨da, hda, rfl⟩ := d4s_get hua
        have ea := dig_some hda
        have eb := dig_none (l := l2) (k := k) (by omega)
        rw [ea] at hd1
        rw [eb] at hd2
        have HSP := Lib.hid (STEP.out (by omega))
        rw [ea, eb] at HSP
        clear ea eb hua hda
        go_wp2_with (at_builtin; refine wpList_append_own _ rfl (.tmp 44) (.tmp 47) 29 rfl w.heap.size 3 i0 _ 1 8 Tryz.underlying29 hi0 hz0 hz1 hz2 rfl (by decide) _ _ _ rfl (HOW.out.alloc _) ⟨wr.heap.size, 0, none⟩ 1 1 [.int .i64 (((c : Int) + da) % 10000)] rfl rfl (cell_one_new _ _ _) (by simp [Value.oneCell']) ?c3b ?c4b ?c5b ?_)
        case c3b => unfold maxLen; omega
        case c4b => omega
        case c5b => simp; omega
        intro v' w2 hown' hgrow _
        have HN := Lib.hid (HSP.out v' w2 (by have e : (((c + da + 0) % 10000 : Nat) : Int) = ((c : Int) + da) % 10000 := by omega
                                              rw [e, hol] at *; exact hown') ((HBW.out.alloc hsz _).grown hgrow (by simp; omega) (fun j hj => (ownsRow_block HOW.out hj.symm).1)))
        clear hown' hgrow
        go_wp2
        go_roundw
        case rel => exact ⟨k + 1, (c + da + 0) / 10000, by go_num, by first | rfl | go_num | (simp; done), by omega, by omega, by omega, HN.out⟩
        case measure => simp [intOf]; omega
    · have ta : decide (k < l1.length) = false := by simpa using hla
      by_cases hlb : k < l2.length
      · have tb : decide (k < l2.length) = true := by simpa using hlb
        have ea := dig_none (l := l1) (k := k) (by omega)
        obtain ⟨bb, ob, ub, rfl, hbb, hub, qb⟩ := (HN2.out.rd.below HBW.out (Nat.le_refl _)).at1 hlb
        obtain ⟨db, hdb, rfl⟩ := d4s_get hub
        have eb := dig_some hdb
        rw [ea] at hd1
        rw [eb] at hd2
        have HSP := Lib.hid (STEP.out (by omega))
        rw [ea, eb] at HSP
        clear ea eb hub hdb
        go_wp2_with (at_builtin; refine wpList_append_own _ rfl (.tmp 44) (.tmp 47) 29 rfl w.heap.size 3 i0 _ 1 8 Tryz.underlying29 hi0 hz0 hz1 hz2 rfl (by decide) _ _ _ rfl (HOW.out.alloc _) ⟨wr.heap.size, 0, none⟩ 1 1 [.int .i64 (((c : Int) + db) % 10000)] rfl rfl (cell_one_new _ _ _) (by simp [Value.oneCell']) ?c3c ?c4c ?c5c ?_)
        case c3c => unfold maxLen; omega
        case c4c => omega
        case c5c => simp; omega
        intro v' w2 hown' hgrow _
        have HN := Lib.hid (HSP.out v' w2 (by have e : (((c + 0 + db) % 10000 : Nat) : Int) = ((c : Int) + db) % 10000 := by omega
                                              rw [e, hol] at *; exact hown') ((HBW.out.alloc hsz _).grown hgrow (by simp; omega) (fun j hj => (ownsRow_block HOW.out hj.symm).1)))
        clear hown' hgrow
        go_wp2
        go_roundw
        case rel => exact ⟨k + 1, (c + 0 + db) / 10000, by go_num, by first | rfl | go_num | (simp; done), by omega, by omega, by omega, HN.out⟩
        case measure => simp [intOf]; omega
      · have tb : decide (k < l2.length) = false := by simpa using hlb
        by_cases hcp : 0 < c
        · have tc : decide ((0 : Int) < (c : Int)) = true := by simp; omega
          have tc' : decide (0 < c) = true := by simpa using hcp
          have ea := dig_none (l := l1) (k := k) (by omega)
          have eb := dig_none (l := l2) (k := k) (by omega)
          rw [ea] at hd1
          rw [eb] at hd2
          have HSP := Lib.hid (STEP.out (by omega))
          rw [ea, eb] at HSP
          clear ea eb
          go_wp2_with (at_builtin; refine wpList_append_own _ rfl (.tmp 44) (.tmp 47) 29 rfl w.heap.size 3 i0 _ 1 8 Tryz.underlying29 hi0 hz0 hz1 hz2 rfl (by decide) _ _ _ rfl (HOW.out.alloc _) ⟨wr.heap.size, 0, none⟩ 1 1 [.int .i64 (((c : Int)) % 10000)] rfl rfl (cell_one_new _ _ _) (by simp [Value.oneCell']) ?c3d ?c4d ?c5d ?_)
          case c3d => unfold maxLen; omega
          case c4d => omega
          case c5d => simp; omega
          intro v' w2 hown' hgrow _
          have HN := Lib.hid (HSP.out v' w2 (by have e : (((c + 0 + 0) % 10000 : Nat) : Int) = ((c : Int)) % 10000 := by omega
                                                rw [e, hol] at *; exact hown') ((HBW.out.alloc hsz _).grown hgrow (by simp; omega) (fun j hj => (ownsRow_block HOW.out hj.symm).1)))
          clear hown' hgrow
          go_wp2
          go_roundw
          case rel => exact ⟨k + 1, (c + 0 + 0) / 10000, by go_num, by first | rfl | go_num | (simp; done), by omega, by omega, by omega, HN.out⟩
          case measure => simp [intOf]; omega
        · obtain rfl : c = 0 := by omega
          obtain ⟨A', cap', rfl, hnc, hcm, hA'⟩ := ownsRow_shape HOW.out
          have HF := Lib.hid (show RNatR wr A' cap' o (x + y) from ⟨(Rd.of_own HOW.out).more (Nat.zero_le _) (Nat.le_refl _), ⟨HO.out, HLA.out ⟨by omega, by omega, rfl⟩⟩, by have h := HV.out; rw [List.take_of_length_le (by omega), List.take_of_length_le (by omega), HN1.out.val, HN2.out.val] at h; simpa using h, hnc, hcm, hA'⟩)
          clear hA'
          subst hol
          go_wp2
          go_ret
          exact ⟨A', cap', o, rfl, HF.out, HBW.out, fun b q e => (ownsRow_block HOW.out (i := b) (by rw [e]; rfl)).1⟩
theorem rnatAdd_any (A1 A2 : Option Addr) (c1 c2 : Nat) (l1 l2 : List Nat) (x y : Nat) (w : World) (h1 : RNatR w A1 c1 l1 x) (h2 : RNatR w A2 c2 l2 y) (hs : l1.length ≤ 1000000) (hs2 : l2.length ≤ 1000000) :
    Calls Tryz.prog 49 #[.slice A1 l1.length c1, .slice A2 l2.length c2] w (RNatPost (x + y) w) :=
  (rnatAddN_any A1 A2 c1 c2 l1 l2 x y w h1 h2 hs hs2).mono fun _ _ h => h.post
end Go.Proofs.YtnpfdelklolchaaGreatDoor

/- Package dynamometerref0: Mul. -/
namespace Go.Proofs.YtnpfdelklolchaaGreatDoor
open Go Go.RowKit Go.Proofs

/-- what the inner loop keeps: o0 is what was there when the row began -/
def RMulIn (w wr : World) (g : Nat) (o0 lb : List Nat) (i x k c : Nat) : Prop :=
  ∃ o, o.length = o0.length ∧ (∀ d ∈ o, d < T4) ∧ Blk4 wr g o ∧ (∀ j, i + k ≤ j → o[j]? = o0[j]?) ∧ val T4 (o.take (i + k)) + T4 ^ (i + k) * c = val T4 (o0.take (i + k)) + T4 ^ i * (x * val T4 (lb.take k)) ∧ Below w.heap.size w wr
/-- what the outer loop keeps -/
def RMulOut (w wr : World) (g : Nat) (la lb : List Nat) (i : Nat) : Prop :=
  ∃ o, o.length = la.length + lb.length ∧ (∀ d ∈ o, d < T4) ∧ Blk4 wr g o ∧ (∀ j, i + lb.length ≤ j → j < o.length → o[j]? = some 0) ∧ val T4 o = val T4 (la.take i) * val T4 lb ∧ Below w.heap.size w wr
theorem mul4_le {x y : Nat} (hx : x < 10000) (hy : y < 10000) : x * y ≤ 99980001 := by
  have := Nat.mul_le_mul (show x ≤ 9999 by omega) (show y ≤ 9999 by omega)
  omega

set_option maxHeartbeats 4000000 in
set_option maxRecDepth 100000 in
theorem rnatMul_any (A1 A2 : Option Addr) (c1 c2 : Nat) (l1 l2 : List Nat) (x y : Nat) (w : World) (h1 : RNatR w A1 c1 l1 x) (h2 : RNatR w A2 c2 l2 y) (hs : l1.length ≤ 1000000) (hs2 : l2.length ≤ 1000000) :
    Calls Tryz.prog 46 #[.slice A1 l1.length c1, .slice A2 l2.length c2] w (RNatPost (x * y) w) := by
  obtain ⟨i0, hi0, hz0, hz1, hz2⟩ := info_parts Tryz.infoI4
  have HN1 := Lib.hid h1
  have HN2 := Lib.hid h2
  clear h1 h2
  go_enter Tryz.func46, Tryz.ntmps46
  go_wp2_with (at_make; refine wpList_make_full _ rfl (.tmp 14) (.tmp 14) 29 rfl w.heap.size 3 i0 _ 1 Tryz.underlying29 hi0 hz0 hz1 .i64 .i64 _ _ (l1.length + l2.length) rfl rfl ?m1 ?m2 ?m3 ?m4 ?m5 ?_)
  case m1 => omega
  case m2 => omega
  case m3 => rw [hz2]; omega
  case m4 => unfold maxLen; omega
  case m5 => exact Nat.le_refl _
  intro w1 hown hgr
  rw [made_zeros4] at hown
  obtain ⟨hblk, _⟩ := Blk4.of_own hown
  have hb1 : Below w.heap.size w w1 := (Below.refl _ w).grown hgr (Nat.le_refl _) (fun k hk => by cases hk)
  have hsz1 : w.heap.size < w1.heap.size := heap_lt hblk
  have HBK := Lib.hid hblk
  have HB1 := Lib.hid hb1
  clear hown hgr hblk hb1
  go_wp2
  go_loopw [6, 7, 8, 9] (fun i _ _ _ wr => ∃ k : Nat, i = .int .i64 k ∧ k ≤ l1.length ∧ RMulOut w wr w.heap.size l1 l2 k) (fun i _ _ _ _ => l1.length - (intOf i).toNat)
  case atStart => exact ⟨0, rfl, Nat.zero_le _, List.replicate (l1.length + l2.length) 0, by simp, fun d hd => by rw [List.eq_of_mem_replicate hd]; unfold T4; omega, HBK.out, fun j _ hj => by rw [List.getElem?_replicate]; simp at hj; simp; omega, by
    simp only [List.take_zero, val, Nat.zero_mul]
    exact val_zeros fun d hd => List.eq_of_mem_replicate hd, HB1.out⟩
  case round =>
    obtain ⟨i, rfl, hi, o0, hol, hod, hblk, hzero, hval, hbw⟩ := hrel
    have HO := Lib.hid hod
    have HOL := Lib.hid hol
    have HV := Lib.hid hval
    have HBW := Lib.hid hbw
    have HBL := Lib.hid hblk
    have HZ := Lib.hid hzero
    have hgl := heap_lt hblk
    clear hod hol hval hzero
    by_cases hlt : i < l1.length
    · obtain ⟨xd, hxd⟩ : ∃ xd, l1[i]? = some xd := ⟨l1[i], List.getElem?_eq_getElem hlt⟩
      have hxW : xd < 10000 := HN1.out.norm.1 xd (List.mem_of_getElem? hxd)
      have HXD := Lib.hid hxd
      obtain ⟨wo, hwo⟩ : ∃ wo : World, wo = wr := ⟨_, rfl⟩
      clear hxd hblk hbw
      go_wp2
      subst hwo
      go_loopw [7, 8, 9] (fun cy j _ wr => ∃ (k c : Nat), j = .int .i64 k ∧ cy = .int .i64 c ∧ k ≤ l2.length + 1 ∧ (k ≤ l2.length ∨ c = 0) ∧ c < 10000 ∧ RMulIn w wr w.heap.size o0 l2 i xd k c) (fun _ j _ _ => l2.length + 1 - (intOf j).toNat)
      case atStart => exact ⟨0, 0, rfl, rfl, Nat.zero_le _, .inr rfl, by omega, o0, rfl, HO.out, HBL.out, fun _ _ => rfl, by simp [val], HBW.out⟩
      case round =>
        obtain ⟨k, c, rfl, rfl, hk, hkc, hc, o, hol2, hod2, hblk2, hsame, hval2, hbw2⟩ := hrel
        have hgl2 := heap_lt hblk2
        have HO2 := Lib.hid hod2
        have HOL2 := Lib.hid hol2
        have HS2 := Lib.hid hsame
        have HV2 := Lib.hid hval2
        have HBW2 := Lib.hid hbw2
        have HBL2 := Lib.hid hblk2
        have hlen : o.length = l1.length + l2.length := by rw [hol2, HOL.out]
        have HLN := Lib.hid hlen
        clear hod2 hol2 hsame hval2 hlen
        obtain ⟨ba, oa, ua, rfl, hba, hua, qa⟩ := (HN1.out.rd.below hbw2 (Nat.le_refl _)).at1 hlt
        obtain ⟨xd', hxd', rfl⟩ := d4s_get hua
        obtain rfl : xd = xd' := by rw [HXD.out] at hxd'; exact Option.some.inj hxd'
        clear hua hxd'
        have step : i + k < o.length → ∀ od, o[i + k]? = some od → ∀ W, Blk4 W w.heap.size o → Below w.heap.size w W → RMulIn w (W.setCell ⟨w.heap.size, i + k, none⟩ (.int .i64 (((od + c + xd * dig l2 k) % 10000 : Nat) : Int))) w.heap.size o0 l2 i xd (k + 1) ((od + c + xd * dig l2 k) / 10000) := by
          intro hko od hod W hbW hwW
          refine ⟨o.set (i + k) ((od + c + xd * dig l2 k) % 10000), by rw [List.length_set, HOL2.out], mem_set4 HO2.out (by unfold T4; omega), hbW.set (i + k) _, fun j hj => ?_, ?_, hwW.setCell (Nat.le_refl _) _⟩
          · rw [List.getElem?_set_ne (by omega)]; exact HS2.out j (by omega)
          · have e0 : o0[i + k]? = some od := by rw [← HS2.out (i + k) (Nat.le_refl _)]; exact hod
            rw [show i + (k + 1) = (i + k) + 1 by omega, take_set_succ hko, take_snoc' e0, val_snoc, val_snoc, val_take_dig]
            have e1 : (o.take (i + k)).length = i + k := by simp; omega
            have e2 : (o0.take (i + k)).length = i + k := by have := HOL2.out; simp; omega
            rw [e1, e2]
            have hv := HV2.out
            have t1 : T4 ^ (i + k) * ((od + c + xd * dig l2 k) % 10000) + T4 ^ (i + k + 1) * ((od + c + xd * dig l2 k) / 10000) = T4 ^ (i + k) * od + T4 ^ (i + k) * c + T4 ^ (i + k) * (xd * dig l2 k) := by
              rw [Nat.pow_succ, Nat.mul_assoc, ← Nat.mul_add, ← Nat.mul_add, ← Nat.mul_add]; congr 1; unfold T4; omega
            have t3 : T4 ^ i * (xd * (val T4 (l2.take k) + T4 ^ k * dig l2 k)) = T4 ^ i * (xd * val T4 (l2.take k)) + T4 ^ (i + k) * (xd * dig l2 k) := by
              rw [Nat.mul_add, Nat.mul_add, Nat.pow_add]
              congr 1
              rw [Nat.mul_assoc, Nat.mul_left_comm xd]
            rw [t3]
            omega
        have STEP := Lib.hid step
        clear step
        by_cases hlk : k < l2.length
        · have tk : decide (k < l2.length) = true := by simpa using hlk
          obtain ⟨bb, ob, ub, rfl, hbb, hub, qb⟩ := (HN2.out.rd.below hbw2 (Nat.le_refl _)).at1 hlk
          obtain ⟨yd, hyd, rfl⟩ := d4s_get hub
          have hyW : yd < 10000 := HN2.out.norm.1 yd (List.mem_of_getElem? hyd)
          have ey := dig_some hyd
          have hko : i + k < o.length := by have := HLN.out; omega
          obtain ⟨od, hodk⟩ : ∃ od, o[i + k]? = some od := ⟨o[i + k], List.getElem?_eq_getElem hko⟩
          have hodW : od < 10000 := HO2.out od (List.mem_of_getElem? hodk)
          have q0 := hblk2.cell hodk
          have z0 := hblk2.frozen (i + k)
          have HNEW := Lib.hid (STEP.out hko od hodk)
          rw [ey] at HNEW
          have hp := mul4_le hxW hyW
          obtain ⟨p, hpe⟩ : ∃ p, p = xd * yd := ⟨_, rfl⟩
          rw [← hpe] at HNEW hp
          have hpi : (xd : Int) * (yd : Int) = (p : Int) := by rw [hpe]; simp
          have e : (((od + c + p) % 10000 : Nat) : Int) = ((od : Int) + c + p) % 10000 := by omega
          rw [e] at HNEW
          clear hpe e ey hub hyd hodk hblk2 hbw2
          go_wp2_with fail
          go_quiet (fail)
          go_wp2
          go_roundw
          case rel => exact ⟨k + 1, (od + c + p) / 10000, by go_num, by first | rfl | go_num | (simp; done), by omega, by omega, by omega, HNEW.out _ HBL2.out (below_drewN HBW2.out _)⟩
          case measure => simp [intOf]; omega
        · have tk : decide (k < l2.length) = false := by simpa using hlk
          by_cases hcp : 0 < c
          · have tc : decide ((0 : Int) < (c : Int)) = true := by simp; omega
            have tc' : decide (0 < c) = true := by simpa using hcp
            obtain rfl : k = l2.length := by omega
            have hko : i + l2.length < o.length := by have := HLN.out; omega
            have hodk : o[i + l2.length]? = some 0 := by rw [HS2.out _ (Nat.le_refl _)]; exact HZ.out _ (Nat.le_refl _) (by have := HOL2.out; omega)
            have q0 := hblk2.cell hodk
            have z0 := hblk2.frozen (i + l2.length)
            have HNEW := Lib.hid (STEP.out hko 0 hodk)
            rw [dig_none (Nat.le_refl _), Nat.mul_zero, Nat.add_zero, Nat.zero_add] at HNEW
            have e : ((c % 10000 : Nat) : Int) = (c : Int) % 10000 := by omega
            rw [e] at HNEW
            clear e hodk hblk2 hbw2
            go_wp2
            go_roundw
            case rel => exact ⟨l2.length + 1, c / 10000, by go_num, by first | rfl | go_num | (simp; done), by omega, by omega, by omega, HNEW.out _ HBL2.out HBW2.out⟩
            case measure => simp [intOf]
          · have tc : decide ((0 : Int) < (c : Int)) = false := by simp; omega
            have tc' : decide (0 < c) = false := by simpa using hcp
            have HNEW := Lib.hid (show RMulOut w wr w.heap.size l1 l2 (i + 1) from by
              obtain rfl : c = 0 := by omega
              have hv := HV2.out
              have z1 : ∀ j, i + k ≤ j → j < o.length → o[j]? = some 0 := fun j hj hj2 => by
                rw [HS2.out j hj]; exact HZ.out j (by omega) (by have := HOL2.out; omega)
              have z2 : ∀ j, i + k ≤ j → j < o0.length → o0[j]? = some 0 := fun j hj hj2 => HZ.out j (by omega) hj2
              rw [← val_take_zero z1, ← val_take_zero z2, Nat.mul_zero, Nat.add_zero, HV.out, List.take_of_length_le (by omega : l2.length ≤ k)] at hv
              refine ⟨o, HLN.out, HO2.out, HBL2.out, fun j hj hj2 => ?_, ?_, HBW2.out⟩
              · rw [HS2.out j (by omega)]; exact HZ.out j (by omega) (by have := HOL2.out; omega)
              · rw [hv, take_snoc' HXD.out, val_snoc, Nat.add_mul]
                have e2 : (l1.take i).length = i := by simp; omega
                rw [e2, Nat.mul_assoc])
            clear hblk2 hbw2
            go_wp2
            go_roundw
            case rel => exact ⟨i + 1, by go_num, by omega, HNEW.out⟩
            case measure => simp [intOf]; omega
    · obtain rfl : i = l1.length := by omega
      have hrd := hblk.rd
      have hval : val T4 o0 = x * y := by
        have := HV.out
        rwa [List.take_length, HN1.out.val, HN2.out.val] at this
      have hcut := trimmed_any (some ⟨w.heap.size, 0, none⟩) (l1.length + l2.length) o0 wr hrd (by rw [HOL.out]; exact Nat.le_refl _) (by unfold maxLen; omega) (fun h => by cases h)
      rw [HOL.out] at hcut
      have HCUT := Lib.hid hcut
      have hnr := rnatr_trim hrd HO.out (by rw [HOL.out]; unfold maxLen; omega) (fun h => by cases h)
      rw [hval] at hnr
      have HNR := Lib.hid hnr
      clear hblk hbw hrd hval hcut hnr
      go_wp2_with fail
      refine HCUT.out.mono ?_
      rintro e w' ⟨rfl, rfl⟩
      go_wp2
      go_ret
      exact ⟨_, _, _, rfl, HNR.out, HBW.out⟩
end Go.Proofs.YtnpfdelklolchaaGreatDoor
