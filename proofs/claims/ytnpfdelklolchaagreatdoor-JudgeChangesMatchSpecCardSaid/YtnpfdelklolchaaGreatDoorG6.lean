import Derived.Test.YtnpfdelklolchaaGreatDoorNatAdd
import Derived.Test.YtnpfdelklolchaaGreatDoorShelf
/- Package nat: Sub. -/
namespace Go.Proofs.YtnpfdelklolchaaGreatDoor
open Go Go.RowKit Go.Proofs

/-- the borrow -/
def brw (x y b : Nat) : Nat := if x < y + b then 1 else 0
theorem sub64_eq (x y b : Nat) (hb : b ≤ 1) (w : World) :
    (callFunc 78 #[.int .u64 x, .int .u64 y, .int .u64 b]).run Tryz.prog w =
      .ok (.value (.tuple #[.int .u64 (((x + 18446744073709551616 - y - b) % 18446744073709551616 : Nat) : Int), .int .u64 ((brw x y b : Nat) : Int)])) w := by
  rw [run_callFunc_extern Tryz.func78 (by kernel_rfl) (by kernel_rfl) (by kernel_rfl) (e := sub64Entry) (by kernel_rfl), run_sub64 x y b hb]
  rfl
theorem brw_le (x y b : Nat) : brw x y b ≤ 1 := by unfold brw; split <;> omega
theorem brw_eq {x y b : Nat} (hx : x < 18446744073709551616) (hy : y < 18446744073709551616) (hb : b ≤ 1) : (x + 18446744073709551616 - y - b) % 18446744073709551616 + y + b = x + 18446744073709551616 * brw x y b := by
  unfold brw
  split
  · rw [Nat.mod_eq_of_lt (by omega)]; omega
  · rw [show x + 18446744073709551616 - y - b = (x - y - b) + 18446744073709551616 by omega, Nat.add_mod_right, Nat.mod_eq_of_lt (by omega)]; omega
def SubRel (w wr : World) (g : Nat) (la lb : List Nat) (k c : Nat) : Prop :=
  ∃ o, o.length = la.length ∧ (∀ d ∈ o, d < W64) ∧ Blk wr g o ∧ val W64 (o.take k) + val W64 (lb.take k) = val W64 (la.take k) + W64 ^ k * c ∧ Below w.heap.size w wr
theorem len_le {a b : List Nat} (ha : Norm W64 a) (hb : Norm W64 b) (h : val W64 b ≤ val W64 a) : b.length ≤ a.length := by
  rcases Nat.lt_or_ge a.length b.length with h' | h'
  · have := val_len_lt W64_pos ha hb h'; omega
  · exact h'

set_option maxHeartbeats 2000000 in
set_option maxRecDepth 100000 in
theorem natSub_any (A1 A2 : Option Addr) (c1 c2 : Nat) (l1 l2 : List Nat) (x y : Nat) (w : World) (h1 : NatR w A1 c1 l1 x) (h2 : NatR w A2 c2 l2 y) (hs : l1.length ≤ 1000000) (hxy : y ≤ x) :
    Calls Tryz.prog 28 #[.slice A1 l1.length c1, .slice A2 l2.length c2] w (NatPost (x - y) w) := by
  obtain ⟨i0, hi0, hz0, hz1, hz2⟩ := info_parts Tryz.infoU
  have hle : l2.length ≤ l1.length := len_le h1.norm h2.norm (by rw [h1.val, h2.val]; exact hxy)
  have HN1 := Lib.hid h1
  have HN2 := Lib.hid h2
  clear h1 h2
  go_enter Tryz.func28, Tryz.ntmps28
  go_wp2_with (at_make; refine wpList_make_full _ rfl (.tmp 10) (.tmp 10) 61 rfl w.heap.size 110 i0 _ 1 Tryz.underlying61 hi0 hz0 hz1 .i64 .i64 _ _ l1.length rfl rfl ?m1 ?m2 ?m3 ?m4 ?m5 ?_)
  case m1 => rfl
  case m2 => rfl
  case m3 => rw [hz2]; omega
  case m4 => unfold maxLen; omega
  case m5 => exact Nat.le_refl _
  intro w1 hown hgr
  rw [made_zeros] at hown
  obtain ⟨hblk, _⟩ := Blk.of_own hown
  have hb1 : Below w.heap.size w w1 := (Below.refl _ w).grown hgr (Nat.le_refl _) (fun k hk => by cases hk)
  have hsz1 : w.heap.size < w1.heap.size := heap_lt hblk
  have HBK := Lib.hid hblk
  have HB1 := Lib.hid hb1
  clear hown hgr hblk hb1
  go_wp2
  go_loopw [6, 7, 8, 14] (fun cy _ _ i wr => ∃ (k c : Nat), i = .int .i64 k ∧ cy = .int .u64 c ∧ k ≤ l1.length ∧ c ≤ 1 ∧ SubRel w wr w.heap.size l1 l2 k c) (fun _ _ _ i _ => l1.length - (intOf i).toNat)
  case atStart => exact ⟨0, 0, rfl, rfl, Nat.zero_le _, by omega, List.replicate l1.length 0, by simp, fun d hd => by rw [List.eq_of_mem_replicate hd]; unfold W64; omega, HBK.out, by simp [val], HB1.out⟩
  case round =>
    obtain ⟨k, c, rfl, rfl, hk, hc, o, hol, hod, hblk, hval, hbw⟩ := hrel
    have hgl := heap_lt hblk
    have HO := Lib.hid hod
    have HOL := Lib.hid hol
    have HV := Lib.hid hval
    have HBW := Lib.hid hbw
    have HBL := Lib.hid hblk
    clear hod hol hval
    by_cases hlt : k < l1.length
    · obtain ⟨ba, oa, ua, rfl, hba, hua, qa⟩ := (HN1.out.rd.below hbw (Nat.le_refl _)).at1 hlt
      obtain ⟨da, hda, rfl⟩ := u64s_get hua
      have hdaW : da < 18446744073709551616 := HN1.out.norm.1 da (List.mem_of_getElem? hda)
      have HDA := Lib.hid hda
      have hko : k < o.length := by have := HOL.out; omega
      obtain ⟨od, hod⟩ : ∃ od, o[k]? = some od := ⟨o[k], List.getElem?_eq_getElem hko⟩
      have q0 := hblk.cell hod
      have z0 := hblk.frozen k
      clear hua hda hod hblk hbw
      have step : ∀ yb : Nat, yb < 18446744073709551616 → l2.take (k + 1) = l2.take k ++ (if k < l2.length then [yb] else []) → (k < l2.length ∨ yb = 0) → SubRel w (wr.setCell ⟨w.heap.size, k, none⟩ (.int .u64 (((da + 18446744073709551616 - yb - c) % 18446744073709551616 : Nat) : Int))) w.heap.size l1 l2 (k + 1) (brw da yb c) := by
        intro yb hyb htk hor
        refine ⟨o.set k ((da + 18446744073709551616 - yb - c) % 18446744073709551616), by simp [HOL.out], mem_set HO.out (by unfold W64; omega), HBL.out.set k _, ?_, HBW.out.setCell (Nat.le_refl _) _⟩
        rw [take_set_succ hko, take_snoc' HDA.out, val_snoc, val_snoc, htk]
        have e1 : (o.take k).length = k := by simp; omega
        have e2 : (l1.take k).length = k := by simp; omega
        rw [e1, e2]
        have hv := HV.out
        have e3 : (da + 18446744073709551616 - yb - c) % 18446744073709551616 + yb + c = da + W64 * brw da yb c := brw_eq hdaW hyb hc
        have e4 : W64 ^ k * ((da + 18446744073709551616 - yb - c) % 18446744073709551616) + W64 ^ k * yb + W64 ^ k * c = W64 ^ k * da + W64 ^ (k + 1) * brw da yb c := by
          rw [Nat.pow_succ, Nat.mul_assoc, ← Nat.mul_add, ← Nat.mul_add, ← Nat.mul_add, e3]
        have e5 : val W64 (l2.take k ++ (if k < l2.length then [yb] else [])) = val W64 (l2.take k) + W64 ^ k * yb := by
          rcases Nat.lt_or_ge k l2.length with h | h
          · rw [if_pos h, val_snoc]
            have : (l2.take k).length = k := by simp; omega
            rw [this]
          · rw [if_neg (by omega), List.append_nil]
            have : yb = 0 := by omega
            rw [this]; simp
        rw [e5]
        omega
      have STEP := Lib.hid step
      clear step
      by_cases hlb : k < l2.length
      · have t1 : decide (k < l2.length) = true := by simpa using hlb
        obtain ⟨bb, ob, ub, rfl, hbb, hub, qb⟩ := (HN2.out.rd.below HBW.out (Nat.le_refl _)).at1 hlb
        obtain ⟨db, hdb, rfl⟩ := u64s_get hub
        have hdbW : db < 18446744073709551616 := HN2.out.norm.1 db (List.mem_of_getElem? hdb)
        have HS := Lib.hid (STEP.out db hdbW (by rw [take_snoc' hdb, if_pos hlb]) (.inl hlb))
        have hsub := fun W => sub64_eq da db c hc W
        have hc2 := brw_le da db c
        clear hub hdb
        go_wp2
        go_roundw
        case rel => exact ⟨k + 1, _, by go_num, rfl, by omega, hc2, HS.out⟩
        case measure => simp [intOf]; omega
      · have t1 : decide (k < l2.length) = false := by simpa using hlb
        have HS := Lib.hid (STEP.out 0 (by omega) (by rw [if_neg hlb, List.append_nil, List.take_of_length_le (by omega), List.take_of_length_le (by omega)]) (.inr rfl))
        have hsub : ∀ W, (callFunc 78 #[.int .u64 da, .int .u64 0, .int .u64 c]).run Tryz.prog W = .ok (.value (.tuple #[.int .u64 (((da + 18446744073709551616 - 0 - c) % 18446744073709551616 : Nat) : Int), .int .u64 ((brw da 0 c : Nat) : Int)])) W := fun W => sub64_eq da 0 c hc W
        have hc2 := brw_le da 0 c
        go_wp2
        go_roundw
        case rel => exact ⟨k + 1, _, by go_num, rfl, by omega, hc2, HS.out⟩
        case measure => simp [intOf]; omega
    · obtain rfl : k = l1.length := by omega
      have hrd := hblk.rd
      rw [HOL.out] at hrd
      have hrd' : Rd wr 0 wr.heap.size 1 (some ⟨w.heap.size, 0, none⟩) o.length (u64s o) := hblk.rd
      have hval : val W64 o = x - y := by
        have hv := HV.out
        rw [List.take_length, List.take_of_length_le (by rw [HOL.out]; exact Nat.le_refl _), List.take_of_length_le (by omega), HN1.out.val, HN2.out.val] at hv
        have h1 := val_lt HO.out
        rw [HOL.out] at h1
        rcases Nat.eq_zero_or_pos c with h0 | h0
        · subst h0; omega
        · obtain rfl : c = 1 := by omega
          omega
      have hcut := cut_any (some ⟨w.heap.size, 0, none⟩) l1.length o wr hrd' (by rw [HOL.out]; exact Nat.le_refl _) (by unfold maxLen; omega) (fun h => by cases h)
      rw [HOL.out] at hcut
      have HCUT := Lib.hid hcut
      have hnr := natr_cut (c := l1.length) hrd' HO.out (by rw [HOL.out]; exact Nat.le_refl _) (by unfold maxLen; omega) (fun h => by cases h)
      rw [hval] at hnr
      have HNR := Lib.hid hnr
      clear hblk hbw hrd hrd' hval hcut hnr
      go_wp2_with fail
      refine HCUT.out.mono ?_
      rintro e w' ⟨rfl, rfl⟩
      go_wp2
      go_ret
      exact ⟨_, _, _, rfl, HNR.out, HBW.out⟩
end Go.Proofs.YtnpfdelklolchaaGreatDoor

/- Package nat: Mul. -/
namespace Go.Proofs.YtnpfdelklolchaaGreatDoor
open Go Go.RowKit Go.Proofs

/-- one step of the product -/
theorem mul_step {o p c : Nat} (ho : o < 18446744073709551616) (hp : p ≤ 340282366920938463426481119284349108225) (hc : c < 18446744073709551616) :
    o + p + c = (o + (p % 18446744073709551616 + c) % 18446744073709551616) % 18446744073709551616 + 18446744073709551616 * (p / 18446744073709551616 + (p % 18446744073709551616 + c) / 18446744073709551616 + (o + (p % 18446744073709551616 + c) % 18446744073709551616) / 18446744073709551616) ∧
      p / 18446744073709551616 + (p % 18446744073709551616 + c) / 18446744073709551616 + (o + (p % 18446744073709551616 + c) % 18446744073709551616) / 18446744073709551616 < 18446744073709551616 := by omega
theorem mul_le {x y : Nat} (hx : x < 18446744073709551616) (hy : y < 18446744073709551616) : x * y ≤ 340282366920938463426481119284349108225 := by
  have := Nat.mul_le_mul (show x ≤ 18446744073709551615 by omega) (show y ≤ 18446744073709551615 by omega)
  omega
theorem val_zeros {B : Nat} : ∀ {l : List Nat}, (∀ d ∈ l, d = 0) → val B l = 0
  | [], _ => rfl
  | d :: r, h => by
    have := val_zeros (B := B) (l := r) (fun x hx => h x (by simp [hx]))
    simp [val, this, h d (by simp)]
theorem val_take_zero {B : Nat} {l : List Nat} {n : Nat} (h : ∀ j, n ≤ j → j < l.length → l[j]? = some 0) : val B l = val B (l.take n) := by
  conv => lhs; rw [← List.take_append_drop n l, val_append]
  rw [val_zeros (l := l.drop n), Nat.mul_zero, Nat.add_zero]
  intro d hd
  obtain ⟨j, hj, e⟩ := List.getElem_of_mem hd
  rw [List.getElem_drop] at e
  have := h (n + j) (by omega) (by simp at hj; omega)
  rw [List.getElem?_eq_getElem (by simp at hj; omega)] at this
  rw [← e]; exact Option.some.inj this
/-- what the inner loop keeps: o0 is what was there when the row began -/
def MulIn (w wr : World) (g : Nat) (o0 lb : List Nat) (i x k c : Nat) : Prop :=
  ∃ o, o.length = o0.length ∧ (∀ d ∈ o, d < W64) ∧ Blk wr g o ∧ (∀ j, i + k ≤ j → o[j]? = o0[j]?) ∧ val W64 (o.take (i + k)) + W64 ^ (i + k) * c = val W64 (o0.take (i + k)) + W64 ^ i * (x * val W64 (lb.take k)) ∧ Below w.heap.size w wr
/-- what the outer loop keeps -/
def MulOut (w wr : World) (g : Nat) (la lb : List Nat) (i : Nat) : Prop :=
  ∃ o, o.length = la.length + lb.length ∧ (∀ d ∈ o, d < W64) ∧ Blk wr g o ∧ (∀ j, i + lb.length ≤ j → j < o.length → o[j]? = some 0) ∧ val W64 o = val W64 (la.take i) * val W64 lb ∧ Below w.heap.size w wr

set_option maxHeartbeats 4000000 in
set_option maxRecDepth 100000 in
theorem natMul_any (A1 A2 : Option Addr) (c1 c2 : Nat) (l1 l2 : List Nat) (x y : Nat) (w : World) (h1 : NatR w A1 c1 l1 x) (h2 : NatR w A2 c2 l2 y) (hs : l1.length ≤ 1000000) (hs2 : l2.length ≤ 1000000) :
    Calls Tryz.prog 27 #[.slice A1 l1.length c1, .slice A2 l2.length c2] w (NatPost (x * y) w) := by
  obtain ⟨i0, hi0, hz0, hz1, hz2⟩ := info_parts Tryz.infoU
  have HN1 := Lib.hid h1
  have HN2 := Lib.hid h2
  clear h1 h2
  go_enter Tryz.func27, Tryz.ntmps27
  go_wp2_with (at_make; refine wpList_make_full _ rfl (.tmp 18) (.tmp 18) 61 rfl w.heap.size 110 i0 _ 1 Tryz.underlying61 hi0 hz0 hz1 .i64 .i64 _ _ (l1.length + l2.length) rfl rfl ?m1 ?m2 ?m3 ?m4 ?m5 ?_)
  case m1 => omega
  case m2 => omega
  case m3 => rw [hz2]; omega
  case m4 => unfold maxLen; omega
  case m5 => exact Nat.le_refl _
  intro w1 hown hgr
  rw [made_zeros] at hown
  obtain ⟨hblk, _⟩ := Blk.of_own hown
  have hb1 : Below w.heap.size w w1 := (Below.refl _ w).grown hgr (Nat.le_refl _) (fun k hk => by cases hk)
  have hsz1 : w.heap.size < w1.heap.size := heap_lt hblk
  have HBK := Lib.hid hblk
  have HB1 := Lib.hid hb1
  clear hown hgr hblk hb1
  go_wp2
  go_loopw [6, 7, 8, 9, 10, 11, 12, 13, 22] (fun _ _ _ _ _ _ _ _ i wr => ∃ k : Nat, i = .int .i64 k ∧ k ≤ l1.length ∧ MulOut w wr w.heap.size l1 l2 k) (fun _ _ _ _ _ _ _ _ i _ => l1.length - (intOf i).toNat)
  case atStart => exact ⟨0, rfl, Nat.zero_le _, List.replicate (l1.length + l2.length) 0, by simp, fun d hd => by rw [List.eq_of_mem_replicate hd]; unfold W64; omega, HBK.out, fun j _ hj => by rw [List.getElem?_replicate]; simp at hj; simp; omega, by
    simp only [List.take_zero, val, Nat.zero_mul]
    have : ∀ n, val W64 (List.replicate n 0) = 0 := by
      intro n
      induction n with
      | zero => rfl
      | succ n ih => simp [List.replicate_succ, val, ih]
    exact this _, HB1.out⟩
  case round =>
    obtain ⟨i, rfl, hi, o0, hol, hod, hblk, hzero, hval, hbw⟩ := hrel
    have HO := Lib.hid hod
    have HOL := Lib.hid hol
    have HV := Lib.hid hval
    have HBW := Lib.hid hbw
    have HBL := Lib.hid hblk
    have HZ := Lib.hid hzero
    have hgl := heap_lt hblk
    clear hod hol hval hzero
    by_cases hlt : i < l1.length
    · obtain ⟨ba, oa, ua, rfl, hba, hua, qa⟩ := (HN1.out.rd.below hbw (Nat.le_refl _)).at1 hlt
      obtain ⟨xd, hxd, rfl⟩ := u64s_get hua
      have hxW : xd < 18446744073709551616 := HN1.out.norm.1 xd (List.mem_of_getElem? hxd)
      have HXD := Lib.hid hxd
      obtain ⟨wo, hwo⟩ : ∃ wo : World, wo = wr := ⟨_, rfl⟩
      clear hua hxd hblk hbw
      go_wp2
      subst hwo
      go_loopw [8, 9, 10, 11, 12, 13, 29] (fun cy _ _ _ _ _ j wr => ∃ (k c : Nat), j = .int .i64 k ∧ cy = .int .u64 c ∧ k ≤ l2.length ∧ c < 18446744073709551616 ∧ MulIn w wr w.heap.size o0 l2 i xd k c) (fun _ _ _ _ _ _ j _ => l2.length - (intOf j).toNat)
      case atStart => exact ⟨0, 0, rfl, rfl, Nat.zero_le _, by omega, o0, rfl, HO.out, HBL.out, fun _ _ => rfl, by simp [val], HBW.out⟩
      case round =>
        obtain ⟨k, c, rfl, rfl, hk, hc, o, hol2, hod2, hblk2, hsame, hval2, hbw2⟩ := hrel
        have hgl2 := heap_lt hblk2
        have HO2 := Lib.hid hod2
        have HOL2 := Lib.hid hol2
        have HS2 := Lib.hid hsame
        have HV2 := Lib.hid hval2
        have HBW2 := Lib.hid hbw2
        have HBL2 := Lib.hid hblk2
        have hlen : o.length = l1.length + l2.length := by rw [hol2, HOL.out]
        have HLN := Lib.hid hlen
        clear hod2 hol2 hsame hval2 hlen
        by_cases hlk : k < l2.length
        · obtain ⟨bb, ob, ub, rfl, hbb, hub, qb⟩ := (HN2.out.rd.below hbw2 (Nat.le_refl _)).at1 hlk
          obtain ⟨yd, hyd, rfl⟩ := u64s_get hub
          have hyW : yd < 18446744073709551616 := HN2.out.norm.1 yd (List.mem_of_getElem? hyd)
          have HYD := Lib.hid hyd
          have hko : i + k < o.length := by have := HLN.out; omega
          obtain ⟨od, hodk⟩ : ∃ od, o[i + k]? = some od := ⟨o[i + k], List.getElem?_eq_getElem hko⟩
          have hodW : od < 18446744073709551616 := HO2.out od (List.mem_of_getElem? hodk)
          have q0 := hblk2.cell hodk
          have z0 := hblk2.frozen (i + k)
          have HOD := Lib.hid hodk
          have hst := mul_step hodW (mul_le hxW hyW) hc
          have hmul := Tryz.bits_Mul64 xd yd hxW hyW
          obtain ⟨hi_, hhi⟩ : ∃ h, h = xd * yd / 18446744073709551616 := ⟨_, rfl⟩
          obtain ⟨lo, hlo⟩ : ∃ h, h = xd * yd % 18446744073709551616 := ⟨_, rfl⟩
          have hloW : lo < 18446744073709551616 := by rw [hlo]; exact Nat.mod_lt _ (by omega)
          rw [← hhi, ← hlo] at hst
          have hmul2 : ∀ W, Calls Tryz.prog 76 #[.int .u64 xd, .int .u64 yd] W fun e w' => e = .returned (.tuple #[.int .u64 (hi_ : Int), .int .u64 (lo : Int)]) ∧ W = w' := by
            intro W
            refine (hmul W).mono ?_
            rintro e w' ⟨h1, h2⟩
            rw [hhi, hlo]
            exact ⟨h1, h2.symm⟩
          have HMUL := Lib.hid hmul2
          obtain ⟨s1, hs1⟩ : ∃ h, h = (lo + c) % 18446744073709551616 := ⟨_, rfl⟩
          obtain ⟨k1, hk1⟩ : ∃ h, h = (lo + c) / 18446744073709551616 := ⟨_, rfl⟩
          have hs1W : s1 < 18446744073709551616 := by rw [hs1]; exact Nat.mod_lt _ (by omega)
          have a1 := fun W => add64_eq lo c 0 hloW hc (by omega) W
          rw [Nat.add_zero, ← hs1, ← hk1] at a1
          rw [← hs1, ← hk1] at hst
          obtain ⟨s2, hs2_⟩ : ∃ h, h = (od + s1) % 18446744073709551616 := ⟨_, rfl⟩
          obtain ⟨k2, hk2⟩ : ∃ h, h = (od + s1) / 18446744073709551616 := ⟨_, rfl⟩
          have a2 := fun W => add64_eq od s1 0 hodW hs1W (by omega) W
          rw [Nat.add_zero, ← hs2_, ← hk2] at a2
          rw [← hs2_, ← hk2] at hst
          obtain ⟨hst1, hst2⟩ := hst
          have hs2W : s2 < 18446744073709551616 := by rw [hs2_]; exact Nat.mod_lt _ (by omega)
          have hadd1 : ∀ W, (callFunc 77 #[.int .u64 lo, .int .u64 c, .int .u64 0]).run Tryz.prog W = .ok (.value (.tuple #[.int .u64 (s1 : Int), .int .u64 (k1 : Int)])) W := a1
          have hadd2 : ∀ W, (callFunc 77 #[.int .u64 od, .int .u64 s1, .int .u64 0]).run Tryz.prog W = .ok (.value (.tuple #[.int .u64 (s2 : Int), .int .u64 (k2 : Int)])) W := a2
          have HNEW := Lib.hid (show MulIn w (wr.setCell ⟨w.heap.size, i + k, none⟩ (.int .u64 (s2 : Int))) w.heap.size o0 l2 i xd (k + 1) (hi_ + k1 + k2) from by
            refine ⟨o.set (i + k) s2, by rw [List.length_set, HOL2.out], mem_set HO2.out (by unfold W64; omega), HBL2.out.set (i + k) s2, fun j hj => ?_, ?_, HBW2.out.setCell (Nat.le_refl _) _⟩
            · rw [List.getElem?_set_ne (by omega)]; exact HS2.out j (by omega)
            · have e0 : o0[i + k]? = some od := by rw [← HS2.out (i + k) (Nat.le_refl _)]; exact HOD.out
              rw [show i + (k + 1) = (i + k) + 1 by omega, take_set_succ hko, take_snoc' e0, val_snoc, val_snoc, take_snoc' HYD.out, val_snoc]
              have e1 : (o.take (i + k)).length = i + k := by simp; omega
              have e2 : (o0.take (i + k)).length = i + k := by have := HOL2.out; simp; omega
              have e3 : (l2.take k).length = k := by simp; omega
              rw [e1, e2, e3]
              have hv := HV2.out
              have t1 := congrArg (W64 ^ (i + k) * ·) hst1
              simp only [Nat.mul_add] at t1
              have t2 : W64 ^ (i + k + 1) * (hi_ + k1 + k2) = W64 ^ (i + k) * (18446744073709551616 * hi_) + W64 ^ (i + k) * (18446744073709551616 * k1) + W64 ^ (i + k) * (18446744073709551616 * k2) := by
                rw [Nat.pow_succ, Nat.mul_assoc, show W64 = 18446744073709551616 from rfl, Nat.mul_add, Nat.mul_add, Nat.mul_add, Nat.mul_add]
              have t3 : W64 ^ i * (xd * (val W64 (l2.take k) + W64 ^ k * yd)) = W64 ^ i * (xd * val W64 (l2.take k)) + W64 ^ (i + k) * (xd * yd) := by
                rw [Nat.mul_add, Nat.mul_add, Nat.pow_add]
                congr 1
                rw [Nat.mul_assoc, Nat.mul_left_comm xd]
              rw [t2, t3]
              omega)
          clear hst1 a1 a2 hmul hmul2 hs1 hk1 hs2_ hk2 hhi hlo hub hyd hodk hblk2 hbw2
          go_wp2_with (go_at_call 76; refine (HMUL.out _).mono ?_; rintro e w' ⟨rfl, rfl⟩)
          go_roundw
          case rel => exact ⟨k + 1, hi_ + k1 + k2, by go_num, by first | rfl | go_num | (simp; done), by omega, hst2, HNEW.out⟩
          case measure => simp [intOf]; omega
        · obtain rfl : k = l2.length := by omega
          have hko : i + l2.length < o.length := by have := HLN.out; omega
          obtain ⟨od, hodk⟩ : ∃ od, o[i + l2.length]? = some od := ⟨o[i + l2.length], List.getElem?_eq_getElem hko⟩
          have q0 := hblk2.cell hodk
          have z0 := hblk2.frozen (i + l2.length)
          have HNEW := Lib.hid (show MulOut w (wr.setCell ⟨w.heap.size, i + l2.length, none⟩ (.int .u64 (c : Int))) w.heap.size l1 l2 (i + 1) from by
            have hzz : ∀ j, i + l2.length + 1 ≤ j → j < (o.set (i + l2.length) c).length → (o.set (i + l2.length) c)[j]? = some 0 := by
              intro j hj hj2
              rw [List.getElem?_set_ne (by omega), HS2.out j (by omega)]
              exact HZ.out j (by omega) (by have := HOL2.out; simp at hj2; omega)
            refine ⟨o.set (i + l2.length) c, by rw [List.length_set, HLN.out], mem_set HO2.out (by unfold W64; omega), HBL2.out.set _ c, fun j hj hj2 => hzz j (by omega) hj2, ?_, HBW2.out.setCell (Nat.le_refl _) _⟩
            rw [val_take_zero hzz, take_set_succ hko, val_snoc, take_snoc' HXD.out, val_snoc]
            have e1 : (o.take (i + l2.length)).length = i + l2.length := by simp; omega
            have e2 : (l1.take i).length = i := by simp; omega
            have hv := HV2.out
            rw [List.take_length] at hv
            rw [e1, e2, hv, ← val_take_zero (HZ.out), HV.out, Nat.add_mul, Nat.mul_assoc])
          clear hodk hblk2 hbw2
          go_wp2
          go_roundw
          case rel => exact ⟨i + 1, by go_num, by omega, HNEW.out⟩
          case measure => simp [intOf]; omega
    · obtain rfl : i = l1.length := by omega
      have hrd := hblk.rd
      have hval : val W64 o0 = x * y := by
        have := HV.out
        rwa [List.take_length, HN1.out.val, HN2.out.val] at this
      have hcut := cut_any (some ⟨w.heap.size, 0, none⟩) (l1.length + l2.length) o0 wr hrd (by rw [HOL.out]; exact Nat.le_refl _) (by unfold maxLen; omega) (fun h => by cases h)
      rw [HOL.out] at hcut
      have HCUT := Lib.hid hcut
      have hnr := natr_cut (c := l1.length + l2.length) hrd HO.out (by rw [HOL.out]; exact Nat.le_refl _) (by unfold maxLen; omega) (fun h => by cases h)
      rw [hval] at hnr
      have HNR := Lib.hid hnr
      clear hblk hbw hrd hval hcut hnr
      go_wp2_with fail
      refine HCUT.out.mono ?_
      rintro e w' ⟨rfl, rfl⟩
      go_wp2
      go_ret
      exact ⟨_, _, _, rfl, HNR.out, HBW.out⟩
end Go.Proofs.YtnpfdelklolchaaGreatDoor
