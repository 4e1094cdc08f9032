/- Package nat: take, give: what division does to a part of a number in its own memory. -/
import Derived.Test.YtnpfdelklolchaaGreatDoorG3
import Derived.Test.YtnpfdelklolchaaGreatDoorG6
namespace Go.Proofs.YtnpfdelklolchaaGreatDoor
open Go Go.RowKit Go.Proofs

/-- one step of take -/
theorem take_step {p c a b lo k1 s1 br : Nat} (hp : p ≤ 340282366920938463426481119284349108225) (hc : c < 18446744073709551616) (hlo : lo = (p % 18446744073709551616 + c) % 18446744073709551616) (hk : k1 = (p % 18446744073709551616 + c) / 18446744073709551616)
    (h : s1 + lo + b = a + 18446744073709551616 * br) : s1 + p + (c + b) = a + 18446744073709551616 * (p / 18446744073709551616 + k1 + br) ∧ p / 18446744073709551616 + k1 < 18446744073709551616 := by omega
/-- what take keeps -/
def TakeRel (w wr : World) (g : Nat) (x lb : List Nat) (j q k c b : Nat) : Prop :=
  ∃ o, o.length = x.length ∧ (∀ d ∈ o, d < W64) ∧ Blk wr g o ∧ (∀ i, i < j ∨ j + k ≤ i → o[i]? = x[i]?) ∧ win W64 o j k + q * val W64 (lb.take k) = win W64 x j k + W64 ^ k * (c + b) ∧ Fr (· = g) w wr
/-- what give keeps -/
def GiveRel (w wr : World) (g : Nat) (x lb : List Nat) (j k c : Nat) : Prop :=
  ∃ o, o.length = x.length ∧ (∀ d ∈ o, d < W64) ∧ Blk wr g o ∧ (∀ i, i < j ∨ j + k ≤ i → o[i]? = x[i]?) ∧ win W64 o j k + W64 ^ k * c = win W64 x j k + val W64 (lb.take k) ∧ Fr (· = g) w wr
theorem rel_step {o x : List Nat} {j k s : Nat} (hs : ∀ i, i < j ∨ j + k ≤ i → o[i]? = x[i]?) : ∀ i, i < j ∨ j + (k + 1) ≤ i → (o.set (j + k) s)[i]? = x[i]? := by
  intro i hi
  rw [List.getElem?_set_ne (by omega)]
  exact hs i (by omega)
theorem win_set {o : List Nat} {j k s : Nat} (h : j + k < o.length) : win W64 (o.set (j + k) s) j (k + 1) = win W64 o j k + W64 ^ k * s := by
  rw [win_succ (d := s) (by rw [List.getElem?_set_self h]), win_congr (l' := o)]
  intro i h1 h2
  rw [List.getElem?_set_ne (by omega)]

set_option maxHeartbeats 4000000 in
set_option maxRecDepth 100000 in
theorem natTake_any (g : Nat) (x : List Nat) (A2 : Option Addr) (c2 : Nat) (lb : List Nat) (j q : Nat) (w : World) (hblk : Blk w g x) (hx : ∀ d ∈ x, d < W64) (h2 : Rd w 0 g 1 A2 lb.length (u64s lb)) (hb : ∀ d ∈ lb, d < W64) (hq : q < W64)
    (hj : j + lb.length + 1 ≤ x.length) (hs : x.length ≤ 2000000) :
    Calls Tryz.prog 73 #[.slice (some ⟨g, 0, none⟩) x.length x.length, .slice A2 lb.length c2, .int .i64 j, .int .u64 q] w fun e w' =>
      ∃ b, e = .returned (.bool (decide (0 < b))) ∧ b ≤ 1 ∧ TakeRel w w' g x lb j q (lb.length + 1) 0 b := by
  have HX := Lib.hid hx
  have HR2 := Lib.hid h2
  have HBK := Lib.hid hblk
  have HLB := Lib.hid hb
  have hq' : q < 18446744073709551616 := hq
  have hgw := heap_lt hblk
  clear hx h2 hblk hb hq
  go_enter Tryz.func73, Tryz.ntmps73
  go_wp2
  go_loopw [9, 10, 11, 12, 13, 14, 17] (fun cy bo _ _ _ _ i wr => ∃ (k c b : Nat), i = .int .i64 k ∧ cy = .int .u64 c ∧ bo = .int .u64 b ∧ k ≤ lb.length ∧ c < 18446744073709551616 ∧ b ≤ 1 ∧ TakeRel w wr g x lb j q k c b) (fun _ _ _ _ _ _ i _ => lb.length - (intOf i).toNat)
  case atStart => exact ⟨0, 0, 0, rfl, rfl, rfl, Nat.zero_le _, by omega, by omega, x, rfl, HX.out, HBK.out, fun _ _ => rfl, by simp [val, win], Fr.refl _ _⟩
  case round =>
    obtain ⟨k, c, b, rfl, rfl, rfl, hk, hc, hb, o, hol, hod, hblk, hsame, hval, hfr⟩ := hrel
    have hgl := heap_lt hblk
    have HO := Lib.hid hod
    have HOL := Lib.hid hol
    have HS := Lib.hid hsame
    have HV := Lib.hid hval
    have HBL := Lib.hid hblk
    have HFR := Lib.hid hfr
    clear hod hol hsame hval
    by_cases hlt : k < lb.length
    · obtain ⟨bb, ob, ub, rfl, hbb, hub, qb⟩ := (HR2.out.fr hfr (by omega) (by intro i _ hi e; omega)).at1 hlt
      obtain ⟨yd, hyd, rfl⟩ := u64s_get hub
      have hyW : yd < 18446744073709551616 := HLB.out yd (List.mem_of_getElem? hyd)
      have HYD := Lib.hid hyd
      have hko : j + k < o.length := by have := HOL.out; omega
      obtain ⟨od, hodk⟩ : ∃ od, o[j + k]? = some od := ⟨o[j + k], List.getElem?_eq_getElem hko⟩
      have hodW : od < 18446744073709551616 := HO.out od (List.mem_of_getElem? hodk)
      have hxk : x[j + k]? = some od := by rw [← HS.out (j + k) (.inr (Nat.le_refl _))]; exact hodk
      have HXK := Lib.hid hxk
      have q0 : wr.cell? ⟨g, k + j, none⟩ = some (.int .u64 od) := by rw [Nat.add_comm k j]; exact hblk.cell hodk
      have z0 : wr.frozen? ⟨g, k + j, none⟩ = false := hblk.frozen (k + j)
      have hmul := Tryz.bits_Mul64 q yd hq' hyW
      obtain ⟨hi_, hhi⟩ : ∃ h, h = q * yd / 18446744073709551616 := ⟨_, rfl⟩
      obtain ⟨lo, hlo⟩ : ∃ h, h = q * yd % 18446744073709551616 := ⟨_, rfl⟩
      have hloW : lo < 18446744073709551616 := by rw [hlo]; exact Nat.mod_lt _ (by omega)
      have hmul2 : ∀ W, Calls Tryz.prog 76 #[.int .u64 q, .int .u64 yd] W fun e w' => e = .returned (.tuple #[.int .u64 (hi_ : Int), .int .u64 (lo : Int)]) ∧ W = w' := by
        intro W
        refine (hmul W).mono ?_
        rintro e w' ⟨h1, h2⟩
        rw [hhi, hlo]
        exact ⟨h1, h2.symm⟩
      have HMUL := Lib.hid hmul2
      obtain ⟨s1, hs1⟩ : ∃ h, h = (lo + c) % 18446744073709551616 := ⟨_, rfl⟩
      obtain ⟨k1, hk1⟩ : ∃ h, h = (lo + c) / 18446744073709551616 := ⟨_, rfl⟩
      have hs1W : s1 < 18446744073709551616 := by rw [hs1]; exact Nat.mod_lt _ (by omega)
      have hadd1 : ∀ W, (callFunc 77 #[.int .u64 lo, .int .u64 c, .int .u64 0]).run Tryz.prog W = .ok (.value (.tuple #[.int .u64 (s1 : Int), .int .u64 (k1 : Int)])) W := by
        intro W
        have := add64_eq lo c 0 hloW hc (by omega) W
        rwa [Nat.add_zero, ← hs1, ← hk1] at this
      obtain ⟨r1, hr1⟩ : ∃ h, h = (od + 18446744073709551616 - s1 - b) % 18446744073709551616 := ⟨_, rfl⟩
      obtain ⟨br, hbr⟩ : ∃ h, h = brw od s1 b := ⟨_, rfl⟩
      have hr1W : r1 < 18446744073709551616 := by rw [hr1]; exact Nat.mod_lt _ (by omega)
      have hbr1 : br ≤ 1 := by rw [hbr]; exact brw_le _ _ _
      have hsub : ∀ W, (callFunc 78 #[.int .u64 od, .int .u64 s1, .int .u64 b]).run Tryz.prog W = .ok (.value (.tuple #[.int .u64 (r1 : Int), .int .u64 (br : Int)])) W := by
        intro W
        have := sub64_eq od s1 b hb W
        rwa [← hr1, ← hbr] at this
      have hst := take_step (a := od) (b := b) (s1 := r1) (br := br) (lo := s1) (k1 := k1) (mul_le hq' hyW) hc (by rw [hs1, hlo]) (by rw [hk1, hlo]) (by rw [hr1, hbr]; exact brw_eq hodW hs1W hb)
      rw [← hhi] at hst
      have hcW := hst.2
      have HNEW := Lib.hid (show TakeRel w (wr.setCell ⟨g, k + j, none⟩ (.int .u64 (r1 : Int))) g x lb j q (k + 1) (hi_ + k1) br from by
        rw [Nat.add_comm k j]
        refine ⟨o.set (j + k) r1, by rw [List.length_set, HOL.out], mem_set HO.out hr1W, HBL.out.set (j + k) r1, rel_step HS.out, ?_, HFR.out.setCell (fun _ => rfl) _⟩
        rw [win_set hko, win_succ HXK.out, take_snoc' HYD.out, val_snoc]
        have e3 : (lb.take k).length = k := by simp; omega
        rw [e3]
        have hv := HV.out
        have t1 := congrArg (W64 ^ k * ·) hst.1
        simp only [Nat.mul_add] at t1
        have t2 : W64 ^ (k + 1) * (hi_ + k1 + br) = W64 ^ k * (18446744073709551616 * hi_) + W64 ^ k * (18446744073709551616 * k1) + W64 ^ k * (18446744073709551616 * br) := by
          rw [Nat.pow_succ, Nat.mul_assoc, show W64 = 18446744073709551616 from rfl, Nat.mul_add, Nat.mul_add, Nat.mul_add, Nat.mul_add]
        rw [t2, Nat.mul_add q, Nat.mul_left_comm q]
        rw [Nat.mul_add] at hv
        omega)
      clear hst hs1 hk1 hr1 hbr hhi hlo hmul hmul2 hub hyd hodk hxk hblk hfr
      go_wp2_with (go_at_call 76; refine (HMUL.out _).mono ?_; rintro e w' ⟨rfl, rfl⟩)
      go_roundw
      case rel => exact ⟨k + 1, hi_ + k1, br, by go_num, by first | rfl | go_num | (simp; done), rfl, by omega, hcW, hbr1, HNEW.out⟩
      case measure => simp [intOf]; omega
    · obtain rfl : k = lb.length := by omega
      have hko : j + lb.length < o.length := by have := HOL.out; omega
      obtain ⟨od, hodk⟩ : ∃ od, o[j + lb.length]? = some od := ⟨o[j + lb.length], List.getElem?_eq_getElem hko⟩
      have hodW : od < 18446744073709551616 := HO.out od (List.mem_of_getElem? hodk)
      have hxk : x[j + lb.length]? = some od := by rw [← HS.out (j + lb.length) (.inr (Nat.le_refl _))]; exact hodk
      have HXK := Lib.hid hxk
      have q0 : wr.cell? ⟨g, j + lb.length, none⟩ = some (.int .u64 od) := hblk.cell hodk
      have z0 : wr.frozen? ⟨g, j + lb.length, none⟩ = false := hblk.frozen _
      obtain ⟨r1, hr1⟩ : ∃ h, h = (od + 18446744073709551616 - c - b) % 18446744073709551616 := ⟨_, rfl⟩
      obtain ⟨br, hbr⟩ : ∃ h, h = brw od c b := ⟨_, rfl⟩
      have hr1W : r1 < 18446744073709551616 := by rw [hr1]; exact Nat.mod_lt _ (by omega)
      have hbr1 : br ≤ 1 := by rw [hbr]; exact brw_le _ _ _
      have hsub : ∀ W, (callFunc 78 #[.int .u64 od, .int .u64 c, .int .u64 b]).run Tryz.prog W = .ok (.value (.tuple #[.int .u64 (r1 : Int), .int .u64 (br : Int)])) W := by
        intro W
        have := sub64_eq od c b hb W
        rwa [← hr1, ← hbr] at this
      have hst : r1 + c + b = od + 18446744073709551616 * br := by rw [hr1, hbr]; exact brw_eq hodW hc hb
      have HNEW := Lib.hid (show TakeRel w (wr.setCell ⟨g, j + lb.length, none⟩ (.int .u64 (r1 : Int))) g x lb j q (lb.length + 1) 0 br from by
        refine ⟨o.set (j + lb.length) r1, by rw [List.length_set, HOL.out], mem_set HO.out hr1W, HBL.out.set _ r1, rel_step HS.out, ?_, HFR.out.setCell (fun _ => rfl) _⟩
        rw [win_set hko, win_succ HXK.out]
        have hv := HV.out
        rw [List.take_of_length_le (show lb.length ≤ lb.length + 1 by omega)]
        rw [List.take_length] at hv
        have t1 := congrArg (W64 ^ lb.length * ·) hst
        simp only [Nat.mul_add] at t1
        have t2 : W64 ^ (lb.length + 1) * (0 + br) = W64 ^ lb.length * (18446744073709551616 * br) := by
          rw [Nat.pow_succ, Nat.mul_assoc, show W64 = 18446744073709551616 from rfl, Nat.zero_add]
        rw [t2]
        rw [Nat.mul_add] at hv
        omega)
      clear hst hr1 hbr hodk hxk hblk hfr
      go_wp2
      go_ret
      exact ⟨br, by simp, hbr1, HNEW.out⟩

set_option maxHeartbeats 4000000 in
set_option maxRecDepth 100000 in
theorem natGive_any (g : Nat) (x : List Nat) (A2 : Option Addr) (c2 : Nat) (lb : List Nat) (j : Nat) (w : World) (hblk : Blk w g x) (hx : ∀ d ∈ x, d < W64) (h2 : Rd w 0 g 1 A2 lb.length (u64s lb)) (hb : ∀ d ∈ lb, d < W64)
    (hj : j + lb.length + 1 ≤ x.length) (hs : x.length ≤ 2000000) :
    Calls Tryz.prog 74 #[.slice (some ⟨g, 0, none⟩) x.length x.length, .slice A2 lb.length c2, .int .i64 j] w fun e w' =>
      ∃ b, e = .returned (.bool (decide (0 < b))) ∧ b ≤ 1 ∧ GiveRel w w' g x lb j (lb.length + 1) b := by
  have HX := Lib.hid hx
  have HR2 := Lib.hid h2
  have HBK := Lib.hid hblk
  have HLB := Lib.hid hb
  have hgw := heap_lt hblk
  clear hx h2 hblk hb
  go_enter Tryz.func74, Tryz.ntmps74
  go_wp2
  go_loopw [7, 8, 11] (fun cy _ i wr => ∃ (k c : Nat), i = .int .i64 k ∧ cy = .int .u64 c ∧ k ≤ lb.length ∧ c ≤ 1 ∧ GiveRel w wr g x lb j k c) (fun _ _ i _ => lb.length - (intOf i).toNat)
  case atStart => exact ⟨0, 0, rfl, rfl, Nat.zero_le _, by omega, x, rfl, HX.out, HBK.out, fun _ _ => rfl, by simp [val, win], Fr.refl _ _⟩
  case round =>
    obtain ⟨k, c, rfl, rfl, hk, hc, o, hol, hod, hblk, hsame, hval, hfr⟩ := hrel
    have hgl := heap_lt hblk
    have HO := Lib.hid hod
    have HOL := Lib.hid hol
    have HS := Lib.hid hsame
    have HV := Lib.hid hval
    have HBL := Lib.hid hblk
    have HFR := Lib.hid hfr
    clear hod hol hsame hval
    by_cases hlt : k < lb.length
    · obtain ⟨bb, ob, ub, rfl, hbb, hub, qb⟩ := (HR2.out.fr hfr (by omega) (by intro i _ hi e; omega)).at1 hlt
      obtain ⟨yd, hyd, rfl⟩ := u64s_get hub
      have hyW : yd < 18446744073709551616 := HLB.out yd (List.mem_of_getElem? hyd)
      have HYD := Lib.hid hyd
      have hko : j + k < o.length := by have := HOL.out; omega
      obtain ⟨od, hodk⟩ : ∃ od, o[j + k]? = some od := ⟨o[j + k], List.getElem?_eq_getElem hko⟩
      have hodW : od < 18446744073709551616 := HO.out od (List.mem_of_getElem? hodk)
      have hxk : x[j + k]? = some od := by rw [← HS.out (j + k) (.inr (Nat.le_refl _))]; exact hodk
      have HXK := Lib.hid hxk
      have q0 : wr.cell? ⟨g, k + j, none⟩ = some (.int .u64 od) := by rw [Nat.add_comm k j]; exact hblk.cell hodk
      have z0 : wr.frozen? ⟨g, k + j, none⟩ = false := hblk.frozen (k + j)
      obtain ⟨s1, hs1⟩ : ∃ h, h = (od + yd + c) % 18446744073709551616 := ⟨_, rfl⟩
      obtain ⟨k1, hk1⟩ : ∃ h, h = (od + yd + c) / 18446744073709551616 := ⟨_, rfl⟩
      have hs1W : s1 < 18446744073709551616 := by rw [hs1]; exact Nat.mod_lt _ (by omega)
      have hk11 : k1 ≤ 1 := by omega
      have hadd1 : ∀ W, (callFunc 77 #[.int .u64 od, .int .u64 yd, .int .u64 c]).run Tryz.prog W = .ok (.value (.tuple #[.int .u64 (s1 : Int), .int .u64 (k1 : Int)])) W := by
        intro W
        have := add64_eq od yd c hodW hyW hc W
        rwa [← hs1, ← hk1] at this
      have hst : s1 + 18446744073709551616 * k1 = od + yd + c := by omega
      have HNEW := Lib.hid (show ∀ n, GiveRel w ((wr.setCell ⟨g, k + j, none⟩ (.int .u64 (s1 : Int))).drewN n) g x lb j (k + 1) k1 from by
        intro n
        rw [Nat.add_comm k j]
        refine ⟨o.set (j + k) s1, by rw [List.length_set, HOL.out], mem_set HO.out hs1W, HBL.out.set (j + k) s1, rel_step HS.out, ?_, (HFR.out.setCell (fun _ => rfl) _).drewN n⟩
        rw [win_set hko, win_succ HXK.out, take_snoc' HYD.out, val_snoc]
        have e3 : (lb.take k).length = k := by simp; omega
        rw [e3]
        have hv := HV.out
        have t1 := congrArg (W64 ^ k * ·) hst
        simp only [Nat.mul_add] at t1
        have t2 : W64 ^ (k + 1) * k1 = W64 ^ k * (18446744073709551616 * k1) := by
          rw [Nat.pow_succ, Nat.mul_assoc, show W64 = 18446744073709551616 from rfl]
        rw [t2]
        omega)
      clear hst hs1 hk1 hub hyd hodk hxk hblk hfr
      go_wp2
      go_region
      all_goals go_wp2
      all_goals go_roundw
      case rel => exact ⟨k + 1, k1, by go_num, rfl, by omega, hk11, HNEW.out _⟩
      case measure => simp [intOf]; omega
    · obtain rfl : k = lb.length := by omega
      have hko : j + lb.length < o.length := by have := HOL.out; omega
      obtain ⟨od, hodk⟩ : ∃ od, o[j + lb.length]? = some od := ⟨o[j + lb.length], List.getElem?_eq_getElem hko⟩
      have hodW : od < 18446744073709551616 := HO.out od (List.mem_of_getElem? hodk)
      have hxk : x[j + lb.length]? = some od := by rw [← HS.out (j + lb.length) (.inr (Nat.le_refl _))]; exact hodk
      have HXK := Lib.hid hxk
      have q0 : wr.cell? ⟨g, j + lb.length, none⟩ = some (.int .u64 od) := hblk.cell hodk
      have z0 : wr.frozen? ⟨g, j + lb.length, none⟩ = false := hblk.frozen _
      obtain ⟨s1, hs1⟩ : ∃ h, h = (od + 0 + c) % 18446744073709551616 := ⟨_, rfl⟩
      obtain ⟨k1, hk1⟩ : ∃ h, h = (od + 0 + c) / 18446744073709551616 := ⟨_, rfl⟩
      have hs1W : s1 < 18446744073709551616 := by rw [hs1]; exact Nat.mod_lt _ (by omega)
      have hk11 : k1 ≤ 1 := by omega
      have hadd1 : ∀ W, (callFunc 77 #[.int .u64 od, .int .u64 0, .int .u64 c]).run Tryz.prog W = .ok (.value (.tuple #[.int .u64 (s1 : Int), .int .u64 (k1 : Int)])) W := by
        intro W
        have := add64_eq od 0 c hodW (by omega) hc W
        rwa [← hs1, ← hk1] at this
      have hst : s1 + 18446744073709551616 * k1 = od + c := by omega
      have HNEW := Lib.hid (show GiveRel w (wr.setCell ⟨g, j + lb.length, none⟩ (.int .u64 (s1 : Int))) g x lb j (lb.length + 1) k1 from by
        refine ⟨o.set (j + lb.length) s1, by rw [List.length_set, HOL.out], mem_set HO.out hs1W, HBL.out.set _ s1, rel_step HS.out, ?_, HFR.out.setCell (fun _ => rfl) _⟩
        rw [win_set hko, win_succ HXK.out]
        have hv := HV.out
        rw [List.take_of_length_le (show lb.length ≤ lb.length + 1 by omega)]
        rw [List.take_length] at hv
        have t1 := congrArg (W64 ^ lb.length * ·) hst
        simp only [Nat.mul_add] at t1
        have t2 : W64 ^ (lb.length + 1) * k1 = W64 ^ lb.length * (18446744073709551616 * k1) := by
          rw [Nat.pow_succ, Nat.mul_assoc, show W64 = 18446744073709551616 from rfl]
        rw [t2]
        omega)
      clear hst hs1 hk1 hodk hxk hblk hfr
      go_wp2
      go_ret
      exact ⟨k1, by simp, hk11, HNEW.out⟩
end Go.Proofs.YtnpfdelklolchaaGreatDoor
