import Derived.Test.YtepfmoaihhonlaaGreatDoorGRa
import Derived.Test.YtepfmoaihhonlaaGreatDoorShelf
import Derived.Test.YtepfmoaihhonlaaGreatDoorMem
import Derived.Laws.AppendOwn
import Derived.Laws.AppendOwnNone
import Derived.Deep.LoopGhost
/- Package nat: Sub. -/
namespace Go.Proofs.YtepfmoaihhonlaaGreatDoor
open Go Go.RowKit Go.Proofs

/-- the borrow -/
def brw (x y b : Nat) : Nat := if x < y + b then 1 else 0
theorem sub64_eq (x y b : Nat) (hb : b ≤ 1) (w : World) :
    (callFunc 134 #[.int .u64 x, .int .u64 y, .int .u64 b]).run Tryz.prog w =
      .ok (.value (.tuple #[.int .u64 (((x + 18446744073709551616 - y - b) % 18446744073709551616 : Nat) : Int), .int .u64 ((brw x y b : Nat) : Int)])) w := by
  rw [run_callFunc_extern Tryz.func134 (by kernel_rfl) (by kernel_rfl) (by kernel_rfl) (e := sub64Entry) (by kernel_rfl), run_sub64 x y b hb]
  rfl
theorem brw_le (x y b : Nat) : brw x y b ≤ 1 := by unfold brw; split <;> omega
theorem brw_eq {x y b : Nat} (hx : x < 18446744073709551616) (hy : y < 18446744073709551616) (hb : b ≤ 1) : (x + 18446744073709551616 - y - b) % 18446744073709551616 + y + b = x + 18446744073709551616 * brw x y b := by
  unfold brw
  split
  · rw [Nat.mod_eq_of_lt (by omega)]; omega
  · rw [show x + 18446744073709551616 - y - b = (x - y - b) + 18446744073709551616 by omega, Nat.add_mod_right, Nat.mod_eq_of_lt (by omega)]; omega
def SubRel (w wr : World) (g : Nat) (la lb : List Nat) (k c : Nat) : Prop :=
  ∃ o, o.length = la.length ∧ (∀ d ∈ o, d < W64) ∧ Blk wr g o ∧ val W64 (o.take k) + val W64 (lb.take k) = val W64 (la.take k) + W64 ^ k * c ∧ Below w.heap.size w wr
theorem len_le {a b : List Nat} (ha : Norm W64 a) (hb : Norm W64 b) (h : val W64 b ≤ val W64 a) : b.length ≤ a.length := by
  rcases Nat.lt_or_ge a.length b.length with h' | h'
  · have := val_len_lt W64_pos ha hb h'; omega
  · exact h'

set_option maxHeartbeats 2000000 in
set_option maxRecDepth 100000 in
theorem natSub_any (A1 A2 : Option Addr) (c1 c2 : Nat) (l1 l2 : List Nat) (x y : Nat) (w : World) (h1 : NatR w A1 c1 l1 x) (h2 : NatR w A2 c2 l2 y) (hs : l1.length ≤ 1000000) (hxy : y ≤ x) :
    Calls Tryz.prog 62 #[.slice A1 l1.length c1, .slice A2 l2.length c2] w (NatPost (x - y) w) := by
  obtain ⟨i0, hi0, hz0, hz1, hz2⟩ := info_parts Tryz.infoU
  have hle : l2.length ≤ l1.length := len_le h1.norm h2.norm (by rw [h1.val, h2.val]; exact hxy)
  have HN1 := Lib.hid h1
  have HN2 := Lib.hid h2
  clear h1 h2
  go_enter Tryz.func62, Tryz.ntmps62
  go_wp2_with (at_make; refine wpList_make_full _ rfl (.tmp 10) (.tmp 10) 93 rfl w.heap.size 168 i0 _ 1 Tryz.underlying93 hi0 hz0 hz1 .i64 .i64 _ _ l1.length rfl rfl ?m1 ?m2 ?m3 ?m4 ?m5 ?_)
  case m1 => rfl
  case m2 => rfl
  case m3 => rw [hz2]; omega
  case m4 => unfold maxLen; omega
  case m5 => exact Nat.le_refl _
  intro w1 hown hgr
  rw [made_zeros] at hown
  obtain ⟨hblk, _⟩ := Blk.of_own hown
  have hb1 : Below w.heap.size w w1 := (Below.refl _ w).grown hgr (Nat.le_refl _) (fun k hk => by cases hk)
  have hsz1 : w.heap.size < w1.heap.size := heap_lt hblk
  have HBK := Lib.hid hblk
  have HB1 := Lib.hid hb1
  clear hown hgr hblk hb1
  go_wp2
  go_loopw [6, 7, 8, 14] (fun cy _ _ i wr => ∃ (k c : Nat), i = .int .i64 k ∧ cy = .int .u64 c ∧ k ≤ l1.length ∧ c ≤ 1 ∧ SubRel w wr w.heap.size l1 l2 k c) (fun _ _ _ i _ => l1.length - (intOf i).toNat)
  case atStart => exact ⟨0, 0, rfl, rfl, Nat.zero_le _, by omega, List.replicate l1.length 0, by simp, fun d hd => by rw [List.eq_of_mem_replicate hd]; unfold W64; omega, HBK.out, by simp [val], HB1.out⟩
  case round =>
    obtain ⟨k, c, rfl, rfl, hk, hc, o, hol, hod, hblk, hval, hbw⟩ := hrel
    have hgl := heap_lt hblk
    have HO := Lib.hid hod
    have HOL := Lib.hid hol
    have HV := Lib.hid hval
    have HBW := Lib.hid hbw
    have HBL := Lib.hid hblk
    clear hod hol hval
    by_cases hlt : k < l1.length
    · obtain ⟨ba, oa, ua, rfl, hba, hua, qa⟩ := (HN1.out.rd.below hbw (Nat.le_refl _)).at1 hlt
      obtain ⟨da, hda, rfl⟩ := u64s_get hua
      have hdaW : da < 18446744073709551616 := HN1.out.norm.1 da (List.mem_of_getElem? hda)
      have HDA := Lib.hid hda
      have hko : k < o.length := by have := HOL.out; omega
      obtain ⟨od, hod⟩ : ∃ od, o[k]? = some od := ⟨o[k], List.getElem?_eq_getElem hko⟩
      have q0 := hblk.cell hod
      have z0 := hblk.frozen k
      clear hua hda hod hblk hbw
      have step : ∀ yb : Nat, yb < 18446744073709551616 → l2.take (k + 1) = l2.take k ++ (if k < l2.length then [yb] else []) → (k < l2.length ∨ yb = 0) → SubRel w (wr.setCell ⟨w.heap.size, k, none⟩ (.int .u64 (((da + 18446744073709551616 - yb - c) % 18446744073709551616 : Nat) : Int))) w.heap.size l1 l2 (k + 1) (brw da yb c) := by
        intro yb hyb htk hor
        refine ⟨o.set k ((da + 18446744073709551616 - yb - c) % 18446744073709551616), by simp [HOL.out], mem_set HO.out (by unfold W64; omega), HBL.out.set k _, ?_, HBW.out.setCell (Nat.le_refl _) _⟩
        rw [take_set_succ hko, take_snoc' HDA.out, val_snoc, val_snoc, htk]
        have e1 : (o.take k).length = k := by simp; omega
        have e2 : (l1.take k).length = k := by simp; omega
        rw [e1, e2]
        have hv := HV.out
        have e3 : (da + 18446744073709551616 - yb - c) % 18446744073709551616 + yb + c = da + W64 * brw da yb c := brw_eq hdaW hyb hc
        have e4 : W64 ^ k * ((da + 18446744073709551616 - yb - c) % 18446744073709551616) + W64 ^ k * yb + W64 ^ k * c = W64 ^ k * da + W64 ^ (k + 1) * brw da yb c := by
          rw [Nat.pow_succ, Nat.mul_assoc, ← Nat.mul_add, ← Nat.mul_add, ← Nat.mul_add, e3]
        have e5 : val W64 (l2.take k ++ (if k < l2.length then [yb] else [])) = val W64 (l2.take k) + W64 ^ k * yb := by
          rcases Nat.lt_or_ge k l2.length with h | h
          · rw [if_pos h, val_snoc]
            have : (l2.take k).length = k := by simp; omega
            rw [this]
          · rw [if_neg (by omega), List.append_nil]
            have : yb = 0 := by omega
            rw [this]; simp
        rw [e5]
        omega
      have STEP := Lib.hid step
      clear step
      by_cases hlb : k < l2.length
      · have t1 : decide (k < l2.length) = true := by simpa using hlb
        obtain ⟨bb, ob, ub, rfl, hbb, hub, qb⟩ := (HN2.out.rd.below HBW.out (Nat.le_refl _)).at1 hlb
        obtain ⟨db, hdb, rfl⟩ := u64s_get hub
        have hdbW : db < 18446744073709551616 := HN2.out.norm.1 db (List.mem_of_getElem? hdb)
        have HS := Lib.hid (STEP.out db hdbW (by rw [take_snoc' hdb, if_pos hlb]) (.inl hlb))
        have hsub := fun W => sub64_eq da db c hc W
        have hc2 := brw_le da db c
        clear hub hdb
        go_wp2
        go_roundw
        case rel => exact ⟨k + 1, _, by go_num, rfl, by omega, hc2, HS.out⟩
        case measure => simp [intOf]; omega
      · have t1 : decide (k < l2.length) = false := by simpa using hlb
        have HS := Lib.hid (STEP.out 0 (by omega) (by rw [if_neg hlb, List.append_nil, List.take_of_length_le (by omega), List.take_of_length_le (by omega)]) (.inr rfl))
        have hsub : ∀ W, (callFunc 134 #[.int .u64 da, .int .u64 0, .int .u64 c]).run Tryz.prog W = .ok (.value (.tuple #[.int .u64 (((da + 18446744073709551616 - 0 - c) % 18446744073709551616 : Nat) : Int), .int .u64 ((brw da 0 c : Nat) : Int)])) W := fun W => sub64_eq da 0 c hc W
        have hc2 := brw_le da 0 c
        go_wp2
        go_roundw
        case rel => exact ⟨k + 1, _, by go_num, rfl, by omega, hc2, HS.out⟩
        case measure => simp [intOf]; omega
    · obtain rfl : k = l1.length := by omega
      have hrd := hblk.rd
      rw [HOL.out] at hrd
      have hrd' : Rd wr 0 wr.heap.size 1 (some ⟨w.heap.size, 0, none⟩) o.length (u64s o) := hblk.rd
      have hval : val W64 o = x - y := by
        have hv := HV.out
        rw [List.take_length, List.take_of_length_le (by rw [HOL.out]; exact Nat.le_refl _), List.take_of_length_le (by omega), HN1.out.val, HN2.out.val] at hv
        have h1 := val_lt HO.out
        rw [HOL.out] at h1
        rcases Nat.eq_zero_or_pos c with h0 | h0
        · subst h0; omega
        · obtain rfl : c = 1 := by omega
          omega
      have hcut := cut_any (some ⟨w.heap.size, 0, none⟩) l1.length o wr hrd' (by rw [HOL.out]; exact Nat.le_refl _) (by unfold maxLen; omega) (fun h => by cases h)
      rw [HOL.out] at hcut
      have HCUT := Lib.hid hcut
      have hnr := natr_cut (c := l1.length) hrd' HO.out (by rw [HOL.out]; exact Nat.le_refl _) (by unfold maxLen; omega) (fun h => by cases h)
      rw [hval] at hnr
      have HNR := Lib.hid hnr
      clear hblk hbw hrd hrd' hval hcut hnr
      go_wp2_with fail
      refine HCUT.out.mono ?_
      rintro e w' ⟨rfl, rfl⟩
      go_wp2
      go_ret
      exact ⟨_, _, _, rfl, HNR.out, HBW.out⟩
end Go.Proofs.YtepfmoaihhonlaaGreatDoor

/- Package nat: Mul. -/
namespace Go.Proofs.YtepfmoaihhonlaaGreatDoor
open Go Go.RowKit Go.Proofs

/-- one step of the product -/
theorem mul_step {o p c : Nat} (ho : o < 18446744073709551616) (hp : p ≤ 340282366920938463426481119284349108225) (hc : c < 18446744073709551616) :
    o + p + c = (o + (p % 18446744073709551616 + c) % 18446744073709551616) % 18446744073709551616 + 18446744073709551616 * (p / 18446744073709551616 + (p % 18446744073709551616 + c) / 18446744073709551616 + (o + (p % 18446744073709551616 + c) % 18446744073709551616) / 18446744073709551616) ∧
      p / 18446744073709551616 + (p % 18446744073709551616 + c) / 18446744073709551616 + (o + (p % 18446744073709551616 + c) % 18446744073709551616) / 18446744073709551616 < 18446744073709551616 := by omega
theorem mul_le {x y : Nat} (hx : x < 18446744073709551616) (hy : y < 18446744073709551616) : x * y ≤ 340282366920938463426481119284349108225 := by
  have := Nat.mul_le_mul (show x ≤ 18446744073709551615 by omega) (show y ≤ 18446744073709551615 by omega)
  omega
theorem val_zeros {B : Nat} : ∀ {l : List Nat}, (∀ d ∈ l, d = 0) → val B l = 0
  | [], _ => rfl
  | d :: r, h => by
    have := val_zeros (B := B) (l := r) (fun x hx => h x (by simp [hx]))
    simp [val, this, h d (by simp)]
theorem val_take_zero {B : Nat} {l : List Nat} {n : Nat} (h : ∀ j, n ≤ j → j < l.length → l[j]? = some 0) : val B l = val B (l.take n) := by
  conv => lhs; rw [← List.take_append_drop n l, val_append]
  rw [val_zeros (l := l.drop n), Nat.mul_zero, Nat.add_zero]
  intro d hd
  obtain ⟨j, hj, e⟩ := List.getElem_of_mem hd
  rw [List.getElem_drop] at e
  have := h (n + j) (by omega) (by simp at hj; omega)
  rw [List.getElem?_eq_getElem (by simp at hj; omega)] at this
  rw [← e]; exact Option.some.inj this
/-- what the inner loop keeps: o0 is what was there when the row began -/
def MulIn (w wr : World) (g : Nat) (o0 lb : List Nat) (i x k c : Nat) : Prop :=
  ∃ o, o.length = o0.length ∧ (∀ d ∈ o, d < W64) ∧ Blk wr g o ∧ (∀ j, i + k ≤ j → o[j]? = o0[j]?) ∧ val W64 (o.take (i + k)) + W64 ^ (i + k) * c = val W64 (o0.take (i + k)) + W64 ^ i * (x * val W64 (lb.take k)) ∧ Below w.heap.size w wr
/-- what the outer loop keeps -/
def MulOut (w wr : World) (g : Nat) (la lb : List Nat) (i : Nat) : Prop :=
  ∃ o, o.length = la.length + lb.length ∧ (∀ d ∈ o, d < W64) ∧ Blk wr g o ∧ (∀ j, i + lb.length ≤ j → j < o.length → o[j]? = some 0) ∧ val W64 o = val W64 (la.take i) * val W64 lb ∧ Below w.heap.size w wr

set_option maxHeartbeats 4000000 in
set_option maxRecDepth 100000 in
theorem natMul_any (A1 A2 : Option Addr) (c1 c2 : Nat) (l1 l2 : List Nat) (x y : Nat) (w : World) (h1 : NatR w A1 c1 l1 x) (h2 : NatR w A2 c2 l2 y) (hs : l1.length ≤ 1000000) (hs2 : l2.length ≤ 1000000) :
    Calls Tryz.prog 90 #[.slice A1 l1.length c1, .slice A2 l2.length c2] w (NatPost (x * y) w) := by
  obtain ⟨i0, hi0, hz0, hz1, hz2⟩ := info_parts Tryz.infoU
  have HN1 := Lib.hid h1
  have HN2 := Lib.hid h2
  clear h1 h2
  go_enter Tryz.func90, Tryz.ntmps90
  go_wp2_with (at_make; refine wpList_make_full _ rfl (.tmp 18) (.tmp 18) 93 rfl w.heap.size 168 i0 _ 1 Tryz.underlying93 hi0 hz0 hz1 .i64 .i64 _ _ (l1.length + l2.length) rfl rfl ?m1 ?m2 ?m3 ?m4 ?m5 ?_)
  case m1 => omega
  case m2 => omega
  case m3 => rw [hz2]; omega
  case m4 => unfold maxLen; omega
  case m5 => exact Nat.le_refl _
  intro w1 hown hgr
  rw [made_zeros] at hown
  obtain ⟨hblk, _⟩ := Blk.of_own hown
  have hb1 : Below w.heap.size w w1 := (Below.refl _ w).grown hgr (Nat.le_refl _) (fun k hk => by cases hk)
  have hsz1 : w.heap.size < w1.heap.size := heap_lt hblk
  have HBK := Lib.hid hblk
  have HB1 := Lib.hid hb1
  clear hown hgr hblk hb1
  go_wp2
  go_loopw [6, 7, 8, 9, 10, 11, 12, 13, 22] (fun _ _ _ _ _ _ _ _ i wr => ∃ k : Nat, i = .int .i64 k ∧ k ≤ l1.length ∧ MulOut w wr w.heap.size l1 l2 k) (fun _ _ _ _ _ _ _ _ i _ => l1.length - (intOf i).toNat)
  case atStart => exact ⟨0, rfl, Nat.zero_le _, List.replicate (l1.length + l2.length) 0, by simp, fun d hd => by rw [List.eq_of_mem_replicate hd]; unfold W64; omega, HBK.out, fun j _ hj => by rw [List.getElem?_replicate]; simp at hj; simp; omega, by
    simp only [List.take_zero, val, Nat.zero_mul]
    have : ∀ n, val W64 (List.replicate n 0) = 0 := by
      intro n
      induction n with
      | zero => rfl
      | succ n ih => simp [List.replicate_succ, val, ih]
    exact this _, HB1.out⟩
  case round =>
    obtain ⟨i, rfl, hi, o0, hol, hod, hblk, hzero, hval, hbw⟩ := hrel
    have HO := Lib.hid hod
    have HOL := Lib.hid hol
    have HV := Lib.hid hval
    have HBW := Lib.hid hbw
    have HBL := Lib.hid hblk
    have HZ := Lib.hid hzero
    have hgl := heap_lt hblk
    clear hod hol hval hzero
    by_cases hlt : i < l1.length
    · obtain ⟨ba, oa, ua, rfl, hba, hua, qa⟩ := (HN1.out.rd.below hbw (Nat.le_refl _)).at1 hlt
      obtain ⟨xd, hxd, rfl⟩ := u64s_get hua
      have hxW : xd < 18446744073709551616 := HN1.out.norm.1 xd (List.mem_of_getElem? hxd)
      have HXD := Lib.hid hxd
      obtain ⟨wo, hwo⟩ : ∃ wo : World, wo = wr := ⟨_, rfl⟩
      clear hua hxd hblk hbw
      go_wp2
      subst hwo
      go_loopw [8, 9, 10, 11, 12, 13, 29] (fun cy _ _ _ _ _ j wr => ∃ (k c : Nat), j = .int .i64 k ∧ cy = .int .u64 c ∧ k ≤ l2.length ∧ c < 18446744073709551616 ∧ MulIn w wr w.heap.size o0 l2 i xd k c) (fun _ _ _ _ _ _ j _ => l2.length - (intOf j).toNat)
      case atStart => exact ⟨0, 0, rfl, rfl, Nat.zero_le _, by omega, o0, rfl, HO.out, HBL.out, fun _ _ => rfl, by simp [val], HBW.out⟩
      case round =>
        obtain ⟨k, c, rfl, rfl, hk, hc, o, hol2, hod2, hblk2, hsame, hval2, hbw2⟩ := hrel
        have hgl2 := heap_lt hblk2
        have HO2 := Lib.hid hod2
        have HOL2 := Lib.hid hol2
        have HS2 := Lib.hid hsame
        have HV2 := Lib.hid hval2
        have HBW2 := Lib.hid hbw2
        have HBL2 := Lib.hid hblk2
        have hlen : o.length = l1.length + l2.length := by rw [hol2, HOL.out]
        have HLN := Lib.hid hlen
        clear hod2 hol2 hsame hval2 hlen
        by_cases hlk : k < l2.length
        · obtain ⟨bb, ob, ub, rfl, hbb, hub, qb⟩ := (HN2.out.rd.below hbw2 (Nat.le_refl _)).at1 hlk
          obtain ⟨yd, hyd, rfl⟩ := u64s_get hub
          have hyW : yd < 18446744073709551616 := HN2.out.norm.1 yd (List.mem_of_getElem? hyd)
          have HYD := Lib.hid hyd
          have hko : i + k < o.length := by have := HLN.out; omega
          obtain ⟨od, hodk⟩ : ∃ od, o[i + k]? = some od := ⟨o[i + k], List.getElem?_eq_getElem hko⟩
          have hodW : od < 18446744073709551616 := HO2.out od (List.mem_of_getElem? hodk)
          have q0 := hblk2.cell hodk
          have z0 := hblk2.frozen (i + k)
          have HOD := Lib.hid hodk
          have hst := mul_step hodW (mul_le hxW hyW) hc
          have hmul := Tryz.bits_Mul64 xd yd hxW hyW
          obtain ⟨hi_, hhi⟩ : ∃ h, h = xd * yd / 18446744073709551616 := ⟨_, rfl⟩
          obtain ⟨lo, hlo⟩ : ∃ h, h = xd * yd % 18446744073709551616 := ⟨_, rfl⟩
          have hloW : lo < 18446744073709551616 := by rw [hlo]; exact Nat.mod_lt _ (by omega)
          rw [← hhi, ← hlo] at hst
          have hmul2 : ∀ W, Calls Tryz.prog 150 #[.int .u64 xd, .int .u64 yd] W fun e w' => e = .returned (.tuple #[.int .u64 (hi_ : Int), .int .u64 (lo : Int)]) ∧ W = w' := by
            intro W
            refine (hmul W).mono ?_
            rintro e w' ⟨h1, h2⟩
            rw [hhi, hlo]
            exact ⟨h1, h2.symm⟩
          have HMUL := Lib.hid hmul2
          obtain ⟨s1, hs1⟩ : ∃ h, h = (lo + c) % 18446744073709551616 := ⟨_, rfl⟩
          obtain ⟨k1, hk1⟩ : ∃ h, h = (lo + c) / 18446744073709551616 := ⟨_, rfl⟩
          have hs1W : s1 < 18446744073709551616 := by rw [hs1]; exact Nat.mod_lt _ (by omega)
          have a1 := fun W => add64_eq lo c 0 hloW hc (by omega) W
          rw [Nat.add_zero, ← hs1, ← hk1] at a1
          rw [← hs1, ← hk1] at hst
          obtain ⟨s2, hs2_⟩ : ∃ h, h = (od + s1) % 18446744073709551616 := ⟨_, rfl⟩
          obtain ⟨k2, hk2⟩ : ∃ h, h = (od + s1) / 18446744073709551616 := ⟨_, rfl⟩
          have a2 := fun W => add64_eq od s1 0 hodW hs1W (by omega) W
          rw [Nat.add_zero, ← hs2_, ← hk2] at a2
          rw [← hs2_, ← hk2] at hst
          obtain ⟨hst1, hst2⟩ := hst
          have hs2W : s2 < 18446744073709551616 := by rw [hs2_]; exact Nat.mod_lt _ (by omega)
          have hadd1 : ∀ W, (callFunc 132 #[.int .u64 lo, .int .u64 c, .int .u64 0]).run Tryz.prog W = .ok (.value (.tuple #[.int .u64 (s1 : Int), .int .u64 (k1 : Int)])) W := a1
          have hadd2 : ∀ W, (callFunc 132 #[.int .u64 od, .int .u64 s1, .int .u64 0]).run Tryz.prog W = .ok (.value (.tuple #[.int .u64 (s2 : Int), .int .u64 (k2 : Int)])) W := a2
          have HNEW := Lib.hid (show MulIn w (wr.setCell ⟨w.heap.size, i + k, none⟩ (.int .u64 (s2 : Int))) w.heap.size o0 l2 i xd (k + 1) (hi_ + k1 + k2) from by
            refine ⟨o.set (i + k) s2, by rw [List.length_set, HOL2.out], mem_set HO2.out (by unfold W64; omega), HBL2.out.set (i + k) s2, fun j hj => ?_, ?_, HBW2.out.setCell (Nat.le_refl _) _⟩
            · rw [List.getElem?_set_ne (by omega)]; exact HS2.out j (by omega)
            · have e0 : o0[i + k]? = some od := by rw [← HS2.out (i + k) (Nat.le_refl _)]; exact HOD.out
              rw [show i + (k + 1) = (i + k) + 1 by omega, take_set_succ hko, take_snoc' e0, val_snoc, val_snoc, take_snoc' HYD.out, val_snoc]
              have e1 : (o.take (i + k)).length = i + k := by simp; omega
              have e2 : (o0.take (i + k)).length = i + k := by have := HOL2.out; simp; omega
              have e3 : (l2.take k).length = k := by simp; omega
              rw [e1, e2, e3]
              have hv := HV2.out
              have t1 := congrArg (W64 ^ (i + k) * ·) hst1
              simp only [Nat.mul_add] at t1
              have t2 : W64 ^ (i + k + 1) * (hi_ + k1 + k2) = W64 ^ (i + k) * (18446744073709551616 * hi_) + W64 ^ (i + k) * (18446744073709551616 * k1) + W64 ^ (i + k) * (18446744073709551616 * k2) := by
                rw [Nat.pow_succ, Nat.mul_assoc, show W64 = 18446744073709551616 from rfl, Nat.mul_add, Nat.mul_add, Nat.mul_add, Nat.mul_add]
              have t3 : W64 ^ i * (xd * (val W64 (l2.take k) + W64 ^ k * yd)) = W64 ^ i * (xd * val W64 (l2.take k)) + W64 ^ (i + k) * (xd * yd) := by
                rw [Nat.mul_add, Nat.mul_add, Nat.pow_add]
                congr 1
                rw [Nat.mul_assoc, Nat.mul_left_comm xd]
              rw [t2, t3]
              omega)
          clear hst1 a1 a2 hmul hmul2 hs1 hk1 hs2_ hk2 hhi hlo hub hyd hodk hblk2 hbw2
          go_wp2_with (go_at_call 150; refine (HMUL.out _).mono ?_; rintro e w' ⟨rfl, rfl⟩)
          go_roundw
          case rel => exact ⟨k + 1, hi_ + k1 + k2, by go_num, by first | rfl | go_num | (simp; done), by omega, hst2, HNEW.out⟩
          case measure => simp [intOf]; omega
        · obtain rfl : k = l2.length := by omega
          have hko : i + l2.length < o.length := by have := HLN.out; omega
          obtain ⟨od, hodk⟩ : ∃ od, o[i + l2.length]? = some od := ⟨o[i + l2.length], List.getElem?_eq_getElem hko⟩
          have q0 := hblk2.cell hodk
          have z0 := hblk2.frozen (i + l2.length)
          have HNEW := Lib.hid (show MulOut w (wr.setCell ⟨w.heap.size, i + l2.length, none⟩ (.int .u64 (c : Int))) w.heap.size l1 l2 (i + 1) from by
            have hzz : ∀ j, i + l2.length + 1 ≤ j → j < (o.set (i + l2.length) c).length → (o.set (i + l2.length) c)[j]? = some 0 := by
              intro j hj hj2
              rw [List.getElem?_set_ne (by omega), HS2.out j (by omega)]
              exact HZ.out j (by omega) (by have := HOL2.out; simp at hj2; omega)
            refine ⟨o.set (i + l2.length) c, by rw [List.length_set, HLN.out], mem_set HO2.out (by unfold W64; omega), HBL2.out.set _ c, fun j hj hj2 => hzz j (by omega) hj2, ?_, HBW2.out.setCell (Nat.le_refl _) _⟩
            rw [val_take_zero hzz, take_set_succ hko, val_snoc, take_snoc' HXD.out, val_snoc]
            have e1 : (o.take (i + l2.length)).length = i + l2.length := by simp; omega
            have e2 : (l1.take i).length = i := by simp; omega
            have hv := HV2.out
            rw [List.take_length] at hv
            rw [e1, e2, hv, ← val_take_zero (HZ.out), HV.out, Nat.add_mul, Nat.mul_assoc])
          clear hodk hblk2 hbw2
          go_wp2
          go_roundw
          case rel => exact ⟨i + 1, by go_num, by omega, HNEW.out⟩
          case measure => simp [intOf]; omega
    · obtain rfl : i = l1.length := by omega
      have hrd := hblk.rd
      have hval : val W64 o0 = x * y := by
        have := HV.out
        rwa [List.take_length, HN1.out.val, HN2.out.val] at this
      have hcut := cut_any (some ⟨w.heap.size, 0, none⟩) (l1.length + l2.length) o0 wr hrd (by rw [HOL.out]; exact Nat.le_refl _) (by unfold maxLen; omega) (fun h => by cases h)
      rw [HOL.out] at hcut
      have HCUT := Lib.hid hcut
      have hnr := natr_cut (c := l1.length + l2.length) hrd HO.out (by rw [HOL.out]; exact Nat.le_refl _) (by unfold maxLen; omega) (fun h => by cases h)
      rw [hval] at hnr
      have HNR := Lib.hid hnr
      clear hblk hbw hrd hval hcut hnr
      go_wp2_with fail
      refine HCUT.out.mono ?_
      rintro e w' ⟨rfl, rfl⟩
      go_wp2
      go_ret
      exact ⟨_, _, _, rfl, HNR.out, HBW.out⟩
end Go.Proofs.YtepfmoaihhonlaaGreatDoor

/- Package dynamometerref0: Mul. -/
namespace Go.Proofs.YtepfmoaihhonlaaGreatDoor
open Go Go.RowKit Go.Proofs

/-- what the inner loop keeps: o0 is what was there when the row began -/
def RMulIn (w wr : World) (g : Nat) (o0 lb : List Nat) (i x k c : Nat) : Prop :=
  ∃ o, o.length = o0.length ∧ (∀ d ∈ o, d < T4) ∧ Blk4 wr g o ∧ (∀ j, i + k ≤ j → o[j]? = o0[j]?) ∧ val T4 (o.take (i + k)) + T4 ^ (i + k) * c = val T4 (o0.take (i + k)) + T4 ^ i * (x * val T4 (lb.take k)) ∧ Below w.heap.size w wr
/-- what the outer loop keeps -/
def RMulOut (w wr : World) (g : Nat) (la lb : List Nat) (i : Nat) : Prop :=
  ∃ o, o.length = la.length + lb.length ∧ (∀ d ∈ o, d < T4) ∧ Blk4 wr g o ∧ (∀ j, i + lb.length ≤ j → j < o.length → o[j]? = some 0) ∧ val T4 o = val T4 (la.take i) * val T4 lb ∧ Below w.heap.size w wr
theorem mul4_le {x y : Nat} (hx : x < 10000) (hy : y < 10000) : x * y ≤ 99980001 := by
  have := Nat.mul_le_mul (show x ≤ 9999 by omega) (show y ≤ 9999 by omega)
  omega

set_option maxHeartbeats 4000000 in
set_option maxRecDepth 100000 in
theorem rnatMul_any (A1 A2 : Option Addr) (c1 c2 : Nat) (l1 l2 : List Nat) (x y : Nat) (w : World) (h1 : RNatR w A1 c1 l1 x) (h2 : RNatR w A2 c2 l2 y) (hs : l1.length ≤ 1000000) (hs2 : l2.length ≤ 1000000) :
    Calls Tryz.prog 75 #[.slice A1 l1.length c1, .slice A2 l2.length c2] w (RNatPost (x * y) w) := by
  obtain ⟨i0, hi0, hz0, hz1, hz2⟩ := info_parts Tryz.infoI4
  have HN1 := Lib.hid h1
  have HN2 := Lib.hid h2
  clear h1 h2
  go_enter Tryz.func75, Tryz.ntmps75
  go_wp2_with (at_make; refine wpList_make_full _ rfl (.tmp 14) (.tmp 14) 37 rfl w.heap.size 3 i0 _ 1 Tryz.underlying37 hi0 hz0 hz1 .i64 .i64 _ _ (l1.length + l2.length) rfl rfl ?m1 ?m2 ?m3 ?m4 ?m5 ?_)
  case m1 => omega
  case m2 => omega
  case m3 => rw [hz2]; omega
  case m4 => unfold maxLen; omega
  case m5 => exact Nat.le_refl _
  intro w1 hown hgr
  rw [made_zeros4] at hown
  obtain ⟨hblk, _⟩ := Blk4.of_own hown
  have hb1 : Below w.heap.size w w1 := (Below.refl _ w).grown hgr (Nat.le_refl _) (fun k hk => by cases hk)
  have hsz1 : w.heap.size < w1.heap.size := heap_lt hblk
  have HBK := Lib.hid hblk
  have HB1 := Lib.hid hb1
  clear hown hgr hblk hb1
  go_wp2
  go_loopw [6, 7, 8, 9] (fun i _ _ _ wr => ∃ k : Nat, i = .int .i64 k ∧ k ≤ l1.length ∧ RMulOut w wr w.heap.size l1 l2 k) (fun i _ _ _ _ => l1.length - (intOf i).toNat)
  case atStart => exact ⟨0, rfl, Nat.zero_le _, List.replicate (l1.length + l2.length) 0, by simp, fun d hd => by rw [List.eq_of_mem_replicate hd]; unfold T4; omega, HBK.out, fun j _ hj => by rw [List.getElem?_replicate]; simp at hj; simp; omega, by
    simp only [List.take_zero, val, Nat.zero_mul]
    exact val_zeros fun d hd => List.eq_of_mem_replicate hd, HB1.out⟩
  case round =>
    obtain ⟨i, rfl, hi, o0, hol, hod, hblk, hzero, hval, hbw⟩ := hrel
    have HO := Lib.hid hod
    have HOL := Lib.hid hol
    have HV := Lib.hid hval
    have HBW := Lib.hid hbw
    have HBL := Lib.hid hblk
    have HZ := Lib.hid hzero
    have hgl := heap_lt hblk
    clear hod hol hval hzero
    by_cases hlt : i < l1.length
    · obtain ⟨xd, hxd⟩ : ∃ xd, l1[i]? = some xd := ⟨l1[i], List.getElem?_eq_getElem hlt⟩
      have hxW : xd < 10000 := HN1.out.norm.1 xd (List.mem_of_getElem? hxd)
      have HXD := Lib.hid hxd
      obtain ⟨wo, hwo⟩ : ∃ wo : World, wo = wr := ⟨_, rfl⟩
      clear hxd hblk hbw
      go_wp2
      subst hwo
      go_loopw [7, 8, 9] (fun cy j _ wr => ∃ (k c : Nat), j = .int .i64 k ∧ cy = .int .i64 c ∧ k ≤ l2.length + 1 ∧ (k ≤ l2.length ∨ c = 0) ∧ c < 10000 ∧ RMulIn w wr w.heap.size o0 l2 i xd k c) (fun _ j _ _ => l2.length + 1 - (intOf j).toNat)
      case atStart => exact ⟨0, 0, rfl, rfl, Nat.zero_le _, .inr rfl, by omega, o0, rfl, HO.out, HBL.out, fun _ _ => rfl, by simp [val], HBW.out⟩
      case round =>
        obtain ⟨k, c, rfl, rfl, hk, hkc, hc, o, hol2, hod2, hblk2, hsame, hval2, hbw2⟩ := hrel
        have hgl2 := heap_lt hblk2
        have HO2 := Lib.hid hod2
        have HOL2 := Lib.hid hol2
        have HS2 := Lib.hid hsame
        have HV2 := Lib.hid hval2
        have HBW2 := Lib.hid hbw2
        have HBL2 := Lib.hid hblk2
        have hlen : o.length = l1.length + l2.length := by rw [hol2, HOL.out]
        have HLN := Lib.hid hlen
        clear hod2 hol2 hsame hval2 hlen
        obtain ⟨ba, oa, ua, rfl, hba, hua, qa⟩ := (HN1.out.rd.below hbw2 (Nat.le_refl _)).at1 hlt
        obtain ⟨xd', hxd', rfl⟩ := d4s_get hua
        obtain rfl : xd = xd' := by rw [HXD.out] at hxd'; exact Option.some.inj hxd'
        clear hua hxd'
        have step : i + k < o.length → ∀ od, o[i + k]? = some od → ∀ W, Blk4 W w.heap.size o → Below w.heap.size w W → RMulIn w (W.setCell ⟨w.heap.size, i + k, none⟩ (.int .i64 (((od + c + xd * dig l2 k) % 10000 : Nat) : Int))) w.heap.size o0 l2 i xd (k + 1) ((od + c + xd * dig l2 k) / 10000) := by
          intro hko od hod W hbW hwW
          refine ⟨o.set (i + k) ((od + c + xd * dig l2 k) % 10000), by rw [List.length_set, HOL2.out], mem_set4 HO2.out (by unfold T4; omega), hbW.set (i + k) _, fun j hj => ?_, ?_, hwW.setCell (Nat.le_refl _) _⟩
          · rw [List.getElem?_set_ne (by omega)]; exact HS2.out j (by omega)
          · have e0 : o0[i + k]? = some od := by rw [← HS2.out (i + k) (Nat.le_refl _)]; exact hod
            rw [show i + (k + 1) = (i + k) + 1 by omega, take_set_succ hko, take_snoc' e0, val_snoc, val_snoc, val_take_dig]
            have e1 : (o.take (i + k)).length = i + k := by simp; omega
            have e2 : (o0.take (i + k)).length = i + k := by have := HOL2.out; simp; omega
            rw [e1, e2]
            have hv := HV2.out
            have t1 : T4 ^ (i + k) * ((od + c + xd * dig l2 k) % 10000) + T4 ^ (i + k + 1) * ((od + c + xd * dig l2 k) / 10000) = T4 ^ (i + k) * od + T4 ^ (i + k) * c + T4 ^ (i + k) * (xd * dig l2 k) := by
              rw [Nat.pow_succ, Nat.mul_assoc, ← Nat.mul_add, ← Nat.mul_add, ← Nat.mul_add]; congr 1; unfold T4; omega
            have t3 : T4 ^ i * (xd * (val T4 (l2.take k) + T4 ^ k * dig l2 k)) = T4 ^ i * (xd * val T4 (l2.take k)) + T4 ^ (i + k) * (xd * dig l2 k) := by
              rw [Nat.mul_add, Nat.mul_add, Nat.pow_add]
              congr 1
              rw [Nat.mul_assoc, Nat.mul_left_comm xd]
            rw [t3]
            omega
        have STEP := Lib.hid step
        clear step
        by_cases hlk : k < l2.length
        · have tk : decide (k < l2.length) = true := by simpa using hlk
          obtain ⟨bb, ob, ub, rfl, hbb, hub, qb⟩ := (HN2.out.rd.below hbw2 (Nat.le_refl _)).at1 hlk
          obtain ⟨yd, hyd, rfl⟩ := d4s_get hub
          have hyW : yd < 10000 := HN2.out.norm.1 yd (List.mem_of_getElem? hyd)
          have ey := dig_some hyd
          have hko : i + k < o.length := by have := HLN.out; omega
          obtain ⟨od, hodk⟩ : ∃ od, o[i + k]? = some od := ⟨o[i + k], List.getElem?_eq_getElem hko⟩
          have hodW : od < 10000 := HO2.out od (List.mem_of_getElem? hodk)
          have q0 := hblk2.cell hodk
          have z0 := hblk2.frozen (i + k)
          have HNEW := Lib.hid (STEP.out hko od hodk)
          rw [ey] at HNEW
          have hp := mul4_le hxW hyW
          obtain ⟨p, hpe⟩ : ∃ p, p = xd * yd := ⟨_, rfl⟩
          rw [← hpe] at HNEW hp
          have hpi : (xd : Int) * (yd : Int) = (p : Int) := by rw [hpe]; simp
          have e : (((od + c + p) % 10000 : Nat) : Int) = ((od : Int) + c + p) % 10000 := by omega
          rw [e] at HNEW
          clear hpe e ey hub hyd hodk hblk2 hbw2
          go_wp2_with fail
          go_quiet (fail)
          go_wp2
          go_roundw
          case rel => exact ⟨k + 1, (od + c + p) / 10000, by go_num, by first | rfl | go_num | (simp; done), by omega, by omega, by omega, HNEW.out _ HBL2.out (below_drewN HBW2.out _)⟩
          case measure => simp [intOf]; omega
        · have tk : decide (k < l2.length) = false := by simpa using hlk
          by_cases hcp : 0 < c
          · have tc : decide ((0 : Int) < (c : Int)) = true := by simp; omega
            have tc' : decide (0 < c) = true := by simpa using hcp
            obtain rfl : k = l2.length := by omega
            have hko : i + l2.length < o.length := by have := HLN.out; omega
            have hodk : o[i + l2.length]? = some 0 := by rw [HS2.out _ (Nat.le_refl _)]; exact HZ.out _ (Nat.le_refl _) (by have := HOL2.out; omega)
            have q0 := hblk2.cell hodk
            have z0 := hblk2.frozen (i + l2.length)
            have HNEW := Lib.hid (STEP.out hko 0 hodk)
            rw [dig_none (Nat.le_refl _), Nat.mul_zero, Nat.add_zero, Nat.zero_add] at HNEW
            have e : ((c % 10000 : Nat) : Int) = (c : Int) % 10000 := by omega
            rw [e] at HNEW
            clear e hodk hblk2 hbw2
            go_wp2
            go_roundw
            case rel => exact ⟨l2.length + 1, c / 10000, by go_num, by first | rfl | go_num | (simp; done), by omega, by omega, by omega, HNEW.out _ HBL2.out HBW2.out⟩
            case measure => simp [intOf]
          · have tc : decide ((0 : Int) < (c : Int)) = false := by simp; omega
            have tc' : decide (0 < c) = false := by simpa using hcp
            have HNEW := Lib.hid (show RMulOut w wr w.heap.size l1 l2 (i + 1) from by
              obtain rfl : c = 0 := by omega
              have hv := HV2.out
              have z1 : ∀ j, i + k ≤ j → j < o.length → o[j]? = some 0 := fun j hj hj2 => by
                rw [HS2.out j hj]; exact HZ.out j (by omega) (by have := HOL2.out; omega)
              have z2 : ∀ j, i + k ≤ j → j < o0.length → o0[j]? = some 0 := fun j hj hj2 => HZ.out j (by omega) hj2
              rw [← val_take_zero z1, ← val_take_zero z2, Nat.mul_zero, Nat.add_zero, HV.out, List.take_of_length_le (by omega : l2.length ≤ k)] at hv
              refine ⟨o, HLN.out, HO2.out, HBL2.out, fun j hj hj2 => ?_, ?_, HBW2.out⟩
              · rw [HS2.out j (by omega)]; exact HZ.out j (by omega) (by have := HOL2.out; omega)
              · rw [hv, take_snoc' HXD.out, val_snoc, Nat.add_mul]
                have e2 : (l1.take i).length = i := by simp; omega
                rw [e2, Nat.mul_assoc])
            clear hblk2 hbw2
            go_wp2
            go_roundw
            case rel => exact ⟨i + 1, by go_num, by omega, HNEW.out⟩
            case measure => simp [intOf]; omega
    · obtain rfl : i = l1.length := by omega
      have hrd := hblk.rd
      have hval : val T4 o0 = x * y := by
        have := HV.out
        rwa [List.take_length, HN1.out.val, HN2.out.val] at this
      have hcut := trimmed_any (some ⟨w.heap.size, 0, none⟩) (l1.length + l2.length) o0 wr hrd (by rw [HOL.out]; exact Nat.le_refl _) (by unfold maxLen; omega) (fun h => by cases h)
      rw [HOL.out] at hcut
      have HCUT := Lib.hid hcut
      have hnr := rnatr_trim hrd HO.out (by rw [HOL.out]; unfold maxLen; omega) (fun h => by cases h)
      rw [hval] at hnr
      have HNR := Lib.hid hnr
      clear hblk hbw hrd hval hcut hnr
      go_wp2_with fail
      refine HCUT.out.mono ?_
      rintro e w' ⟨rfl, rfl⟩
      go_wp2
      go_ret
      exact ⟨_, _, _, rfl, HNR.out, HBW.out⟩
end Go.Proofs.YtepfmoaihhonlaaGreatDoor

/- Package dynamometerref0: Sub. -/
namespace Go.Proofs.YtepfmoaihhonlaaGreatDoor
open Go Go.RowKit Go.Proofs

def RSubRel (w wr : World) (g : Nat) (la lb : List Nat) (k c : Nat) : Prop :=
  ∃ o, o.length = la.length ∧ (∀ d ∈ o, d < T4) ∧ Blk4 wr g o ∧ val T4 (o.take k) + val T4 (lb.take k) = val T4 (la.take k) + T4 ^ k * c ∧ Below w.heap.size w wr
theorem len_le4 {a b : List Nat} (ha : Norm T4 a) (hb : Norm T4 b) (h : val T4 b ≤ val T4 a) : b.length ≤ a.length := by
  rcases Nat.lt_or_ge a.length b.length with h' | h'
  · have := val_len_lt T4_pos ha hb h'; omega
  · exact h'

set_option maxHeartbeats 2000000 in
set_option maxRecDepth 100000 in
theorem rnatSub_any (A1 A2 : Option Addr) (c1 c2 : Nat) (l1 l2 : List Nat) (x y : Nat) (w : World) (h1 : RNatR w A1 c1 l1 x) (h2 : RNatR w A2 c2 l2 y) (hs : l1.length ≤ 1000000) (hxy : y ≤ x) :
    Calls Tryz.prog 79 #[.slice A1 l1.length c1, .slice A2 l2.length c2] w (RNatPost (x - y) w) := by
  obtain ⟨i0, hi0, hz0, hz1, hz2⟩ := info_parts Tryz.infoI4
  have hle : l2.length ≤ l1.length := len_le4 h1.norm h2.norm (by rw [h1.val, h2.val]; exact hxy)
  have HN1 := Lib.hid h1
  have HN2 := Lib.hid h2
  clear h1 h2
  go_enter Tryz.func79, Tryz.ntmps79
  go_wp2_with (at_make; refine wpList_make_full _ rfl (.tmp 10) (.tmp 10) 37 rfl w.heap.size 3 i0 _ 1 Tryz.underlying37 hi0 hz0 hz1 .i64 .i64 _ _ l1.length rfl rfl ?m1 ?m2 ?m3 ?m4 ?m5 ?_)
  case m1 => rfl
  case m2 => rfl
  case m3 => rw [hz2]; omega
  case m4 => unfold maxLen; omega
  case m5 => exact Nat.le_refl _
  intro w1 hown hgr
  rw [made_zeros4] at hown
  obtain ⟨hblk, _⟩ := Blk4.of_own hown
  have hb1 : Below w.heap.size w w1 := (Below.refl _ w).grown hgr (Nat.le_refl _) (fun k hk => by cases hk)
  have hsz1 : w.heap.size < w1.heap.size := heap_lt hblk
  have HBK := Lib.hid hblk
  have HB1 := Lib.hid hb1
  clear hown hgr hblk hb1
  go_wp2
  go_loopw [6, 7, 8] (fun cy i _ wr => ∃ (k c : Nat), i = .int .i64 k ∧ cy = .int .i64 c ∧ k ≤ l1.length ∧ c ≤ 1 ∧ RSubRel w wr w.heap.size l1 l2 k c) (fun _ i _ _ => l1.length - (intOf i).toNat)
  case atStart => exact ⟨0, 0, rfl, rfl, Nat.zero_le _, by omega, List.replicate l1.length 0, by simp, fun d hd => by rw [List.eq_of_mem_replicate hd]; unfold T4; omega, HBK.out, by simp [val], HB1.out⟩
  case round =>
    obtain ⟨k, c, rfl, rfl, hk, hc, o, hol, hod, hblk, hval, hbw⟩ := hrel
    have hgl := heap_lt hblk
    have HO := Lib.hid hod
    have HOL := Lib.hid hol
    have HV := Lib.hid hval
    have HBW := Lib.hid hbw
    have HBL := Lib.hid hblk
    clear hod hol hval
    by_cases hlt : k < l1.length
    · obtain ⟨ba, oa, ua, rfl, hba, hua, qa⟩ := (HN1.out.rd.below hbw (Nat.le_refl _)).at1 hlt
      obtain ⟨da, hda, rfl⟩ := d4s_get hua
      have hdaW : da < 10000 := HN1.out.norm.1 da (List.mem_of_getElem? hda)
      have HDA := Lib.hid hda
      have hko : k < o.length := by have := HOL.out; omega
      obtain ⟨od, hod⟩ : ∃ od, o[k]? = some od := ⟨o[k], List.getElem?_eq_getElem hko⟩
      have q0 := hblk.cell hod
      have z0 := hblk.frozen k
      clear hua hda hod hblk hbw
      have step : ∀ yb dn cn : Nat, dn < 10000 → dn + yb + c = da + 10000 * cn → l2.take (k + 1) = l2.take k ++ (if k < l2.length then [yb] else []) → (k < l2.length ∨ yb = 0) → RSubRel w (wr.setCell ⟨w.heap.size, k, none⟩ (.int .i64 (dn : Int))) w.heap.size l1 l2 (k + 1) cn := by
        intro yb dn cn hdn e3 htk hor
        refine ⟨o.set k dn, by simp [HOL.out], mem_set4 HO.out (by unfold T4; omega), HBL.out.set k _, ?_, HBW.out.setCell (Nat.le_refl _) _⟩
        rw [take_set_succ hko, take_snoc' HDA.out, val_snoc, val_snoc, htk]
        have e1 : (o.take k).length = k := by simp; omega
        have e2 : (l1.take k).length = k := by simp; omega
        rw [e1, e2]
        have hv := HV.out
        have e4 : T4 ^ k * dn + T4 ^ k * yb + T4 ^ k * c = T4 ^ k * da + T4 ^ (k + 1) * cn := by
          rw [Nat.pow_succ, Nat.mul_assoc, ← Nat.mul_add, ← Nat.mul_add, ← Nat.mul_add, e3]; rfl
        have e5 : val T4 (l2.take k ++ (if k < l2.length then [yb] else [])) = val T4 (l2.take k) + T4 ^ k * yb := by
          rcases Nat.lt_or_ge k l2.length with h | h
          · rw [if_pos h, val_snoc]
            have : (l2.take k).length = k := by simp; omega
            rw [this]
          · rw [if_neg (by omega), List.append_nil]
            have : yb = 0 := by omega
            rw [this]; simp
        rw [e5]
        omega
      have STEP := Lib.hid step
      clear step
      by_cases hlb : k < l2.length
      · have t1 : decide (k < l2.length) = true := by simpa using hlb
        obtain ⟨bb, ob, ub, rfl, hbb, hub, qb⟩ := (HN2.out.rd.below HBW.out (Nat.le_refl _)).at1 hlb
        obtain ⟨db, hdb, rfl⟩ := d4s_get hub
        have hdbW : db < 10000 := HN2.out.norm.1 db (List.mem_of_getElem? hdb)
        have HTK := Lib.hid (show l2.take (k + 1) = l2.take k ++ (if k < l2.length then [db] else []) by rw [take_snoc' hdb, if_pos hlb])
        clear hub hdb
        by_cases hneg : da < db + c
        · have t2 : decide ((da : Int) - c - db < 0) = true := by simp; omega
          have HS := Lib.hid (STEP.out db (da + 10000 - c - db) 1 (by omega) (by omega) HTK.out (.inl hlb))
          have e : ((da + 10000 - c - db : Nat) : Int) = (da : Int) - c - db + 10000 := by omega
          rw [e] at HS
          clear e
          go_wp2
          go_roundw
          case rel => exact ⟨k + 1, 1, by go_num, rfl, by omega, by omega, HS.out⟩
          case measure => simp [intOf]; omega
        · have t2 : decide ((da : Int) - c - db < 0) = false := by simp; omega
          have HS := Lib.hid (STEP.out db (da - c - db) 0 (by omega) (by omega) HTK.out (.inl hlb))
          have e : ((da - c - db : Nat) : Int) = (da : Int) - c - db := by omega
          rw [e] at HS
          clear e
          go_wp2
          go_roundw
          case rel => exact ⟨k + 1, 0, by go_num, rfl, by omega, by omega, HS.out⟩
          case measure => simp [intOf]; omega
      · have t1 : decide (k < l2.length) = false := by simpa using hlb
        have HTK := Lib.hid (show l2.take (k + 1) = l2.take k ++ (if k < l2.length then [0] else []) by rw [if_neg hlb, List.append_nil, List.take_of_length_le (by omega), List.take_of_length_le (by omega)])
        by_cases hneg : da < c
        · have t2 : decide ((da : Int) - c < 0) = true := by simp; omega
          have HS := Lib.hid (STEP.out 0 (da + 10000 - c) 1 (by omega) (by omega) HTK.out (.inr rfl))
          have e : ((da + 10000 - c : Nat) : Int) = (da : Int) - c + 10000 := by omega
          rw [e] at HS
          clear e
          go_wp2
          go_roundw
          case rel => exact ⟨k + 1, 1, by go_num, rfl, by omega, by omega, HS.out⟩
          case measure => simp [intOf]; omega
        · have t2 : decide ((da : Int) - c < 0) = false := by simp; omega
          have HS := Lib.hid (STEP.out 0 (da - c) 0 (by omega) (by omega) HTK.out (.inr rfl))
          have e : ((da - c : Nat) : Int) = (da : Int) - c := by omega
          rw [e] at HS
          clear e
          go_wp2
          go_roundw
          case rel => exact ⟨k + 1, 0, by go_num, rfl, by omega, by omega, HS.out⟩
          case measure => simp [intOf]; omega
    · obtain rfl : k = l1.length := by omega
      have hrd' : Rd wr 0 wr.heap.size 1 (some ⟨w.heap.size, 0, none⟩) o.length (d4s o) := hblk.rd
      have hval : val T4 o = x - y := by
        have hv := HV.out
        rw [List.take_length, List.take_of_length_le (by rw [HOL.out]; exact Nat.le_refl _), List.take_of_length_le (by omega), HN1.out.val, HN2.out.val] at hv
        have h1 := val_lt HO.out
        rw [HOL.out] at h1
        rcases Nat.eq_zero_or_pos c with h0 | h0
        · subst h0; omega
        · obtain rfl : c = 1 := by omega
          omega
      have hcut := trimmed_any (some ⟨w.heap.size, 0, none⟩) l1.length o wr hrd' (by rw [HOL.out]; exact Nat.le_refl _) (by unfold maxLen; omega) (fun h => by cases h)
      rw [HOL.out] at hcut
      have HCUT := Lib.hid hcut
      have hnr := rnatr_trim hrd' HO.out (by rw [HOL.out]; unfold maxLen; omega) (fun h => by cases h)
      rw [hval] at hnr
      have HNR := Lib.hid hnr
      clear hblk hbw hrd' hval hcut hnr
      go_wp2_with fail
      refine HCUT.out.mono ?_
      rintro e w' ⟨rfl, rfl⟩
      go_wp2
      go_ret
      exact ⟨_, _, _, rfl, HNR.out, HBW.out⟩
end Go.Proofs.YtepfmoaihhonlaaGreatDoor

/- Division digit by digit, in plain Lean: base 10000. -/
namespace Go.Proofs.YtepfmoaihhonlaaGreatDoor

/-- one digit more: H is what the higher digits are -/
theorem ddm_step {B H d : Nat} (hB : 0 < B) (hd : d < 10000) :
    (d + T4 * H) / B = T4 * (H / B) + (d + T4 * (H % B)) / B ∧ (d + T4 * H) % B = (d + T4 * (H % B)) % B ∧ (d + T4 * (H % B)) / B < T4 := by
  have h1 := Nat.div_add_mod H B
  have hr := Nat.mod_lt H hB
  have e : d + T4 * H = d + T4 * (H % B) + B * (T4 * (H / B)) := by
    conv => lhs; rw [← h1]
    rw [Nat.mul_add, Nat.mul_left_comm]; omega
  refine ⟨?_, ?_, ?_⟩
  · rw [e, Nat.add_mul_div_left _ _ hB, Nat.add_comm]
  · rw [e, Nat.add_mul_mod_self_left]
  · refine Nat.div_lt_of_lt_mul ?_
    have : T4 * (H % B) + T4 ≤ T4 * B := by
      rw [← Nat.mul_succ]; exact Nat.mul_le_mul_left _ hr
    rw [Nat.mul_comm B]
    unfold T4 at *; omega
theorem val_drop_dig {l : List Nat} {k d : Nat} (h : l[k]? = some d) : val T4 (l.drop k) = d + T4 * val T4 (l.drop (k + 1)) := by
  obtain ⟨hlt, e⟩ := List.getElem?_eq_some_iff.1 h
  rw [List.drop_eq_getElem_cons hlt, e]; rfl
theorem val_drop_set {l : List Nat} {k q : Nat} (h : k < l.length) : val T4 ((l.set k q).drop k) = q + T4 * val T4 (l.drop (k + 1)) := by
  rw [List.drop_eq_getElem_cons (by simpa using h)]
  simp only [List.getElem_set_self]
  rw [List.drop_set_of_lt (by omega)]; rfl
/-- the bisection -/
theorem bis_up {B X lo hi m : Nat} (hB : 0 < B) (_h2 : X / B ≤ hi) (hm : m = (lo + hi + 1) / 2) (hlh : lo < hi) (hc : B * m ≤ X) : m ≤ X / B ∧ m ≤ hi ∧ lo < m := by
  refine ⟨(Nat.le_div_iff_mul_le hB).2 (by rw [Nat.mul_comm]; exact hc), by omega, by omega⟩
theorem bis_down {B X lo hi m : Nat} (hB : 0 < B) (h1 : lo ≤ X / B) (hm : m = (lo + hi + 1) / 2) (hlh : lo < hi) (hc : ¬ B * m ≤ X) : X / B ≤ m - 1 ∧ lo ≤ m - 1 ∧ m - 1 < hi := by
  have : X / B < m := (Nat.div_lt_iff_lt_mul hB).2 (by rw [Nat.mul_comm]; omega)
  omega
end Go.Proofs.YtepfmoaihhonlaaGreatDoor

/- append of a slice that reads as cells, nil let in. -/
namespace Go.Proofs.YtepfmoaihhonlaaGreatDoor
open Go Go.RowKit Go.Proofs

theorem wpList_append_rd {P : Program} {w : World} {ops : Array Oper} {rest : List Oper} {o : Oper} {a : Act} {Q : Exit → Act → World → Prop} (hgd : o.guard = none) (s x : Operand) (t : TypeId)
    (ho : o.op = .call { callee := .builtin .append, args := #[s, x], argTypes := #[t, t] })
    (base : Nat) (e : TypeId) (i : TypeInfo) (z : Value) (size bytes : Nat) (ht : P.underlying t = some (.slice e)) (hi : P.info? e = some i) (hz : i.zero = some z)
    (hsize : i.size = size) (hby : i.bytes = bytes) (hzs : z.cells.size = size) (hsz : 0 < size)
    (v : Value) (n : Nat) (xs : List Value) (hs : a.eval s = v) (hown : w.ownsRow base e size v n xs)
    (A : Option Addr) (m c L B : Nat) (news : List Value) (hx : a.eval x = .slice A m c) (hA : A = none → m = 0 ∧ c = 0) (hrd : Rd w L B size A m news) (h1 : ∀ u ∈ news, u.oneCell' = true)
    (h63 : n + m ≤ maxLen) (hbytes : (n + m) * bytes ≤ 140737488355328) (hbase : base ≤ w.heap.size)
    (h : ∀ v' w', w'.ownsRow base e size v' (n + m) (xs ++ news) → w.grownBy w' v.ownBlock → wpList P ops Q rest (a.put o.dst v') w') : wpList P ops Q (o :: rest) a w := by
  cases A with
  | none =>
    obtain ⟨rfl, rfl⟩ := hA rfl
    have hn : news = [] := by have := hrd.1; simpa using this
    subst hn
    refine wpList_append_own_none hgd s x t ho base e i size ht hi v n xs hs hown hx ?_
    exact h v w (by simpa using hown) ⟨rfl, rfl, rfl, Nat.le_refl _, fun _ _ _ => rfl⟩
  | some ad =>
    refine wpList_append_own w hgd s x t ho base e i z size bytes ht hi hz hsize hby hzs hsz v n xs hs hown ad m c news hx hrd.1 ?_ h1 h63 hbytes hbase (fun v' w' g1 g2 _ => h v' w' g1 g2)
    intro j u hj
    have hj' := (List.getElem?_eq_some_iff.1 hj).1
    rw [hrd.1] at hj'
    have hm : 0 < m := by
      rcases Nat.eq_zero_or_pos m with h0 | h0
      · subst h0; simp at hj'
      · exact h0
    obtain ⟨b, o', e', _, _, hc⟩ := hrd.2 hm
    have e' : ad = ⟨b, o', none⟩ := by injection e'
    subst e'
    have := hc j u hj
    unfold Addr.add
    split
    · rename_i e0; subst e0; simpa using this
    · exact this
end Go.Proofs.YtepfmoaihhonlaaGreatDoor

/- Package dynamometerref0: small, DivMod. -/
namespace Go.Proofs.YtepfmoaihhonlaaGreatDoor
open Go Go.RowKit Go.Proofs

theorem rlen_lt {l : List Nat} {x n : Nat} (hn : Norm T4 l) (hv : val T4 l = x) (h : x < T4 ^ n) : l.length ≤ n := by
  rcases Nat.lt_or_ge n l.length with h' | h'
  · have hne : l ≠ [] := by rintro rfl; simp at h'
    have := val_ge T4_pos hn hne
    have : T4 ^ n ≤ T4 ^ (l.length - 1) := Nat.pow_le_pow_right (by unfold T4; omega) (by omega)
    omega
  · exact h'
theorem rval_lt {l : List Nat} {x : Nat} (hn : Norm T4 l) (hv : val T4 l = x) : x < T4 ^ l.length := by rw [← hv]; exact val_lt hn.1
theorem T4_4 : T4 ^ 4 = 10000000000000000 := by unfold T4; rfl

set_option maxHeartbeats 1000000 in
set_option maxRecDepth 100000 in
theorem rSmall_any (A : Option Addr) (c : Nat) (l : List Nat) (x : Nat) (n : Int) (w : World) (h : RNatR w A c l x) (hs : l.length ≤ 1000000) (hn : n ≤ 1000000000000000) :
    Calls Tryz.prog 180 #[.slice A l.length c, .int .i64 n] w (RNatPost (x * n.toNat) w) := by
  have HO := Lib.hid (rnatOf_any n w (by omega))
  have HN := Lib.hid h
  clear h
  go_enter Tryz.func180, Tryz.ntmps180
  go_wp2_with fail
  refine HO.out.mono ?_
  rintro e w1 ⟨A1, c1, l1, rfl, hn1, hb1⟩
  have hl1 : l1.length ≤ 4 := rlen_lt hn1.norm hn1.val (by rw [T4_4]; omega)
  have HM := Lib.hid (rnatMul_any A A1 c c1 l l1 _ _ w1 (HN.out.on hb1) hn1 hs (by omega))
  have HB1 := Lib.hid hb1
  clear hn1 hb1
  go_wp2_with fail
  refine HM.out.mono ?_
  rintro e w2 ⟨A2, c2, l2, rfl, hn2, hb2⟩
  have HN2 := Lib.hid hn2
  have HB2 := Lib.hid (below_next HB1.out hb2)
  clear hn2 hb2
  go_wp2
  go_ret
  exact ⟨A2, c2, l2, rfl, HN2.out, HB2.out⟩

theorem RNatR.keep {w w' : World} {A : Option Addr} {c : Nat} {l : List Nat} {x : Nat} (h : RNatR w A c l x) (hs : w.heap.size ≤ w'.heap.size) (hk : ∀ b o, A = some ⟨b, o, none⟩ → b < w.heap.size → 0 < l.length → w'.heap[b]? = w.heap[b]?) : RNatR w' A c l x :=
  ⟨⟨h.rd.1, fun hn => by
    obtain ⟨b, o, e, h1, h2, h3⟩ := h.rd.2 hn
    exact ⟨b, o, e, h1, by omega, fun j u hu => (World.cell?_of_block (hk b o e h2 hn)).trans (h3 j u hu)⟩⟩, h.norm, h.val, h.cap, h.max, h.nil⟩
theorem own_one (w : World) (v : Value) (t : TypeId) : (w.alloc (.cells #[v] t)).ownsRow w.heap.size t 1 (.slice (some ⟨w.heap.size, 0, none⟩) 1 1) 1 [v] :=
  ⟨rfl, .inr ⟨w.heap.size, 1, #[v], rfl, Nat.le_refl _, alloc_at _ _ _ rfl, Nat.le_refl _, by unfold maxLen; omega, rfl, rfl⟩⟩
/-- what the loop over the digits keeps: quotient and rest of the digits from k on -/
def DivO (w wr : World) (g : Nat) (la : List Nat) (y k : Nat) (v : Value) : Prop :=
  ∃ o, o.length = la.length ∧ (∀ d ∈ o, d < T4) ∧ Blk4 wr g o ∧ val T4 (o.drop k) = val T4 (la.drop k) / y ∧ Below w.heap.size w wr ∧
    ∃ A c l, v = .slice A l.length c ∧ RNatR wr A c l (val T4 (la.drop k) % y)
theorem dm_len {l lb : List Nat} {x y : Nat} (hn : Norm T4 l) (hv : val T4 l = x) (hb : Norm T4 lb) (hy : val T4 lb = y) (h : x < y) : l.length ≤ lb.length :=
  rlen_lt hn hv (Nat.lt_trans h (rval_lt hb hy))

set_option maxHeartbeats 4000000 in
set_option maxRecDepth 100000 in
theorem rnatDivMod_any (A1 A2 : Option Addr) (c1 c2 : Nat) (la lb : List Nat) (x y : Nat) (w : World) (h1 : RNatR w A1 c1 la x) (h2 : RNatR w A2 c2 lb y) (hs : la.length ≤ 900000) (hs2 : lb.length ≤ 900000) (hy : 0 < y) :
    Calls Tryz.prog 147 #[.slice A1 la.length c1, .slice A2 lb.length c2] w fun e w' => ∃ A3 c3 l3 A4 c4 l4, e = .returned (.tuple #[.slice A3 l3.length c3, .slice A4 l4.length c4]) ∧ RNatR w' A3 c3 l3 (x / y) ∧ RNatR w' A4 c4 l4 (x % y) ∧ Below w.heap.size w w' := by
  obtain ⟨i0, hi0, hz0, hz1, hz2⟩ := info_parts Tryz.infoI4
  have HN1 := Lib.hid h1
  have HN2 := Lib.hid h2
  clear h1 h2
  go_enter Tryz.func147, Tryz.ntmps147
  go_wp2_with (at_make; refine wpList_make_full _ rfl (.tmp 13) (.tmp 13) 37 rfl w.heap.size 3 i0 _ 1 Tryz.underlying37 hi0 hz0 hz1 .i64 .i64 _ _ la.length rfl rfl ?m1 ?m2 ?m3 ?m4 ?m5 ?_)
  case m1 => rfl
  case m2 => rfl
  case m3 => rw [hz2]; omega
  case m4 => unfold maxLen; omega
  case m5 => exact Nat.le_refl _
  intro w1 hown hgr
  rw [made_zeros4] at hown
  obtain ⟨hblk, _⟩ := Blk4.of_own hown
  have hb1 : Below w.heap.size w w1 := (Below.refl _ w).grown hgr (Nat.le_refl _) (fun k hk => by cases hk)
  have hsz1 : w.heap.size < w1.heap.size := heap_lt hblk
  have HBK := Lib.hid hblk
  have HB1 := Lib.hid hb1
  clear hown hgr hblk hb1
  go_wp2
  go_loopw [7, 8, 9, 10, 11] (fun rv iv _ _ _ wr => ∃ k : Nat, iv = .int .i64 ((k : Int) - 1) ∧ k ≤ la.length ∧ DivO w wr w.heap.size la y k rv) (fun _ iv _ _ _ _ => (intOf iv + 1).toNat)
  case atStart => exact ⟨la.length, rfl, Nat.le_refl _, List.replicate la.length 0, by simp, fun d hd => by rw [List.eq_of_mem_replicate hd]; unfold T4; omega, HBK.out, by rw [List.drop_of_length_le (by simp), List.drop_length]; simp [val], HB1.out, none, 0, [], rfl, by rw [List.drop_length]; simpa [val] using rnatr_nil w1⟩
  case round =>
    obtain ⟨k, rfl, hk, o, hol, hod, hblk, hval, hbw, A, c, l, rfl, hrn⟩ := hrel
    have HO := Lib.hid hod
    have HOL := Lib.hid hol
    have HV := Lib.hid hval
    have HBW := Lib.hid hbw
    have HBL := Lib.hid hblk
    have HRN := Lib.hid hrn
    have hgl := heap_lt hblk
    cases k with
    | zero =>
      have hval0 : val T4 o = x / y := by have := HV.out; rw [List.drop_zero, List.drop_zero, HN1.out.val] at this; exact this
      rw [List.drop_zero, HN1.out.val] at HRN
      have hrd' := hblk.rd
      have HCUT := Lib.hid (trimmed_any (some ⟨w.heap.size, 0, none⟩) la.length o wr hrd' (by rw [HOL.out]; exact Nat.le_refl _) (by unfold maxLen; omega) (fun h => by cases h))
      have hnr := rnatr_trim hrd' HO.out (by rw [HOL.out]; unfold maxLen; omega) (fun h => by cases h)
      rw [hval0] at hnr
      have HNR := Lib.hid hnr
      rw [HOL.out] at HCUT
      clear hod hol hval hblk hrn hbw hval0 hrd' hnr
      go_wp2_with fail
      refine HCUT.out.mono ?_
      rintro e w' ⟨rfl, rfl⟩
      go_wp2
      go_ret2
      exact ⟨_, _, _, _, _, _, rfl, HNR.out, HRN.out, HBW.out⟩
    | succ j =>
      have e : (((j + 1 : Nat) : Int) - 1) = (j : Int) := by omega
      rw [e]
      obtain ⟨b, oo, u, rfl, hb, hu, qk⟩ := (HN1.out.rd.old hbw).at1 (show j < la.length by omega)
      obtain ⟨d, hd, rfl⟩ := d4s_get hu
      have hdW : d < 10000 := HN1.out.norm.1 d (List.mem_of_getElem? hd)
      have hlr : l.length ≤ lb.length := dm_len hrn.norm hrn.val HN2.out.norm HN2.out.val (Nat.mod_lt _ hy)
      have hstep := ddm_step (H := val T4 (la.drop (j + 1))) hy hdW
      rw [← val_drop_dig hd] at hstep
      obtain ⟨R, hR⟩ : ∃ R, R = val T4 (la.drop (j + 1)) % y := ⟨_, rfl⟩
      rw [← hR] at hstep hrn HRN
      have HST := Lib.hid hstep
      clear hu hod hol hval hblk hrn hstep hR
      go_wp2_with (at_builtin; refine wpList_append_rd rfl (.tmp 26) (.tmp 27) 37 rfl wr.heap.size 3 i0 _ 1 8 Tryz.underlying37 hi0 hz0 hz1 hz2 rfl (by decide) (.slice (some ⟨wr.heap.size, 0, none⟩) 1 1) 1 [.int .i64 (d : Int)] rfl (own_one wr _ _) A l.length c 0 (wr.alloc (.cells #[.int .i64 (d : Int)] 3)).heap.size (d4s l) rfl HRN.out.nil (HRN.out.on ((Below.refl _ wr).alloc (Nat.le_refl _) _)).rd ?c1 ?c2 ?c3 ?c4 ?_)
      case c1 => intro u hu; obtain ⟨z, _, rfl⟩ := List.mem_map.1 hu; rfl
      case c2 => unfold maxLen; omega
      case c3 => omega
      case c4 => simp
      intro v5 w5 hown5 hgr5
      obtain ⟨A5, c5, rfl, hc5, hcm5, hA5⟩ := ownsRow_shape hown5
      have hb5 : Below wr.heap.size wr w5 := ((Below.refl _ wr).alloc (Nat.le_refl _) (.cells #[.int .i64 (d : Int)] 3)).grown hgr5 (by simp) (fun k hk => by cases hk; exact Nat.le_refl _)
      have hlen5 : (d :: l).length = 1 + l.length := by simp; omega
      have hrd5 : Rd w5 0 w5.heap.size 1 A5 (d :: l).length (d4s (d :: l)) := by rw [hlen5]; exact (Rd.of_own hown5).more (Nat.zero_le _) (Nat.le_refl _)
      have HAP := Lib.hid (show ∀ b o, A5 = some ⟨b, o, none⟩ → wr.heap.size ≤ b from fun b o e => by
        obtain ⟨b', o', e', h1, _⟩ := (Rd.of_own hown5).2 (by omega)
        rw [e] at e'
        simp only [Option.some.injEq, Addr.mk.injEq, and_true] at e'
        omega)
      have hval5 : val T4 (d :: l) = d + T4 * R := by have := HRN.out.val; simp [val, this]
      have HTR := Lib.hid (trimmed_any A5 c5 (d :: l) w5 hrd5 (by rw [hlen5]; exact hc5) hcm5 (fun h => by have := hA5 h; rw [hlen5]; exact this))
      have hnr := rnatr_trim hrd5 (fun x hx => by
        rcases List.mem_cons.1 hx with h | h
        · rw [h]; exact hdW
        · exact HRN.out.norm.1 x h) (by rw [hlen5]; unfold maxLen; omega) (fun h => by rw [hlen5]; exact (hA5 h).1)
      rw [hval5] at hnr
      have hl6 : (trim (d :: l)).length ≤ l.length + 1 := Nat.le_trans (trim_length _) (by simp)
      rw [hlen5] at HTR
      have HB5 := Lib.hid hb5
      obtain ⟨l6, hl6e⟩ : ∃ l6, l6 = trim (d :: l) := ⟨_, rfl⟩
      rw [← hl6e] at HTR hnr hl6
      have HN6 := Lib.hid hnr
      obtain ⟨X, hX⟩ : ∃ X, X = d + T4 * R := ⟨_, rfl⟩
      rw [← hX] at HN6 HST
      have hq := HST.out.2.2
      unfold T4 at hq
      have HD := Lib.hid hd
      clear hown5 hgr5 hrd5 hval5 hnr hl6e hX hb5 qk hA5 hd
      have HSM := Lib.hid (fun W n (hb : Below w5.heap.size w5 W) (h0 : n ≤ 1000000000000000) => rSmall_any A2 c2 lb y n W (HN2.out.on (below_next HBW.out (below_next HB5.out hb))) (by omega) h0)
      have HCM := Lib.hid (fun W A3 c3 l3 z (hb : Below w5.heap.size w5 W) (h3 : RNatR W A3 c3 l3 z) (hl3 : l3.length ≤ 1000000) => rnatCmp_any A3 A5 c3 l6.length l3 l6 z X W h3 (HN6.out.on hb) hl3 (by omega))
      have HSB := Lib.hid (fun W A3 c3 l3 z (hb : Below w5.heap.size w5 W) (h3 : RNatR W A3 c3 l3 z) (hz : z ≤ X) => rnatSub_any A5 A3 l6.length c3 l6 l3 X z W (HN6.out.on hb) h3 (by omega) hz)
      have hyl : y < T4 ^ lb.length := rval_lt HN2.out.norm HN2.out.val
      have HLEN := Lib.hid (fun (W : World) A3 c3 (l3 : List Nat) m (h3 : RNatR W A3 c3 l3 (y * m)) (hm : m < 10000) => show l3.length ≤ lb.length + 1 from rlen_lt h3.norm h3.val (by
        rw [Nat.pow_succ]
        exact Nat.lt_of_le_of_lt (Nat.mul_le_mul_left y (Nat.le_of_lt hm)) (by unfold T4 at *; exact Nat.mul_lt_mul_of_pos_right hyl (by omega))))
      clear hyl
      go_wp2_with fail
      refine HTR.out.mono ?_
      rintro e w6 ⟨rfl, rfl⟩
      go_wp2_with fail
      go_loopw [9, 10, 11] (fun lv hv _ wr2 => ∃ lo hi : Nat, lv = .int .i64 lo ∧ hv = .int .i64 hi ∧ lo ≤ X / y ∧ X / y ≤ hi ∧ hi ≤ 9999 ∧ Below w5.heap.size w5 wr2) (fun lv hv _ _ => (intOf hv - intOf lv).toNat)
      case atStart => exact ⟨0, 9999, rfl, rfl, Nat.zero_le _, by omega, Nat.le_refl _, Below.refl _ _⟩
      case round =>
        obtain ⟨lo, hi, rfl, rfl, hlo, hhi, hh9, hbi⟩ := hrel
        have HBI := Lib.hid hbi
        clear hbi
        by_cases hlh : lo < hi
        · have t1 : decide ((lo : Int) < (hi : Int)) = true := by simpa using hlh
          have t1' : decide (lo < hi) = true := by simpa using hlh
          obtain ⟨m, hm⟩ : ∃ m, m = (lo + hi + 1) / 2 := ⟨_, rfl⟩
          have hm9 : m ≤ 9999 := by omega
          have hm1 : 1 ≤ m := by omega
          have hmi : ((lo : Int) + hi + 1).tdiv 2 = (m : Int) := by
            rw [Int.tdiv_eq_ediv_of_nonneg (by omega)]; omega
          have HS2 := Lib.hid (HSM.out wr (m : Int) HBI.out (by omega))
          rw [Int.toNat_natCast] at HS2
          have HU := Lib.hid (fun hc => bis_up (X := X) (lo := lo) (hi := hi) hy hhi hm hlh hc)
          have HDN := Lib.hid (fun hc => bis_down (X := X) (lo := lo) (hi := hi) hy hlo hm hlh hc)
          clear hm
          go_wp2_with fail
          refine HS2.out.mono ?_
          rintro e w7 ⟨A7, c7, l7, rfl, hn7, hb7⟩
          have hb7' := below_next HBI.out hb7
          have hl7 := HLEN.out w7 A7 c7 l7 m hn7 (by omega)
          have HC7 := Lib.hid (HCM.out w7 A7 c7 l7 _ hb7' hn7 (by omega))
          have HB7 := Lib.hid hb7'
          obtain ⟨cv, hcv⟩ : ∃ cv, cv = cmpN (y * m) X := ⟨_, rfl⟩
          rw [← hcv] at HC7
          clear hn7 hb7 hb7'
          by_cases hc : y * m ≤ X
          · have hu := HU.out hc
            have tc : decide (cv ≤ 0) = true := by rw [hcv]; unfold cmpN; simp; split <;> (try split) <;> omega
            clear hcv hc
            go_wp2_with fail
            refine HC7.out.mono ?_
            rintro e w8 ⟨rfl, q, rfl⟩
            go_wp2
            go_roundw
            case rel => exact ⟨m, hi, rfl, rfl, hu.1, hhi, hh9, below_drewN HB7.out _⟩
            case measure => simp [intOf]; omega
          · have hu := HDN.out hc
            have tc : decide (cv ≤ 0) = false := by rw [hcv]; unfold cmpN; simp; split <;> (try split) <;> omega
            clear hcv hc
            go_wp2_with fail
            refine HC7.out.mono ?_
            rintro e w8 ⟨rfl, q, rfl⟩
            go_wp2
            go_roundw
            case rel => exact ⟨lo, m - 1, rfl, by go_num, hlo, hu.1, by omega, below_drewN HB7.out _⟩
            case measure => simp [intOf]; omega
        · have t1 : decide ((lo : Int) < (hi : Int)) = false := by simpa using hlh
          have t1' : decide (lo < hi) = false := by simpa using hlh
          obtain rfl : lo = hi := by omega
          have hq2 : lo = X / y := by omega
          have HX := Lib.hid hq2
          obtain ⟨od, hod⟩ : ∃ od, o[j]? = some od := ⟨o[j]'(by have := HOL.out; omega), List.getElem?_eq_getElem _⟩
          have hbl2 : Blk4 wr w.heap.size o := (below_next HB5.out HBI.out).block _ hgl |>.trans HBL.out
          have q0 := hbl2.cell hod
          have z0 := hbl2.frozen j
          have hb9 : Below w.heap.size w (wr.setCell ⟨w.heap.size, j, none⟩ (.int .i64 (lo : Int))) := (below_next HBW.out (below_next HB5.out HBI.out)).setCell (Nat.le_refl _) _
          have hj : j < o.length := by have := HOL.out; omega
          have HNEW := Lib.hid (hbl2.set j lo)
          have HB9 := Lib.hid hb9
          have hbi := HBI.out.size
          have HN9 := Lib.hid (show RNatR (wr.setCell ⟨w.heap.size, j, none⟩ (.int .i64 (lo : Int))) A5 l6.length l6 X from (HN6.out.on HBI.out).keep (by simp [World.setCell]) (fun b o e _ _ => Below.heap_setCell _ _ _ _ (by have := HAP.out b o e; simp only; omega)))
          have HS9 := Lib.hid (rSmall_any A2 c2 lb y lo _ (HN2.out.on hb9) (by omega) (by omega))
          rw [Int.toNat_natCast] at HS9
          have hlX : y * lo ≤ X := by rw [hq2]; exact Nat.mul_div_le X y
          have hmod : X - y * lo = X % y := by have := Nat.div_add_mod X y; rw [← hq2] at this; omega
          have HDO := Lib.hid (show ∀ W A c (l : List Nat), Below (wr.setCell ⟨w.heap.size, j, none⟩ (.int .i64 (lo : Int))).heap.size (wr.setCell ⟨w.heap.size, j, none⟩ (.int .i64 (lo : Int))) W → RNatR W A c l (X - y * lo) → DivO w W w.heap.size la y j (.slice A l.length c) from fun W A c l hb hn => by
            refine ⟨o.set j lo, by simp [HOL.out], mem_set4 HO.out (by unfold T4; omega), (hb.block _ (heap_lt HNEW.out)).trans HNEW.out, ?_, HB9.out.trans (hb.mono HB9.out.size), A, c, l, rfl, ?_⟩
            · rw [val_drop_set hj, HV.out, HX.out]; rw [HST.out.1, Nat.add_comm]
            · rw [hmod] at hn; rw [HST.out.2.1]; exact hn)
          have hlo9 : lo < 10000 := by omega
          clear hod hbl2 hb9 hq2 hmod hj
          go_wp2_with fail
          refine HS9.out.mono ?_
          rintro e w7 ⟨A7, c7, l7, rfl, hn7, hb7⟩
          have HB7 := Lib.hid hb7
          have HS8 := Lib.hid (rnatSub_any A5 A7 l6.length c7 l6 l7 X _ w7 (HN9.out.on hb7) hn7 (by omega) hlX)
          clear hn7 hb7 q0 z0
          go_wp2_with fail
          refine HS8.out.mono ?_
          rintro e w8 ⟨A8, c8, l8, rfl, hn8, hb8⟩
          have HD8 := Lib.hid (HDO.out w8 A8 c8 l8 (below_next HB7.out hb8) hn8)
          clear hn8 hb8
          go_wp2
          go_roundw
          case rel => exact ⟨j, by go_num, by omega, HD8.out⟩
          case measure => simp [intOf]
end Go.Proofs.YtepfmoaihhonlaaGreatDoor

/- Package dynamometerref0: Gcd. -/
namespace Go.Proofs.YtepfmoaihhonlaaGreatDoor
open Go Go.RowKit Go.Proofs

set_option maxHeartbeats 2000000 in
set_option maxRecDepth 100000 in
theorem rnatGcd_any (A1 A2 : Option Addr) (c1 c2 : Nat) (l1 l2 : List Nat) (x y : Nat) (w : World) (h1 : RNatR w A1 c1 l1 x) (h2 : RNatR w A2 c2 l2 y) (hs : l1.length ≤ 900000) (hs2 : l2.length ≤ 900000) :
    Calls Tryz.prog 146 #[.slice A1 l1.length c1, .slice A2 l2.length c2] w (RNatPost (Nat.gcd x y) w) := by
  have HN1 := Lib.hid h1
  have HN2 := Lib.hid h2
  clear h1 h2
  go_enter Tryz.func146, Tryz.ntmps146
  go_wp2_with fail
  go_loopg [0, 1, 5, 6] y (fun k a b _ _ wr => ∃ (A1 A2 : Option Addr) (c1 c2 : Nat) (l1 l2 : List Nat) (x' : Nat), a = .slice A1 l1.length c1 ∧ b = .slice A2 l2.length c2 ∧ RNatR wr A1 c1 l1 x' ∧ RNatR wr A2 c2 l2 k ∧ Nat.gcd x' k = Nat.gcd x y ∧ l1.length ≤ 900000 ∧ l2.length ≤ 900000 ∧ Below w.heap.size w wr)
  case atStart => exact ⟨A1, A2, c1, c2, l1, l2, x, rfl, rfl, HN1.out, HN2.out, rfl, hs, hs2, Below.refl _ _⟩
  case round =>
    obtain ⟨A3, A4, c3, c4, l3, l4, x', rfl, rfl, h3, h4, hg, hs3, hs4, hb⟩ := hrel
    rcases Nat.eq_zero_or_pos gk with h0 | h0
    · have h0' : l4 = [] := (val_zero T4_pos h4.norm).1 (by rw [h4.val, h0])
      subst h0'
      have HR := Lib.hid (show RNatPost (Nat.gcd x y) w (.returned (.slice A3 l3.length c3)) wr from ⟨_, _, _, rfl, by rw [← hg, h0, Nat.gcd_zero_right]; exact h3, hb⟩)
      clear hg h3 h4 hb h0
      go_wp2
      go_ret
      exact HR.out
    · have hl4 : l4 ≠ [] := by
        rintro rfl
        have := h4.val
        simp [val] at this; omega
      have hl4' : l4.length ≠ 0 := fun h => hl4 (List.eq_nil_of_length_eq_zero h)
      have hz : decide (0 < (l4.length : Int)) = true := by simp; omega
      have hz' : decide (0 < l4.length) = true := by simp; omega
      have HD := Lib.hid (rnatDivMod_any A3 A4 c3 c4 l3 l4 x' gk wr h3 h4 hs3 hs4 h0)
      have HG := Lib.hid hg
      have H4 := Lib.hid h4
      have HB := Lib.hid hb
      clear hg h3 h4 hb hl4 hl4'
      go_wp2_with fail
      refine HD.out.mono ?_
      rintro e w1 ⟨A5, c5, l5, A6, c6, l6, rfl, h5, h6, hb1⟩
      have HR := Lib.hid (show RNatR w1 A4 c4 l4 gk ∧ RNatR w1 A6 c6 l6 (x' % gk) ∧ Nat.gcd gk (x' % gk) = Nat.gcd x y ∧ l6.length ≤ 900000 ∧ Below w.heap.size w w1 from ⟨H4.out.on hb1, h6, by
        rw [← HG.out, Nat.gcd_comm gk, ← Nat.gcd_rec, Nat.gcd_comm], by
        have := dm_len h6.norm h6.val H4.out.norm H4.out.val (Nat.mod_lt x' h0)
        omega, HB.out.trans (hb1.mono HB.out.size)⟩)
      clear h5 h6 hb1
      go_wp2
      go_roundg (x' % gk)
      case measure => exact Nat.mod_lt _ h0
      case rel => exact ⟨A4, A6, c4, c6, l4, l6, gk, rfl, rfl, HR.out.1, HR.out.2.1, HR.out.2.2.1, hs4, HR.out.2.2.2.1, HR.out.2.2.2.2⟩
end Go.Proofs.YtepfmoaihhonlaaGreatDoor
