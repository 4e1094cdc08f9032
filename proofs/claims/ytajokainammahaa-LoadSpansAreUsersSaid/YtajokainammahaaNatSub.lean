/- Package nat: Sub. -/
import Derived.Test.YtajokainammahaaNatAdd
namespace Go.Proofs.Ytajokainammahaa
open Go Go.RowKit Go.Proofs

/-- the borrow -/
def brw (x y b : Nat) : Nat := if x < y + b then 1 else 0
theorem sub64_eq (x y b : Nat) (hb : b ≤ 1) (w : World) :
    (callFunc 73 #[.int .u64 x, .int .u64 y, .int .u64 b]).run Try.prog w =
      .ok (.value (.tuple #[.int .u64 (((x + 18446744073709551616 - y - b) % 18446744073709551616 : Nat) : Int), .int .u64 ((brw x y b : Nat) : Int)])) w := by
  rw [run_callFunc_extern Try.func73 (by kernel_rfl) (by kernel_rfl) (by kernel_rfl) (e := sub64Entry) (by kernel_rfl), run_sub64 x y b hb]
  rfl
theorem brw_le (x y b : Nat) : brw x y b ≤ 1 := by unfold brw; split <;> omega
theorem brw_eq {x y b : Nat} (hx : x < 18446744073709551616) (hy : y < 18446744073709551616) (hb : b ≤ 1) : (x + 18446744073709551616 - y - b) % 18446744073709551616 + y + b = x + 18446744073709551616 * brw x y b := by
  unfold brw
  split
  · rw [Nat.mod_eq_of_lt (by omega)]; omega
  · rw [show x + 18446744073709551616 - y - b = (x - y - b) + 18446744073709551616 by omega, Nat.add_mod_right, Nat.mod_eq_of_lt (by omega)]; omega
def SubRel (w wr : World) (g : Nat) (la lb : List Nat) (k c : Nat) : Prop :=
  ∃ o, o.length = la.length ∧ (∀ d ∈ o, d < W64) ∧ Blk wr g o ∧ val W64 (o.take k) + val W64 (lb.take k) = val W64 (la.take k) + W64 ^ k * c ∧ Below w.heap.size w wr
theorem len_le {a b : List Nat} (ha : Norm W64 a) (hb : Norm W64 b) (h : val W64 b ≤ val W64 a) : b.length ≤ a.length := by
  rcases Nat.lt_or_ge a.length b.length with h' | h'
  · have := val_len_lt W64_pos ha hb h'; omega
  · exact h'

set_option maxHeartbeats 2000000 in
set_option maxRecDepth 100000 in
theorem natSub_any (A1 A2 : Option Addr) (c1 c2 : Nat) (l1 l2 : List Nat) (x y : Nat) (w : World) (h1 : NatR w A1 c1 l1 x) (h2 : NatR w A2 c2 l2 y) (hs : l1.length ≤ 1000000) (hxy : y ≤ x) :
    Calls Try.prog 71 #[.slice A1 l1.length c1, .slice A2 l2.length c2] w (NatPost (x - y) w) := by
  obtain ⟨i0, hi0, hz0, hz1, hz2⟩ := info_parts Try.infoU
  have hle : l2.length ≤ l1.length := len_le h1.norm h2.norm (by rw [h1.val, h2.val]; exact hxy)
  have HN1 := Lib.hid h1
  have HN2 := Lib.hid h2
  clear h1 h2
  go_enter Try.func71, Try.ntmps71
  go_wp2_with (at_make; refine wpList_make_full _ rfl (.tmp 10) (.tmp 10) 77 rfl w.heap.size 96 i0 _ 1 Try.underlying77 hi0 hz0 hz1 .i64 .i64 _ _ l1.length rfl rfl ?m1 ?m2 ?m3 ?m4 ?m5 ?_)
  case m1 => rfl
  case m2 => rfl
  case m3 => rw [hz2]; omega
  case m4 => unfold maxLen; omega
  case m5 => exact Nat.le_refl _
  intro w1 hown hgr
  rw [made_zeros] at hown
  obtain ⟨hblk, _⟩ := Blk.of_own hown
  have hb1 : Below w.heap.size w w1 := (Below.refl _ w).grown hgr (Nat.le_refl _) (fun k hk => by cases hk)
  have hsz1 : w.heap.size < w1.heap.size := heap_lt hblk
  have HBK := Lib.hid hblk
  have HB1 := Lib.hid hb1
  clear hown hgr hblk hb1
  go_wp2
  go_loopw [6, 7, 8, 14] (fun cy _ _ i wr => ∃ (k c : Nat), i = .int .i64 k ∧ cy = .int .u64 c ∧ k ≤ l1.length ∧ c ≤ 1 ∧ SubRel w wr w.heap.size l1 l2 k c) (fun _ _ _ i _ => l1.length - (intOf i).toNat)
  case atStart => exact ⟨0, 0, rfl, rfl, Nat.zero_le _, by omega, List.replicate l1.length 0, by simp, fun d hd => by rw [List.eq_of_mem_replicate hd]; unfold W64; omega, HBK.out, by simp [val], HB1.out⟩
  case round =>
    obtain ⟨k, c, rfl, rfl, hk, hc, o, hol, hod, hblk, hval, hbw⟩ := hrel
    have hgl := heap_lt hblk
    have HO := Lib.hid hod
    have HOL := Lib.hid hol
    have HV := Lib.hid hval
    have HBW := Lib.hid hbw
    have HBL := Lib.hid hblk
    clear hod hol hval
    by_cases hlt : k < l1.length
    · obtain ⟨ba, oa, ua, rfl, hba, hua, qa⟩ := (HN1.out.rd.below hbw (Nat.le_refl _)).at1 hlt
      obtain ⟨da, hda, rfl⟩ := u64s_get hua
      have hdaW : da < 18446744073709551616 := HN1.out.norm.1 da (List.mem_of_getElem? hda)
      have HDA := Lib.hid hda
      have hko : k < o.length := by have := HOL.out; omega
      obtain ⟨od, hod⟩ : ∃ od, o[k]? = some od := ⟨o[k], List.getElem?_eq_getElem hko⟩
      have q0 := hblk.cell hod
      have z0 := hblk.frozen k
      clear hua hda hod hblk hbw
      have step : ∀ yb : Nat, yb < 18446744073709551616 → l2.take (k + 1) = l2.take k ++ (if k < l2.length then [yb] else []) → (k < l2.length ∨ yb = 0) → SubRel w (wr.setCell ⟨w.heap.size, k, none⟩ (.int .u64 (((da + 18446744073709551616 - yb - c) % 18446744073709551616 : Nat) : Int))) w.heap.size l1 l2 (k + 1) (brw da yb c) := by
        intro yb hyb htk hor
        refine ⟨o.set k ((da + 18446744073709551616 - yb - c) % 18446744073709551616), by simp [HOL.out], mem_set HO.out (by unfold W64; omega), HBL.out.set k _, ?_, HBW.out.setCell (Nat.le_refl _) _⟩
        rw [take_set_succ hko, take_snoc' HDA.out, val_snoc, val_snoc, htk]
        have e1 : (o.take k).length = k := by simp; omega
        have e2 : (l1.take k).length = k := by simp; omega
        rw [e1, e2]
        have hv := HV.out
        have e3 : (da + 18446744073709551616 - yb - c) % 18446744073709551616 + yb + c = da + W64 * brw da yb c := brw_eq hdaW hyb hc
        have e4 : W64 ^ k * ((da + 18446744073709551616 - yb - c) % 18446744073709551616) + W64 ^ k * yb + W64 ^ k * c = W64 ^ k * da + W64 ^ (k + 1) * brw da yb c := by
          rw [Nat.pow_succ, Nat.mul_assoc, ← Nat.mul_add, ← Nat.mul_add, ← Nat.mul_add, e3]
        have e5 : val W64 (l2.take k ++ (if k < l2.length then [yb] else [])) = val W64 (l2.take k) + W64 ^ k * yb := by
          rcases Nat.lt_or_ge k l2.length with h | h
          · rw [if_pos h, val_snoc]
            have : (l2.take k).length = k := by simp; omega
            rw [this]
          · rw [if_neg (by omega), List.append_nil]
            have : yb = 0 := by omega
            rw [this]; simp
        rw [e5]
        omega
      have STEP := Lib.hid step
      clear step
      by_cases hlb : k < l2.length
      · have t1 : decide (k < l2.length) = true := by simpa using hlb
        obtain ⟨bb, ob, ub, rfl, hbb, hub, qb⟩ := (HN2.out.rd.below HBW.out (Nat.le_refl _)).at1 hlb
        obtain ⟨db, hdb, rfl⟩ := u64s_get hub
        have hdbW : db < 18446744073709551616 := HN2.out.norm.1 db (List.mem_of_getElem? hdb)
        have HS := Lib.hid (STEP.out db hdbW (by rw [take_snoc' hdb, if_pos hlb]) (.inl hlb))
        have hsub := fun W => sub64_eq da db c hc W
        have hc2 := brw_le da db c
        clear hub hdb
        go_wp2
        go_roundw
        case rel => exact ⟨k + 1, _, by go_num, rfl, by omega, hc2, HS.out⟩
        case measure => simp [intOf]; omega
      · have t1 : decide (k < l2.length) = false := by simpa using hlb
        have HS := Lib.hid (STEP.out 0 (by omega) (by rw [if_neg hlb, List.append_nil, List.take_of_length_le (by omega), List.take_of_length_le (by omega)]) (.inr rfl))
        have hsub : ∀ W, (callFunc 73 #[.int .u64 da, .int .u64 0, .int .u64 c]).run Try.prog W = .ok (.value (.tuple #[.int .u64 (((da + 18446744073709551616 - 0 - c) % 18446744073709551616 : Nat) : Int), .int .u64 ((brw da 0 c : Nat) : Int)])) W := fun W => sub64_eq da 0 c hc W
        have hc2 := brw_le da 0 c
        go_wp2
        go_roundw
        case rel => exact ⟨k + 1, _, by go_num, rfl, by omega, hc2, HS.out⟩
        case measure => simp [intOf]; omega
    · obtain rfl : k = l1.length := by omega
      have hrd := hblk.rd
      rw [HOL.out] at hrd
      have hrd' : Rd wr 0 wr.heap.size 1 (some ⟨w.heap.size, 0, none⟩) o.length (u64s o) := hblk.rd
      have hval : val W64 o = x - y := by
        have hv := HV.out
        rw [List.take_length, List.take_of_length_le (by rw [HOL.out]; exact Nat.le_refl _), List.take_of_length_le (by omega), HN1.out.val, HN2.out.val] at hv
        have h1 := val_lt HO.out
        rw [HOL.out] at h1
        rcases Nat.eq_zero_or_pos c with h0 | h0
        · subst h0; omega
        · obtain rfl : c = 1 := by omega
          omega
      have hcut := cut_any (some ⟨w.heap.size, 0, none⟩) l1.length o wr hrd' (by rw [HOL.out]; exact Nat.le_refl _) (by unfold maxLen; omega) (fun h => by cases h)
      rw [HOL.out] at hcut
      have HCUT := Lib.hid hcut
      have hnr := natr_cut (c := l1.length) hrd' HO.out (by rw [HOL.out]; exact Nat.le_refl _) (by unfold maxLen; omega) (fun h => by cases h)
      rw [hval] at hnr
      have HNR := Lib.hid hnr
      clear hblk hbw hrd hrd' hval hcut hnr
      go_wp2_with fail
      refine HCUT.out.mono ?_
      rintro e w' ⟨rfl, rfl⟩
      go_wp2
      go_ret
      exact ⟨_, _, _, rfl, HNR.out, HBW.out⟩
end Go.Proofs.Ytajokainammahaa
