/- Package nat: Shl. -/
import Derived.Test.YtnpfdelklolchaaGreatDoorG10
namespace Go.Proofs.YtnpfdelklolchaaGreatDoor
open Go Go.RowKit Go.Proofs

/-- what Shl keeps -/
def ShlRel (w wr : World) (g : Nat) (la : List Nat) (v r k c : Nat) : Prop :=
  ∃ o, o.length = la.length + v + 1 ∧ (∀ d ∈ o, d < W64) ∧ Blk wr g o ∧ o[k + v]? = some c ∧ c < 2 ^ r ∧ (∀ j, k + v < j → j < o.length → o[j]? = some 0) ∧ val W64 o = val W64 (la.take k) * 2 ^ r * W64 ^ v ∧ Below w.heap.size w wr
theorem val_set {B : Nat} : ∀ {l : List Nat} {j c q : Nat}, l[j]? = some c → val B (l.set j q) + B ^ j * c = val B l + B ^ j * q
  | [], j, c, q, h => by simp at h
  | d :: r, 0, c, q, h => by
    have h : d = c := by simpa using h
    simp [val, h]; omega
  | d :: r, j + 1, c, q, h => by
    have ih := val_set (l := r) (j := j) (c := c) (q := q) (B := B) (by simpa using h)
    have := congrArg (B * ·) ih
    simp only [Nat.mul_add] at this
    simp only [List.set_cons_succ, val, Nat.pow_succ]
    rw [Nat.mul_comm (B ^ j) B, Nat.mul_assoc, Nat.mul_assoc]; omega
theorem val_replicate0 (B n : Nat) : val B (List.replicate n 0) = 0 := by
  induction n with
  | zero => rfl
  | succ n ih => simp [List.replicate_succ, val, ih]
/-- a word, shifted: what stays, what goes on -/
theorem shl_word {x r : Nat} (hx : x < 18446744073709551616) (hr : r ≤ 63) :
    ∃ xl xh : Nat, IntKind.u64.wrap ((x : Int) * 2 ^ r) = (xl : Int) ∧ (x : Int) / 2 ^ (64 - r) = (xh : Int) ∧ x * 2 ^ r = xl + 18446744073709551616 * xh ∧ xl < 18446744073709551616 ∧ xh < 2 ^ r ∧ ∀ c : Nat, c < 2 ^ r → bits .or .u64 (c : Int) (xl : Int) = ((c + xl : Nat) : Int) ∧ c + xl < 18446744073709551616 := by
  have hp : 0 < 2 ^ r := Nat.pow_pos (by omega)
  have e64 : 2 ^ (64 - r) * 2 ^ r = 18446744073709551616 := by rw [← Nat.pow_add, show 64 - r + r = 64 by omega]
  have hL : x / 2 ^ (64 - r) < 2 ^ r := by
    rw [Nat.div_lt_iff_lt_mul (Nat.pow_pos (by omega)), Nat.mul_comm, e64]; exact hx
  have hN0 : x * 2 ^ r % 18446744073709551616 = x % 2 ^ (64 - r) * 2 ^ r := by rw [← e64]; exact Nat.mul_mod_mul_right _ _ _
  have hm : x % 2 ^ (64 - r) < 2 ^ (64 - r) := Nat.mod_lt _ (Nat.pow_pos (by omega))
  have hx2 : x % 2 ^ (64 - r) * 2 ^ r + 2 ^ r ≤ 18446744073709551616 := by
    have := Nat.mul_le_mul_right (2 ^ r) (show x % 2 ^ (64 - r) + 1 ≤ 2 ^ (64 - r) from hm)
    rwa [e64, Nat.add_mul, Nat.one_mul] at this
  refine ⟨x * 2 ^ r % 18446744073709551616, x / 2 ^ (64 - r), ?_, by simp, ?_, Nat.mod_lt _ (by omega), hL, ?_⟩
  · rw [IntKind.wrap_u64, show ((x : Int) * 2 ^ r) = ((x * 2 ^ r : Nat) : Int) by simp]; omega
  · rw [hN0, ← e64]
    have := Nat.div_add_mod x (2 ^ (64 - r))
    conv => lhs; rw [← this, Nat.add_mul, Nat.mul_right_comm]
    omega
  · intro c hc
    rw [hN0]
    refine ⟨?_, by omega⟩
    rw [u64_or_nat _ _ (by omega) (by omega), Nat.or_comm, nat_join r _ _ (Nat.mul_mod_left _ _) hc, Nat.add_comm]

set_option maxHeartbeats 2000000 in
set_option maxRecDepth 100000 in
theorem natShl_any (A1 : Option Addr) (c1 : Nat) (l1 : List Nat) (x n : Nat) (w : World) (h1 : NatR w A1 c1 l1 x) (hs : l1.length ≤ 1000000) (hn : n ≤ 1000000) :
    Calls Tryz.prog 71 #[.slice A1 l1.length c1, .int .i64 n] w (NatPost (x * 2 ^ n) w) := by
  obtain ⟨i0, hi0, hz0, hz1, hz2⟩ := info_parts Tryz.infoU
  obtain ⟨v, hv⟩ : ∃ v, v = n / 64 := ⟨_, rfl⟩
  obtain ⟨r, hr⟩ : ∃ r, r = n % 64 := ⟨_, rfl⟩
  have HPW := Lib.hid (show 2 ^ n = 2 ^ r * W64 ^ v by
    rw [show W64 = 2 ^ 64 from rfl, ← Nat.pow_mul, ← Nat.pow_add]; congr 1; omega)
  have hvn : v ≤ 1000000 := by omega
  have hr63 : r ≤ 63 := by omega
  have e1 : (n : Int) / 64 = (v : Int) := by omega
  have e2 : (n : Int) % 64 = (r : Int) := by omega
  have HN1 := Lib.hid h1
  clear h1 hv hr
  by_cases h0 : l1.length = 0
  · obtain rfl : l1 = [] := List.eq_nil_of_length_eq_zero h0
    have HX := Lib.hid (show x * 2 ^ n = 0 by have := HN1.out.val; simp [val] at this; rw [← this, Nat.zero_mul])
    clear h0
    go_enter Tryz.func71, Tryz.ntmps71
    go_wp2
    go_ret
    exact ⟨none, 0, [], rfl, by rw [HX.out]; exact natr_nil w, Below.refl _ _⟩
  · have h0' : ((l1.length : Int) == 0) = false := by simp; intro h; exact h0 (by rw [h]; rfl)
    go_enter Tryz.func71, Tryz.ntmps71
    go_wp2_with (at_make; refine wpList_make_full _ rfl (.tmp 22) (.tmp 22) 61 rfl w.heap.size 110 i0 _ 1 Tryz.underlying61 hi0 hz0 hz1 .i64 .i64 _ _ (l1.length + v + 1) rfl rfl ?m1 ?m2 ?m3 ?m4 ?m5 ?_)
    case m1 => omega
    case m2 => omega
    case m3 => rw [hz2]; omega
    case m4 => unfold maxLen; omega
    case m5 => exact Nat.le_refl _
    intro w1 hown hgr
    rw [made_zeros] at hown
    obtain ⟨hblk, _⟩ := Blk.of_own hown
    have hb1 : Below w.heap.size w w1 := (Below.refl _ w).grown hgr (Nat.le_refl _) (fun k hk => by cases hk)
    have hsz1 : w.heap.size < w1.heap.size := heap_lt hblk
    have HBK := Lib.hid hblk
    have HB1 := Lib.hid hb1
    clear hown hgr hblk hb1
    go_wp2
    go_loopw [8, 9, 26] (fun _ _ i wr => ∃ (k c : Nat), i = .int .i64 k ∧ k ≤ l1.length ∧ ShlRel w wr w.heap.size l1 v r k c) (fun _ _ i _ => l1.length - (intOf i).toNat)
    case atStart => exact ⟨0, 0, rfl, Nat.zero_le _, List.replicate (l1.length + v + 1) 0, by simp, fun d hd => by rw [List.eq_of_mem_replicate hd]; unfold W64; omega, HBK.out, by rw [List.getElem?_replicate, if_pos (by omega)], Nat.pow_pos (by omega), fun j _ hj => by rw [List.getElem?_replicate]; simp at hj; simp; omega, by rw [val_replicate0]; simp [val], HB1.out⟩
    case round =>
      obtain ⟨k, c, rfl, hk, o, hol, hod, hblk, hoc, hcr, hzero, hval, hbw⟩ := hrel
      have hgl := heap_lt hblk
      have HO := Lib.hid hod
      have HOL := Lib.hid hol
      have HV := Lib.hid hval
      have HBW := Lib.hid hbw
      have HBL := Lib.hid hblk
      have HZ := Lib.hid hzero
      have HOC := Lib.hid hoc
      clear hod hol hval hzero
      by_cases hlt : k < l1.length
      · obtain ⟨ba, oa, ua, rfl, hba, hua, qa⟩ := (HN1.out.rd.below hbw (Nat.le_refl _)).at1 hlt
        obtain ⟨d, hd, rfl⟩ := u64s_get hua
        have hdW : d < 18446744073709551616 := HN1.out.norm.1 d (List.mem_of_getElem? hd)
        have HD := Lib.hid hd
        obtain ⟨xl, xh, f1, f2, hx, hxl, hxh, hor⟩ := shl_word hdW hr63
        obtain ⟨f3, hcx⟩ := hor c hcr
        have q0 := hblk.cell hoc
        have z0 := hblk.frozen (k + v)
        have hko : k + v + 1 < o.length := by have := HOL.out; omega
        have hz1' := HZ.out (k + v + 1) (by omega) hko
        have q1 := hblk.cell hz1'
        have z1 := hblk.frozen (k + v + 1)
        obtain ⟨s, hs⟩ : ∃ s, s = c + xl := ⟨_, rfl⟩
        rw [← hs] at f3 hcx
        have HNEW := Lib.hid (show ShlRel w ((wr.setCell ⟨w.heap.size, k + v, none⟩ (.int .u64 (s : Int))).setCell ⟨w.heap.size, k + v + 1, none⟩ (.int .u64 (xh : Int))) w.heap.size l1 v r (k + 1) xh from by
          have hne : (o.set (k + v) s)[k + v + 1]? = some 0 := by rw [List.getElem?_set_ne (by omega)]; exact hz1'
          have hxW : xh < W64 := by
            have : 2 ^ r ≤ 2 ^ 63 := Nat.pow_le_pow_right (by omega) hr63
            unfold W64; omega
          refine ⟨(o.set (k + v) s).set (k + v + 1) xh, by simp [HOL.out], mem_set (mem_set HO.out hcx) hxW, (HBL.out.set _ _).set _ _, ?_, hxh, ?_, ?_, (HBW.out.setCell (Nat.le_refl _) _).setCell (Nat.le_refl _) _⟩
          · rw [show k + 1 + v = k + v + 1 by omega, List.getElem?_set_self (by simpa using hko)]
          · intro j hj hj2
            rw [List.getElem?_set_ne (by omega), List.getElem?_set_ne (by omega)]
            exact HZ.out j (by omega) (by simpa using hj2)
          · have v1 := val_set0 (B := W64) (q := xh) hne
            have v2 := val_set (B := W64) (q := s) HOC.out
            rw [v1, take_snoc' HD.out, val_snoc]
            have e3 : (l1.take k).length = k := by simp; omega
            rw [e3, Nat.add_mul, Nat.add_mul, ← HV.out]
            have v3 : W64 ^ k * d * 2 ^ r * W64 ^ v = W64 ^ (k + v) * xl + W64 ^ (k + v + 1) * xh := by
              rw [Nat.mul_assoc (W64 ^ k), hx, Nat.mul_right_comm, ← Nat.pow_add, Nat.mul_add, Nat.pow_succ, Nat.mul_assoc]; rfl
            rw [v3]
            have hs' : W64 ^ (k + v) * s = W64 ^ (k + v) * c + W64 ^ (k + v) * xl := by rw [hs, Nat.mul_add]
            omega)
        have HNEW0 := Lib.hid (show r = 0 → ShlRel w (wr.setCell ⟨w.heap.size, k + v, none⟩ (.int .u64 (s : Int))) w.heap.size l1 v r (k + 1) xh from fun hr0 => by
          have hxh0 : xh = 0 := by rw [hr0] at hxh; omega
          refine ⟨o.set (k + v) s, by simp [HOL.out], mem_set HO.out hcx, HBL.out.set _ _, ?_, hxh, ?_, ?_, HBW.out.setCell (Nat.le_refl _) _⟩
          · rw [show k + 1 + v = k + v + 1 by omega, List.getElem?_set_ne (by omega), hz1', hxh0]
          · intro j hj hj2
            rw [List.getElem?_set_ne (by omega)]
            exact HZ.out j (by omega) (by simpa using hj2)
          · have v2 := val_set (B := W64) (q := s) HOC.out
            rw [take_snoc' HD.out, val_snoc]
            have e3 : (l1.take k).length = k := by simp; omega
            rw [e3, Nat.add_mul, Nat.add_mul, ← HV.out]
            have v3 : W64 ^ k * d * 2 ^ r * W64 ^ v = W64 ^ (k + v) * xl := by
              rw [Nat.mul_assoc (W64 ^ k), hx, hxh0, Nat.mul_zero, Nat.add_zero, Nat.mul_right_comm, ← Nat.pow_add]
            rw [v3]
            have hs' : W64 ^ (k + v) * s = W64 ^ (k + v) * c + W64 ^ (k + v) * xl := by rw [hs, Nat.mul_add]
            omega)
        clear hua hd hoc hblk hbw hz1' hs hx hor hxh hcr
        by_cases hr0 : r = 0
        · subst hr0
          have f1' : IntKind.u64.wrap ((d : Int)) = (xl : Int) := by simpa using f1
          go_wp2
          go_roundw
          case rel => exact ⟨k + 1, xh, by go_num, by omega, HNEW0.out rfl⟩
          case measure => simp [intOf]; omega
        · have t1 : decide ((0 : Int) < (r : Int)) = true := by simp; omega
          go_wp2
          go_roundw
          case rel => exact ⟨k + 1, xh, by go_num, by omega, HNEW.out⟩
          case measure => simp [intOf]; omega
      · obtain rfl : k = l1.length := by omega
        have hrd' : Rd wr 0 wr.heap.size 1 (some ⟨w.heap.size, 0, none⟩) o.length (u64s o) := hblk.rd
        have hval : val W64 o = x * 2 ^ n := by
          rw [HV.out, List.take_length, HN1.out.val, HPW.out, Nat.mul_assoc]
        have hcut := cut_any (some ⟨w.heap.size, 0, none⟩) (l1.length + v + 1) o wr hrd' (by rw [HOL.out]; exact Nat.le_refl _) (by unfold maxLen; omega) (fun h => by cases h)
        rw [HOL.out] at hcut
        have HCUT := Lib.hid hcut
        have hnr := natr_cut (c := l1.length + v + 1) hrd' HO.out (by rw [HOL.out]; exact Nat.le_refl _) (by unfold maxLen; omega) (fun h => by cases h)
        rw [hval] at hnr
        have HNR := Lib.hid hnr
        clear hblk hbw hrd' hval hcut hnr hoc
        go_wp2_with fail
        refine HCUT.out.mono ?_
        rintro e w' ⟨rfl, rfl⟩
        go_wp2
        go_ret
        exact ⟨_, _, _, rfl, HNR.out, HBW.out⟩
end Go.Proofs.YtnpfdelklolchaaGreatDoor
