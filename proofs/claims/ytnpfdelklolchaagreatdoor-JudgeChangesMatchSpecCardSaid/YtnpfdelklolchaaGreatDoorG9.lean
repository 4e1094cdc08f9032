import Derived.Test.YtnpfdelklolchaaGreatDoorG8
import Derived.Laws.IdiomCopy
/- Package nat: Shl. -/
namespace Go.Proofs.YtnpfdelklolchaaGreatDoor
open Go Go.RowKit Go.Proofs

/-- what Shl keeps -/
def ShlRel (w wr : World) (g : Nat) (la : List Nat) (v r k c : Nat) : Prop :=
  ∃ o, o.length = la.length + v + 1 ∧ (∀ d ∈ o, d < W64) ∧ Blk wr g o ∧ o[k + v]? = some c ∧ c < 2 ^ r ∧ (∀ j, k + v < j → j < o.length → o[j]? = some 0) ∧ val W64 o = val W64 (la.take k) * 2 ^ r * W64 ^ v ∧ Below w.heap.size w wr
theorem val_set {B : Nat} : ∀ {l : List Nat} {j c q : Nat}, l[j]? = some c → val B (l.set j q) + B ^ j * c = val B l + B ^ j * q
  | [], j, c, q, h => by simp at h
  | d :: r, 0, c, q, h => by
    have h : d = c := by simpa using h
    simp [val, h]; omega
  | d :: r, j + 1, c, q, h => by
    have ih := val_set (l := r) (j := j) (c := c) (q := q) (B := B) (by simpa using h)
    have := congrArg (B * ·) ih
    simp only [Nat.mul_add] at this
    simp only [List.set_cons_succ, val, Nat.pow_succ]
    rw [Nat.mul_comm (B ^ j) B, Nat.mul_assoc, Nat.mul_assoc]; omega
theorem val_replicate0 (B n : Nat) : val B (List.replicate n 0) = 0 := by
  induction n with
  | zero => rfl
  | succ n ih => simp [List.replicate_succ, val, ih]
/-- a word, shifted: what stays, what goes on -/
theorem shl_word {x r : Nat} (hx : x < 18446744073709551616) (hr : r ≤ 63) :
    ∃ xl xh : Nat, IntKind.u64.wrap ((x : Int) * 2 ^ r) = (xl : Int) ∧ (x : Int) / 2 ^ (64 - r) = (xh : Int) ∧ x * 2 ^ r = xl + 18446744073709551616 * xh ∧ xl < 18446744073709551616 ∧ xh < 2 ^ r ∧ ∀ c : Nat, c < 2 ^ r → bits .or .u64 (c : Int) (xl : Int) = ((c + xl : Nat) : Int) ∧ c + xl < 18446744073709551616 := by
  have hp : 0 < 2 ^ r := Nat.pow_pos (by omega)
  have e64 : 2 ^ (64 - r) * 2 ^ r = 18446744073709551616 := by rw [← Nat.pow_add, show 64 - r + r = 64 by omega]
  have hL : x / 2 ^ (64 - r) < 2 ^ r := by
    rw [Nat.div_lt_iff_lt_mul (Nat.pow_pos (by omega)), Nat.mul_comm, e64]; exact hx
  have hN0 : x * 2 ^ r % 18446744073709551616 = x % 2 ^ (64 - r) * 2 ^ r := by rw [← e64]; exact Nat.mul_mod_mul_right _ _ _
  have hm : x % 2 ^ (64 - r) < 2 ^ (64 - r) := Nat.mod_lt _ (Nat.pow_pos (by omega))
  have hx2 : x % 2 ^ (64 - r) * 2 ^ r + 2 ^ r ≤ 18446744073709551616 := by
    have := Nat.mul_le_mul_right (2 ^ r) (show x % 2 ^ (64 - r) + 1 ≤ 2 ^ (64 - r) from hm)
    rwa [e64, Nat.add_mul, Nat.one_mul] at this
  refine ⟨x * 2 ^ r % 18446744073709551616, x / 2 ^ (64 - r), ?_, by simp, ?_, Nat.mod_lt _ (by omega), hL, ?_⟩
  · rw [IntKind.wrap_u64, show ((x : Int) * 2 ^ r) = ((x * 2 ^ r : Nat) : Int) by simp]; omega
  · rw [hN0, ← e64]
    have := Nat.div_add_mod x (2 ^ (64 - r))
    conv => lhs; rw [← this, Nat.add_mul, Nat.mul_right_comm]
    omega
  · intro c hc
    rw [hN0]
    refine ⟨?_, by omega⟩
    rw [u64_or_nat _ _ (by omega) (by omega), Nat.or_comm, nat_join r _ _ (Nat.mul_mod_left _ _) hc, Nat.add_comm]

set_option maxHeartbeats 2000000 in
set_option maxRecDepth 100000 in
theorem natShl_any (A1 : Option Addr) (c1 : Nat) (l1 : List Nat) (x n : Nat) (w : World) (h1 : NatR w A1 c1 l1 x) (hs : l1.length ≤ 1000000) (hn : n ≤ 1000000) :
    Calls Tryz.prog 71 #[.slice A1 l1.length c1, .int .i64 n] w (NatPost (x * 2 ^ n) w) := by
  obtain ⟨i0, hi0, hz0, hz1, hz2⟩ := info_parts Tryz.infoU
  obtain ⟨v, hv⟩ : ∃ v, v = n / 64 := ⟨_, rfl⟩
  obtain ⟨r, hr⟩ : ∃ r, r = n % 64 := ⟨_, rfl⟩
  have HPW := Lib.hid (show 2 ^ n = 2 ^ r * W64 ^ v by
    rw [show W64 = 2 ^ 64 from rfl, ← Nat.pow_mul, ← Nat.pow_add]; congr 1; omega)
  have hvn : v ≤ 1000000 := by omega
  have hr63 : r ≤ 63 := by omega
  have e1 : (n : Int) / 64 = (v : Int) := by omega
  have e2 : (n : Int) % 64 = (r : Int) := by omega
  have HN1 := Lib.hid h1
  clear h1 hv hr
  by_cases h0 : l1.length = 0
  · obtain rfl : l1 = [] := List.eq_nil_of_length_eq_zero h0
    have HX := Lib.hid (show x * 2 ^ n = 0 by have := HN1.out.val; simp [val] at this; rw [← this, Nat.zero_mul])
    clear h0
    go_enter Tryz.func71, Tryz.ntmps71
    go_wp2
    go_ret
    exact ⟨none, 0, [], rfl, by rw [HX.out]; exact natr_nil w, Below.refl _ _⟩
  · have h0' : ((l1.length : Int) == 0) = false := by simp; intro h; exact h0 (by rw [h]; rfl)
    go_enter Tryz.func71, Tryz.ntmps71
    go_wp2_with (at_make; refine wpList_make_full _ rfl (.tmp 22) (.tmp 22) 61 rfl w.heap.size 110 i0 _ 1 Tryz.underlying61 hi0 hz0 hz1 .i64 .i64 _ _ (l1.length + v + 1) rfl rfl ?m1 ?m2 ?m3 ?m4 ?m5 ?_)
    case m1 => omega
    case m2 => omega
    case m3 => rw [hz2]; omega
    case m4 => unfold maxLen; omega
    case m5 => exact Nat.le_refl _
    intro w1 hown hgr
    rw [made_zeros] at hown
    obtain ⟨hblk, _⟩ := Blk.of_own hown
    have hb1 : Below w.heap.size w w1 := (Below.refl _ w).grown hgr (Nat.le_refl _) (fun k hk => by cases hk)
    have hsz1 : w.heap.size < w1.heap.size := heap_lt hblk
    have HBK := Lib.hid hblk
    have HB1 := Lib.hid hb1
    clear hown hgr hblk hb1
    go_wp2
    go_loopw [8, 9, 26] (fun _ _ i wr => ∃ (k c : Nat), i = .int .i64 k ∧ k ≤ l1.length ∧ ShlRel w wr w.heap.size l1 v r k c) (fun _ _ i _ => l1.length - (intOf i).toNat)
    case atStart => exact ⟨0, 0, rfl, Nat.zero_le _, List.replicate (l1.length + v + 1) 0, by simp, fun d hd => by rw [List.eq_of_mem_replicate hd]; unfold W64; omega, HBK.out, by rw [List.getElem?_replicate, if_pos (by omega)], Nat.pow_pos (by omega), fun j _ hj => by rw [List.getElem?_replicate]; simp at hj; simp; omega, by rw [val_replicate0]; simp [val], HB1.out⟩
    case round =>
      obtain ⟨k, c, rfl, hk, o, hol, hod, hblk, hoc, hcr, hzero, hval, hbw⟩ := hrel
      have hgl := heap_lt hblk
      have HO := Lib.hid hod
      have HOL := Lib.hid hol
      have HV := Lib.hid hval
      have HBW := Lib.hid hbw
      have HBL := Lib.hid hblk
      have HZ := Lib.hid hzero
      have HOC := Lib.hid hoc
      clear hod hol hval hzero
      by_cases hlt : k < l1.length
      · obtain ⟨ba, oa, ua, rfl, hba, hua, qa⟩ := (HN1.out.rd.below hbw (Nat.le_refl _)).at1 hlt
        obtain ⟨d, hd, rfl⟩ := u64s_get hua
        have hdW : d < 18446744073709551616 := HN1.out.norm.1 d (List.mem_of_getElem? hd)
        have HD := Lib.hid hd
        obtain ⟨xl, xh, f1, f2, hx, hxl, hxh, hor⟩ := shl_word hdW hr63
        obtain ⟨f3, hcx⟩ := hor c hcr
        have q0 := hblk.cell hoc
        have z0 := hblk.frozen (k + v)
        have hko : k + v + 1 < o.length := by have := HOL.out; omega
        have hz1' := HZ.out (k + v + 1) (by omega) hko
        have q1 := hblk.cell hz1'
        have z1 := hblk.frozen (k + v + 1)
        obtain ⟨s, hs⟩ : ∃ s, s = c + xl := ⟨_, rfl⟩
        rw [← hs] at f3 hcx
        have HNEW := Lib.hid (show ShlRel w ((wr.setCell ⟨w.heap.size, k + v, none⟩ (.int .u64 (s : Int))).setCell ⟨w.heap.size, k + v + 1, none⟩ (.int .u64 (xh : Int))) w.heap.size l1 v r (k + 1) xh from by
          have hne : (o.set (k + v) s)[k + v + 1]? = some 0 := by rw [List.getElem?_set_ne (by omega)]; exact hz1'
          have hxW : xh < W64 := by
            have : 2 ^ r ≤ 2 ^ 63 := Nat.pow_le_pow_right (by omega) hr63
            unfold W64; omega
          refine ⟨(o.set (k + v) s).set (k + v + 1) xh, by simp [HOL.out], mem_set (mem_set HO.out hcx) hxW, (HBL.out.set _ _).set _ _, ?_, hxh, ?_, ?_, (HBW.out.setCell (Nat.le_refl _) _).setCell (Nat.le_refl _) _⟩
          · rw [show k + 1 + v = k + v + 1 by omega, List.getElem?_set_self (by simpa using hko)]
          · intro j hj hj2
            rw [List.getElem?_set_ne (by omega), List.getElem?_set_ne (by omega)]
            exact HZ.out j (by omega) (by simpa using hj2)
          · have v1 := val_set0 (B := W64) (q := xh) hne
            have v2 := val_set (B := W64) (q := s) HOC.out
            rw [v1, take_snoc' HD.out, val_snoc]
            have e3 : (l1.take k).length = k := by simp; omega
            rw [e3, Nat.add_mul, Nat.add_mul, ← HV.out]
            have v3 : W64 ^ k * d * 2 ^ r * W64 ^ v = W64 ^ (k + v) * xl + W64 ^ (k + v + 1) * xh := by
              rw [Nat.mul_assoc (W64 ^ k), hx, Nat.mul_right_comm, ← Nat.pow_add, Nat.mul_add, Nat.pow_succ, Nat.mul_assoc]; rfl
            rw [v3]
            have hs' : W64 ^ (k + v) * s = W64 ^ (k + v) * c + W64 ^ (k + v) * xl := by rw [hs, Nat.mul_add]
            omega)
        have HNEW0 := Lib.hid (show r = 0 → ShlRel w (wr.setCell ⟨w.heap.size, k + v, none⟩ (.int .u64 (s : Int))) w.heap.size l1 v r (k + 1) xh from fun hr0 => by
          have hxh0 : xh = 0 := by rw [hr0] at hxh; omega
          refine ⟨o.set (k + v) s, by simp [HOL.out], mem_set HO.out hcx, HBL.out.set _ _, ?_, hxh, ?_, ?_, HBW.out.setCell (Nat.le_refl _) _⟩
          · rw [show k + 1 + v = k + v + 1 by omega, List.getElem?_set_ne (by omega), hz1', hxh0]
          · intro j hj hj2
            rw [List.getElem?_set_ne (by omega)]
            exact HZ.out j (by omega) (by simpa using hj2)
          · have v2 := val_set (B := W64) (q := s) HOC.out
            rw [take_snoc' HD.out, val_snoc]
            have e3 : (l1.take k).length = k := by simp; omega
            rw [e3, Nat.add_mul, Nat.add_mul, ← HV.out]
            have v3 : W64 ^ k * d * 2 ^ r * W64 ^ v = W64 ^ (k + v) * xl := by
              rw [Nat.mul_assoc (W64 ^ k), hx, hxh0, Nat.mul_zero, Nat.add_zero, Nat.mul_right_comm, ← Nat.pow_add]
            rw [v3]
            have hs' : W64 ^ (k + v) * s = W64 ^ (k + v) * c + W64 ^ (k + v) * xl := by rw [hs, Nat.mul_add]
            omega)
        clear hua hd hoc hblk hbw hz1' hs hx hor hxh hcr
        by_cases hr0 : r = 0
        · subst hr0
          have f1' : IntKind.u64.wrap ((d : Int)) = (xl : Int) := by simpa using f1
          go_wp2
          go_roundw
          case rel => exact ⟨k + 1, xh, by go_num, by omega, HNEW0.out rfl⟩
          case measure => simp [intOf]; omega
        · have t1 : decide ((0 : Int) < (r : Int)) = true := by simp; omega
          go_wp2
          go_roundw
          case rel => exact ⟨k + 1, xh, by go_num, by omega, HNEW.out⟩
          case measure => simp [intOf]; omega
      · obtain rfl : k = l1.length := by omega
        have hrd' : Rd wr 0 wr.heap.size 1 (some ⟨w.heap.size, 0, none⟩) o.length (u64s o) := hblk.rd
        have hval : val W64 o = x * 2 ^ n := by
          rw [HV.out, List.take_length, HN1.out.val, HPW.out, Nat.mul_assoc]
        have hcut := cut_any (some ⟨w.heap.size, 0, none⟩) (l1.length + v + 1) o wr hrd' (by rw [HOL.out]; exact Nat.le_refl _) (by unfold maxLen; omega) (fun h => by cases h)
        rw [HOL.out] at hcut
        have HCUT := Lib.hid hcut
        have hnr := natr_cut (c := l1.length + v + 1) hrd' HO.out (by rw [HOL.out]; exact Nat.le_refl _) (by unfold maxLen; omega) (fun h => by cases h)
        rw [hval] at hnr
        have HNR := Lib.hid hnr
        clear hblk hbw hrd' hval hcut hnr hoc
        go_wp2_with fail
        refine HCUT.out.mono ?_
        rintro e w' ⟨rfl, rfl⟩
        go_wp2
        go_ret
        exact ⟨_, _, _, rfl, HNR.out, HBW.out⟩
end Go.Proofs.YtnpfdelklolchaaGreatDoor

/- Package nat: Shr. -/
namespace Go.Proofs.YtnpfdelklolchaaGreatDoor
open Go Go.RowKit Go.Proofs

/-- two words, shifted to one -/
theorem shr_words {x y r : Nat} (hx : x < 18446744073709551616) (_hy : y < 18446744073709551616) (hr : r ≤ 63) (hr0 : 0 < r) :
    ∃ dl dh s : Nat, (x : Int) / 2 ^ r = (dl : Int) ∧ IntKind.u64.wrap ((y : Int) * 2 ^ (64 - r)) = (dh : Int) ∧ bits .or .u64 (dl : Int) (dh : Int) = (s : Int) ∧ s < 18446744073709551616 ∧ s * 2 ^ r + x % 2 ^ r = x + 18446744073709551616 * (y % 2 ^ r) ∧ dl < 18446744073709551616 ∧ dl * 2 ^ r + x % 2 ^ r = x := by
  have hp : 0 < 2 ^ r := Nat.pow_pos (by omega)
  have e64 : 2 ^ (64 - r) * 2 ^ r = 18446744073709551616 := by rw [← Nat.pow_add, show 64 - r + r = 64 by omega]
  have e64' : 2 ^ r * 2 ^ (64 - r) = 18446744073709551616 := by rw [Nat.mul_comm]; exact e64
  have hL : x / 2 ^ r < 2 ^ (64 - r) := by
    rw [Nat.div_lt_iff_lt_mul hp, e64]; exact hx
  have hN0 : y * 2 ^ (64 - r) % 18446744073709551616 = y % 2 ^ r * 2 ^ (64 - r) := by rw [← e64']; exact Nat.mul_mod_mul_right _ _ _
  have hm : y % 2 ^ r < 2 ^ r := Nat.mod_lt _ hp
  have hx2 : y % 2 ^ r * 2 ^ (64 - r) + 2 ^ (64 - r) ≤ 18446744073709551616 := by
    have := Nat.mul_le_mul_right (2 ^ (64 - r)) (show y % 2 ^ r + 1 ≤ 2 ^ r from hm)
    rwa [e64', Nat.add_mul, Nat.one_mul] at this
  have hdx := Nat.div_add_mod x (2 ^ r)
  refine ⟨x / 2 ^ r, y % 2 ^ r * 2 ^ (64 - r), y % 2 ^ r * 2 ^ (64 - r) + x / 2 ^ r, by simp, ?_, ?_, by omega, ?_, Nat.lt_of_le_of_lt (Nat.div_le_self _ _) hx, ?_⟩
  · rw [IntKind.wrap_u64, show ((y : Int) * 2 ^ (64 - r)) = ((y * 2 ^ (64 - r) : Nat) : Int) by simp, ← hN0]; omega
  · rw [u64_or_nat _ _ (Nat.lt_of_le_of_lt (Nat.div_le_self _ _) hx) (by omega), Nat.or_comm, nat_join (64 - r) _ _ (Nat.mul_mod_left _ _) hL]
  · rw [Nat.add_mul, Nat.mul_assoc, e64, Nat.mul_comm (x / 2 ^ r)]; omega
  · rw [Nat.mul_comm (x / 2 ^ r)]; omega
/-- what Shr keeps: L: the words that stay -/
def ShrRel (w wr : World) (g : Nat) (L : List Nat) (p k : Nat) : Prop :=
  ∃ o, o.length = L.length ∧ (∀ d ∈ o, d < W64) ∧ Blk wr g o ∧ val W64 (o.take k) * p + L[0]?.getD 0 % p = val W64 (L.take k) + W64 ^ k * (L[k]?.getD 0 % p) ∧ Below w.heap.size w wr
theorem shr_step {o L : List Nat} {p k d s : Nat} (hk : k < o.length) (hd : L[k]? = some d) (hl : o.length = L.length) (h : val W64 (o.take k) * p + L[0]?.getD 0 % p = val W64 (L.take k) + W64 ^ k * (L[k]?.getD 0 % p))
    (hs : s * p + d % p = d + W64 * (L[k + 1]?.getD 0 % p)) : val W64 ((o.set k s).take (k + 1)) * p + L[0]?.getD 0 % p = val W64 (L.take (k + 1)) + W64 ^ (k + 1) * (L[k + 1]?.getD 0 % p) := by
  rw [take_set_succ hk, take_snoc' hd, val_snoc, val_snoc]
  have e1 : (o.take k).length = k := by simp; omega
  have e2 : (L.take k).length = k := by simp; omega
  rw [e1, e2, Nat.add_mul]
  rw [hd] at h
  simp only [Option.getD_some] at h
  have t1 := congrArg (W64 ^ k * ·) hs
  simp only [Nat.mul_add] at t1
  rw [Nat.pow_succ, Nat.mul_assoc, Nat.mul_assoc]
  omega

set_option maxHeartbeats 2000000 in
set_option maxRecDepth 100000 in
theorem natShr_any (A1 : Option Addr) (c1 : Nat) (l1 : List Nat) (x n : Nat) (w : World) (h1 : NatR w A1 c1 l1 x) (hs : l1.length ≤ 1000000) (hn : n ≤ 1000000) :
    Calls Tryz.prog 75 #[.slice A1 l1.length c1, .int .i64 n] w (NatPost (x / 2 ^ n) w) := by
  obtain ⟨i0, hi0, hz0, hz1, hz2⟩ := info_parts Tryz.infoU
  obtain ⟨v, hv⟩ : ∃ v, v = n / 64 := ⟨_, rfl⟩
  obtain ⟨r, hr⟩ : ∃ r, r = n % 64 := ⟨_, rfl⟩
  have HPW := Lib.hid (show 2 ^ n = W64 ^ v * 2 ^ r by
    rw [show W64 = 2 ^ 64 from rfl, ← Nat.pow_mul, ← Nat.pow_add]; congr 1; omega)
  have hvn : v ≤ 1000000 := by omega
  have hr63 : r ≤ 63 := by omega
  have e1 : (n : Int) / 64 = (v : Int) := by omega
  have e2 : (n : Int) % 64 = (r : Int) := by omega
  have HN1 := Lib.hid h1
  have hp : 0 < 2 ^ r := Nat.pow_pos (by omega)
  clear h1 hv hr
  by_cases h0 : l1.length ≤ v
  · have HX := Lib.hid (show x / 2 ^ n = 0 by
      have h2 := val_lt HN1.out.norm.1
      rw [HN1.out.val] at h2
      have h3 : W64 ^ l1.length ≤ W64 ^ v := Nat.pow_le_pow_right (by unfold W64; omega) h0
      have h4 : W64 ^ v * 1 ≤ W64 ^ v * 2 ^ r := Nat.mul_le_mul_left _ hp
      rw [HPW.out]
      exact Nat.div_eq_of_lt (by omega))
    have t1 : decide ((l1.length : Int) ≤ v) = true := by simp; omega
    go_enter Tryz.func75, Tryz.ntmps75
    go_wp2
    go_ret
    exact ⟨none, 0, [], rfl, by rw [HX.out]; exact natr_nil w, Below.refl _ _⟩
  · have t1 : decide ((l1.length : Int) ≤ v) = false := by simp; omega
    obtain ⟨m, hm⟩ : ∃ m, l1.length = v + m := ⟨l1.length - v, by omega⟩
    have hm0 : 0 < m := by omega
    obtain ⟨L, hL⟩ : ∃ L, L = l1.drop v := ⟨_, rfl⟩
    have hLl : L.length = m := by rw [hL]; simp; omega
    have HLL := Lib.hid hLl
    have HL := Lib.hid hL
    have HM := Lib.hid hm
    have HGET := Lib.hid (show ∀ k, L[k]? = l1[k + v]? from fun k => by rw [hL, List.getElem?_drop, Nat.add_comm])
    have hmi : (l1.length : Int) - (v : Int) = (m : Int) := by omega
    clear h0 hL hLl hm
    go_enter Tryz.func75, Tryz.ntmps75
    go_wp2_with (at_make; refine wpList_make_full _ rfl (.tmp 21) (.tmp 21) 61 rfl w.heap.size 110 i0 _ 1 Tryz.underlying61 hi0 hz0 hz1 .i64 .i64 _ _ m rfl rfl ?m1 ?m2 ?m3 ?m4 ?m5 ?_)
    case m1 => omega
    case m2 => omega
    case m3 => rw [hz2]; omega
    case m4 => unfold maxLen; omega
    case m5 => exact Nat.le_refl _
    intro w1 hown hgr
    rw [made_zeros] at hown
    obtain ⟨hblk, _⟩ := Blk.of_own hown
    have hb1 : Below w.heap.size w w1 := (Below.refl _ w).grown hgr (Nat.le_refl _) (fun k hk => by cases hk)
    have hsz1 : w.heap.size < w1.heap.size := heap_lt hblk
    have HBK := Lib.hid hblk
    have HB1 := Lib.hid hb1
    clear hown hgr hblk hb1
    go_wp2
    go_loopw [8, 25] (fun _ i wr => ∃ (k : Nat), i = .int .i64 k ∧ k ≤ m ∧ ShrRel w wr w.heap.size L (2 ^ r) k) (fun _ i _ => m - (intOf i).toNat)
    case atStart => exact ⟨0, rfl, Nat.zero_le _, List.replicate m 0, by simp [HLL.out], fun d hd => by rw [List.eq_of_mem_replicate hd]; unfold W64; omega, HBK.out, by simp [val], HB1.out⟩
    case round =>
      obtain ⟨k, rfl, hk, o, hol, hod, hblk, hval, hbw⟩ := hrel
      have hgl := heap_lt hblk
      have HO := Lib.hid hod
      have HOL := Lib.hid (show o.length = m by rw [hol, HLL.out])
      have HV := Lib.hid hval
      have HBW := Lib.hid hbw
      have HBL := Lib.hid hblk
      clear hod hol hval
      by_cases hlt : k < m
      · obtain ⟨ba, oa, ua, rfl, hba, hua, qa⟩ := (HN1.out.rd.below hbw (Nat.le_refl _)).at1 (show k + v < l1.length by have := HM.out; omega)
        obtain ⟨d, hd, rfl⟩ := u64s_get hua
        have hdW : d < 18446744073709551616 := HN1.out.norm.1 d (List.mem_of_getElem? hd)
        have HD := Lib.hid (show L[k]? = some d by rw [HGET.out]; exact hd)
        have hko : k < o.length := by have := HOL.out; omega
        obtain ⟨od, hodk⟩ : ∃ od, o[k]? = some od := ⟨o[k], List.getElem?_eq_getElem hko⟩
        have q0 := hblk.cell hodk
        have z0 := hblk.frozen k
        clear hua hd hodk
        have STEP := Lib.hid (show ∀ s, s < 18446744073709551616 → s * 2 ^ r + d % 2 ^ r = d + W64 * (L[k + 1]?.getD 0 % 2 ^ r) → ∀ W, Blk W w.heap.size (o.set k s) → Below w.heap.size w W → ShrRel w W w.heap.size L (2 ^ r) (k + 1) from fun s hs1 hs2 W h3 h4 =>
          ⟨o.set k s, by rw [List.length_set, HOL.out, HLL.out], mem_set HO.out hs1, h3, shr_step hko HD.out (by rw [HOL.out, HLL.out]) HV.out hs2, h4⟩)
        by_cases hr0 : r = 0
        · subst hr0
          have f1 : (d : Int) / 2 ^ (0 : Nat) = (d : Int) := by simp
          have HNEW := Lib.hid (STEP.out d hdW (by simp [Nat.mod_one]) _ (HBL.out.set k d) (HBW.out.setCell (Nat.le_refl _) _))
          clear hblk hbw
          go_wp2
          go_roundw
          case rel => exact ⟨k + 1, by go_num, by omega, HNEW.out⟩
          case measure => simp [intOf]; omega
        · have t2 : decide ((0 : Int) < (r : Int)) = true := by simp; omega
          by_cases hl2 : k + v + 1 < l1.length
          · have t3 : decide ((k : Int) + v + 1 < (l1.length : Int)) = true := by simp; omega
            obtain ⟨bb, ob, ub, hAb, hbb, hub, qb⟩ := (HN1.out.rd.below hbw (Nat.le_refl _)).at1 hl2
            obtain ⟨rfl, rfl⟩ : ba = bb ∧ oa = ob := by simpa using hAb
            obtain ⟨d2, hd2, rfl⟩ := u64s_get hub
            have hd2W : d2 < 18446744073709551616 := HN1.out.norm.1 d2 (List.mem_of_getElem? hd2)
            have hg2 : L[k + 1]? = some d2 := by rw [HGET.out, show k + 1 + v = k + v + 1 by omega]; exact hd2
            obtain ⟨dl, dh, s, f1, f2, f3, hsW, hseq, hdl, _⟩ := shr_words hdW hd2W hr63 (by omega)
            have hb2 : Blk ((wr.setCell ⟨w.heap.size, k, none⟩ (.int .u64 (dl : Int))).setCell ⟨w.heap.size, k, none⟩ (.int .u64 (s : Int))) w.heap.size (o.set k s) := by
              have := (HBL.out.set k dl).set k s
              rwa [List.set_set] at this
            have HNEW := Lib.hid (fun n => STEP.out s hsW (by rw [hg2]; exact hseq) (((wr.setCell ⟨w.heap.size, k, none⟩ (.int .u64 (dl : Int))).setCell ⟨w.heap.size, k, none⟩ (.int .u64 (s : Int))).drewN n) hb2 (below_drewN ((HBW.out.setCell (Nat.le_refl _) _).setCell (Nat.le_refl _) _) n))
            have q1 := (HBL.out.set k dl).cell (i := k) (d := dl) (by rw [List.getElem?_set_self hko])
            have z1 := (HBL.out.set k dl).frozen k
            clear hub hd2 hAb hg2 hseq hb2 hblk hbw
            go_wp2
            go_region
            all_goals go_wp2
            all_goals go_roundw
            case rel => exact ⟨k + 1, by go_num, by omega, HNEW.out _⟩
            case measure => simp [intOf]; omega
          · have t3 : decide ((k : Int) + v + 1 < (l1.length : Int)) = false := by simp; omega
            have hg2 : L[k + 1]? = none := by rw [HGET.out, show k + 1 + v = k + v + 1 by omega, List.getElem?_eq_none (by omega)]
            obtain ⟨dl, dh, s, f1, f2, f3, hsW, hseq, hdl, hdeq⟩ := shr_words (y := 0) hdW (by omega) hr63 (by omega)
            have HNEW := Lib.hid (STEP.out dl hdl (by rw [hg2, hdeq]; simp) _ (HBL.out.set k dl) (HBW.out.setCell (Nat.le_refl _) _))
            clear hg2 hseq hdeq f2 f3 hblk hbw
            go_wp2
            go_roundw
            case rel => exact ⟨k + 1, by go_num, by omega, HNEW.out⟩
            case measure => simp [intOf]; omega
      · obtain rfl : k = m := by omega
        have hrd' : Rd wr 0 wr.heap.size 1 (some ⟨w.heap.size, 0, none⟩) o.length (u64s o) := hblk.rd
        have hval : val W64 o = x / 2 ^ n := by
          have hv := HV.out
          rw [List.take_of_length_le (by rw [HOL.out]; exact Nat.le_refl _), List.take_of_length_le (by rw [HLL.out]; exact Nat.le_refl _), List.getElem?_eq_none (l := L) (i := k) (by rw [HLL.out]; exact Nat.le_refl _)] at hv
          simp only [Option.getD_none, Nat.zero_mod, Nat.mul_zero, Nat.add_zero] at hv
          have hlm : L[0]?.getD 0 % 2 ^ r < 2 ^ r := Nat.mod_lt _ hp
          have h3 : val W64 L / 2 ^ r = val W64 o := by
            rw [← hv, Nat.mul_comm, Nat.mul_add_div hp, Nat.div_eq_of_lt hlm, Nat.add_zero]
          have h4 : val W64 L = x / W64 ^ v := by
            have h5 := val_append W64 (l1.take v) (l1.drop v)
            have h6 : (l1.take v).length = v := by have := HM.out; simp; omega
            rw [List.take_append_drop, HN1.out.val, h6] at h5
            have h7 := val_lt (B := W64) (l := l1.take v) (fun d hd => HN1.out.norm.1 d (List.mem_of_mem_take hd))
            rw [h6] at h7
            rw [HL.out, h5, Nat.add_comm, Nat.mul_add_div (Nat.pow_pos (by unfold W64; omega)), Nat.div_eq_of_lt h7, Nat.add_zero]
          rw [← h3, h4, HPW.out, Nat.div_div_eq_div_mul]
        have hcut := cut_any (some ⟨w.heap.size, 0, none⟩) k o wr hrd' (by rw [HOL.out]; exact Nat.le_refl _) (by unfold maxLen; omega) (fun h => by cases h)
        rw [HOL.out] at hcut
        have HCUT := Lib.hid hcut
        have hnr := natr_cut (c := k) hrd' HO.out (by rw [HOL.out]; exact Nat.le_refl _) (by unfold maxLen; omega) (fun h => by cases h)
        rw [hval] at hnr
        have HNR := Lib.hid hnr
        clear hblk hbw hrd' hval hcut hnr
        go_wp2_with fail
        refine HCUT.out.mono ?_
        rintro e w' ⟨rfl, rfl⟩
        go_wp2
        go_ret
        exact ⟨_, _, _, rfl, HNR.out, HBW.out⟩
end Go.Proofs.YtnpfdelklolchaaGreatDoor

/- Package nat: DivMod. -/
namespace Go.Proofs.YtnpfdelklolchaaGreatDoor
open Go Go.RowKit Go.Proofs

/-- what a function returns that makes two numbers -/
def Nat2Post (x y : Nat) (w : World) (e : Ending) (w' : World) : Prop := ∃ A c l A' c' l', e = .returned (.tuple #[.slice A l.length c, .slice A' l'.length c']) ∧ NatR w' A c l x ∧ NatR w' A' c' l' y ∧ Below w.heap.size w w'
theorem cmpN_neg {x y : Nat} (h : x < y) : cmpN x y = -1 := (cmpN_lt h).symm
theorem cmpN_nonneg {x y : Nat} (h : y ≤ x) : 0 ≤ cmpN x y := by unfold cmpN; rw [if_neg (by omega)]; split <;> omega

set_option maxHeartbeats 2000000 in
set_option maxRecDepth 100000 in
theorem natDivMod_less (A1 A2 : Option Addr) (c1 c2 : Nat) (l1 l2 : List Nat) (x y : Nat) (w : World) (h1 : NatR w A1 c1 l1 x) (h2 : NatR w A2 c2 l2 y) (hs : l1.length ≤ 1000000) (hs2 : l2.length ≤ 1000000) (hxy : x < y) :
    Calls Tryz.prog 25 #[.slice A1 l1.length c1, .slice A2 l2.length c2] w (Nat2Post (x / y) (x % y) w) := by
  have HC := Lib.hid (natCmp_any A1 A2 c1 c2 l1 l2 x y w h1 h2 hs hs2)
  rw [cmpN_neg hxy] at HC
  have HN1 := Lib.hid h1
  clear h1 h2
  go_enter Tryz.func25, Tryz.ntmps25
  go_wp2_with fail
  refine HC.out.mono ?_
  rintro e w' ⟨rfl, q, rfl⟩
  go_wp2
  go_ret2
  refine ⟨none, 0, [], A1, c1, l1, rfl, ?_, ?_, below_drewN (Below.refl _ _) q⟩
  · rw [Nat.div_eq_of_lt hxy]; exact natr_nil _
  · rw [Nat.mod_eq_of_lt hxy]; exact HN1.out.on (below_drewN (Below.refl _ _) q)

theorem norm_one {r : Nat} (hr : r < W64) (w : World) : NatR (w.alloc (.cells #[.int .u64 (r : Int)] 110)) (some ⟨w.heap.size, 0, none⟩) 1 (trim [r]) r := by
  have hb : Blk (w.alloc (.cells #[.int .u64 (r : Int)] 110)) w.heap.size [r] := alloc_at w _ _ rfl
  have := natr_cut (c := 1) hb.rd (by intro d hd; simp at hd; subst hd; exact hr) (by simp) (by unfold maxLen; omega) (fun h => by cases h)
  have e : val W64 [r] = r := by simp [val]
  rwa [e] at this

set_option maxHeartbeats 2000000 in
set_option maxRecDepth 100000 in
theorem natDivMod_word (A1 A2 : Option Addr) (c1 c2 : Nat) (l1 : List Nat) (d x : Nat) (w : World) (h1 : NatR w A1 c1 l1 x) (h2 : NatR w A2 c2 [d] d) (hs : l1.length ≤ 1000000) (hxy : d ≤ x) (hd0 : 0 < d) :
    Calls Tryz.prog 25 #[.slice A1 l1.length c1, .slice A2 1 c2] w (Nat2Post (x / d) (x % d) w) := by
  have HC := Lib.hid (natCmp_any A1 A2 c1 c2 l1 [d] x d w h1 h2 hs (by simp))
  have t1 := cmpN_nonneg hxy
  have HN1 := Lib.hid h1
  have hdW : d < 18446744073709551616 := h2.norm.1 d (by simp)
  obtain ⟨b, o, u, rfl, hb, hu, qd⟩ := h2.rd.at1 (show 0 < [d].length by simp)
  obtain ⟨d', hd', rfl⟩ := u64s_get hu
  obtain rfl : d = d' := by simpa using hd'
  rw [Nat.add_zero] at qd
  have HS := Lib.hid (fun q => natSmall_any A1 c1 l1 x d (w.drewN q) (HN1.out.on (below_drewN (Below.refl _ _) q)) hs hd0 hdW)
  have hrW : x % d < W64 := by have := Nat.mod_lt x hd0; unfold W64; omega
  clear h1 h2 hu hd'
  go_enter Tryz.func25, Tryz.ntmps25
  go_wp2_with fail
  refine HC.out.mono ?_
  rintro e w' ⟨rfl, q, rfl⟩
  obtain ⟨cm, hcm⟩ : ∃ cm, cm = cmpN x d := ⟨_, rfl⟩
  rw [← hcm] at t1 ⊢
  clear hcm
  have t2 : decide (cm < 0) = false := by simp; omega
  go_wp2_with fail
  refine (HS.out q).mono ?_
  rintro e w1 ⟨A, c, l, rfl, hn, hb1⟩
  have HNQ := Lib.hid hn
  have HB1 := Lib.hid hb1
  obtain ⟨r, hr⟩ : ∃ r, r = x % d := ⟨_, rfl⟩
  rw [← hr] at hrW ⊢
  have HR := Lib.hid hr
  have hblk : Blk (w1.alloc (.cells #[.int .u64 (r : Int)] 110)) w1.heap.size [r] := alloc_at w1 _ _ rfl
  have HCUT := Lib.hid (cut_any (some ⟨w1.heap.size, 0, none⟩) 1 [r] (w1.alloc (.cells #[.int .u64 (r : Int)] 110)) hblk.rd (by simp) (by unfold maxLen; omega) (fun h => by cases h))
  have HNR := Lib.hid (norm_one hrW w1)
  have HB2 := Lib.hid (show Below w1.heap.size w1 (w1.alloc (.cells #[.int .u64 (r : Int)] 110)) from (Below.refl _ w1).alloc (Nat.le_refl _) _)
  clear hn hb1 hr hblk
  go_wp2_with fail
  refine HCUT.out.mono ?_
  rintro e w' ⟨rfl, rfl⟩
  go_wp2
  go_ret2
  refine ⟨_, _, _, _, _, _, rfl, HNQ.out.on HB2.out, by rw [← HR.out]; exact HNR.out, ?_⟩
  exact below_next (below_drewN (Below.refl _ w) q) (below_next HB1.out HB2.out)
end Go.Proofs.YtnpfdelklolchaaGreatDoor
