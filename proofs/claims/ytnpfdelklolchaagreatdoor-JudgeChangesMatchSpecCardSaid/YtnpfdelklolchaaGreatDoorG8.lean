import Derived.Test.YtnpfdelklolchaaGreatDoorDiv64
import Derived.Test.YtnpfdelklolchaaGreatDoorNatTG
/- Package nat: small (division by a word). -/
namespace Go.Proofs.YtnpfdelklolchaaGreatDoor
open Go Go.RowKit Go.Proofs

theorem val_drop {B : Nat} {l : List Nat} {j d : Nat} (h : l[j]? = some d) : val B (l.drop j) = d + B * val B (l.drop (j + 1)) := by
  have e := List.getElem?_eq_some_iff.1 h
  rw [List.drop_eq_getElem_cons e.1, e.2]; rfl
theorem drop_set_lt {l : List Nat} {j k q : Nat} (h : j < k) : (l.set j q).drop k = l.drop k := by
  rw [List.drop_set, if_pos h]
/-- what small keeps: k words are still to come -/
def SmallRel (w wr : World) (g : Nat) (la : List Nat) (b k r : Nat) : Prop :=
  ∃ o, o.length = la.length ∧ (∀ d ∈ o, d < W64) ∧ Blk wr g o ∧ val W64 (la.drop k) = b * val W64 (o.drop k) + r ∧ Below w.heap.size w wr
theorem small_step {la o : List Nat} {b j d r : Nat} (_hb : 0 < b) (hd : la[j]? = some d) (hj : j < o.length) (h : val W64 (la.drop (j + 1)) = b * val W64 (o.drop (j + 1)) + r) :
    val W64 (la.drop j) = b * val W64 ((o.set j ((r * 18446744073709551616 + d) / b)).drop j) + (r * 18446744073709551616 + d) % b := by
  rw [val_drop hd, val_drop (l := o.set j _) (d := (r * 18446744073709551616 + d) / b) (by rw [List.getElem?_set_self hj]), drop_set_lt (by omega), h]
  have e := Nat.div_add_mod (r * 18446744073709551616 + d) b
  have e2 : W64 * (b * val W64 (o.drop (j + 1)) + r) = b * (W64 * val W64 (o.drop (j + 1))) + r * 18446744073709551616 := by
    rw [Nat.mul_add, Nat.mul_left_comm, Nat.mul_comm W64 r]; rfl
  rw [e2, Nat.mul_add b]; omega
/-- what a function returns that makes a number and a word -/
def NatWPost (x r : Nat) (w : World) (e : Ending) (w' : World) : Prop := ∃ A c l, e = .returned (.tuple #[.slice A l.length c, .int .u64 (r : Int)]) ∧ NatR w' A c l x ∧ Below w.heap.size w w'

set_option maxHeartbeats 2000000 in
set_option maxRecDepth 100000 in
theorem natSmall_any (A1 : Option Addr) (c1 : Nat) (l1 : List Nat) (x b : Nat) (w : World) (h1 : NatR w A1 c1 l1 x) (hs : l1.length ≤ 1000000) (hb0 : 0 < b) (hbW : b < 18446744073709551616) :
    Calls Tryz.prog 68 #[.slice A1 l1.length c1, .int .u64 b] w (NatWPost (x / b) (x % b) w) := by
  obtain ⟨i0, hi0, hz0, hz1, hz2⟩ := info_parts Tryz.infoU
  have HN1 := Lib.hid h1
  clear h1
  go_enter Tryz.func68, Tryz.ntmps68
  go_wp2_with (at_make; refine wpList_make_full _ rfl (.tmp 10) (.tmp 10) 61 rfl w.heap.size 110 i0 _ 1 Tryz.underlying61 hi0 hz0 hz1 .i64 .i64 _ _ l1.length rfl rfl ?m1 ?m2 ?m3 ?m4 ?m5 ?_)
  case m1 => rfl
  case m2 => rfl
  case m3 => rw [hz2]; omega
  case m4 => unfold maxLen; omega
  case m5 => exact Nat.le_refl _
  intro w1 hown hgr
  rw [made_zeros] at hown
  obtain ⟨hblk, _⟩ := Blk.of_own hown
  have hb1 : Below w.heap.size w w1 := (Below.refl _ w).grown hgr (Nat.le_refl _) (fun k hk => by cases hk)
  have hsz1 : w.heap.size < w1.heap.size := heap_lt hblk
  have HBK := Lib.hid hblk
  have HB1 := Lib.hid hb1
  clear hown hgr hblk hb1
  go_wp2
  go_loopw [7, 8] (fun re i wr => ∃ (k r : Nat), i = .int .i64 ((k : Int) - 1) ∧ re = .int .u64 r ∧ k ≤ l1.length ∧ r < b ∧ SmallRel w wr w.heap.size l1 b k r) (fun _ i _ => (intOf i + 1).toNat)
  case atStart => exact ⟨l1.length, 0, rfl, rfl, Nat.le_refl _, hb0, List.replicate l1.length 0, by simp, fun d hd => by rw [List.eq_of_mem_replicate hd]; unfold W64; omega, HBK.out, by rw [List.drop_length, List.drop_eq_nil_of_le (by simp)]; rfl, HB1.out⟩
  case round =>
    obtain ⟨k, r, rfl, rfl, hk, hr, o, hol, hod, hblk, hval, hbw⟩ := hrel
    have hgl := heap_lt hblk
    have HO := Lib.hid hod
    have HOL := Lib.hid hol
    have HV := Lib.hid hval
    have HBW := Lib.hid hbw
    have HBL := Lib.hid hblk
    clear hod hol hval
    cases k with
    | succ j =>
      have e : (((j + 1 : Nat) : Int) - 1) = (j : Int) := by omega
      rw [e]
      clear e
      obtain ⟨ba, oa, ua, rfl, hba, hua, qa⟩ := (HN1.out.rd.below hbw (Nat.le_refl _)).at1 (show j < l1.length by omega)
      obtain ⟨da, hda, rfl⟩ := u64s_get hua
      have hdaW : da < 18446744073709551616 := HN1.out.norm.1 da (List.mem_of_getElem? hda)
      have HDA := Lib.hid hda
      have hko : j < o.length := by have := HOL.out; omega
      obtain ⟨od, hod⟩ : ∃ od, o[j]? = some od := ⟨o[j], List.getElem?_eq_getElem hko⟩
      have q0 := hblk.cell hod
      have z0 := hblk.frozen j
      clear hua hda hod hblk hbw
      have hj1 : (j : Int) < (l1.length : Int) := by omega
      have t0 : decide ((0 : Int) ≤ ↑j) = true := by simp
      have hdv := fun W => div64_any r da b W hdaW hr hbW
      have hst := small_step (la := l1) (o := o) (b := b) hb0 HDA.out hko HV.out
      have hqW : (r * 18446744073709551616 + da) / b < 18446744073709551616 := digit_lt hr hdaW
      have hrW : (r * 18446744073709551616 + da) % b < b := Nat.mod_lt _ hb0
      obtain ⟨q, hq⟩ : ∃ z, z = (r * 18446744073709551616 + da) / b := ⟨_, rfl⟩
      obtain ⟨r', hr'⟩ : ∃ z, z = (r * 18446744073709551616 + da) % b := ⟨_, rfl⟩
      rw [← hq, ← hr'] at hst
      rw [← hq] at hqW
      rw [← hr'] at hrW
      simp only [← hq, ← hr'] at hdv
      have HDV := Lib.hid hdv
      have HNEW := Lib.hid (show ∀ n, SmallRel w ((wr.setCell ⟨w.heap.size, j, none⟩ (.int .u64 (q : Int))).drewN n) w.heap.size l1 b j r' from fun n =>
        ⟨o.set j q, by simp [HOL.out], mem_set HO.out hqW, HBL.out.set j q, hst, below_drewN (HBW.out.setCell (Nat.le_refl _) _) n⟩)
      clear hdv hst hq hr'
      go_wp2_with (go_at_call 97; refine (HDV.out _).mono ?_; rintro e w' ⟨rfl, n, rfl⟩)
      go_roundw
      case rel => exact ⟨j, r', by go_num, rfl, by omega, hrW, HNEW.out _⟩
      case measure => simp [intOf]
    | zero =>
      have hrd' : Rd wr 0 wr.heap.size 1 (some ⟨w.heap.size, 0, none⟩) o.length (u64s o) := hblk.rd
      have hv := HV.out
      rw [List.drop_zero, List.drop_zero, HN1.out.val] at hv
      have hval : val W64 o = x / b ∧ r = x % b := by
        rw [hv]
        constructor
        · rw [Nat.mul_add_div hb0, Nat.div_eq_of_lt hr, Nat.add_zero]
        · rw [Nat.mul_add_mod, Nat.mod_eq_of_lt hr]
      have hcut := cut_any (some ⟨w.heap.size, 0, none⟩) l1.length o wr hrd' (by rw [HOL.out]; exact Nat.le_refl _) (by unfold maxLen; omega) (fun h => by cases h)
      rw [HOL.out] at hcut
      have HCUT := Lib.hid hcut
      have hnr := natr_cut (c := l1.length) hrd' HO.out (by rw [HOL.out]; exact Nat.le_refl _) (by unfold maxLen; omega) (fun h => by cases h)
      rw [hval.1] at hnr
      have HNR := Lib.hid hnr
      have HR := Lib.hid hval.2
      clear hblk hbw hrd' hval hcut hnr hv
      go_wp2_with fail
      refine HCUT.out.mono ?_
      rintro e w' ⟨rfl, rfl⟩
      go_wp2
      go_ret2
      exact ⟨_, _, _, by rw [← HR.out]; rfl, HNR.out, HBW.out⟩
end Go.Proofs.YtnpfdelklolchaaGreatDoor

/- Package nat: guess (the next word of a quotient, not too small). -/
namespace Go.Proofs.YtnpfdelklolchaaGreatDoor
open Go Go.RowKit Go.Proofs

theorem win_three {x : List Nat} {j m a0 a1 a2 : Nat} (h0 : x[j + m]? = some a0) (h1 : x[j + (m + 1)]? = some a1) (h2 : x[j + (m + 2)]? = some a2) :
    win W64 x j (m + 3) = win W64 x j m + W64 ^ m * (a0 + W64 * (a1 + W64 * a2)) := by
  rw [win_succ h2, win_succ h1, win_succ h0]
  simp only [Nat.pow_succ, Nat.mul_add, Nat.mul_assoc, Nat.add_assoc]
/-- the comparison of the two words with the two words -/
theorem lex_le {q S r a0 : Nat} (ha : a0 < 18446744073709551616) : (q * S ≤ r * 18446744073709551616 + a0) ↔ (q * S / 18446744073709551616 < r ∨ q * S / 18446744073709551616 = r ∧ q * S % 18446744073709551616 ≤ a0) := by omega

set_option maxHeartbeats 2000000 in
set_option maxRecDepth 100000 in
theorem natGuess_any (g cx : Nat) (x : List Nat) (A2 : Option Addr) (c2 m : Nat) (lb : List Nat) (j T : Nat) (w : World) (h1 : Rd w 0 w.heap.size 1 (some ⟨g, 0, none⟩) x.length (u64s x)) (hx : ∀ d ∈ x, d < W64) (h2 : Rd w 0 w.heap.size 1 A2 (m + 2) (u64s lb)) (hb : ∀ d ∈ lb, d < W64)
    (hlb : lb.length = m + 2) (hT : lb[m + 1]? = some T) (hT0 : 0 < T) (hj : j + m + 3 ≤ x.length) (hs : x.length ≤ 2000000) (hlt : win W64 x j (m + 3) < val W64 lb * W64) :
    Calls Tryz.prog 72 #[.slice (some ⟨g, 0, none⟩) x.length cx, .slice A2 ((m + 2 : Nat)) c2, .int .i64 j] w fun e w' =>
      ∃ q : Nat, e = .returned (.int .u64 (q : Int)) ∧ win W64 x j (m + 3) / val W64 lb ≤ q ∧ q < 18446744073709551616 ∧ ∃ n, w' = w.drewN n := by
  obtain ⟨S, hS⟩ : ∃ S, lb[m]? = some S := ⟨lb[m]'(by omega), List.getElem?_eq_getElem _⟩
  obtain ⟨b, o, rfl, _, _, hcl⟩ := h2.2 (by omega)
  have cT : w.cell? ⟨b, o + (m + 1), none⟩ = some (.int .u64 (T : Int)) := hcl (m + 1) _ (by unfold u64s; rw [List.getElem?_map, hT]; rfl)
  have cS : w.cell? ⟨b, o + m, none⟩ = some (.int .u64 (S : Int)) := hcl m _ (by unfold u64s; rw [List.getElem?_map, hS]; rfl)
  obtain ⟨a0, e0⟩ : ∃ a, x[j + m]? = some a := ⟨x[j + m]'(by omega), List.getElem?_eq_getElem _⟩
  obtain ⟨a1, e1⟩ : ∃ a, x[j + (m + 1)]? = some a := ⟨x[j + (m + 1)]'(by omega), List.getElem?_eq_getElem _⟩
  obtain ⟨a2, e2⟩ : ∃ a, x[j + (m + 2)]? = some a := ⟨x[j + (m + 2)]'(by omega), List.getElem?_eq_getElem _⟩
  obtain ⟨g', o', hg', _, _, hcx⟩ := h1.2 (by omega)
  obtain ⟨rfl, rfl⟩ : g' = g ∧ o' = 0 := by simp at hg'; exact ⟨hg'.1.symm, hg'.2.symm⟩
  have q0 : w.cell? ⟨g', j + m, none⟩ = some (.int .u64 (a0 : Int)) := by have := hcx (j + m) (.int .u64 (a0 : Int)) (by unfold u64s; rw [List.getElem?_map, e0]; rfl); simpa using this
  have q1 : w.cell? ⟨g', j + (m + 1), none⟩ = some (.int .u64 (a1 : Int)) := by have := hcx (j + (m + 1)) (.int .u64 (a1 : Int)) (by unfold u64s; rw [List.getElem?_map, e1]; rfl); simpa using this
  have q2 : w.cell? ⟨g', j + (m + 2), none⟩ = some (.int .u64 (a2 : Int)) := by have := hcx (j + (m + 2)) (.int .u64 (a2 : Int)) (by unfold u64s; rw [List.getElem?_map, e2]; rfl); simpa using this
  have q0b : w.cell? ⟨g', j + (m + 2) - 2, none⟩ = some (.int .u64 (a0 : Int)) := by rw [show j + (m + 2) - 2 = j + m by omega]; exact q0
  have w0 : a0 < 18446744073709551616 := hx a0 (List.mem_of_getElem? e0)
  have w1 : a1 < 18446744073709551616 := hx a1 (List.mem_of_getElem? e1)
  have w2 : a2 < 18446744073709551616 := hx a2 (List.mem_of_getElem? e2)
  have wT : T < 18446744073709551616 := hb T (List.mem_of_getElem? hT)
  have wS : S < 18446744073709551616 := hb S (List.mem_of_getElem? hS)
  have hX := win_three e0 e1 e2
  have hD := val_two (B := W64) (l := lb) (k := m) hlb hS hT
  have hXp : win W64 x j m < W64 ^ m := win_lt (by unfold W64; omega) hx j m
  have hP : 0 < W64 ^ m := Nat.pow_pos (by unfold W64; omega)
  have hDp : 0 < val W64 lb := by
    rw [hD]
    have : 0 < W64 ^ m * (S + W64 * T) := Nat.mul_pos hP (by have : 0 < W64 * T := Nat.mul_pos (by unfold W64; omega) hT0; omega)
    omega
  obtain ⟨G, hG⟩ : ∃ G, G = win W64 x j (m + 3) / val W64 lb := ⟨_, rfl⟩
  have hGW : G < 18446744073709551616 := by
    rw [hG]; exact (Nat.div_lt_iff_lt_mul hDp).2 (by rw [Nat.mul_comm]; exact hlt)
  have HFIRST := Lib.hid (show G ≤ (a2 * 18446744073709551616 + a1) / T by
    rw [hG, hX, hD]; exact guess_first (B := W64) hXp w0 hT0)
  have HLESS := Lib.hid (show ∀ q r, q * T + r = a2 * 18446744073709551616 + a1 → r * 18446744073709551616 + a0 < q * S → G < q from fun q r h h' => by
    rw [hG]
    refine kn_less hDp ?_
    rw [hX, hD]
    exact guess_less (B := W64) hXp h h')
  rw [← hG]
  clear hG hX hD hXp hP hDp hlt hcl hcx h1 h2 hx hb hlb hT hS e0 e1 e2 hg'
  go_enter Tryz.func72, Tryz.ntmps72
  by_cases hc : T ≤ a2
  · have t1 : decide ((T : Int) ≤ a2) = true := by simp; omega
    go_wp2
    go_ret
    exact ⟨18446744073709551615, rfl, by omega, by omega, 0, rfl⟩
  · have t1 : decide ((T : Int) ≤ a2) = false := by simp; omega
    have hdv := fun W => div64_any a2 a1 T W w1 (by omega) wT
    have hqW : (a2 * 18446744073709551616 + a1) / T < 18446744073709551616 := digit_lt (by omega) w1
    have hrT : (a2 * 18446744073709551616 + a1) % T < T := Nat.mod_lt _ hT0
    have hst := Nat.div_add_mod (a2 * 18446744073709551616 + a1) T
    have hfi := HFIRST.out
    obtain ⟨q0', hq⟩ : ∃ z, z = (a2 * 18446744073709551616 + a1) / T := ⟨_, rfl⟩
    obtain ⟨r0', hr⟩ : ∃ z, z = (a2 * 18446744073709551616 + a1) % T := ⟨_, rfl⟩
    simp only [← hq, ← hr] at hdv hqW hrT hst hfi
    have HDV := Lib.hid hdv
    have HST := Lib.hid (show q0' * T + r0' = a2 * 18446744073709551616 + a1 by rw [Nat.mul_comm]; exact hst)
    clear hq hr hdv hst
    go_wp2_with fail
    go_quiet (exact Calls.quiet_of (HDV.out _))
    go_wp2_with fail
    go_loopw [9, 10, 11, 12, 13] (fun qv rv _ _ _ wr => ∃ q r : Nat, qv = .int .u64 q ∧ rv = .int .u64 r ∧ q * T + r = a2 * 18446744073709551616 + a1 ∧ r < 18446744073709551616 ∧ q < 18446744073709551616 ∧ G ≤ q ∧ ∃ k, wr = w.drewN k) (fun qv _ _ _ _ _ => (intOf qv).toNat)
    case atStart => exact ⟨q0', r0', rfl, rfl, HST.out, by omega, hqW, hfi, _, rfl⟩
    case round =>
      obtain ⟨q, r, rfl, rfl, hqr, hr, hq, hG, k, rfl⟩ := hrel
      have HQR := Lib.hid hqr
      have hmul := Tryz.bits_Mul64 q S hq wS
      have hlx := lex_le (q := q) (S := S) (r := r) (a0 := a0) w0
      have hhW : q * S / 18446744073709551616 < 18446744073709551616 := by have := mul_le hq wS; omega
      have hlW : q * S % 18446744073709551616 < 18446744073709551616 := Nat.mod_lt _ (by omega)
      obtain ⟨hi_, hhi⟩ : ∃ h, h = q * S / 18446744073709551616 := ⟨_, rfl⟩
      obtain ⟨lo, hlo⟩ : ∃ h, h = q * S % 18446744073709551616 := ⟨_, rfl⟩
      simp only [← hhi, ← hlo] at hmul hlx hhW hlW
      have HMUL := Lib.hid (show ∀ W, Calls Tryz.prog 76 #[.int .u64 q, .int .u64 S] W fun e w' => e = .returned (.tuple #[.int .u64 (hi_ : Int), .int .u64 (lo : Int)]) ∧ W = w' from fun W => (hmul W).mono fun e w' ⟨h1, h2⟩ => ⟨h1, h2.symm⟩)
      clear hqr hmul hhi hlo
      by_cases hle : q * S ≤ r * 18446744073709551616 + a0
      · have ho := hlx.1 hle
        clear hlx hle
        by_cases h1 : hi_ < r
        · have b1 : decide ((hi_ : Int) < r) = true := by simp; omega
          clear ho
          go_wp2_with (go_at_call 76; refine (HMUL.out _).mono ?_; rintro e w' ⟨rfl, rfl⟩)
          go_ret
          exact ⟨q, rfl, hG, hq, _, rfl⟩
        · obtain ⟨rfl, h3⟩ : hi_ = r ∧ lo ≤ a0 := by omega
          have b1 : decide ((hi_ : Int) < hi_) = false := by simp
          have b3 : decide ((lo : Int) ≤ a0) = true := by simp; omega
          clear ho
          go_wp2_with (go_at_call 76; refine (HMUL.out _).mono ?_; rintro e w' ⟨rfl, rfl⟩)
          go_ret
          exact ⟨q, rfl, hG, hq, _, rfl⟩
      · have hgt : G < q := HLESS.out q r HQR.out (by omega)
        have ho : ¬ (hi_ < r ∨ hi_ = r ∧ lo ≤ a0) := fun h => hle (hlx.2 h)
        have HQ' := Lib.hid (show (q - 1) * T + (r + T) = a2 * 18446744073709551616 + a1 by
          have := HQR.out
          have e : q * T = (q - 1) * T + T := by
            conv => lhs; rw [show q = (q - 1) + 1 by omega, Nat.add_mul, Nat.one_mul]
          omega)
        have b1 : decide ((hi_ : Int) < r) = false := by simp; omega
        have hsm : (r + T) % 18446744073709551616 + 18446744073709551616 * ((r + T) / 18446744073709551616) = r + T := by omega
        have hk1 : (r + T) / 18446744073709551616 ≤ 1 := by omega
        have hsW : (r + T) % 18446744073709551616 < 18446744073709551616 := Nat.mod_lt _ (by omega)
        obtain ⟨s1, hs1⟩ : ∃ h, h = (r + T) % 18446744073709551616 := ⟨_, rfl⟩
        obtain ⟨k1, hk1e⟩ : ∃ h, h = (r + T) / 18446744073709551616 := ⟨_, rfl⟩
        have hadd : ∀ W, (callFunc 77 #[.int .u64 r, .int .u64 T, .int .u64 0]).run Tryz.prog W = .ok (.value (.tuple #[.int .u64 (s1 : Int), .int .u64 (k1 : Int)])) W := by
          intro W
          have := add64_eq r T 0 hr wT (by omega) W
          rwa [Nat.add_zero, ← hs1, ← hk1e] at this
        simp only [← hs1, ← hk1e] at hsm hk1 hsW
        have HSM := Lib.hid hsm
        clear hs1 hk1e hsm hlx hle
        by_cases hk0 : k1 = 0
        · subst hk0
          by_cases h2 : hi_ = r
          · subst h2
            have h3 : ¬ lo ≤ a0 := by omega
            have b3 : decide ((lo : Int) ≤ a0) = false := by simp; omega
            clear ho
            go_wp2_with (go_at_call 76; refine (HMUL.out _).mono ?_; rintro e w' ⟨rfl, rfl⟩)
            go_roundw
            case rel => (repeat apply Exists.intro); exact ⟨⟨q - 1, s1, by go_num, rfl, by have := HQ'.out; have := HSM.out; omega, hsW, by omega, by omega, _, rfl⟩, rfl⟩
            case measure => simp [intOf]; omega
          · have b2 : ((hi_ : Int) == (r : Int)) = false := by simp; omega
            have h1n : ¬ hi_ < r := by omega
            clear ho
            go_wp2_with (go_at_call 76; refine (HMUL.out _).mono ?_; rintro e w' ⟨rfl, rfl⟩)
            go_roundw
            case rel => (repeat apply Exists.intro); exact ⟨⟨q - 1, s1, by go_num, rfl, by have := HQ'.out; have := HSM.out; omega, hsW, by omega, by omega, _, rfl⟩, rfl⟩
            case measure => simp [intOf]; omega
        · obtain rfl : k1 = 1 := by omega
          by_cases h2 : hi_ = r
          · subst h2
            have h3 : ¬ lo ≤ a0 := by omega
            have b3 : decide ((lo : Int) ≤ a0) = false := by simp; omega
            clear ho
            go_wp2_with (go_at_call 76; refine (HMUL.out _).mono ?_; rintro e w' ⟨rfl, rfl⟩)
            go_ret
            exact ⟨q - 1, by go_num, by omega, by omega, _, rfl⟩
          · have b2 : ((hi_ : Int) == (r : Int)) = false := by simp; omega
            have h1n : ¬ hi_ < r := by omega
            clear ho
            go_wp2_with (go_at_call 76; refine (HMUL.out _).mono ?_; rintro e w' ⟨rfl, rfl⟩)
            go_ret
            exact ⟨q - 1, by go_num, by omega, by omega, _, rfl⟩
end Go.Proofs.YtnpfdelklolchaaGreatDoor
