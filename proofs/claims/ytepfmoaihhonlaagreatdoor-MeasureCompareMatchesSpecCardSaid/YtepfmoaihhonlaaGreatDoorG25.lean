import Derived.Test.YtepfmoaihhonlaaGreatDoorG24
import Derived.Lib.ItoaMem
import Derived.BigGuard
/- strconv.FormatUint at base 10. -/
namespace Go.Proofs.YtepfmoaihhonlaaGreatDoor
open Go Go.RowKit Go.Proofs Go.Sort

theorem below_fmt (w : World) (o : Obj) (dk : Array UInt8) (k : Nat) : Below w.heap.size w ((putRow (fun (b : UInt8) => Value.int .u8 (b.toNat : Int)) (w.alloc o) w.heap.size 0 dk).drewN k) := by
  rw [alloc_eq_grow]
  obtain ⟨os', _, e⟩ := putRow_grow_new (fun (b : UInt8) => Value.int .u8 (b.toNat : Int)) w #[o] w.heap.size 0 dk (Nat.le_refl _)
  rw [e]
  exact Lib.below_grow w.heap.size w (Nat.le_refl _) k os'
theorem holds_zero0 (w : World) (t : TypeId) (n : Nat) (h : n ≤ 24) : Holds (fun (b : UInt8) => Value.int .u8 (b.toNat : Int)) (w.alloc (.cells Lib.zeros24 t)) w.heap.size 0 (Array.replicate n 0) := by
  intro j hj
  have hj' : j < n := by simpa using hj
  refine ⟨?_, World.frozen?_alloc_new _ _ _ _⟩
  rw [Nat.zero_add, World.cell?_alloc_new]
  have := Lib.zeros24_at j (by omega)
  rw [this, getElem!_pos _ j hj]
  simp

set_option maxHeartbeats 6400000 in
set_option maxRecDepth 100000 in
theorem fmtUI_any (u : Nat) (w : World) (hu64 : u < 18446744073709551616) (ht : Tab w.heap.size w) :
    Calls Tryz.prog 209 #[.int .u64 u, .int .i64 10] w fun e w' => e = .returned (.string ⟨(Lib.decDigits u).toArray⟩) ∧ Below w.heap.size w w' := by
  by_cases hs : u < 100
  · have t1 : decide (u < 100) = true := by simpa using hs
    have t2 : decide ((u : Int) < 100) = true := by simp; omega
    go_enter Tryz.func209, Tryz.ntmps209
    go_wp2_with fail
    refine (Tryz.internal_strconv_small u hs _).mono ?_
    rintro e w' ⟨rfl, rfl⟩
    go_wp2
    go_ret
    exact ⟨rfl, Below.refl _ _⟩
  · have hu1 : 1 ≤ u := by omega
    have t1 : decide (u < 100) = false := by simpa using hs
    have t2 : decide ((u : Int) < 100) = false := by simp; omega
    have hnd20 : Lib.nDigits u ≤ 20 := by have := Lib.numDigits_eq u hu1 hu64; split at this <;> omega
    have hal : Tryz.prog.arrayLen 264 = 24 := by kernel_rfl
    have hsl : ∀ W, (Instr.sliceAt 264 (.pointer (some ⟨w.heap.size, 0, none⟩)) none (some (.int .i64 (Lib.nDigits u : Int))) none).run Tryz.prog W = .ok (.slice (some ⟨w.heap.size, 0, none⟩) (Lib.nDigits u) 24) W := fun W => by
      rw [run_sliceAt_array_h W 264 ⟨w.heap.size, 0, none⟩ (by kernel_rfl) .i64 (Lib.nDigits u : Int) (by omega) (by rw [hal]; omega)]
      go_simp
      try omega
    have hH0 := holds_zero0 w 264 (Lib.nDigits u) (by omega)
    have hfmt := Tryz.internal_strconv_formatBase10 w.heap.size 0 24 u (Array.replicate (Lib.nDigits u) 0) (w.alloc (.cells Lib.zeros24 264)) hH0 (by rw [Array.size_replicate]; exact Lib.lt_pow_nDigits u) hu64 (by rw [Array.size_replicate]; omega)
    rw [Array.size_replicate] at hfmt
    have HH0 := Lib.hid hH0
    have HT := Lib.hid (ht _ ((Below.refl _ w).alloc (Nat.le_refl _) (.cells Lib.zeros24 264)))
    have HND := Lib.hid (Tryz.internal_strconv_numDigits u hu1 hu64 _ HT.out)
    clear hH0 hal ht
    go_enter Tryz.func209, Tryz.ntmps209
    go_wp2_with fail
    refine HND.out.mono ?_
    rintro e w' ⟨rfl, rfl⟩
    go_wp2_with fail
    refine hfmt.mono ?_
    rintro e w' ⟨rfl, k, v', dk, rfl, hF⟩
    have hcv : (convert 68 9 (.slice (some ⟨w.heap.size, 0, none⟩) (Lib.nDigits u) 24)).run Tryz.prog ((putRow (fun (b : UInt8) => Value.int .u8 (b.toNat : Int)) (w.alloc (.cells Lib.zeros24 264)) w.heap.size 0 dk).drewN k) = .ok (.string ⟨(Lib.decDigits u).toArray⟩) ((putRow (fun (b : UInt8) => Value.int .u8 (b.toNat : Int)) (w.alloc (.cells Lib.zeros24 264)) w.heap.size 0 dk).drewN k) := by
      have h := run_convert_bytes_back (P := Tryz.prog) ((putRow (fun (b : UInt8) => Value.int .u8 (b.toNat : Int)) (w.alloc (.cells Lib.zeros24 264)) w.heap.size 0 dk).drewN k) 68 9 5 ⟨w.heap.size, 0, none⟩ 24 (Lib.decDigits u) Tryz.underlying68 Tryz.underlying5 Tryz.underlying9 (fun j hj => by
        rw [Lib.row_is_numeral hF j hj, Lib.add_plain, World.cell?_drewN]
        exact cell?_putRow (fun (b : UInt8) => Value.int .u8 (b.toNat : Int)) _ w.heap.size 0 _ dk HH0.out (by rw [hF.size, Array.size_replicate]) j (by rw [hF.size]; rw [Lib.decDigits_length] at hj; exact hj))
      rw [Lib.decDigits_length] at h
      exact h
    have HBF := Lib.hid (below_fmt w (.cells Lib.zeros24 264) dk k)
    go_wp2
    go_ret
    exact ⟨rfl, HBF.out⟩
set_option maxHeartbeats 1000000 in
set_option maxRecDepth 100000 in
theorem fmtU_any (u : Nat) (w : World) (hu64 : u < 18446744073709551616) (ht : Tab w.heap.size w) :
    Calls Tryz.prog 174 #[.int .u64 u, .int .i64 10] w fun e w' => e = .returned (.string ⟨(Lib.decDigits u).toArray⟩) ∧ Below w.heap.size w w' := by
  have H := Lib.hid (fmtUI_any u w hu64 ht)
  clear ht
  go_enter Tryz.func174, Tryz.ntmps174
  go_wp2_with fail
  refine H.out.mono ?_
  rintro e w' ⟨rfl, hb⟩
  go_wp2
  go_ret
  exact ⟨rfl, hb⟩
end Go.Proofs.YtepfmoaihhonlaaGreatDoor

/- Package nat: guess (the next word of a quotient, not too small). -/
namespace Go.Proofs.YtepfmoaihhonlaaGreatDoor
open Go Go.RowKit Go.Proofs

theorem win_three {x : List Nat} {j m a0 a1 a2 : Nat} (h0 : x[j + m]? = some a0) (h1 : x[j + (m + 1)]? = some a1) (h2 : x[j + (m + 2)]? = some a2) :
    win W64 x j (m + 3) = win W64 x j m + W64 ^ m * (a0 + W64 * (a1 + W64 * a2)) := by
  rw [win_succ h2, win_succ h1, win_succ h0]
  simp only [Nat.pow_succ, Nat.mul_add, Nat.mul_assoc, Nat.add_assoc]
/-- the comparison of the two words with the two words -/
theorem lex_le {q S r a0 : Nat} (ha : a0 < 18446744073709551616) : (q * S ≤ r * 18446744073709551616 + a0) ↔ (q * S / 18446744073709551616 < r ∨ q * S / 18446744073709551616 = r ∧ q * S % 18446744073709551616 ≤ a0) := by omega

set_option maxHeartbeats 2000000 in
set_option maxRecDepth 100000 in
theorem natGuess_any (g cx : Nat) (x : List Nat) (A2 : Option Addr) (c2 m : Nat) (lb : List Nat) (j T : Nat) (w : World) (h1 : Rd w 0 w.heap.size 1 (some ⟨g, 0, none⟩) x.length (u64s x)) (hx : ∀ d ∈ x, d < W64) (h2 : Rd w 0 w.heap.size 1 A2 (m + 2) (u64s lb)) (hb : ∀ d ∈ lb, d < W64)
    (hlb : lb.length = m + 2) (hT : lb[m + 1]? = some T) (hT0 : 0 < T) (hj : j + m + 3 ≤ x.length) (hs : x.length ≤ 2000000) (hlt : win W64 x j (m + 3) < val W64 lb * W64) :
    Calls Tryz.prog 170 #[.slice (some ⟨g, 0, none⟩) x.length cx, .slice A2 ((m + 2 : Nat)) c2, .int .i64 j] w fun e w' =>
      ∃ q : Nat, e = .returned (.int .u64 (q : Int)) ∧ win W64 x j (m + 3) / val W64 lb ≤ q ∧ q < 18446744073709551616 ∧ ∃ n, w' = w.drewN n := by
  obtain ⟨S, hS⟩ : ∃ S, lb[m]? = some S := ⟨lb[m]'(by omega), List.getElem?_eq_getElem _⟩
  obtain ⟨b, o, rfl, _, _, hcl⟩ := h2.2 (by omega)
  have cT : w.cell? ⟨b, o + (m + 1), none⟩ = some (.int .u64 (T : Int)) := hcl (m + 1) _ (by unfold u64s; rw [List.getElem?_map, hT]; rfl)
  have cS : w.cell? ⟨b, o + m, none⟩ = some (.int .u64 (S : Int)) := hcl m _ (by unfold u64s; rw [List.getElem?_map, hS]; rfl)
  obtain ⟨a0, e0⟩ : ∃ a, x[j + m]? = some a := ⟨x[j + m]'(by omega), List.getElem?_eq_getElem _⟩
  obtain ⟨a1, e1⟩ : ∃ a, x[j + (m + 1)]? = some a := ⟨x[j + (m + 1)]'(by omega), List.getElem?_eq_getElem _⟩
  obtain ⟨a2, e2⟩ : ∃ a, x[j + (m + 2)]? = some a := ⟨x[j + (m + 2)]'(by omega), List.getElem?_eq_getElem _⟩
  obtain ⟨g', o', hg', _, _, hcx⟩ := h1.2 (by omega)
  obtain ⟨rfl, rfl⟩ : g' = g ∧ o' = 0 := by simp at hg'; exact ⟨hg'.1.symm, hg'.2.symm⟩
  have q0 : w.cell? ⟨g', j + m, none⟩ = some (.int .u64 (a0 : Int)) := by have := hcx (j + m) (.int .u64 (a0 : Int)) (by unfold u64s; rw [List.getElem?_map, e0]; rfl); simpa using this
  have q1 : w.cell? ⟨g', j + (m + 1), none⟩ = some (.int .u64 (a1 : Int)) := by have := hcx (j + (m + 1)) (.int .u64 (a1 : Int)) (by unfold u64s; rw [List.getElem?_map, e1]; rfl); simpa using this
  have q2 : w.cell? ⟨g', j + (m + 2), none⟩ = some (.int .u64 (a2 : Int)) := by have := hcx (j + (m + 2)) (.int .u64 (a2 : Int)) (by unfold u64s; rw [List.getElem?_map, e2]; rfl); simpa using this
  have q0b : w.cell? ⟨g', j + (m + 2) - 2, none⟩ = some (.int .u64 (a0 : Int)) := by rw [show j + (m + 2) - 2 = j + m by omega]; exact q0
  have w0 : a0 < 18446744073709551616 := hx a0 (List.mem_of_getElem? e0)
  have w1 : a1 < 18446744073709551616 := hx a1 (List.mem_of_getElem? e1)
  have w2 : a2 < 18446744073709551616 := hx a2 (List.mem_of_getElem? e2)
  have wT : T < 18446744073709551616 := hb T (List.mem_of_getElem? hT)
  have wS : S < 18446744073709551616 := hb S (List.mem_of_getElem? hS)
  have hX := win_three e0 e1 e2
  have hD := val_two (B := W64) (l := lb) (k := m) hlb hS hT
  have hXp : win W64 x j m < W64 ^ m := win_lt (by unfold W64; omega) hx j m
  have hP : 0 < W64 ^ m := Nat.pow_pos (by unfold W64; omega)
  have hDp : 0 < val W64 lb := by
    rw [hD]
    have : 0 < W64 ^ m * (S + W64 * T) := Nat.mul_pos hP (by have : 0 < W64 * T := Nat.mul_pos (by unfold W64; omega) hT0; omega)
    omega
  obtain ⟨G, hG⟩ : ∃ G, G = win W64 x j (m + 3) / val W64 lb := ⟨_, rfl⟩
  have hGW : G < 18446744073709551616 := by
    rw [hG]; exact (Nat.div_lt_iff_lt_mul hDp).2 (by rw [Nat.mul_comm]; exact hlt)
  have HFIRST := Lib.hid (show G ≤ (a2 * 18446744073709551616 + a1) / T by
    rw [hG, hX, hD]; exact guess_first (B := W64) hXp w0 hT0)
  have HLESS := Lib.hid (show ∀ q r, q * T + r = a2 * 18446744073709551616 + a1 → r * 18446744073709551616 + a0 < q * S → G < q from fun q r h h' => by
    rw [hG]
    refine kn_less hDp ?_
    rw [hX, hD]
    exact guess_less (B := W64) hXp h h')
  rw [← hG]
  clear hG hX hD hXp hP hDp hlt hcl hcx h1 h2 hx hb hlb hT hS e0 e1 e2 hg'
  go_enter Tryz.func170, Tryz.ntmps170
  by_cases hc : T ≤ a2
  · have t1 : decide ((T : Int) ≤ a2) = true := by simp; omega
    go_wp2
    go_ret
    exact ⟨18446744073709551615, rfl, by omega, by omega, 0, rfl⟩
  · have t1 : decide ((T : Int) ≤ a2) = false := by simp; omega
    have hdv := fun W => div64_any a2 a1 T W w1 (by omega) wT
    have hqW : (a2 * 18446744073709551616 + a1) / T < 18446744073709551616 := digit_lt (by omega) w1
    have hrT : (a2 * 18446744073709551616 + a1) % T < T := Nat.mod_lt _ hT0
    have hst := Nat.div_add_mod (a2 * 18446744073709551616 + a1) T
    have hfi := HFIRST.out
    obtain ⟨q0', hq⟩ : ∃ z, z = (a2 * 18446744073709551616 + a1) / T := ⟨_, rfl⟩
    obtain ⟨r0', hr⟩ : ∃ z, z = (a2 * 18446744073709551616 + a1) % T := ⟨_, rfl⟩
    simp only [← hq, ← hr] at hdv hqW hrT hst hfi
    have HDV := Lib.hid hdv
    have HST := Lib.hid (show q0' * T + r0' = a2 * 18446744073709551616 + a1 by rw [Nat.mul_comm]; exact hst)
    clear hq hr hdv hst
    go_wp2_with fail
    go_quiet (exact Calls.quiet_of (HDV.out _))
    go_wp2_with fail
    go_loopw [9, 10, 11, 12, 13] (fun qv rv _ _ _ wr => ∃ q r : Nat, qv = .int .u64 q ∧ rv = .int .u64 r ∧ q * T + r = a2 * 18446744073709551616 + a1 ∧ r < 18446744073709551616 ∧ q < 18446744073709551616 ∧ G ≤ q ∧ ∃ k, wr = w.drewN k) (fun qv _ _ _ _ _ => (intOf qv).toNat)
    case atStart => exact ⟨q0', r0', rfl, rfl, HST.out, by omega, hqW, hfi, _, rfl⟩
    case round =>
      obtain ⟨q, r, rfl, rfl, hqr, hr, hq, hG, k, rfl⟩ := hrel
      have HQR := Lib.hid hqr
      have hmul := Tryz.bits_Mul64 q S hq wS
      have hlx := lex_le (q := q) (S := S) (r := r) (a0 := a0) w0
      have hhW : q * S / 18446744073709551616 < 18446744073709551616 := by have := mul_le hq wS; omega
      have hlW : q * S % 18446744073709551616 < 18446744073709551616 := Nat.mod_lt _ (by omega)
      obtain ⟨hi_, hhi⟩ : ∃ h, h = q * S / 18446744073709551616 := ⟨_, rfl⟩
      obtain ⟨lo, hlo⟩ : ∃ h, h = q * S % 18446744073709551616 := ⟨_, rfl⟩
      simp only [← hhi, ← hlo] at hmul hlx hhW hlW
      have HMUL := Lib.hid (show ∀ W, Calls Tryz.prog 150 #[.int .u64 q, .int .u64 S] W fun e w' => e = .returned (.tuple #[.int .u64 (hi_ : Int), .int .u64 (lo : Int)]) ∧ W = w' from fun W => (hmul W).mono fun e w' ⟨h1, h2⟩ => ⟨h1, h2.symm⟩)
      clear hqr hmul hhi hlo
      by_cases hle : q * S ≤ r * 18446744073709551616 + a0
      · have ho := hlx.1 hle
        clear hlx hle
        by_cases h1 : hi_ < r
        · have b1 : decide ((hi_ : Int) < r) = true := by simp; omega
          clear ho
          go_wp2_with (go_at_call 150; refine (HMUL.out _).mono ?_; rintro e w' ⟨rfl, rfl⟩)
          go_ret
          exact ⟨q, rfl, hG, hq, _, rfl⟩
        · obtain ⟨rfl, h3⟩ : hi_ = r ∧ lo ≤ a0 := by omega
          have b1 : decide ((hi_ : Int) < hi_) = false := by simp
          have b3 : decide ((lo : Int) ≤ a0) = true := by simp; omega
          clear ho
          go_wp2_with (go_at_call 150; refine (HMUL.out _).mono ?_; rintro e w' ⟨rfl, rfl⟩)
          go_ret
          exact ⟨q, rfl, hG, hq, _, rfl⟩
      · have hgt : G < q := HLESS.out q r HQR.out (by omega)
        have ho : ¬ (hi_ < r ∨ hi_ = r ∧ lo ≤ a0) := fun h => hle (hlx.2 h)
        have HQ' := Lib.hid (show (q - 1) * T + (r + T) = a2 * 18446744073709551616 + a1 by
          have := HQR.out
          have e : q * T = (q - 1) * T + T := by
            conv => lhs; rw [show q = (q - 1) + 1 by omega, Nat.add_mul, Nat.one_mul]
          omega)
        have b1 : decide ((hi_ : Int) < r) = false := by simp; omega
        have hsm : (r + T) % 18446744073709551616 + 18446744073709551616 * ((r + T) / 18446744073709551616) = r + T := by omega
        have hk1 : (r + T) / 18446744073709551616 ≤ 1 := by omega
        have hsW : (r + T) % 18446744073709551616 < 18446744073709551616 := Nat.mod_lt _ (by omega)
        obtain ⟨s1, hs1⟩ : ∃ h, h = (r + T) % 18446744073709551616 := ⟨_, rfl⟩
        obtain ⟨k1, hk1e⟩ : ∃ h, h = (r + T) / 18446744073709551616 := ⟨_, rfl⟩
        have hadd : ∀ W, (callFunc 132 #[.int .u64 r, .int .u64 T, .int .u64 0]).run Tryz.prog W = .ok (.value (.tuple #[.int .u64 (s1 : Int), .int .u64 (k1 : Int)])) W := by
          intro W
          have := add64_eq r T 0 hr wT (by omega) W
          rwa [Nat.add_zero, ← hs1, ← hk1e] at this
        simp only [← hs1, ← hk1e] at hsm hk1 hsW
        have HSM := Lib.hid hsm
        clear hs1 hk1e hsm hlx hle
        by_cases hk0 : k1 = 0
        · subst hk0
          by_cases h2 : hi_ = r
          · subst h2
            have h3 : ¬ lo ≤ a0 := by omega
            have b3 : decide ((lo : Int) ≤ a0) = false := by simp; omega
            clear ho
            go_wp2_with (go_at_call 150; refine (HMUL.out _).mono ?_; rintro e w' ⟨rfl, rfl⟩)
            go_roundw
            case rel => (repeat apply Exists.intro); exact ⟨⟨q - 1, s1, by go_num, rfl, by have := HQ'.out; have := HSM.out; omega, hsW, by omega, by omega, _, rfl⟩, rfl⟩
            case measure => simp [intOf]; omega
          · have b2 : ((hi_ : Int) == (r : Int)) = false := by simp; omega
            have h1n : ¬ hi_ < r := by omega
            clear ho
            go_wp2_with (go_at_call 150; refine (HMUL.out _).mono ?_; rintro e w' ⟨rfl, rfl⟩)
            go_roundw
            case rel => (repeat apply Exists.intro); exact ⟨⟨q - 1, s1, by go_num, rfl, by have := HQ'.out; have := HSM.out; omega, hsW, by omega, by omega, _, rfl⟩, rfl⟩
            case measure => simp [intOf]; omega
        · obtain rfl : k1 = 1 := by omega
          by_cases h2 : hi_ = r
          · subst h2
            have h3 : ¬ lo ≤ a0 := by omega
            have b3 : decide ((lo : Int) ≤ a0) = false := by simp; omega
            clear ho
            go_wp2_with (go_at_call 150; refine (HMUL.out _).mono ?_; rintro e w' ⟨rfl, rfl⟩)
            go_ret
            exact ⟨q - 1, by go_num, by omega, by omega, _, rfl⟩
          · have b2 : ((hi_ : Int) == (r : Int)) = false := by simp; omega
            have h1n : ¬ hi_ < r := by omega
            clear ho
            go_wp2_with (go_at_call 150; refine (HMUL.out _).mono ?_; rintro e w' ⟨rfl, rfl⟩)
            go_ret
            exact ⟨q - 1, by go_num, by omega, by omega, _, rfl⟩
end Go.Proofs.YtepfmoaihhonlaaGreatDoor

/- Package nat: Shl. -/
namespace Go.Proofs.YtepfmoaihhonlaaGreatDoor
open Go Go.RowKit Go.Proofs

/-- what Shl keeps -/
def ShlRel (w wr : World) (g : Nat) (la : List Nat) (v r k c : Nat) : Prop :=
  ∃ o, o.length = la.length + v + 1 ∧ (∀ d ∈ o, d < W64) ∧ Blk wr g o ∧ o[k + v]? = some c ∧ c < 2 ^ r ∧ (∀ j, k + v < j → j < o.length → o[j]? = some 0) ∧ val W64 o = val W64 (la.take k) * 2 ^ r * W64 ^ v ∧ Below w.heap.size w wr
theorem val_set {B : Nat} : ∀ {l : List Nat} {j c q : Nat}, l[j]? = some c → val B (l.set j q) + B ^ j * c = val B l + B ^ j * q
  | [], j, c, q, h => by simp at h
  | d :: r, 0, c, q, h => by
    have h : d = c := by simpa using h
    simp [val, h]; omega
  | d :: r, j + 1, c, q, h => by
    have ih := val_set (l := r) (j := j) (c := c) (q := q) (B := B) (by simpa using h)
    have := congrArg (B * ·) ih
    simp only [Nat.mul_add] at this
    simp only [List.set_cons_succ, val, Nat.pow_succ]
    rw [Nat.mul_comm (B ^ j) B, Nat.mul_assoc, Nat.mul_assoc]; omega
theorem val_replicate0 (B n : Nat) : val B (List.replicate n 0) = 0 := by
  induction n with
  | zero => rfl
  | succ n ih => simp [List.replicate_succ, val, ih]
/-- a word, shifted: what stays, what goes on -/
theorem shl_word {x r : Nat} (hx : x < 18446744073709551616) (hr : r ≤ 63) :
    ∃ xl xh : Nat, IntKind.u64.wrap ((x : Int) * 2 ^ r) = (xl : Int) ∧ (x : Int) / 2 ^ (64 - r) = (xh : Int) ∧ x * 2 ^ r = xl + 18446744073709551616 * xh ∧ xl < 18446744073709551616 ∧ xh < 2 ^ r ∧ ∀ c : Nat, c < 2 ^ r → bits .or .u64 (c : Int) (xl : Int) = ((c + xl : Nat) : Int) ∧ c + xl < 18446744073709551616 := by
  have hp : 0 < 2 ^ r := Nat.pow_pos (by omega)
  have e64 : 2 ^ (64 - r) * 2 ^ r = 18446744073709551616 := by rw [← Nat.pow_add, show 64 - r + r = 64 by omega]
  have hL : x / 2 ^ (64 - r) < 2 ^ r := by
    rw [Nat.div_lt_iff_lt_mul (Nat.pow_pos (by omega)), Nat.mul_comm, e64]; exact hx
  have hN0 : x * 2 ^ r % 18446744073709551616 = x % 2 ^ (64 - r) * 2 ^ r := by rw [← e64]; exact Nat.mul_mod_mul_right _ _ _
  have hm : x % 2 ^ (64 - r) < 2 ^ (64 - r) := Nat.mod_lt _ (Nat.pow_pos (by omega))
  have hx2 : x % 2 ^ (64 - r) * 2 ^ r + 2 ^ r ≤ 18446744073709551616 := by
    have := Nat.mul_le_mul_right (2 ^ r) (show x % 2 ^ (64 - r) + 1 ≤ 2 ^ (64 - r) from hm)
    rwa [e64, Nat.add_mul, Nat.one_mul] at this
  refine ⟨x * 2 ^ r % 18446744073709551616, x / 2 ^ (64 - r), ?_, by simp, ?_, Nat.mod_lt _ (by omega), hL, ?_⟩
  · rw [IntKind.wrap_u64, show ((x : Int) * 2 ^ r) = ((x * 2 ^ r : Nat) : Int) by simp]; omega
  · rw [hN0, ← e64]
    have := Nat.div_add_mod x (2 ^ (64 - r))
    conv => lhs; rw [← this, Nat.add_mul, Nat.mul_right_comm]
    omega
  · intro c hc
    rw [hN0]
    refine ⟨?_, by omega⟩
    rw [u64_or_nat _ _ (by omega) (by omega), Nat.or_comm, nat_join r _ _ (Nat.mul_mod_left _ _) hc, Nat.add_comm]

set_option maxHeartbeats 2000000 in
set_option maxRecDepth 100000 in
theorem natShl_any (A1 : Option Addr) (c1 : Nat) (l1 : List Nat) (x n : Nat) (w : World) (h1 : NatR w A1 c1 l1 x) (hs : l1.length ≤ 1000000) (hn : n ≤ 1000000) :
    Calls Tryz.prog 169 #[.slice A1 l1.length c1, .int .i64 n] w (NatPost (x * 2 ^ n) w) := by
  obtain ⟨i0, hi0, hz0, hz1, hz2⟩ := info_parts Tryz.infoU
  obtain ⟨v, hv⟩ : ∃ v, v = n / 64 := ⟨_, rfl⟩
  obtain ⟨r, hr⟩ : ∃ r, r = n % 64 := ⟨_, rfl⟩
  have HPW := Lib.hid (show 2 ^ n = 2 ^ r * W64 ^ v by
    rw [show W64 = 2 ^ 64 from rfl, ← Nat.pow_mul, ← Nat.pow_add]; congr 1; omega)
  have hvn : v ≤ 1000000 := by omega
  have hr63 : r ≤ 63 := by omega
  have e1 : (n : Int) / 64 = (v : Int) := by omega
  have e2 : (n : Int) % 64 = (r : Int) := by omega
  have HN1 := Lib.hid h1
  clear h1 hv hr
  by_cases h0 : l1.length = 0
  · obtain rfl : l1 = [] := List.eq_nil_of_length_eq_zero h0
    have HX := Lib.hid (show x * 2 ^ n = 0 by have := HN1.out.val; simp [val] at this; rw [← this, Nat.zero_mul])
    clear h0
    go_enter Tryz.func169, Tryz.ntmps169
    go_wp2
    go_ret
    exact ⟨none, 0, [], rfl, by rw [HX.out]; exact natr_nil w, Below.refl _ _⟩
  · have h0' : ((l1.length : Int) == 0) = false := by simp; intro h; exact h0 (by rw [h]; rfl)
    go_enter Tryz.func169, Tryz.ntmps169
    go_wp2_with (at_make; refine wpList_make_full _ rfl (.tmp 22) (.tmp 22) 93 rfl w.heap.size 168 i0 _ 1 Tryz.underlying93 hi0 hz0 hz1 .i64 .i64 _ _ (l1.length + v + 1) rfl rfl ?m1 ?m2 ?m3 ?m4 ?m5 ?_)
    case m1 => omega
    case m2 => omega
    case m3 => rw [hz2]; omega
    case m4 => unfold maxLen; omega
    case m5 => exact Nat.le_refl _
    intro w1 hown hgr
    rw [made_zeros] at hown
    obtain ⟨hblk, _⟩ := Blk.of_own hown
    have hb1 : Below w.heap.size w w1 := (Below.refl _ w).grown hgr (Nat.le_refl _) (fun k hk => by cases hk)
    have hsz1 : w.heap.size < w1.heap.size := heap_lt hblk
    have HBK := Lib.hid hblk
    have HB1 := Lib.hid hb1
    clear hown hgr hblk hb1
    go_wp2
    go_loopw [8, 9, 26] (fun _ _ i wr => ∃ (k c : Nat), i = .int .i64 k ∧ k ≤ l1.length ∧ ShlRel w wr w.heap.size l1 v r k c) (fun _ _ i _ => l1.length - (intOf i).toNat)
    case atStart => exact ⟨0, 0, rfl, Nat.zero_le _, List.replicate (l1.length + v + 1) 0, by simp, fun d hd => by rw [List.eq_of_mem_replicate hd]; unfold W64; omega, HBK.out, by rw [List.getElem?_replicate, if_pos (by omega)], Nat.pow_pos (by omega), fun j _ hj => by rw [List.getElem?_replicate]; simp at hj; simp; omega, by rw [val_replicate0]; simp [val], HB1.out⟩
    case round =>
      obtain ⟨k, c, rfl, hk, o, hol, hod, hblk, hoc, hcr, hzero, hval, hbw⟩ := hrel
      have hgl := heap_lt hblk
      have HO := Lib.hid hod
      have HOL := Lib.hid hol
      have HV := Lib.hid hval
      have HBW := Lib.hid hbw
      have HBL := Lib.hid hblk
      have HZ := Lib.hid hzero
      have HOC := Lib.hid hoc
      clear hod hol hval hzero
      by_cases hlt : k < l1.length
      · obtain ⟨ba, oa, ua, rfl, hba, hua, qa⟩ := (HN1.out.rd.below hbw (Nat.le_refl _)).at1 hlt
        obtain ⟨d, hd, rfl⟩ := u64s_get hua
        have hdW : d < 18446744073709551616 := HN1.out.norm.1 d (List.mem_of_getElem? hd)
        have HD := Lib.hid hd
        obtain ⟨xl, xh, f1, f2, hx, hxl, hxh, hor⟩ := shl_word hdW hr63
        obtain ⟨f3, hcx⟩ := hor c hcr
        have q0 := hblk.cell hoc
        have z0 := hblk.frozen (k + v)
        have hko : k + v + 1 < o.length := by have := HOL.out; omega
        have hz1' := HZ.out (k + v + 1) (by omega) hko
        have q1 := hblk.cell hz1'
        have z1 := hblk.frozen (k + v + 1)
        obtain ⟨s, hs⟩ : ∃ s, s = c + xl := ⟨_, rfl⟩
        rw [← hs] at f3 hcx
        have HNEW := Lib.hid (show ShlRel w ((wr.setCell ⟨w.heap.size, k + v, none⟩ (.int .u64 (s : Int))).setCell ⟨w.heap.size, k + v + 1, none⟩ (.int .u64 (xh : Int))) w.heap.size l1 v r (k + 1) xh from by
          have hne : (o.set (k + v) s)[k + v + 1]? = some 0 := by rw [List.getElem?_set_ne (by omega)]; exact hz1'
          have hxW : xh < W64 := by
            have : 2 ^ r ≤ 2 ^ 63 := Nat.pow_le_pow_right (by omega) hr63
            unfold W64; omega
          refine ⟨(o.set (k + v) s).set (k + v + 1) xh, by simp [HOL.out], mem_set (mem_set HO.out hcx) hxW, (HBL.out.set _ _).set _ _, ?_, hxh, ?_, ?_, (HBW.out.setCell (Nat.le_refl _) _).setCell (Nat.le_refl _) _⟩
          · rw [show k + 1 + v = k + v + 1 by omega, List.getElem?_set_self (by simpa using hko)]
          · intro j hj hj2
            rw [List.getElem?_set_ne (by omega), List.getElem?_set_ne (by omega)]
            exact HZ.out j (by omega) (by simpa using hj2)
          · have v1 := val_set0 (B := W64) (q := xh) hne
            have v2 := val_set (B := W64) (q := s) HOC.out
            rw [v1, take_snoc' HD.out, val_snoc]
            have e3 : (l1.take k).length = k := by simp; omega
            rw [e3, Nat.add_mul, Nat.add_mul, ← HV.out]
            have v3 : W64 ^ k * d * 2 ^ r * W64 ^ v = W64 ^ (k + v) * xl + W64 ^ (k + v + 1) * xh := by
              rw [Nat.mul_assoc (W64 ^ k), hx, Nat.mul_right_comm, ← Nat.pow_add, Nat.mul_add, Nat.pow_succ, Nat.mul_assoc]; rfl
            rw [v3]
            have hs' : W64 ^ (k + v) * s = W64 ^ (k + v) * c + W64 ^ (k + v) * xl := by rw [hs, Nat.mul_add]
            omega)
        have HNEW0 := Lib.hid (show r = 0 → ShlRel w (wr.setCell ⟨w.heap.size, k + v, none⟩ (.int .u64 (s : Int))) w.heap.size l1 v r (k + 1) xh from fun hr0 => by
          have hxh0 : xh = 0 := by rw [hr0] at hxh; omega
          refine ⟨o.set (k + v) s, by simp [HOL.out], mem_set HO.out hcx, HBL.out.set _ _, ?_, hxh, ?_, ?_, HBW.out.setCell (Nat.le_refl _) _⟩
          · rw [show k + 1 + v = k + v + 1 by omega, List.getElem?_set_ne (by omega), hz1', hxh0]
          · intro j hj hj2
            rw [List.getElem?_set_ne (by omega)]
            exact HZ.out j (by omega) (by simpa using hj2)
          · have v2 := val_set (B := W64) (q := s) HOC.out
            rw [take_snoc' HD.out, val_snoc]
            have e3 : (l1.take k).length = k := by simp; omega
            rw [e3, Nat.add_mul, Nat.add_mul, ← HV.out]
            have v3 : W64 ^ k * d * 2 ^ r * W64 ^ v = W64 ^ (k + v) * xl := by
              rw [Nat.mul_assoc (W64 ^ k), hx, hxh0, Nat.mul_zero, Nat.add_zero, Nat.mul_right_comm, ← Nat.pow_add]
            rw [v3]
            have hs' : W64 ^ (k + v) * s = W64 ^ (k + v) * c + W64 ^ (k + v) * xl := by rw [hs, Nat.mul_add]
            omega)
        clear hua hd hoc hblk hbw hz1' hs hx hor hxh hcr
        by_cases hr0 : r = 0
        · subst hr0
          have f1' : IntKind.u64.wrap ((d : Int)) = (xl : Int) := by simpa using f1
          go_wp2
          go_roundw
          case rel => exact ⟨k + 1, xh, by go_num, by omega, HNEW0.out rfl⟩
          case measure => simp [intOf]; omega
        · have t1 : decide ((0 : Int) < (r : Int)) = true := by simp; omega
          go_wp2
          go_roundw
          case rel => exact ⟨k + 1, xh, by go_num, by omega, HNEW.out⟩
          case measure => simp [intOf]; omega
      · obtain rfl : k = l1.length := by omega
        have hrd' : Rd wr 0 wr.heap.size 1 (some ⟨w.heap.size, 0, none⟩) o.length (u64s o) := hblk.rd
        have hval : val W64 o = x * 2 ^ n := by
          rw [HV.out, List.take_length, HN1.out.val, HPW.out, Nat.mul_assoc]
        have hcut := cut_any (some ⟨w.heap.size, 0, none⟩) (l1.length + v + 1) o wr hrd' (by rw [HOL.out]; exact Nat.le_refl _) (by unfold maxLen; omega) (fun h => by cases h)
        rw [HOL.out] at hcut
        have HCUT := Lib.hid hcut
        have hnr := natr_cut (c := l1.length + v + 1) hrd' HO.out (by rw [HOL.out]; exact Nat.le_refl _) (by unfold maxLen; omega) (fun h => by cases h)
        rw [hval] at hnr
        have HNR := Lib.hid hnr
        clear hblk hbw hrd' hval hcut hnr hoc
        go_wp2_with fail
        refine HCUT.out.mono ?_
        rintro e w' ⟨rfl, rfl⟩
        go_wp2
        go_ret
        exact ⟨_, _, _, rfl, HNR.out, HBW.out⟩
end Go.Proofs.YtepfmoaihhonlaaGreatDoor
