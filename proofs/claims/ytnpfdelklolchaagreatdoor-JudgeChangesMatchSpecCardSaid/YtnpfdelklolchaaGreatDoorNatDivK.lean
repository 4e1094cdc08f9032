/- Package nat: DivMod by a number of two words or more; DivMod. -/
import Derived.Test.YtnpfdelklolchaaGreatDoorG9
namespace Go.Proofs.YtnpfdelklolchaaGreatDoor
open Go Go.RowKit Go.Proofs

/-- the shifted divisor has as many words, and the shifted number is small enough -/
theorem shift_facts {l1 l2 ld : List Nat} {x y s m T : Nat} (h1 : Norm W64 l1) (hv1 : val W64 l1 = x) (h2 : Norm W64 l2) (hv2 : val W64 l2 = y) (hl2 : l2.length = m + 2) (hT : l2[m + 1]? = some T) (hs : s ≤ 63)
    (hT0 : 9223372036854775808 ≤ T * 2 ^ s) (hT1 : T * 2 ^ s < 18446744073709551616) (hd : Norm W64 ld) (hvd : val W64 ld = y * 2 ^ s) (hl : l2.length ≤ l1.length) :
    ld.length = m + 2 ∧ (∃ T', ld[m + 1]? = some T' ∧ 0 < T') ∧ x * 2 ^ s < y * 2 ^ s * W64 ^ (l1.length - (m + 2) + 1) ∧ x * 2 ^ s < W64 ^ (l1.length + 1) := by
  have hW : W64 = 18446744073709551616 := rfl
  have hWp : 0 < W64 := by rw [hW]; omega
  have hp : 0 < 2 ^ s := Nat.pow_pos (by omega)
  have e0 := (List.getElem?_eq_some_iff.1 hT)
  have hsp : val W64 l2 = val W64 (l2.take (m + 1)) + W64 ^ (m + 1) * T := by
    have e : l2 = l2.take (m + 1) ++ [T] := by
      conv => lhs; rw [← List.take_append_drop (m + 1) l2]
      rw [List.drop_eq_getElem_cons e0.1, e0.2, List.drop_eq_nil_of_le (by omega)]
    conv => lhs; rw [e, val_snoc]
    have : (l2.take (m + 1)).length = m + 1 := by simp; omega
    rw [this]
  have hlow : val W64 (l2.take (m + 1)) < W64 ^ (m + 1) := by
    have := val_lt (B := W64) (l := l2.take (m + 1)) (fun d hd => h2.1 d (List.mem_of_mem_take hd))
    have e : (l2.take (m + 1)).length = m + 1 := by simp; omega
    rwa [e] at this
  rw [hv2] at hsp
  have hPm : 0 < W64 ^ (m + 1) := Nat.pow_pos hWp
  -- below
  have hge : 9223372036854775808 * W64 ^ (m + 1) ≤ y * 2 ^ s := by
    have a1 := Nat.mul_le_mul_right (W64 ^ (m + 1)) hT0
    have a2 : T * 2 ^ s * W64 ^ (m + 1) ≤ y * 2 ^ s := by
      rw [Nat.mul_right_comm, Nat.mul_comm T]
      exact Nat.mul_le_mul_right _ (by omega)
    omega
  -- above
  have hT2 : T * 2 ^ s + 2 ^ s ≤ W64 := by
    have e : W64 = 2 ^ (64 - s) * 2 ^ s := by rw [← Nat.pow_add, show 64 - s + s = 64 by omega]; rfl
    have h3 : T < 2 ^ (64 - s) := by
      refine Nat.lt_of_mul_lt_mul_right (a := 2 ^ s) ?_
      rw [← e, hW]; exact hT1
    have := Nat.mul_le_mul_right (2 ^ s) (show T + 1 ≤ 2 ^ (64 - s) from h3)
    rwa [← e, Nat.add_mul, Nat.one_mul] at this
  have hlt : y * 2 ^ s < W64 ^ (m + 2) := by
    have a1 : y + 1 ≤ (T + 1) * W64 ^ (m + 1) := by rw [Nat.add_mul, Nat.mul_comm T]; omega
    have a2 := Nat.mul_le_mul_right (2 ^ s) a1
    have a3 : (T + 1) * W64 ^ (m + 1) * 2 ^ s = (T * 2 ^ s + 2 ^ s) * W64 ^ (m + 1) := by
      rw [Nat.mul_right_comm, Nat.add_mul, Nat.one_mul]
    have a4 := Nat.mul_le_mul_right (W64 ^ (m + 1)) hT2
    have a5 : W64 ^ (m + 2) = W64 * W64 ^ (m + 1) := by rw [Nat.pow_succ, Nat.mul_comm]
    rw [Nat.add_mul] at a2
    omega
  have hlen : ld.length = m + 2 := by
    have b1 := val_lt hd.1
    rw [hvd] at b1
    have hne : ld ≠ [] := by
      rintro rfl
      simp [val] at hvd
      have : 0 < y * 2 ^ s := by
        have : 0 < 9223372036854775808 * W64 ^ (m + 1) := Nat.mul_pos (by omega) hPm
        omega
      omega
    have b2 := val_ge W64_pos hd hne
    rw [hvd] at b2
    rcases Nat.lt_trichotomy ld.length (m + 2) with h | h | h
    · have : W64 ^ ld.length ≤ W64 ^ (m + 1) := Nat.pow_le_pow_right hWp (by omega)
      have : 1 * W64 ^ (m + 1) ≤ 9223372036854775808 * W64 ^ (m + 1) := Nat.mul_le_mul_right _ (by omega)
      omega
    · exact h
    · have : W64 ^ (m + 2) ≤ W64 ^ (ld.length - 1) := Nat.pow_le_pow_right hWp (by omega)
      omega
  refine ⟨hlen, ?_, ?_, ?_⟩
  · have hi : m + 1 < ld.length := by omega
    refine ⟨ld[m + 1], List.getElem?_eq_getElem hi, ?_⟩
    rcases Nat.eq_zero_or_pos ld[m + 1] with h | h
    · exfalso
      apply hd.2
      rw [List.getLast?_eq_getElem?, hlen, show m + 2 - 1 = m + 1 by omega, List.getElem?_eq_getElem hi, h]
    · exact h
  · have a1 := val_lt h1.1
    rw [hv1] at a1
    have a2 : 2 ^ s ≤ 9223372036854775808 := by
      have := Nat.pow_le_pow_right (n := 2) (by omega) hs
      omega
    have a3 : x * 2 ^ s < W64 ^ l1.length * 9223372036854775808 := Nat.lt_of_lt_of_le (Nat.mul_lt_mul_of_pos_right a1 hp) (Nat.mul_le_mul_left _ a2)
    have a4 := Nat.mul_le_mul_right (W64 ^ (l1.length - (m + 2) + 1)) hge
    rw [Nat.mul_assoc, ← Nat.pow_add, show m + 1 + (l1.length - (m + 2) + 1) = l1.length by omega] at a4
    omega
  · have a1 := val_lt h1.1
    rw [hv1] at a1
    have a2 : 2 ^ s ≤ W64 := by
      have := Nat.pow_le_pow_right (n := 2) (by omega) hs
      rw [hW]; omega
    rw [Nat.pow_succ]
    exact Nat.lt_of_lt_of_le (Nat.mul_lt_mul_of_pos_right a1 hp) (Nat.mul_le_mul_left _ a2)
theorem len_of_lt {l : List Nat} {x n : Nat} (hn : Norm W64 l) (hv : val W64 l = x) (h : x < W64 ^ n) : l.length ≤ n := by
  rcases Nat.lt_or_ge n l.length with h' | h'
  · have hne : l ≠ [] := by rintro rfl; simp at h'
    have := val_ge W64_pos hn hne
    have : W64 ^ n ≤ W64 ^ (l.length - 1) := Nat.pow_le_pow_right (by unfold W64; omega) (by omega)
    omega
  · exact h'
theorem val_zeros_behind (l : List Nat) (n : Nat) : val W64 (l ++ List.replicate n 0) = val W64 l := by
  rw [val_append, val_replicate0, Nat.mul_zero, Nat.add_zero]
/-- the copy of a number into a block of zeros -/
theorem Blk.copied {w : World} {g n : Nat} {l : List Nat} (h : Blk w g (List.replicate n 0)) (hl : l.length ≤ n) : Blk (w.setCells g 0 (u64s l)) g (l ++ List.replicate (n - l.length) 0) := by
  obtain ⟨cs', h1, h2⟩ := setCells_block g 110 (0, 0) (u64s l) 0 w _ h (by simp [u64s]; omega)
  unfold Blk
  rw [h1]
  congr 2
  apply Array.toList_inj.1
  rw [h2]
  simp [u64s]

/-- what the division keeps: k digits of the quotient are still to come -/
structure DivRel (w wr : World) (g h : Nat) (Ad : Option Addr) (ld : List Nat) (N D na nq k : Nat) (xs qs : List Nat) : Prop where
  xl : xs.length = na
  xd : ∀ d ∈ xs, d < W64
  xb : Blk wr g xs
  ql : qs.length = nq
  qd : ∀ d ∈ qs, d < W64
  qb : Blk wr h qs
  qz : ∀ i, i < k → qs[i]? = some 0
  lt : val W64 xs < D * W64 ^ k
  sum : val W64 xs + D * val W64 qs = N
  rd : Rd wr 0 g 1 Ad ld.length (u64s ld)
  below : Below w.heap.size w wr
/-- inside a round: the digit is still to come, or has come -/
def DivIn (w0 wr : World) (g : Nat) (xs o : List Nat) (j n : Nat) : Prop :=
  o.length = xs.length ∧ (∀ d ∈ o, d < W64) ∧ Blk wr g o ∧ (∀ i, i < j ∨ j + n ≤ i → o[i]? = xs[i]?) ∧ Fr (· = g) w0 wr

theorem win_lt_of {x : List Nat} {j n D : Nat} (hj : j + n ≤ x.length) (h : val W64 x < D * W64 ^ (j + 1)) : win W64 x j n < D * W64 := by
  have h1 := val_win (B := W64) (l := x) (j := j) (m := n) hj
  have h2 : W64 ^ j * win W64 x j n < W64 ^ j * (D * W64) := by
    have : D * W64 ^ (j + 1) = W64 ^ j * (D * W64) := by rw [Nat.pow_succ, Nat.mul_comm, Nat.mul_assoc, Nat.mul_comm W64]
    omega
  exact Nat.lt_of_mul_lt_mul_left h2

set_option maxHeartbeats 8000000 in
set_option maxRecDepth 100000 in
theorem natDivMod_long (A1 A2 : Option Addr) (c1 c2 m : Nat) (l1 l2 : List Nat) (x y : Nat) (w : World) (h1 : NatR w A1 c1 l1 x) (h2 : NatR w A2 c2 l2 y) (hs : l1.length ≤ 900000) (hl2 : l2.length = m + 2) (hxy : y ≤ x) :
    Calls Tryz.prog 25 #[.slice A1 l1.length c1, .slice A2 l2.length c2] w (Nat2Post (x / y) (x % y) w) := by
  obtain ⟨i0, hi0, hz0, hz1, hz2⟩ := info_parts Tryz.infoU
  have hle : l2.length ≤ l1.length := len_le h1.norm h2.norm (by rw [h1.val, h2.val]; exact hxy)
  have HC := Lib.hid (natCmp_any A1 A2 c1 c2 l1 l2 x y w h1 h2 (by omega) (by omega))
  have t0 := cmpN_nonneg hxy
  obtain ⟨cm, hcm⟩ : ∃ cm, cm = cmpN x y := ⟨_, rfl⟩
  rw [← hcm] at t0 HC
  clear hcm
  have t2 : decide (cm < 0) = false := by simp; omega
  have HN1 := Lib.hid h1
  have HN2 := Lib.hid h2
  obtain ⟨T, hT⟩ : ∃ T, l2[m + 1]? = some T := ⟨l2[m + 1]'(by omega), List.getElem?_eq_getElem _⟩
  have hTW : T < 18446744073709551616 := h2.norm.1 T (List.mem_of_getElem? hT)
  have hTp : 0 < T := by
    rcases Nat.eq_zero_or_pos T with h | h
    · exfalso
      apply h2.norm.2
      rw [List.getLast?_eq_getElem?, hl2, show m + 2 - 1 = m + 1 by omega, hT, h]
    · exact h
  obtain ⟨b2, o2, rfl, _, _, hcl⟩ := h2.rd.2 (by omega)
  have cT : w.cell? ⟨b2, o2 + (m + 1), none⟩ = some (.int .u64 (T : Int)) := hcl (m + 1) _ (by unfold u64s; rw [List.getElem?_map, hT]; rfl)
  obtain ⟨s, hs63, hbl, hT0, hT1⟩ := lz_bounds T hTp hTW
  have HLZ := Lib.hid (show ∀ W, Calls Tryz.prog 70 #[.int .u64 T] W fun e w' => e = .returned (.int .i64 (s : Int)) ∧ W = w' from fun W => (Tryz.bits_LeadingZeros64 T W (by omega) (by omega)).mono fun e w' ⟨he, hw⟩ => ⟨by rw [he]; simp; omega, hw.symm⟩)
  have hyp : 0 < y := by
    rcases Nat.eq_zero_or_pos y with h | h
    · exfalso
      have := (val_zero W64_pos h2.norm).1 (by rw [h2.val, h])
      rw [this] at hl2; simp at hl2
    · exact h
  have hpp : 0 < 2 ^ s := Nat.pow_pos (by omega)
  have HSH := Lib.hid (fun W (hb : Below w.heap.size w W) => natShl_any (some ⟨b2, o2, none⟩) c2 l2 y s W (HN2.out.on hb) (by omega) (by omega))
  have HSA := Lib.hid (fun W (hb : Below w.heap.size w W) => natShl_any A1 c1 l1 x s W (HN1.out.on hb) (by omega) (by omega))
  have HFACT := Lib.hid (fun (ld : List Nat) (hd : Norm W64 ld) (hvd : val W64 ld = y * 2 ^ s) => shift_facts (ld := ld) h1.norm h1.val h2.norm h2.val hl2 hT hs63 hT0 hT1 hd hvd hle)
  obtain ⟨nq, hnq⟩ : ∃ nq, l1.length = m + 2 + nq := ⟨l1.length - (m + 2), by omega⟩
  rw [hl2] at HC ⊢
  simp only [hl2] at HSH
  have HNQ := Lib.hid hnq
  have HL2 := Lib.hid hl2
  have hnqi : (l1.length : Int) - ((m : Int) + 2) = (nq : Int) := by omega
  clear hcl hbl hT0 hT1 h1 h2 hT hl2 hnq
  go_enter Tryz.func25, Tryz.ntmps25
  go_wp2_with fail
  refine HC.out.mono ?_
  rintro e w' ⟨rfl, q0, rfl⟩
  go_wp2_with fail
  refine (HLZ.out _).mono ?_
  rintro e w' ⟨rfl, rfl⟩
  go_wp2_with fail
  refine (HSH.out _ (below_drewN (Below.refl _ _) q0)).mono ?_
  rintro e w1 ⟨Ad, cd, ld, rfl, hnd, hbd⟩
  have hbw1 : Below w.heap.size w w1 := below_next (below_drewN (Below.refl _ w) q0) hbd
  obtain ⟨hldl, ⟨T', hT', hT'0⟩, hlt0, hlt1⟩ := HFACT.out ld hnd.norm hnd.val
  rw [hldl]
  have HLD := Lib.hid hldl
  have HND := Lib.hid hnd
  have HT' := Lib.hid hT'
  have HLT0 := Lib.hid hlt0
  have HLT1 := Lib.hid hlt1
  have HBW1 := Lib.hid hbw1
  have hw1 := hbw1.size
  clear hnd hbd hbw1 hldl hT' hlt0 hlt1
  go_wp2_with (at_make; refine wpList_make_full _ rfl (.tmp 46) (.tmp 46) 61 rfl w1.heap.size 110 i0 _ 1 Tryz.underlying61 hi0 hz0 hz1 .i64 .i64 _ _ (l1.length + 1) rfl rfl ?m1 ?m2 ?m3 ?m4 ?m5 ?_)
  case m1 => omega
  case m2 => omega
  case m3 => rw [hz2]; omega
  case m4 => unfold maxLen; omega
  case m5 => exact Nat.le_refl _
  intro w2 hown hgr
  rw [made_zeros] at hown
  obtain ⟨hblk, _⟩ := Blk.of_own hown
  have hb2 : Below w1.heap.size w1 w2 := (Below.refl _ w1).grown hgr (Nat.le_refl _) (fun k hk => by cases hk)
  have hsz2 : w1.heap.size < w2.heap.size := heap_lt hblk
  have HBK := Lib.hid hblk
  have HB2 := Lib.hid hb2
  clear hown hgr hblk hb2
  go_wp2_with fail
  refine (HSA.out _ (below_next HBW1.out HB2.out)).mono ?_
  rintro e w3 ⟨Ax, cx, lx, rfl, hnx, hb3⟩
  have hsz3 := hb3.size
  have hblk3 : Blk w3 w1.heap.size (List.replicate (l1.length + 1) 0) := (hb3.block _ hsz2).trans HBK.out
  have hlx : lx.length ≤ l1.length + 1 := len_of_lt hnx.norm hnx.val HLT1.out
  have hlx0 : 0 < lx.length := by
    rcases Nat.eq_zero_or_pos lx.length with h | h
    · exfalso
      obtain rfl : lx = [] := List.eq_nil_of_length_eq_zero h
      have := hnx.val
      have h5 : 0 < x * 2 ^ s := Nat.mul_pos (by omega) hpp
      simp [val] at this; omega
    · exact h
  obtain ⟨bx, ox, rfl, _, _, hcx⟩ := hnx.rd.2 hlx0
  have hcopy := fun ty => run_copy_cells (P := Tryz.prog) w3 61 61 ty 110 w1.heap.size 0 (l1.length + 1) (l1.length + 1) ⟨bx, ox, none⟩ lx.length cx (u64s lx) Tryz.underlying61 (by rw [hi0]; simp [hz1]) (by rw [u64s_length]; simp only [Nat.min_def]; split <;> omega)
    (fun j v hj => by have := hcx j v hj; cases j <;> simpa [Addr.add] using this) (fun j hj => by rw [u64s_length] at hj; rw [cellsAt hblk3]; simp [u64s]; omega) (fun j _ => hblk3.frozen _) (fun v hv => by unfold u64s at hv; obtain ⟨d, _, rfl⟩ := List.mem_map.1 hv; rfl)
  have hblk4 := hblk3.copied hlx
  have hb4 : Below w.heap.size w (w3.setCells w1.heap.size 0 (u64s lx)) := (fr_setCells (may := fun i => i = w1.heap.size) (Fr.refl _ w3) w1.heap.size (fun _ => rfl) (u64s lx) 0).below (B := w.heap.size) (by omega) (by intro i hi e; omega) |> (fun h => (below_next HBW1.out (below_next HB2.out hb3)).trans h)
  have hsz4 : (w3.setCells w1.heap.size 0 (u64s lx)).heap.size = w3.heap.size := (fr_setCells (may := fun i => i = w1.heap.size) (Fr.refl _ w3) w1.heap.size (fun _ => rfl) (u64s lx) 0) |> (fun h => by have := heap_lt hblk4; have h2 := h.size; have : ∀ (vs : List Value) (o : Nat) (W : World), (W.setCells w1.heap.size o vs).heap.size = W.heap.size := by { intro vs; induction vs with | nil => intro o W; rfl | cons v vs ih => intro o W; exact (ih _ _).trans (by simp [World.setCell]) }; exact this _ _ _)
  have hrd4 : Rd (w3.setCells w1.heap.size 0 (u64s lx)) 0 w1.heap.size 1 Ad ld.length (u64s ld) := by
    have r1 := HND.out.rd.below (below_next HB2.out hb3) (Nat.le_refl _)
    exact r1.fr (fr_setCells (may := fun i => i = w1.heap.size) (Fr.refl _ w3) w1.heap.size (fun _ => rfl) (u64s lx) 0) (by omega) (by intro i _ hi e; omega)
  have hvx : val W64 (lx ++ List.replicate (l1.length + 1 - lx.length) 0) = x * 2 ^ s := by rw [val_zeros_behind, hnx.val]
  have hdx : ∀ d ∈ lx ++ List.replicate (l1.length + 1 - lx.length) 0, d < W64 := by
    intro d hd
    rcases List.mem_append.1 hd with h | h
    · exact hnx.norm.1 d h
    · rw [List.eq_of_mem_replicate h]; unfold W64; omega
  have hlx' : (lx ++ List.replicate (l1.length + 1 - lx.length) 0).length = l1.length + 1 := by simp; omega
  obtain ⟨x0, hx0⟩ : ∃ x0, x0 = lx ++ List.replicate (l1.length + 1 - lx.length) 0 := ⟨_, rfl⟩
  rw [← hx0] at hvx hdx hlx' hblk4
  have HVX := Lib.hid hvx
  have HDX := Lib.hid hdx
  have HXL := Lib.hid hlx'
  clear hx0 hvx hdx hlx' hblk3
  obtain ⟨w4, hw4⟩ : ∃ w4, w4 = w3.setCells w1.heap.size 0 (u64s lx) := ⟨_, rfl⟩
  rw [← hw4] at hblk4 hb4 hsz4 hrd4
  simp only [← hw4] at hcopy
  have HBK4 := Lib.hid hblk4
  have HB4 := Lib.hid hb4
  have HRD4 := Lib.hid hrd4
  have hg4 : w1.heap.size < w4.heap.size := by omega
  clear hw4 hblk4 hb4 hsz4 hrd4 hnx hb3 hsz3 hlx hlx0 hcx
  go_wp2_with (at_make; refine wpList_make_full _ rfl (.tmp 58) (.tmp 58) 61 rfl w4.heap.size 110 i0 _ 1 Tryz.underlying61 hi0 hz0 hz1 .i64 .i64 _ _ (nq + 1) rfl rfl ?m1 ?m2 ?m3 ?m4 ?m5 ?_)
  case m1 => omega
  case m2 => omega
  case m3 => rw [hz2]; omega
  case m4 => unfold maxLen; omega
  case m5 => exact Nat.le_refl _
  intro w5 hown hgr
  rw [made_zeros] at hown
  obtain ⟨hblk, _⟩ := Blk.of_own hown
  have hb5 : Below w4.heap.size w4 w5 := (Below.refl _ w4).grown hgr (Nat.le_refl _) (fun k hk => by cases hk)
  have hsz5 : w4.heap.size < w5.heap.size := heap_lt hblk
  have HREL0 := Lib.hid (show DivRel w w5 w1.heap.size w4.heap.size Ad ld (x * 2 ^ s) (y * 2 ^ s) (l1.length + 1) (nq + 1) (nq + 1) x0 (List.replicate (nq + 1) 0) from
    { xl := HXL.out, xd := HDX.out, xb := (hb5.block _ hg4).trans HBK4.out, ql := by simp, qd := fun d hd => by rw [List.eq_of_mem_replicate hd]; unfold W64; omega, qb := hblk,
      qz := fun i hi => by rw [List.getElem?_replicate, if_pos hi], lt := by rw [HVX.out]; have := HLT0.out; have e := HNQ.out; rwa [show l1.length - (m + 2) + 1 = nq + 1 by omega] at this,
      sum := by rw [val_replicate0, HVX.out]; omega, rd := HRD4.out.below hb5 (by omega), below := HB4.out.trans (hb5.mono (by omega)) })
  clear hown hgr hblk hb5 hcopy
  obtain ⟨D, hD⟩ : ∃ D, D = y * 2 ^ s := ⟨_, rfl⟩
  obtain ⟨N, hN⟩ : ∃ N, N = x * 2 ^ s := ⟨_, rfl⟩
  have hDp : 0 < D := by rw [hD]; exact Nat.mul_pos hyp hpp
  rw [← hD, ← hN] at HREL0
  have HVD := Lib.hid (show val W64 ld = D by rw [hD]; exact HND.out.val)
  have HDE := Lib.hid hD
  have HNE := Lib.hid hN
  have HLN := Lib.hid HND.out.norm.1
  have HDW := Lib.hid (show D ≤ W64 ^ (m + 2) by
    have := val_lt HND.out.norm.1
    rw [HVD.out, HLD.out] at this; omega)
  clear hD hN HVX HDX HXL HBK4 HB4 HRD4 HB2 HBK HBW1 HND HLT0 HLT1 HSA HSH HFACT HC HLZ
  obtain ⟨g, hg⟩ : ∃ g, g = w1.heap.size := ⟨_, rfl⟩
  obtain ⟨h, hh⟩ : ∃ h, h = w4.heap.size := ⟨_, rfl⟩
  rw [← hg, ← hh] at HREL0 ⊢
  have hgh : g < h := by omega
  have hgw : w.heap.size ≤ g := by omega
  clear hg hh hsz2 hg4 hsz5 hw1
  go_wp2_with fail
  go_loopw [12, 13] (fun jv _ wr => ∃ (k : Nat) (xs qs : List Nat), jv = .int .i64 ((k : Int) - 1) ∧ k ≤ nq + 1 ∧ DivRel w wr g h Ad ld N D (l1.length + 1) (nq + 1) k xs qs) (fun jv _ _ => (intOf jv + 1).toNat)
  case atStart => exact ⟨nq + 1, _, _, by go_num, Nat.le_refl _, HREL0.out⟩
  case round =>
    obtain ⟨wo, hwo⟩ : ∃ wo : World, wo = wr := ⟨_, rfl⟩
    subst hwo
    obtain ⟨k, xs, qs, rfl, hk, hR⟩ := hrel
    have HR := Lib.hid hR
    have hgl := heap_lt hR.xb
    have hhl := heap_lt hR.qb
    cases k with
    | succ j =>
      have e : (((j + 1 : Nat) : Int) - 1) = (j : Int) := by omega
      rw [e]
      clear e
      have hjx : j + (m + 3) ≤ xs.length := by rw [hR.xl, HNQ.out]; omega
      have hnqe := HNQ.out
      have hxl := hR.xl
      have HG := Lib.hid (show Calls Tryz.prog 72 #[.slice (some ⟨g, 0, none⟩) (l1.length + 1) (l1.length + 1), .slice Ad (m + 2) cd, .int .i64 j] wo fun e w' => ∃ q : Nat, e = .returned (.int .u64 (q : Int)) ∧ win W64 xs j (m + 3) / D ≤ q ∧ q < 18446744073709551616 ∧ ∃ n, w' = wo.drewN n from by
        have := natGuess_any g (l1.length + 1) xs Ad cd m ld j T' wo hR.xb.rd hR.xd (by have := hR.rd.more (Nat.le_refl 0) (Nat.le_of_lt hgl); rwa [HLD.out] at this) HLN.out HLD.out HT'.out hT'0 (by omega) (by omega) (by rw [HVD.out]; exact win_lt_of hjx hR.lt)
        rwa [hR.xl, HVD.out] at this)
      have HTK := Lib.hid (show ∀ n q, q < 18446744073709551616 → Calls Tryz.prog 73 #[.slice (some ⟨g, 0, none⟩) (l1.length + 1) (l1.length + 1), .slice Ad (m + 2) cd, .int .i64 j, .int .u64 (q : Nat)] (wo.drewN n) fun e w' => ∃ b, e = .returned (.bool (decide (0 < b))) ∧ b ≤ 1 ∧ TakeRel (wo.drewN n) w' g xs ld j q (m + 3) 0 b from fun n q hq => by
        have := natTake_any g xs Ad cd ld j q (wo.drewN n) hR.xb hR.xd hR.rd HLN.out hq (by rw [HLD.out]; omega) (by omega)
        rwa [hR.xl, HLD.out] at this)
      have HGV := Lib.hid (show ∀ (W : World) (o : List Nat), DivIn wo W g xs o j (m + 3) → Calls Tryz.prog 74 #[.slice (some ⟨g, 0, none⟩) (l1.length + 1) (l1.length + 1), .slice Ad (m + 2) cd, .int .i64 j] W fun e w' => ∃ b, e = .returned (.bool (decide (0 < b))) ∧ b ≤ 1 ∧ GiveRel W w' g o ld j (m + 3) b from fun W o ho => by
        have := natGive_any g o Ad cd ld j W ho.2.2.1 ho.2.1 (hR.rd.fr ho.2.2.2.2 (by omega) (by intro i _ hi e; omega)) HLN.out (by rw [ho.1, HLD.out]; omega) (by rw [ho.1]; omega)
        rwa [ho.1, hR.xl, HLD.out] at this)
      have t3 : decide ((0 : Int) ≤ ↑j) = true := by simp
      obtain ⟨X, hX⟩ : ∃ X, X = win W64 xs j (m + 3) := ⟨_, rfl⟩
      rw [← hX] at HG
      have HX := Lib.hid hX
      have HHJ := Lib.hid hjx
      clear hR hX hjx hnqe hxl
      go_wp2_with fail
      refine HG.out.mono ?_
      rintro e w' ⟨q, rfl, hGq, hqW, n, rfl⟩
      go_wp2_with fail
      refine (HTK.out n q hqW).mono ?_
      rintro e w6 ⟨b, rfl, hb1, o, hol, hod, hob, hos, hov, hof⟩
      have HIN := Lib.hid (show DivIn wo w6 g xs o j (m + 3) from ⟨hol, hod, hob, hos, ⟨hof.os, hof.tape, hof.output, hof.size, hof.block⟩⟩)
      have hovl : win W64 o j (m + 3) < W64 ^ (m + 3) := win_lt (by unfold W64; omega) hod j _
      have HOV := Lib.hid (show win W64 o j (m + 3) + q * D = X + W64 ^ (m + 3) * b by
        have := hov
        rw [List.take_of_length_le (by rw [HLD.out]; omega), HVD.out, Nat.zero_add, ← HX.out] at this
        exact this)
      have HOVL := Lib.hid hovl
      clear hol hod hob hos hov hof hovl
      go_upto_if 77 with fail
      go_cut [13] from 65 to 90 (fun wv wx => wv = .int .u64 ((X / D : Nat) : Int) ∧ ∃ o, DivIn wo wx g xs o j (m + 3) ∧ win W64 o j (m + 3) = X % D)
      case first =>
        rcases Nat.eq_zero_or_pos b with hb0 | hb0
        · subst hb0
          have HE := Lib.hid (take_enough hDp HOV.out hGq)
          go_wp2
          go_meet
          case rel => exact ⟨by rw [HE.out.1], o, HIN.out, HE.out.2⟩
        · obtain rfl : b = 1 := by omega
          have HM := Lib.hid (take_much HOV.out HOVL.out)
          have hq0 : 0 < q := by
            rcases Nat.eq_zero_or_pos q with h0 | h0
            · have := HM.out; rw [h0] at this; omega
            · exact h0
          go_wp2_with fail
          go_loopw [13] (fun wv wx => ∃ (t : Nat) (o : List Nat), wv = .int .u64 (t : Int) ∧ t < 18446744073709551616 ∧ DivIn wo wx g xs o j (m + 3) ∧ win W64 o j (m + 3) + (t + 1) * D = X + W64 ^ (m + 3) ∧ X < (t + 1) * D) (fun wv _ => (intOf wv).toNat)
          case atStart => exact ⟨q - 1, o, by go_num, by omega, HIN.out, by have := HOV.out; rw [show q - 1 + 1 = q by omega]; omega, by rw [show q - 1 + 1 = q by omega]; exact HM.out⟩
          case round =>
            obtain ⟨t, o', rfl, htW, hin, hsum, hXt⟩ := hrel
            have HIN2 := Lib.hid hin
            have HSUM := Lib.hid hsum
            have HXT := Lib.hid hXt
            clear hin hsum hXt HIN HOV HOVL HM
            go_wp2_with fail
            refine (HGV.out _ _ HIN2.out).mono ?_
            rintro e w7 ⟨b', rfl, hb1', o'', hol, hod, hob, hos, hov, hof⟩
            have hovl : win W64 o'' j (m + 3) < W64 ^ (m + 3) := win_lt (by unfold W64; omega) hod j _
            rw [List.take_of_length_le (by rw [HLD.out]; omega), HVD.out] at hov
            have HIN3 := Lib.hid (show DivIn wo w7 g xs o'' j (m + 3) from ⟨hol.trans HIN2.out.1, hod, hob, fun i hi => (hos i hi).trans (HIN2.out.2.2.2.1 i hi), HIN2.out.2.2.2.2.trans hof (fun _ _ h => h)⟩)
            rcases Nat.eq_zero_or_pos b' with hb0 | hb0
            · subst hb0
              have hgm := give_more HSUM.out hov hovl
              have HGM := Lib.hid hgm
              have ht0 : 0 < t := by
                rcases Nat.eq_zero_or_pos t with h0 | h0
                · have := hgm.2; rw [h0] at this; omega
                · exact h0
              clear hol hod hob hos hov hof hovl hgm
              go_wp2
              go_roundw
              case rel => first | exact ⟨t - 1, o'', by go_num, by omega, HIN3.out, by rw [show t - 1 + 1 = t by omega]; exact HGM.out.1, by rw [show t - 1 + 1 = t by omega]; exact HGM.out.2⟩ | ((repeat apply Exists.intro); exact ⟨⟨t - 1, o'', by go_num, by omega, HIN3.out, by rw [show t - 1 + 1 = t by omega]; exact HGM.out.1, by rw [show t - 1 + 1 = t by omega]; exact HGM.out.2⟩, rfl⟩)
              case measure => simp [intOf]; omega
            · obtain rfl : b' = 1 := by omega
              have HGN := Lib.hid (give_now hDp HSUM.out HXT.out hov)
              clear hol hod hob hos hov hof hovl
              go_wp2
              go_meet
              case rel => exact ⟨by rw [HGN.out.1], o'', HIN3.out, HGN.out.2⟩
      case rest =>
        obtain ⟨rfl, o', hin, hwin⟩ := hcut
        have hR := HR.out
        have hqj := hR.qz j (by omega)
        have hqb : Blk wc h qs := (hin.2.2.2.2.block h hhl (by omega)).trans hR.qb
        have q0 := hqb.cell hqj
        have z0 := hqb.frozen j
        have hhc := heap_lt hqb
        have hst := div_step (B := W64) (D := D) (n := m + 2) (j := j) (Q := X / D) (x := xs) (x' := o') (q := qs) HDW.out hR.xd hin.1 (by have := HHJ.out; omega) hR.lt hin.2.2.2.1 (by rw [HX.out]) (by rw [hwin, HX.out]) hqj hDp
        have hQW : X / D < W64 := (Nat.div_lt_iff_lt_mul hDp).2 (by rw [Nat.mul_comm, HX.out]; exact win_lt_of HHJ.out hR.lt)
        have hQW' : X / D < 18446744073709551616 := hQW
        have HNEW := Lib.hid (show DivRel w (wc.setCell ⟨h, j, none⟩ (.int .u64 ((X / D : Nat) : Int))) g h Ad ld N D (l1.length + 1) (nq + 1) j o' (qs.set j (X / D)) from
          { xl := hin.1.trans hR.xl, xd := hin.2.1, xb := (Below.heap_setCell _ _ _ _ (by show g ≠ h; omega)).trans hin.2.2.1, ql := by rw [List.length_set, hR.ql], qd := mem_set hR.qd hQW, qb := hqb.set j _,
            qz := fun i hi => by rw [List.getElem?_set_ne (by omega)]; exact hR.qz i (by omega), lt := hst.1, sum := hst.2.trans hR.sum,
            rd := (hR.rd.fr hin.2.2.2.2 (by omega) (by intro i _ hi e; omega)).fr ((Fr.refl (fun i => i = h) wc).setCell (fun _ => rfl) _) (by have := hin.2.2.2.2.size; omega) (by intro i _ hi e; omega),
            below := (hR.below.trans (hin.2.2.2.2.below (by omega) (by intro i hi e; omega))).setCell (by show w.heap.size ≤ h; omega) _ })
        obtain ⟨Q, hQ⟩ : ∃ Q, Q = X / D := ⟨_, rfl⟩
        rw [← hQ] at HNEW hQW' ⊢
        have hql : qs.length = nq + 1 := hR.ql
        clear hin hwin hR hqj hqb hst hQW hQ hql
        go_wp2
        go_roundw
        case rel => exact ⟨j, o', _, by go_num, by omega, HNEW.out⟩
        case measure => simp [intOf]
    | zero =>
      have hfin : val W64 qs = x / y ∧ val W64 xs / 2 ^ s = x % y := by
        have a1 := hR.lt
        have a2 := hR.sum
        rw [Nat.pow_zero, Nat.mul_one] at a1
        have b1 : val W64 qs = N / D := by
          rw [← a2, Nat.add_comm, Nat.mul_add_div hDp, Nat.div_eq_of_lt a1, Nat.add_zero]
        have b2 : val W64 xs = N % D := by
          rw [← a2, Nat.add_comm, Nat.mul_add_mod, Nat.mod_eq_of_lt a1]
        rw [HDE.out, HNE.out, (shifted hpp).1] at b1
        rw [HDE.out, HNE.out, (shifted hpp).2] at b2
        exact ⟨b1, by rw [b2, Nat.mul_div_cancel _ hpp]⟩
      have hq1 := natr_cut (c := nq + 1) hR.qb.rd hR.qd (by rw [hR.ql]; exact Nat.le_refl _) (by unfold maxLen; omega) (fun h => by cases h)
      have hx1 := natr_cut (c := l1.length + 1) hR.xb.rd hR.xd (by rw [hR.xl]; exact Nat.le_refl _) (by unfold maxLen; omega) (fun h => by cases h)
      have hc1 := cut_any (some ⟨h, 0, none⟩) (nq + 1) qs wo hR.qb.rd (by rw [hR.ql]; exact Nat.le_refl _) (by unfold maxLen; omega) (fun h => by cases h)
      have hc2 := cut_any (some ⟨g, 0, none⟩) (l1.length + 1) xs wo hR.xb.rd (by rw [hR.xl]; exact Nat.le_refl _) (by unfold maxLen; omega) (fun h => by cases h)
      have htl : (trim xs).length ≤ 1000000 := by have := trim_length xs; rw [hR.xl] at this; omega
      have hsr := natShr_any (some ⟨g, 0, none⟩) (l1.length + 1) (trim xs) (val W64 xs) s wo hx1 htl (by omega)
      rw [hR.ql] at hc1
      rw [hR.xl] at hc2
      rw [hfin.1] at hq1
      rw [hfin.2] at hsr
      have HQ1 := Lib.hid hq1
      have HC1 := Lib.hid hc1
      have HC2 := Lib.hid hc2
      have HSR := Lib.hid hsr
      have HBL := Lib.hid hR.below
      clear hfin hq1 hx1 hc1 hc2 hsr hR htl
      go_wp2_with fail
      refine HC1.out.mono ?_
      rintro e w' ⟨rfl, rfl⟩
      go_wp2_with fail
      refine HC2.out.mono ?_
      rintro e w' ⟨rfl, rfl⟩
      go_wp2_with fail
      refine HSR.out.mono ?_
      rintro e w8 ⟨A8, c8, l8, rfl, hn8, hb8⟩
      have HN8 := Lib.hid hn8
      have HB8 := Lib.hid hb8
      clear hn8 hb8
      go_wp2
      go_ret2
      exact ⟨_, _, _, _, _, _, rfl, HQ1.out.on HB8.out, HN8.out, HBL.out.trans (HB8.out.mono HBL.out.size)⟩

theorem natDivMod_any (A1 A2 : Option Addr) (c1 c2 : Nat) (l1 l2 : List Nat) (x y : Nat) (w : World) (h1 : NatR w A1 c1 l1 x) (h2 : NatR w A2 c2 l2 y) (hs : l1.length ≤ 900000) (hs2 : l2.length ≤ 900000) (hy : 0 < y) :
    Calls Tryz.prog 25 #[.slice A1 l1.length c1, .slice A2 l2.length c2] w (Nat2Post (x / y) (x % y) w) := by
  rcases Nat.lt_or_ge x y with h | h
  · exact natDivMod_less A1 A2 c1 c2 l1 l2 x y w h1 h2 (by omega) (by omega) h
  · match l2, h2, hs2 with
    | [], h2, _ => exact absurd h2.val (by simp [val]; omega)
    | [d], h2, _ =>
      obtain rfl : y = d := by have := h2.val; simp [val] at this; omega
      exact natDivMod_word A1 A2 c1 c2 l1 y x w h1 h2 (by omega) h hy
    | a :: b :: r, h2, hs2 => exact natDivMod_long A1 A2 c1 c2 r.length l1 (a :: b :: r) x y w h1 h2 hs rfl h
end Go.Proofs.YtnpfdelklolchaaGreatDoor
