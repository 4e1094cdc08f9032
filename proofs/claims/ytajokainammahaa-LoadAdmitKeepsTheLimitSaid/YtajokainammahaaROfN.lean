/- Package dynamometerref0: Of. -/
import Derived.Test.YtajokainammahaaRBlk
namespace Go.Proofs.Ytajokainammahaa
open Go Go.RowKit Go.Proofs

/-- what the loop of Of keeps: the digits so far, and the rest of the number -/
def ROfR (w wr : World) (n m : Nat) (v : Value) : Prop :=
  ∃ o, o.length ≤ 20 ∧ m * 10000 ^ o.length ≤ n ∧ (∀ d ∈ o, d < T4) ∧ val T4 o + T4 ^ o.length * m = n ∧ (m = 0 → o.getLast? ≠ some 0) ∧ wr.ownsRow w.heap.size 3 1 v o.length (d4s o) ∧ Below w.heap.size w wr
theorem rof_step {w : World} {n m : Nat} {o : List Nat} (hm : 0 < m) (hn : n ≤ 9223372036854775807) (h1 : m * 10000 ^ o.length ≤ n) (h3 : val T4 o + T4 ^ o.length * m = n) :
    (o ++ [m % 10000]).length ≤ 20 ∧ m / 10000 * 10000 ^ (o ++ [m % 10000]).length ≤ n ∧ val T4 (o ++ [m % 10000]) + T4 ^ (o ++ [m % 10000]).length * (m / 10000) = n ∧ (m / 10000 = 0 → (o ++ [m % 10000]).getLast? ≠ some 0) := by
  have hl : o.length ≤ 19 := by
    refine Classical.byContradiction fun hc => ?_
    have : (10000 : Nat) ^ 20 ≤ 10000 ^ o.length := Nat.pow_le_pow_right (by omega) (by omega)
    have h4 : 1 * 10000 ^ o.length ≤ m * 10000 ^ o.length := Nat.mul_le_mul_right _ hm
    omega
  refine ⟨by simp; omega, ?_, ?_, ?_⟩
  · simp only [List.length_append, List.length_singleton, Nat.pow_succ]
    have : m / 10000 * (10000 ^ o.length * 10000) = (m / 10000 * 10000) * 10000 ^ o.length := by rw [Nat.mul_comm (10000 ^ o.length), Nat.mul_assoc]
    rw [this]
    exact Nat.le_trans (Nat.mul_le_mul_right _ (by omega)) h1
  · rw [val_snoc]
    simp only [List.length_append, List.length_singleton, Nat.pow_succ]
    have e : T4 ^ o.length * (m % 10000) + T4 ^ o.length * T4 * (m / 10000) = T4 ^ o.length * m := by
      rw [Nat.mul_assoc, ← Nat.mul_add]; congr 1; unfold T4; omega
    omega
  · intro h
    simp; omega

set_option maxHeartbeats 1000000 in
set_option maxRecDepth 100000 in
theorem rnatOf_any (n : Int) (w : World) (hn : n ≤ 9223372036854775807) : Calls Try.prog 11 #[.int .i64 n] w (RNatPost n.toNat w) := by
  obtain ⟨i0, hi0, hz0, hz1, hz2⟩ := info_parts Try.infoI4
  by_cases h0 : n ≤ 0
  · have h' : decide (0 < n) = false := by simp; omega
    have HZ := Lib.hid (show n.toNat = 0 by omega)
    go_enter Try.func11, Try.ntmps11
    go_wp2
    refine wp_loop_rounds 1 ?_
    rw [rounds_succ]
    go_wp2
    go_ret
    exact ⟨none, 0, [], rfl, by rw [HZ.out]; exact rnatr_nil w, Below.refl _ _⟩
  · obtain ⟨N, rfl⟩ := Int.eq_ofNat_of_zero_le (show 0 ≤ n by omega)
    rw [Int.toNat_natCast]
    go_enter Try.func11, Try.ntmps11
    go_wp2
    go_loopw [0, 3] (fun i v wr => ∃ m : Nat, i = .int .i64 m ∧ m ≤ N ∧ ROfR w wr N m v) (fun i _ _ => (intOf i).toNat)
    case atStart => exact ⟨N, rfl, Nat.le_refl _, [], by simp, by simp, fun _ h => by simp at h, by simp [val], fun _ => by simp, ⟨by simp [d4s], .inl ⟨rfl, rfl⟩⟩, Below.refl _ _⟩
    case round =>
      obtain ⟨m, rfl, hm, o, ho1, ho2, ho3, ho4, ho5, hown, hbw⟩ := hrel
      have HOW := Lib.hid hown
      have HBW := Lib.hid hbw
      have hsz := hbw.size
      have H3 := Lib.hid ho3
      have H4 := Lib.hid ho4
      have H5 := Lib.hid ho5
      have H2 := Lib.hid ho2
      clear ho2 ho3 ho4 ho5 hown hbw
      by_cases hp : 0 < m
      · have t1 : decide ((0 : Int) < ↑m) = true := by simp; omega
        have t2 : decide (0 < m) = true := by simpa using hp
        go_wp2_with (at_builtin; refine wpList_append_own _ rfl (.tmp 6) (.tmp 9) 32 rfl w.heap.size 3 i0 _ 1 8 Try.underlying32 hi0 hz0 hz1 hz2 rfl (by decide) _ _ _ rfl (HOW.out.alloc _) ⟨wr.heap.size, 0, none⟩ 1 1 [.int .i64 ((m : Int) % 10000)] rfl rfl (cell_one_new _ _ _) (by simp [Value.oneCell']) ?c3 ?c4 ?c5 ?_)
        case c3 => unfold maxLen; omega
        case c4 => omega
        case c5 => simp; omega
        intro v' w2 hown' hgrow _
        obtain ⟨g1, g2, g3, g4⟩ := rof_step (w := w) hp (by omega) H2.out H4.out
        have hnew : ROfR w w2 N (m / 10000) v' := by
          refine ⟨o ++ [m % 10000], g1, g2, ?_, g3, g4, ?_, ?_⟩
          · intro d hd
            rcases List.mem_append.1 hd with h | h
            · exact H3.out d h
            · simp at h; subst h; unfold T4; omega
          · simpa [d4s] using hown'
          · exact (HBW.out.alloc hsz _).grown hgrow (by simp; omega) (fun j hj => (ownsRow_block HOW.out hj.symm).1)
        have HN := Lib.hid hnew
        clear hown' hgrow g1 g2 g3 g4 hnew
        go_wp2
        go_roundw
        case rel => exact ⟨m / 10000, by first | rfl | go_num, by omega, HN.out⟩
        case measure => simp [intOf]; omega
      · obtain rfl : m = 0 := by omega
        obtain ⟨A', cap', rfl, hnc, hcm, hA'⟩ := ownsRow_shape HOW.out
        have HF := Lib.hid (show RNatR wr A' cap' o N from ⟨(Rd.of_own HOW.out).more (Nat.zero_le _) (Nat.le_refl _), ⟨H3.out, H5.out rfl⟩, by have := H4.out; simpa using this, hnc, hcm, hA'⟩)
        clear hA'
        go_wp2
        go_ret
        exact ⟨A', cap', o, rfl, HF.out, HBW.out⟩
end Go.Proofs.Ytajokainammahaa
