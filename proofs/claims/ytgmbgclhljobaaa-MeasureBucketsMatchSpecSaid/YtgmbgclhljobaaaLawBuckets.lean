/- MeasureBucketsMatchSpec: Bucket and Limits return what the reference returns, and a value lies within the limits of its bucket: for every input, no condition. -/
import Derived.Test.YtgmbgclhljobaaaCounts
import Derived.ProofKit
namespace Go.Proofs.Ytgmbgclhljobaaa
open Go Go.RowKit Go.Proofs Go.Maps

theorem Bucket_yes (b v : Int) (w : World) (h : (fineB b && fineV v) = true) : Calls Try.prog 6 #[.int .i64 b, .int .i64 v] w fun e w' => e = .returned (.tuple #[.int .i64 (bkt b v), .int .i64 0]) ∧ ∃ n, w' = w.drewN n :=
  (Bucket_any b v w).mono fun _ _ ⟨he, hw⟩ => ⟨by rw [he, h]; rfl, hw⟩
theorem Bucket_no (b v : Int) (w : World) (h : (fineB b && fineV v) = false) : Calls Try.prog 6 #[.int .i64 b, .int .i64 v] w fun e w' => e = .returned (.tuple #[.int .i64 0, .int .i64 9]) ∧ ∃ n, w' = w.drewN n :=
  (Bucket_any b v w).mono fun _ _ ⟨he, hw⟩ => ⟨by rw [he, h]; rfl, hw⟩
theorem RBucket_yes (b v : Int) (w : World) (h : (fineB b && fineV v) = true) : Calls Try.prog 7 #[.int .i64 b, .int .i64 v] w fun e w' => e = .returned (.tuple #[.int .i64 (bkt b v), .int .i64 0]) ∧ ∃ n, w' = w.drewN n :=
  (RBucket_any b v w).mono fun _ _ ⟨he, hw⟩ => ⟨by rw [he, h]; rfl, hw⟩
theorem RBucket_no (b v : Int) (w : World) (h : (fineB b && fineV v) = false) : Calls Try.prog 7 #[.int .i64 b, .int .i64 v] w fun e w' => e = .returned (.tuple #[.int .i64 0, .int .i64 9]) ∧ ∃ n, w' = w.drewN n :=
  (RBucket_any b v w).mono fun _ _ ⟨he, hw⟩ => ⟨by rw [he, h]; rfl, hw⟩
theorem Limits_yes (b k : Int) (w : World) (h : (fineB b && fineK b k) = true) : Calls Try.prog 8 #[.int .i64 b, .int .i64 k] w fun e w' => e = .returned (.tuple #[.int .i64 (loB b k), .int .i64 (hiB b k), .int .i64 0]) ∧ ∃ n, w' = w.drewN n :=
  (Limits_any b k w).mono fun _ _ ⟨he, hw⟩ => ⟨by rw [he, h]; rfl, hw⟩
theorem Limits_no (b k : Int) (w : World) (h : (fineB b && fineK b k) = false) : Calls Try.prog 8 #[.int .i64 b, .int .i64 k] w fun e w' => e = .returned (.tuple #[.int .i64 0, .int .i64 0, .int .i64 9]) ∧ ∃ n, w' = w.drewN n :=
  (Limits_any b k w).mono fun _ _ ⟨he, hw⟩ => ⟨by rw [he, h]; rfl, hw⟩
theorem RLimits_yes (b k : Int) (w : World) (hk : k ≤ 9223372036854775807) (h : (fineB b && fineK b k) = true) : Calls Try.prog 9 #[.int .i64 b, .int .i64 k] w fun e w' => e = .returned (.tuple #[.int .i64 (loB b k), .int .i64 (hiB b k), .int .i64 0]) ∧ ∃ n, w' = w.drewN n :=
  (RLimits_any b k w hk).mono fun _ _ ⟨he, hw⟩ => ⟨by rw [he, h]; rfl, hw⟩
theorem RLimits_no (b k : Int) (w : World) (hk : k ≤ 9223372036854775807) (h : (fineB b && fineK b k) = false) : Calls Try.prog 9 #[.int .i64 b, .int .i64 k] w fun e w' => e = .returned (.tuple #[.int .i64 0, .int .i64 0, .int .i64 9]) ∧ ∃ n, w' = w.drewN n :=
  (RLimits_any b k w hk).mono fun _ _ ⟨he, hw⟩ => ⟨by rw [he, h]; rfl, hw⟩

theorem fineK_bkt (b v : Int) (h : (fineB b && fineV v) = true) : (fineB b && fineK b (bkt b v)) = true ∧ loB b (bkt b v) ≤ v ∧ v ≤ hiB b (bkt b v) := by
  simp only [Bool.and_eq_true] at h
  obtain ⟨h1, h2⟩ := h
  have h1' := h1
  simp [fineB] at h1'
  simp [fineV] at h2
  have := bkt_within b v h1'.1 h1'.2 h2.1 (by omega)
  refine ⟨?_, this.2.2⟩
  rw [h1]
  simp [fineK]; omega

set_option maxHeartbeats 1000000 in
set_option maxRecDepth 100000 in
theorem law_buckets (b v k : Int) (w : World) (hk : k ≤ 9223372036854775807) :
    Calls Try.prog 3 #[.int .i64 b, .int .i64 v, .int .i64 k] w fun e w' => e = .returned (.bool true) ∧ Below w.heap.size w w' := by
  cases h1 : (fineB b && fineV v) with
  | true =>
    obtain ⟨h3, h4, h5⟩ := fineK_bkt b v h1
    have h4' : decide (v < loB b (bkt b v)) = false := by simp; omega
    have h5' : decide (hiB b (bkt b v) < v) = false := by simp; omega
    have B1 := Lib.hid (fun w => Bucket_yes b v w h1)
    have B2 := Lib.hid (fun w => RBucket_yes b v w h1)
    have B3 := Lib.hid (fun w => Limits_yes b (bkt b v) w h3)
    cases h2 : (fineB b && fineK b k) with
    | true =>
      have L1 := Lib.hid (fun w => Limits_yes b k w h2)
      have L2 := Lib.hid (fun w => RLimits_yes b k w hk h2)
      clear h1 h2 h3
      go_enter Try.func3, Try.ntmps3
      go_wp2_with fail
      refine (B1.out _).mono ?_; rintro e w' ⟨rfl, n1, rfl⟩
      go_wp2_with fail
      refine (B2.out _).mono ?_; rintro e w' ⟨rfl, n2, rfl⟩
      go_wp2_with fail
      refine (L1.out _).mono ?_; rintro e w' ⟨rfl, n3, rfl⟩
      go_wp2_with fail
      refine (L2.out _).mono ?_; rintro e w' ⟨rfl, n4, rfl⟩
      go_wp2_with fail
      refine (B3.out _).mono ?_; rintro e w' ⟨rfl, n5, rfl⟩
      go_wp2_with fail
      refine (counts_any _).mono ?_; rintro e w' ⟨rfl, hb⟩
      go_wp2
      go_ret
      exact ⟨rfl, (below_drewN (Below.refl _ w) _).trans hb⟩
    | false =>
      have L1 := Lib.hid (fun w => Limits_no b k w h2)
      have L2 := Lib.hid (fun w => RLimits_no b k w hk h2)
      clear h1 h2 h3
      go_enter Try.func3, Try.ntmps3
      go_wp2_with fail
      refine (B1.out _).mono ?_; rintro e w' ⟨rfl, n1, rfl⟩
      go_wp2_with fail
      refine (B2.out _).mono ?_; rintro e w' ⟨rfl, n2, rfl⟩
      go_wp2_with fail
      refine (L1.out _).mono ?_; rintro e w' ⟨rfl, n3, rfl⟩
      go_wp2_with fail
      refine (L2.out _).mono ?_; rintro e w' ⟨rfl, n4, rfl⟩
      go_wp2_with fail
      refine (B3.out _).mono ?_; rintro e w' ⟨rfl, n5, rfl⟩
      go_wp2_with fail
      refine (counts_any _).mono ?_; rintro e w' ⟨rfl, hb⟩
      go_wp2
      go_ret
      exact ⟨rfl, (below_drewN (Below.refl _ w) _).trans hb⟩
  | false =>
    have B1 := Lib.hid (fun w => Bucket_no b v w h1)
    have B2 := Lib.hid (fun w => RBucket_no b v w h1)
    cases h2 : (fineB b && fineK b k) with
    | true =>
      have L1 := Lib.hid (fun w => Limits_yes b k w h2)
      have L2 := Lib.hid (fun w => RLimits_yes b k w hk h2)
      clear h1 h2
      go_enter Try.func3, Try.ntmps3
      go_wp2_with fail
      refine (B1.out _).mono ?_; rintro e w' ⟨rfl, n1, rfl⟩
      go_wp2_with fail
      refine (B2.out _).mono ?_; rintro e w' ⟨rfl, n2, rfl⟩
      go_wp2_with fail
      refine (L1.out _).mono ?_; rintro e w' ⟨rfl, n3, rfl⟩
      go_wp2_with fail
      refine (L2.out _).mono ?_; rintro e w' ⟨rfl, n4, rfl⟩
      go_wp2_with fail
      refine (counts_any _).mono ?_; rintro e w' ⟨rfl, hb⟩
      go_wp2
      go_ret
      exact ⟨rfl, (below_drewN (Below.refl _ w) _).trans hb⟩
    | false =>
      have L1 := Lib.hid (fun w => Limits_no b k w h2)
      have L2 := Lib.hid (fun w => RLimits_no b k w hk h2)
      clear h1 h2
      go_enter Try.func3, Try.ntmps3
      go_wp2_with fail
      refine (B1.out _).mono ?_; rintro e w' ⟨rfl, n1, rfl⟩
      go_wp2_with fail
      refine (B2.out _).mono ?_; rintro e w' ⟨rfl, n2, rfl⟩
      go_wp2_with fail
      refine (L1.out _).mono ?_; rintro e w' ⟨rfl, n3, rfl⟩
      go_wp2_with fail
      refine (L2.out _).mono ?_; rintro e w' ⟨rfl, n4, rfl⟩
      go_wp2_with fail
      refine (counts_any _).mono ?_; rintro e w' ⟨rfl, hb⟩
      go_wp2
      go_ret
      exact ⟨rfl, (below_drewN (Below.refl _ w) _).trans hb⟩
end Go.Proofs.Ytgmbgclhljobaaa
