/- JudgeLineMatchesSpec: the law's walk. -/
import Derived.Test.YtpmnhdgajkickaaGreatDoorB26
import Derived.Test.YtpmnhdgajkickaaGreatDoorJLine
import Derived.Test.YtpmnhdgajkickaaGreatDoorJKnee
import Derived.Test.YtpmnhdgajkickaaGreatDoorR10Line
import Derived.Test.YtpmnhdgajkickaaGreatDoorR10Knee
namespace Go.Proofs.YtpmnhdgajkickaaGreatDoor
open Go Go.RowKit Go.Proofs

set_option maxHeartbeats 8000000 in
set_option maxRecDepth 100000 in
theorem lawLin_any (A B : Option Addr) (ca cb : Nat) (xs ys : List Int) (w : World) (htab : Tab w.heap.size w) (hr1 : Rd w 0 w.heap.size 1 A xs.length (ints xs)) (hr2 : Rd w 0 w.heap.size 1 B ys.length (ints ys)) (hca : xs.length ≤ ca) (hcb : ys.length ≤ cb) :
    Calls Tryz.prog 6 #[.slice A xs.length ca, .slice B ys.length cb] w fun e w' => e = .returned (.bool true) ∧ Below w.heap.size w w' := by
  have HJ1 := Lib.hid (fun W (hW : Below w.heap.size w W) => jLine_any A B ca cb xs ys W (hr1.old hW) (hr2.old hW) ((htab.on hW).mono hW.size))
  have HR1 := Lib.hid (fun W (hW : Below w.heap.size w W) => r10Line_any A B ca cb xs ys W (hr1.old hW) (hr2.old hW) ((htab.on hW).mono hW.size))
  have HJ2 := Lib.hid (fun W (hW : Below w.heap.size w W) => jKnee_any A B ca cb xs ys W (hr1.old hW) (hr2.old hW))
  have HR2 := Lib.hid (fun W (hW : Below w.heap.size w W) => r10Knee_any A B ca cb xs ys W (hr1.old hW) (hr2.old hW) hca hcb)
  have HH := Lib.hid (fun W (hW : Below w.heap.size w W) => halves_any W ((htab.on hW).mono hW.size))
  obtain ⟨V, hV⟩ : ∃ V, V = lnA xs ys := ⟨_, rfl⟩
  obtain ⟨V2, hV2⟩ : ∃ V, V = lnB xs ys := ⟨_, rfl⟩
  obtain ⟨E, hE⟩ : ∃ E, E = lnC xs ys := ⟨_, rfl⟩
  obtain ⟨KV, hKV⟩ : ∃ V, V = kneeV xs ys := ⟨_, rfl⟩
  obtain ⟨KC, hKC⟩ : ∃ V, V = kneeC xs ys := ⟨_, rfl⟩
  rw [← hV, ← hV2, ← hE] at HJ1 HR1
  rw [← hKV, ← hKC] at HJ2 HR2
  have hrR1 : ratOf V = .agg #[.string ⟨V.1.toArray⟩, .string ⟨V.2.toArray⟩] := rfl
  obtain ⟨R1, hR1⟩ : ∃ R : ByteArray, R = ⟨V.1.toArray⟩ := ⟨_, rfl⟩
  obtain ⟨R2, hR2⟩ : ∃ R : ByteArray, R = ⟨V.2.toArray⟩ := ⟨_, rfl⟩
  rw [← hR1, ← hR2] at hrR1
  have hrR3 : ratOf V2 = .agg #[.string ⟨V2.1.toArray⟩, .string ⟨V2.2.toArray⟩] := rfl
  obtain ⟨R3, hR3⟩ : ∃ R : ByteArray, R = ⟨V2.1.toArray⟩ := ⟨_, rfl⟩
  obtain ⟨R4, hR4⟩ : ∃ R : ByteArray, R = ⟨V2.2.toArray⟩ := ⟨_, rfl⟩
  rw [← hR3, ← hR4] at hrR3
  rw [hrR1, hrR3] at HJ1 HR1
  obtain ⟨n, hn⟩ : ∃ n, n = xs.length := ⟨_, rfl⟩
  obtain ⟨m, hm⟩ : ∃ n, n = ys.length := ⟨_, rfl⟩
  rw [← hn, ← hm] at HJ1 HR1 HJ2 HR2 ⊢
  clear hr1 hr2 htab hV hV2 hE hKV hKC hrR1 hrR3 hR1 hR2 hR3 hR4 hca hcb hn hm
  go_enter Tryz.func6, Tryz.ntmps6
  go_wp2_with fail
  (with_reducible refine (HJ1.out _ (Below.refl _ _)).mono ?_)
  rintro e w1 ⟨rfl, hb1⟩
  obtain ⟨W2, hW2⟩ : ∃ W, W = (w1.alloc (.cells #[.string R1, .string R2] 23)).alloc (.cells #[.string R3, .string R4] 23) := ⟨_, rfl⟩
  have hst : St w1 W2 [(w1.heap.size, .cells #[.string R1, .string R2] 23 (0, 0)), (w1.heap.size + 1, .cells #[.string R3, .string R4] 23 (0, 0))] := by rw [hW2]; exact ((St.start w1).alloc _ _ rfl).alloc _ _ (by simp)
  have HS2 := Lib.hid hst
  have HB2 := Lib.hid (below_next hb1 hst.below)
  clear hb1 hst
  go_wp2_with fail
  rw [← hW2]
  clear hW2
  (with_reducible refine (HR1.out _ HB2.out).mono ?_)
  rintro e w3 ⟨rfl, hb3⟩
  obtain ⟨W4, hW4⟩ : ∃ W, W = (w3.alloc (.cells #[.string R1, .string R2] 23)).alloc (.cells #[.string R3, .string R4] 23) := ⟨_, rfl⟩
  have hst : St w3 W4 [(w3.heap.size, .cells #[.string R1, .string R2] 23 (0, 0)), (w3.heap.size + 1, .cells #[.string R3, .string R4] 23 (0, 0))] := by rw [hW4]; exact ((St.start w3).alloc _ _ rfl).alloc _ _ (by simp)
  have hb24 := below_next hb3 hst.below
  have HB4 := Lib.hid (below_next HB2.out hb24)
  have hs := HS2.out.call hb24
  have u0 := hs.cell 0 0 rfl rfl
  have u1 := hs.cell 0 1 rfl rfl
  have u2 := hs.cell 1 0 rfl rfl
  have u3 := hs.cell 1 1 rfl rfl
  have v0 := hst.cell 0 0 rfl rfl
  have v1 := hst.cell 0 1 rfl rfl
  have v2 := hst.cell 1 0 rfl rfl
  have v3 := hst.cell 1 1 rfl rfl
  rw [hW4] at u0 u1 u2 u3 v0 v1 v2 v3
  clear hb3 hst hb24 hs
  go_wp2_with fail
  rw [← hW4]
  clear hW4 u0 u1 u2 u3 v0 v1 v2 v3
  (with_reducible refine (HJ2.out _ HB4.out).mono ?_)
  rintro e w5 ⟨rfl, hb5⟩
  have HB5 := Lib.hid (below_next HB4.out hb5)
  clear hb5
  go_wp2_with fail
  (with_reducible refine (HR2.out _ HB5.out).mono ?_)
  rintro e w6 ⟨rfl, hb6⟩
  have HB6 := Lib.hid (below_next HB5.out hb6)
  clear hb6
  go_wp2_with fail
  (with_reducible refine (HH.out _ HB6.out).mono ?_)
  rintro e w7 ⟨rfl, hb7⟩
  have HB7 := Lib.hid (below_next HB6.out hb7)
  clear hb7
  go_wp2
  go_ret
  exact ⟨by rfl, HB7.out⟩
end Go.Proofs.YtpmnhdgajkickaaGreatDoor
