/- counts(): a small histogram is made. -/
import Derived.Test.YtgmbgclhljobaaaDoorOf
namespace Go.Proofs.YtgmbgclhljobaaaDoor
open Go Go.RowKit Go.Proofs Go.Maps

theorem small_hist (cs : List (Int × Int)) (h : IsHist (cntB 2 [5, 1, 4]) cs) : cs = [(1, 1), (4, 2)] := by
  refine h.uniq ⟨by decide, fun x n => ?_⟩
  have e : cntB 2 [5, 1, 4] x = (if x = 4 then 1 else 0) + (if x = 1 then 1 else 0) + (if x = 4 then 1 else 0) := by
    unfold cntB
    have b5 : bkt 2 5 = 4 := by decide +kernel
    have b1 : bkt 2 1 = 1 := by decide +kernel
    have b4 : bkt 2 4 = 4 := by decide +kernel
    have c4 : ((4 : Int) == x) = decide (x = 4) := by by_cases h : x = 4 <;> simp [h]; omega
    have c1 : ((1 : Int) == x) = decide (x = 1) := by by_cases h : x = 1 <;> simp [h]; omega
    simp only [List.countP_cons, List.countP_nil, b5, b1, b4, c4, c1, decide_eq_true_eq]
    split <;> split <;> omega
  rw [e]
  simp only [List.mem_cons, Prod.mk.injEq, List.not_mem_nil, or_false]
  by_cases h4 : x = 4
  · subst h4; simp; omega
  · by_cases h1 : x = 1
    · subst h1; simp; omega
    · simp [h4, h1]; omega

theorem rd_new (w : World) (t : TypeId) (l : List Value) (n k : Nat) (hl : l.length = n * k) : Rd (w.alloc (.cells l.toArray t)) 0 (w.alloc (.cells l.toArray t)).heap.size k (some ⟨w.heap.size, 0, none⟩) n l := by
  refine ⟨hl, fun _ => ⟨w.heap.size, 0, rfl, Nat.zero_le _, by simp, fun j u hu => ?_⟩⟩
  rw [cellsAt (alloc_at w _ _ rfl), Nat.zero_add]
  simpa using hu

set_option maxHeartbeats 1000000 in
theorem counts_any (w : World) : Calls Tryd.prog 12 #[] w fun e w' => e = .returned (.bool true) ∧ Below w.heap.size w w' := by
  have hO := Of_any 2 (some ⟨w.heap.size, 0, none⟩) 3 3 [5, 1, 4] (w.alloc (.cells #[.int .i64 5, .int .i64 1, .int .i64 4] 3)) (rd_new w 3 [.int .i64 5, .int .i64 1, .int .i64 4] 3 1 rfl) (by omega)
  have hcode : codeV 2 3 [5, 1, 4] = 0 := by decide +kernel
  rw [hcode] at hO
  have HO := Lib.hid hO
  clear hO hcode
  go_enter Tryd.func12, Tryd.ntmps12
  go_wp2_with fail
  refine HO.out.mono ?_
  rintro e w' ⟨v, rfl, h1, _, hbw⟩
  obtain ⟨cs, hh, ⟨A, c, rfl, hlc, hcm, hA, hrd⟩, hcl⟩ := h1 trivial
  obtain rfl := small_hist cs hh
  obtain ⟨b, o, rfl, hlb, hbb, hcell⟩ := hrd.2 (by simp)
  have c0 := hcell 2 (.int .i64 4) rfl
  have c1 := hcell 3 (.int .i64 2) rfl
  have HBW := Lib.hid hbw
  have hsz := hbw.size
  simp only [World.size_alloc] at hsz
  clear h1 hh hrd hA hcell hbw
  go_wp2
  go_ret
  refine ⟨by simp, ?_⟩
  exact (((Below.refl _ w).alloc (Nat.le_refl _) _).trans (HBW.out.mono (by simp))).alloc (by omega) _

/-- the same beside other results -/
theorem counts_below (w w0 : World) (B : Nat) (h : Below B w0 w) (hB : B ≤ w.heap.size) : Calls Tryd.prog 12 #[] w fun e w' => e = .returned (.bool true) ∧ Below B w0 w' :=
  (counts_any w).mono fun _ _ ⟨he, hb⟩ => ⟨he, h.trans (hb.mono hB)⟩
end Go.Proofs.YtgmbgclhljobaaaDoor
