import Derived.Test.YtlkjgjojahjapaaGreatDoorG33
import Derived.Test.YtlkjgjojahjapaaGreatDoorJComp
/- Package judge: bounds, CheckTrial, Bounds, Judge. -/
namespace Go.Proofs.YtlkjgjojahjapaaGreatDoor
open Go Go.RowKit Go.Proofs

/-- the trial of eight texts -/
def TL (S0 S1 S2 S3 S4 S5 S6 S7 : ByteArray) : List (ByteArray × ByteArray) := [(S0, S1), (S2, S3), (S4, S5), (S6, S7)]
end Go.Proofs.YtlkjgjojahjapaaGreatDoor

/- Eight texts that are a trial: what its code tells. -/
namespace Go.Proofs.YtlkjgjojahjapaaGreatDoor
open Go Go.RowKit Go.Proofs

theorem tr_zero {S0 S1 S2 S3 S4 S5 S6 S7 : ByteArray} (h : trCode (TL S0 S1 S2 S3 S4 S5 S6 S7) (prQ (S0, S1)) (prQ (S2, S3)) = 0) : (∀ (j : Nat) (p : ByteArray × ByteArray), (TL S0 S1 S2 S3 S4 S5 S6 S7)[j]? = some p → shC .between p.1.data.toList p.2.data.toList = 0) ∧ ordQ (prQ (S0, S1)) (prQ (S2, S3)) < 0 := by
  unfold trCode at h
  by_cases h1 : shL (TL S0 S1 S2 S3 S4 S5 S6 S7) = 0
  · rw [if_neg (by rw [h1]; decide)] at h
    have ho : ordQ (prQ (S0, S1)) (prQ (S2, S3)) < 0 := by
      refine Classical.byContradiction fun hc => ?_
      rw [if_pos (by omega)] at h
      exact absurd h (by decide)
    refine ⟨?_, ho⟩
    intro j
    induction j using Nat.strongRecOn with
    | ind j ih =>
      intro p hp
      refine Classical.byContradiction fun hc => ?_
      have := shL_at hp (fun i q hi hq => ih i hi q hq) hc
      rw [h1] at this
      exact hc this.symm
  · rw [if_pos h1] at h
    exact absurd h h1
theorem tr_ok {S0 S1 S2 S3 S4 S5 S6 S7 : ByteArray} (h : trCode (TL S0 S1 S2 S3 S4 S5 S6 S7) (prQ (S0, S1)) (prQ (S2, S3)) = 0) : TrOk (prQ (S0, S1)) (prQ (S2, S3)) (prQ (S4, S5)) (prQ (S6, S7)) := by
  obtain ⟨hz, ho⟩ := tr_zero h
  have y0 := prQ_small (hz 0 (S0, S1) rfl)
  have y1 := prQ_small (hz 1 (S2, S3) rfl)
  have y2 := prQ_small (hz 2 (S4, S5) rfl)
  have y3 := prQ_small (hz 3 (S6, S7) rfl)
  exact ⟨⟨y0.1, y0.2.1, y1.1, y1.2.1, ord_cross y0.2.2.2 y1.2.2.2 ho⟩, ⟨y0.2.2.1, y1.2.2.1⟩, y2.1, y2.2.1, y2.2.2.1, y3.1, y3.2.1, y3.2.2.1⟩
theorem tr_cRt {S0 S1 S2 S3 S4 S5 S6 S7 : ByteArray} (h : trCode (TL S0 S1 S2 S3 S4 S5 S6 S7) (prQ (S0, S1)) (prQ (S2, S3)) = 0) : cRt S0.data.toList S1.data.toList = 0 ∧ cRt S2.data.toList S3.data.toList = 0 ∧ cRt S4.data.toList S5.data.toList = 0 ∧ cRt S6.data.toList S7.data.toList = 0 := by
  obtain ⟨hz, _⟩ := tr_zero h
  exact ⟨(shC_zero (hz 0 (S0, S1) rfl)).1, (shC_zero (hz 1 (S2, S3) rfl)).1, (shC_zero (hz 2 (S4, S5) rfl)).1, (shC_zero (hz 3 (S6, S7) rfl)).1⟩
end Go.Proofs.YtlkjgjojahjapaaGreatDoor
