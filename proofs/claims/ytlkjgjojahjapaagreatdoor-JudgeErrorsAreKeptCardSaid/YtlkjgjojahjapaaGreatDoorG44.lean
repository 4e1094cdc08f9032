import Derived.Test.YtlkjgjojahjapaaGreatDoorJRead
import Derived.Test.YtlkjgjojahjapaaGreatDoorG28
import Derived.Test.YtlkjgjojahjapaaGreatDoorG30
import Derived.Test.YtlkjgjojahjapaaGreatDoorG9
/- Ratios: CheckRatio and Compare of package judge, Compare of the reference. -/
namespace Go.Proofs.YtlkjgjojahjapaaGreatDoor
open Go Go.RowKit Go.Proofs

end Go.Proofs.YtlkjgjojahjapaaGreatDoor

/- JudgeRatiosMatchSpec: the law's walk. -/
namespace Go.Proofs.YtlkjgjojahjapaaGreatDoor
open Go Go.RowKit Go.Proofs

section
variable {P : Program} {Q : Exit → Act → World → Prop} {md : Region.Mode} {ops : Array Oper} {S : World → Prop}
/-- one alone may come up, and is wanted -/
theorem run_oneG {i : Nat} {o : Oper} {fuel : Nat} {listed : Array Bool} {a : Act} {w : World} (hr : Region.ready md ops listed = [i]) (ho : ops[i]? = some o) (hg : Region.wanted o (yielded ops a.tmps) = true)
    (h : ∀ K : Act → World → Prop, Hid (∀ a' w', S w' → (S w' → wpAnyH P md ops Q S fuel (listed.setIfInBounds i true) a' w') → K a' w') → o.wp P a w K Q) : wpAnyH P md ops Q S (fuel + 1) listed a w := by
  refine wpAnyH_all (rs := [i]) hr (by simp) fun j hj => ?_
  obtain rfl : j = i := by simpa using hj
  unfold wpOp
  rw [ho]
  simp only [hg, if_true]
  exact .inl (h _ (fun a' w' h1 h2 => ⟨h1, h2 h1⟩))
end
end Go.Proofs.YtlkjgjojahjapaaGreatDoor
