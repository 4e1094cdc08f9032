/- JudgeRatiosMatchSpec: the law's walk. -/
import Derived.Test.YtpmnhdgajkickaaGreatDoorB26
import Derived.Test.YtpmnhdgajkickaaGreatDoorRtPub
import Derived.Test.YtpmnhdgajkickaaGreatDoorB8
namespace Go.Proofs.YtpmnhdgajkickaaGreatDoor
open Go Go.RowKit Go.Proofs

section
variable {P : Program} {Q : Exit → Act → World → Prop} {md : Region.Mode} {ops : Array Oper} {S : World → Prop}
/-- one alone may come up, and is wanted -/
theorem run_oneG {i : Nat} {o : Oper} {fuel : Nat} {listed : Array Bool} {a : Act} {w : World} (hr : Region.ready md ops listed = [i]) (ho : ops[i]? = some o) (hg : Region.wanted o (yielded ops a.tmps) = true)
    (h : ∀ K : Act → World → Prop, Hid (∀ a' w', S w' → (S w' → wpAnyH P md ops Q S fuel (listed.setIfInBounds i true) a' w') → K a' w') → o.wp P a w K Q) : wpAnyH P md ops Q S (fuel + 1) listed a w := by
  refine wpAnyH_all (rs := [i]) hr (by simp) fun j hj => ?_
  obtain rfl : j = i := by simpa using hj
  unfold wpOp
  rw [ho]
  simp only [hg, if_true]
  exact .inl (h _ (fun a' w' h1 h2 => ⟨h1, h2 h1⟩))
end
theorem ordQ_three (p q : Rat) : ordQ p q = -1 ∨ ordQ p q = 0 ∨ ordQ p q = 1 := by
  unfold ordQ
  split
  · exact .inl rfl
  · split
    · exact .inr (.inl rfl)
    · exact .inr (.inr rfl)
theorem ordQ_swap (p q : Rat) : ordQ q p = -ordQ p q := by
  unfold ordQ
  have h3 : p < q ∨ p = q ∨ q < p := by
    rcases Rat.le_total (a := p) (b := q) with h | h
    · by_cases e : p = q
      · exact .inr (.inl e)
      · exact .inl (by rw [Rat.lt_iff_le_and_ne]; exact ⟨h, e⟩)
    · by_cases e : p = q
      · exact .inr (.inl e)
      · exact .inr (.inr (by rw [Rat.lt_iff_le_and_ne]; exact ⟨h, fun x => e x.symm⟩))
  have asm : ∀ {x y : Rat}, x < y → ¬ y < x := fun h1 => Rat.not_lt.2 (Rat.lt_iff_le_and_ne.1 h1).1
  rcases h3 with h | h | h
  · rw [if_pos h, if_neg (asm h), if_neg (fun e => by subst e; exact Rat.lt_irrefl h)]; rfl
  · subst h
    rw [if_neg Rat.lt_irrefl, if_pos rfl]; rfl
  · rw [if_pos h, if_neg (asm h), if_neg (fun e => by subst e; exact Rat.lt_irrefl h)]
theorem cmpE_zero {a b c d : List UInt8} (h : cmpE a b c d = 0) : cRt a b = 0 ∧ cRt c d = 0 := by
  unfold cmpE at h
  by_cases h1 : cRt a b = 0
  · rw [if_neg (by omega)] at h
    exact ⟨h1, h⟩
  · rw [if_pos h1] at h
    exact absurd h h1
end Go.Proofs.YtpmnhdgajkickaaGreatDoor
