import Derived.Test.YtnapdhfkgfjjfaaGreatDoorR10Chk
import Derived.Test.YtnapdhfkgfjjfaaGreatDoorG38
import Derived.Test.YtnapdhfkgfjjfaaGreatDoorG22
import Derived.Test.YtnapdhfkgfjjfaaGreatDoorG33
import Derived.Test.YtnapdhfkgfjjfaaGreatDoorG18
import Derived.Maps.AppendAt
import Derived.Test.YtnapdhfkgfjjfaaGreatDoorRDivMod
import Derived.Test.YtnapdhfkgfjjfaaGreatDoorG16
import Derived.Test.YtnapdhfkgfjjfaaGreatDoorG24
import Derived.Test.YtnapdhfkgfjjfaaGreatDoorG32
import Derived.IntWalk
/- Package dynamometerref10: short ratios (shortFault), FromRatio of a ratio that is one. -/
namespace Go.Proofs.YtnapdhfkgfjjfaaGreatDoor
open Go Go.RowKit Go.Proofs

end Go.Proofs.YtnapdhfkgfjjfaaGreatDoor

/- Package dynamometerref10: chances. -/
namespace Go.Proofs.YtnapdhfkgfjjfaaGreatDoor
open Go Go.RowKit Go.Proofs

end Go.Proofs.YtnapdhfkgfjjfaaGreatDoor

/- Package dynamometerref0: Pow. -/
namespace Go.Proofs.YtnapdhfkgfjjfaaGreatDoor
open Go Go.RowKit Go.Proofs

end Go.Proofs.YtnapdhfkgfjjfaaGreatDoor

/- Binomial: three throws, at most one. Plain. -/
namespace Go.Proofs.YtnapdhfkgfjjfaaGreatDoor
open Go

theorem bin_half : binE 3 1 [49] [50] = 0 ∧ binV 3 1 [49] [50] = ([49], [50]) := by
  have e1 : ratX [49] [50] = mkRat 1 2 := by
    unfold ratX
    rfl
  have hs : binC 3 [49] [50] = 0 := by
    have h1 : cRt [49] [50] = 0 := by decide
    unfold binC shC
    rw [if_neg (by decide), e1, h1, if_neg (by decide), if_neg (by decide)]
    decide
  have e2 : binQ 3 1 (mkRat 1 2) = mkRat 1 2 := by decide
  have e3 : Lib.decDigits 1 = [49] := by rw [Lib.decDigits]; rfl
  have e4 : Lib.decDigits 2 = [50] := by rw [Lib.decDigits]; rfl
  have h1 : frS (mkRat 1 2) = false := by decide
  have h2 : frN (mkRat 1 2) = 1 := by decide
  have h3 : (mkRat 1 2).den = 2 := by decide
  have hr : ratQ (mkRat 1 2) = ([49], [50]) := by unfold ratQ; rw [h2, h3, e3, e4]
  have hf : fitQ (mkRat 1 2) = true := by unfold fitQ; rw [hr]; rfl
  unfold binE binV
  rw [if_pos hs, if_pos hs, e1, show (3 : Int).toNat = 3 from rfl, e2]
  unfold rtC rtT txtQ
  rw [if_pos hf, if_pos hf, h1, hr]
  exact ⟨rfl, rfl⟩
end Go.Proofs.YtnapdhfkgfjjfaaGreatDoor

/- Package dynamometerref10: Binomial. -/
namespace Go.Proofs.YtnapdhfkgfjjfaaGreatDoor
open Go Go.RowKit Go.Proofs

theorem binV_bad {n k : Int} {a b : List UInt8} (h : binC n a b ≠ 0) : binV n k a b = ([], []) ∧ binE n k a b = binC n a b := by
  unfold binV binE; rw [if_neg h, if_neg h]; exact ⟨rfl, rfl⟩
theorem binV_good {n k : Int} {a b : List UInt8} (h : binC n a b = 0) : binV n k a b = rtT (binQ n.toNat k (ratX a b)) ∧ binE n k a b = rtC (binQ n.toNat k (ratX a b)) := by
  unfold binV binE; rw [if_pos h, if_pos h]; exact ⟨rfl, rfl⟩
theorem rat_none : ratOf ([], []) = .agg #[.string ⟨#[]⟩, .string ⟨#[]⟩] := rfl
/-- a share's parts -/
theorem share_parts {a b : List UInt8} (h : shC .share a b = 0) : frN (ratX a b) ≤ (ratX a b).den ∧ (ratX a b).den ≤ T4 ^ 2 := by
  obtain ⟨h1, h2, h3, h4⟩ := shC_zero h
  obtain ⟨s1, s2, _⟩ := shC_small h
  simp only [inQ, Bool.and_eq_true, decide_eq_true_eq] at h4
  refine ⟨h4.2, ?_⟩
  have : T4 ^ 2 = 100000000 := by unfold T4; rfl
  omega
end Go.Proofs.YtnapdhfkgfjjfaaGreatDoor
