import Derived.Test.YtnapdhfkgfjjfaaGreatDoorG1
import Derived.Test.YtnapdhfkgfjjfaaGreatDoorG2
import Derived.Test.YtnapdhfkgfjjfaaGreatDoorProg
import Derived.Lib.IndexBytes
import Derived.WalkSpells
import Derived.WalkLawsBesides
import Derived.Handy
import Derived.Lib.SlTrimSet
import Derived.Lib.Strings
/- Package dynamometerref10: unsigned, digits. -/
namespace Go.Proofs.YtnapdhfkgfjjfaaGreatDoor
open Go Go.RowKit Go.Proofs

theorem ba_size {S : ByteArray} {L : List UInt8} (h : S.data.toList = L) : S.size = L.length := by subst h; exact Array.length_toList.symm
theorem ba_first {S : ByteArray} {c : UInt8} {r : List UInt8} (h : S.data.toList = c :: r) (hp : 0 < S.size) : S[0] = c := by
  have e2 : S.data.toList[0]? = some S[0] := List.getElem?_eq_getElem (l := S.data.toList) (i := 0) (by simpa using hp)
  rw [h] at e2
  exact (Option.some.inj e2).symm
end Go.Proofs.YtnapdhfkgfjjfaaGreatDoor

/- Texts of digits: trimmed, prefixed. Plain. -/
namespace Go.Proofs.YtnapdhfkgfjjfaaGreatDoor
open Go

/-- the ten digits -/
def tenD : List UInt8 := [48, 49, 50, 51, 52, 53, 54, 55, 56, 57]
set_option maxRecDepth 100000 in
theorem tenD_mem (c : UInt8) : tenD.contains c = (decide (48 ≤ c.toNat) && decide (c.toNat ≤ 57)) := by
  have key : ∀ k : Fin 256, tenD.contains (UInt8.ofNat k.val) = (decide (48 ≤ (UInt8.ofNat k.val).toNat) && decide ((UInt8.ofNat k.val).toNat ≤ 57)) := by decide
  have h := key ⟨c.toNat, c.toNat_lt⟩
  simpa using h
theorem trimS_nil (l cs : List UInt8) : (Lib.trimS l cs).isEmpty = l.all (fun c => cs.contains c) := by
  have dw : ∀ l : List UInt8, (l.dropWhile (fun c => cs.contains c)).isEmpty = l.all (fun c => cs.contains c) := by
    intro l
    induction l with
    | nil => rfl
    | cons a r ih =>
      rw [List.dropWhile_cons, List.all_cons]
      cases h : cs.contains a with
      | true => simpa using ih
      | false => simp
  have dl : ∀ l : List UInt8, l.dropWhile (fun c => cs.contains c) = [] ↔ l.all (fun c => cs.contains c) = true := by
    intro l
    rw [← dw l]; simp
  rw [Bool.eq_iff_iff]
  unfold Lib.trimS Lib.trimLeftS Lib.trimRightS
  rw [List.isEmpty_iff, dl]
  simp only [List.all_reverse]
  constructor
  · intro h
    rw [List.all_eq_true] at h ⊢
    intro c hc
    refine Classical.byContradiction fun hn => ?_
    have hne : l.reverse.dropWhile (fun c => cs.contains c) ≠ [] := by
      intro h0
      rw [dl] at h0
      exact hn (List.all_eq_true.1 h0 c (by simpa using hc))
    have hh := List.head_dropWhile_not (p := fun c => cs.contains c) hne
    have := h _ (List.head_mem hne)
    rw [hh] at this
    cases this
  · intro h
    rw [List.all_eq_true] at h ⊢
    intro c hc
    exact h c (by have := (List.dropWhile_sublist (fun c => cs.contains c) (l := l.reverse)).subset hc; simpa using this)
theorem trim_digits (l : List UInt8) : (Lib.trimS l tenD).isEmpty = l.all (fun c => decide (48 ≤ c.toNat) && decide (c.toNat ≤ 57)) := by
  rw [trimS_nil]
  congr 1
  funext c
  exact tenD_mem c
theorem cut_minus (a : List UInt8) : Lib.hasPrefix a [45] = sgB a ∧ Lib.trimPrefix a [45] = unsg a := by
  have h : Lib.hasPrefix a [45] = sgB a := by
    cases a with
    | nil => rfl
    | cons c r =>
      show (45 == c && true) = (some c == some 45)
      rw [Bool.and_true, Bool.eq_iff_iff, beq_iff_eq, beq_iff_eq]
      exact ⟨fun h => by rw [h], fun h => (Option.some.inj h).symm⟩
  exact ⟨h, by unfold Lib.trimPrefix unsg; rw [h]; rfl⟩
end Go.Proofs.YtnapdhfkgfjjfaaGreatDoor
