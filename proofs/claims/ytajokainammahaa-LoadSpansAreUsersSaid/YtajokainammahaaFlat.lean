/- Elements of several cells each, laid one behind the other. No program in sight. -/
import Derived.Test.YtajokainammahaaMem
namespace Go.Proofs.Ytajokainammahaa
open Go Go.RowKit

theorem flat_get {α : Type} (f : α → List Value) (k : Nat) (hk : ∀ a, (f a).length = k) : ∀ (l : List α) (i j : Nat) (_ : j < k) (a : α) (_ : l[i]? = some a), (l.flatMap f)[i * k + j]? = (f a)[j]?
  | [], i, j, _, a, h => by simp at h
  | x :: l, 0, j, hj, a, h => by
    simp at h; subst h
    rw [List.flatMap_cons, List.getElem?_append_left (by rw [hk]; omega)]; simp
  | x :: l, i + 1, j, hj, a, h => by
    have := flat_get f k hk l i j hj a (by simpa using h)
    rw [List.flatMap_cons, List.getElem?_append_right (by rw [hk, Nat.add_mul]; omega), hk, ← this]
    congr 1
    rw [Nat.add_mul]; omega
theorem flat_length {α : Type} (f : α → List Value) (k : Nat) (hk : ∀ a, (f a).length = k) (l : List α) : (l.flatMap f).length = l.length * k := by
  induction l with
  | nil => simp
  | cons x l ih => rw [List.flatMap_cons, List.length_append, ih, hk, List.length_cons, Nat.add_mul]; omega
end Go.Proofs.Ytajokainammahaa
