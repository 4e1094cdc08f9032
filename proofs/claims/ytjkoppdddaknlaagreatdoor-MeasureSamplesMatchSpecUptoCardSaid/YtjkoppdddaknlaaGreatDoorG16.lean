import Derived.Test.YtjkoppdddaknlaaGreatDoorOf
import Derived.Test.YtjkoppdddaknlaaGreatDoorG10
import Derived.Deep.SlicePairs
import Derived.Lib.SmallJoins
import Derived.SizedLaws
import Derived.Test.YtjkoppdddaknlaaGreatDoorG4
/- Check and total, of the program and of the reference. -/
namespace Go.Proofs.YtjkoppdddaknlaaGreatDoor
open Go Go.RowKit Go.Proofs Go.Maps

theorem cells2_get {cs : List (Int × Int)} {i : Nat} {x n : Int} (h : cs[i]? = some (x, n)) : (cells2 cs)[i * 2]? = some (.int .i64 x) ∧ (cells2 cs)[i * 2 + 1]? = some (.int .i64 n) := by
  induction cs generalizing i with
  | nil => simp at h
  | cons c cs ih =>
    rcases i with _ | i
    · simp at h; subst h; simp [cells2]
    · have := ih (i := i) (by simpa using h)
      have e1 : (i + 1) * 2 = i * 2 + 1 + 1 := by omega
      rw [e1]
      simpa [cells2] using this
theorem Rd.at2 {w : World} {L B n i : Nat} {A : Option Addr} {cs : List (Int × Int)} (h : Rd w L B 2 A n (cells2 cs)) (hi : i < n) :
    ∃ b o x m, A = some ⟨b, o, none⟩ ∧ L ≤ b ∧ b < B ∧ cs[i]? = some (x, m) ∧ w.cell? ⟨b, o + i * 2, none⟩ = some (.int .i64 x) ∧ w.cell? ⟨b, o + i * 2 + 1, none⟩ = some (.int .i64 m) := by
  obtain ⟨b, o, e, hl, hb, hc⟩ := h.2 (by omega)
  have hlen : cs.length = n := by have := h.1; rw [cells2_length] at this; omega
  obtain ⟨⟨x, m⟩, hx⟩ : ∃ p, cs[i]? = some p := ⟨cs[i]'(by omega), List.getElem?_eq_getElem (by omega)⟩
  have hg := cells2_get hx
  exact ⟨b, o, x, m, e, hl, hb, hx, hc _ _ hg.1, by have := hc _ _ hg.2; rwa [← Nat.add_assoc] at this⟩

end Go.Proofs.YtjkoppdddaknlaaGreatDoor

/- Arguments of a law, opened: places in memory, a slice of integers. -/
namespace Go.Proofs.YtjkoppdddaknlaaGreatDoor
open Go Go.ChangeShapes Go.WideShapes Go.ChangeAt Go.RowKit Go.Deep Go.Joins

theorem cellsI : Tryz.prog.cellsOf 3 = 1 := by kernel_rfl
theorem i64_of {n : Int} (h : (Lit.int IntKind.i64 n).wf = true) : -9223372036854775808 ≤ n ∧ n ≤ 9223372036854775807 := by
  simp [Lit.wf, IntKind.min, IntKind.max, IntKind.signed, IntKind.bits] at h
  exact ⟨by omega, by omega⟩
theorem spot_none {w : World} {a : Addr} {v : Value} (h : w.cell? a = some v) : a.spot = none := by
  unfold World.cell? at h
  split at h
  · split at h
    · cases h
    · rename_i hs; simpa using hs
  · cases h
theorem add_at (a : Addr) (h : a.spot = none) (i : Nat) : a.add i = ⟨a.block, a.off + i, none⟩ := by
  unfold Addr.add
  split
  · rename_i e; subst e; cases a; simp_all
  · rfl

section
variable {H : Type} {enc : TypeId × Value → H} {W : World} {base : Nat}
end
end Go.Proofs.YtjkoppdddaknlaaGreatDoor

/- Elements of several cells each, laid one behind the other. No program in sight. -/
namespace Go.Proofs.YtjkoppdddaknlaaGreatDoor
open Go Go.RowKit

theorem flat_get {α : Type} (f : α → List Value) (k : Nat) (hk : ∀ a, (f a).length = k) : ∀ (l : List α) (i j : Nat) (_ : j < k) (a : α) (_ : l[i]? = some a), (l.flatMap f)[i * k + j]? = (f a)[j]?
  | [], i, j, _, a, h => by simp at h
  | x :: l, 0, j, hj, a, h => by
    simp at h; subst h
    rw [List.flatMap_cons, List.getElem?_append_left (by rw [hk]; omega)]; simp
  | x :: l, i + 1, j, hj, a, h => by
    have := flat_get f k hk l i j hj a (by simpa using h)
    rw [List.flatMap_cons, List.getElem?_append_right (by rw [hk, Nat.add_mul]; omega), hk, ← this]
    congr 1
    rw [Nat.add_mul]; omega
theorem flat_length {α : Type} (f : α → List Value) (k : Nat) (hk : ∀ a, (f a).length = k) (l : List α) : (l.flatMap f).length = l.length * k := by
  induction l with
  | nil => simp
  | cons x l ih => rw [List.flatMap_cons, List.length_append, ih, hk, List.length_cons, Nat.add_mul]; omega
end Go.Proofs.YtjkoppdddaknlaaGreatDoor
