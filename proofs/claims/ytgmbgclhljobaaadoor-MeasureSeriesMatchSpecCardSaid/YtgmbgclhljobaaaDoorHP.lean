/- What a function returns that makes a histogram or tells an error. -/
import Derived.Test.YtgmbgclhljobaaaDoorROf
import Derived.Test.YtgmbgclhljobaaaDoorSt
namespace Go.Proofs.YtgmbgclhljobaaaDoor
open Go Go.RowKit Go.Proofs Go.Maps

/-- a histogram of f if the code is none, else an empty one; with the code -/
def HistPost (f : Int → Int) (d C : Int) (w : World) (e : Ending) (w' : World) : Prop :=
  ∃ v, e = .returned (.tuple #[v, .int .i64 C]) ∧ (C = 0 → ∃ cs, IsHist f cs ∧ HistR w' w.heap.size v d cs) ∧ (C ≠ 0 → v = .agg #[.int .i64 0, .slice none 0 0]) ∧ Below w.heap.size w w'
theorem HistPost.none {f : Int → Int} {d C code : Int} {w W : World} (h0 : code ≠ 0) (hC : C = code) (hb : Below w.heap.size w W) : HistPost f d C w (.returned (.tuple #[.agg #[.int .i64 0, .slice none 0 0], .int .i64 code])) W := by
  subst hC
  exact ⟨_, rfl, fun h => absurd h h0, fun _ => rfl, hb⟩
theorem HistPost.some {f : Int → Int} {d C : Int} {w X W : World} {L : Nat} {A : Option Addr} {c : Nat} {cs : List (Int × Int)} (hC : C = 0) (hh : IsHist f cs) (hrd : Rd X L X.heap.size 2 A cs.length (cells2 cs)) (hL : w.heap.size ≤ L) (hX : Below w.heap.size w X)
    (hf : Fr (fun i => i < L ∧ w.heap.size ≤ i) X W) : HistPost f d C w (.returned (.tuple #[.agg #[.int .i64 d, .slice A cs.length c], .int .i64 0])) W := by
  subst hC
  refine ⟨_, rfl, fun _ => ⟨cs, hh, A, c, rfl, ?_⟩, fun h => absurd rfl h, ?_⟩
  · exact (hrd.fr hf (Nat.le_refl _) (fun i hi _ => by omega)).more hL hf.size
  · exact hX.trans (hf.below hX.size (fun i hi => by omega))
theorem HistPost.code {f : Int → Int} {d C C' : Int} {w W : World} {e : Ending} (h : HistPost f d C w e W) (hC : C = C') : HistPost f d C' w e W := hC ▸ h
/-- handed on by a caller whose world began earlier -/
theorem HistPost.on {f : Int → Int} {d C : Int} {w W : World} {e : Ending} {w0 : World} (h : HistPost f d C w e W) (hb : Below w0.heap.size w0 w) : HistPost f d C w0 e W := by
  obtain ⟨v, h1, h2, h3, h4⟩ := h
  refine ⟨v, h1, fun h => ?_, h3, hb.trans (h4.mono hb.size)⟩
  obtain ⟨cs, g1, A, c, g2, g3⟩ := h2 h
  exact ⟨cs, g1, A, c, g2, g3.more hb.size (Nat.le_refl _)⟩
/-- its form written out -/
theorem HistPost.form {f : Int → Int} {d C : Int} {w W : World} {e : Ending} (h : HistPost f d C w e W) : ∃ b A n c, e = .returned (.tuple #[.agg #[.int .i64 b, .slice A n c], .int .i64 C]) ∧
    (C = 0 → ∃ cs, IsHist f cs ∧ b = d ∧ n = cs.length ∧ Rd W w.heap.size W.heap.size 2 A cs.length (cells2 cs)) ∧ (C ≠ 0 → b = 0 ∧ A = Option.none ∧ n = 0 ∧ c = 0) ∧ Below w.heap.size w W := by
  obtain ⟨v, h1, h2, h3, h4⟩ := h
  by_cases h0 : C = 0
  · obtain ⟨cs, g1, A, c, rfl, g3⟩ := h2 h0
    exact ⟨d, A, cs.length, c, h1, fun _ => ⟨cs, g1, rfl, rfl, g3⟩, fun h => absurd h0 h, h4⟩
  · obtain rfl := h3 h0
    exact ⟨0, Option.none, 0, 0, h1, fun h => absurd h h0, fun _ => ⟨rfl, rfl, rfl, rfl⟩, h4⟩
end Go.Proofs.YtgmbgclhljobaaaDoor
