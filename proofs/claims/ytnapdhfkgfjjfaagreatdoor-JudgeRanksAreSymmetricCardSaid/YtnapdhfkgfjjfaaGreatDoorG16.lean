import Derived.Test.YtnapdhfkgfjjfaaGreatDoorNat
import Derived.Test.YtnapdhfkgfjjfaaGreatDoorNatAdd
/- Package dynamometerref0: numbers in base 10000: Cmp. -/
namespace Go.Proofs.YtnapdhfkgfjjfaaGreatDoor
open Go Go.RowKit Go.Proofs

/-- the words' base -/
def T4 : Nat := 10000
theorem T4_pos : 1 < T4 := by unfold T4; omega
def d4s (l : List Nat) : List Value := l.map fun d : Nat => Value.int .i64 (d : Int)
/-- the slice (A, l.length, c) is the number x -/
structure RNatR (w : World) (A : Option Addr) (c : Nat) (l : List Nat) (x : Nat) : Prop where
  rd : Rd w 0 w.heap.size 1 A l.length (d4s l)
  norm : Norm T4 l
  val : val T4 l = x
  cap : l.length ≤ c
  max : c ≤ maxLen
  nil : A = none → l.length = 0 ∧ c = 0
theorem RNatR.on {w w' : World} {A : Option Addr} {c : Nat} {l : List Nat} {x : Nat} (h : RNatR w A c l x) (hb : Below w.heap.size w w') : RNatR w' A c l x := ⟨h.rd.old hb, h.norm, h.val, h.cap, h.max, h.nil⟩
end Go.Proofs.YtnapdhfkgfjjfaaGreatDoor

/- Package dynamometerref0: trimmed. -/
namespace Go.Proofs.YtnapdhfkgfjjfaaGreatDoor
open Go Go.RowKit Go.Proofs

end Go.Proofs.YtnapdhfkgfjjfaaGreatDoor

/- Package dynamometerref0: blocks of words. -/
namespace Go.Proofs.YtnapdhfkgfjjfaaGreatDoor
open Go Go.RowKit Go.Proofs

theorem Tryz.infoI4 : (Tryz.prog.info? 3).map (fun i => (i.zero, i.size, i.bytes)) = some (some (.int .i64 0), 1, 8) := by kernel_rfl
/-- block g holds these words -/
def Blk4 (w : World) (g : Nat) (o : List Nat) : Prop := w.heap[g]? = some (.cells (d4s o).toArray 3 (0, 0))
theorem Blk4.cell {w : World} {g : Nat} {o : List Nat} (h : Blk4 w g o) {i d : Nat} (hi : o[i]? = some d) : w.cell? ⟨g, i, none⟩ = some (.int .i64 d) := by
  rw [cellsAt h]; simp [d4s, hi]
theorem Blk4.frozen {w : World} {g : Nat} {o : List Nat} (h : Blk4 w g o) (i : Nat) : w.frozen? ⟨g, i, none⟩ = false := frozenAt h i
theorem Blk4.set {w : World} {g : Nat} {o : List Nat} (h : Blk4 w g o) (i d : Nat) : Blk4 (w.setCell ⟨g, i, none⟩ (.int .i64 d)) g (o.set i d) := by
  unfold Blk4 at *
  simp only [World.setCell, Array.getElem?_modify, h, if_true, Option.map_some]
  congr 2
  rw [List.setIfInBounds_toArray]
  simp [d4s, List.map_set]
theorem Blk4.of_own {w : World} {base g n : Nat} {o : List Nat} (h : w.ownsRow base 3 1 (.slice (some ⟨g, 0, none⟩) n n) n (d4s o)) : Blk4 w g o ∧ o.length = n := by
  have hl : o.length = n := by have := h.1; simpa [d4s] using this
  rcases h.2 with ⟨hv, _⟩ | ⟨g', cap, cur, hv, hb, hh, h1, h2, h3, h4⟩
  · cases hv
  · simp only [Value.slice.injEq, Option.some.injEq, Addr.mk.injEq] at hv
    obtain ⟨⟨rfl, _⟩, _, rfl⟩ := hv
    refine ⟨?_, hl⟩
    unfold Blk4
    rw [hh]
    have e : cur = (d4s o).toArray := by
      apply Array.toList_inj.1
      rw [← h4, List.take_of_length_le (by simp; omega)]
    rw [e]
theorem Blk4.rd {w : World} {g : Nat} {o : List Nat} (h : Blk4 w g o) : Rd w 0 w.heap.size 1 (some ⟨g, 0, none⟩) o.length (d4s o) :=
  ⟨by simp [d4s], fun _ => ⟨g, 0, rfl, Nat.zero_le _, heap_lt h, fun j u hj => by rw [cellsAt h, Nat.zero_add]; simpa using hj⟩⟩
theorem made_zeros4 (n : Nat) : (madeCells #[Value.int .i64 0] n).toList = d4s (List.replicate n 0) := by
  apply List.ext_getElem
  · simp [madeCells, d4s]
  · intro i h1 h2
    simp [madeCells, d4s, Nat.mod_one]
end Go.Proofs.YtnapdhfkgfjjfaaGreatDoor

/- Package dynamometerref0: Of. -/
namespace Go.Proofs.YtnapdhfkgfjjfaaGreatDoor
open Go Go.RowKit Go.Proofs

end Go.Proofs.YtnapdhfkgfjjfaaGreatDoor
