import Derived.Test.YtnapdhfkgfjjfaaGreatDoorJBin
import Derived.Test.YtnapdhfkgfjjfaaGreatDoorG39
import Derived.Test.YtnapdhfkgfjjfaaGreatDoorG16
import Derived.Test.YtnapdhfkgfjjfaaGreatDoorG1
/- Package dynamometerlaw10: same, halves. -/
namespace Go.Proofs.YtnapdhfkgfjjfaaGreatDoor
open Go Go.RowKit Go.Proofs

set_option maxHeartbeats 8000000 in
set_option maxRecDepth 100000 in
theorem halves_any (w : World) (htab : Tab w.heap.size w) :
    Calls Tryz.prog 10 #[] w fun e w' => e = .returned (.bool true) ∧ Below w.heap.size w w' := by
  have HB := Lib.hid (jBinomial_any ⟨#[49]⟩ ⟨#[50]⟩ [49] [50] 3 1 w rfl rfl (by decide) (by decide) (by omega) (by omega) htab)
  rw [bin_half.1, bin_half.2] at HB
  rw [show ratOf ([49], [50]) = .agg #[.string ⟨#[49]⟩, .string ⟨#[50]⟩] from rfl] at HB
  have HF := Lib.hid (fun W (hb : Below w.heap.size w W) o => (show Below w.heap.size w (W.alloc o) from hb.alloc hb.size _))
  go_enter Tryz.func10, Tryz.ntmps10
  go_wp2_with fail
  (with_reducible refine (HB.out).mono ?_)
  rintro e w1 ⟨rfl, hb1⟩
  have HB1 := Lib.hid hb1
  clear hb1
  go_wp2
  go_ret
  exact ⟨by rfl, HF.out _ HB1.out _⟩
end Go.Proofs.YtnapdhfkgfjjfaaGreatDoor

/- Blocks of integers. -/
namespace Go.Proofs.YtnapdhfkgfjjfaaGreatDoor
open Go Go.RowKit Go.Proofs

/-- block g holds these integers -/
def IBlk (w : World) (g : Nat) (o : List Int) : Prop := w.heap[g]? = some (.cells (ints o).toArray 3 (0, 0))
theorem IBlk.cell {w : World} {g : Nat} {o : List Int} (h : IBlk w g o) {i : Nat} {d : Int} (hi : o[i]? = some d) : w.cell? ⟨g, i, none⟩ = some (.int .i64 d) := by
  rw [cellsAt h]; simp [ints, hi]
theorem IBlk.frozen {w : World} {g : Nat} {o : List Int} (h : IBlk w g o) (i : Nat) : w.frozen? ⟨g, i, none⟩ = false := frozenAt h i
theorem IBlk.set {w : World} {g : Nat} {o : List Int} (h : IBlk w g o) (i : Nat) (d : Int) : IBlk (w.setCell ⟨g, i, none⟩ (.int .i64 d)) g (o.set i d) := by
  unfold IBlk at *
  simp only [World.setCell, Array.getElem?_modify, h, if_true, Option.map_some]
  congr 2
  rw [List.setIfInBounds_toArray]
  simp [ints, List.map_set]
theorem IBlk.of_own {w : World} {base g n : Nat} {o : List Int} (h : w.ownsRow base 3 1 (.slice (some ⟨g, 0, none⟩) n n) n (ints o)) : IBlk w g o ∧ o.length = n := by
  have hl : o.length = n := by have := h.1; simpa [ints] using this
  rcases h.2 with ⟨hv, _⟩ | ⟨g', cap, cur, hv, hb, hh, h1, h2, h3, h4⟩
  · cases hv
  · simp only [Value.slice.injEq, Option.some.injEq, Addr.mk.injEq] at hv
    obtain ⟨⟨rfl, _⟩, _, rfl⟩ := hv
    refine ⟨?_, hl⟩
    unfold IBlk
    rw [hh]
    have e : cur = (ints o).toArray := by
      apply Array.toList_inj.1
      rw [← h4, List.take_of_length_le (by simp; omega)]
    rw [e]
theorem IBlk.rd {w : World} {g : Nat} {o : List Int} (h : IBlk w g o) : Rd w 0 w.heap.size 1 (some ⟨g, 0, none⟩) o.length (ints o) :=
  ⟨by simp [ints], fun _ => ⟨g, 0, rfl, Nat.zero_le _, heap_lt h, fun j u hj => by rw [cellsAt h, Nat.zero_add]; simpa using hj⟩⟩
theorem made_zerosI (n : Nat) : (madeCells #[Value.int .i64 0] n).toList = ints (List.replicate n 0) := by
  rw [made_zeros4]; simp [d4s, ints]
end Go.Proofs.YtnapdhfkgfjjfaaGreatDoor

/- Lines through points: plain. -/
namespace Go.Proofs.YtnapdhfkgfjjfaaGreatDoor
open Go

/-- the sums of points -/
def pX (l : List (Int × Int)) : Int := (l.map (·.1)).sum
def pY (l : List (Int × Int)) : Int := (l.map (·.2)).sum
def pXX (l : List (Int × Int)) : Int := (l.map fun p => p.1 * p.1).sum
def pXY (l : List (Int × Int)) : Int := (l.map fun p => p.1 * p.2).sum
def pYY (l : List (Int × Int)) : Int := (l.map fun p => p.2 * p.2).sum
end Go.Proofs.YtnapdhfkgfjjfaaGreatDoor
