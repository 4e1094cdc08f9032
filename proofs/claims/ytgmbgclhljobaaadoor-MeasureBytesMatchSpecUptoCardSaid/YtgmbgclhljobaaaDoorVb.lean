/- Numbers in bytes of seven bits: plain. -/
import Derived.Test.YtgmbgclhljobaaaDoorInk
namespace Go.Proofs.YtgmbgclhljobaaaDoor
open Go Go.RowKit Go.Proofs Go.Maps

/-- a number, seven bits in a byte, the lowest first; at most f bytes -/
def vbF : Nat → Nat → List UInt8
  | 0, _ => []
  | f + 1, n => if n < 128 then [UInt8.ofNat n] else UInt8.ofNat (128 + n % 128) :: vbF f (n / 128)
def vb (n : Nat) : List UInt8 := vbF 10 n
theorem vbF_length : ∀ f n, (vbF f n).length ≤ f
  | 0, _ => Nat.le_refl _
  | f + 1, n => by
    unfold vbF
    split
    · simp
    · have := vbF_length f (n / 128); simp; omega
theorem vb_length (n : Nat) : (vb n).length ≤ 10 := vbF_length 10 n
theorem byteCells_append (a b : List UInt8) : Lib.byteCells (a ++ b) = Lib.byteCells a ++ Lib.byteCells b := by simp [Lib.byteCells]
theorem byteCells_length (a : List UInt8) : (Lib.byteCells a).length = a.length := by simp [Lib.byteCells]
theorem byteCells_one (a : List UInt8) : ∀ u ∈ Lib.byteCells a, u.oneCell' = true := by
  intro u hu
  simp only [Lib.byteCells, List.mem_map] at hu
  obtain ⟨c, _, rfl⟩ := hu
  rfl
/-- all but rows of bytes from 'base' on is as it was -/
def U8Fr (base : Nat) (w w' : World) : Prop := Fr (fun i => base ≤ i ∧ U8 w i) w w'
theorem U8Fr.refl (base : Nat) (w : World) : U8Fr base w w := Fr.refl _ _
theorem U8Fr.trans {base : Nat} {w w1 w2 : World} (h1 : U8Fr base w w1) (h2 : U8Fr base w1 w2) : U8Fr base w w2 :=
  ⟨h2.os.trans h1.os, h2.tape.trans h1.tape, h2.output.trans h1.output, Nat.le_trans h1.size h2.size, fun i hi hm => by
    have e1 := h1.block i hi hm
    refine (h2.block i (Nat.lt_of_lt_of_le hi h1.size) ?_).trans e1
    rintro ⟨hb, c, fz, hc⟩
    exact hm ⟨hb, c, fz, by rw [← e1]; exact hc⟩⟩
theorem U8Fr.alloc {base : Nat} {w w' : World} (h : U8Fr base w w') (o : Obj) : U8Fr base w (w'.alloc o) := Fr.alloc h o
theorem U8Fr.below {base : Nat} {w w' : World} (h : U8Fr base w w') (hb : base ≤ w.heap.size) : Below base w w' := Fr.below h hb (fun i hi => by omega)
theorem U8Fr.keep {base : Nat} {w w' : World} (h : U8Fr base w w') {i : Nat} {c : Array Value} {t : TypeId} {fz : Nat × Nat} (hi : w.heap[i]? = some (.cells c t fz)) (ht : t ≠ 5) : w'.heap[i]? = some (.cells c t fz) := by
  refine (h.block i (heap_lt hi) ?_).trans hi
  rintro ⟨_, c', fz', hc⟩
  rw [hi] at hc
  simp only [Option.some.injEq, Obj.cells.injEq] at hc
  exact ht hc.2.1
/-- behind an append to a row of bytes of one's own -/
theorem U8Fr.app {base n : Nat} {w w1 w2 : World} {v : Value} {xs : List Value} (h : U8Fr base w w1) (hown : w1.ownsRow base 5 1 v n xs) (hg : w1.grownBy w2 v.ownBlock) : U8Fr base w w2 :=
  h.trans ((Fr.of_grown hg).mono (fun _ _ hi => ownBlock_u8 hown hi))
theorem or128 : ∀ x : Nat, x < 256 → bits .or .u8 (x : Int) 128 = ((128 + x % 128 : Nat) : Int) := by decide +kernel
end Go.Proofs.YtgmbgclhljobaaaDoor
