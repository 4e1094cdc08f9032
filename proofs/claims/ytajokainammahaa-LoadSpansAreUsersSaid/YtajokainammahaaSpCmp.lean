/- Package load: Spans: the comparison of two spans; a row that the sort leaves. -/
import Derived.Test.YtajokainammahaaSpIn
import Derived.Sort.Row
import Derived.Sort.Grow
import Derived.Sort.Statements
import Derived.Shelf.GgSortFunc.RowK
import Derived.Deep.RegionHeld3
import Derived.Test.YtajokainammahaaShelf
namespace Go.Proofs.Ytajokainammahaa
open Go Go.RowKit Go.Proofs Go.Sort

theorem putRow_block {w : World} {g : Nat} {cur F : Array Value} {t : TypeId} {fr : Nat × Nat} (h : w.heap[g]? = some (.cells cur t fr)) : (putRow id w g 0 F).heap[g]? = some (.cells (putCells id 0 F cur) t fr) := by
  simp [putRow, mapBlock, Array.getElem?_modify, h, onCells]
theorem putCells_take {cur F : Array Value} (h : F.size ≤ cur.size) : (putCells id 0 F cur).size = cur.size ∧ (putCells id 0 F cur).toList.take F.size = F.toList := by
  refine ⟨by simp [putCells], ?_⟩
  apply List.ext_getElem?
  intro i
  rw [List.getElem?_take]
  split
  · rename_i hi
    have h1 : i < cur.size := by omega
    simp [putCells, h1, hi]
  · rename_i hi
    rw [List.getElem?_eq_none (by simpa using hi)]
theorem fr_sorted (w : World) (n g : Nat) (F : Array Value) (os : Array Obj) : Fr (fun i => i = g) w (grow (putRow id (Sort.ahead w n) g 0 F) os) := by
  refine ⟨rfl, rfl, rfl, ?_, fun i hi hm => ?_⟩
  · simp [grow, putRow, mapBlock, Sort.ahead]
  · have : ¬ g = i := fun h => hm h.symm
    show ((w.heap.modify g _) ++ os)[i]? = w.heap[i]?
    rw [Array.getElem?_append_left (by simpa using hi), Array.getElem?_modify, if_neg this]
/-- a span's cells -/
def encSp (s : Int × Int × Int) : List Value := [.int .i64 s.1, .int .i64 s.2.1, .int .i64 s.2.2]
theorem cells3_flatS : ∀ l : List (Int × Int × Int), cells3 l = l.flatMap encSp
  | [] => rfl
  | s :: r => by rw [cells3, cells3_flatS r]; rfl
theorem flatK_cells (d : Array (Int × Int × Int)) : (flatK encSp 3 d).toList = cells3 d.toList := by
  apply List.ext_getElem?
  intro i
  rw [cells3_flatS]
  by_cases hi : i < d.size * 3
  · have hq : i / 3 < d.size := by omega
    have h1 := flat_get encSp 3 (fun _ => rfl) d.toList (i / 3) (i % 3) (Nat.mod_lt _ (by omega)) (d[i / 3]) (by simp [hq])
    rw [show i / 3 * 3 + i % 3 = i by omega] at h1
    rw [h1]
    have h2 : (flatK encSp 3 d)[i]? = some ((encSp d[i / 3]!)[i % 3]!) := by simp [flatK, hi]
    rw [Array.getElem?_toList, h2, getElem!_pos d _ hq]
    have h3 : i % 3 = 0 ∨ i % 3 = 1 ∨ i % 3 = 2 := by omega
    rcases h3 with h | h | h <;> rw [h] <;> rfl
  · rw [List.getElem?_eq_none (by simp [flatK]; omega), List.getElem?_eq_none (by rw [flat_length encSp 3 (fun _ => rfl)]; simp; omega)]
/-- the row behind the sort -/
theorem own_sorted {w : World} {base n g cap : Nat} {t : TypeId} {l l' : List (Int × Int × Int)} (h : w.ownsRow base t 3 (.slice (some ⟨g, 0, none⟩) n cap) n (cells3 l)) (hl : l'.length = l.length) (q : Nat) (os : Array Obj) :
    (grow (putRowK encSp 3 (Sort.ahead w q) g 0 l'.toArray) os).ownsRow base t 3 (.slice (some ⟨g, 0, none⟩) n cap) n (cells3 l') := by
  have hn := h.1
  rw [cells3_length] at hn
  refine ⟨by rw [cells3_length, hl, hn], ?_⟩
  rcases h.2 with ⟨h0, _⟩ | ⟨g', cap', cur, hv, hb, hh, h1, h2, h3, h4⟩
  · cases h0
  · cases hv
    have hsz : (flatK encSp 3 l'.toArray).size = n * 3 := by simp; omega
    have hcur : (flatK encSp 3 l'.toArray).size ≤ cur.size := by rw [hsz, h3]; exact Nat.mul_le_mul_right 3 h1
    obtain ⟨p1, p2⟩ := putCells_take hcur
    have hblk := putRow_block (w := Sort.ahead w q) (F := flatK encSp 3 l'.toArray) hh
    have hlt := heap_lt hblk
    refine .inr ⟨g, cap, putCells id 0 (flatK encSp 3 l'.toArray) cur, rfl, hb, ?_, h1, h2, by rw [p1]; exact h3, ?_⟩
    · unfold putRowK grow
      rw [Array.getElem?_append_left hlt]
      exact hblk
    · rw [← hsz, p2, flatK_cells]
theorem holds_own {w : World} {base n g cap : Nat} {t : TypeId} {l : List (Int × Int × Int)} (h : w.ownsRow base t 3 (.slice (some ⟨g, 0, none⟩) n cap) n (cells3 l)) : HoldsK encSp 3 w g 0 l.toArray := by
  intro j hj
  rcases h.2 with ⟨h0, _⟩ | ⟨g', cap', cur, hv, hb, hh, h1, h2, h3, h4⟩
  · cases h0
  · cases hv
    have hn := h.1
    rw [cells3_length] at hn
    have hsz : (flatK encSp 3 l.toArray).size = l.length * 3 := by simp
    refine ⟨?_, frozenAt hh _⟩
    rw [cellsAt hh, Nat.zero_add]
    have hf := flatK_cells l.toArray
    have hj2 : (flatK encSp 3 l.toArray)[j]? = (cells3 l)[j]? := by rw [← Array.getElem?_toList, hf]
    have hc : (cells3 l)[j]? = cur[j]? := by
      rw [← h4, List.getElem?_take_of_lt (by rw [hsz] at hj; omega), Array.getElem?_toList]
    rw [← hc, ← hj2, Array.getElem?_eq_getElem hj, getElem!_pos (flatK encSp 3 l.toArray) j hj]
    rfl

/-- how two spans compare -/
def cmpSp (a b : Int × Int × Int) : Int := if Lib.compareInt a.2.1 b.2.1 ≠ 0 then Lib.compareInt a.2.1 b.2.1 else Lib.compareInt a.1 b.1
set_option maxHeartbeats 1000000 in
set_option maxRecDepth 100000 in
theorem cmpOr_any (b o : Nat) (x y : Int) (w : World) (hx : w.cell? ⟨b, o, none⟩ = some (.int .i64 x)) (hy : w.cell? ⟨b, o + 1, none⟩ = some (.int .i64 y)) :
    Calls Try.prog 28 #[.slice (some ⟨b, o, none⟩) 2 2] w fun e w' => e = .returned (.int .i64 (if x ≠ 0 then x else y)) ∧ w = w' := by
  by_cases h0 : x = 0
  · subst h0
    rw [if_neg (by simp)]
    by_cases h1 : y = 0
    · subst h1
      go_enter Try.func28, Try.ntmps28
      go_wp2
      refine wp_loop_rounds 3 ?_
      rw [rounds_succ]
      go_wp2
      rw [rounds_succ]
      go_wp2
      rw [rounds_succ]
      go_wp2
      go_ret
      exact ⟨rfl, rfl⟩
    · have t1 : (y != 0) = true := by simpa using h1
      go_enter Try.func28, Try.ntmps28
      go_wp2
      refine wp_loop_rounds 2 ?_
      rw [rounds_succ]
      go_wp2
      rw [rounds_succ]
      go_wp2
      go_ret
      exact ⟨rfl, rfl⟩
  · rw [if_pos h0]
    have t1 : (x != 0) = true := by simpa using h0
    go_enter Try.func28, Try.ntmps28
    go_wp2
    refine wp_loop_rounds 1 ?_
    rw [rounds_succ]
    go_wp2
    go_ret
    exact ⟨rfl, rfl⟩
end Go.Proofs.Ytajokainammahaa
