/- tallyOf: counts again what a histogram has. -/
import Derived.Test.YtgmbgclhljobaaaDoorSum
namespace Go.Proofs.YtgmbgclhljobaaaDoor
open Go Go.RowKit Go.Proofs Go.Maps

/-- what the loop of tallyOf keeps -/
def TaRel (w wr : World) (_b : Int) (_A : Option Addr) (n _c : Nat) (cs : List (Int × Int)) (k : Nat) : Prop :=
  k ≤ n ∧ MapII wr (w.heap.size + 1) k (sumAt id (cs.take k)) ∧ Below w.heap.size w wr ∧ w.heap.size + 1 < wr.heap.size
theorem sumAt_fresh {cs : List (Int × Int)} (h : cs.Pairwise (fun a b => a.1 < b.1)) {k : Nat} {x m : Int} (hx : cs[k]? = some (x, m)) : sumAt id (cs.take k) x = 0 := by
  by_cases h0 : sumAt id (cs.take k) x = 0
  · exact h0
  · obtain ⟨d, hd, e⟩ := sumAt_ne _ _ _ h0
    simp only [id] at e
    obtain ⟨j, hj, e'⟩ := List.getElem_of_mem hd
    simp only [List.length_take] at hj
    rw [List.getElem_take] at e'
    have hk := (List.getElem?_eq_some_iff.1 hx)
    rw [List.pairwise_iff_getElem] at h
    have := h j k (by omega) hk.1 (by omega)
    rw [e', hk.2] at this
    simp only at this
    omega
theorem TaRel.put {w wr : World} {b : Int} {A : Option Addr} {n c : Nat} {cs : List (Int × Int)} {k : Nat} {x m : Int} (h : TaRel w wr b A n c cs k) (hs : cs.Pairwise (fun a b => a.1 < b.1)) (hk : k < n) (hx : cs[k]? = some (x, m)) {w1 w2 : World} (hb : Below wr.heap.size wr w1)
    (hm : MapII w2 (w.heap.size + 1) (k + 1) (upd (sumAt id (cs.take k)) x m)) (hg : w1.grownBy w2 (some (w.heap.size + 1))) : TaRel w w2 b A n c cs (k + 1) := by
  obtain ⟨h1, h2, h3, h4⟩ := h
  have hf := Fr.of_grown hg
  have hs1 := hb.size
  have hs2 := hg.size
  refine ⟨by omega, ?_, ?_, by omega⟩
  · have := sumAt_snoc id (cs.take k) x m
    rw [show id x = x from rfl, sumAt_fresh hs hx, Int.zero_add] at this
    rw [this] at hm
    rw [List.take_add_one, hx]; exact hm
  · exact (h3.trans (hb.mono (by omega))).grown hg (by omega) (fun j hj => by cases hj; omega)

set_option maxHeartbeats 2000000 in
set_option maxRecDepth 100000 in
theorem tallyOf_any (b : Int) (A : Option Addr) (c : Nat) (cs : List (Int × Int)) (w : World) (hr : Rd w 0 w.heap.size 2 A cs.length (cells2 cs)) (hg : Good b cs) :
    Calls Tryd.prog 58 #[.agg #[.int .i64 b, .slice A cs.length c]] w fun e w' => ∃ M, e = .returned (.map (some M)) ∧ w.heap.size ≤ M ∧ M < w'.heap.size ∧ MapII w' M cs.length (sumAt id cs) ∧ Below w.heap.size w w' := by
  obtain ⟨hb2, hb8, hlen, hcs, hsort, htot⟩ := hg
  have hmx := maxB_bd b hb2 hb8
  have HR := Lib.hid hr
  have HCS := Lib.hid hcs
  have HSO := Lib.hid hsort
  have hmm := @run_makeMap Tryd.prog
  clear hr hcs hsort
  go_enter Tryd.func58, Tryd.ntmps58
  go_wp2
  clear hmm
  go_loopw [5, 10] (fun _ i wr => ∃ k : Nat, i = .int .i64 k ∧ TaRel w wr b A cs.length c cs k) (fun _ i _ => cs.length - (intOf i).toNat)
  case atStart =>
    refine ⟨0, rfl, Nat.zero_le _, ?_, ((Below.refl _ w).alloc (Nat.le_refl _) _).alloc (by simp) _, by simp⟩
    have := mapII_made (w.alloc (.cells #[.int .i64 b, .slice A cs.length c] 24))
    simp only [World.size_alloc] at this
    rw [List.take_zero, sumAt_nil]; exact this
  case round =>
    obtain ⟨k, rfl, hrel⟩ := hrel
    obtain ⟨hk, hmap, hbw, hsz⟩ := id hrel
    by_cases hlt : k < cs.length
    · obtain ⟨bk, o, x, m, rfl, _, hbk, hx, c0, c1⟩ := (HR.out.below hbw (Nat.le_refl _)).at2 hlt
      have hcx := HCS.out (x, m) (List.mem_of_getElem? hx)
      obtain ⟨⟨hx0', hx1'⟩, hm1, hm2⟩ := hcx
      simp only at hx0' hx1' hm1 hm2
      have hne : bk ≠ wr.heap.size := by omega
      have hbl : bk < wr.heap.size := by omega
      obtain ⟨W2, hW2⟩ : ∃ W2, W2 = wr.alloc (.cells #[.int .i64 x, .int .i64 m] 63) := ⟨_, rfl⟩
      have hmW2 : MapII W2 (w.heap.size + 1) k (sumAt id (cs.take k)) := by
        obtain ⟨D, h1, h2⟩ := hmap
        exact ⟨D, by rw [hW2]; exact h1.alloc _, h2⟩
      have hbW2 : Below wr.heap.size wr W2 := by rw [hW2]; exact (Below.refl _ wr).alloc (Nat.le_refl _) _
      obtain ⟨hput, hpm, hpg⟩ := putW_run hmW2 (by omega) x m (wf_i64 (by omega) (by omega)) (wf_i64 (by omega) (by omega))
      rw [hW2] at hput
      have HREL := Lib.hid (hrel.put (b := b) (A := some ⟨bk, o, none⟩) (c := c) HSO.out hlt hx hbW2 hpm hpg)
      clear hrel hx hmap hmW2 hbW2 hpm hpg
      go_wp2
      go_roundw
      case rel => exact ⟨k + 1, by go_num, by rw [← hW2]; exact HREL.out⟩
      case measure => simp [intOf]; omega
    · have htk : cs.take k = cs := List.take_of_length_le (by omega)
      rw [htk] at hmap
      have HM := Lib.hid (mapII_mono hmap hk)
      clear hrel hmap htk
      go_wp2
      go_ret
      exact ⟨w.heap.size + 1, rfl, by omega, hsz, HM.out, hbw⟩
end Go.Proofs.YtgmbgclhljobaaaDoor
