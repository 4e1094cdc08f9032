import Derived.Test.YtnpfdelklolchaaGreatDoorG22
import Derived.Test.YtnpfdelklolchaaGreatDoorG3
import Derived.Test.YtnpfdelklolchaaGreatDoorG1
import Derived.Test.YtnpfdelklolchaaGreatDoorG21
import Derived.Test.YtnpfdelklolchaaGreatDoorG13
import Derived.Test.YtnpfdelklolchaaGreatDoorG17
/- Binomial weights: plain. -/
namespace Go.Proofs.YtnpfdelklolchaaGreatDoor

/-- the numbers of ways -/
def ch : Nat → Nat → Nat
  | _, 0 => 1
  | 0, _ + 1 => 0
  | n + 1, k + 1 => ch n k + ch n (k + 1)
theorem ch_zero (n : Nat) : ch n 0 = 1 := by cases n <;> rfl
theorem ch_over : ∀ (n k : Nat), n < k → ch n k = 0
  | _, 0, h => absurd h (by omega)
  | 0, _ + 1, _ => rfl
  | n + 1, k + 1, h => by rw [ch, ch_over n k (by omega), ch_over n (k + 1) (by omega)]
/-- from one to the next -/
theorem ch_step : ∀ (n k : Nat), ch n (k + 1) * (k + 1) = ch n k * (n - k)
  | 0, 0 => rfl
  | 0, k + 1 => by simp [ch]
  | n + 1, 0 => by
    have h := ch_step n 0
    have e : ch (n + 1) (0 + 1) = ch n 0 + ch n (0 + 1) := rfl
    rw [ch_zero] at h e
    rw [e, ch_zero]
    omega
  | n + 1, j + 1 => by
    have h1 := ch_step n (j + 1)
    have h2 := ch_step n j
    have e1 : ch (n + 1) (j + 1 + 1) = ch n (j + 1) + ch n (j + 1 + 1) := rfl
    have e2 : ch (n + 1) (j + 1) = ch n j + ch n (j + 1) := rfl
    rw [e1, e2, Nat.add_mul, Nat.add_mul, h1, show n + 1 - (j + 1) = n - j by omega, ← h2]
    rcases Nat.lt_or_ge j n with h | h
    · rw [show n - j = (n - (j + 1)) + 1 by omega, Nat.mul_add (ch n (j + 1)) (j + 1) 1, Nat.mul_add (ch n (j + 1)) (n - (j + 1)) 1]
      omega
    · rw [ch_over n (j + 1) (by omega)]; simp
theorem ch_next (n k : Nat) : ch n k * (n - k) / (k + 1) = ch n (k + 1) := by
  rw [← ch_step, Nat.mul_div_cancel _ (by omega)]
/-- the weight of k successes of n -/
def bw (y q n k : Nat) : Nat := ch n k * (y ^ k * q ^ (n - k))
theorem bw_over {y q n k : Nat} (h : n < k) : bw y q n k = 0 := by unfold bw; rw [ch_over n k h, Nat.zero_mul]
theorem bw_zero (y q n : Nat) : bw y q n 0 = q ^ n := by unfold bw; rw [ch_zero]; simp
theorem bw_first (y q n : Nat) : bw y q (n + 1) 0 = bw y q n 0 * q := by rw [bw_zero, bw_zero, Nat.pow_succ]
theorem bw_succ (y q n k : Nat) : bw y q (n + 1) (k + 1) = bw y q n (k + 1) * q + bw y q n k * y := by
  have e1 : ch (n + 1) (k + 1) = ch n k + ch n (k + 1) := rfl
  unfold bw
  rw [e1, Nat.add_mul, show n + 1 - (k + 1) = n - k by omega]
  have h1 : ch n k * (y ^ (k + 1) * q ^ (n - k)) = ch n k * (y ^ k * q ^ (n - k)) * y := by
    rw [Nat.pow_succ, Nat.mul_assoc (ch n k), Nat.mul_assoc (y ^ k) (q ^ (n - k)) y, Nat.mul_comm (q ^ (n - k)) y, Nat.mul_assoc (y ^ k) y]
  have h2 : ch n (k + 1) * (y ^ (k + 1) * q ^ (n - k)) = ch n (k + 1) * (y ^ (k + 1) * q ^ (n - (k + 1))) * q := by
    rcases Nat.lt_or_ge k n with h | h
    · rw [show n - k = n - (k + 1) + 1 by omega, Nat.pow_succ q, Nat.mul_assoc, Nat.mul_assoc (y ^ (k + 1))]
    · rw [ch_over n (k + 1) (by omega)]; simp
  rw [h1, h2, Nat.add_comm]
/-- the first j weights together -/
def bwS (y q n : Nat) : Nat → Nat
  | 0 => 0
  | j + 1 => bwS y q n j + bw y q n j
theorem bwS_succ (y q n : Nat) : ∀ j, bwS y q (n + 1) (j + 1) = bwS y q n (j + 1) * q + bwS y q n j * y
  | 0 => by simp [bwS, bw_first]
  | j + 1 => by
    have ih := bwS_succ y q n j
    rw [bwS, ih, bw_succ]
    rw [show bwS y q n (j + 1 + 1) = bwS y q n (j + 1) + bw y q n (j + 1) from rfl, Nat.add_mul]
    conv => rhs; rw [show bwS y q n (j + 1) * y = (bwS y q n j + bw y q n j) * y from rfl, Nat.add_mul]
    omega
theorem bwS_over (y q n : Nat) : ∀ d, bwS y q n (n + 1 + d) = bwS y q n (n + 1)
  | 0 => rfl
  | d + 1 => by rw [show n + 1 + (d + 1) = (n + 1 + d) + 1 by omega, bwS, bwS_over y q n d, bw_over (by omega)]; rfl
/-- all weights together are a power -/
theorem bwS_all (y q : Nat) : ∀ n, bwS y q n (n + 1) = (y + q) ^ n
  | 0 => by simp [bwS, bw, ch]
  | n + 1 => by
    rw [bwS_succ, bwS_over y q n 1, bwS_all y q n, Nat.pow_succ, Nat.mul_add, Nat.add_comm]
/-- a row of weights, and the next one -/
def bwL (y q n : Nat) : List Nat := (List.range (n + 1)).map (bw y q n)
theorem bwL_length (y q n : Nat) : (bwL y q n).length = n + 1 := by simp [bwL]
theorem bwL_get (y q n k : Nat) (h : k ≤ n) : (bwL y q n)[k]? = some (bw y q n k) := by
  unfold bwL
  rw [List.getElem?_map, List.getElem?_range (by omega)]
  rfl
end Go.Proofs.YtnpfdelklolchaaGreatDoor

/- Rows of package nat's numbers that are made whole: a block of slices of words. -/
namespace Go.Proofs.YtnpfdelklolchaaGreatDoor
open Go Go.RowKit Go.Proofs

theorem nmCells_get {xs : List Nm} {i : Nat} {y : Nm} (h : xs[i]? = some y) : (nmCells xs)[i]? = some y.v := by unfold nmCells; rw [List.getElem?_map, h]; rfl
theorem nmVals_get {xs : List Nm} {i : Nat} {y : Nm} (h : xs[i]? = some y) : (nmVals xs)[i]? = some y.x := by unfold nmVals; rw [List.getElem?_map, h]; rfl
/-- a block of values -/
def VBlk (w : World) (g : Nat) (e : TypeId) (vs : List Value) : Prop := w.heap[g]? = some (.cells vs.toArray e (0, 0))
section
variable {w w' : World} {g : Nat} {e : TypeId} {vs : List Value} {ns : List Nm}
theorem VBlk.cell (h : VBlk w g e vs) {j : Nat} {u : Value} (hj : vs[j]? = some u) : w.cell? ⟨g, j, none⟩ = some u := by rw [cellsAt h]; simpa using hj
theorem VBlk.frozen (h : VBlk w g e vs) (j : Nat) : w.frozen? ⟨g, j, none⟩ = false := frozenAt h j
theorem VBlk.set (h : VBlk w g e vs) (j : Nat) (u : Value) : VBlk (w.setCell ⟨g, j, none⟩ u) g e (vs.set j u) := by
  unfold VBlk at *
  simp [World.setCell, Array.getElem?_modify, h]
theorem VBlk.on (h : VBlk w g e vs) (hb : Below w.heap.size w w') : VBlk w' g e vs := (hb.block g (heap_lt h)).trans h
/-- a row of numbers of one's own -/
def NRow (w : World) (g : Nat) (e : TypeId) (ns : List Nm) : Prop := VBlk w g e (nmCells ns) ∧ ∀ n ∈ ns, NatR w n.A n.c n.l n.x
theorem NRow.lt (h : NRow w g e ns) : g < w.heap.size := heap_lt h.1
theorem NRow.on (h : NRow w g e ns) (hb : Below w.heap.size w w') : NRow w' g e ns := ⟨h.1.on hb, fun n hn => (h.2 n hn).on hb⟩
/-- a store into such a row leaves a number as it is -/
theorem NatR.setN {A : Option Addr} {c x : Nat} {l : List Nat} (h : NatR w A c l x) (hr : VBlk w g e (nmCells ns)) (i : Nat) (u : Value) : NatR (w.setCell ⟨g, i, none⟩ u) A c l x := by
  have hne : ∀ b o, A = some ⟨b, o, none⟩ → 0 < l.length → b ≠ g := by
    intro b o e hl hb
    subst hb
    obtain ⟨b', o', e', _, hlt, hc⟩ := h.rd.2 hl
    rw [e] at e'
    simp only [Option.some.injEq, Addr.mk.injEq, and_true] at e'
    obtain ⟨rfl, rfl⟩ := e'
    have hu : (u64s l)[0]? = some ((u64s l)[0]'(by rw [u64s_length]; exact hl)) := List.getElem?_eq_getElem _
    have h1 := hc 0 _ hu
    obtain ⟨d, _, hd⟩ := u64s_get hu
    rw [cellsAt hr, hd, List.getElem?_toArray] at h1
    have hm := List.mem_of_getElem? h1
    unfold nmCells at hm
    obtain ⟨y, _, hy⟩ := List.mem_map.1 hm
    cases hy
  refine ⟨⟨h.rd.1, fun hn => ?_⟩, h.norm, h.val, h.cap, h.max, h.nil⟩
  obtain ⟨b, o, e, hl, hb, hc⟩ := h.rd.2 hn
  refine ⟨b, o, e, hl, by simpa [World.setCell] using hb, fun j u hj => ?_⟩
  rw [← hc j u hj]
  exact World.cell?_of_block (Below.heap_setCell _ _ _ _ (hne b o e hn))
theorem NRow.set (h : NRow w g e ns) (i : Nat) (n : Nm) (hn : NatR w n.A n.c n.l n.x) : NRow (w.setCell ⟨g, i, none⟩ n.v) g e (ns.set i n) := by
  refine ⟨?_, fun m hm => ?_⟩
  · have := h.1.set i n.v
    unfold nmCells at *
    rwa [List.map_set]
  · rcases List.mem_or_eq_of_mem_set hm with hm | rfl
    · exact (h.2 m hm).setN h.1 i _
    · exact hn.setN h.1 i _
/-- the row as it is made -/
theorem NRow.zero (w : World) (g n : Nat) (e : TypeId) (h : VBlk w g e (List.replicate n (.slice none 0 0))) (hz : NatR w none 0 [] 0) : NRow w g e (List.replicate n ⟨none, 0, [], 0⟩) := by
  refine ⟨?_, fun m hm => ?_⟩
  · unfold nmCells
    rw [List.map_replicate]
    exact h
  · rw [List.eq_of_mem_replicate hm]; exact hz
theorem NRow.seq (h : NRow w g e ns) : SeqN w (some ⟨g, 0, none⟩) ns.length ns :=
  ⟨⟨by rw [nmCells_length]; omega, fun _ => ⟨g, 0, rfl, Nat.zero_le _, h.lt, fun j u hj => by rw [Nat.zero_add]; exact h.1.cell hj⟩⟩, h.2⟩
theorem rd_take {A : Option Addr} {k j : Nat} (h : Rd w 0 w.heap.size 1 A k (nmCells ns)) (hj : j ≤ k) : Rd w 0 w.heap.size 1 A j (nmCells (ns.take j)) := by
  have hl : ns.length = k := by have := h.1; rw [nmCells_length] at this; omega
  refine ⟨by rw [nmCells_length]; simp; omega, fun hp => ?_⟩
  obtain ⟨b, o, e, h1, h2, h3⟩ := h.2 (by omega)
  refine ⟨b, o, e, h1, h2, fun i u hi => h3 i u ?_⟩
  have : nmCells (ns.take j) = (nmCells ns).take j := by simp [nmCells, List.map_take]
  rw [this] at hi
  rw [List.getElem?_take] at hi
  split at hi
  · exact hi
  · cases hi
theorem rd_drop {b o : Nat} {k j : Nat} (h : Rd w 0 w.heap.size 1 (some ⟨b, o, none⟩) k (nmCells ns)) (hj : j ≤ k) : Rd w 0 w.heap.size 1 (some ⟨b, o + j, none⟩) (k - j) (nmCells (ns.drop j)) := by
  have hl : ns.length = k := by have := h.1; rw [nmCells_length] at this; omega
  refine ⟨by rw [nmCells_length]; simp; omega, fun hp => ?_⟩
  obtain ⟨b', o', e, h1, h2, h3⟩ := h.2 (by omega)
  simp only [Option.some.injEq, Addr.mk.injEq, and_true] at e
  obtain ⟨rfl, rfl⟩ := e
  refine ⟨b, o + j, rfl, h1, h2, fun i u hi => ?_⟩
  have : nmCells (ns.drop j) = (nmCells ns).drop j := by simp [nmCells, List.map_drop]
  rw [this, List.getElem?_drop] at hi
  rw [Nat.add_assoc]
  exact h3 (j + i) u hi
theorem SeqN.take {A : Option Addr} {k j : Nat} (h : SeqN w A k ns) (hj : j ≤ k) : SeqN w A j (ns.take j) := ⟨rd_take h.1 hj, fun n hn => h.2 n (List.mem_of_mem_take hn)⟩
theorem SeqR.take {A : Option Addr} {k j : Nat} (h : SeqR w A k ns) (hj : j ≤ k) : SeqR w A j (ns.take j) := ⟨rd_take h.1 hj, fun n hn => h.2 n (List.mem_of_mem_take hn)⟩
theorem SeqR.drop {b o : Nat} {k j : Nat} (h : SeqR w (some ⟨b, o, none⟩) k ns) (hj : j ≤ k) : SeqR w (some ⟨b, o + j, none⟩) (k - j) (ns.drop j) := ⟨rd_drop h.1 hj, fun n hn => h.2 n (List.mem_of_mem_drop hn)⟩
end
/-- weights are at most all of them together -/
theorem bwS_mono (y q n : Nat) : ∀ {j k : Nat}, j ≤ k → bwS y q n j ≤ bwS y q n k := by
  intro j k h
  induction k with
  | zero => rw [show j = 0 by omega]; exact Nat.le_refl _
  | succ k ih =>
    rcases Nat.lt_or_ge k j with h1 | h1
    · rw [show j = k + 1 by omega]; exact Nat.le_refl _
    · exact Nat.le_trans (ih h1) (Nat.le_add_right _ _)
theorem bwS_le (y q n j : Nat) (h : j ≤ n + 1) : bwS y q n j ≤ (y + q) ^ n := by rw [← bwS_all]; exact bwS_mono y q n h
theorem bw_le (y q n k : Nat) (h : k ≤ n) : bw y q n k ≤ (y + q) ^ n :=
  Nat.le_trans (Nat.le_add_left _ _) (bwS_le y q n (k + 1) (by omega))
theorem ch_le (n k : Nat) (h : k ≤ n) : ch n k ≤ 2 ^ n := by
  have := bw_le 1 1 n k h
  unfold bw at this
  simpa using this
theorem pow_small {d n B K : Nat} (hd : d ≤ B ^ K) (hB : 1 < B) : d ^ n < B ^ (K * n + 1) :=
  calc d ^ n ≤ (B ^ K) ^ n := Nat.pow_le_pow_left hd n
    _ = B ^ (K * n) := (Nat.pow_mul ..).symm
    _ < B ^ (K * n + 1) := Nat.pow_lt_pow_right hB (by omega)
end Go.Proofs.YtnpfdelklolchaaGreatDoor

/- Binomial and Interval of package judge: plain. -/
namespace Go.Proofs.YtnpfdelklolchaaGreatDoor
open Go

/-- the numerator of the probability of at most k of n successes -/
def binS (n : Nat) (k : Int) (q : Rat) : Nat := bwS (frN q) (q.den - frN q) n (min (k + 1) ((n : Int) + 1)).toNat
def binQ (n : Nat) (k : Int) (q : Rat) : Rat := mkRat (binS n k q : Nat) (q.den ^ n)
theorem binQ_neg {n : Nat} {k : Int} {q : Rat} (h : k < 0) : binQ n k q = 0 := by
  unfold binQ binS
  rw [show (min (k + 1) ((n : Int) + 1)).toNat = 0 by omega]
  exact low_zero false _
theorem binQ_all {n : Nat} {k : Int} {q : Rat} (h : (n : Int) ≤ k) (hq : frN q ≤ q.den) : binQ n k q = 1 := by
  unfold binQ binS
  rw [show (min (k + 1) ((n : Int) + 1)).toNat = n + 1 by omega, bwS_all, show frN q + (q.den - frN q) = q.den by omega]
  have h0 : 0 < q.den ^ n := Nat.pow_pos (fr_den q)
  rw [Rat.mkRat_eq_div, Rat.div_def]
  exact Rat.mul_inv_cancel _ (by
    intro hc
    have : q.den ^ n = 0 := by exact_mod_cast hc
    omega)
theorem binS_mid {n : Nat} {k : Nat} {q : Rat} (h : k < n) : binS n (k : Int) q = bwS (frN q) (q.den - frN q) n (k + 1) := by
  unfold binS
  rw [show (min ((k : Int) + 1) ((n : Int) + 1)).toNat = k + 1 by omega]
/-- the code, and the value -/
def binC (n : Int) (a b : List UInt8) : Int := if n < 0 ∨ 200 < n then 9 else shC .share a b
def binV (n k : Int) (a b : List UInt8) : List UInt8 × List UInt8 := if binC n a b = 0 then rtT (binQ n.toNat k (ratX a b)) else ([], [])
def binE (n k : Int) (a b : List UInt8) : Int := if binC n a b = 0 then rtC (binQ n.toNat k (ratX a b)) else binC n a b

end Go.Proofs.YtnpfdelklolchaaGreatDoor

/- Package dynamometerref10: result, sum, half. -/
namespace Go.Proofs.YtnpfdelklolchaaGreatDoor
open Go Go.RowKit Go.Proofs

theorem fit_int (q : Rat) : (decide (((ratQ q).1.length : Int) ≤ 2000) && decide (((ratQ q).2.length : Int) ≤ 2000)) = fitQ q := by
  unfold fitQ
  rw [decide_eq_decide.2 (show (((ratQ q).1.length : Int) ≤ 2000) ↔ (ratQ q).1.length ≤ 2000 by omega), decide_eq_decide.2 (show (((ratQ q).2.length : Int) ≤ 2000) ↔ (ratQ q).2.length ≤ 2000 by omega)]
theorem rRatioT_any (u : Value) (q : Rat) (w : World) (hq : FracR w u q) (hz : Sz 100000 q) (htab : Tab w.heap.size w) :
    Calls Tryz.prog 9 #[u, .int .i64 2000] w fun e w' => e = .returned (.tuple #[ratOf (txtQ q), .bool (fitQ q)]) ∧ Below w.heap.size w w' := by
  cases hs : frS q with
  | false =>
    have := rRatioF_any u q 2000 w hq hs hz htab
    rw [fit_int] at this
    unfold txtQ
    rw [hs, if_neg (by decide)]
    exact this
  | true =>
    have := rRatioN_any u q 2000 w hq hs hz htab
    rw [fit_int] at this
    unfold txtQ
    rw [hs, if_pos rfl]
    exact this
set_option maxHeartbeats 2000000 in
set_option maxRecDepth 100000 in
theorem rResult_any (u : Value) (q : Rat) (w : World) (hq : FracR w u q) (hz : Sz 100000 q) (htab : Tab w.heap.size w) :
    Calls Tryz.prog 52 #[u] w fun e w' => e = .returned (.tuple #[ratOf (rtT q), .int .i64 (rtC q)]) ∧ Below w.heap.size w w' := by
  have HR := Lib.hid (fun W (hb : Below w.heap.size w W) => rRatioT_any u q W (hq.on hb) hz ((htab.on hb).mono hb.size))
  obtain ⟨A1, c1, l1, A2, c2, l2, rfl, _, _⟩ := hq
  obtain ⟨S1, hS1⟩ : ∃ S : ByteArray, S = ⟨(txtQ q).1.toArray⟩ := ⟨_, rfl⟩
  obtain ⟨S2, hS2⟩ : ∃ S : ByteArray, S = ⟨(txtQ q).2.toArray⟩ := ⟨_, rfl⟩
  have hrt : ratOf (txtQ q) = .agg #[.string S1, .string S2] := by rw [hS1, hS2]; rfl
  rw [hrt] at HR
  obtain ⟨fb, hfb⟩ : ∃ fb, fb = fitQ q := ⟨_, rfl⟩
  rw [← hfb] at HR
  obtain ⟨sg, hsg⟩ : ∃ s, s = frS q := ⟨_, rfl⟩
  rw [← hsg] at HR ⊢
  obtain ⟨W0, hW0⟩ : ∃ W0, W0 = (w.alloc (.cells #[.bool sg, .slice A1 l1.length c1, .slice A2 l2.length c2] 31)).alloc (.cells #[.string ⟨#[]⟩, .string ⟨#[]⟩] 24) := ⟨_, rfl⟩
  have HST0 := Lib.hid (show St w W0 [(w.heap.size, .cells #[.bool sg, .slice A1 l1.length c1, .slice A2 l2.length c2] 31 (0, 0)), (w.heap.size + 1, .cells #[.string ⟨#[]⟩, .string ⟨#[]⟩] 24 (0, 0))] by rw [hW0]; exact ((St.start w).alloc _ _ rfl).alloc _ _ (by simp))
  have g0 := HST0.out.cell 0 0 rfl rfl
  have g1 := HST0.out.cell 0 1 rfl rfl
  have g2 := HST0.out.cell 0 2 rfl rfl
  have HV := Lib.hid (show rtT q = if fb = true then txtQ q else ([], []) by rw [hfb]; rfl)
  have HC := Lib.hid (show rtC q = if fb = true then 0 else 3 by rw [hfb]; rfl)
  have HRT := Lib.hid hrt
  clear hrt hS1 hS2 hfb hsg hz htab
  go_enter Tryz.func52, Tryz.ntmps52
  go_wp2_with fail
  rw [← hW0]
  clear hW0
  go_wp2_with fail
  (with_reducible refine (HR.out _ HST0.out.below).mono ?_)
  rintro e w1 ⟨rfl, hb1⟩
  have hST1 := HST0.out.call hb1
  have hST2 := hST1.alloc (.cells #[.string S1, .string S2] 24) w1.heap.size rfl
  have r0 := hST2.cell 1 0 rfl rfl
  have r1 := hST2.cell 1 1 rfl rfl
  have z0 := hST2.frozen 1 0 rfl
  have z1 := hST2.frozen 1 1 rfl
  have k0 := hST2.cell 2 0 rfl rfl
  have k1 := hST2.cell 2 1 rfl rfl
  have hl2 := hST2.lt 1 rfl
  have HFIN := Lib.hid (fun a b => (hST2.below.setCell (p := ⟨w.heap.size + 1, 0, none⟩) (by simp) a).setCell (p := ⟨w.heap.size + 1, 1, none⟩) (by simp) b)
  clear hb1 hST1 hST2 g0 g1 g2
  cases fb with
  | false =>
    go_wp2
    refine bodyPost_ret (v := .tuple #[.agg #[.string ⟨#[]⟩, .string ⟨#[]⟩], .int .i64 3]) (by simp [results, Tryz.results52, go_sem, r0, r1, hl2]) rfl ⟨by rw [HC.out, HV.out]; rfl, HFIN.out _ _⟩
  | true =>
    go_wp2
    refine bodyPost_ret (v := .tuple #[.agg #[.string S1, .string S2], .int .i64 0]) (by simp [results, Tryz.results52, go_sem, r0, r1, hl2]) rfl ⟨by rw [HC.out, HV.out]; simp only [if_true, HRT.out], HFIN.out _ _⟩
theorem cmp_le (x y : Nat) : decide (cmpN x y ≤ 0) = decide (x ≤ y) := by
  unfold cmpN
  rw [decide_eq_decide]
  split
  · constructor
    · intro _; omega
    · intro _; decide
  · split
    · constructor
      · intro _; omega
      · intro _; decide
    · constructor
      · intro h; exact absurd h (by decide)
      · intro h; omega
end Go.Proofs.YtnpfdelklolchaaGreatDoor

/- Package judge: positive, share, between. -/
namespace Go.Proofs.YtnpfdelklolchaaGreatDoor
open Go Go.RowKit Go.Proofs

/-- what a range's test says of sign, numerator, denominator -/
def inJ : Rg → Bool → Nat → Nat → Bool
  | .share, b, x, y => !b && decide (x ≤ y)
  | .between, b, x, y => !b && decide (0 < x) && decide (x < y)
  | .positive, b, x, _ => !b && decide (0 < x)
theorem inJ_eq (k : Rg) (q : Rat) : inJ k (frS q) (frN q) q.den = inQ k q := by cases k <;> rfl
set_option maxHeartbeats 8000000 in
set_option maxRecDepth 100000 in
theorem jShare_any (u : Value) (b : Bool) (x y n : Nat) (w : World) (h : JF w u b x y) (hx : x < W64 ^ n) (hy : y < W64 ^ n) (hn : n ≤ 900000) :
    Calls Tryz.prog 83 #[u] w fun e w' => e = .returned (.bool (inJ .share b x y)) ∧ Below w.heap.size w w' := by
  obtain ⟨A1, c1, l1, A2, c2, l2, rfl, h1, h2⟩ := h
  have hl1 := h1.len hx
  have hl2 := h2.len hy
  obtain ⟨W0, hW0⟩ : ∃ W0, W0 = w.alloc (.cells #[.bool b, .slice A1 l1.length c1, .slice A2 l2.length c2] 73) := ⟨_, rfl⟩
  have HST0 := Lib.hid (show St w W0 [(w.heap.size, .cells #[.bool b, .slice A1 l1.length c1, .slice A2 l2.length c2] 73 (0, 0))] by rw [hW0]; exact (St.start w).alloc _ _ rfl)
  have HC := Lib.hid (natCmp_any A1 A2 c1 c2 l1 l2 x y W0 (h1.on HST0.out.below) (h2.on HST0.out.below) (by omega) (by omega))
  obtain ⟨cv, hcv⟩ : ∃ cv, cv = cmpN x y := ⟨_, rfl⟩
  rw [← hcv] at HC
  obtain ⟨zb, hzb⟩ : ∃ zb, zb = decide (x ≤ y) := ⟨_, rfl⟩
  have tc : decide (cv ≤ 0) = zb := by rw [hcv, hzb, cmp_le]
  have HV := Lib.hid (show inJ .share b x y = (!b && zb) by unfold inJ; rw [hzb])
  rw [HV.out]
  have g0 := HST0.out.cell 0 0 rfl rfl
  have g1 := HST0.out.cell 0 1 rfl rfl
  have g2 := HST0.out.cell 0 2 rfl rfl
  clear h1 h2 hx hy hzb HV hcv
  cases b with
  | true =>
    go_enter Tryz.func83, Tryz.ntmps83
    go_wp2_with fail
    rw [← hW0]
    clear hW0
    go_wp2
    go_ret
    exact ⟨by rfl, HST0.out.below⟩
  | false =>
    go_enter Tryz.func83, Tryz.ntmps83
    go_wp2_with fail
    rw [← hW0]
    clear hW0
    go_wp2_with fail
    (with_reducible refine (HC.out).mono ?_)
    rintro e w1 ⟨rfl, q, rfl⟩
    go_wp2
    go_ret
    exact ⟨by rfl, below_drewN HST0.out.below q⟩
end Go.Proofs.YtnpfdelklolchaaGreatDoor
