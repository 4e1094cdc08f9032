import Derived.Test.YtjkoppdddaknlaaGreatDoorRows
import Derived.Test.YtjkoppdddaknlaaGreatDoorBuckMath
import Derived.Test.YtjkoppdddaknlaaGreatDoorShelf
import Derived.Handy
import Derived.WalkSpells
import Derived.WalkLawsBesides
import Derived.Deep.QuietTactic
import Derived.BigQuiet
import Derived.Lib.Hide
import Derived.Test.YtjkoppdddaknlaaGreatDoorG4
/- The walks of the functions on buckets. -/
namespace Go.Proofs.YtjkoppdddaknlaaGreatDoor
open Go.RowKit

set_option maxHeartbeats 400000 in
theorem bucket_lo (b v : Int) (w : World) (hb : 2 ≤ b) (hb' : b ≤ 8) (_hv : 0 ≤ v) (hlt : v < 2 * hB b) :
    Calls Tryz.prog 45 #[.int .i64 b, .int .i64 v] w fun e w' => e = .returned (.int .i64 v) ∧ w = w' := by
  have hM := hB_two b hb
  obtain ⟨hH1, hH2⟩ := hB_bd b hb hb'
  generalize hB b = H at *
  go_enter Tryz.func45, Tryz.ntmps45
  go_wp2
  go_ret
  exact ⟨rfl, rfl⟩

set_option maxHeartbeats 400000 in
theorem bucket_hi (b v : Int) (w : World) (hb : 2 ≤ b) (hb' : b ≤ 8) (hv : v < 1125899906842624) (hlt : 2 * hB b ≤ v) :
    Calls Tryz.prog 45 #[.int .i64 b, .int .i64 v] w fun e w' => e = .returned (.int .i64 (bkt b v)) ∧ ∃ n, w' = w.drewN n := by
  have hM := hB_two b hb
  have hH : (2 : Int) ^ (b.toNat - 1) = hB b := rfl
  obtain ⟨hH1, hH2⟩ := hB_bd b hb hb'
  obtain ⟨k1, k2, k3, k4, k5, k6, hfin⟩ := bkt_words b v hb hb' hv hlt
  have Hfin := Lib.hid hfin
  clear hfin
  generalize hB b = H at *
  go_enter Tryz.func45, Tryz.ntmps45
  go_wp2_with (go_at_call 43; refine (Tryz.bits_Len _ _ (by omega) (by omega)).mono ?_; rintro e w' ⟨rfl, rfl⟩)
  go_quiet (fail)
  go_wp2
  go_ret
  refine ⟨?_, _, rfl⟩
  rw [Hfin.out]; rfl

theorem bucket_any (b v : Int) (w : World) (hb : 2 ≤ b) (hb' : b ≤ 8) (hv0 : 0 ≤ v) (hv : v < 1125899906842624) :
    Calls Tryz.prog 45 #[.int .i64 b, .int .i64 v] w fun e w' => e = .returned (.int .i64 (bkt b v)) ∧ ∃ n, w' = w.drewN n := by
  by_cases h : v < 2 * hB b
  · refine (bucket_lo b v w hb hb' hv0 h).mono ?_
    rintro e w' ⟨rfl, rfl⟩
    exact ⟨by unfold bkt; rw [if_pos h], 0, rfl⟩
  · exact bucket_hi b v w hb hb' hv (by omega)

/-- a number of bits -/
def fineB (b : Int) : Bool := decide (2 ≤ b) && decide (b ≤ 8)

theorem bitsForm_any (b : Int) (w : World) :
    Calls Tryz.prog 78 #[.int .i64 b] w fun e w' => e = .returned (.bool (fineB b)) ∧ w = w' := by
  by_cases h1 : 2 ≤ b
  · by_cases h2 : b ≤ 8
    · go_enter Tryz.func78, Tryz.ntmps78
      go_wp2
      go_ret
      exact ⟨by simp [fineB, h1, h2], rfl⟩
    · go_enter Tryz.func78, Tryz.ntmps78
      go_wp2
      go_ret
      exact ⟨by simp [fineB, h1, h2], rfl⟩
  · have h1' : decide (2 ≤ b) = false := by simpa using h1
    go_enter Tryz.func78, Tryz.ntmps78
    go_wp2
    go_ret
    exact ⟨by unfold fineB; rw [h1']; rfl, rfl⟩

/-- a value -/
def fineV (v : Int) : Bool := decide (0 ≤ v) && decide (v ≤ 1125899906842623)


end Go.Proofs.YtjkoppdddaknlaaGreatDoor

/- slices.Insert of one element into a row of the call's own; (*sorted[int]).put. -/
namespace Go.Proofs.YtjkoppdddaknlaaGreatDoor
open Go Go.RowKit Go.Proofs

/-- slices.Insert of one value into a row of the call's own. -/
theorem insert_own (base n i vb : Nat) (v u : Value) (cs : List Value) (w : World) (hown : w.ownsRow base 3 1 v n cs) (hi : i ≤ n) (hn : n < 1000000000)
    (hvb : w.heap[vb]? = some (.cells #[u] 3 (0, 0))) (hne : v.ownBlock ≠ some vb) (h1 : ∀ x ∈ cs, x.oneCell' = true) (hu : u.oneCell' = true) (hbase : base ≤ w.heap.size) :
    Calls Tryz.prog 87 #[v, .int .i64 i, .slice (some ⟨vb, 0, none⟩) 1 1] w fun e w' =>
      ∃ v', e = .returned v' ∧ w'.ownsRow base 3 1 v' (n + 1) (cs.take i ++ u :: cs.drop i) ∧ Fr (fun k => some k = v.ownBlock) w w' ∧ (v'.ownBlock = v.ownBlock ∨ v'.ownBlock = some w.heap.size) := by
  have hcl := hown.1
  rw [Nat.mul_one] at hcl
  have hvs : ∀ j x, [u][j]? = some x → w.cell? ⟨vb, 0 + j, none⟩ = some x := by
    intro j x hx
    rcases j with _ | j
    · simp at hx; subst hx; simp [World.cell?, hvb]
    · simp at hx
  have h1v : ∀ x ∈ [u], x.oneCell' = true := by simpa using hu
  have grow : ∀ (c : Nat) (l : List Value), n ≤ c → c < n + 1 → l.length = n + 1 → ∀ w' : World, w'.heap[w.heap.size]? = some (.cells (l.toArray ++ Builtin.zeroCells (Value.int .i64 0).cells (grownCap w (n + 1) c 3 - (n + 1))) 3 (0, 0)) →
      w'.ownsRow base 3 1 (.slice (some ⟨w.heap.size, 0, none⟩) (n + 1) (grownCap w (n + 1) c 3)) (n + 1) l := by
    intro c l h0 h2 hl w' hw'
    have hg := grownCap_ge w (n + 1) c 3
    refine ⟨by omega, .inr ⟨w.heap.size, _, _, rfl, hbase, hw', hg, grownCap_le_maxLen _ _ _ _ (by unfold maxLen; omega), ?_, ?_⟩⟩
    · simp [Builtin.zeroCells, hl, Value.cells]; omega
    · simp only [Nat.mul_one, Array.toList_append, List.take_append, hl, Nat.sub_self, List.take_zero, List.append_nil]
      exact List.take_of_length_le (by omega)
  rcases hown.2 with ⟨rfl, rfl⟩ | ⟨g, cap, cur, rfl, hb, hh, hnc, hcm, hsz, htk⟩
  · obtain rfl : i = 0 := by omega
    obtain rfl : cs = [] := List.eq_nil_of_length_eq_zero hcl
    refine (Any2.slices_Insert_int_end_grow Tryz.laysInsI none 0 0 vb 0 1 1 [] [u] w (by omega) (by omega) (by omega) (by omega) rfl rfl (fun _ => rfl) (fun a ha => by cases ha) hvs h1v).mono ?_
    rintro e w' ⟨rfl, rfl⟩
    refine ⟨_, rfl, grow 0 [u] (by omega) (by omega) rfl _ ?_, ((Fr.refl _ w).drew).alloc _, .inr rfl⟩
    exact heap_alloc_new w.drew _
  · rw [Nat.mul_one] at hsz htk
    have hlt := heap_lt hh
    have hcell : ∀ j x, cs[j]? = some x → w.cell? ⟨g, 0 + j, none⟩ = some x := by
      intro j x hx
      rw [Nat.zero_add, cellsAt hh]
      rw [← htk, List.getElem?_take] at hx
      split at hx
      · simpa using hx
      · cases hx
    have hvg : vb ≠ g := by rintro rfl; exact hne rfl
    by_cases hroom : n + 1 ≤ cap
    · by_cases hin : i = n
      · subst hin
        refine (Any2.slices_Insert_int_end_room Tryz.laysInsI g 0 i cap vb 0 1 1 [u] w (by omega) hroom hcm rfl (fun j hj => ?_) (fun j hj => frozenAt hh _) hvs h1v).mono ?_
        · rw [cellsAt hh]; simp; omega
        rintro e w' ⟨rfl, rfl⟩
        obtain ⟨cs', q1, q2⟩ := setCells_block g 3 (0, 0) [u] (0 + i) w cur hh (by simp; omega)
        refine ⟨_, rfl, ⟨by simp; omega, .inr ⟨g, cap, cs', rfl, hb, q1, hroom, hcm, ?_, ?_⟩⟩, fr_setCells (Fr.refl (fun k => some k = some g) w) g (fun _ => rfl) _ _, .inl rfl⟩
        · have := congrArg List.length q2
          simp at this; rw [this]; omega
        · rw [q2, Nat.zero_add, htk, List.take_of_length_le (l := cs) (by omega), List.drop_of_length_le (l := cs) (by omega)]
          rw [List.take_append_of_le_length (by simp; omega), List.take_of_length_le (by simp; omega)]
      · refine (Any2.slices_Insert_int_shift Tryz.laysInsI g 0 n cap i vb 0 1 1 cs [u] w (by omega) (by omega) hroom hcm hvg hcl rfl hcell (fun j hj => ?_) (fun j hj => frozenAt hh _) hvs h1 h1v 3 3 1 cur.size (by simp [World.shape?, hvb]) (by simp [World.shape?, hh]) (by omega) (frozenAt hvb _) (frozenAt hvb _)).mono ?_
        · rw [cellsAt hh]; simp; omega
        rintro e w' ⟨rfl, rfl⟩
        obtain ⟨c1, q1, q2⟩ := setCells_block g 3 (0, 0) (cs.drop i) (0 + (i + 1)) w.drew cur hh (by simp; omega)
        have z1 : c1.size = cur.size := by
          have := congrArg List.length q2
          simp at this; rw [this]; omega
        obtain ⟨c2, q3, q4⟩ := setCells_block g 3 (0, 0) [u] (0 + i) _ c1 q1 (by simp; omega)
        have z2 : c2.size = cur.size := by
          have := congrArg List.length q4
          simp at this; rw [this]; omega
        refine ⟨_, rfl, ⟨by simp; omega, .inr ⟨g, cap, c2, rfl, hb, q3, hroom, hcm, by omega, ?_⟩⟩, fr_setCells (fr_setCells ((Fr.refl (fun k => some k = some g) w).drew) g (fun _ => rfl) _ _) g (fun _ => rfl) _ _, .inl rfl⟩
        have ht1 : cur.toList.take (i + 1) = cs.take (i + 1) := by rw [← htk, List.take_take, Nat.min_eq_left (by omega)]
        rw [q4, q2]
        simp only [Nat.zero_add, Nat.mul_one, ht1, List.length_cons, List.length_nil]
        have a1 : List.take i (List.take (i + 1) cs ++ List.drop i cs ++ List.drop (i + 1 + (List.drop i cs).length) cur.toList) = cs.take i := by
          rw [List.append_assoc, List.take_append_of_le_length (by simp; omega), List.take_take, Nat.min_eq_left (by omega)]
        have a2 : List.drop (i + 1) (List.take (i + 1) cs ++ List.drop i cs ++ List.drop (i + 1 + (List.drop i cs).length) cur.toList) = List.drop i cs ++ List.drop (i + 1 + (List.drop i cs).length) cur.toList := by
          rw [List.append_assoc, List.drop_append_of_le_length (by simp; omega), List.drop_of_length_le (by simp; omega), List.nil_append]
        rw [a1, a2, ← List.append_assoc, List.take_append_of_le_length (by simp; omega), List.take_of_length_le (by simp; omega)]
        simp
    · have hcn : cap = n := by omega
      subst hcn
      by_cases hin : i = cap
      · subst hin
        refine (Any2.slices_Insert_int_end_grow Tryz.laysInsI (some ⟨g, 0, none⟩) i i vb 0 1 1 cs [u] w (by omega) (by omega) (by omega) (by omega) hcl rfl (fun h => by cases h) (fun a ha j x hx => by cases ha; have := hcell j x hx; simpa [Addr.add_lit] using this) hvs h1v).mono ?_
        rintro e w' ⟨rfl, rfl⟩
        refine ⟨_, rfl, ?_, ((Fr.refl _ w).drew).alloc _, .inr rfl⟩
        rw [List.take_of_length_le (l := cs) (by omega), List.drop_of_length_le (l := cs) (by omega)]
        exact grow i (cs ++ [u]) (by omega) (by omega) (by simp; omega) _ (heap_alloc_new w.drew _)
      · refine (Any2.slices_Insert_int_grow Tryz.laysInsI g 0 cap cap i vb 0 1 1 cs [u] w (by omega) (by omega) (by omega) (by omega) (by omega) hcl rfl hcell hvs h1 h1v).mono ?_
        rintro e w' ⟨rfl, rfl⟩
        generalize hX : ((cs.take i).toArray ++ Builtin.zeroCells (Value.int .i64 0).cells (cap + 1 - i) ++ Builtin.zeroCells (Value.int .i64 0).cells (grownCap w (cap + 1) cap (Tryz.laysInsI_ren.t 3) - (cap + 1))) = X
        have hge : cap + 1 ≤ grownCap w (cap + 1) cap (Tryz.laysInsI_ren.t 3) := grownCap_ge _ _ _ _
        have hXs : X.size = grownCap w (cap + 1) cap (Tryz.laysInsI_ren.t 3) := by
          rw [← hX]; simp [Builtin.zeroCells, Value.cells]; omega
        have hXt : X.toList.take i = cs.take i := by
          rw [← hX]
          simp only [Array.toList_append, List.append_assoc]
          rw [List.take_append_of_le_length (by simp; omega), List.take_of_length_le (by simp; exact Nat.min_le_left _ _)]
        have hfr : Fr (fun k => some k = some g) w ((w.alloc (.cells X 3)).drew) := (((Fr.refl _ w)).alloc _).drew
        have q0 : ((w.alloc (.cells X 3)).drew).heap[w.heap.size]? = some (.cells X 3 (0, 0)) := heap_alloc_new w _
        have hms : ∀ k : Nat, (w.heap.size < w.heap.size → (fun k => some k = some g) w.heap.size) := fun _ h => absurd h (Nat.lt_irrefl _)
        obtain ⟨c1, q1, q2⟩ := setCells_block w.heap.size 3 (0, 0) [u] i _ X q0 (by simp; omega)
        have z1 : c1.size = X.size := by
          have := congrArg List.length q2
          simp at this; rw [this]; omega
        obtain ⟨c2, q3, q4⟩ := setCells_block w.heap.size 3 (0, 0) (cs.drop i) (i + 1) ((((w.alloc (.cells X 3)).drew).setCells w.heap.size i [u]).drew) c1 q1 (by simp; omega)
        have z2 : c2.size = X.size := by
          have := congrArg List.length q4
          simp at this; rw [this]; omega
        refine ⟨_, rfl, ⟨by simp; omega, .inr ⟨w.heap.size, _, c2, rfl, hbase, q3, hge, grownCap_le_maxLen _ _ _ _ (by unfold maxLen; omega), by omega, ?_⟩⟩, fr_setCells (fr_setCells hfr w.heap.size (hms 0) _ _).drew w.heap.size (hms 0) _ _, .inr rfl⟩
        rw [q4, q2, hXt]
        have a1 : List.take (i + 1) (List.take i cs ++ [u] ++ List.drop (i + [u].length) X.toList) = cs.take i ++ [u] := by
          rw [List.take_append_of_le_length (by simp; omega), List.take_of_length_le (by simp; exact Nat.min_le_left _ _)]
        rw [a1, Nat.mul_one, List.take_append_of_le_length (by simp; omega), List.take_of_length_le (by simp; omega)]
        simp

/-- an element put at its place -/
def insAt (zs : List Int) (x : Int) : List Int := zs.take (zs.countP (· < x)) ++ x :: zs.drop (zs.countP (· < x))
theorem insAt_mem (zs : List Int) (x y : Int) : y ∈ insAt zs x ↔ y = x ∨ y ∈ zs := by
  unfold insAt
  have h := List.take_append_drop (zs.countP (· < x)) zs
  constructor
  · intro hy
    simp only [List.mem_append, List.mem_cons] at hy
    rcases hy with hy | rfl | hy
    · exact .inr (List.mem_of_mem_take hy)
    · exact .inl rfl
    · exact .inr (List.mem_of_mem_drop hy)
  · rintro (rfl | hy)
    · simp
    · rw [← h, List.mem_append] at hy
      simp only [List.mem_append, List.mem_cons]
      rcases hy with hy | hy
      · exact .inl hy
      · exact .inr (.inr hy)
theorem insAt_length (zs : List Int) (x : Int) : (insAt zs x).length = zs.length + 1 := by
  unfold insAt
  have := List.countP_le_length (p := (· < x)) (l := zs)
  simp; omega
theorem countP_sorted : ∀ (zs : List Int) (x : Int), zs.Pairwise (· < ·) → (∀ y ∈ zs.take (zs.countP (· < x)), y < x) ∧ (∀ y ∈ zs.drop (zs.countP (· < x)), x ≤ y)
  | [], x, _ => by simp
  | z :: zs, x, h => by
    rw [List.pairwise_cons] at h
    obtain ⟨h1, h2⟩ := countP_sorted zs x h.2
    by_cases hz : z < x
    · rw [List.countP_cons_of_pos (by simpa using hz)]
      simp only [List.take_succ_cons, List.mem_cons, List.drop_succ_cons]
      exact ⟨fun y hy => by rcases hy with rfl | hy; exact hz; exact h1 y hy, h2⟩
    · have : (z :: zs).countP (· < x) = 0 := by
        rw [List.countP_eq_zero]
        intro y hy
        simp only [List.mem_cons] at hy
        rcases hy with rfl | hy
        · simpa using hz
        · have := h.1 y hy; simp; omega
      rw [this]
      simp only [List.take_zero, List.not_mem_nil, false_implies, implies_true, List.drop_zero, List.mem_cons, true_and]
      rintro y (rfl | hy)
      · omega
      · have := h.1 y hy; omega
theorem insAt_sorted (zs : List Int) (x : Int) (h : zs.Pairwise (· < ·)) (hx : x ∉ zs) : (insAt zs x).Pairwise (· < ·) := by
  obtain ⟨h1, h2⟩ := countP_sorted zs x h
  have hs := h
  rw [← List.take_append_drop (zs.countP (· < x)) zs, List.pairwise_append] at hs
  unfold insAt
  rw [List.pairwise_append]
  refine ⟨hs.1, ?_, ?_⟩
  · rw [List.pairwise_cons]
    refine ⟨fun y hy => ?_, hs.2.1⟩
    have := h2 y hy
    have : y ≠ x := fun e => hx (e ▸ List.mem_of_mem_drop hy)
    omega
  · intro a ha c hc
    have := h1 a ha
    simp only [List.mem_cons] at hc
    rcases hc with rfl | hc
    · exact this
    · exact hs.2.2 a ha c hc

theorem ints_one (zs : List Int) : ∀ x ∈ ints zs, x.oneCell' = true := by
  intro x hx
  simp only [ints, List.mem_map] at hx
  obtain ⟨z, _, rfl⟩ := hx
  rfl

set_option maxHeartbeats 1000000 in
theorem put_any (L base n : Nat) (v : Value) (zs : List Int) (x : Int) (w : World) (hL : w.heap[L]? = some (.cells #[v] 113 (0, 0))) (hLb : L < base) (hbase : base ≤ w.heap.size)
    (hown : w.ownsRow base 3 1 v n (ints zs)) (hs : zs.Pairwise (· < ·)) (hn : n < 1000000000) :
    Calls Tryz.prog 64 #[.pointer (some ⟨L, 0, none⟩), .int .i64 x] w fun e w' => e = .returned (.tuple #[]) ∧
      ∃ v', w'.heap[L]? = some (.cells #[v'] 113 (0, 0)) ∧ w'.ownsRow base 3 1 v' (n + 1) (ints (insAt zs x)) ∧ Fr (fun i => i = L ∨ base ≤ i) w w' := by
  have hLt := heap_lt hL
  have hcell : w.cell? ⟨L, 0, none⟩ = some v := by rw [cellsAt hL]; rfl
  have hfz : w.frozen? ⟨L, 0, none⟩ = false := frozenAt hL 0
  have hlen : zs.length = n := by have := hown.1; simpa [ints] using this
  have hsearch : Calls Tryz.prog 86 #[v, .int .i64 x] w fun e w' => e = .returned (.tuple #[.int .i64 (zs.countP (· < x) : Nat), .bool (zs.contains x)]) ∧ ∃ q, w' = w.drewN q := by
    rcases hown.2 with ⟨rfl, rfl⟩ | ⟨g, cap, cur, rfl, hb, hh, hnc, hcm, hsz, htk⟩
    · obtain rfl : zs = [] := List.eq_nil_of_length_eq_zero hlen
      refine (Tryz.slices_BinarySearch_int_empty none 0 x w).mono ?_
      rintro e w' ⟨rfl, rfl⟩
      exact ⟨rfl, 0, rfl⟩
    · refine (Tryz.slices_BinarySearch_int g 0 n cap zs x w (by omega) (by omega) (fun j hj => ?_) ?_).mono ?_
      · rw [Nat.zero_add, cellsAt hh]
        have hj' : (ints zs)[j]? = some (.int .i64 (zs.getD j 0)) := by
          unfold ints; rw [List.getElem?_map, List.getElem?_eq_getElem hj]; simp [List.getD, hj]
        rw [← htk, List.getElem?_take] at hj'
        split at hj'
        · simpa using hj'
        · cases hj'
      · rw [List.take_of_length_le (by omega)]
        exact hs.imp (fun h => Int.le_of_lt h)
      · rintro e w' ⟨rfl, q, rfl⟩
        rw [List.take_of_length_le (by omega)]
        exact ⟨rfl, q, rfl⟩
  have hcp := List.countP_le_length (p := (· < x)) (l := zs)
  have hrow : ∀ k, some k = v.ownBlock → base ≤ k ∧ k < w.heap.size := by
    intro k hk
    rcases hown.2 with ⟨rfl, rfl⟩ | ⟨g, cap, cur, rfl, hb, hh, _⟩
    · cases hk
    · cases hk; exact ⟨hb, heap_lt hh⟩
  have hins : ∀ q, Calls Tryz.prog 87 #[v, .int .i64 (zs.countP (· < x) : Nat), .slice (some ⟨w.heap.size, 0, none⟩) 1 1] ((w.drewN q).alloc (.cells #[.int .i64 x] 3)) fun e w' =>
      ∃ g cap, e = .returned (.slice (some ⟨g, 0, none⟩) (n + 1) cap) ∧ w'.ownsRow base 3 1 (.slice (some ⟨g, 0, none⟩) (n + 1) cap) (n + 1) (ints (insAt zs x)) ∧ Fr (fun i => base ≤ i) w w' ∧ base ≤ g := by
    intro q
    refine (insert_own base n (zs.countP (· < x)) w.heap.size v (.int .i64 x) (ints zs) ((w.drewN q).alloc (.cells #[.int .i64 x] 3)) (World.ownsRow.alloc (w := w.drewN q) hown _) (by omega) hn (heap_alloc_new (w.drewN q) _) ?_ (ints_one zs) rfl (by simp; omega)).mono ?_
    · intro h; have := (hrow _ h.symm).2; omega
    · rintro e w' ⟨v', rfl, ho, hf, hl⟩
      obtain ⟨g, cap, cur, rfl, hb, _⟩ : ∃ g cap cur, v' = .slice (some ⟨g, 0, none⟩) (n + 1) cap ∧ base ≤ g ∧ w'.heap[g]? = some (.cells cur 3 (0, 0)) := by
        rcases ho.2 with ⟨_, h⟩ | ⟨g, cap, cur, h1, h2, h3, _⟩
        · omega
        · exact ⟨g, cap, cur, h1, h2, h3⟩
      refine ⟨g, cap, rfl, ?_, ?_, hb⟩
      · have e : ints (insAt zs x) = (ints zs).take (zs.countP (· < x)) ++ Value.int .i64 x :: (ints zs).drop (zs.countP (· < x)) := by
          simp [ints, insAt, List.map_take, List.map_drop]
        rw [e]; exact ho
      · refine Fr.trans ((((Fr.refl (fun i => base ≤ i) w).drewN q).alloc _)) hf ?_
        intro i _ hi
        exact (hrow i hi).1
  have HI := Lib.hid hins
  have HS := Lib.hid hsearch
  have HO := Lib.hid hown
  clear hins hsearch hown hrow
  go_enter Tryz.func64, Tryz.ntmps64
  go_wp2_with fail
  refine HS.out.mono ?_
  rintro e w' ⟨rfl, q, rfl⟩
  go_wp2_with fail
  refine (HI.out q).mono ?_
  rintro e w' ⟨g, cap, rfl, ho, hf, hg⟩
  have hL' : w'.heap[L]? = some (.cells #[v] 113 (0, 0)) := (hf.block L hLt (by omega)).trans hL
  have hc' : w'.cell? ⟨L, 0, none⟩ = some v := by rw [cellsAt hL']; rfl
  have hz' : w'.frozen? ⟨L, 0, none⟩ = false := frozenAt hL' 0
  have HO' := Lib.hid ho
  clear ho
  have HF' := Lib.hid hf
  clear hf
  have HL' := Lib.hid hL'
  clear hL'
  have hgL : g ≠ L := by omega
  go_wp2
  go_end0
  refine ⟨rfl, .slice (some ⟨g, 0, none⟩) (n + 1) cap, ?_, ?_, ?_⟩
  · have := HL'.out
    simp [World.setCell, Array.getElem?_modify, this]
  · rcases HO'.out.2 with ⟨h, _⟩ | ⟨g', cap', cur, h, hb, hh, hr⟩
    · cases h
    · cases h
      exact ⟨HO'.out.1, .inr ⟨g, cap, cur, rfl, hb, (Below.heap_setCell w' _ _ g (by simpa using hgL)).trans hh, hr⟩⟩
  · exact (HF'.out.mono (fun i _ h => .inr h)).setCell (fun _ => .inl rfl) _
end Go.Proofs.YtjkoppdddaknlaaGreatDoor
