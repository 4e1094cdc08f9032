import Derived.Test.YtepfmoaihhonlaaGreatDoorG2
import Derived.Test.YtepfmoaihhonlaaGreatDoorRChk
import Derived.Test.YtepfmoaihhonlaaGreatDoorChk
/- The state of a call's own memory: what was there before it is as it was, and the blocks of its own hold what is listed. -/
namespace Go.Proofs.YtepfmoaihhonlaaGreatDoor
open Go Go.RowKit Go.Proofs

/-- since w nothing that was there has turned, and these blocks of the call's own hold these -/
structure St (w w' : World) (bs : List (Nat × Obj)) : Prop where
  below : Below w.heap.size w w'
  box : ∀ (i : Nat) b o, bs[i]? = some (b, o) → w.heap.size ≤ b ∧ w'.heap[b]? = some o

theorem below_next {W X Y : World} (h1 : Below W.heap.size W X) (h2 : Below X.heap.size X Y) : Below W.heap.size W Y := h1.trans (h2.mono h1.size)
section
variable {w w' w'' : World} {bs : List (Nat × Obj)}
theorem St.start (w : World) : St w w [] := ⟨Below.refl _ _, fun i b o h => by simp at h⟩
theorem St.alloc (h : St w w' bs) (o : Obj) (b : Nat) (hb : b = w'.heap.size) : St w (w'.alloc o) (bs ++ [(b, o)]) := by
  refine ⟨h.below.alloc h.below.size _, fun i b' o' hi => ?_⟩
  rw [List.getElem?_append] at hi
  split at hi
  · have := h.box i b' o' hi
    exact ⟨this.1, (Below.heap_alloc _ _ _ (heap_lt this.2)).trans this.2⟩
  · rw [List.getElem?_singleton] at hi
    split at hi
    · have hi' := Option.some.inj hi
      obtain ⟨rfl, rfl⟩ := Prod.mk.inj hi'
      exact ⟨by have := h.below.size; omega, alloc_at _ _ _ hb⟩
    · cases hi
/-- a block that is not listed -/
theorem St.more (h : St w w' bs) (o : Obj) : St w (w'.alloc o) bs :=
  ⟨h.below.alloc h.below.size _, fun i b o hi => ⟨(h.box i b o hi).1, (Below.heap_alloc _ _ _ (heap_lt (h.box i b o hi).2)).trans (h.box i b o hi).2⟩⟩
theorem St.call (h : St w w' bs) (hb : Below w'.heap.size w' w'') : St w w'' bs :=
  ⟨h.below.trans (hb.mono h.below.size), fun i b o hi => ⟨(h.box i b o hi).1, (hb.block b (heap_lt (h.box i b o hi).2)).trans (h.box i b o hi).2⟩⟩
theorem St.fr {may : Nat → Prop} (h : St w w' bs) (hf : Fr may w' w'') (hm : ∀ (i : Nat) b o, bs[i]? = some (b, o) → ¬ may b) (h0 : ∀ i, may i → w.heap.size ≤ i) : St w w'' bs :=
  ⟨h.below.trans (hf.below h.below.size (fun i hi hm' => by have := h0 i hm'; omega)), fun i b o hi => ⟨(h.box i b o hi).1, (hf.block b (heap_lt (h.box i b o hi).2) (hm i b o hi)).trans (h.box i b o hi).2⟩⟩
theorem St.drewN (h : St w w' bs) (n : Nat) : St w (w'.drewN n) bs := ⟨below_drewN h.below n, h.box⟩
theorem St.drew (h : St w w' bs) : St w w'.drew bs := ⟨h.below.drew, h.box⟩
theorem St.set (h : St w w' bs) (i j : Nat) (u : Value) {b : Nat} {cs : Array Value} {t : TypeId} {fz : Nat × Nat} (hi : bs[i]? = some (b, .cells cs t fz)) (hd : ∀ (k : Nat) b' o', bs[k]? = some (b', o') → k ≠ i → b' ≠ b) :
    St w (w'.setCell ⟨b, j, none⟩ u) (bs.set i (b, .cells (cs.setIfInBounds j u) t fz)) := by
  refine ⟨h.below.setCell (h.box i _ _ hi).1 _, fun k b' o' hk => ?_⟩
  rw [List.getElem?_set] at hk
  split at hk
  · rename_i e
    subst e
    split at hk
    · have hi' := Option.some.inj hk
      obtain ⟨rfl, rfl⟩ := Prod.mk.inj hi'
      refine ⟨(h.box _ _ _ hi).1, ?_⟩
      have := (h.box _ _ _ hi).2
      simp [World.setCell, Array.getElem?_modify, this]
    · cases hk
  · rename_i e
    have hx := h.box k b' o' hk
    exact ⟨hx.1, (Below.heap_setCell _ _ _ _ (hd k b' o' hk (fun e' => e e'.symm))).trans hx.2⟩
theorem St.cell (h : St w w' bs) (i j : Nat) {b : Nat} {cs : Array Value} {t : TypeId} {u : Value} (hi : bs[i]? = some (b, .cells cs t (0, 0))) (hj : cs[j]? = some u) : w'.cell? ⟨b, j, none⟩ = some u := by
  rw [cellsAt (h.box i _ _ hi).2, hj]
theorem St.frozen (h : St w w' bs) (i j : Nat) {b : Nat} {cs : Array Value} {t : TypeId} (hi : bs[i]? = some (b, .cells cs t (0, 0))) : w'.frozen? ⟨b, j, none⟩ = false := frozenAt (h.box i _ _ hi).2 j
theorem St.lt (h : St w w' bs) (i : Nat) {b : Nat} {o : Obj} (hi : bs[i]? = some (b, o)) : b < w'.heap.size := heap_lt (h.box i _ _ hi).2
theorem St.at (h : St w w' bs) (i : Nat) {b : Nat} {o : Obj} (hi : bs[i]? = some (b, o)) : w'.heap[b]? = some o := (h.box i _ _ hi).2
theorem St.grown {M : Nat} (h : St w w' bs) (hg : w'.grownBy w'' (some M)) (h0 : w.heap.size ≤ M) (hm : ∀ x ∈ bs, x.1 ≠ M) : St w w'' bs :=
  h.fr (Fr.of_grown hg) (fun i b o hi hb => by have hb : b = M := by simpa using hb
                                               exact hm _ (List.mem_of_getElem? hi) hb) (fun i hi => by have hi : i = M := by simpa using hi
                                                                                                        omega)
theorem St.old (h : St w w' bs) (hb : Below w'.heap.size w' w'') : Below w.heap.size w w'' := (h.call hb).below
theorem Rd.old {k n : Nat} {A : Option Addr} {xs : List Value} (h : Rd w 0 w.heap.size k A n xs) (hb : Below w.heap.size w w') : Rd w' 0 w'.heap.size k A n xs := (h.below hb (Nat.le_refl _)).more (Nat.le_refl _) hb.size
/-- a store into the block that is listed last -/
theorem St.setLast (bs : List (Nat × Obj)) (j : Nat) (u : Value) {b : Nat} {cs : Array Value} {t : TypeId} {fz : Nat × Nat} (h : St w w' (bs ++ [(b, .cells cs t fz)])) (hd : ∀ x ∈ bs, x.1 ≠ b) : St w (w'.setCell ⟨b, j, none⟩ u) (bs ++ [(b, .cells (cs.setIfInBounds j u) t fz)]) := by
  have := h.set bs.length j u (b := b) (cs := cs) (t := t) (fz := fz) (by simp) (fun k b' o' hk hne => by
    rw [List.getElem?_append] at hk
    split at hk
    · exact hd _ (List.mem_of_getElem? hk)
    · rw [List.getElem?_singleton] at hk
      split at hk
      · omega
      · cases hk)
  simpa using this
/-- behind an append to a row that lies behind the listed blocks -/
theorem St.app {base : Nat} {e : TypeId} {k n : Nat} {v : Value} {xs : List Value} (h : St w w' bs) (hown : w'.ownsRow base e k v n xs) (hg : w'.grownBy w'' v.ownBlock) (hb : ∀ x ∈ bs, x.1 < base) (h0 : w.heap.size ≤ base) : St w w'' bs :=
  h.fr (Fr.of_grown hg) (fun i b o hi hm => by have := hb _ (List.mem_of_getElem? hi); have := (ownsRow_block hown hm).1; simp only at *; omega) (fun i hi => by have := (ownsRow_block hown hi).1; omega)
/-- the list, shortened to what is still needed -/
theorem St.pick (h : St w w' bs) (bs' : List (Nat × Obj)) (hs : ∀ x ∈ bs', x ∈ bs) : St w w' bs' :=
  ⟨h.below, fun i b o hi => by
    obtain ⟨j, hj⟩ := List.getElem?_of_mem (hs _ (List.mem_of_getElem? hi))
    exact h.box j b o hj⟩
theorem St.take (h : St w w' bs) (n : Nat) : St w w' (bs.take n) :=
  h.pick _ (fun _ hx => List.mem_of_mem_take hx)
end
end Go.Proofs.YtepfmoaihhonlaaGreatDoor

/- checkBoth, and the reference's pairFault. -/
namespace Go.Proofs.YtepfmoaihhonlaaGreatDoor
open Go Go.RowKit Go.Proofs Go.Maps

/-- the error of two histograms -/
def codeB (b1 : Int) (cs1 : List (Int × Int)) (b2 : Int) (cs2 : List (Int × Int)) : Int := if codeH b1 cs1 ≠ 0 then codeH b1 cs1 else if codeH b2 cs2 ≠ 0 then codeH b2 cs2 else if b1 = b2 then 0 else 2

set_option maxHeartbeats 1000000 in
set_option maxRecDepth 100000 in
theorem checkBoth_any (b1 b2 : Int) (A1 A2 : Option Addr) (c1 c2 : Nat) (cs1 cs2 : List (Int × Int)) (w : World) (hr1 : Rd w 0 w.heap.size 2 A1 cs1.length (cells2 cs1)) (hr2 : Rd w 0 w.heap.size 2 A2 cs2.length (cells2 cs2)) (hn1 : cs1.length < 9223372036854775807) (hn2 : cs2.length < 9223372036854775807) :
    Calls Tryz.prog 87 #[.agg #[.int .i64 b1, .slice A1 cs1.length c1], .agg #[.int .i64 b2, .slice A2 cs2.length c2]] w fun e w' => e = .returned (.int .i64 (codeB b1 cs1 b2 cs2)) ∧ Below w.heap.size w w' := by
  obtain ⟨W0, hW0⟩ : ∃ W0, W0 = ((w).alloc (.cells #[Value.int .i64 b1, Value.slice A1 cs1.length c1] 53)).alloc (.cells #[Value.int .i64 b2, Value.slice A2 cs2.length c2] 53) := ⟨_, rfl⟩
  have st0 : St w W0 [(w.heap.size, Obj.cells #[Value.int .i64 b1, Value.slice A1 cs1.length c1] 53 (0, 0)), (w.heap.size + 1, Obj.cells #[Value.int .i64 b2, Value.slice A2 cs2.length c2] 53 (0, 0))] := by rw [hW0]; exact ((St.start w).alloc _ _ (by simp)).alloc _ _ (by simp)
  have hs0 : W0.heap.size = w.heap.size + 1 + 1 := by rw [hW0]; simp
  have hsz0 : w.heap.size + 1 + 1 ≤ W0.heap.size := by omega
  have HST0 := Lib.hid st0
  have HS0 := Lib.hid hs0
  have HC1 := Lib.hid (check_any b1 A1 cs1.length c1 cs1 W0 ((hr1.below st0.below (Nat.le_refl _)).more (Nat.le_refl _) (by omega)) hn1)
  have HR2 := Lib.hid hr2
  clear hr1 hr2
  clear st0 hs0
  go_enter Tryz.func87, Tryz.ntmps87
  go_wp2_with fail
  rw [← hW0]
  clear hW0
  go_wp2_with fail
  refine HC1.out.mono ?_
  rintro e w1 ⟨rfl, hb1⟩
  have HST1 := Lib.hid (HST0.out.call hb1)
  have hsz1 := hb1.size
  clear hb1
  have k0_0 : w1.cell? ⟨w.heap.size, 0, none⟩ = some (Value.int .i64 b1) := HST1.out.cell 0 0 rfl rfl
  have k0_1 : w1.cell? ⟨w.heap.size, 1, none⟩ = some (Value.slice A1 cs1.length c1) := HST1.out.cell 0 1 rfl rfl
  have l0_ : w.heap.size < w1.heap.size := HST1.out.lt 0 rfl
  have k1_0 : w1.cell? ⟨w.heap.size + 1, 0, none⟩ = some (Value.int .i64 b2) := HST1.out.cell 1 0 rfl rfl
  have k1_1 : w1.cell? ⟨w.heap.size + 1, 1, none⟩ = some (Value.slice A2 cs2.length c2) := HST1.out.cell 1 1 rfl rfl
  have l1_ : w.heap.size + 1 < w1.heap.size := HST1.out.lt 1 rfl
  by_cases h1 : codeH b1 cs1 = 0
  · have h1' : (codeH b1 cs1 != 0) = false := by simp [h1]
    have H1 := Lib.hid h1
    clear h1
    have HC2 := Lib.hid (check_any b2 A2 cs2.length c2 cs2 w1 ((HR2.out.below HST1.out.below (Nat.le_refl _)).more (Nat.le_refl _) HST1.out.below.size) hn2 )
    go_wp2_with fail
    refine HC2.out.mono ?_
    rintro e w2 ⟨rfl, hb2⟩
    have HST2 := Lib.hid (HST1.out.call hb2)
    have hsz2 := hb2.size
    clear k0_0 k0_1 l0_ k1_0 k1_1 l1_
    clear hb2
    have k0_0 : w2.cell? ⟨w.heap.size, 0, none⟩ = some (Value.int .i64 b1) := HST2.out.cell 0 0 rfl rfl
    have k0_1 : w2.cell? ⟨w.heap.size, 1, none⟩ = some (Value.slice A1 cs1.length c1) := HST2.out.cell 0 1 rfl rfl
    have l0_ : w.heap.size < w2.heap.size := HST2.out.lt 0 rfl
    have k1_0 : w2.cell? ⟨w.heap.size + 1, 0, none⟩ = some (Value.int .i64 b2) := HST2.out.cell 1 0 rfl rfl
    have k1_1 : w2.cell? ⟨w.heap.size + 1, 1, none⟩ = some (Value.slice A2 cs2.length c2) := HST2.out.cell 1 1 rfl rfl
    have l1_ : w.heap.size + 1 < w2.heap.size := HST2.out.lt 1 rfl
    by_cases h2 : codeH b2 cs2 = 0
    · have h2' : (codeH b2 cs2 != 0) = false := by simp [h2]
      have H2 := Lib.hid h2
      clear h2
      by_cases h3 : b1 = b2
      · have h3' : (b1 != b2) = false := by simp [h3]
        have HCC := Lib.hid (show codeB b1 cs1 b2 cs2 = 0 by unfold codeB; rw [if_neg (by rw [H1.out]; simp), if_neg (by rw [H2.out]; simp), if_pos h3])
        clear h3
        go_wp2
        go_ret
        exact ⟨(congrArg (fun z => Ending.returned (.int .i64 z)) HCC.out).symm, HST2.out.below⟩
      · have h3' : (b1 != b2) = true := by simp [h3]
        have HCC := Lib.hid (show codeB b1 cs1 b2 cs2 = 2 by unfold codeB; rw [if_neg (by rw [H1.out]; simp), if_neg (by rw [H2.out]; simp), if_neg h3])
        clear h3
        go_wp2
        go_ret
        exact ⟨(congrArg (fun z => Ending.returned (.int .i64 z)) HCC.out).symm, HST2.out.below⟩
    · have h2' : (codeH b2 cs2 != 0) = true := by simp [h2]
      have HCC := Lib.hid (show codeB b1 cs1 b2 cs2 = codeH b2 cs2 by unfold codeB; rw [if_neg (by rw [H1.out]; simp), if_pos h2])
      clear h2
      go_wp2
      go_ret
      exact ⟨(congrArg (fun z => Ending.returned (.int .i64 z)) HCC.out).symm, HST2.out.below⟩
  · have h1' : (codeH b1 cs1 != 0) = true := by simp [h1]
    have HCC := Lib.hid (show codeB b1 cs1 b2 cs2 = codeH b1 cs1 by unfold codeB; rw [if_pos h1])
    clear h1
    go_wp2
    go_ret
    exact ⟨(congrArg (fun z => Ending.returned (.int .i64 z)) HCC.out).symm, HST1.out.below⟩

set_option maxHeartbeats 1000000 in
set_option maxRecDepth 100000 in
theorem pairFault_any (b1 b2 : Int) (A1 A2 : Option Addr) (c1 c2 : Nat) (cs1 cs2 : List (Int × Int)) (w : World) (hr1 : Rd w 0 w.heap.size 2 A1 cs1.length (cells2 cs1)) (hr2 : Rd w 0 w.heap.size 2 A2 cs2.length (cells2 cs2)) (hn1 : cs1.length < 9223372036854775807) (hn2 : cs2.length < 9223372036854775807) (hx1 : ∀ c ∈ cs1, c.1 ≤ 9223372036854775807) (hx2 : ∀ c ∈ cs2, c.1 ≤ 9223372036854775807) :
    Calls Tryz.prog 93 #[.agg #[.int .i64 b1, .slice A1 cs1.length c1], .agg #[.int .i64 b2, .slice A2 cs2.length c2]] w fun e w' => e = .returned (.int .i64 (codeB b1 cs1 b2 cs2)) ∧ Below w.heap.size w w' := by
  obtain ⟨W0, hW0⟩ : ∃ W0, W0 = ((w).alloc (.cells #[Value.int .i64 b1, Value.slice A1 cs1.length c1] 53)).alloc (.cells #[Value.int .i64 b2, Value.slice A2 cs2.length c2] 53) := ⟨_, rfl⟩
  have st0 : St w W0 [(w.heap.size, Obj.cells #[Value.int .i64 b1, Value.slice A1 cs1.length c1] 53 (0, 0)), (w.heap.size + 1, Obj.cells #[Value.int .i64 b2, Value.slice A2 cs2.length c2] 53 (0, 0))] := by rw [hW0]; exact ((St.start w).alloc _ _ (by simp)).alloc _ _ (by simp)
  have hs0 : W0.heap.size = w.heap.size + 1 + 1 := by rw [hW0]; simp
  have hsz0 : w.heap.size + 1 + 1 ≤ W0.heap.size := by omega
  have HST0 := Lib.hid st0
  have HS0 := Lib.hid hs0
  have HC1 := Lib.hid (rcheck_any b1 A1 cs1.length c1 cs1 W0 ((hr1.below st0.below (Nat.le_refl _)).more (Nat.le_refl _) (by omega)) hn1 hx1)
  have HR2 := Lib.hid hr2
  have HX2 := Lib.hid hx2
  clear hr1 hr2 hx1 hx2
  clear st0 hs0
  go_enter Tryz.func93, Tryz.ntmps93
  go_wp2_with fail
  rw [← hW0]
  clear hW0
  go_wp2_with fail
  refine HC1.out.mono ?_
  rintro e w1 ⟨rfl, hb1⟩
  have HST1 := Lib.hid (HST0.out.call hb1)
  have hsz1 := hb1.size
  clear hb1
  have k0_0 : w1.cell? ⟨w.heap.size, 0, none⟩ = some (Value.int .i64 b1) := HST1.out.cell 0 0 rfl rfl
  have k0_1 : w1.cell? ⟨w.heap.size, 1, none⟩ = some (Value.slice A1 cs1.length c1) := HST1.out.cell 0 1 rfl rfl
  have l0_ : w.heap.size < w1.heap.size := HST1.out.lt 0 rfl
  have k1_0 : w1.cell? ⟨w.heap.size + 1, 0, none⟩ = some (Value.int .i64 b2) := HST1.out.cell 1 0 rfl rfl
  have k1_1 : w1.cell? ⟨w.heap.size + 1, 1, none⟩ = some (Value.slice A2 cs2.length c2) := HST1.out.cell 1 1 rfl rfl
  have l1_ : w.heap.size + 1 < w1.heap.size := HST1.out.lt 1 rfl
  by_cases h1 : codeH b1 cs1 = 0
  · have h1' : (codeH b1 cs1 != 0) = false := by simp [h1]
    have H1 := Lib.hid h1
    clear h1
    have HC2 := Lib.hid (rcheck_any b2 A2 cs2.length c2 cs2 w1 ((HR2.out.below HST1.out.below (Nat.le_refl _)).more (Nat.le_refl _) HST1.out.below.size) hn2 HX2.out)
    go_wp2_with fail
    refine HC2.out.mono ?_
    rintro e w2 ⟨rfl, hb2⟩
    have HST2 := Lib.hid (HST1.out.call hb2)
    have hsz2 := hb2.size
    clear k0_0 k0_1 l0_ k1_0 k1_1 l1_
    clear hb2
    have k0_0 : w2.cell? ⟨w.heap.size, 0, none⟩ = some (Value.int .i64 b1) := HST2.out.cell 0 0 rfl rfl
    have k0_1 : w2.cell? ⟨w.heap.size, 1, none⟩ = some (Value.slice A1 cs1.length c1) := HST2.out.cell 0 1 rfl rfl
    have l0_ : w.heap.size < w2.heap.size := HST2.out.lt 0 rfl
    have k1_0 : w2.cell? ⟨w.heap.size + 1, 0, none⟩ = some (Value.int .i64 b2) := HST2.out.cell 1 0 rfl rfl
    have k1_1 : w2.cell? ⟨w.heap.size + 1, 1, none⟩ = some (Value.slice A2 cs2.length c2) := HST2.out.cell 1 1 rfl rfl
    have l1_ : w.heap.size + 1 < w2.heap.size := HST2.out.lt 1 rfl
    by_cases h2 : codeH b2 cs2 = 0
    · have h2' : (codeH b2 cs2 != 0) = false := by simp [h2]
      have H2 := Lib.hid h2
      clear h2
      by_cases h3 : b1 = b2
      · have h3' : (b1 != b2) = false := by simp [h3]
        have HCC := Lib.hid (show codeB b1 cs1 b2 cs2 = 0 by unfold codeB; rw [if_neg (by rw [H1.out]; simp), if_neg (by rw [H2.out]; simp), if_pos h3])
        clear h3
        go_wp2
        go_ret
        exact ⟨(congrArg (fun z => Ending.returned (.int .i64 z)) HCC.out).symm, HST2.out.below⟩
      · have h3' : (b1 != b2) = true := by simp [h3]
        have HCC := Lib.hid (show codeB b1 cs1 b2 cs2 = 2 by unfold codeB; rw [if_neg (by rw [H1.out]; simp), if_neg (by rw [H2.out]; simp), if_neg h3])
        clear h3
        go_wp2
        go_ret
        exact ⟨(congrArg (fun z => Ending.returned (.int .i64 z)) HCC.out).symm, HST2.out.below⟩
    · have h2' : (codeH b2 cs2 != 0) = true := by simp [h2]
      have HCC := Lib.hid (show codeB b1 cs1 b2 cs2 = codeH b2 cs2 by unfold codeB; rw [if_neg (by rw [H1.out]; simp), if_pos h2])
      clear h2
      go_wp2
      go_ret
      exact ⟨(congrArg (fun z => Ending.returned (.int .i64 z)) HCC.out).symm, HST2.out.below⟩
  · have h1' : (codeH b1 cs1 != 0) = true := by simp [h1]
    have HCC := Lib.hid (show codeB b1 cs1 b2 cs2 = codeH b1 cs1 by unfold codeB; rw [if_pos h1])
    clear h1
    go_wp2
    go_ret
    exact ⟨(congrArg (fun z => Ending.returned (.int .i64 z)) HCC.out).symm, HST1.out.below⟩
end Go.Proofs.YtepfmoaihhonlaaGreatDoor

/- 'more' on lists: a histogram with n values more in a bucket. No program in sight. -/
namespace Go.Proofs.YtepfmoaihhonlaaGreatDoor
open Go Go.RowKit Go.Proofs Go.Maps

/-- one step of 'more' -/
def stepM (k n : Int) (st : Bool × List (Int × Int)) (c : Int × Int) : Bool × List (Int × Int) :=
  if st.1 = false ∧ k ≤ c.1 then (true, st.2 ++ (if c.1 = k then [(c.1, c.2 + n)] else [(k, n), c])) else (st.1, st.2 ++ [c])
def moreSt (k n : Int) (cs : List (Int × Int)) : Bool × List (Int × Int) := cs.foldl (stepM k n) (n == 0, [])
def moreL (k n : Int) (cs : List (Int × Int)) : List (Int × Int) := if (moreSt k n cs).1 then (moreSt k n cs).2 else (moreSt k n cs).2 ++ [(k, n)]
theorem moreSt_take (k n : Int) (cs : List (Int × Int)) (i : Nat) (c : Int × Int) (h : cs[i]? = some c) : moreSt k n (cs.take (i + 1)) = stepM k n (moreSt k n (cs.take i)) c := by
  unfold moreSt
  rw [List.take_add_one, h]; simp
theorem moreSt_length (k n : Int) (cs : List (Int × Int)) : (moreSt k n cs).2.length ≤ cs.length + 1 ∧ ((moreSt k n cs).1 = false → (moreSt k n cs).2.length = cs.length) := by
  have key : ∀ (cs : List (Int × Int)) (st : Bool × List (Int × Int)), ((cs.foldl (stepM k n) st).2.length ≤ st.2.length + cs.length + 1 ∧ (st.1 = true → (cs.foldl (stepM k n) st).2.length = st.2.length + cs.length)) ∧ ((cs.foldl (stepM k n) st).1 = false → (cs.foldl (stepM k n) st).2.length = st.2.length + cs.length) := by
    intro cs
    induction cs with
    | nil => intro st; simp
    | cons c cs ih =>
      intro st
      simp only [List.foldl_cons, List.length_cons]
      obtain ⟨⟨h1, h2⟩, h3⟩ := ih (stepM k n st c)
      by_cases hc : st.1 = false ∧ k ≤ c.1
      · have e1 : (stepM k n st c).1 = true := by simp [stepM, hc]
        have e2 : (stepM k n st c).2.length ≤ st.2.length + 2 := by unfold stepM; rw [if_pos hc]; simp only [List.length_append]; split <;> simp
        have h2' := h2 e1
        refine ⟨⟨by omega, fun h => by rw [hc.1] at h; cases h⟩, fun h => ?_⟩
        exfalso
        have hk : ∀ (l : List (Int × Int)) (s : Bool × List (Int × Int)), s.1 = true → (l.foldl (stepM k n) s).1 = true := by
          intro l
          induction l with
          | nil => intro s h; exact h
          | cons d l ih => intro s h; simp only [List.foldl_cons]; exact ih _ (by unfold stepM; rw [if_neg (by simp [h])]; exact h)
        rw [hk cs _ e1] at h; cases h
      · have e1 : (stepM k n st c) = (st.1, st.2 ++ [c]) := by unfold stepM; rw [if_neg hc]
        rw [e1] at h1 h2 h3 ⊢
        simp only [List.length_append, List.length_cons, List.length_nil] at h1 h2 h3
        exact ⟨⟨by omega, fun h => by have := h2 h; omega⟩, fun h => by have := h3 h; omega⟩
  have := key cs (n == 0, [])
  unfold moreSt
  simp only [List.length_nil, Nat.zero_add] at this
  exact ⟨this.1.1, this.2⟩
/-- 'more', read off a list -/
def moreR (k n : Int) : List (Int × Int) → List (Int × Int)
  | [] => [(k, n)]
  | c :: r => if k ≤ c.1 then (if c.1 = k then (c.1, c.2 + n) :: r else (k, n) :: c :: r) else c :: moreR k n r
theorem foldl_done (k n : Int) : ∀ (cs : List (Int × Int)) (l : List (Int × Int)), cs.foldl (stepM k n) (true, l) = (true, l ++ cs)
  | [], l => by simp
  | c :: cs, l => by
    have : stepM k n (true, l) c = (true, l ++ [c]) := by simp [stepM]
    rw [List.foldl_cons, this, foldl_done k n cs]; simp
/-- the end of 'more' -/
def finM (k n : Int) (st : Bool × List (Int × Int)) : List (Int × Int) := if st.1 then st.2 else st.2 ++ [(k, n)]
theorem foldl_open (k n : Int) : ∀ (cs : List (Int × Int)) (l : List (Int × Int)), finM k n (cs.foldl (stepM k n) (false, l)) = l ++ moreR k n cs
  | [], l => by simp [moreR, finM]
  | c :: cs, l => by
    rw [List.foldl_cons]
    by_cases h : k ≤ c.1
    · have e : stepM k n (false, l) c = (true, l ++ (if c.1 = k then [(c.1, c.2 + n)] else [(k, n), c])) := by simp [stepM, h]
      rw [e, foldl_done]
      simp only [finM, if_true, moreR, if_pos h]
      split <;> simp
    · have e : stepM k n (false, l) c = (false, l ++ [c]) := by simp [stepM, h]
      rw [e, foldl_open k n cs (l ++ [c])]
      simp [moreR, h]
theorem moreL_eq (k n : Int) (cs : List (Int × Int)) : moreL k n cs = if n = 0 then cs else moreR k n cs := by
  show finM k n (moreSt k n cs) = _
  unfold moreSt
  by_cases h : n = 0
  · subst h; simp [foldl_done, finM]
  · have e : (n == 0) = false := by simpa using h
    rw [e, if_neg h, foldl_open k n cs []]
    simp
theorem moreR_mem (k n : Int) : ∀ (cs : List (Int × Int)), cs.Pairwise (fun a b => a.1 < b.1) → ∀ x m, (x, m) ∈ moreR k n cs ↔ ((x ≠ k ∧ (x, m) ∈ cs) ∨ (x = k ∧ ((∃ l, (k, l) ∈ cs ∧ m = l + n) ∨ ((∀ l, (k, l) ∉ cs) ∧ m = n))))
  | [], _, x, m => by simp [moreR]
  | (y, l) :: cs, h, x, m => by
    rw [List.pairwise_cons] at h
    have ih := moreR_mem k n cs h.2 x m
    unfold moreR
    by_cases hk : k ≤ y
    · rw [if_pos hk]
      have hnot : ∀ l', (k, l') ∉ cs := fun l' hl => by have := h.1 _ hl; simp only at this; omega
      by_cases hy : y = k
      · subst hy
        rw [if_pos rfl]
        simp only [List.mem_cons, Prod.mk.injEq]
        constructor
        · rintro (⟨rfl, rfl⟩ | hx)
          · exact .inr ⟨rfl, .inl ⟨l, by simp, rfl⟩⟩
          · have := h.1 _ hx; simp only at this
            exact .inl ⟨by omega, .inr hx⟩
        · rintro (⟨h1, h2 | h2⟩ | ⟨rfl, ⟨l', h3 | h3, rfl⟩ | ⟨h3, _⟩⟩)
          · exact absurd h2.1 h1
          · exact .inr h2
          · exact .inl ⟨rfl, by rw [h3.2]⟩
          · exact absurd h3 (hnot l')
          · exact absurd (by simp) (h3 l)
      · rw [if_neg hy]
        simp only [List.mem_cons, Prod.mk.injEq]
        constructor
        · rintro (⟨rfl, rfl⟩ | ⟨rfl, rfl⟩ | hx)
          · exact .inr ⟨rfl, .inr ⟨fun l' hl => by rcases hl with ⟨h1, _⟩ | h1; exact hy h1.symm; exact hnot l' h1, rfl⟩⟩
          · exact .inl ⟨hy, .inl ⟨rfl, rfl⟩⟩
          · have := h.1 _ hx; simp only at this
            exact .inl ⟨by omega, .inr hx⟩
        · rintro (⟨h1, h2 | h2⟩ | ⟨rfl, ⟨l', h3 | h3, rfl⟩ | ⟨h3, rfl⟩⟩)
          · exact .inr (.inl h2)
          · exact .inr (.inr h2)
          · exact absurd h3.1.symm hy
          · exact absurd h3 (hnot l')
          · exact .inl ⟨rfl, rfl⟩
    · rw [if_neg hk]
      simp only [List.mem_cons, Prod.mk.injEq]
      rw [ih]
      constructor
      · rintro (⟨rfl, rfl⟩ | ⟨h1, h2⟩ | ⟨rfl, ⟨l', h3, rfl⟩ | ⟨h3, rfl⟩⟩)
        · exact .inl ⟨by omega, .inl ⟨rfl, rfl⟩⟩
        · exact .inl ⟨h1, .inr h2⟩
        · exact .inr ⟨rfl, .inl ⟨l', .inr h3, rfl⟩⟩
        · exact .inr ⟨rfl, .inr ⟨fun l' hl => by rcases hl with ⟨h1, _⟩ | h1; omega; exact h3 l' h1, rfl⟩⟩
      · rintro (⟨h1, h2 | h2⟩ | ⟨rfl, ⟨l', h3 | h3, rfl⟩ | ⟨h3, rfl⟩⟩)
        · exact .inl h2
        · exact .inr (.inl ⟨h1, h2⟩)
        · omega
        · exact .inr (.inr ⟨rfl, .inl ⟨l', h3, rfl⟩⟩)
        · exact .inr (.inr ⟨rfl, .inr ⟨fun l' hl => h3 l' (.inr hl), rfl⟩⟩)
theorem moreR_fst (k n : Int) (cs : List (Int × Int)) (x m : Int) (h : (x, m) ∈ moreR k n cs) : x = k ∨ ∃ m', (x, m') ∈ cs := by
  induction cs with
  | nil => simp [moreR] at h; exact .inl h.1
  | cons c cs ih =>
    obtain ⟨y, l⟩ := c
    unfold moreR at h
    split at h
    · split at h
      · simp only [List.mem_cons, Prod.mk.injEq] at h
        rcases h with ⟨rfl, _⟩ | h
        · exact .inr ⟨l, by simp⟩
        · exact .inr ⟨m, by simp [h]⟩
      · simp only [List.mem_cons, Prod.mk.injEq] at h
        rcases h with ⟨rfl, _⟩ | ⟨rfl, _⟩ | h
        · exact .inl rfl
        · exact .inr ⟨l, by simp⟩
        · exact .inr ⟨m, by simp [h]⟩
    · simp only [List.mem_cons, Prod.mk.injEq] at h
      rcases h with ⟨rfl, _⟩ | h
      · exact .inr ⟨l, by simp⟩
      · rcases ih h with h | ⟨m', h⟩
        · exact .inl h
        · exact .inr ⟨m', by simp [h]⟩
theorem moreR_sorted (k n : Int) : ∀ (cs : List (Int × Int)), cs.Pairwise (fun a b => a.1 < b.1) → (moreR k n cs).Pairwise (fun a b => a.1 < b.1)
  | [], _ => by simp [moreR]
  | (y, l) :: cs, h => by
    rw [List.pairwise_cons] at h
    unfold moreR
    by_cases hk : k ≤ y
    · rw [if_pos hk]
      by_cases hy : y = k
      · rw [if_pos hy, List.pairwise_cons]
        exact h
      · rw [if_neg hy, List.pairwise_cons, List.pairwise_cons]
        refine ⟨fun c hc => ?_, h⟩
        simp only [List.mem_cons] at hc
        rcases hc with rfl | hc
        · simp only; omega
        · have := h.1 c hc; simp only at this ⊢; omega
    · rw [if_neg hk, List.pairwise_cons]
      refine ⟨fun c hc => ?_, moreR_sorted k n cs h.2⟩
      obtain ⟨x, m⟩ := c
      rcases moreR_fst k n cs x m hc with rfl | ⟨m', h'⟩
      · simp only; omega
      · exact h.1 (x, m') h'
theorem more_hist {f : Int → Int} {cs : List (Int × Int)} (h : IsHist f cs) (hf : ∀ x, 0 ≤ f x) (k n : Int) (hn : 0 ≤ n) : IsHist (upd f k (f k + n)) (moreL k n cs) := by
  rw [moreL_eq]
  by_cases h0 : n = 0
  · subst h0
    rw [if_pos rfl, Int.add_zero]
    have : upd f k (f k) = f := by funext x; unfold upd; split <;> simp [*]
    rw [this]; exact h
  · rw [if_neg h0]
    refine ⟨moreR_sorted k n cs h.1, fun x m => ?_⟩
    rw [moreR_mem k n cs h.1 x m]
    unfold upd
    by_cases hx : x = k
    · subst hx
      simp only [ne_eq, not_true_eq_false, false_and, true_and, false_or, if_true]
      constructor
      · rintro (⟨l, h1, rfl⟩ | ⟨h1, rfl⟩)
        · have := (h.2 x l).1 h1; omega
        · have : ¬ 0 < f x := fun hp => h1 (f x) ((h.2 x (f x)).2 ⟨rfl, hp⟩)
          have := hf x; omega
      · rintro ⟨rfl, hp⟩
        by_cases hp' : 0 < f x
        · exact .inl ⟨f x, (h.2 x (f x)).2 ⟨rfl, hp'⟩, rfl⟩
        · have := hf x
          exact .inr ⟨fun l hl => by have := (h.2 x l).1 hl; omega, by omega⟩
    · simp only [ne_eq, hx, not_false_eq_true, true_and, false_and, or_false, if_false]
      exact h.2 x m
theorem upd_nonneg {f : Int → Int} (hf : ∀ x, 0 ≤ f x) (k c : Int) (hc : 0 ≤ c) : ∀ x, 0 ≤ upd f k c x := by
  intro x; unfold upd; split
  · exact hc
  · exact hf x
theorem hist_len {f : Int → Int} {cs : List (Int × Int)} (h : IsHist f cs) (m : Int) (hf : ∀ x, f x ≠ 0 → 0 ≤ x ∧ x ≤ m) : (cs.length : Int) ≤ m + 1 ∨ cs.length = 0 := by
  have key : ∀ (cs : List (Int × Int)) (lo : Int), cs.Pairwise (fun a b => a.1 < b.1) → (∀ c ∈ cs, lo ≤ c.1 ∧ c.1 ≤ m) → (cs.length : Int) ≤ m + 1 - lo ∨ cs.length = 0 := by
    intro cs
    induction cs with
    | nil => intro lo _ _; right; rfl
    | cons c cs ih =>
      intro lo hp hc
      rw [List.pairwise_cons] at hp
      have h0 := hc c (by simp)
      left
      rcases ih (c.1 + 1) hp.2 (fun d hd => ⟨by have := hp.1 d hd; omega, (hc d (by simp [hd])).2⟩) with h1 | h1
      · simp only [List.length_cons]; omega
      · simp only [List.length_cons]; omega
  have := key cs 0 h.1 (fun c hc => by
    obtain ⟨x, n⟩ := c
    have := (h.2 x n).1 hc
    exact hf x (by omega))
  omega
end Go.Proofs.YtepfmoaihhonlaaGreatDoor
