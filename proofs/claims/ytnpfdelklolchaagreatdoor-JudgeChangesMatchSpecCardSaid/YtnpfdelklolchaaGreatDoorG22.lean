import Derived.Test.YtnpfdelklolchaaGreatDoorG21
import Derived.Test.YtnpfdelklolchaaGreatDoorG1
import Derived.Test.YtnpfdelklolchaaGreatDoorG12
import Derived.Laws.AppendOwn
import Derived.Laws.Append
/- Package dynamometerref0: Ratio, of a negative fraction. -/
namespace Go.Proofs.YtnpfdelklolchaaGreatDoor
open Go Go.RowKit Go.Proofs

theorem dec_T4 {x K : Nat} (hK : 1 ≤ K) (h : x < T4 ^ K) : (Lib.decDigits x).length ≤ 4 * K :=
  dec_le (by omega) (by unfold T4 at h; rw [show (10000 : Nat) = 10 ^ 4 from rfl, ← Nat.pow_mul] at h; exact h)
set_option maxHeartbeats 8000000 in
set_option maxRecDepth 100000 in
theorem rRatioN_any (u : Value) (q : Rat) (m : Int) (w : World) (hq : FracR w u q) (hs : frS q = true) (hz : Sz 100000 q) (htab : Tab w.heap.size w) :
    Calls Tryz.prog 9 #[u, .int .i64 m] w fun e w' => e = .returned (.tuple #[ratOf (45 :: (ratQ q).1, (ratQ q).2), .bool (decide (((ratQ q).1.length : Int) ≤ m) && decide (((ratQ q).2.length : Int) ≤ m))]) ∧ Below w.heap.size w w' := by
  obtain ⟨A1, c1, l1, A2, c2, l2, rfl, h1, h2⟩ := hq
  rw [hs]
  have hl1 := h1.len hz.1
  have hl2 := h2.len hz.2
  obtain ⟨W0, hW0⟩ : ∃ W0, W0 = (w.alloc (.cells #[.bool true, .slice A1 l1.length c1, .slice A2 l2.length c2] 31)).alloc (.cells #[.string ⟨#[]⟩, .string ⟨#[]⟩] 24) := ⟨_, rfl⟩
  have HST0 := Lib.hid (show St w W0 [(w.heap.size, .cells #[.bool true, .slice A1 l1.length c1, .slice A2 l2.length c2] 31 (0, 0)), (w.heap.size + 1, .cells #[.string ⟨#[]⟩, .string ⟨#[]⟩] 24 (0, 0))] by
    rw [hW0]
    simpa using ((St.start w).alloc _ _ rfl).alloc _ _ rfl)
  have HSW := Lib.hid (show W0.heap.size = w.heap.size + 2 by rw [hW0]; simp)
  have HTX1 := Lib.hid (show ∀ X, Below W0.heap.size W0 X → Calls Tryz.prog 42 #[.slice A1 l1.length c1] X fun e w' => e = .returned (.string ⟨(ratQ q).1.toArray⟩) ∧ Below X.heap.size X w' from fun X hX => rText_any A1 c1 l1 _ X (h1.on (HST0.out.old hX)) (by omega) ((htab.on (HST0.out.old hX)).mono (HST0.out.old hX).size))
  have HTX2 := Lib.hid (show ∀ X, Below W0.heap.size W0 X → Calls Tryz.prog 42 #[.slice A2 l2.length c2] X fun e w' => e = .returned (.string ⟨(ratQ q).2.toArray⟩) ∧ Below X.heap.size X w' from fun X hX => rText_any A2 c2 l2 _ X (h2.on (HST0.out.old hX)) (by omega) ((htab.on (HST0.out.old hX)).mono (HST0.out.old hX).size))
  have HKS := Lib.hid (show ∀ X, Below W0.heap.size W0 X → Below W0.heap.size W0 X ∧ X.cell? ⟨w.heap.size, 1, none⟩ = some (.slice A1 l1.length c1) ∧ X.cell? ⟨w.heap.size, 2, none⟩ = some (.slice A2 l2.length c2) from fun X hX => ⟨hX, (HST0.out.call hX).cell 0 1 rfl rfl, (HST0.out.call hX).cell 0 2 rfl rfl⟩)
  have hL1 : (ratQ q).1.length ≤ 400000 := dec_T4 (K := 100000) (by omega) hz.1
  clear h1 h2 hz hs htab
  obtain ⟨P, hP⟩ : ∃ P, P = ratQ q := ⟨_, rfl⟩
  rw [← hP] at HTX1 HTX2 hL1 ⊢
  clear hP
  obtain ⟨L1, L2⟩ := P
  simp only at HTX1 HTX2 hL1
  go_enter Tryz.func9, Tryz.ntmps9
  go_upto_region 1 with fail
  rw [← hW0]
  clear hW0
  obtain ⟨f0, f1, f2⟩ := HKS.out W0 (Below.refl _ W0)
  go_cut [6] from 8 (fun v wx => ∃ B, v = .pointer (some ⟨B, 0, none⟩) ∧ RatAt wx B (L1, L2) ∧ W0.heap.size ≤ B ∧ Below W0.heap.size W0 wx)
  case first =>
    go_region_held3 (fun X => Below W0.heap.size W0 X ∧ X.cell? ⟨w.heap.size, 1, none⟩ = some (.slice A1 l1.length c1) ∧ X.cell? ⟨w.heap.size, 2, none⟩ = some (.slice A2 l2.length c2))
      (first
        | exact HKS.out _ (Below.refl _ W0).drew
        | exact HKS.out _ ((Below.refl _ W0).alloc (Nat.le_refl _) _).drew
        | (go_split_ands; refine HKS.out _ (below_next ?_ hb1); assumption)
        | (go_split_ands; refine HKS.out _ (below_next ?_ hb2); assumption)
        | (go_split_ands; refine HKS.out _ (below_next ?_ ((Below.refl _ _).alloc (Nat.le_refl _) _)); assumption)
        | (go_split_ands; refine HKS.out _ (below_reallocR (Z := .cells #[.string ⟨#[]⟩, .string ⟨#[]⟩] 24) ?_ (by omega)); assumption)
        | (go_split_ands; exact HKS.out _ ((Below.setCell (by assumption) (by show W0.heap.size ≤ _; first | exact Nat.le_refl _ | (dsimp only; omega) | omega) _).setCell (by show W0.heap.size ≤ _; first | exact Nat.le_refl _ | (dsimp only; omega) | omega) _)))
      (first
        | (go_at_call 42; (with_reducible refine (HTX1.out _ ?_).mono ?_); (go_split_ands; assumption); rintro e w1 ⟨rfl, hb1⟩; have s1 : W0.heap.size ≤ w1.heap.size := (by first | exact hb1.size | exact Nat.le_trans (Nat.le_of_lt (by simp)) hb1.size))
        | (go_at_call 42; (with_reducible refine (HTX2.out _ ?_).mono ?_); (go_split_ands; assumption); rintro e w2 ⟨rfl, hb2⟩; have s2 : w1.heap.size ≤ w2.heap.size := (by first | exact hb2.size | exact Nat.le_trans (Nat.le_of_lt (by simp)) hb2.size); (first | (have HBX := RBox.on (alloc_at w1 _ _ rfl : RBox (w1.alloc (.cells #[.string ⟨#[]⟩, .string ⟨#[]⟩] 24)) w1.heap.size) hb2) | (have HBX := RBox.on (RBox.on (show RBox ((W0.alloc (.cells #[.string ⟨#[]⟩, .string ⟨#[]⟩] 24)).drew) W0.heap.size from alloc_at W0 _ _ rfl) hb1) hb2) | have HBX := True.intro); (try obtain ⟨p0, p1, z0, z1, hlt⟩ := HBX.facts)))
    all_goals go_wp2_with fail
    all_goals go_meet
    all_goals first
      | exact ⟨_, rfl, ratAt_set HBX (L1, L2), by omega, by go_split_ands; assumption⟩
      | exact ⟨_, rfl, alloc_at _ _ _ rfl, by omega, by go_split_ands; assumption⟩
  case rest =>
    obtain ⟨B, rfl, hRA, hBle, hbc⟩ := hcut
    have hB0 := heap_lt hRA
    have g3 : wc.cell? ⟨B, 0, none⟩ = some (.string ⟨L1.toArray⟩) := by rw [cellsAt hRA]; rfl
    have g4 : wc.cell? ⟨B, 1, none⟩ = some (.string ⟨L2.toArray⟩) := by rw [cellsAt hRA]; rfl
    have hST := HST0.out.call hbc
    have g0 := hST.cell 0 0 rfl rfl
    have r0 := hST.cell 1 0 rfl rfl
    have r1 := hST.cell 1 1 rfl rfl
    have z0 := hST.frozen 1 0 rfl
    have z1 := hST.frozen 1 1 rfl
    have zB : wc.frozen? ⟨B, 0, none⟩ = false := frozenAt hRA 0
    have hBw : w.heap.size + 1 < B := by have := HSW.out; omega
    have hne1 : ¬ B = w.heap.size := by omega
    have hne2 : ¬ B = w.heap.size + 1 := by omega
    have hne3 : ¬ w.heap.size = B := by omega
    have hne4 : ¬ w.heap.size + 1 = B := by omega
    have hcat : (⟨#[45]⟩ : ByteArray) ++ ⟨L1.toArray⟩ = ⟨(45 :: L1).toArray⟩ := bytes_cat2 [45] L1
    have hcl : ¬ 9223372036854775807 < 1 + L1.length := by omega
    have hcl2 : 1 + L1.length ≤ 9223372036854775807 := by omega
    have hcl3 : ¬ 9223372036854775807 < L1.length + 1 := by omega
    have HFIN := Lib.hid (((hST.below.setCell (p := ⟨B, 0, none⟩) (by simp only; omega) (.string ⟨(45 :: L1).toArray⟩)).setCell (p := ⟨w.heap.size + 1, 0, none⟩) (by simp) (.string ⟨(45 :: L1).toArray⟩)).setCell (p := ⟨w.heap.size + 1, 1, none⟩) (by simp) (.string ⟨L2.toArray⟩))
    clear hRA hbc hST f0 f1 f2
    by_cases m1 : (L1.length : Int) ≤ m
    · have v1 : decide ((L1.length : Int) ≤ m) = true := by simpa using m1
      go_wp2
      refine bodyPost_ret (v := .tuple #[ratOf (45 :: L1, L2), .bool (decide ((L2.length : Int) ≤ m))]) ?_ rfl ⟨by first | rfl | (show _ = Ending.returned (.tuple #[ratOf (45 :: L1, L2), .bool (decide ((L1.length : Int) ≤ m) && decide ((L2.length : Int) ≤ m))]); rw [v1, Bool.true_and]), HFIN.out⟩
      simp [results, Tryz.results9, go_sem, r0, r1, ratOf, hne1, hne2, hne3, hne4]
    · have v1 : decide ((L1.length : Int) ≤ m) = false := by simpa using m1
      go_wp2
      refine bodyPost_ret (v := .tuple #[ratOf (45 :: L1, L2), .bool false]) ?_ rfl ⟨by first | rfl | (show _ = Ending.returned (.tuple #[ratOf (45 :: L1, L2), .bool (decide ((L1.length : Int) ≤ m) && decide ((L2.length : Int) ≤ m))]); rw [v1, Bool.false_and]), HFIN.out⟩
      simp [results, Tryz.results9, go_sem, r0, r1, ratOf, hne1, hne2, hne3, hne4]
end Go.Proofs.YtnpfdelklolchaaGreatDoor

/- The texts of a fraction are a ratio: plain. -/
namespace Go.Proofs.YtnpfdelklolchaaGreatDoor
open Go

end Go.Proofs.YtnpfdelklolchaaGreatDoor

/- Rows of numbers in memory ([]nat.Nat): every cell of such a row is a slice, so no number lies in the row's own block. -/
namespace Go.Proofs.YtnpfdelklolchaaGreatDoor
open Go Go.RowKit Go.Proofs

/-- a number in memory -/
structure Nm where
  A : Option Addr
  c : Nat
  l : List Nat
  x : Nat
instance : Inhabited Nm := ⟨⟨none, 0, [], 0⟩⟩
def Nm.v (h : Nm) : Value := .slice h.A h.l.length h.c
def nmCells (l : List Nm) : List Value := l.map (·.v)
def nmVals (l : List Nm) : List Nat := l.map (·.x)
theorem nmCells_length (l : List Nm) : (nmCells l).length = l.length := by simp [nmCells]
theorem nmVals_length (l : List Nm) : (nmVals l).length = l.length := by simp [nmVals]
/-- a row of numbers of one's own; its spare cells are empty slices -/
def RowS (w : World) (base : Nat) (e : TypeId) (v : Value) (xs : List Nm) : Prop :=
  (v = .slice none 0 0 ∧ xs = []) ∨
  ∃ g cap, v = .slice (some ⟨g, 0, none⟩) xs.length cap ∧ base ≤ g ∧ w.heap[g]? = some (.cells (nmCells xs ++ List.replicate (cap - xs.length) (Value.slice none 0 0)).toArray e (0, 0)) ∧ xs.length ≤ cap ∧ cap ≤ maxLen
section
variable {w w' : World} {base : Nat} {e : TypeId} {v : Value} {xs : List Nm}
theorem RowS.nil : RowS w base e (.slice none 0 0) [] := .inl ⟨rfl, rfl⟩
theorem RowS.own (h : RowS w base e v xs) : w.ownsRow base e 1 v xs.length (nmCells xs) := by
  refine ⟨by simp [nmCells], ?_⟩
  rcases h with ⟨rfl, rfl⟩ | ⟨g, cap, rfl, hb, hg, h1, h2⟩
  · exact .inl ⟨rfl, rfl⟩
  · refine .inr ⟨g, cap, _, rfl, hb, hg, h1, h2, ?_, ?_⟩
    · simp [nmCells]; omega
    · rw [Nat.mul_one, List.take_append_of_le_length (by simp [nmCells]), List.take_of_length_le (by simp [nmCells])]
theorem RowS.fr {may : Nat → Prop} (h : RowS w base e v xs) (hf : Fr may w w') (hm : ∀ i, some i = v.ownBlock → ¬ may i) : RowS w' base e v xs := by
  rcases h with h0 | ⟨g, cap, hv, hb, hh, hr⟩
  · exact .inl h0
  · exact .inr ⟨g, cap, hv, hb, (hf.block g (heap_lt hh) (hm g (by rw [hv]; rfl))).trans hh, hr⟩
theorem RowS.block (h : RowS w base e v xs) {i : Nat} (hi : some i = v.ownBlock) : base ≤ i ∧ i < w.heap.size := ownsRow_block h.own hi
theorem RowS.below (h : RowS w base e v xs) (hb : Below w.heap.size w w') : RowS w' base e v xs :=
  h.fr (Fr.of_below hb) (fun i hi hm => by have := (h.block hi).2; omega)
theorem RowS.alloc (h : RowS w base e v xs) (o : Obj) : RowS (w.alloc o) base e v xs := h.below ((Below.refl _ _).alloc (Nat.le_refl _) _)
theorem RowS.mono {base' : Nat} (h : RowS w base e v xs) (hb : base' ≤ base) : RowS w base' e v xs := by
  rcases h with h0 | ⟨g, cap, hv, hg, hr⟩
  · exact .inl h0
  · exact .inr ⟨g, cap, hv, Nat.le_trans hb hg, hr⟩
theorem RowS.of_new (w : World) (base : Nat) (e : TypeId) (ys : List Nm) (cap : Nat) (cs : Array Value) (hb : base ≤ w.heap.size) (hcs : cs.toList = nmCells ys ++ List.replicate (cap - ys.length) (Value.slice none 0 0)) (h1 : ys.length ≤ cap) (h2 : cap ≤ maxLen) :
    RowS (w.alloc (.cells cs e)) base e (.slice (some ⟨w.heap.size, 0, none⟩) ys.length cap) ys := by
  refine .inr ⟨w.heap.size, cap, rfl, hb, ?_, h1, h2⟩
  rw [alloc_at _ _ _ rfl]
  congr 2
  rw [← hcs]
theorem grown_new (w : World) (v : Value) (o : Obj) : w.grownBy (w.drew.alloc o) v.ownBlock :=
  ⟨rfl, rfl, rfl, by simp, fun k hk _ => Below.heap_alloc w.drew _ k hk⟩
/-- a cell of the row's block is a slice -/
theorem RowS.cells (hr : RowS w base e v xs) {b j : Nat} {u : Value} (hv : v.ownBlock = some b) (hc : w.cell? ⟨b, j, none⟩ = some u) : ∃ A n c, u = .slice A n c := by
  rcases hr with ⟨rfl, _⟩ | ⟨g, cap, rfl, _, hg, hnc, _⟩
  · cases hv
  · simp only [Value.ownBlock, Option.some.injEq] at hv
    subst hv
    rw [cellsAt hg, List.getElem?_toArray] at hc
    have hm := List.mem_of_getElem? hc
    rcases List.mem_append.1 hm with hm | hm
    · unfold nmCells at hm
      obtain ⟨y, _, rfl⟩ := List.mem_map.1 hm
      exact ⟨_, _, _, rfl⟩
    · rw [List.eq_of_mem_replicate hm]; exact ⟨_, _, _, rfl⟩
/-- words read apart from the row's block -/
theorem rd_rows {A : Option Addr} {n : Nat} {ys : List Value} (h : Rd w 0 w.heap.size 1 A n ys) (hy : ∀ u ∈ ys, ∃ k z, u = .int k z) (hr : RowS w base e v xs) (hg : w.grownBy w' v.ownBlock) : Rd w' 0 w'.heap.size 1 A n ys := by
  refine ⟨h.1, fun hl => ?_⟩
  obtain ⟨b, o, e', h1, h2, hc⟩ := h.2 hl
  refine ⟨b, o, e', h1, Nat.lt_of_lt_of_le h2 hg.size, fun j u hj => ?_⟩
  rw [← hc j u hj]
  refine World.cell?_of_block (hg.block b h2 (fun hb => ?_))
  obtain ⟨A', n', c', hu⟩ := hr.cells hb.symm (hc j u hj)
  obtain ⟨k, z, hu'⟩ := hy u (List.mem_of_getElem? hj)
  rw [hu] at hu'; cases hu'
theorem RNatR.rows {A : Option Addr} {c x : Nat} {l : List Nat} (h : RNatR w A c l x) (hr : RowS w base e v xs) (hg : w.grownBy w' v.ownBlock) : RNatR w' A c l x :=
  ⟨rd_rows h.rd (fun u hu => by unfold d4s at hu; obtain ⟨d, _, rfl⟩ := List.mem_map.1 hu; exact ⟨_, _, rfl⟩) hr hg, h.norm, h.val, h.cap, h.max, h.nil⟩
theorem NatR.rows {A : Option Addr} {c x : Nat} {l : List Nat} (h : NatR w A c l x) (hr : RowS w base e v xs) (hg : w.grownBy w' v.ownBlock) : NatR w' A c l x :=
  ⟨rd_rows h.rd (fun u hu => by unfold u64s at hu; obtain ⟨d, _, rfl⟩ := List.mem_map.1 hu; exact ⟨_, _, rfl⟩) hr hg, h.norm, h.val, h.cap, h.max, h.nil⟩
end
/-- a row of base-10000 numbers of one's own, with its numbers -/
def RowR (w : World) (base : Nat) (e : TypeId) (v : Value) (xs : List Nm) : Prop := RowS w base e v xs ∧ ∀ h ∈ xs, RNatR w h.A h.c h.l h.x
/-- a row of base-2^64 numbers of one's own, with its numbers -/
def RowN (w : World) (base : Nat) (e : TypeId) (v : Value) (xs : List Nm) : Prop := RowS w base e v xs ∧ ∀ h ∈ xs, NatR w h.A h.c h.l h.x
section
variable {w w' : World} {base : Nat} {e : TypeId} {v v' : Value} {xs : List Nm} {y : Nm}
theorem RowR.nil : RowR w base e (.slice none 0 0) [] := ⟨.nil, fun _ h => by cases h⟩
theorem RowN.nil : RowN w base e (.slice none 0 0) [] := ⟨.nil, fun _ h => by cases h⟩
theorem RowR.call (h : RowR w base e v xs) (hb : Below w.heap.size w w') : RowR w' base e v xs := ⟨h.1.below hb, fun y hy => (h.2 y hy).on hb⟩
theorem RowN.call (h : RowN w base e v xs) (hb : Below w.heap.size w w') : RowN w' base e v xs := ⟨h.1.below hb, fun y hy => (h.2 y hy).on hb⟩
theorem RowR.app (h : RowR w base e v xs) (hy : RNatR w y.A y.c y.l y.x) (h' : RowS w' base e v' (xs ++ [y])) (hg : w.grownBy w' v.ownBlock) : RowR w' base e v' (xs ++ [y]) := by
  refine ⟨h', fun z hz => ?_⟩
  rw [List.mem_append, List.mem_singleton] at hz
  rcases hz with hz | rfl
  · exact (h.2 z hz).rows h.1 hg
  · exact hy.rows h.1 hg
theorem RowN.app (h : RowN w base e v xs) (hy : NatR w y.A y.c y.l y.x) (h' : RowS w' base e v' (xs ++ [y])) (hg : w.grownBy w' v.ownBlock) : RowN w' base e v' (xs ++ [y]) := by
  refine ⟨h', fun z hz => ?_⟩
  rw [List.mem_append, List.mem_singleton] at hz
  rcases hz with hz | rfl
  · exact (h.2 z hz).rows h.1 hg
  · exact hy.rows h.1 hg
end
/-- a slice of numbers, as it is read -/
def SeqR (w : World) (A : Option Addr) (n : Nat) (xs : List Nm) : Prop := Rd w 0 w.heap.size 1 A n (nmCells xs) ∧ ∀ h ∈ xs, RNatR w h.A h.c h.l h.x
def SeqN (w : World) (A : Option Addr) (n : Nat) (xs : List Nm) : Prop := Rd w 0 w.heap.size 1 A n (nmCells xs) ∧ ∀ h ∈ xs, NatR w h.A h.c h.l h.x
section
variable {w w' : World} {base n : Nat} {e : TypeId} {A : Option Addr} {v : Value} {xs : List Nm}
theorem SeqR.len (h : SeqR w A n xs) : xs.length = n := by have := h.1.1; rw [nmCells_length] at this; omega
theorem SeqN.len (h : SeqN w A n xs) : xs.length = n := by have := h.1.1; rw [nmCells_length] at this; omega
theorem SeqR.call (h : SeqR w A n xs) (hb : Below w.heap.size w w') : SeqR w' A n xs := ⟨h.1.old hb, fun y hy => (h.2 y hy).on hb⟩
theorem SeqN.call (h : SeqN w A n xs) (hb : Below w.heap.size w w') : SeqN w' A n xs := ⟨h.1.old hb, fun y hy => (h.2 y hy).on hb⟩
theorem rd_cell {i : Nat} (h : Rd w 0 w.heap.size 1 A n (nmCells xs)) (hi : i < n) : ∃ b o y, A = some ⟨b, o, none⟩ ∧ b < w.heap.size ∧ xs[i]? = some y ∧ w.cell? ⟨b, o + i, none⟩ = some y.v := by
  have hl : xs.length = n := by have := h.1; rw [nmCells_length] at this; omega
  obtain ⟨b, o, u, e, hb, hu, hc⟩ := h.at1 hi
  obtain ⟨s, hs⟩ : ∃ s, xs[i]? = some s := ⟨xs[i]'(by omega), List.getElem?_eq_getElem (by omega)⟩
  have hu' : (nmCells xs)[i]? = some s.v := by unfold nmCells; rw [List.getElem?_map, hs]; rfl
  rw [hu'] at hu
  obtain rfl := Option.some.inj hu
  exact ⟨b, o, s, e, hb, hs, hc⟩
theorem SeqR.at {i : Nat} (h : SeqR w A n xs) (hi : i < n) : ∃ b o y, A = some ⟨b, o, none⟩ ∧ b < w.heap.size ∧ xs[i]? = some y ∧ w.cell? ⟨b, o + i, none⟩ = some (.slice y.A y.l.length y.c) ∧ RNatR w y.A y.c y.l y.x := by
  obtain ⟨b, o, y, e, hb, hs, hc⟩ := rd_cell h.1 hi
  exact ⟨b, o, y, e, hb, hs, hc, h.2 y (List.mem_of_getElem? hs)⟩
theorem SeqN.at {i : Nat} (h : SeqN w A n xs) (hi : i < n) : ∃ b o y, A = some ⟨b, o, none⟩ ∧ b < w.heap.size ∧ xs[i]? = some y ∧ w.cell? ⟨b, o + i, none⟩ = some (.slice y.A y.l.length y.c) ∧ NatR w y.A y.c y.l y.x := by
  obtain ⟨b, o, y, e, hb, hs, hc⟩ := rd_cell h.1 hi
  exact ⟨b, o, y, e, hb, hs, hc, h.2 y (List.mem_of_getElem? hs)⟩
theorem RowR.seq (h : RowR w base e v xs) : ∃ A c, v = .slice A xs.length c ∧ SeqR w A xs.length xs := by
  obtain ⟨A, cap, rfl, _⟩ := ownsRow_shape h.1.own
  exact ⟨A, cap, rfl, (Rd.of_own h.1.own).more (Nat.zero_le _) (Nat.le_refl _), h.2⟩
theorem RowN.seq (h : RowN w base e v xs) : ∃ A c, v = .slice A xs.length c ∧ SeqN w A xs.length xs := by
  obtain ⟨A, cap, rfl, _⟩ := ownsRow_shape h.1.own
  exact ⟨A, cap, rfl, (Rd.of_own h.1.own).more (Nat.zero_le _) (Nat.le_refl _), h.2⟩
end
end Go.Proofs.YtnpfdelklolchaaGreatDoor
