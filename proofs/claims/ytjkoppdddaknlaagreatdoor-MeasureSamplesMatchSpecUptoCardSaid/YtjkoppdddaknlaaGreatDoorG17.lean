import Derived.Test.YtjkoppdddaknlaaGreatDoorG16
import Derived.Test.YtjkoppdddaknlaaGreatDoorG4
/- Words for lists of samples in memory; a list of samples that is an argument of a law, opened. -/
namespace Go.Proofs.YtjkoppdddaknlaaGreatDoor
open Go Go.ChangeShapes Go.WideShapes Go.ChangeAt Go.RowKit Go.Deep Go.Joins

/-- pairs of texts as cells -/
def strs2 (l : List (ByteArray × ByteArray)) : List Value := l.flatMap fun s => [.string s.1, .string s.2]
theorem strs2_length (l : List (ByteArray × ByteArray)) : (strs2 l).length = l.length * 2 := flat_length _ 2 (fun _ => rfl) l

/-- a sample: when it began, how long it took, its labels, whether it failed -/
structure Smp where
  a : Int
  d : Int
  A : Option Addr
  n : Nat
  c : Nat
  lab : List (ByteArray × ByteArray)
  f : Bool
instance : Inhabited Smp := ⟨⟨0, 0, none, 0, 0, [], false⟩⟩
def smpCells (l : List Smp) : List Value := l.flatMap fun s => [.int .i64 s.a, .int .i64 s.d, .slice s.A s.n s.c, .bool s.f]
theorem smpCells_length (l : List Smp) : (smpCells l).length = l.length * 4 := flat_length _ 4 (fun _ => rfl) l
/-- the slice reads as these samples -/
def SmpR (w : World) (B : Nat) (A : Option Addr) (n : Nat) (l : List Smp) : Prop :=
  Rd w 0 B 4 A n (smpCells l) ∧ ∀ s ∈ l, Rd w 0 B 2 s.A s.n (strs2 s.lab) ∧ s.n ≤ maxLen
section
variable {w w' : World} {B B' n : Nat} {A : Option Addr} {l : List Smp}
theorem SmpR.len (h : SmpR w B A n l) : l.length = n := by have := h.1.1; rw [smpCells_length] at this; omega
theorem SmpR.below (h : SmpR w B A n l) (hb : Below B' w w') (hB : B ≤ B') : SmpR w' B A n l := ⟨h.1.below hb hB, fun s hs => ⟨(h.2 s hs).1.below hb hB, (h.2 s hs).2⟩⟩
theorem SmpR.more (h : SmpR w B A n l) (hB : B ≤ B') : SmpR w B' A n l := ⟨h.1.more (Nat.le_refl _) hB, fun s hs => ⟨(h.2 s hs).1.more (Nat.le_refl _) hB, (h.2 s hs).2⟩⟩
theorem SmpR.old (h : SmpR w w.heap.size A n l) (hb : Below w.heap.size w w') : SmpR w' w'.heap.size A n l := (h.below hb (Nat.le_refl _)).more hb.size
theorem SmpR.at {i : Nat} (h : SmpR w B A n l) (hi : i < n) : ∃ b o s, A = some ⟨b, o, none⟩ ∧ b < B ∧ l[i]? = some s ∧ w.cell? ⟨b, o + i * 4, none⟩ = some (.int .i64 s.a) ∧ w.cell? ⟨b, o + i * 4 + 1, none⟩ = some (.int .i64 s.d) ∧
    w.cell? ⟨b, o + i * 4 + 2, none⟩ = some (.slice s.A s.n s.c) ∧ w.cell? ⟨b, o + i * 4 + 3, none⟩ = some (.bool s.f) := by
  obtain ⟨b, o, e, _, hb, hc⟩ := h.1.2 (by omega)
  have hl := h.len
  obtain ⟨s, hs⟩ : ∃ s, l[i]? = some s := ⟨l[i]'(by omega), List.getElem?_eq_getElem (by omega)⟩
  have g : ∀ j, j < 4 → (smpCells l)[i * 4 + j]? = _ := fun j hj => flat_get _ 4 (fun _ => rfl) l i j hj s hs
  refine ⟨b, o, s, e, hb, hs, ?_, ?_, ?_, ?_⟩
  · have := hc (i * 4 + 0) _ (g 0 (by omega)); simpa using this
  · have := hc (i * 4 + 1) _ (g 1 (by omega)); simpa [Nat.add_assoc] using this
  · have := hc (i * 4 + 2) _ (g 2 (by omega)); simpa [Nat.add_assoc] using this
  · have := hc (i * 4 + 3) _ (g 3 (by omega)); simpa [Nat.add_assoc] using this
theorem rd_strs {i : Nat} {lab : List (ByteArray × ByteArray)} (h : Rd w 0 B 2 A n (strs2 lab)) (hi : i < n) : ∃ b o x y, A = some ⟨b, o, none⟩ ∧ b < B ∧ lab[i]? = some (x, y) ∧ w.cell? ⟨b, o + i * 2, none⟩ = some (.string x) ∧ w.cell? ⟨b, o + i * 2 + 1, none⟩ = some (.string y) := by
  obtain ⟨b, o, e, _, hb, hc⟩ := h.2 (by omega)
  have hl : lab.length = n := by have := h.1; rw [strs2_length] at this; omega
  obtain ⟨⟨x, y⟩, hs⟩ : ∃ s, lab[i]? = some s := ⟨lab[i]'(by omega), List.getElem?_eq_getElem (by omega)⟩
  have g : ∀ j, j < 2 → (strs2 lab)[i * 2 + j]? = _ := fun j hj => flat_get _ 2 (fun _ => rfl) lab i j hj _ hs
  refine ⟨b, o, x, y, e, hb, hs, ?_, ?_⟩
  · have := hc (i * 2 + 0) _ (g 0 (by omega)); simpa using this
  · have := hc (i * 2 + 1) _ (g 1 (by omega)); simpa [Nat.add_assoc] using this
end

theorem cellsS : Tryz.prog.cellsOf 9 = 1 := by kernel_rfl
theorem cellsP : Tryz.prog.cellsOf 85 = 2 := by kernel_rfl
theorem cellsSmp : Tryz.prog.cellsOf 52 = 4 := by kernel_rfl
theorem cellsPs : Tryz.prog.cellsOf 50 = 1 := by kernel_rfl
theorem cellsBo : Tryz.prog.cellsOf 4 = 1 := by kernel_rfl
section
variable {H : Type} {enc : TypeId × Value → H} {W : World} {base : Nat}
end
end Go.Proofs.YtjkoppdddaknlaaGreatDoor

/- checkSamples: what it returns. -/
namespace Go.Proofs.YtjkoppdddaknlaaGreatDoor
open Go Go.RowKit Go.Proofs

/-- one text is at most another one -/
def strLeq (x y : ByteArray) : Bool := Op.bytesLess x.toList y.toList || x.toList == y.toList
/-- a label out of order -/
def ordBad (lab : List (ByteArray × ByteArray)) (i : Nat) : Bool := strLeq (lab.getD i default).1 (lab.getD (i - 1) default).1
def codeL (lab : List (ByteArray × ByteArray)) : Int := if (List.range lab.length).any (fun i => decide (1 ≤ i) && ordBad lab i) then 10 else 0
def badT (a d : Int) : Prop := a < 0 ∨ 1000000000000 < a ∨ d < 0 ∨ 1000000000000 < d
instance (a d : Int) : Decidable (badT a d) := by unfold badT; infer_instance
def codeSmp (s : Smp) : Int := if badT s.a s.d then 9 else codeL s.lab
/-- what checkSamples returns -/
def codeS (n : Nat) (l : List Smp) : Int := if 20000 < n then 3 else ((l.find? (fun s => codeSmp s != 0)).map codeSmp).getD 0
theorem codeL_at {lab : List (ByteArray × ByteArray)} {i : Nat} (h1 : 1 ≤ i) (h2 : i < lab.length) (h3 : ordBad lab i = true) : codeL lab = 10 := by
  unfold codeL; rw [if_pos]
  rw [List.any_eq_true]
  exact ⟨i, by simpa using h2, by simp [h1, h3]⟩
theorem codeL_end {lab : List (ByteArray × ByteArray)} (h : ∀ i, 1 ≤ i → i < lab.length → ordBad lab i = false) : codeL lab = 0 := by
  unfold codeL; rw [if_neg]
  rw [List.any_eq_true]
  rintro ⟨i, hi, hx⟩
  simp only [List.mem_range] at hi
  simp only [Bool.and_eq_true, decide_eq_true_eq] at hx
  rw [h i hx.1 hi] at hx
  cases hx.2
theorem codeS_at {n : Nat} {l : List Smp} {k : Nat} {s : Smp} (hn : ¬ 20000 < n) (hs : l[k]? = some s) (ho : ∀ x ∈ l.take k, codeSmp x = 0) (hb : codeSmp s ≠ 0) : codeS n l = codeSmp s := by
  unfold codeS; rw [if_neg hn]
  have hk := (List.getElem?_eq_some_iff.1 hs)
  have e : l = l.take k ++ s :: l.drop (k + 1) := by
    conv => lhs; rw [← List.take_append_drop k l, List.drop_eq_getElem_cons hk.1, hk.2]
  have h1 : (l.take k).find? (fun s => codeSmp s != 0) = none := by
    rw [List.find?_eq_none]; intro x hx; simp [ho x hx]
  rw [e, List.find?_append, h1]
  simp [hb]
theorem codeS_end {n : Nat} {l : List Smp} (hn : ¬ 20000 < n) (ho : ∀ x ∈ l, codeSmp x = 0) : codeS n l = 0 := by
  unfold codeS; rw [if_neg hn]
  have h1 : l.find? (fun s => codeSmp s != 0) = none := by
    rw [List.find?_eq_none]; intro x hx; simp [ho x hx]
  rw [h1]; rfl
theorem codeS_zero {n : Nat} {l : List Smp} (h : codeS n l = 0) : n ≤ 20000 ∧ ∀ s ∈ l, 0 ≤ s.a ∧ s.a ≤ 1000000000000 ∧ 0 ≤ s.d ∧ s.d ≤ 1000000000000 := by
  unfold codeS at h
  split at h
  · omega
  · refine ⟨by omega, fun s hs => ?_⟩
    cases hf : l.find? (fun s => codeSmp s != 0) with
    | some x =>
      rw [hf] at h
      have := List.find?_some hf
      simp at this h
      exact absurd h this
    | none =>
      rw [List.find?_eq_none] at hf
      have := hf s hs
      simp at this
      unfold codeSmp at this
      split at this
      · omega
      · rename_i hb; unfold badT at hb; omega

set_option maxHeartbeats 2000000 in
set_option maxRecDepth 100000 in
theorem checkSamples_any (A : Option Addr) (n c : Nat) (l : List Smp) (w : World) (hr : SmpR w w.heap.size A n l) (hn : n ≤ maxLen) :
    Calls Tryz.prog 16 #[.slice A n c] w fun e w' => e = .returned (.int .i64 (codeS n l)) ∧ Below w.heap.size w w' := by
  have hl := hr.len
  unfold maxLen at hn
  have HR := Lib.hid hr
  have HL := Lib.hid hl
  clear hr hl
  by_cases h1 : 20000 < n
  · have HC := Lib.hid (show codeS n l = 3 by unfold codeS; rw [if_pos h1])
    go_enter Tryz.func16, Tryz.ntmps16
    go_wp2
    go_ret
    exact ⟨by rw [HC.out]; rfl, Below.refl _ _⟩
  · go_enter Tryz.func16, Tryz.ntmps16
    go_wp2
    go_loopw [4, 5, 11] (fun _ _ i wr => ∃ k : Nat, k ≤ n ∧ i = .int .i64 k ∧ (∀ s ∈ l.take k, codeSmp s = 0) ∧ Below w.heap.size w wr) (fun _ _ i _ => n - (intOf i).toNat)
    case atStart => exact ⟨0, Nat.zero_le _, rfl, by simp, Below.refl _ _⟩
    case round =>
      obtain ⟨wo, hwo⟩ : ∃ wo : World, wo = wr := ⟨_, rfl⟩
      subst hwo
      obtain ⟨k, hk, rfl, hok, hbw⟩ := hrel
      have HOK := Lib.hid hok
      have hsw := hbw.size
      clear hok
      by_cases hlt : k < n
      · obtain ⟨bk, o, ⟨a, d, sA, sn, sc, lab, sf⟩, rfl, hbk, hs, c0, c1, c2, c3⟩ := (HR.out.below hbw (Nat.le_refl _)).at hlt
        simp only at c0 c1 c2 c3
        obtain ⟨hrl, hsn⟩ := HR.out.2 _ (List.mem_of_getElem? hs)
        simp only at hrl hsn
        unfold maxLen at hsn
        have hll : lab.length = sn := by have := hrl.1; rw [strs2_length] at this; omega
        have HLL := Lib.hid hll
        have hne : bk ≠ wo.heap.size := by omega
        have hbl : bk < wo.heap.size := by omega
        have HS := Lib.hid hs
        have HB := Lib.hid hbw
        have HRL := Lib.hid hrl
        clear hs hbw hrl hll
        by_cases hbad : badT a d
        · have HC := Lib.hid (show codeS n l = 9 from (codeS_at h1 HS.out HOK.out (by unfold codeSmp; rw [if_pos hbad]; omega)).trans (by unfold codeSmp; rw [if_pos hbad]))
          have fin : ∀ (ob : Obj) q, Below w.heap.size w ((wo.alloc ob).drewN q) := fun ob q => below_drewN (HB.out.alloc hsw ob) q
          by_cases d1 : a < 0
          · have d1' : decide (a < 0) = true := by simpa using d1
            go_wp2
            go_ret
            exact ⟨by rw [HC.out]; rfl, by first | exact HB.out.alloc hsw _ | exact fin _ _⟩
          · have d1' : decide (a < 0) = false := by simpa using d1
            by_cases d2 : 1000000000000 < a
            · have d2' : decide (1000000000000 < a) = true := by simpa using d2
              go_wp2
              go_ret
              exact ⟨by rw [HC.out]; rfl, by first | exact HB.out.alloc hsw _ | exact fin _ _⟩
            · have d2' : decide (1000000000000 < a) = false := by simpa using d2
              by_cases d3 : d < 0
              · have d3' : decide (d < 0) = true := by simpa using d3
                go_wp2
                go_ret
                exact ⟨by rw [HC.out]; rfl, by first | exact HB.out.alloc hsw _ | exact fin _ _⟩
              · have d3' : decide (d < 0) = false := by simpa using d3
                have d4 : 1000000000000 < d := by unfold badT at hbad; omega
                have d4' : decide (1000000000000 < d) = true := by simpa using d4
                clear hbad
                go_wp2
                go_ret
                exact ⟨by rw [HC.out]; rfl, by first | exact HB.out.alloc hsw _ | exact fin _ _⟩
        · have d1' : decide (a < 0) = false := by unfold badT at hbad; simp; omega
          have d2' : decide (1000000000000 < a) = false := by unfold badT at hbad; simp; omega
          have d3' : decide (d < 0) = false := by unfold badT at hbad; simp; omega
          have d4' : decide (1000000000000 < d) = false := by unfold badT at hbad; simp; omega
          have HCS := Lib.hid (show codeSmp ⟨a, d, sA, sn, sc, lab, sf⟩ = codeL lab by unfold codeSmp; rw [if_neg hbad])
          clear hbad
          obtain ⟨W2, hW2⟩ : ∃ W2, W2 = wo.alloc (.cells #[.int .i64 a, .int .i64 d, .slice sA sn sc, .bool sf] 52) := ⟨_, rfl⟩
          have HST := Lib.hid (show St wo W2 [(wo.heap.size, .cells #[.int .i64 a, .int .i64 d, .slice sA sn sc, .bool sf] 52 (0, 0))] by rw [hW2]; exact (St.start wo).alloc _ _ rfl)
          have HBW2 := Lib.hid (show Below w.heap.size w W2 from HB.out.trans (HST.out.below.mono hsw))
          go_wp2
          rw [← hW2]
          clear hW2
          go_loopw [5] (fun i wq => ∃ j : Nat, (j ≤ sn ∨ j = 1) ∧ 1 ≤ j ∧ i = .int .i64 j ∧ (∀ i', 1 ≤ i' → i' < j → ordBad lab i' = false) ∧ Below W2.heap.size W2 wq) (fun i _ => sn - (intOf i).toNat)
          case atStart => exact ⟨1, .inr rfl, Nat.le_refl _, rfl, fun i' h1 h2 => by omega, Below.refl _ _⟩
          case round =>
            obtain ⟨j, hj1, hj2, rfl, hjo, hbq⟩ := hrel
            have HJO := Lib.hid hjo
            have HBQ := Lib.hid hbq
            have hsz2 := hbq.size
            have hszW := HST.out.lt 0 rfl
            have k2 : wr.cell? ⟨wo.heap.size, 2, none⟩ = some (.slice sA sn sc) := (HST.out.call hbq).cell 0 2 rfl rfl
            have HBQ' := Lib.hid (show Below w.heap.size w wr from HBW2.out.trans (hbq.mono HBW2.out.size))
            clear hjo hbq
            by_cases hjl : j < sn
            · have hrl' := HRL.out.below HBQ'.out (Nat.le_refl _)
              obtain ⟨b1, o1, x, y, rfl, hb1, hxy, cx, _⟩ := rd_strs hrl' hjl
              obtain ⟨b2, o2, x', y', e, hb2, hxy', cx', _⟩ := rd_strs hrl' (show j - 1 < sn by omega)
              cases e
              have hob : ordBad lab j = strLeq x x' := by unfold ordBad; rw [List.getD_eq_getElem?_getD, hxy, List.getD_eq_getElem?_getD, hxy']; rfl
              have HOB := Lib.hid hob
              clear hrl' hxy hxy' hob
              have hw1 : IntKind.i64.wrap ((j : Int) - 1) = (j : Int) - 1 := IntWalk.i64_in _ (by omega)
              have hw2 : ((j : Int) - 1).toNat = j - 1 := by omega
              have hk1 : (0 : Int) ≤ (j : Int) - 1 := by omega
              have hk3 : (j : Int) - 1 < (sn : Int) := by omega
              have hneb : b1 ≠ wo.heap.size := by omega
              cases hle : strLeq x x' with
              | true =>
                have hle' : (Op.bytesLess x.toList x'.toList || x.toList == x'.toList) = true := hle
                have HC := Lib.hid (show codeS n l = 10 from (codeS_at h1 HS.out HOK.out (by rw [HCS.out, codeL_at hj2 (by rw [HLL.out]; exact hjl) (HOB.out.trans hle)]; omega)).trans (HCS.out.trans (codeL_at hj2 (by rw [HLL.out]; exact hjl) (HOB.out.trans hle))))
                clear hle
                go_wp2
                go_quiet (fail)
                go_wp2
                go_ret
                exact ⟨by rw [HC.out]; rfl, by first | exact HBQ'.out | exact below_drewN HBQ'.out _⟩
              | false =>
                have hle' : (Op.bytesLess x.toList x'.toList || x.toList == x'.toList) = false := hle
                clear hle
                go_wp2
                go_quiet (fail)
                clear hw1 hw2
                go_wp2
                go_roundw
                case rel => exact ⟨j + 1, .inl (by omega), by omega, by go_num, fun i' g1 g2 => by
                              by_cases e : i' = j
                              · subst e; exact HOB.out.trans hle'
                              · exact HJO.out i' g1 (by omega), by first | exact HBQ.out | exact below_drewN HBQ.out _⟩
                case measure => simp [intOf]; omega
            · have HN := Lib.hid (show codeSmp ⟨a, d, sA, sn, sc, lab, sf⟩ = 0 from HCS.out.trans (codeL_end (fun i' g1 g2 => HJO.out i' g1 (by have := HLL.out; omega))))
              go_wp2
              go_roundw
              case rel => exact ⟨k + 1, by omega, by go_num, fun s hs => by
                            rw [List.take_add_one, HS.out] at hs
                            simp only [Option.toList_some, List.mem_append, List.mem_singleton] at hs
                            rcases hs with hs | rfl
                            · exact HOK.out s hs
                            · exact HN.out, HBQ'.out⟩
              case measure => simp [intOf]; omega
      · have HC := Lib.hid (show codeS n l = 0 from codeS_end h1 (by have := HOK.out; rwa [List.take_of_length_le (by have := HL.out; omega)] at this))
        go_wp2
        go_ret
        exact ⟨by rw [HC.out]; rfl, hbw⟩
end Go.Proofs.YtjkoppdddaknlaaGreatDoor
