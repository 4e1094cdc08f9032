import Derived.Test.YtjkoppdddaknlaaGreatDoorRegLast
import Derived.Test.YtjkoppdddaknlaaGreatDoorProg
import Derived.Test.YtjkoppdddaknlaaGreatDoorStbRot
import Derived.Test.YtjkoppdddaknlaaGreatDoorStbMath
import Derived.Test.YtjkoppdddaknlaaGreatDoorG4
import Derived.Deep.RegionHeld3
import Derived.Handy
import Derived.BigQuiet
import Derived.Deep.QuietTactic
import Derived.StillTailTactics
import Derived.Shelf.RegionOpenPlain
/- One operation of a drawn region, where it comes up: what it does as a closed fact for the kernel. No program in sight. -/
namespace Go.Proofs.YtjkoppdddaknlaaGreatDoor
open Go Go.RowKit

section
variable {P : Program} {Q : Exit → Act → World → Prop}
end
end Go.Proofs.YtjkoppdddaknlaaGreatDoor

/- Rows of numbers (one cell each) of the call's own, with the closure by which measure.Worst sorts them. -/
namespace Go.Proofs.YtjkoppdddaknlaaGreatDoor
open Go Go.RowKit Go.Proofs

section
variable {P : Program} {Q : Exit → Act → World → Prop} {md : Region.Mode} {ops : Array Oper} {S : World → Prop}
theorem run_oneG {i : Nat} {o : Oper} {fuel : Nat} {listed : Array Bool} {a : Act} {w : World} (hr : Region.ready md ops listed = [i]) (ho : ops[i]? = some o) (hg : Region.wanted o (yielded ops a.tmps) = true)
    (h : ∀ K : Act → World → Prop, Hid (∀ a' w', S w' → (S w' → wpAnyH P md ops Q S fuel (listed.setIfInBounds i true) a' w') → K a' w') → o.wp P a w K Q) : wpAnyH P md ops Q S (fuel + 1) listed a w := by
  refine wpAnyH_all (rs := [i]) hr (by simp) fun j hj => ?_
  obtain rfl : j = i := by simpa using hj
  unfold wpOp
  rw [ho]
  simp only [hg, if_true]
  exact .inl (h _ (fun a' w' h1 h2 => ⟨h1, h2 h1⟩))
end
theorem Fr.of_b {may : Nat → Prop} {w w' : World} (h : Below w.heap.size w w') : Fr may w w' := ⟨h.os, h.tape, h.output, h.size, fun i hi _ => h.block i hi⟩
theorem PermOn.all {α : Type} {l l' : List α} {a b : Nat} (h : PermOn l l' a b) (hab : a ≤ b) : l.Perm l' := by
  have e1 : l'.take a = l.take a := by
    apply List.ext_getElem?
    intro k
    rcases Nat.lt_or_ge k a with h1 | h1
    · rw [List.getElem?_take_of_lt h1, List.getElem?_take_of_lt h1, h.out k (.inl h1)]
    · rw [List.getElem?_take_eq_none h1, List.getElem?_take_eq_none h1]
  have e2 : l'.drop b = l.drop b := by
    apply List.ext_getElem?
    intro k
    rw [List.getElem?_drop, List.getElem?_drop, h.out _ (.inr (by omega))]
  rw [← sgm_split (l := l) hab, ← sgm_split (l := l') hab, e1, e2]
  exact ((List.Perm.refl _).append h.perm).append (List.Perm.refl _)
/-- numbers as cells -/
def izC (l : List Nat) : List Value := l.map fun (x : Nat) => .int .i64 (x : Int)
/-- block g begins with these numbers -/
def RowI (w : World) (g : Nat) (l : List Nat) : Prop := ∃ cur, w.heap[g]? = some (.cells cur 3 (0, 0)) ∧ l.length ≤ cur.size ∧ cur.toList.take l.length = izC l
section
variable {w w' : World} {g i j : Nat} {l : List Nat}
theorem RowI.at (h : RowI w g l) {s : Nat} (hs : l[i]? = some s) : w.cell? ⟨g, i, none⟩ = some (.int .i64 (s : Int)) := by
  obtain ⟨cur, h1, h2, h3⟩ := h
  have hl := (List.getElem?_eq_some_iff.1 hs).1
  have hz : (izC l)[i]? = some (.int .i64 (s : Int)) := by unfold izC; rw [List.getElem?_map, hs]; rfl
  rw [cellsAt h1, ← Array.getElem?_toList]
  rw [← h3, List.getElem?_take_of_lt hl] at hz
  exact hz
theorem RowI.frozen (h : RowI w g l) (j : Nat) : w.frozen? ⟨g, j, none⟩ = false := by
  obtain ⟨cur, h1, _⟩ := h
  exact frozenAt h1 j
theorem RowI.lt (h : RowI w g l) : g < w.heap.size := by
  obtain ⟨cur, h1, _⟩ := h
  exact heap_lt h1
theorem RowI.on (h : RowI w g l) (hb : Below w.heap.size w w') : RowI w' g l := by
  obtain ⟨cur, h1, h2⟩ := h
  exact ⟨cur, (hb.block g (heap_lt h1)).trans h1, h2⟩
theorem RowI.set (h : RowI w g l) (s : Nat) : RowI (w.setCell ⟨g, i, none⟩ (.int .i64 (s : Int))) g (l.set i s) := by
  obtain ⟨cur, h1, h2, h3⟩ := h
  refine ⟨cur.setIfInBounds i (.int .i64 (s : Int)), ?_, by simpa using h2, ?_⟩
  · simp [World.setCell, Array.getElem?_modify, h1]
  · simp only [Array.toList_setIfInBounds, List.length_set]
    rw [List.take_set, h3]
    unfold izC
    rw [List.map_set]
theorem RowI.swap (h : RowI w g l) {x y : Nat} (hx : l[i]? = some x) (hy : l[j]? = some y) :
    RowI ((w.setCell ⟨g, i, none⟩ (.int .i64 (y : Int))).setCell ⟨g, j, none⟩ (.int .i64 (x : Int))) g (swL l i j) := by
  have h2 := (h.set (i := i) y).set (i := j) x
  unfold swL
  rw [hx, hy]
  exact h2
theorem iz_fr (w : World) (g i j : Nat) (a b : Value) : Fr (fun q => q = g) w ((w.setCell ⟨g, i, none⟩ a).setCell ⟨g, j, none⟩ b) :=
  ((Fr.refl (fun q => q = g) w).setCell (p := ⟨g, i, none⟩) (fun _ => rfl) _).setCell (p := ⟨g, j, none⟩) (fun _ => rfl) _
end
/-- what the closure tells of two numbers -/
def cmpW (d : Nat → Int) (x y : Nat) : Int := if d y < d x then -1 else if d x < d y then 1 else 0
theorem cmpW_iff {d : Nat → Int} {x y : Nat} : cmpW d x y < 0 ↔ d y < d x := by
  unfold cmpW
  by_cases h1 : d y < d x
  · rw [if_pos h1]; simp [h1]
  · rw [if_neg h1]
    by_cases h2 : d x < d y
    · rw [if_pos h2]; simp [h1]
    · rw [if_neg h2]; simp [h1]
theorem cmpW_lt {d : Nat → Int} {x y : Nat} (h : cmpW d x y < 0) : ltW d x y := .inl (cmpW_iff.1 h)
theorem izT (d : Nat → Int) (x y z : Nat) (h1 : ltW d x y) (h2 : ltW d y z) : ltW d x z := ltW_trans h1 h2
/-- equals stand in order, and all are numbers of samples -/
def OkI (d : Nat → Int) (N : Nat) (l : List Nat) : Prop := StbW d l ∧ ∀ x ∈ l, x < N
section
variable {d : Nat → Int} {N : Nat} {l l' l1 l2 l3 : List Nat}
theorem OkI.perm (h : OkI d N l) (hp : OkI d N l → OkI d N l') : OkI d N l' := hp h
theorem OkI.sm (h : OkI d N l) {p x : Nat} (hx : l[p]? = some x) : x < N := h.2 x (List.mem_of_getElem? hx)
theorem OkI.nlt (h : OkI d N l) {p q x y : Nat} (hpq : p < q) (hx : l[p]? = some x) (hy : l[q]? = some y) (hc : ¬ cmpW d y x < 0) : ltW d x y :=
  h.1.not hpq hx hy (fun h2 => hc (cmpW_iff.2 h2))
/-- only [i, j) is another one, of the same elements, and equals stay in order -/
structure PrmI (d : Nat → Int) (N : Nat) (l l' : List Nat) (i j : Nat) : Prop extends PermOn l l' i j where
  ok : OkI d N l → OkI d N l'
theorem PrmI.refl (l : List Nat) (i j : Nat) : PrmI d N l l i j := ⟨PermOn.refl _ _ _, fun h => h⟩
theorem PrmI.within {i j a b : Nat} (h : PrmI d N l l' i j) (hb : b ≤ l.length) (h1 : a ≤ i) (h2 : i ≤ j) (h3 : j ≤ b) : PrmI d N l l' a b := ⟨h.toPermOn.within hb h1 h2 h3, h.ok⟩
theorem PrmI.trans {i j : Nat} (h : PrmI d N l l1 i j) (g : PrmI d N l1 l2 i j) : PrmI d N l l2 i j := ⟨h.toPermOn.trans g.toPermOn, fun k => g.ok (h.ok k)⟩
theorem PrmI.all {i j : Nat} (h : PrmI d N l l' i j) (_hij : i ≤ j) : OkI d N l → OkI d N l' := h.ok
theorem PrmI.ofS {i j : Nat} (h : PermOn l l' i j) (hj : j ≤ l.length) (hij : i ≤ j) (hs : SrtOn (ltW d) l' i j) : PrmI d N l l' i j :=
  ⟨h, fun k => ⟨k.1.sorted h hj hs, fun x hx => k.2 x ((h.all hij).mem_iff.2 hx)⟩⟩
theorem PrmI.turn {s m e a b mid : Nat} (h1 : s ≤ m) (h2 : m ≤ e) (h3 : e ≤ l.length) (hc : Crs (ltW d) (rot l s m e) a mid b) (hm : s + (e - m) = mid) (ha : a ≤ s) (he : e ≤ b) (hb : b ≤ l.length) : PrmI d N l (rot l s m e) a b := by
  have hp := (rot_perm (l := l) h1 h2 h3).within (a := a) (b := b) hb ha (by omega) he
  have hl := rot_length (l := l) h1 h2 h3
  refine ⟨hp, fun k => ⟨k.1.turn h1 h2 h3 fun p q x y p1 p2 q1 q2 hx hy => ?_, fun x hx => k.2 x ((hp.all (by omega)).mem_iff.2 hx)⟩⟩
  exact hc x ((sgm_mem (by omega)).2 ⟨p, by omega, by omega, hx⟩) y ((sgm_mem (by omega)).2 ⟨q, by omega, by omega, hy⟩)
theorem izDone {a mid b : Nat} (hl : b ≤ l.length) (h1 : a ≤ mid) (h2 : mid ≤ b) (hp1 : PrmI d N l l1 a b) (hc : Crs (ltW d) l1 a mid b) (hp2 : PrmI d N l1 l2 a mid) (hs2 : SrtOn (ltW d) l2 a mid) (hp3 : PrmI d N l2 l3 mid b) (hs3 : SrtOn (ltW d) l3 mid b) :
    PrmI d N l l3 a b ∧ SrtOn (ltW d) l3 a b := by
  obtain ⟨g1, g2⟩ := merge_done hl h1 h2 hp1.toPermOn hc hp2.toPermOn hs2 hp3.toPermOn hs3
  exact ⟨⟨g1, fun k => hp3.ok (hp2.ok (hp1.ok k))⟩, g2⟩
end
/-- the closure tells so in each world that has left all but block g as it is in w -/
def WCmp (d : Nat → Int) (N : Nat) (cap : Value) (w : World) (g : Nat) : Prop := ∀ (x y : Nat) (X : World), x < N → y < N → Fr (fun q => q = g) w X →
  Calls Tryz.prog 34 #[.int .i64 (x : Int), .int .i64 (y : Int), cap] X fun e w' => e = .returned (.int .i64 (cmpW d x y)) ∧ Below X.heap.size X w'
/-- the row, and the closure -/
structure RowC (d : Nat → Int) (N : Nat) (cap : Value) (w : World) (g : Nat) (l : List Nat) : Prop where
  row : RowI w g l
  clo : WCmp d N cap w g
section
variable {d : Nat → Int} {N : Nat} {cap : Value} {w w' : World} {g i j : Nat} {l : List Nat}
theorem RowC.at (h : RowC d N cap w g l) {s : Nat} (hs : l[i]? = some s) : w.cell? ⟨g, i, none⟩ = some (.int .i64 (s : Int)) := h.row.at hs
theorem RowC.frozen (h : RowC d N cap w g l) (j : Nat) : w.frozen? ⟨g, j, none⟩ = false := h.row.frozen j
theorem RowC.on (h : RowC d N cap w g l) (hb : Below w.heap.size w w') : RowC d N cap w' g l :=
  ⟨h.row.on hb, fun x y X hx hy hf => h.clo x y X hx hy ((Fr.of_b hb).trans hf (fun _ _ e => e))⟩
theorem RowC.drw (h : RowC d N cap w g l) (hb : Below w.heap.size w w') {s : Nat} (hs : l[i]? = some s) : w'.cell? ⟨g, i, none⟩ = some (.int .i64 (s : Int)) := (h.on hb).at hs
theorem RowC.cmp (h : RowC d N cap w g l) (x y : Nat) (hx : x < N) (hy : y < N) : Calls Tryz.prog 34 #[.int .i64 (x : Int), .int .i64 (y : Int), cap] w fun e w' => e = .returned (.int .i64 (cmpW d x y)) ∧ Below w.heap.size w w' := h.clo x y w hx hy (Fr.refl _ _)
theorem RowC.swap (h : RowC d N cap w g l) {x y : Nat} (hx : l[i]? = some x) (hy : l[j]? = some y) :
    RowC d N cap ((w.setCell ⟨g, i, none⟩ (.int .i64 (y : Int))).setCell ⟨g, j, none⟩ (.int .i64 (x : Int))) g (swL l i j) :=
  ⟨h.row.swap hx hy, fun u v X hu hv hf => h.clo u v X hu hv ((iz_fr w g i j _ _).trans hf (fun _ _ e => e))⟩
end
end Go.Proofs.YtjkoppdddaknlaaGreatDoor

/- slices.swapRangeCmpFunc and rotateCmpFunc at numbers. -/
namespace Go.Proofs.YtjkoppdddaknlaaGreatDoor
open Go Go.RowKit Go.Proofs

set_option maxHeartbeats 8000000 in
set_option maxRecDepth 100000 in
theorem izSwap_any {dt : Nat → Int} {nS : Nat} {cap : Value} (g c a b n : Nat) (F : Value) (l : List Nat) (w : World) (h : RowC dt nS cap w g l) (hab : a + n ≤ b) (hb : b + n ≤ l.length) (hl : l.length ≤ 1000000) :
    Calls Tryz.prog 102 #[.slice (some ⟨g, 0, none⟩) l.length c, .int .i64 (a : Int), .int .i64 (b : Int), .int .i64 (n : Int), F] w fun e w' => e = .returned (.tuple #[]) ∧ RowC dt nS cap w' g (swr l a b n) ∧ Fr (fun q => q = g) w w' := by
  have H0 := Lib.hid h
  clear h
  go_enter Tryz.func102, Tryz.ntmps102
  go_wp2
  go_loopw [10] (fun iv wr => ∃ i : Nat, iv = .int .i64 (i : Int) ∧ i ≤ n ∧ RowC dt nS cap wr g (swr l a b i) ∧ Fr (fun q => q = g) w wr) (fun iv _ => n - (intOf iv).toNat)
  case atStart => exact ⟨0, rfl, Nat.zero_le _, H0.out, Fr.refl _ _⟩
  case round =>
    obtain ⟨i, rfl, hi, hrow, hfr⟩ := hrel
    have HR := Lib.hid hrow
    have HF := Lib.hid hfr
    clear hrow hfr
    have hsl := swr_length l a b i
    by_cases hlt : i < n
    · have hltz : (i : Int) < (n : Int) := by omega
      obtain ⟨x, hx⟩ : ∃ x, (swr l a b i)[a + i]? = some x := ⟨_, List.getElem?_eq_getElem (by omega)⟩
      obtain ⟨y, hy⟩ : ∃ y, (swr l a b i)[b + i]? = some y := ⟨_, List.getElem?_eq_getElem (by omega)⟩
      obtain ⟨wi, rfl⟩ : ∃ W : World, W = wr := ⟨_, rfl⟩
      have x0 := HR.out.at hx
      have y0 := HR.out.at hy
      obtain ⟨W9, hW9⟩ : ∃ W, W = (wi.setCell ⟨g, (a + i), none⟩ (.int .i64 (y : Int))).setCell ⟨g, (b + i), none⟩ (.int .i64 (x : Int)) := ⟨_, rfl⟩
      have HSW := Lib.hid (show RowC dt nS cap W9.drew g (swr l a b (i + 1)) by rw [hW9]; exact (HR.out.swap hx hy).on (Below.refl _ _).drew)
      have HFW := Lib.hid (show Fr (fun q => q = g) w W9.drew by rw [hW9]; exact (HF.out.trans (iz_fr wi g (a + i) (b + i) (.int .i64 (y : Int)) (.int .i64 (x : Int))) (fun _ _ h => h)).drew)
      have f0 := HR.out.frozen (a + i)
      have f3' := HR.out.frozen (b + i)
      have ha0 : (0 : Int) ≤ (a : Int) + (i : Int) := by omega
      have ha1 : (a : Int) + (i : Int) < (l.length : Int) := by omega
      have hb0 : (0 : Int) ≤ (b : Int) + (i : Int) := by omega
      have hb1 : (b : Int) + (i : Int) < (l.length : Int) := by omega
      have hwa : IntKind.i64.wrap ((a : Int) + (i : Int)) = (a : Int) + (i : Int) := IntWalk.i64_in _ (by omega)
      have hwb : IntKind.i64.wrap ((b : Int) + (i : Int)) = (b : Int) + (i : Int) := IntWalk.i64_in _ (by omega)
      have ta : ((a : Int) + (i : Int)).toNat = a + i := by omega
      have tb : ((b : Int) + (i : Int)).toNat = b + i := by omega
      have mixed : Tryz.prog.follows Departure.mixedOrders = true := by kernel_rfl
      clear hx hy
      go_wp2_with fail
      go_big_region_o
      rw [← hW9]
      clear hW9 x0 y0 f0 f3'
      go_wp2
      go_roundw
      case rel => exact ⟨i + 1, by go_num, by omega, HSW.out, HFW.out⟩
      case measure => simp [intOf]; omega
    · obtain rfl : i = n := by omega
      have hltz : ¬ (i : Int) < (i : Int) := by omega
      go_wp2
      go_end0
      exact ⟨rfl, HR.out, HF.out⟩
set_option maxHeartbeats 8000000 in
set_option maxRecDepth 100000 in
theorem izRot_any {dt : Nat → Int} {nS : Nat} {cap : Value} (g c s m e : Nat) (F : Value) (l : List Nat) (w : World) (h : RowC dt nS cap w g l) (h1 : s < m) (h2 : m < e) (h3 : e ≤ l.length) (hl : l.length ≤ 1000000) :
    Calls Tryz.prog 89 #[.slice (some ⟨g, 0, none⟩) l.length c, .int .i64 (s : Int), .int .i64 (m : Int), .int .i64 (e : Int), F] w fun e' w' => e' = .returned (.tuple #[]) ∧ RowC dt nS cap w' g (rot l s m e) ∧ Fr (fun q => q = g) w w' := by
  have H0 := Lib.hid h
  have hw1 : IntKind.i64.wrap ((m : Int) - (s : Int)) = ((m - s : Nat) : Int) := by rw [IntWalk.i64_in _ (by omega)]; omega
  have hw2 : IntKind.i64.wrap ((e : Int) - (m : Int)) = ((e - m : Nat) : Int) := by rw [IntWalk.i64_in _ (by omega)]; omega
  clear h
  go_enter Tryz.func89, Tryz.ntmps89
  go_wp2
  go_loopw [10, 11] (fun iv jv wr => ∃ (i j : Nat) (lc : List Nat), iv = .int .i64 (i : Int) ∧ jv = .int .i64 (j : Int) ∧ 0 < i ∧ 0 < j ∧ i ≤ m ∧ m + j ≤ l.length ∧ lc.length = l.length ∧ rot lc (m - i) m (m + j) = rot l s m e ∧ RowC dt nS cap wr g lc ∧ Fr (fun q => q = g) w wr) (fun iv jv _ => (intOf iv).toNat + (intOf jv).toNat)
  case atStart => exact ⟨m - s, e - m, l, rfl, rfl, by omega, by omega, by omega, by omega, rfl, by rw [show m - (m - s) = s by omega, show m + (e - m) = e by omega], H0.out, Fr.refl _ _⟩
  case round =>
    obtain ⟨i, j, lc, rfl, rfl, hi, hj, him, hmj, hlc, hrot, hrow, hfr⟩ := hrel
    have HR := Lib.hid hrow
    have HF := Lib.hid hfr
    have HT := Lib.hid hrot
    have HL := Lib.hid hlc
    clear hrow hfr hrot H0 hw1 hw2
    have w1 : IntKind.i64.wrap ((m : Int) - (i : Int)) = ((m - i : Nat) : Int) := by rw [IntWalk.i64_in _ (by omega)]; omega
    by_cases hij : i = j
    · subst hij
      have hc := izSwap_any g c (m - i) m i F lc wr HR.out (by omega) (by omega) (by omega)
      rw [HL.out] at hc
      have HC := Lib.hid hc
      clear hc hlc
      go_wp2_with fail
      (with_reducible refine (HC.out).mono ?_)
      rintro e' w2 ⟨rfl, hr2, hf2⟩
      have HR2 := Lib.hid (show RowC dt nS cap w2 g (rot l s m e) by rw [← HT.out, ← rot_same him (by rw [HL.out]; exact hmj)]; exact hr2)
      have HF2 := Lib.hid (HF.out.trans hf2 (fun _ _ h => h))
      clear hr2 hf2
      go_wp2
      go_end0
      exact ⟨rfl, HR2.out, HF2.out⟩
    · have hne : ((i : Int) != (j : Int)) = true := by rw [bne_iff_ne]; omega
      have hnn : (i != j) = true := by rw [bne_iff_ne]; exact hij
      by_cases hgt : j < i
      · have hgz : (j : Int) < (i : Int) := by omega
        have w2 : IntKind.i64.wrap ((i : Int) - (j : Int)) = ((i - j : Nat) : Int) := by rw [IntWalk.i64_in _ (by omega)]; omega
        have hc := izSwap_any g c (m - i) m j F lc wr HR.out (by omega) (by omega) (by omega)
        rw [HL.out] at hc
        have HC := Lib.hid hc
        clear hc hlc
        go_wp2_with fail
        (with_reducible refine (HC.out).mono ?_)
        rintro e' w2 ⟨rfl, hr2, hf2⟩
        have HR2 := Lib.hid hr2
        have HF2 := Lib.hid (HF.out.trans hf2 (fun _ _ h => h))
        clear hr2 hf2
        go_wp2
        go_roundw
        case rel => exact ⟨i - j, j, _, rfl, rfl, by omega, hj, by omega, hmj, by rw [swr_length, HL.out], by rw [rot_more hgt him (by rw [HL.out]; exact hmj), HT.out], HR2.out, HF2.out⟩
        case measure => simp [intOf]; omega
      · have hgz : ¬ (j : Int) < (i : Int) := by omega
        have w2 : IntKind.i64.wrap ((j : Int) - (i : Int)) = ((j - i : Nat) : Int) := by rw [IntWalk.i64_in _ (by omega)]; omega
        have w3 : IntKind.i64.wrap ((m : Int) + (j : Int)) = ((m + j : Nat) : Int) := by rw [IntWalk.i64_in _ (by omega)]; omega
        have w4 : IntKind.i64.wrap (((m + j : Nat) : Int) - (i : Int)) = ((m + j - i : Nat) : Int) := by rw [IntWalk.i64_in _ (by omega)]; omega
        have w5 : IntKind.i64.wrap ((m : Int) + (j : Int) - (i : Int)) = ((m + j - i : Nat) : Int) := by rw [IntWalk.i64_in _ (by omega)]; omega
        have hc := izSwap_any g c (m - i) (m + j - i) i F lc wr HR.out (by omega) (by omega) (by omega)
        rw [HL.out] at hc
        have HC := Lib.hid hc
        clear hc hlc
        go_wp2_with fail
        (with_reducible refine (HC.out).mono ?_)
        rintro e' w2 ⟨rfl, hr2, hf2⟩
        have HR2 := Lib.hid hr2
        have HF2 := Lib.hid (HF.out.trans hf2 (fun _ _ h => h))
        clear hr2 hf2
        go_wp2
        go_roundw
        case rel => exact ⟨i, j - i, _, rfl, rfl, hi, by omega, him, by omega, by rw [swr_length, HL.out], by rw [rot_less (by omega) him (by rw [HL.out]; exact hmj), HT.out], HR2.out, HF2.out⟩
        case measure => simp [intOf]; omega
end Go.Proofs.YtjkoppdddaknlaaGreatDoor
