/- Ink: lists of stages; package dynamometerlaw7's toldStages. -/
import Derived.Test.YtkoodmoilfgafaaDoorGInk
import Derived.Test.YtkoodmoilfgafaaDoorGLoad
import Derived.Deep.RegionHeld3
namespace Go.Proofs.YtkoodmoilfgafaaDoor
open Go Go.RowKit Go.Proofs

def inkStg (s : Int × Int × Int) : List UInt8 := inkInts [s.1, s.2.1, s.2.2]
def inkStgs0 (l : List (Int × Int × Int)) : List UInt8 := l.flatMap inkStg
def inkStgs (l : List (Int × Int × Int)) : List UInt8 := inkInt l.length ++ inkStgs0 l
theorem inkStgs_take {l : List (Int × Int × Int)} {i : Nat} {s : Int × Int × Int} (h : l[i]? = some s) : inkStgs0 (l.take (i + 1)) = inkStgs0 (l.take i) ++ inkStg s := by
  unfold inkStgs0; rw [List.take_add_one, h]; simp
def I64s (s : Int × Int × Int) : Prop := I64 s.1 ∧ I64 s.2.1 ∧ I64 s.2.2
theorem I64s.mem {s : Int × Int × Int} (h : I64s s) : ∀ z ∈ [s.1, s.2.1, s.2.2], I64 z := by
  intro z hz
  simp only [List.mem_cons, List.not_mem_nil, or_false] at hz
  rcases hz with rfl | rfl | rfl
  · exact h.1
  · exact h.2.1
  · exact h.2.2
theorem inkStg_length {s : Int × Int × Int} (h : I64s s) : (inkStg s).length ≤ 88 := by
  have h1 := inkIs_length _ h.mem
  have h2 := inkInt_length (3 : Int) (by omega) (by omega)
  unfold inkStg inkInts
  simp only [List.length_append, List.length_cons, List.length_nil] at *
  have e : (((0 + 1 + 1 + 1 : Nat) : Int)) = 3 := rfl
  rw [e]
  omega
theorem inkStgs0_length (l : List (Int × Int × Int)) (h : ∀ s ∈ l, I64s s) : (inkStgs0 l).length ≤ 88 * l.length := by
  induction l with
  | nil => simp [inkStgs0]
  | cons z zs ih =>
    have h1 := inkStg_length (h z (by simp))
    have := ih (fun x hx => h x (by simp [hx]))
    simp only [inkStgs0, List.flatMap_cons, List.length_append, List.length_cons] at *
    omega

set_option maxHeartbeats 1000000 in
set_option maxRecDepth 100000 in
theorem inkInts_gen (K base : Nat) (bs : List UInt8) (A : Option Addr) (c : Nat) (zs : List Int) (w : World) (h : InkAt w K base bs) (hl : bs.length < 10000000000) (hz : ∀ z ∈ zs, I64 z) (hn : zs.length ≤ 100000000) (hr : ∀ w', InkFr K base w w' → Rd w' 0 w'.heap.size 1 A zs.length (ints zs)) :
    Calls Tryd.prog 45 #[.pointer (some ⟨K, 0, none⟩), .slice A zs.length c] w fun e w' => e = .returned (.tuple #[]) ∧ InkAt w' K base (bs ++ inkInts zs) ∧ InkFr K base w w' := by
  have l2 := inkInt_length (zs.length : Int) (by omega) (by omega)
  have hKw : K < w.heap.size := by have := h.1; have := h.2.1; omega
  have hbw := h.2.1
  have hKb := h.1
  have HI := Lib.hid (inkInt_any K base bs (zs.length : Int) w h (by omega) (by omega) (by omega))
  have HZ := Lib.hid hz
  have HR := Lib.hid hr
  clear h hz hr
  go_enter Tryd.func45, Tryd.ntmps45
  go_wp2_with fail
  refine HI.out.mono ?_
  rintro e w1 ⟨rfl, hi1, hf1⟩
  have HI1 := Lib.hid hi1
  have HF1 := Lib.hid hf1
  clear hi1 hf1
  go_wp2_with fail
  go_loopw [4] (fun i wr => ∃ k : Nat, k ≤ zs.length ∧ i = .int .i64 k ∧ InkAt wr K base (bs ++ inkInt zs.length ++ inkIs (zs.take k)) ∧ InkFr K base w wr) (fun i _ => zs.length - (intOf i).toNat)
  case atStart => exact ⟨0, Nat.zero_le _, rfl, by simpa [inkIs] using HI1.out, HF1.out⟩
  case round =>
    obtain ⟨k, hk, rfl, hik, hfk⟩ := hrel
    have hrk := HR.out wr hfk
    have HIK := Lib.hid hik
    have HFK := Lib.hid hfk
    clear hik hfk
    by_cases hlt : k < zs.length
    · obtain ⟨b, o, u, rfl, hb, hu, qk⟩ := hrk.at1 hlt
      obtain ⟨z, hz, rfl⟩ := ints_get hu
      have HPT := Lib.hid (inkIs_take hz)
      have HZI := Lib.hid (HZ.out z (List.mem_of_getElem? hz))
      have hlk := inkIs_length (zs.take k) (fun x hx => HZ.out x (List.mem_of_mem_take hx))
      rw [List.length_take] at hlk
      have HI3 := Lib.hid (inkInt_any K base _ z wr HIK.out (by simp only [List.length_append]; omega) HZI.out.1 HZI.out.2)
      clear hz hu hrk
      go_wp2_with fail
      refine HI3.out.mono ?_
      rintro e w3 ⟨rfl, hi3, hf3⟩
      have HI4 := Lib.hid hi3
      have HF4 := Lib.hid (HFK.out.trans hf3)
      clear hi3 hf3
      go_wp2
      go_roundw
      case rel => exact ⟨k + 1, by omega, by go_num, by rw [HPT.out]; simpa [List.append_assoc] using HI4.out, HF4.out⟩
      case measure => simp [intOf]; omega
    · clear hrk
      go_wp2
      go_end0
      refine ⟨rfl, ?_, HFK.out⟩
      have := HIK.out
      rw [List.take_of_length_le (by omega)] at this
      simpa [inkInts, List.append_assoc] using this

set_option maxHeartbeats 1000000 in
set_option maxRecDepth 100000 in
theorem inkThree (K base : Nat) (bs : List UInt8) (F x y : Int) (X : World) (hI : InkAt X K base bs) (hl : bs.length < 10000000000) (hz : I64s (F, x, y)) :
    Calls Tryd.prog 45 #[.pointer (some ⟨K, 0, none⟩), .slice (some ⟨X.heap.size, 0, none⟩) 3 3] (X.alloc (.cells #[.int .i64 F, .int .i64 x, .int .i64 y] 3)) fun e w' => e = .returned (.tuple #[]) ∧ InkAt w' K base (bs ++ inkStg (F, x, y)) ∧ InkFr K base (X.alloc (.cells #[.int .i64 F, .int .i64 x, .int .i64 y] 3)) w' := by
  have hKX : K < X.heap.size := by have := hI.1; have := hI.2.1; omega
  have hbX := hI.2.1
  have hg := alloc_at X (.cells #[.int .i64 F, .int .i64 x, .int .i64 y] 3) _ rfl
  have hI2 : InkAt (X.alloc (.cells #[.int .i64 F, .int .i64 x, .int .i64 y] 3)) K base bs := hI.fr (may := fun i => X.heap.size ≤ i) (Fr.of_below ((Below.refl _ X).alloc (Nat.le_refl _) _)) (fun i hi hm => by have h' : X.heap.size ≤ i := hm; omega) (fun i _ hi hm => by have h' : X.heap.size ≤ i := hm; omega)
  exact inkInts_gen K base bs (some ⟨X.heap.size, 0, none⟩) 3 [F, x, y] _ hI2 hl hz.mem (by simp) (fun w' hw' => by
    have e := InkFr.keep hw' hg (by decide) (by omega)
    have hlt := heap_lt e
    refine ⟨by simp [ints], fun _ => ⟨X.heap.size, 0, rfl, Nat.zero_le _, hlt, fun j u hj => ?_⟩⟩
    have : j = 0 ∨ j = 1 ∨ j = 2 := by
      have := (List.getElem?_eq_some_iff.1 hj).1
      simp [ints] at this; omega
    rw [cellsAt e]
    rcases this with rfl | rfl | rfl <;> simpa [ints] using hj)

theorem inkThreeD (K base : Nat) (bs : List UInt8) (F x y : Int) (X : World) (hI : InkAt X K base bs) (hl : bs.length < 10000000000) (hz : I64s (F, x, y)) :
    Calls Tryd.prog 45 #[.pointer (some ⟨K, 0, none⟩), .slice (some ⟨X.heap.size, 0, none⟩) 3 3] (X.alloc (.cells #[.int .i64 F, .int .i64 x, .int .i64 y] 3)).drew fun e w' => e = .returned (.tuple #[]) ∧ InkAt w' K base (bs ++ inkStg (F, x, y)) ∧ InkFr K base (X.alloc (.cells #[.int .i64 F, .int .i64 x, .int .i64 y] 3)).drew w' :=
  inkThree K base bs F x y X.drew (hI.fr (may := fun _ => False) (Fr.drew (Fr.refl _ X)) (fun _ _ h => h) (fun _ _ _ h => h)) hl hz

set_option maxHeartbeats 2000000 in
set_option maxRecDepth 100000 in
theorem inkStages_any (K base : Nat) (bs : List UInt8) (A : Option Addr) (c : Nat) (l : List (Int × Int × Int)) (w : World) (h : InkAt w K base bs) (hl : bs.length < 5000000000) (hz : ∀ s ∈ l, I64s s) (hn : l.length ≤ 10000000) (hr : Rd w 0 K 3 A l.length (cells3 l)) :
    Calls Tryd.prog 53 #[.pointer (some ⟨K, 0, none⟩), .slice A l.length c] w fun e w' => e = .returned (.tuple #[]) ∧ InkAt w' K base (bs ++ inkStgs l) ∧ InkFr K base w w' := by
  have l2 := inkInt_length (l.length : Int) (by omega) (by omega)
  have hKw : K < w.heap.size := by have := h.1; have := h.2.1; omega
  have hbw := h.2.1
  have hKb := h.1
  have HI := Lib.hid (inkInt_any K base bs (l.length : Int) w h (by omega) (by omega) (by omega))
  have HZ := Lib.hid hz
  have HR := Lib.hid hr
  clear h hz hr
  go_enter Tryd.func53, Tryd.ntmps53
  go_wp2_with fail
  refine HI.out.mono ?_
  rintro e w1 ⟨rfl, hi1, hf1⟩
  have HI1 := Lib.hid hi1
  have HF1 := Lib.hid hf1
  clear hi1 hf1
  go_wp2_with fail
  go_loopw [4] (fun i wr => ∃ k : Nat, k ≤ l.length ∧ i = .int .i64 k ∧ InkAt wr K base (bs ++ inkInt l.length ++ inkStgs0 (l.take k)) ∧ InkFr K base w wr) (fun i _ => l.length - (intOf i).toNat)
  case atStart => exact ⟨0, Nat.zero_le _, rfl, by simpa [inkStgs0] using HI1.out, HF1.out⟩
  case round =>
    obtain ⟨k, hk, rfl, hik, hfk⟩ := hrel
    have hrk := HR.out.below (hfk.below (by omega) (by omega)) (Nat.le_refl _)
    have HIK := Lib.hid hik
    have HFK := Lib.hid hfk
    clear hik hfk
    by_cases hlt : k < l.length
    · obtain ⟨b, o, F, x, y, rfl, _, hb, hu, q0, q1, q2⟩ := hrk.at3 hlt
      have HPT := Lib.hid (inkStgs_take hu)
      have HZI := Lib.hid (HZ.out _ (List.mem_of_getElem? hu))
      have hlk := inkStgs0_length (l.take k) (fun x hx => HZ.out x (List.mem_of_mem_take hx))
      rw [List.length_take] at hlk
      have hKwr : K < wr.heap.size := by have := HIK.out.1; have := HIK.out.2.1; omega
      have hkb2 := HIK.out.2.1
      have HKS := Lib.hid (show ∀ X, InkFr K base wr X → InkFr K base wr X ∧ X.cell? ⟨b, o + k * 3, none⟩ = some (.int .i64 F) ∧ X.cell? ⟨b, o + k * 3 + 1, none⟩ = some (.int .i64 x) ∧ X.cell? ⟨b, o + k * 3 + 2, none⟩ = some (.int .i64 y) from fun X hX => ⟨hX, (Fr.cell hX (p := ⟨b, o + k * 3, none⟩) (by dsimp only; omega) (by dsimp only; omega)).trans q0, (Fr.cell hX (p := ⟨b, o + k * 3 + 1, none⟩) (by dsimp only; omega) (by dsimp only; omega)).trans q1, (Fr.cell hX (p := ⟨b, o + k * 3 + 2, none⟩) (by dsimp only; omega) (by dsimp only; omega)).trans q2⟩)
      have HC := Lib.hid (fun (X : World) (hI : InkAt X K base (bs ++ inkInt l.length ++ inkStgs0 (l.take k))) => inkThreeD K base _ F x y X hI (by simp only [List.length_append]; omega) HZI.out)
      have HR0 := Lib.hid (InkFr.refl K base wr)
      clear hu hrk
      go_wp2_with fail
      go_region_held3 (fun X => InkFr K base wr X ∧ X.cell? ⟨b, o + k * 3, none⟩ = some (.int .i64 F) ∧ X.cell? ⟨b, o + k * 3 + 1, none⟩ = some (.int .i64 x) ∧ X.cell? ⟨b, o + k * 3 + 2, none⟩ = some (.int .i64 y))
        (first
          | exact HKS.out _ (Fr.drew HR0.out)
          | exact HKS.out _ ((Fr.drew HR0.out).alloc _)
          | exact HKS.out _ (Fr.drew (HR0.out.alloc _))
          | exact HKS.out _ (InkFr.trans (Fr.drew (HR0.out.alloc _)) hf3))
        (first
          | (go_at_call 45; (with_reducible refine (HC.out _ HIK.out).mono ?_); rintro e w3 ⟨rfl, hi3, hf3⟩))
      have HI4 := Lib.hid hi3
      have HF4 := Lib.hid (HFK.out.trans (InkFr.trans (Fr.drew (HR0.out.alloc _)) hf3))
      clear hi3 hf3
      go_wp2
      go_roundw
      case rel => exact ⟨k + 1, by omega, by go_num, by rw [HPT.out]; simpa [List.append_assoc] using HI4.out, HF4.out⟩
      case measure => simp [intOf]; omega
    · clear hrk
      go_wp2
      go_end0
      refine ⟨rfl, ?_, HFK.out⟩
      have := HIK.out
      rw [List.take_of_length_le (by omega)] at this
      simpa [inkStgs, List.append_assoc] using this

set_option maxHeartbeats 1000000 in
set_option maxRecDepth 100000 in
theorem toldStg_any (A : Option Addr) (c : Nat) (zs : List (Int × Int × Int)) (e : Int) (w : World) (ht : Tab w.heap.size w) (hr : Rd w 0 w.heap.size 3 A zs.length (cells3 zs)) (hz : ∀ z ∈ zs, I64s z) (he : I64 e) (hn : zs.length ≤ 10000000) :
    Calls Tryd.prog 19 #[.slice A zs.length c, .int .i64 e] w fun r w' => r = .returned (.string ⟨(inkStgs zs ++ inkInt e).toArray⟩) ∧ Below w.heap.size w w' := by
  have hlen := inkStgs0_length zs hz
  have l2 := inkInt_length (zs.length : Int) (by omega) (by omega)
  have l3 := inkInt_length e he.1 he.2
  have hlt : (inkStgs zs).length ≤ 88 * zs.length + 22 := by simp only [inkStgs, List.length_append]; omega
  obtain ⟨W0, hW0⟩ : ∃ W0, W0 = w.alloc (.cells #[.slice none 0 0] 59) := ⟨_, rfl⟩
  have hs0 : W0.heap.size = w.heap.size + 1 := by rw [hW0]; simp
  have hbw0 : Below w.heap.size w W0 := by rw [hW0]; exact (Below.refl _ w).alloc (Nat.le_refl _) _
  have hi0 : InkAt W0 w.heap.size (w.heap.size + 1) [] := by
    refine ⟨by omega, by omega, (ht.on hbw0).mono (by omega), .slice none 0 0, ?_, ⟨by simp [Lib.byteCells], .inl ⟨rfl, rfl⟩⟩⟩
    rw [hW0]; exact alloc_at _ _ _ (by simp)
  have hr0 : Rd W0 0 w.heap.size 3 A zs.length (cells3 zs) := hr.below hbw0 (Nat.le_refl _)
  have H1 := Lib.hid (inkStages_any w.heap.size (w.heap.size + 1) [] A c zs W0 hi0 (by simp) hz hn hr0)
  have HE := Lib.hid he
  have HB0 := Lib.hid hbw0
  clear hlen hi0 hr0 hr ht hbw0 hz he l2
  go_enter Tryd.func19, Tryd.ntmps19
  go_wp2_with fail
  rw [← hW0]
  clear hW0
  refine H1.out.mono ?_
  rintro r w1 ⟨rfl, hi1, hf1⟩
  rw [List.nil_append] at hi1
  have HI1 := Lib.hid (inkErrno_any _ _ _ e _ hi1 (by omega) HE.out)
  have HF1 := Lib.hid hf1
  clear hi1 hf1 H1
  go_wp2_with fail
  refine HI1.out.mono ?_
  rintro r w2 ⟨rfl, hi2, hf2⟩
  have HI2 := Lib.hid (told_any0 _ _ _ _ hi2 (by simp only [List.length_append]; omega))
  have HF2 := Lib.hid (HF1.out.trans hf2)
  clear hi2 hf2
  go_wp2_with fail
  refine HI2.out.mono ?_
  rintro r w3 ⟨rfl, rfl⟩
  go_wp2
  go_ret
  exact ⟨rfl, HB0.out.trans (HF2.out.below (by omega) (by omega))⟩
end Go.Proofs.YtkoodmoilfgafaaDoor
