/- What toldSeries says of a series. -/
import Derived.Test.YtgmbgclhljobaaaDoorSer
import Derived.Test.YtgmbgclhljobaaaDoorTell
namespace Go.Proofs.YtgmbgclhljobaaaDoor
open Go Go.RowKit Go.Proofs

def inkCells (ab : List (Int × List (Int × Int))) : List UInt8 := ab.flatMap fun h => inkHist h.1 h.2
def inkSer (W : Int) (ab : List (Int × List (Int × Int))) : List UInt8 := inkInt W ++ inkInt ab.length ++ inkCells ab
theorem inkCells_take (l : List Hg) (i : Nat) (s : Hg) (h : l[i]? = some s) : inkCells (absL (l.take (i + 1))) = inkCells (absL (l.take i)) ++ inkHist s.b s.cs := by
  unfold absL inkCells; rw [List.take_add_one, h]; simp
def fineL (ab : List (Int × List (Int × Int))) : Prop := ab.length ≤ 2000 ∧ ∀ h ∈ ab, I64 h.1 ∧ h.2.length ≤ 20000 ∧ ∀ c ∈ h.2, I64 c.1 ∧ I64 c.2
theorem inkHist_length (b : Int) (cs : List (Int × Int)) (hb : I64 b) (hn : cs.length ≤ 20000) (hc : ∀ c ∈ cs, I64 c.1 ∧ I64 c.2) : (inkHist b cs).length ≤ 880044 := by
  have h1 := inkPairs_length cs hc
  have l1 := inkInt_length b hb.1 hb.2
  have l2 := inkInt_length (cs.length : Int) (by omega) (by omega)
  simp only [inkHist, List.length_append]; omega
theorem inkCells_length (ab : List (Int × List (Int × Int))) (h : ∀ h ∈ ab, I64 h.1 ∧ h.2.length ≤ 20000 ∧ ∀ c ∈ h.2, I64 c.1 ∧ I64 c.2) : (inkCells ab).length ≤ ab.length * 880044 := by
  induction ab with
  | nil => simp [inkCells]
  | cons x ab ih =>
    have h1 := ih (fun y hy => h y (by simp [hy]))
    obtain ⟨g1, g2, g3⟩ := h x (by simp)
    have h2 := inkHist_length x.1 x.2 g1 g2 g3
    simp only [inkCells, List.flatMap_cons, List.length_append, List.length_cons] at *
    omega
theorem HgR.inkfr {w w' : World} {K base : Nat} {A : Option Addr} {n : Nat} {l : List Hg} (h : HgR w K A n l) (hf : InkFr K base w w') (hK : K ≤ w.heap.size) (hb : K ≤ base) : HgR w' K A n l :=
  h.below (hf.below hK hb) (Nat.le_refl _)

set_option maxHeartbeats 1000000 in
set_option maxRecDepth 100000 in
theorem inkSer_any (K base : Nat) (W : Int) (A : Option Addr) (c : Nat) (l : List Hg) (w : World) (h : InkAt w K base []) (hW : I64 W) (hf : fineL (absL l)) (hr : HgR w K A l.length l) :
    Calls Tryd.prog 71 #[.pointer (some ⟨K, 0, none⟩), .agg #[.int .i64 W, .slice A l.length c]] w fun e w' => e = .returned (.tuple #[]) ∧ InkAt w' K base (inkSer W (absL l)) ∧ InkFr K base w w' := by
  have hal : (absL l).length = l.length := by simp [absL]
  obtain ⟨hf1, hf2⟩ := hf
  rw [hal] at hf1
  have l1 := inkInt_length W hW.1 hW.2
  have l2 := inkInt_length (l.length : Int) (by omega) (by omega)
  have hin : InkAt (w.alloc (.cells #[.int .i64 W, .slice A l.length c] 49)) K base [] := h.fr (may := fun _ => False) ((Fr.refl _ w).alloc _) (fun _ _ h => h) (fun _ _ _ h => h)
  have hKw : K < w.heap.size := by have := h.1; have := h.2.1; omega
  have hbw := h.2.1
  have hKb := h.1
  have HI := Lib.hid hin
  have HW := Lib.hid hW
  have HF := Lib.hid hf2
  have HR := Lib.hid (hr.below (B' := w.heap.size) ((Below.refl _ w).alloc (Nat.le_refl _) (.cells #[.int .i64 W, .slice A l.length c] 49)) (by omega))
  have HBX := Lib.hid (show (w.alloc (.cells #[.int .i64 W, .slice A l.length c] 49)).heap[w.heap.size]? = some (.cells #[.int .i64 W, .slice A l.length c] 49 (0, 0)) from alloc_at _ _ _ rfl)
  have HAL := Lib.hid hal
  clear h hin hW hf2 hr hal
  go_enter Tryd.func71, Tryd.ntmps71
  go_wp2_with fail
  obtain ⟨W0, hW0⟩ : ∃ W0, W0 = w.alloc (.cells #[.int .i64 W, .slice A l.length c] 49) := ⟨_, rfl⟩
  rw [← hW0] at HI HR HBX ⊢
  have hs0 : W0.heap.size = w.heap.size + 1 := by rw [hW0]; simp
  have HFR0 : Hid (InkFr K base w W0) := Lib.hid (by rw [hW0]; exact (InkFr.refl K base w).alloc _)
  clear hW0
  refine (inkInt_any K base [] W _ HI.out (by simp) HW.out.1 HW.out.2).mono ?_
  rintro e w1 ⟨rfl, hi1, hf1'⟩
  rw [List.nil_append] at hi1
  have hbx1 := hf1'.keep HBX.out (by decide) (by omega)
  have e1 : w1.cell? ⟨w.heap.size, 1, none⟩ = some (.slice A l.length c) := by rw [cellsAt hbx1]; rfl
  have HI1 := Lib.hid hi1
  have HF1 := Lib.hid hf1'
  have HS0 := Lib.hid hs0
  clear hi1 hf1' hbx1 hs0
  go_wp2_with fail
  refine (inkInt_any K base (inkInt W) (l.length : Int) _ HI1.out (by omega) (by omega) (by omega)).mono ?_
  rintro e w2 ⟨rfl, hi2, hf2⟩
  have HI2 := Lib.hid hi2
  have HF2 := Lib.hid (HF1.out.trans hf2)
  clear hi2 hf2 e1
  go_wp2
  go_loopw [4] (fun i wr => ∃ k : Nat, k ≤ l.length ∧ i = .int .i64 k ∧ InkAt wr K base (inkInt W ++ inkInt l.length ++ inkCells (absL (l.take k))) ∧ InkFr K base W0 wr) (fun i _ => l.length - (intOf i).toNat)
  case atStart => exact ⟨0, Nat.zero_le _, rfl, by simpa [inkCells, absL] using HI2.out, HF2.out⟩
  case round =>
    obtain ⟨k, hk, rfl, hik, hfk⟩ := hrel
    have hbxk := hfk.keep HBX.out (by decide) (by omega)
    have e1 : wr.cell? ⟨w.heap.size, 1, none⟩ = some (.slice A l.length c) := by rw [cellsAt hbxk]; rfl
    have hrk := HR.out.below (hfk.below (by have := HS0.out; omega) (by omega)) (Nat.le_refl _)
    have HIK := Lib.hid hik
    have HFK := Lib.hid hfk
    clear hik hfk hbxk
    by_cases hlt : k < l.length
    · obtain ⟨bk, o, s, rfl, hbk, hs, c0, c1, hrd⟩ := hrk.at hlt
      have hpt := inkCells_take l k s hs
      obtain ⟨g1, g2, g3⟩ := HF.out (s.b, s.cs) (by unfold absL; exact List.mem_map.2 ⟨s, List.mem_of_getElem? hs, rfl⟩)
      have hlk := inkCells_length (absL (l.take k)) (fun x hx => HF.out x (by unfold absL at hx ⊢; rw [List.map_take] at hx; exact List.mem_of_mem_take hx))
      have hlk2 : (absL (l.take k)).length ≤ 2000 := by simp [absL]; omega
      have HPT := Lib.hid hpt
      have HG := Lib.hid (And.intro g1 (And.intro g2 g3))
      have HRD := Lib.hid hrd
      have hlen : (inkInt W ++ inkInt l.length ++ inkCells (absL (l.take k))).length < 10000000000 := by simp only [List.length_append]; omega
      have HLEN := Lib.hid hlen
      clear hs hpt hrk hlk hrd g1 g2 g3 hlen
      go_wp2_with fail
      refine (inkHist_any K base _ s.b s.A s.c s.cs _ HIK.out HLEN.out HG.out.1 HG.out.2.2 (by have := HG.out.2.1; omega) HRD.out).mono ?_
      rintro e w3 ⟨rfl, hi3, hf3⟩
      have HI3 := Lib.hid hi3
      have HF3 := Lib.hid (HFK.out.trans hf3)
      clear hi3 hf3 e1 c0 c1
      go_wp2
      go_roundw
      case rel => exact ⟨k + 1, by omega, by go_num, by rw [HPT.out]; simpa [List.append_assoc] using HI3.out, HF3.out⟩
      case measure => simp [intOf]; omega
    · clear hrk
      go_wp2
      go_end0
      refine ⟨rfl, ?_, HFR0.out.trans HFK.out⟩
      have := HIK.out
      rw [List.take_of_length_le (by omega)] at this
      unfold inkSer
      rw [HAL.out]
      exact this

/-- a value that is a series, all of it below block B -/
def SerB (w : World) (B : Nat) (v : Value) (W : Int) (ab : List (Int × List (Int × Int))) : Prop :=
  ∃ A c l, v = .agg #[.int .i64 W, .slice A l.length c] ∧ HgR w B A l.length l ∧ absL l = ab
theorem SerB.below {w w' : World} {B B' B'' : Nat} {v : Value} {W : Int} {ab : List (Int × List (Int × Int))} (h : SerB w B v W ab) (hb : Below B' w w') (hB : B ≤ B') (hB' : B ≤ B'') : SerB w' B'' v W ab := by
  obtain ⟨A, c, l, h1, h2, h3⟩ := h
  exact ⟨A, c, l, h1, (h2.below hb hB).more hB', h3⟩

set_option maxHeartbeats 1000000 in
set_option maxRecDepth 100000 in
theorem toldSer_any (v : Value) (W e : Int) (ab : List (Int × List (Int × Int))) (w : World) (ht : Tab w.heap.size w) (hv : SerB w w.heap.size v W ab) (hW : I64 W) (he : I64 e) (hf : fineL ab) :
    Calls Tryd.prog 33 #[v, .int .i64 e] w fun r w' => r = .returned (.string ⟨(inkSer W ab ++ inkInt e).toArray⟩) ∧ Below w.heap.size w w' := by
  obtain ⟨A, c, l, rfl, hr, rfl⟩ := hv
  have hlen := inkCells_length (absL l) hf.2
  have hll := hf.1
  have l1 := inkInt_length W hW.1 hW.2
  have l2 := inkInt_length ((absL l).length : Int) (by omega) (by omega)
  have l3 := inkInt_length e he.1 he.2
  have hlt : (inkSer W (absL l)).length < 10000000000 := by simp only [inkSer, List.length_append]; omega
  obtain ⟨W0, hW0⟩ : ∃ W0, W0 = (w.alloc (.cells #[.int .i64 W, .slice A l.length c] 49)).alloc (.cells #[.slice none 0 0] 66) := ⟨_, rfl⟩
  have hs0 : W0.heap.size = w.heap.size + 1 + 1 := by rw [hW0]; simp
  have hbw0 : Below w.heap.size w W0 := by rw [hW0]; exact ((Below.refl _ w).alloc (Nat.le_refl _) _).alloc (by simp) _
  have hi0 : InkAt W0 (w.heap.size + 1) (w.heap.size + 1 + 1) [] := by
    refine ⟨by omega, by omega, (ht.on hbw0).mono (by omega), .slice none 0 0, ?_, ⟨by simp [Lib.byteCells], .inl ⟨rfl, rfl⟩⟩⟩
    rw [hW0]; exact alloc_at _ _ _ (by simp)
  have hr0 : HgR W0 (w.heap.size + 1) A l.length l := (hr.below hbw0 (Nat.le_refl _)).more (by omega)
  have H1 := Lib.hid (inkSer_any (w.heap.size + 1) (w.heap.size + 1 + 1) W A c l W0 hi0 hW hf hr0)
  have HE := Lib.hid he
  have HB0 := Lib.hid hbw0
  have HS0 := Lib.hid hs0
  have HLT := Lib.hid hlt
  clear hlen hi0 hr0 hr ht hbw0 hf hW he l1 l2 l3 hs0 hlt hll
  go_enter Tryd.func33, Tryd.ntmps33
  go_wp2_with fail
  rw [← hW0]
  clear hW0
  refine H1.out.mono ?_
  rintro r w1 ⟨rfl, hi1, hf1⟩
  have HI1 := Lib.hid hi1
  have HF1 := Lib.hid hf1
  clear hi1 hf1 H1
  go_wp2_with fail
  refine (inkErrno_any _ _ _ e _ HI1.out (by have := HLT.out; omega) HE.out).mono ?_
  rintro r w2 ⟨rfl, hi2, hf2⟩
  have HI2 := Lib.hid hi2
  have HF2 := Lib.hid (HF1.out.trans hf2)
  clear hi2 hf2
  go_wp2_with fail
  refine (told_any0 _ _ _ _ HI2.out (by have := HLT.out; have := inkInt_length e HE.out.1 HE.out.2; simp only [List.length_append]; omega)).mono ?_
  rintro r w3 ⟨rfl, rfl⟩
  go_wp2
  go_ret
  exact ⟨rfl, HB0.out.trans ((HF2.out.below (by have := HS0.out; omega) (by omega)).mono (by omega))⟩

/-- the value v with this error is told as s, in this world and whatever is laid behind it -/
def STells (v : Value) (code : Int) (s : List UInt8) (w : World) : Prop :=
  ∀ w', Below w.heap.size w w' → Calls Tryd.prog 33 #[v, .int .i64 code] w' fun r w'' => r = .returned (.string ⟨s.toArray⟩) ∧ Below w'.heap.size w' w''
theorem STells.on {v : Value} {code : Int} {s : List UInt8} {w w1 : World} (h : STells v code s w) (hb : Below w.heap.size w w1) : STells v code s w1 := fun w' h' => h w' (bel_next hb h')
/-- the function F makes of these arguments a series that is told as s -/
def SMakes (F : FuncId) (args : Array Value) (code : Int) (s : List UInt8) (w : World) : Prop :=
  ∀ w', Below w.heap.size w w' → Calls Tryd.prog F args w' fun e w'' => ∃ v, e = .returned (.tuple #[v, .int .i64 code]) ∧ STells v code s w'' ∧ Below w'.heap.size w' w''
/-- what a function returns that makes a series or tells an error -/
def SPost (W : Int) (ab : List (Int × List (Int × Int))) (C : Int) (w : World) (e : Ending) (w' : World) : Prop :=
  ∃ v, e = .returned (.tuple #[v, .int .i64 C]) ∧ (C = 0 → SerB w' w'.heap.size v W ab) ∧ (C ≠ 0 → v = .agg #[.int .i64 0, .slice none 0 0]) ∧ Below w.heap.size w w'
def inkSOf (W : Int) (ab : List (Int × List (Int × Int))) (code : Int) : List UInt8 := if code = 0 then inkSer W ab ++ inkInt 0 else inkSer 0 [] ++ inkInt code
theorem smakes_of {F : FuncId} {args : Array Value} {code W : Int} {ab : List (Int × List (Int × Int))} {w : World} (ht : Tab w.heap.size w) (hc : I64 code) (hW : code = 0 → I64 W) (hf : code = 0 → fineL ab)
    (h : ∀ w', Below w.heap.size w w' → Calls Tryd.prog F args w' (SPost W ab code w')) : SMakes F args code (inkSOf W ab code) w := by
  intro w' hb'
  refine (h w' hb').mono ?_
  rintro e w'' ⟨v, rfl, h1, h2, h3⟩
  refine ⟨v, rfl, ?_, h3⟩
  have ht'' : Tab w''.heap.size w'' := (ht.on (bel_next hb' h3)).mono (bel_next hb' h3).size
  by_cases h0 : code = 0
  · unfold inkSOf
    rw [if_pos h0, h0]
    exact fun w3 h' => toldSer_any v W 0 ab w3 ((ht''.on h').mono h'.size) ((h1 h0).below h' (Nat.le_refl _) h'.size) (hW h0) (by unfold I64; omega) (hf h0)
  · obtain rfl := h2 h0
    unfold inkSOf
    rw [if_neg h0]
    exact fun w3 h' => toldSer_any _ 0 code [] w3 ((ht''.on h').mono h'.size) ⟨none, 0, [], rfl, HgR.nil, rfl⟩ (by unfold I64; omega) hc ⟨by simp, fun _ h => by cases h⟩
end Go.Proofs.YtgmbgclhljobaaaDoor
