import Derived.Test.YtnpfdelklolchaaGreatDoorG1
import Derived.Test.YtnpfdelklolchaaGreatDoorShelf
import Derived.Test.YtnpfdelklolchaaGreatDoorProg
import Derived.Handy
import Derived.WalkSpells
import Derived.WalkLawsBesides
import Derived.Deep.QuietTactic
import Derived.BigQuiet
import Derived.Laws.BytesString
import Derived.Lib.ItoaLen
import Derived.Lib.SlBytesRow
import Derived.Lib.BufferRead
import Derived.Lib.AppendIntMem
import Derived.Test.YtnpfdelklolchaaGreatDoorShelfB
import Derived.Test.YtnpfdelklolchaaGreatDoorG14
import Derived.Test.YtnpfdelklolchaaGreatDoorG0
import Derived.Test.YtnpfdelklolchaaGreatDoorG19
import Derived.Deep.RegionHeld3
/- The table of strconv's digits in memory. -/
namespace Go.Proofs.YtnpfdelklolchaaGreatDoor
open Go Go.RowKit Go.Proofs Go.Maps

/-- the table that AppendInt reads, kept by whatever leaves the blocks below B alone -/
def Tab (B : Nat) (w : World) : Prop := Lib.TabBelow Tryz.prog B w "internal/strconv.uint64pow10" .u64 Lib.pow10Tab
theorem Tab.on {B : Nat} {w w' : World} (h : Tab B w) (hb : Below B w w') : Tab B w' := Lib.TabBelow.on h hb
theorem Tab.mono {B B' : Nat} {w : World} (h : Tab B w) (hB : B ≤ B') : Tab B' w := fun w' hb => h w' (hb.mono hB)

def I64 (x : Int) : Prop := -9223372036854775808 ≤ x ∧ x ≤ 9223372036854775807
end Go.Proofs.YtnpfdelklolchaaGreatDoor

/- Package dynamometerref0: Text. -/
namespace Go.Proofs.YtnpfdelklolchaaGreatDoor
open Go Go.RowKit Go.Proofs

theorem bytes_cat2 (a b : List UInt8) : (⟨a.toArray⟩ : ByteArray) ++ ⟨b.toArray⟩ = ⟨(a ++ b).toArray⟩ := by
  apply ByteArray.ext
  simp
theorem pad_full {d : Nat} {L : List UInt8} (h : pad 4 d = List.replicate (4 - L.length) 48 ++ L) (hl : 4 ≤ L.length) : L = pad 4 d := by
  rw [h, show 4 - L.length = 0 by omega]; rfl
theorem pad_more {d : Nat} {L : List UInt8} (h : pad 4 d = List.replicate (4 - L.length) 48 ++ L) (hl : L.length < 4) : pad 4 d = List.replicate (4 - (48 :: L).length) 48 ++ (48 :: L) := by
  rw [h, List.length_cons, show 4 - L.length = 4 - (L.length + 1) + 1 by omega, List.replicate_succ', List.append_assoc]; rfl
theorem val_top {l : List Nat} (h : Norm T4 l) {k : Nat} (hk : k < l.length) : 1 ≤ val T4 (l.drop k) := by
  rcases Nat.eq_zero_or_pos (val T4 (l.drop k)) with h0 | h0
  · exfalso
    have hn : Norm T4 (l.drop k) := ⟨fun d hd => h.1 d (List.mem_of_mem_drop hd), by
      rw [List.getLast?_drop, if_neg (by omega)]; exact h.2⟩
    have := (val_zero T4_pos hn).1 h0
    have := congrArg List.length this
    simp at this; omega
  · exact h0
theorem val_last {l : List Nat} {d : Nat} (h : l[l.length - 1]? = some d) : val T4 (l.drop (l.length - 1)) = d := by
  obtain ⟨hk, rfl⟩ := List.getElem?_eq_some_iff.1 h
  rw [List.drop_eq_getElem_cons hk, List.drop_of_length_le (by omega)]
  simp [val]
theorem val_at {l : List Nat} {d k : Nat} (h : l[k]? = some d) : val T4 (l.drop k) = d + 10 ^ 4 * val T4 (l.drop (k + 1)) := by
  obtain ⟨hk, rfl⟩ := List.getElem?_eq_some_iff.1 h
  rw [List.drop_eq_getElem_cons hk]
  simp only [val]; rfl

set_option maxHeartbeats 4000000 in
set_option maxRecDepth 100000 in
theorem rText_any (A : Option Addr) (c : Nat) (l : List Nat) (x : Nat) (w : World) (h : RNatR w A c l x) (hs : l.length ≤ 1000000) (ht : Tab w.heap.size w) :
    Calls Tryz.prog 42 #[.slice A l.length c] w fun e w' => e = .returned (.string ⟨(Lib.decDigits x).toArray⟩) ∧ Below w.heap.size w w' := by
  have HT := Lib.hid (fun W (hb : Below w.heap.size w W) => ht.on hb W (Below.refl _ _))
  have HIT := Lib.hid (show ∀ (d : Nat) W, d < 10000 → Lib.TabIs Tryz.prog W "internal/strconv.uint64pow10" .u64 Lib.pow10Tab → Calls Tryz.prog 88 #[.int .i64 d] W fun e w' => e = .returned (.string ⟨(Lib.decDigits d).toArray⟩) ∧ Below W.heap.size W w' from fun d W hd htab =>
    (Tryz.strconv_Itoa d (by omega) (by omega) W htab).mono fun e w' ⟨he, k, os, hw⟩ => ⟨by rw [he, itoa_nat], by rw [hw]; exact Lib.below_grow _ _ (Nat.le_refl _) k os⟩)
  have HN := Lib.hid h
  clear ht
  rcases Nat.eq_zero_or_pos l.length with h0 | hpos
  · have h0' : l = [] := List.eq_nil_of_length_eq_zero h0
    subst h0'
    have HX := Lib.hid (show (⟨#[48]⟩ : ByteArray) = ⟨(Lib.decDigits x).toArray⟩ by
      have : x = 0 := by have := h.val; simp [val] at this; exact this.symm
      rw [this, dec_small (by omega)]; rfl)
    clear h
    go_enter Tryz.func42, Tryz.ntmps42
    go_wp2
    go_ret
    exact ⟨by rw [← HX.out]; rfl, Below.refl _ _⟩
  · obtain ⟨n, hn⟩ : ∃ n, l.length = n + 1 := ⟨l.length - 1, by omega⟩
    obtain ⟨b, o, u, rfl, hb, hu, q⟩ := h.rd.at1 (show n < l.length by omega)
    obtain ⟨d, hd, rfl⟩ := d4s_get hu
    have hdW : d < 10000 := h.norm.1 d (List.mem_of_getElem? hd)
    have HS0 := Lib.hid (show Lib.decDigits d = Lib.decDigits (val T4 (l.drop n)) by
      have := val_last (l := l) (d := d) (by rw [show l.length - 1 = n by omega]; exact hd)
      rw [show l.length - 1 = n by omega] at this
      rw [this])
    have HTP := Lib.hid (fun k (hk : k < l.length) => val_top h.norm hk)
    have e1 : (l.length : Int) - 1 = (n : Int) := by omega
    have e2 : (l.length : Int) - 2 = (n : Int) - 1 := by omega
    have i0 : (n : Int) < (l.length : Int) := by omega
    have t1 : ((l.length : Int) == 0) = false := by simp; intro h'; rw [h'] at hn; simp at hn
    have t2 : (l.length == 0) = false := by simp; intro h'; rw [h'] at hn; simp at hn
    have HI0 := Lib.hid (HIT.out d w hdW (HT.out w (Below.refl _ _)))
    have HV := Lib.hid h.val
    have hnl : n < l.length := by omega
    have hnl2 : l.length ≤ n + 1 := by omega
    clear h hu hd hn
    go_enter Tryz.func42, Tryz.ntmps42
    go_wp2_with fail
    (with_reducible refine HI0.out.mono ?_)
    rintro e w1 ⟨rfl, hb1⟩
    have HB1 := Lib.hid hb1
    clear hb1 q
    go_wp2_with fail
    go_loopw [3, 4, 5] (fun sv iv _ wr => ∃ (k : Nat) (S : List UInt8), iv = .int .i64 ((k : Int) - 1) ∧ k ≤ n ∧ S.length + 4 * k ≤ 4 * n + 4 ∧ sv = .string ⟨S.toArray⟩ ∧ Hid (S = Lib.decDigits (val T4 (l.drop k))) ∧ Below w.heap.size w wr) (fun _ iv _ _ => (intOf iv + 1).toNat)
    case atStart => exact ⟨n, Lib.decDigits d, by first | rfl | (congr 1; omega), Nat.le_refl _, by have := dec_le (v := d) (k := 4) (by omega) (by simpa using hdW); omega, rfl, HS0, HB1.out⟩
    case round =>
      obtain ⟨k, S, rfl, hk, hSl, rfl, HS, hbw⟩ := hrel
      have HBW := Lib.hid hbw
      cases k with
      | zero =>
        have HX := Lib.hid (show S = Lib.decDigits x by rw [HS.out, List.drop_zero, HV.out])
        clear hbw
        go_wp2
        go_ret
        exact ⟨by rw [← HX.out]; rfl, HBW.out⟩
      | succ j =>
        have e3 : (((j + 1 : Nat) : Int) - 1) = (j : Int) := by omega
        rw [e3]
        clear e3
        obtain ⟨b', o', u, hA, hb', hu, qk⟩ := (HN.out.on hbw).rd.at1 (show j < l.length by omega)
        simp only [Option.some.injEq, Addr.mk.injEq, and_true] at hA
        obtain ⟨rfl, rfl⟩ := hA
        obtain ⟨dj, hdj, rfl⟩ := d4s_get hu
        have hdjW : dj < 10000 := HN.out.norm.1 dj (List.mem_of_getElem? hdj)
        have HDJ := Lib.hid (show Lib.decDigits (val T4 (l.drop j)) = S ++ pad 4 dj by
          rw [val_at hdj, HS.out, dec_chunk 4 _ dj (by omega) (HTP.out (j + 1) (by omega)) (by simpa using hdjW)])
        have HIJ := Lib.hid (HIT.out dj wr hdjW (HT.out wr hbw))
        have hj1 : (j : Int) < (l.length : Int) := by omega
        have t0 : decide ((0 : Int) ≤ ↑j) = true := by simp
        have hp1 := dec_len_pos dj
        have hp2 : (Lib.decDigits dj).length ≤ 4 := dec_le (by omega) (by simpa using hdjW)
        clear hu hdj hbw
        go_wp2_with fail
        (with_reducible refine HIJ.out.mono ?_)
        rintro e w2 ⟨rfl, hb2⟩
        have HB2 := Lib.hid (below_next HBW.out hb2)
        clear hb2
        go_wp2_with fail
        go_loopg [5] (4 - (Lib.decDigits dj).length) (fun g tv wz => Below w.heap.size w wz ∧ ∃ L : List UInt8, tv = .string ⟨L.toArray⟩ ∧ L.length + g = 4 ∧ Hid (pad 4 dj = List.replicate (4 - L.length) 48 ++ L))
        case atStart => exact ⟨HB2.out, _, rfl, by omega, Lib.hid rfl⟩
        case round =>
          obtain ⟨hbz, L, rfl, hLg, HP⟩ := hrel
          have HBZ := Lib.hid hbz
          clear hbz
          rcases Nat.eq_zero_or_pos gk with hg0 | hg0
          · have HL := Lib.hid (pad_full HP.out (by omega))
            have hcl : ¬ 9223372036854775807 < S.length + L.length := by omega
            have hcl2 : S.length + L.length ≤ 9223372036854775807 := by omega
            have v1 : decide (L.length < 4) = false := by simp; omega
            have v2 : decide ((L.length : Int) < 4) = false := by simp; omega
            have hcat : (⟨S.toArray⟩ : ByteArray) ++ ⟨L.toArray⟩ = ⟨(S ++ L).toArray⟩ := bytes_cat2 _ _
            have HSL := Lib.hid (show S ++ L = Lib.decDigits (val T4 (l.drop j)) by rw [HDJ.out, ← HL.out])
            go_wp2
            go_roundw
            case rel => exact ⟨j, S ++ L, rfl, by omega, by rw [List.length_append]; omega, rfl, HSL, HBZ.out⟩
            case measure => simp [intOf]
          · have HL := Lib.hid (pad_more HP.out (by omega))
            have v1 : decide (L.length < 4) = true := by simp; omega
            have v2 : decide ((L.length : Int) < 4) = true := by simp; omega
            have hcat : (⟨#[48]⟩ : ByteArray) ++ ⟨L.toArray⟩ = ⟨(48 :: L).toArray⟩ := bytes_cat2 [48] L
            go_wp2
            go_roundg (gk - 1)
            case measure => omega
            case rel => exact ⟨HBZ.out, 48 :: L, rfl, by simp; omega, HL⟩
end Go.Proofs.YtnpfdelklolchaaGreatDoor

/- Package dynamometerref0: Ratio. -/
namespace Go.Proofs.YtnpfdelklolchaaGreatDoor
open Go Go.RowKit Go.Proofs

theorem below_reallocR {B : Nat} {w x : World} {Z Y : Obj} (h : Below B w (x.alloc Z)) (hB : B ≤ x.heap.size) : Below B w (x.alloc Y) := ⟨h.os, h.tape, h.output, by simpa using h.size, fun k hk => by
  have := h.block k hk
  rw [Below.heap_alloc _ _ _ (by omega)] at this ⊢
  exact this⟩
def RBox (w : World) (B : Nat) : Prop := w.heap[B]? = some (.cells #[.string ⟨#[]⟩, .string ⟨#[]⟩] 24 (0, 0))
theorem RBox.on {w w' : World} {B : Nat} (h : RBox w B) (hb : Below w.heap.size w w') : RBox w' B := (hb.block B (heap_lt h)).trans h
theorem RBox.facts {w : World} {B : Nat} (h : RBox w B) : w.cell? ⟨B, 0, none⟩ = some (.string ⟨#[]⟩) ∧ w.cell? ⟨B, 1, none⟩ = some (.string ⟨#[]⟩) ∧ w.frozen? ⟨B, 0, none⟩ = false ∧ w.frozen? ⟨B, 1, none⟩ = false ∧ B < w.heap.size :=
  ⟨by rw [cellsAt h]; rfl, by rw [cellsAt h]; rfl, frozenAt h 0, frozenAt h 1, heap_lt h⟩
def RatAt (w : World) (B : Nat) (p : List UInt8 × List UInt8) : Prop := w.heap[B]? = some (.cells #[.string ⟨p.1.toArray⟩, .string ⟨p.2.toArray⟩] 24 (0, 0))
theorem ratAt_set {w : World} {B : Nat} (h : RBox w B) (p : List UInt8 × List UInt8) : RatAt ((w.setCell ⟨B, 0, none⟩ (.string ⟨p.1.toArray⟩)).setCell ⟨B, 1, none⟩ (.string ⟨p.2.toArray⟩)) B p := by
  unfold RatAt
  simp [World.setCell, Array.getElem?_modify, show w.heap[B]? = _ from h]
end Go.Proofs.YtnpfdelklolchaaGreatDoor

/- Package dynamometerref0: Ratio, with what it says of the digits. -/
namespace Go.Proofs.YtnpfdelklolchaaGreatDoor
open Go Go.RowKit Go.Proofs

set_option maxHeartbeats 8000000 in
set_option maxRecDepth 100000 in
theorem rRatioF_any (u : Value) (q : Rat) (m : Int) (w : World) (hq : FracR w u q) (hs : frS q = false) (hz : Sz 100000 q) (htab : Tab w.heap.size w) :
    Calls Tryz.prog 9 #[u, .int .i64 m] w fun e w' => e = .returned (.tuple #[ratOf (ratQ q), .bool (decide (((ratQ q).1.length : Int) ≤ m) && decide (((ratQ q).2.length : Int) ≤ m))]) ∧ Below w.heap.size w w' := by
  obtain ⟨A1, c1, l1, A2, c2, l2, rfl, h1, h2⟩ := hq
  rw [hs]
  have hl1 := h1.len hz.1
  have hl2 := h2.len hz.2
  obtain ⟨W0, hW0⟩ : ∃ W0, W0 = (w.alloc (.cells #[.bool false, .slice A1 l1.length c1, .slice A2 l2.length c2] 31)).alloc (.cells #[.string ⟨#[]⟩, .string ⟨#[]⟩] 24) := ⟨_, rfl⟩
  have HST0 := Lib.hid (show St w W0 [(w.heap.size, .cells #[.bool false, .slice A1 l1.length c1, .slice A2 l2.length c2] 31 (0, 0)), (w.heap.size + 1, .cells #[.string ⟨#[]⟩, .string ⟨#[]⟩] 24 (0, 0))] by
    rw [hW0]
    simpa using ((St.start w).alloc _ _ rfl).alloc _ _ rfl)
  have HSW := Lib.hid (show W0.heap.size = w.heap.size + 2 by rw [hW0]; simp)
  have HTX1 := Lib.hid (show ∀ X, Below W0.heap.size W0 X → Calls Tryz.prog 42 #[.slice A1 l1.length c1] X fun e w' => e = .returned (.string ⟨(ratQ q).1.toArray⟩) ∧ Below X.heap.size X w' from fun X hX => rText_any A1 c1 l1 _ X (h1.on (HST0.out.old hX)) (by omega) ((htab.on (HST0.out.old hX)).mono (HST0.out.old hX).size))
  have HTX2 := Lib.hid (show ∀ X, Below W0.heap.size W0 X → Calls Tryz.prog 42 #[.slice A2 l2.length c2] X fun e w' => e = .returned (.string ⟨(ratQ q).2.toArray⟩) ∧ Below X.heap.size X w' from fun X hX => rText_any A2 c2 l2 _ X (h2.on (HST0.out.old hX)) (by omega) ((htab.on (HST0.out.old hX)).mono (HST0.out.old hX).size))
  have HKS := Lib.hid (show ∀ X, Below W0.heap.size W0 X → Below W0.heap.size W0 X ∧ X.cell? ⟨w.heap.size, 1, none⟩ = some (.slice A1 l1.length c1) ∧ X.cell? ⟨w.heap.size, 2, none⟩ = some (.slice A2 l2.length c2) from fun X hX => ⟨hX, (HST0.out.call hX).cell 0 1 rfl rfl, (HST0.out.call hX).cell 0 2 rfl rfl⟩)
  clear h1 h2 hz hs htab
  obtain ⟨P, hP⟩ : ∃ P, P = ratQ q := ⟨_, rfl⟩
  rw [← hP] at HTX1 HTX2 ⊢
  clear hP
  obtain ⟨L1, L2⟩ := P
  simp only at HTX1 HTX2
  go_enter Tryz.func9, Tryz.ntmps9
  go_upto_region 1 with fail
  rw [← hW0]
  clear hW0
  obtain ⟨f0, f1, f2⟩ := HKS.out W0 (Below.refl _ W0)
  go_cut [6] from 8 (fun v wx => ∃ B, v = .pointer (some ⟨B, 0, none⟩) ∧ RatAt wx B (L1, L2) ∧ W0.heap.size ≤ B ∧ Below W0.heap.size W0 wx)
  case first =>
    go_region_held3 (fun X => Below W0.heap.size W0 X ∧ X.cell? ⟨w.heap.size, 1, none⟩ = some (.slice A1 l1.length c1) ∧ X.cell? ⟨w.heap.size, 2, none⟩ = some (.slice A2 l2.length c2))
      (first
        | exact HKS.out _ (Below.refl _ W0).drew
        | exact HKS.out _ ((Below.refl _ W0).alloc (Nat.le_refl _) _).drew
        | (go_split_ands; refine HKS.out _ (below_next ?_ hb1); assumption)
        | (go_split_ands; refine HKS.out _ (below_next ?_ hb2); assumption)
        | (go_split_ands; refine HKS.out _ (below_next ?_ ((Below.refl _ _).alloc (Nat.le_refl _) _)); assumption)
        | (go_split_ands; refine HKS.out _ (below_reallocR (Z := .cells #[.string ⟨#[]⟩, .string ⟨#[]⟩] 24) ?_ (by omega)); assumption)
        | (go_split_ands; exact HKS.out _ ((Below.setCell (by assumption) (by show W0.heap.size ≤ _; first | exact Nat.le_refl _ | (dsimp only; omega) | omega) _).setCell (by show W0.heap.size ≤ _; first | exact Nat.le_refl _ | (dsimp only; omega) | omega) _)))
      (first
        | (go_at_call 42; (with_reducible refine (HTX1.out _ ?_).mono ?_); (go_split_ands; assumption); rintro e w1 ⟨rfl, hb1⟩; have s1 : W0.heap.size ≤ w1.heap.size := (by first | exact hb1.size | exact Nat.le_trans (Nat.le_of_lt (by simp)) hb1.size))
        | (go_at_call 42; (with_reducible refine (HTX2.out _ ?_).mono ?_); (go_split_ands; assumption); rintro e w2 ⟨rfl, hb2⟩; have s2 : w1.heap.size ≤ w2.heap.size := (by first | exact hb2.size | exact Nat.le_trans (Nat.le_of_lt (by simp)) hb2.size); (first | (have HBX := RBox.on (alloc_at w1 _ _ rfl : RBox (w1.alloc (.cells #[.string ⟨#[]⟩, .string ⟨#[]⟩] 24)) w1.heap.size) hb2) | (have HBX := RBox.on (RBox.on (show RBox ((W0.alloc (.cells #[.string ⟨#[]⟩, .string ⟨#[]⟩] 24)).drew) W0.heap.size from alloc_at W0 _ _ rfl) hb1) hb2) | have HBX := True.intro); (try obtain ⟨p0, p1, z0, z1, hlt⟩ := HBX.facts)))
    all_goals go_wp2_with fail
    all_goals go_meet
    all_goals first
      | exact ⟨_, rfl, ratAt_set HBX (L1, L2), by omega, by go_split_ands; assumption⟩
      | exact ⟨_, rfl, alloc_at _ _ _ rfl, by omega, by go_split_ands; assumption⟩
  case rest =>
    obtain ⟨B, rfl, hRA, hBle, hbc⟩ := hcut
    have hB0 := heap_lt hRA
    have g3 : wc.cell? ⟨B, 0, none⟩ = some (.string ⟨L1.toArray⟩) := by rw [cellsAt hRA]; rfl
    have g4 : wc.cell? ⟨B, 1, none⟩ = some (.string ⟨L2.toArray⟩) := by rw [cellsAt hRA]; rfl
    have hST := HST0.out.call hbc
    have g0 := hST.cell 0 0 rfl rfl
    have r0 := hST.cell 1 0 rfl rfl
    have r1 := hST.cell 1 1 rfl rfl
    have z0 := hST.frozen 1 0 rfl
    have z1 := hST.frozen 1 1 rfl
    have HFIN := Lib.hid ((hST.below.setCell (p := ⟨w.heap.size + 1, 0, none⟩) (by simp) (.string ⟨L1.toArray⟩)).setCell (p := ⟨w.heap.size + 1, 1, none⟩) (by simp) (.string ⟨L2.toArray⟩))
    clear hRA hbc hST f0 f1 f2
    by_cases m1 : (L1.length : Int) ≤ m
    · have v1 : decide ((L1.length : Int) ≤ m) = true := by simpa using m1
      go_wp2
      refine bodyPost_ret (v := .tuple #[ratOf (L1, L2), .bool (decide ((L2.length : Int) ≤ m))]) ?_ rfl ⟨by first | rfl | (show _ = Ending.returned (.tuple #[ratOf (L1, L2), .bool (decide ((L1.length : Int) ≤ m) && decide ((L2.length : Int) ≤ m))]); rw [v1, Bool.true_and]), HFIN.out⟩
      simp [results, Tryz.results9, go_sem, r0, r1, ratOf]
    · have v1 : decide ((L1.length : Int) ≤ m) = false := by simpa using m1
      go_wp2
      refine bodyPost_ret (v := .tuple #[ratOf (L1, L2), .bool false]) ?_ rfl ⟨by first | rfl | (show _ = Ending.returned (.tuple #[ratOf (L1, L2), .bool (decide ((L1.length : Int) ≤ m) && decide ((L2.length : Int) ≤ m))]); rw [v1, Bool.false_and]), HFIN.out⟩
      simp [results, Tryz.results9, go_sem, r0, r1, ratOf]

end Go.Proofs.YtnpfdelklolchaaGreatDoor
