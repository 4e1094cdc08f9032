import Derived.Test.YtfeicfohahfhiaaGreatDoorG3
import Derived.Test.YtfeicfohahfhiaaGreatDoorShelf
import Derived.Test.YtfeicfohahfhiaaGreatDoorProg
import Derived.Handy
import Derived.WalkSpells
import Derived.WalkLawsBesides
import Derived.Deep.QuietTactic
import Derived.BigQuiet
import Derived.Laws.BytesString
import Derived.Lib.ItoaLen
import Derived.Lib.SlBytesRow
import Derived.Lib.BufferRead
import Derived.Lib.AppendIntMem
import Derived.Test.YtfeicfohahfhiaaGreatDoorShelfB
import Derived.Test.YtfeicfohahfhiaaGreatDoorRDivMod
import Derived.Test.YtfeicfohahfhiaaGreatDoorG1
/- The table of strconv's digits in memory. -/
namespace Go.Proofs.YtfeicfohahfhiaaGreatDoor
open Go Go.RowKit Go.Proofs Go.Maps

/-- the table that AppendInt reads, kept by whatever leaves the blocks below B alone -/
def Tab (B : Nat) (w : World) : Prop := Lib.TabBelow Tryz.prog B w "internal/strconv.uint64pow10" .u64 Lib.pow10Tab
theorem Tab.on {B : Nat} {w w' : World} (h : Tab B w) (hb : Below B w w') : Tab B w' := Lib.TabBelow.on h hb
theorem Tab.mono {B B' : Nat} {w : World} (h : Tab B w) (hB : B ≤ B') : Tab B' w := fun w' hb => h w' (hb.mono hB)

def I64 (x : Int) : Prop := -9223372036854775808 ≤ x ∧ x ≤ 9223372036854775807
end Go.Proofs.YtfeicfohahfhiaaGreatDoor

/- Package dynamometerref0: Text. -/
namespace Go.Proofs.YtfeicfohahfhiaaGreatDoor
open Go Go.RowKit Go.Proofs

theorem bytes_cat2 (a b : List UInt8) : (⟨a.toArray⟩ : ByteArray) ++ ⟨b.toArray⟩ = ⟨(a ++ b).toArray⟩ := by
  apply ByteArray.ext
  simp
theorem pad_full {d : Nat} {L : List UInt8} (h : pad 4 d = List.replicate (4 - L.length) 48 ++ L) (hl : 4 ≤ L.length) : L = pad 4 d := by
  rw [h, show 4 - L.length = 0 by omega]; rfl
theorem pad_more {d : Nat} {L : List UInt8} (h : pad 4 d = List.replicate (4 - L.length) 48 ++ L) (hl : L.length < 4) : pad 4 d = List.replicate (4 - (48 :: L).length) 48 ++ (48 :: L) := by
  rw [h, List.length_cons, show 4 - L.length = 4 - (L.length + 1) + 1 by omega, List.replicate_succ', List.append_assoc]; rfl
theorem val_top {l : List Nat} (h : Norm T4 l) {k : Nat} (hk : k < l.length) : 1 ≤ val T4 (l.drop k) := by
  rcases Nat.eq_zero_or_pos (val T4 (l.drop k)) with h0 | h0
  · exfalso
    have hn : Norm T4 (l.drop k) := ⟨fun d hd => h.1 d (List.mem_of_mem_drop hd), by
      rw [List.getLast?_drop, if_neg (by omega)]; exact h.2⟩
    have := (val_zero T4_pos hn).1 h0
    have := congrArg List.length this
    simp at this; omega
  · exact h0
theorem val_last {l : List Nat} {d : Nat} (h : l[l.length - 1]? = some d) : val T4 (l.drop (l.length - 1)) = d := by
  obtain ⟨hk, rfl⟩ := List.getElem?_eq_some_iff.1 h
  rw [List.drop_eq_getElem_cons hk, List.drop_of_length_le (by omega)]
  simp [val]
theorem val_at {l : List Nat} {d k : Nat} (h : l[k]? = some d) : val T4 (l.drop k) = d + 10 ^ 4 * val T4 (l.drop (k + 1)) := by
  obtain ⟨hk, rfl⟩ := List.getElem?_eq_some_iff.1 h
  rw [List.drop_eq_getElem_cons hk]
  simp only [val]; rfl

set_option maxHeartbeats 4000000 in
set_option maxRecDepth 100000 in
theorem rText_any (A : Option Addr) (c : Nat) (l : List Nat) (x : Nat) (w : World) (h : RNatR w A c l x) (hs : l.length ≤ 1000000) (ht : Tab w.heap.size w) :
    Calls Tryz.prog 86 #[.slice A l.length c] w fun e w' => e = .returned (.string ⟨(Lib.decDigits x).toArray⟩) ∧ Below w.heap.size w w' := by
  have HT := Lib.hid (fun W (hb : Below w.heap.size w W) => ht.on hb W (Below.refl _ _))
  have HIT := Lib.hid (show ∀ (d : Nat) W, d < 10000 → Lib.TabIs Tryz.prog W "internal/strconv.uint64pow10" .u64 Lib.pow10Tab → Calls Tryz.prog 103 #[.int .i64 d] W fun e w' => e = .returned (.string ⟨(Lib.decDigits d).toArray⟩) ∧ Below W.heap.size W w' from fun d W hd htab =>
    (Tryz.strconv_Itoa d (by omega) (by omega) W htab).mono fun e w' ⟨he, k, os, hw⟩ => ⟨by rw [he, itoa_nat], by rw [hw]; exact Lib.below_grow _ _ (Nat.le_refl _) k os⟩)
  have HN := Lib.hid h
  clear ht
  rcases Nat.eq_zero_or_pos l.length with h0 | hpos
  · have h0' : l = [] := List.eq_nil_of_length_eq_zero h0
    subst h0'
    have HX := Lib.hid (show (⟨#[48]⟩ : ByteArray) = ⟨(Lib.decDigits x).toArray⟩ by
      have : x = 0 := by have := h.val; simp [val] at this; exact this.symm
      rw [this, dec_small (by omega)]; rfl)
    clear h
    go_enter Tryz.func86, Tryz.ntmps86
    go_wp2
    go_ret
    exact ⟨by rw [← HX.out]; rfl, Below.refl _ _⟩
  · obtain ⟨n, hn⟩ : ∃ n, l.length = n + 1 := ⟨l.length - 1, by omega⟩
    obtain ⟨b, o, u, rfl, hb, hu, q⟩ := h.rd.at1 (show n < l.length by omega)
    obtain ⟨d, hd, rfl⟩ := d4s_get hu
    have hdW : d < 10000 := h.norm.1 d (List.mem_of_getElem? hd)
    have HS0 := Lib.hid (show Lib.decDigits d = Lib.decDigits (val T4 (l.drop n)) by
      have := val_last (l := l) (d := d) (by rw [show l.length - 1 = n by omega]; exact hd)
      rw [show l.length - 1 = n by omega] at this
      rw [this])
    have HTP := Lib.hid (fun k (hk : k < l.length) => val_top h.norm hk)
    have e1 : (l.length : Int) - 1 = (n : Int) := by omega
    have e2 : (l.length : Int) - 2 = (n : Int) - 1 := by omega
    have i0 : (n : Int) < (l.length : Int) := by omega
    have t1 : ((l.length : Int) == 0) = false := by simp; intro h'; rw [h'] at hn; simp at hn
    have t2 : (l.length == 0) = false := by simp; intro h'; rw [h'] at hn; simp at hn
    have HI0 := Lib.hid (HIT.out d w hdW (HT.out w (Below.refl _ _)))
    have HV := Lib.hid h.val
    have hnl : n < l.length := by omega
    have hnl2 : l.length ≤ n + 1 := by omega
    clear h hu hd hn
    go_enter Tryz.func86, Tryz.ntmps86
    go_wp2_with fail
    (with_reducible refine HI0.out.mono ?_)
    rintro e w1 ⟨rfl, hb1⟩
    have HB1 := Lib.hid hb1
    clear hb1 q
    go_wp2_with fail
    go_loopw [3, 4, 5] (fun sv iv _ wr => ∃ (k : Nat) (S : List UInt8), iv = .int .i64 ((k : Int) - 1) ∧ k ≤ n ∧ S.length + 4 * k ≤ 4 * n + 4 ∧ sv = .string ⟨S.toArray⟩ ∧ Hid (S = Lib.decDigits (val T4 (l.drop k))) ∧ Below w.heap.size w wr) (fun _ iv _ _ => (intOf iv + 1).toNat)
    case atStart => exact ⟨n, Lib.decDigits d, by first | rfl | (congr 1; omega), Nat.le_refl _, by have := dec_le (v := d) (k := 4) (by omega) (by simpa using hdW); omega, rfl, HS0, HB1.out⟩
    case round =>
      obtain ⟨k, S, rfl, hk, hSl, rfl, HS, hbw⟩ := hrel
      have HBW := Lib.hid hbw
      cases k with
      | zero =>
        have HX := Lib.hid (show S = Lib.decDigits x by rw [HS.out, List.drop_zero, HV.out])
        clear hbw
        go_wp2
        go_ret
        exact ⟨by rw [← HX.out]; rfl, HBW.out⟩
      | succ j =>
        have e3 : (((j + 1 : Nat) : Int) - 1) = (j : Int) := by omega
        rw [e3]
        clear e3
        obtain ⟨b', o', u, hA, hb', hu, qk⟩ := (HN.out.on hbw).rd.at1 (show j < l.length by omega)
        simp only [Option.some.injEq, Addr.mk.injEq, and_true] at hA
        obtain ⟨rfl, rfl⟩ := hA
        obtain ⟨dj, hdj, rfl⟩ := d4s_get hu
        have hdjW : dj < 10000 := HN.out.norm.1 dj (List.mem_of_getElem? hdj)
        have HDJ := Lib.hid (show Lib.decDigits (val T4 (l.drop j)) = S ++ pad 4 dj by
          rw [val_at hdj, HS.out, dec_chunk 4 _ dj (by omega) (HTP.out (j + 1) (by omega)) (by simpa using hdjW)])
        have HIJ := Lib.hid (HIT.out dj wr hdjW (HT.out wr hbw))
        have hj1 : (j : Int) < (l.length : Int) := by omega
        have t0 : decide ((0 : Int) ≤ ↑j) = true := by simp
        have hp1 := dec_len_pos dj
        have hp2 : (Lib.decDigits dj).length ≤ 4 := dec_le (by omega) (by simpa using hdjW)
        clear hu hdj hbw
        go_wp2_with fail
        (with_reducible refine HIJ.out.mono ?_)
        rintro e w2 ⟨rfl, hb2⟩
        have HB2 := Lib.hid (below_next HBW.out hb2)
        clear hb2
        go_wp2_with fail
        go_loopg [5] (4 - (Lib.decDigits dj).length) (fun g tv wz => Below w.heap.size w wz ∧ ∃ L : List UInt8, tv = .string ⟨L.toArray⟩ ∧ L.length + g = 4 ∧ Hid (pad 4 dj = List.replicate (4 - L.length) 48 ++ L))
        case atStart => exact ⟨HB2.out, _, rfl, by omega, Lib.hid rfl⟩
        case round =>
          obtain ⟨hbz, L, rfl, hLg, HP⟩ := hrel
          have HBZ := Lib.hid hbz
          clear hbz
          rcases Nat.eq_zero_or_pos gk with hg0 | hg0
          · have HL := Lib.hid (pad_full HP.out (by omega))
            have hcl : ¬ 9223372036854775807 < S.length + L.length := by omega
            have hcl2 : S.length + L.length ≤ 9223372036854775807 := by omega
            have v1 : decide (L.length < 4) = false := by simp; omega
            have v2 : decide ((L.length : Int) < 4) = false := by simp; omega
            have hcat : (⟨S.toArray⟩ : ByteArray) ++ ⟨L.toArray⟩ = ⟨(S ++ L).toArray⟩ := bytes_cat2 _ _
            have HSL := Lib.hid (show S ++ L = Lib.decDigits (val T4 (l.drop j)) by rw [HDJ.out, ← HL.out])
            go_wp2
            go_roundw
            case rel => exact ⟨j, S ++ L, rfl, by omega, by rw [List.length_append]; omega, rfl, HSL, HBZ.out⟩
            case measure => simp [intOf]
          · have HL := Lib.hid (pad_more HP.out (by omega))
            have v1 : decide (L.length < 4) = true := by simp; omega
            have v2 : decide ((L.length : Int) < 4) = true := by simp; omega
            have hcat : (⟨#[48]⟩ : ByteArray) ++ ⟨L.toArray⟩ = ⟨(48 :: L).toArray⟩ := bytes_cat2 [48] L
            go_wp2
            go_roundg (gk - 1)
            case measure => omega
            case rel => exact ⟨HBZ.out, 48 :: L, rfl, by simp; omega, HL⟩
end Go.Proofs.YtfeicfohahfhiaaGreatDoor
