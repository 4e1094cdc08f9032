/- Package nat: Digits. -/
import Derived.Test.YtnapdhfkgfjjfaaGreatDoorG35
import Derived.Test.YtnapdhfkgfjjfaaGreatDoorNatDivK
import Derived.Test.YtnapdhfkgfjjfaaGreatDoorG22
import Derived.Test.YtnapdhfkgfjjfaaGreatDoorG1
import Derived.Test.YtnapdhfkgfjjfaaGreatDoorShelfB
import Derived.Sort.OwnSorted
import Derived.Maps.AppendAt
namespace Go.Proofs.YtnapdhfkgfjjfaaGreatDoor
open Go Go.RowKit Go.Proofs Go.Sort

theorem infoStr : (Tryz.prog.info? 9).map (fun i => (i.zero, i.size, i.bytes)) = some (some (.string ⟨#[]⟩), 1, 16) := by kernel_rfl
theorem repL (c : Nat) : Lib.repeatL [48] c = List.replicate c 48 := by
  have := Lib.repeatL_replicate 48 1 c
  simpa using this
theorem join_flat (xs : List (List UInt8)) : Lib.join xs [] = xs.flatten := by
  unfold Lib.join
  induction xs with
  | nil => rfl
  | cons x r ih =>
    cases r with
    | nil => simp [List.intercalate]
    | cons y t =>
      simp only [List.intercalate, List.intersperse, List.flatten_cons] at ih ⊢
      rw [ih]; simp
theorem bytes_back : ∀ ps : List (List UInt8), (ps.map fun l => (⟨l.toArray⟩ : ByteArray)).map (fun x : ByteArray => x.data.toList) = ps
  | [] => rfl
  | x :: r => by rw [List.map_cons, List.map_cons, bytes_back r]
theorem bytes_cat (a b : List UInt8) : (⟨a.toArray⟩ : ByteArray) ++ ⟨b.toArray⟩ = ⟨(a ++ b).toArray⟩ := by
  apply ByteArray.ext
  simp
/-- the chunks so far, and what is left -/
def DecJ (x y : Nat) (ps : List (List UInt8)) : Prop :=
  (0 < y → Lib.decDigits x = Lib.decDigits y ++ ps.reverse.flatten) ∧ (y = 0 → (x = 0 ∧ ps = []) ∨ (ps ≠ [] ∧ Lib.decDigits x = ps.reverse.flatten))
theorem decJ_start (x : Nat) : DecJ x x [] := ⟨fun _ => by simp, fun h => .inl ⟨h, rfl⟩⟩
theorem decJ_more {x y : Nat} {ps : List (List UInt8)} (h : DecJ x y ps) (hy : 0 < y) (hq : 0 < y / 1000000000000000000) : DecJ x (y / 1000000000000000000) (ps ++ [pad 18 (y % 1000000000000000000)]) := by
  refine ⟨fun _ => ?_, fun h0 => by omega⟩
  have e := dec_chunk 18 (y / 1000000000000000000) (y % 1000000000000000000) (by omega) hq (by have := Nat.mod_lt y (show 0 < 1000000000000000000 by omega); simpa using this)
  have e2 : y % 1000000000000000000 + 10 ^ 18 * (y / 1000000000000000000) = y := by
    have := Nat.mod_add_div y 1000000000000000000
    simpa using this
  rw [e2] at e
  rw [h.1 hy, e, List.reverse_append]
  simp
theorem decJ_last {x y : Nat} {ps : List (List UInt8)} (h : DecJ x y ps) (hy : 0 < y) (hq : y / 1000000000000000000 = 0) : DecJ x (y / 1000000000000000000) (ps ++ [Lib.decDigits (y % 1000000000000000000)]) := by
  refine ⟨fun h0 => by omega, fun _ => .inr ⟨by simp, ?_⟩⟩
  have e : y % 1000000000000000000 = y := Nat.mod_eq_of_lt (by omega)
  rw [e, h.1 hy, List.reverse_append]
  simp
theorem dec18 {r : Nat} (h : r < 1000000000000000000) : (Lib.decDigits r).length ≤ 18 := dec_le (by omega) (by simpa using h)

theorem half_lt {g F : Nat} (h : g < 2 ^ F) (hg : 0 < g) : 0 < F ∧ g / 1000000000000000000 < 2 ^ (F - 1) := by
  cases F with
  | zero => simp at h; omega
  | succ F =>
    rw [Nat.pow_succ] at h
    refine ⟨by omega, ?_⟩
    rw [Nat.add_sub_cancel]
    have : g / 1000000000000000000 ≤ g / 2 := Nat.div_le_div_left (by omega) (by omega)
    omega
theorem dec_le2 {x E : Nat} (h : x < 2 ^ E) : (Lib.decDigits x).length ≤ E + 1 := by
  refine dec_le (by omega) (Nat.lt_of_lt_of_le h ?_)
  exact Nat.le_trans (Nat.pow_le_pow_left (by omega) E) (Nat.pow_le_pow_right (by omega) (by omega))
set_option maxHeartbeats 8000000 in
set_option maxRecDepth 100000 in
theorem digits_any (A : Option Addr) (c : Nat) (l : List Nat) (x : Nat) (w : World) (h : NatR w A c l x) (hs : l.length ≤ 1000) (ht : Tab w.heap.size w) :
    Calls Tryz.prog 91 #[.slice A l.length c] w fun e w' => e = .returned (.string ⟨(Lib.decDigits x).toArray⟩) ∧ Below w.heap.size w w' := by
  obtain ⟨ii, hii, hiz0, hiz1, hiz2⟩ := info_parts infoStr
  have HN0 := Lib.hid h
  have HT := Lib.hid (fun W (hb : Below w.heap.size w W) => (ht.on hb).mono hb.size)
  have HE0 := Lib.hid (show ∃ E : Nat, x < 2 ^ E ∧ E ≤ 64000 from ⟨64 * l.length, by
    have h1 := val_lt h.norm.1
    rw [h.val] at h1
    have : W64 = 2 ^ 64 := by unfold W64; rfl
    rw [this, ← Nat.pow_mul] at h1
    exact h1, by omega⟩)
  clear h ht
  obtain ⟨E, hE1, hE2⟩ := HE0.out
  have HX := Lib.hid hE1
  clear hE1
  go_enter Tryz.func91, Tryz.ntmps91
  go_wp2_with fail
  go_loopg [3, 4, 5, 6, 7] x (fun y pv rv _ _ _ wr => ∃ (A1 : Option Addr) (c1 : Nat) (l1 : List Nat) (ps : List (List UInt8)), rv = .slice A1 l1.length c1 ∧ NatR wr A1 c1 l1 y ∧ l1.length ≤ 1000000 ∧ ps.length ≤ E ∧ Hid (y < 2 ^ (E - ps.length)) ∧ wr.ownsRow w.heap.size 9 1 pv ps.length (ps.map encStr) ∧ Hid (DecJ x y ps) ∧ Below w.heap.size w wr)
  case atStart => exact ⟨A, c, l, [], rfl, HN0.out, by omega, Nat.zero_le _, Lib.hid HX.out, ⟨rfl, .inl ⟨rfl, rfl⟩⟩, Lib.hid (decJ_start x), Below.refl _ _⟩
  case round =>
    obtain ⟨A1, c1, l1, ps, rfl, hn, hl1, hps, HE, hown, HJ, hbw⟩ := hrel
    have HOW := Lib.hid hown
    have HBW := Lib.hid hbw
    have hsz := hbw.size
    rcases Nat.eq_zero_or_pos gk with h0 | hpos
    · subst h0
      have h0' : l1 = [] := (val_zero W64_pos hn.norm).1 hn.val
      subst h0'
      rcases HJ.out.2 rfl with ⟨hx, hp⟩ | ⟨hp, hx⟩
      · subst hp
        have HR := Lib.hid (show (⟨#[48]⟩ : ByteArray) = ⟨(Lib.decDigits x).toArray⟩ by rw [hx, dec_small (by omega)]; rfl)
        obtain ⟨A', cap, rfl, _⟩ := ownsRow_shape hown
        clear hn hown hbw hx
        go_wp2
        go_ret
        exact ⟨by rw [← HR.out]; rfl, HBW.out⟩
      · have hpl : 0 < ps.length := List.length_pos_iff.2 hp
        have HXE := Lib.hid hx
        rcases hown.2 with ⟨_, hz⟩ | ⟨g, cap, cur, rfl, hb, hh, q1, q2, q3, q4⟩
        · omega
        · have hg := heap_lt hh
          have hH := holds_of_block (ss := ps) hh (by rw [Nat.mul_one] at q4; exact q4)
          have HRV := Lib.hid (Tryz.slices_Reverse_string g 0 cap ps wr hH (by omega))
          have HOS := Lib.hid (fun n => ownsRow_sorted (w := wr) (n := n) (os := #[]) (ts := ps.reverse) (ss := ps) (by simp) hb hh q1 q2 q3)
          have HGB := Lib.hid (fun n => grownBy_sorted (w := wr) (g := g) (n := n) (os := #[]) ps.reverse.toArray)
          have t1 : ((ps.length : Int) == 0) = false := by simp; exact hp
          have t2 : (ps.length == 0) = false := by simp; exact hp
          have HXL := Lib.hid (dec_le2 HX.out)
          clear hn hown hH q3 q4 hh hp hx
          go_wp2_with fail
          (with_reducible refine HRV.out.mono ?_)
          rintro e w2 ⟨rfl, n, hw2⟩
          have ho2 := HOS.out n
          have hg2 := HGB.out n
          rw [grow_empty, ← hw2] at ho2 hg2
          have HB2 := Lib.hid (show Below w.heap.size w w2 from hbw.trans ((Fr.of_grown hg2).below (B := w.heap.size) hsz (fun i hi hm => by cases hm; omega)))
          have hcl := ho2.cells (g := g) rfl
          have hg2l : g < w2.heap.size := Nat.lt_of_lt_of_le hg hg2.size
          have HJN := Tryz.strings_Join g 0 cap (ps.reverse.map fun l => ⟨l.toArray⟩) ⟨#[]⟩ w2 (fun j y hj => by
            have : (ps.reverse.map encStr)[j]? = some (.string y) := by
              rw [List.getElem?_map] at hj ⊢
              cases hz : ps.reverse[j]? with
              | none => rw [hz] at hj; cases hj
              | some z => rw [hz] at hj; simp at hj; subst hj; rfl
            have := hcl j _ this
            rwa [Lib.add_plain] at this) hg2l (by simp; omega) (by simp; omega) (by
            have e : (List.map (fun x : ByteArray => x.data.toList) (List.map (fun l : List UInt8 => (⟨l.toArray⟩ : ByteArray)) ps.reverse)) = ps.reverse := bytes_back _
            rw [e, join_flat, ← HXE.out]; have := HXL.out; omega)
          have e : (List.map (fun x : ByteArray => x.data.toList) (List.map (fun l : List UInt8 => (⟨l.toArray⟩ : ByteArray)) ps.reverse)) = ps.reverse := bytes_back _
          rw [e, join_flat, ← HXE.out, List.length_map, List.length_reverse] at HJN
          have HJO := Lib.hid HJN
          clear ho2 hg2 hcl HJN e hbw hw2
          go_wp2_with fail
          (with_reducible refine HJO.out.mono ?_)
          rintro e w3 ⟨rfl, hb3⟩
          have HB3 := Lib.hid (below_next HB2.out hb3)
          clear hb3
          go_wp2
          go_ret
          exact ⟨rfl, HB3.out⟩
    · have hl4' : l1.length ≠ 0 := fun h => by
        have h' : l1 = [] := List.eq_nil_of_length_eq_zero h
        subst h'
        have := hn.val; simp [val] at this; omega
      have u1 : decide (0 < (l1.length : Int)) = true := by simp; omega
      have u2 : decide (0 < l1.length) = true := by simp; omega
      have HSM := Lib.hid (show Calls Tryz.prog 106 #[.slice A1 l1.length c1, .int .u64 1000000000000000000] wr (NatWNew (gk / 1000000000000000000) (gk % 1000000000000000000) wr) from natSmallN_any A1 c1 l1 gk 1000000000000000000 wr hn (by omega) (by omega) (by omega))
      have hgl : gk < W64 ^ l1.length := by have := val_lt hn.norm.1; rwa [hn.val] at this
      have HGL := Lib.hid (show gk / 1000000000000000000 < W64 ^ l1.length from Nat.lt_of_le_of_lt (Nat.div_le_self _ _) hgl)
      have hrl : gk % 1000000000000000000 < 1000000000000000000 := Nat.mod_lt _ (by omega)
      have HEB := Lib.hid (half_lt HE.out hpos)
      have HEP := Lib.hid (show ps.length + 1 ≤ E by have := HEB.out.1; omega)
      have HEQ := Lib.hid HEB.out.2
      have HOL := Lib.hid (fun b (hm : some b = u3.ownBlock) => (ownsRow_block hown hm).2)
      have hpl : ps.length ≤ 64000 := by omega
      obtain ⟨r, hr⟩ : ∃ r, r = gk % 1000000000000000000 := ⟨_, rfl⟩
      have HRR := Lib.hid hr
      rw [← hr] at HSM hrl
      have h18 := dec18 hrl
      have HFU := Lib.hid (fun W (hb : Below w.heap.size w W) => fmtU_any r W (by omega) (HT.out W hb))
      clear hn hown hgl hr
      go_wp2_with fail
      (with_reducible refine HSM.out.mono ?_)
      rintro e w1 ⟨A2, c2, l2, rfl, hn2, hb1, hnew⟩
      have HN2 := Lib.hid hn2
      have HNW := Lib.hid hnew
      have HLQ := Lib.hid (show l2.length ≤ 1000000 from Nat.le_trans (len_of_lt hn2.norm hn2.val HGL.out) hl1)
      have HB1 := Lib.hid hb1
      clear hn2 hb1 hnew hbw
      go_wp2_with fail
      (with_reducible refine (HFU.out _ (below_next HBW.out HB1.out)).mono ?_)
      rintro e w2 ⟨rfl, hb2⟩
      have HB2 := Lib.hid (below_next HB1.out hb2)
      have HN2b := Lib.hid (HN2.out.on hb2)
      clear hb2
      rcases Nat.eq_zero_or_pos (gk / 1000000000000000000) with hq | hq
      · have hl2 : l2 = [] := (val_zero W64_pos HN2.out.norm).1 (by rw [HN2.out.val, hq])
        have v1 : decide (0 < (l2.length : Int)) = false := by rw [hl2]; rfl
        have v2 : decide (0 < l2.length) = false := by rw [hl2]; rfl
        have HQ := Lib.hid hq
        have HO5 := Lib.hid (ownsRow_fr HOW.out (Fr.of_below HB2.out) (fun i hi hm => by have := (ownsRow_block HOW.out hi).2; omega))
        have HB5 := Lib.hid (HBW.out.trans (HB2.out.mono hsz))
        have HN5 := HN2b
        clear hl2 hq
        obtain ⟨w5, hw5⟩ : ∃ z : World, z = w2 := ⟨_, rfl⟩
        subst hw5
        have hs5 := HB5.out.size
        go_wp2_with (at_builtin; refine wpList_append_own_at _ rfl (.tmp 28) (.tmp 30) 152 rfl w.heap.size 9 ii _ 1 16 Tryz.underlying152 hii hiz0 hiz1 hiz2 rfl (by decide) _ ps.length (ps.map encStr) rfl (HO5.out.alloc _) ⟨w5.heap.size, 0, none⟩ 1 1 [.string ⟨(Lib.decDigits r).toArray⟩] rfl rfl (cell_one_new w5 _ 9) (by simp [Value.oneCell']) ?c1 ?c2 ?c3 ?_)
        case c1 => unfold maxLen; omega
        case c2 => omega
        case c3 => simp; omega
        intro v' w6 hown6 hgr6 _ _
        have HB6 := Lib.hid (show Below w.heap.size w w6 from (HB5.out.alloc (by omega) _).trans ((Fr.of_grown hgr6).below (B := w.heap.size) (by simp; omega) (fun i hi hm => by have := (ownsRow_block HO5.out hm).1; omega)))
        have HO6 := Lib.hid (show w6.ownsRow w.heap.size 9 1 v' (ps ++ [Lib.decDigits r]).length ((ps ++ [Lib.decDigits r]).map encStr) by rw [List.length_append, List.map_append]; exact hown6)
        have HN6 := Lib.hid (show NatR w6 A2 c2 l2 (gk / 1000000000000000000) from (HN5.out.on ((Below.refl _ _).alloc (Nat.le_refl _) _)).keep hgr6.size (fun b o e hb hl => hgr6.block b hb (fun hm => by
          have h1 := HNW.out b o e
          have h2 := HOL.out b hm
          omega)))
        have HJ6 := Lib.hid (by have := decJ_last HJ.out hpos HQ.out; rw [← HRR.out] at this; exact this)
        have HL6 := Lib.hid (show (ps ++ [Lib.decDigits r]).length = ps.length + 1 by simp)
        clear hown6 hgr6
        go_wp2
        go_roundg (gk / 1000000000000000000)
        case measure => exact Nat.div_lt_self hpos (by omega)
        case rel => exact ⟨A2, c2, l2, ps ++ [Lib.decDigits r], rfl, HN6.out, HLQ.out, by rw [HL6.out]; exact HEP.out, Lib.hid (by rw [HL6.out, ← Nat.sub_sub]; exact HEQ.out), HO6.out, HJ6, HB6.out⟩
      · have hl2 : l2.length ≠ 0 := fun h => by
          have h' : l2 = [] := List.eq_nil_of_length_eq_zero h
          have := HN2.out.val; rw [h'] at this; simp [val] at this; omega
        have v1 : decide (0 < (l2.length : Int)) = true := by simp; omega
        have v2 : decide (0 < l2.length) = true := by simp; omega
        have HQ := Lib.hid hq
        have HRP := Lib.hid (show ∀ W, Calls Tryz.prog 123 #[.string ⟨#[48]⟩, .int .i64 (18 - ((Lib.decDigits r).length : Int))] W fun e w' => e = .returned (.string ⟨(List.replicate (18 - (Lib.decDigits r).length) 48).toArray⟩) ∧ Below W.heap.size W w' from fun W => by
          have h := Tryz.strings_Repeat ⟨#[48]⟩ (18 - (Lib.decDigits r).length) W (by omega) (by show 1 * _ ≤ _; omega)
          rw [show (((18 - (Lib.decDigits r).length : Nat)) : Int) = 18 - ((Lib.decDigits r).length : Int) by omega] at h
          have e : (⟨#[48]⟩ : ByteArray).data.toList = [48] := rfl
          rw [e, repL] at h
          exact h)
        have hcat : (⟨(List.replicate (18 - (Lib.decDigits r).length) 48).toArray⟩ : ByteArray) ++ ⟨(Lib.decDigits r).toArray⟩ = ⟨(pad 18 r).toArray⟩ := bytes_cat _ _
        clear hl2 hq
        go_wp2_with fail
        (with_reducible refine (HRP.out _).mono ?_)
        rintro e w5 ⟨rfl, hb5⟩
        have HB25 := Lib.hid (below_next HB2.out hb5)
        have HN5 := Lib.hid (HN2b.out.on hb5)
        have HO5 := Lib.hid (ownsRow_fr HOW.out (Fr.of_below HB25.out) (fun i hi hm => by have := (ownsRow_block HOW.out hi).2; omega))
        have HB5 := Lib.hid (HBW.out.trans (HB25.out.mono hsz))
        clear hb5
        have hs5 := HB5.out.size
        go_wp2_with (at_builtin; refine wpList_append_own_at _ rfl (.tmp 28) (.tmp 30) 152 rfl w.heap.size 9 ii _ 1 16 Tryz.underlying152 hii hiz0 hiz1 hiz2 rfl (by decide) _ ps.length (ps.map encStr) rfl (HO5.out.alloc _) ⟨w5.heap.size, 0, none⟩ 1 1 [.string ⟨(pad 18 r).toArray⟩] rfl rfl (cell_one_new w5 _ 9) (by simp [Value.oneCell']) ?c1 ?c2 ?c3 ?_)
        case c1 => unfold maxLen; omega
        case c2 => omega
        case c3 => simp; omega
        intro v' w6 hown6 hgr6 _ _
        have HB6 := Lib.hid (show Below w.heap.size w w6 from (HB5.out.alloc (by omega) _).trans ((Fr.of_grown hgr6).below (B := w.heap.size) (by simp; omega) (fun i hi hm => by have := (ownsRow_block HO5.out hm).1; omega)))
        have HO6 := Lib.hid (show w6.ownsRow w.heap.size 9 1 v' (ps ++ [pad 18 r]).length ((ps ++ [pad 18 r]).map encStr) by rw [List.length_append, List.map_append]; exact hown6)
        have HN6 := Lib.hid (show NatR w6 A2 c2 l2 (gk / 1000000000000000000) from (HN5.out.on ((Below.refl _ _).alloc (Nat.le_refl _) _)).keep hgr6.size (fun b o e hb hl => hgr6.block b hb (fun hm => by
          have h1 := HNW.out b o e
          have h2 := HOL.out b hm
          omega)))
        have HJ6 := Lib.hid (by have := decJ_more HJ.out hpos HQ.out; rw [← HRR.out] at this; exact this)
        have HL6 := Lib.hid (show (ps ++ [pad 18 r]).length = ps.length + 1 by simp)
        clear hown6 hgr6
        go_wp2
        go_roundg (gk / 1000000000000000000)
        case measure => exact Nat.div_lt_self hpos (by omega)
        case rel => exact ⟨A2, c2, l2, ps ++ [pad 18 r], rfl, HN6.out, HLQ.out, by rw [HL6.out]; exact HEP.out, Lib.hid (by rw [HL6.out, ← Nat.sub_sub]; exact HEQ.out), HO6.out, HJ6, HB6.out⟩
end Go.Proofs.YtnapdhfkgfjjfaaGreatDoor
