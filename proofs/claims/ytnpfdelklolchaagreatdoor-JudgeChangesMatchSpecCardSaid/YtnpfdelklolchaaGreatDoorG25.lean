import Derived.Test.YtnpfdelklolchaaGreatDoorG8
import Derived.Test.YtnpfdelklolchaaGreatDoorG21
import Derived.Lib.ItoaMem
import Derived.BigGuard
import Derived.Test.YtnpfdelklolchaaGreatDoorNatDivK
import Derived.Test.YtnpfdelklolchaaGreatDoorG17
import Derived.Test.YtnpfdelklolchaaGreatDoorG0
import Derived.Test.YtnpfdelklolchaaGreatDoorShelfB
import Derived.Sort.OwnSorted
import Derived.Maps.AppendAt
/- Package nat: small makes its number in memory of its own. -/
namespace Go.Proofs.YtnpfdelklolchaaGreatDoor
open Go Go.RowKit Go.Proofs

/-- what a function returns that makes a number, in memory of its own, and a word -/
def NatWNew (x r : Nat) (w : World) (e : Ending) (w' : World) : Prop := ∃ A c l, e = .returned (.tuple #[.slice A l.length c, .int .u64 (r : Int)]) ∧ NatR w' A c l x ∧ Below w.heap.size w w' ∧ ∀ b o, A = some ⟨b, o, none⟩ → w.heap.size ≤ b
set_option maxHeartbeats 2000000 in
set_option maxRecDepth 100000 in
theorem natSmallN_any (A1 : Option Addr) (c1 : Nat) (l1 : List Nat) (x b : Nat) (w : World) (h1 : NatR w A1 c1 l1 x) (hs : l1.length ≤ 1000000) (hb0 : 0 < b) (hbW : b < 18446744073709551616) :
    Calls Tryz.prog 68 #[.slice A1 l1.length c1, .int .u64 b] w (NatWNew (x / b) (x % b) w) := by
  obtain ⟨i0, hi0, hz0, hz1, hz2⟩ := info_parts Tryz.infoU
  have HN1 := Lib.hid h1
  clear h1
  go_enter Tryz.func68, Tryz.ntmps68
  go_wp2_with (at_make; refine wpList_make_full _ rfl (.tmp 10) (.tmp 10) 61 rfl w.heap.size 110 i0 _ 1 Tryz.underlying61 hi0 hz0 hz1 .i64 .i64 _ _ l1.length rfl rfl ?m1 ?m2 ?m3 ?m4 ?m5 ?_)
  case m1 => rfl
  case m2 => rfl
  case m3 => rw [hz2]; omega
  case m4 => unfold maxLen; omega
  case m5 => exact Nat.le_refl _
  intro w1 hown hgr
  rw [made_zeros] at hown
  obtain ⟨hblk, _⟩ := Blk.of_own hown
  have hb1 : Below w.heap.size w w1 := (Below.refl _ w).grown hgr (Nat.le_refl _) (fun k hk => by cases hk)
  have hsz1 : w.heap.size < w1.heap.size := heap_lt hblk
  have HBK := Lib.hid hblk
  have HB1 := Lib.hid hb1
  clear hown hgr hblk hb1
  go_wp2
  go_loopw [7, 8] (fun re i wr => ∃ (k r : Nat), i = .int .i64 ((k : Int) - 1) ∧ re = .int .u64 r ∧ k ≤ l1.length ∧ r < b ∧ SmallRel w wr w.heap.size l1 b k r) (fun _ i _ => (intOf i + 1).toNat)
  case atStart => exact ⟨l1.length, 0, rfl, rfl, Nat.le_refl _, hb0, List.replicate l1.length 0, by simp, fun d hd => by rw [List.eq_of_mem_replicate hd]; unfold W64; omega, HBK.out, by rw [List.drop_length, List.drop_eq_nil_of_le (by simp)]; rfl, HB1.out⟩
  case round =>
    obtain ⟨k, r, rfl, rfl, hk, hr, o, hol, hod, hblk, hval, hbw⟩ := hrel
    have hgl := heap_lt hblk
    have HO := Lib.hid hod
    have HOL := Lib.hid hol
    have HV := Lib.hid hval
    have HBW := Lib.hid hbw
    have HBL := Lib.hid hblk
    clear hod hol hval
    cases k with
    | succ j =>
      have e : (((j + 1 : Nat) : Int) - 1) = (j : Int) := by omega
      rw [e]
      clear e
      obtain ⟨ba, oa, ua, rfl, hba, hua, qa⟩ := (HN1.out.rd.below hbw (Nat.le_refl _)).at1 (show j < l1.length by omega)
      obtain ⟨da, hda, rfl⟩ := u64s_get hua
      have hdaW : da < 18446744073709551616 := HN1.out.norm.1 da (List.mem_of_getElem? hda)
      have HDA := Lib.hid hda
      have hko : j < o.length := by have := HOL.out; omega
      obtain ⟨od, hod⟩ : ∃ od, o[j]? = some od := ⟨o[j], List.getElem?_eq_getElem hko⟩
      have q0 := hblk.cell hod
      have z0 := hblk.frozen j
      clear hua hda hod hblk hbw
      have hj1 : (j : Int) < (l1.length : Int) := by omega
      have t0 : decide ((0 : Int) ≤ ↑j) = true := by simp
      have hdv := fun W => div64_any r da b W hdaW hr hbW
      have hst := small_step (la := l1) (o := o) (b := b) hb0 HDA.out hko HV.out
      have hqW : (r * 18446744073709551616 + da) / b < 18446744073709551616 := digit_lt hr hdaW
      have hrW : (r * 18446744073709551616 + da) % b < b := Nat.mod_lt _ hb0
      obtain ⟨q, hq⟩ : ∃ z, z = (r * 18446744073709551616 + da) / b := ⟨_, rfl⟩
      obtain ⟨r', hr'⟩ : ∃ z, z = (r * 18446744073709551616 + da) % b := ⟨_, rfl⟩
      rw [← hq, ← hr'] at hst
      rw [← hq] at hqW
      rw [← hr'] at hrW
      simp only [← hq, ← hr'] at hdv
      have HDV := Lib.hid hdv
      have HNEW := Lib.hid (show ∀ n, SmallRel w ((wr.setCell ⟨w.heap.size, j, none⟩ (.int .u64 (q : Int))).drewN n) w.heap.size l1 b j r' from fun n =>
        ⟨o.set j q, by simp [HOL.out], mem_set HO.out hqW, HBL.out.set j q, hst, below_drewN (HBW.out.setCell (Nat.le_refl _) _) n⟩)
      clear hdv hst hq hr'
      go_wp2_with (go_at_call 97; refine (HDV.out _).mono ?_; rintro e w' ⟨rfl, n, rfl⟩)
      go_roundw
      case rel => exact ⟨j, r', by go_num, rfl, by omega, hrW, HNEW.out _⟩
      case measure => simp [intOf]
    | zero =>
      have hrd' : Rd wr 0 wr.heap.size 1 (some ⟨w.heap.size, 0, none⟩) o.length (u64s o) := hblk.rd
      have hv := HV.out
      rw [List.drop_zero, List.drop_zero, HN1.out.val] at hv
      have hval : val W64 o = x / b ∧ r = x % b := by
        rw [hv]
        constructor
        · rw [Nat.mul_add_div hb0, Nat.div_eq_of_lt hr, Nat.add_zero]
        · rw [Nat.mul_add_mod, Nat.mod_eq_of_lt hr]
      have hcut := cut_any (some ⟨w.heap.size, 0, none⟩) l1.length o wr hrd' (by rw [HOL.out]; exact Nat.le_refl _) (by unfold maxLen; omega) (fun h => by cases h)
      rw [HOL.out] at hcut
      have HCUT := Lib.hid hcut
      have hnr := natr_cut (c := l1.length) hrd' HO.out (by rw [HOL.out]; exact Nat.le_refl _) (by unfold maxLen; omega) (fun h => by cases h)
      rw [hval.1] at hnr
      have HNR := Lib.hid hnr
      have HR := Lib.hid hval.2
      clear hblk hbw hrd' hval hcut hnr hv
      go_wp2_with fail
      refine HCUT.out.mono ?_
      rintro e w' ⟨rfl, rfl⟩
      go_wp2
      go_ret2
      exact ⟨_, _, _, by rw [← HR.out]; rfl, HNR.out, HBW.out, fun b o e => by injection e with e; injection e with e1 e2 e3; omega⟩
end Go.Proofs.YtnpfdelklolchaaGreatDoor

/- strconv.FormatUint at base 10. -/
namespace Go.Proofs.YtnpfdelklolchaaGreatDoor
open Go Go.RowKit Go.Proofs Go.Sort

theorem below_fmt (w : World) (o : Obj) (dk : Array UInt8) (k : Nat) : Below w.heap.size w ((putRow (fun (b : UInt8) => Value.int .u8 (b.toNat : Int)) (w.alloc o) w.heap.size 0 dk).drewN k) := by
  rw [alloc_eq_grow]
  obtain ⟨os', _, e⟩ := putRow_grow_new (fun (b : UInt8) => Value.int .u8 (b.toNat : Int)) w #[o] w.heap.size 0 dk (Nat.le_refl _)
  rw [e]
  exact Lib.below_grow w.heap.size w (Nat.le_refl _) k os'
theorem holds_zero0 (w : World) (t : TypeId) (n : Nat) (h : n ≤ 24) : Holds (fun (b : UInt8) => Value.int .u8 (b.toNat : Int)) (w.alloc (.cells Lib.zeros24 t)) w.heap.size 0 (Array.replicate n 0) := by
  intro j hj
  have hj' : j < n := by simpa using hj
  refine ⟨?_, World.frozen?_alloc_new _ _ _ _⟩
  rw [Nat.zero_add, World.cell?_alloc_new]
  have := Lib.zeros24_at j (by omega)
  rw [this, getElem!_pos _ j hj]
  simp

set_option maxHeartbeats 6400000 in
set_option maxRecDepth 100000 in
theorem fmtUI_any (u : Nat) (w : World) (hu64 : u < 18446744073709551616) (ht : Tab w.heap.size w) :
    Calls Tryz.prog 112 #[.int .u64 u, .int .i64 10] w fun e w' => e = .returned (.string ⟨(Lib.decDigits u).toArray⟩) ∧ Below w.heap.size w w' := by
  by_cases hs : u < 100
  · have t1 : decide (u < 100) = true := by simpa using hs
    have t2 : decide ((u : Int) < 100) = true := by simp; omega
    go_enter Tryz.func112, Tryz.ntmps112
    go_wp2_with fail
    refine (Tryz.internal_strconv_small u hs _).mono ?_
    rintro e w' ⟨rfl, rfl⟩
    go_wp2
    go_ret
    exact ⟨rfl, Below.refl _ _⟩
  · have hu1 : 1 ≤ u := by omega
    have t1 : decide (u < 100) = false := by simpa using hs
    have t2 : decide ((u : Int) < 100) = false := by simp; omega
    have hnd20 : Lib.nDigits u ≤ 20 := by have := Lib.numDigits_eq u hu1 hu64; split at this <;> omega
    have hal : Tryz.prog.arrayLen 168 = 24 := by kernel_rfl
    have hsl : ∀ W, (Instr.sliceAt 168 (.pointer (some ⟨w.heap.size, 0, none⟩)) none (some (.int .i64 (Lib.nDigits u : Int))) none).run Tryz.prog W = .ok (.slice (some ⟨w.heap.size, 0, none⟩) (Lib.nDigits u) 24) W := fun W => by
      rw [run_sliceAt_array_h W 168 ⟨w.heap.size, 0, none⟩ (by kernel_rfl) .i64 (Lib.nDigits u : Int) (by omega) (by rw [hal]; omega)]
      go_simp
      try omega
    have hH0 := holds_zero0 w 168 (Lib.nDigits u) (by omega)
    have hfmt := Tryz.internal_strconv_formatBase10 w.heap.size 0 24 u (Array.replicate (Lib.nDigits u) 0) (w.alloc (.cells Lib.zeros24 168)) hH0 (by rw [Array.size_replicate]; exact Lib.lt_pow_nDigits u) hu64 (by rw [Array.size_replicate]; omega)
    rw [Array.size_replicate] at hfmt
    have HH0 := Lib.hid hH0
    have HT := Lib.hid (ht _ ((Below.refl _ w).alloc (Nat.le_refl _) (.cells Lib.zeros24 168)))
    have HND := Lib.hid (Tryz.internal_strconv_numDigits u hu1 hu64 _ HT.out)
    clear hH0 hal ht
    go_enter Tryz.func112, Tryz.ntmps112
    go_wp2_with fail
    refine HND.out.mono ?_
    rintro e w' ⟨rfl, rfl⟩
    go_wp2_with fail
    refine hfmt.mono ?_
    rintro e w' ⟨rfl, k, v', dk, rfl, hF⟩
    have hcv : (convert 38 9 (.slice (some ⟨w.heap.size, 0, none⟩) (Lib.nDigits u) 24)).run Tryz.prog ((putRow (fun (b : UInt8) => Value.int .u8 (b.toNat : Int)) (w.alloc (.cells Lib.zeros24 168)) w.heap.size 0 dk).drewN k) = .ok (.string ⟨(Lib.decDigits u).toArray⟩) ((putRow (fun (b : UInt8) => Value.int .u8 (b.toNat : Int)) (w.alloc (.cells Lib.zeros24 168)) w.heap.size 0 dk).drewN k) := by
      have h := run_convert_bytes_back (P := Tryz.prog) ((putRow (fun (b : UInt8) => Value.int .u8 (b.toNat : Int)) (w.alloc (.cells Lib.zeros24 168)) w.heap.size 0 dk).drewN k) 38 9 5 ⟨w.heap.size, 0, none⟩ 24 (Lib.decDigits u) Tryz.underlying38 Tryz.underlying5 Tryz.underlying9 (fun j hj => by
        rw [Lib.row_is_numeral hF j hj, Lib.add_plain, World.cell?_drewN]
        exact cell?_putRow (fun (b : UInt8) => Value.int .u8 (b.toNat : Int)) _ w.heap.size 0 _ dk HH0.out (by rw [hF.size, Array.size_replicate]) j (by rw [hF.size]; rw [Lib.decDigits_length] at hj; exact hj))
      rw [Lib.decDigits_length] at h
      exact h
    have HBF := Lib.hid (below_fmt w (.cells Lib.zeros24 168) dk k)
    go_wp2
    go_ret
    exact ⟨rfl, HBF.out⟩
set_option maxHeartbeats 1000000 in
set_option maxRecDepth 100000 in
theorem fmtU_any (u : Nat) (w : World) (hu64 : u < 18446744073709551616) (ht : Tab w.heap.size w) :
    Calls Tryz.prog 100 #[.int .u64 u, .int .i64 10] w fun e w' => e = .returned (.string ⟨(Lib.decDigits u).toArray⟩) ∧ Below w.heap.size w w' := by
  have H := Lib.hid (fmtUI_any u w hu64 ht)
  clear ht
  go_enter Tryz.func100, Tryz.ntmps100
  go_wp2_with fail
  refine H.out.mono ?_
  rintro e w' ⟨rfl, hb⟩
  go_wp2
  go_ret
  exact ⟨rfl, hb⟩
end Go.Proofs.YtnpfdelklolchaaGreatDoor

/- Package nat: Digits. -/
namespace Go.Proofs.YtnpfdelklolchaaGreatDoor
open Go Go.RowKit Go.Proofs Go.Sort

theorem infoStr : (Tryz.prog.info? 9).map (fun i => (i.zero, i.size, i.bytes)) = some (some (.string ⟨#[]⟩), 1, 16) := by kernel_rfl
theorem repL (c : Nat) : Lib.repeatL [48] c = List.replicate c 48 := by
  have := Lib.repeatL_replicate 48 1 c
  simpa using this
theorem join_flat (xs : List (List UInt8)) : Lib.join xs [] = xs.flatten := by
  unfold Lib.join
  induction xs with
  | nil => rfl
  | cons x r ih =>
    cases r with
    | nil => simp [List.intercalate]
    | cons y t =>
      simp only [List.intercalate, List.intersperse, List.flatten_cons] at ih ⊢
      rw [ih]; simp
theorem bytes_back : ∀ ps : List (List UInt8), (ps.map fun l => (⟨l.toArray⟩ : ByteArray)).map (fun x : ByteArray => x.data.toList) = ps
  | [] => rfl
  | x :: r => by rw [List.map_cons, List.map_cons, bytes_back r]
theorem bytes_cat (a b : List UInt8) : (⟨a.toArray⟩ : ByteArray) ++ ⟨b.toArray⟩ = ⟨(a ++ b).toArray⟩ := by
  apply ByteArray.ext
  simp
/-- the chunks so far, and what is left -/
def DecJ (x y : Nat) (ps : List (List UInt8)) : Prop :=
  (0 < y → Lib.decDigits x = Lib.decDigits y ++ ps.reverse.flatten) ∧ (y = 0 → (x = 0 ∧ ps = []) ∨ (ps ≠ [] ∧ Lib.decDigits x = ps.reverse.flatten))
theorem decJ_start (x : Nat) : DecJ x x [] := ⟨fun _ => by simp, fun h => .inl ⟨h, rfl⟩⟩
theorem decJ_more {x y : Nat} {ps : List (List UInt8)} (h : DecJ x y ps) (hy : 0 < y) (hq : 0 < y / 1000000000000000000) : DecJ x (y / 1000000000000000000) (ps ++ [pad 18 (y % 1000000000000000000)]) := by
  refine ⟨fun _ => ?_, fun h0 => by omega⟩
  have e := dec_chunk 18 (y / 1000000000000000000) (y % 1000000000000000000) (by omega) hq (by have := Nat.mod_lt y (show 0 < 1000000000000000000 by omega); simpa using this)
  have e2 : y % 1000000000000000000 + 10 ^ 18 * (y / 1000000000000000000) = y := by
    have := Nat.mod_add_div y 1000000000000000000
    simpa using this
  rw [e2] at e
  rw [h.1 hy, e, List.reverse_append]
  simp
theorem decJ_last {x y : Nat} {ps : List (List UInt8)} (h : DecJ x y ps) (hy : 0 < y) (hq : y / 1000000000000000000 = 0) : DecJ x (y / 1000000000000000000) (ps ++ [Lib.decDigits (y % 1000000000000000000)]) := by
  refine ⟨fun h0 => by omega, fun _ => .inr ⟨by simp, ?_⟩⟩
  have e : y % 1000000000000000000 = y := Nat.mod_eq_of_lt (by omega)
  rw [e, h.1 hy, List.reverse_append]
  simp
theorem dec18 {r : Nat} (h : r < 1000000000000000000) : (Lib.decDigits r).length ≤ 18 := dec_le (by omega) (by simpa using h)

theorem half_lt {g F : Nat} (h : g < 2 ^ F) (hg : 0 < g) : 0 < F ∧ g / 1000000000000000000 < 2 ^ (F - 1) := by
  cases F with
  | zero => simp at h; omega
  | succ F =>
    rw [Nat.pow_succ] at h
    refine ⟨by omega, ?_⟩
    rw [Nat.add_sub_cancel]
    have : g / 1000000000000000000 ≤ g / 2 := Nat.div_le_div_left (by omega) (by omega)
    omega
theorem dec_le2 {x E : Nat} (h : x < 2 ^ E) : (Lib.decDigits x).length ≤ E + 1 := by
  refine dec_le (by omega) (Nat.lt_of_lt_of_le h ?_)
  exact Nat.le_trans (Nat.pow_le_pow_left (by omega) E) (Nat.pow_le_pow_right (by omega) (by omega))
set_option maxHeartbeats 8000000 in
set_option maxRecDepth 100000 in
theorem digits_any (A : Option Addr) (c : Nat) (l : List Nat) (x : Nat) (w : World) (h : NatR w A c l x) (hs : l.length ≤ 1000) (ht : Tab w.heap.size w) :
    Calls Tryz.prog 81 #[.slice A l.length c] w fun e w' => e = .returned (.string ⟨(Lib.decDigits x).toArray⟩) ∧ Below w.heap.size w w' := by
  obtain ⟨ii, hii, hiz0, hiz1, hiz2⟩ := info_parts infoStr
  have HN0 := Lib.hid h
  have HT := Lib.hid (fun W (hb : Below w.heap.size w W) => (ht.on hb).mono hb.size)
  have HE0 := Lib.hid (show ∃ E : Nat, x < 2 ^ E ∧ E ≤ 64000 from ⟨64 * l.length, by
    have h1 := val_lt h.norm.1
    rw [h.val] at h1
    have : W64 = 2 ^ 64 := by unfold W64; rfl
    rw [this, ← Nat.pow_mul] at h1
    exact h1, by omega⟩)
  clear h ht
  obtain ⟨E, hE1, hE2⟩ := HE0.out
  have HX := Lib.hid hE1
  clear hE1
  go_enter Tryz.func81, Tryz.ntmps81
  go_wp2_with fail
  go_loopg [3, 4, 5, 6, 7] x (fun y pv rv _ _ _ wr => ∃ (A1 : Option Addr) (c1 : Nat) (l1 : List Nat) (ps : List (List UInt8)), rv = .slice A1 l1.length c1 ∧ NatR wr A1 c1 l1 y ∧ l1.length ≤ 1000000 ∧ ps.length ≤ E ∧ Hid (y < 2 ^ (E - ps.length)) ∧ wr.ownsRow w.heap.size 9 1 pv ps.length (ps.map encStr) ∧ Hid (DecJ x y ps) ∧ Below w.heap.size w wr)
  case atStart => exact ⟨A, c, l, [], rfl, HN0.out, by omega, Nat.zero_le _, Lib.hid HX.out, ⟨rfl, .inl ⟨rfl, rfl⟩⟩, Lib.hid (decJ_start x), Below.refl _ _⟩
  case round =>
    obtain ⟨A1, c1, l1, ps, rfl, hn, hl1, hps, HE, hown, HJ, hbw⟩ := hrel
    have HOW := Lib.hid hown
    have HBW := Lib.hid hbw
    have hsz := hbw.size
    rcases Nat.eq_zero_or_pos gk with h0 | hpos
    · subst h0
      have h0' : l1 = [] := (val_zero W64_pos hn.norm).1 hn.val
      subst h0'
      rcases HJ.out.2 rfl with ⟨hx, hp⟩ | ⟨hp, hx⟩
      · subst hp
        have HR := Lib.hid (show (⟨#[48]⟩ : ByteArray) = ⟨(Lib.decDigits x).toArray⟩ by rw [hx, dec_small (by omega)]; rfl)
        obtain ⟨A', cap, rfl, _⟩ := ownsRow_shape hown
        clear hn hown hbw hx
        go_wp2
        go_ret
        exact ⟨by rw [← HR.out]; rfl, HBW.out⟩
      · have hpl : 0 < ps.length := List.length_pos_iff.2 hp
        have HXE := Lib.hid hx
        rcases hown.2 with ⟨_, hz⟩ | ⟨g, cap, cur, rfl, hb, hh, q1, q2, q3, q4⟩
        · omega
        · have hg := heap_lt hh
          have hH := holds_of_block (ss := ps) hh (by rw [Nat.mul_one] at q4; exact q4)
          have HRV := Lib.hid (Tryz.slices_Reverse_string g 0 cap ps wr hH (by omega))
          have HOS := Lib.hid (fun n => ownsRow_sorted (w := wr) (n := n) (os := #[]) (ts := ps.reverse) (ss := ps) (by simp) hb hh q1 q2 q3)
          have HGB := Lib.hid (fun n => grownBy_sorted (w := wr) (g := g) (n := n) (os := #[]) ps.reverse.toArray)
          have t1 : ((ps.length : Int) == 0) = false := by simp; exact hp
          have t2 : (ps.length == 0) = false := by simp; exact hp
          have HXL := Lib.hid (dec_le2 HX.out)
          clear hn hown hH q3 q4 hh hp hx
          go_wp2_with fail
          (with_reducible refine HRV.out.mono ?_)
          rintro e w2 ⟨rfl, n, hw2⟩
          have ho2 := HOS.out n
          have hg2 := HGB.out n
          rw [grow_empty, ← hw2] at ho2 hg2
          have HB2 := Lib.hid (show Below w.heap.size w w2 from hbw.trans ((Fr.of_grown hg2).below (B := w.heap.size) hsz (fun i hi hm => by cases hm; omega)))
          have hcl := ho2.cells (g := g) rfl
          have hg2l : g < w2.heap.size := Nat.lt_of_lt_of_le hg hg2.size
          have HJN := Tryz.strings_Join g 0 cap (ps.reverse.map fun l => ⟨l.toArray⟩) ⟨#[]⟩ w2 (fun j y hj => by
            have : (ps.reverse.map encStr)[j]? = some (.string y) := by
              rw [List.getElem?_map] at hj ⊢
              cases hz : ps.reverse[j]? with
              | none => rw [hz] at hj; cases hj
              | some z => rw [hz] at hj; simp at hj; subst hj; rfl
            have := hcl j _ this
            rwa [Lib.add_plain] at this) hg2l (by simp; omega) (by simp; omega) (by
            have e : (List.map (fun x : ByteArray => x.data.toList) (List.map (fun l : List UInt8 => (⟨l.toArray⟩ : ByteArray)) ps.reverse)) = ps.reverse := bytes_back _
            rw [e, join_flat, ← HXE.out]; have := HXL.out; omega)
          have e : (List.map (fun x : ByteArray => x.data.toList) (List.map (fun l : List UInt8 => (⟨l.toArray⟩ : ByteArray)) ps.reverse)) = ps.reverse := bytes_back _
          rw [e, join_flat, ← HXE.out, List.length_map, List.length_reverse] at HJN
          have HJO := Lib.hid HJN
          clear ho2 hg2 hcl HJN e hbw hw2
          go_wp2_with fail
          (with_reducible refine HJO.out.mono ?_)
          rintro e w3 ⟨rfl, hb3⟩
          have HB3 := Lib.hid (below_next HB2.out hb3)
          clear hb3
          go_wp2
          go_ret
          exact ⟨rfl, HB3.out⟩
    · have hl4' : l1.length ≠ 0 := fun h => by
        have h' : l1 = [] := List.eq_nil_of_length_eq_zero h
        subst h'
        have := hn.val; simp [val] at this; omega
      have u1 : decide (0 < (l1.length : Int)) = true := by simp; omega
      have u2 : decide (0 < l1.length) = true := by simp; omega
      have HSM := Lib.hid (show Calls Tryz.prog 68 #[.slice A1 l1.length c1, .int .u64 1000000000000000000] wr (NatWNew (gk / 1000000000000000000) (gk % 1000000000000000000) wr) from natSmallN_any A1 c1 l1 gk 1000000000000000000 wr hn (by omega) (by omega) (by omega))
      have hgl : gk < W64 ^ l1.length := by have := val_lt hn.norm.1; rwa [hn.val] at this
      have HGL := Lib.hid (show gk / 1000000000000000000 < W64 ^ l1.length from Nat.lt_of_le_of_lt (Nat.div_le_self _ _) hgl)
      have hrl : gk % 1000000000000000000 < 1000000000000000000 := Nat.mod_lt _ (by omega)
      have HEB := Lib.hid (half_lt HE.out hpos)
      have HEP := Lib.hid (show ps.length + 1 ≤ E by have := HEB.out.1; omega)
      have HEQ := Lib.hid HEB.out.2
      have HOL := Lib.hid (fun b (hm : some b = u3.ownBlock) => (ownsRow_block hown hm).2)
      have hpl : ps.length ≤ 64000 := by omega
      obtain ⟨r, hr⟩ : ∃ r, r = gk % 1000000000000000000 := ⟨_, rfl⟩
      have HRR := Lib.hid hr
      rw [← hr] at HSM hrl
      have h18 := dec18 hrl
      have HFU := Lib.hid (fun W (hb : Below w.heap.size w W) => fmtU_any r W (by omega) (HT.out W hb))
      clear hn hown hgl hr
      go_wp2_with fail
      (with_reducible refine HSM.out.mono ?_)
      rintro e w1 ⟨A2, c2, l2, rfl, hn2, hb1, hnew⟩
      have HN2 := Lib.hid hn2
      have HNW := Lib.hid hnew
      have HLQ := Lib.hid (show l2.length ≤ 1000000 from Nat.le_trans (len_of_lt hn2.norm hn2.val HGL.out) hl1)
      have HB1 := Lib.hid hb1
      clear hn2 hb1 hnew hbw
      go_wp2_with fail
      (with_reducible refine (HFU.out _ (below_next HBW.out HB1.out)).mono ?_)
      rintro e w2 ⟨rfl, hb2⟩
      have HB2 := Lib.hid (below_next HB1.out hb2)
      have HN2b := Lib.hid (HN2.out.on hb2)
      clear hb2
      rcases Nat.eq_zero_or_pos (gk / 1000000000000000000) with hq | hq
      · have hl2 : l2 = [] := (val_zero W64_pos HN2.out.norm).1 (by rw [HN2.out.val, hq])
        have v1 : decide (0 < (l2.length : Int)) = false := by rw [hl2]; rfl
        have v2 : decide (0 < l2.length) = false := by rw [hl2]; rfl
        have HQ := Lib.hid hq
        have HO5 := Lib.hid (ownsRow_fr HOW.out (Fr.of_below HB2.out) (fun i hi hm => by have := (ownsRow_block HOW.out hi).2; omega))
        have HB5 := Lib.hid (HBW.out.trans (HB2.out.mono hsz))
        have HN5 := HN2b
        clear hl2 hq
        obtain ⟨w5, hw5⟩ : ∃ z : World, z = w2 := ⟨_, rfl⟩
        subst hw5
        have hs5 := HB5.out.size
        go_wp2_with (at_builtin; refine wpList_append_own_at _ rfl (.tmp 28) (.tmp 30) 140 rfl w.heap.size 9 ii _ 1 16 Tryz.underlying140 hii hiz0 hiz1 hiz2 rfl (by decide) _ ps.length (ps.map encStr) rfl (HO5.out.alloc _) ⟨w5.heap.size, 0, none⟩ 1 1 [.string ⟨(Lib.decDigits r).toArray⟩] rfl rfl (cell_one_new w5 _ 9) (by simp [Value.oneCell']) ?c1 ?c2 ?c3 ?_)
        case c1 => unfold maxLen; omega
        case c2 => omega
        case c3 => simp; omega
        intro v' w6 hown6 hgr6 _ _
        have HB6 := Lib.hid (show Below w.heap.size w w6 from (HB5.out.alloc (by omega) _).trans ((Fr.of_grown hgr6).below (B := w.heap.size) (by simp; omega) (fun i hi hm => by have := (ownsRow_block HO5.out hm).1; omega)))
        have HO6 := Lib.hid (show w6.ownsRow w.heap.size 9 1 v' (ps ++ [Lib.decDigits r]).length ((ps ++ [Lib.decDigits r]).map encStr) by rw [List.length_append, List.map_append]; exact hown6)
        have HN6 := Lib.hid (show NatR w6 A2 c2 l2 (gk / 1000000000000000000) from (HN5.out.on ((Below.refl _ _).alloc (Nat.le_refl _) _)).keep hgr6.size (fun b o e hb hl => hgr6.block b hb (fun hm => by
          have h1 := HNW.out b o e
          have h2 := HOL.out b hm
          omega)))
        have HJ6 := Lib.hid (by have := decJ_last HJ.out hpos HQ.out; rw [← HRR.out] at this; exact this)
        have HL6 := Lib.hid (show (ps ++ [Lib.decDigits r]).length = ps.length + 1 by simp)
        clear hown6 hgr6
        go_wp2
        go_roundg (gk / 1000000000000000000)
        case measure => exact Nat.div_lt_self hpos (by omega)
        case rel => exact ⟨A2, c2, l2, ps ++ [Lib.decDigits r], rfl, HN6.out, HLQ.out, by rw [HL6.out]; exact HEP.out, Lib.hid (by rw [HL6.out, ← Nat.sub_sub]; exact HEQ.out), HO6.out, HJ6, HB6.out⟩
      · have hl2 : l2.length ≠ 0 := fun h => by
          have h' : l2 = [] := List.eq_nil_of_length_eq_zero h
          have := HN2.out.val; rw [h'] at this; simp [val] at this; omega
        have v1 : decide (0 < (l2.length : Int)) = true := by simp; omega
        have v2 : decide (0 < l2.length) = true := by simp; omega
        have HQ := Lib.hid hq
        have HRP := Lib.hid (show ∀ W, Calls Tryz.prog 101 #[.string ⟨#[48]⟩, .int .i64 (18 - ((Lib.decDigits r).length : Int))] W fun e w' => e = .returned (.string ⟨(List.replicate (18 - (Lib.decDigits r).length) 48).toArray⟩) ∧ Below W.heap.size W w' from fun W => by
          have h := Tryz.strings_Repeat ⟨#[48]⟩ (18 - (Lib.decDigits r).length) W (by omega) (by show 1 * _ ≤ _; omega)
          rw [show (((18 - (Lib.decDigits r).length : Nat)) : Int) = 18 - ((Lib.decDigits r).length : Int) by omega] at h
          have e : (⟨#[48]⟩ : ByteArray).data.toList = [48] := rfl
          rw [e, repL] at h
          exact h)
        have hcat : (⟨(List.replicate (18 - (Lib.decDigits r).length) 48).toArray⟩ : ByteArray) ++ ⟨(Lib.decDigits r).toArray⟩ = ⟨(pad 18 r).toArray⟩ := bytes_cat _ _
        clear hl2 hq
        go_wp2_with fail
        (with_reducible refine (HRP.out _).mono ?_)
        rintro e w5 ⟨rfl, hb5⟩
        have HB25 := Lib.hid (below_next HB2.out hb5)
        have HN5 := Lib.hid (HN2b.out.on hb5)
        have HO5 := Lib.hid (ownsRow_fr HOW.out (Fr.of_below HB25.out) (fun i hi hm => by have := (ownsRow_block HOW.out hi).2; omega))
        have HB5 := Lib.hid (HBW.out.trans (HB25.out.mono hsz))
        clear hb5
        have hs5 := HB5.out.size
        go_wp2_with (at_builtin; refine wpList_append_own_at _ rfl (.tmp 28) (.tmp 30) 140 rfl w.heap.size 9 ii _ 1 16 Tryz.underlying140 hii hiz0 hiz1 hiz2 rfl (by decide) _ ps.length (ps.map encStr) rfl (HO5.out.alloc _) ⟨w5.heap.size, 0, none⟩ 1 1 [.string ⟨(pad 18 r).toArray⟩] rfl rfl (cell_one_new w5 _ 9) (by simp [Value.oneCell']) ?c1 ?c2 ?c3 ?_)
        case c1 => unfold maxLen; omega
        case c2 => omega
        case c3 => simp; omega
        intro v' w6 hown6 hgr6 _ _
        have HB6 := Lib.hid (show Below w.heap.size w w6 from (HB5.out.alloc (by omega) _).trans ((Fr.of_grown hgr6).below (B := w.heap.size) (by simp; omega) (fun i hi hm => by have := (ownsRow_block HO5.out hm).1; omega)))
        have HO6 := Lib.hid (show w6.ownsRow w.heap.size 9 1 v' (ps ++ [pad 18 r]).length ((ps ++ [pad 18 r]).map encStr) by rw [List.length_append, List.map_append]; exact hown6)
        have HN6 := Lib.hid (show NatR w6 A2 c2 l2 (gk / 1000000000000000000) from (HN5.out.on ((Below.refl _ _).alloc (Nat.le_refl _) _)).keep hgr6.size (fun b o e hb hl => hgr6.block b hb (fun hm => by
          have h1 := HNW.out b o e
          have h2 := HOL.out b hm
          omega)))
        have HJ6 := Lib.hid (by have := decJ_more HJ.out hpos HQ.out; rw [← HRR.out] at this; exact this)
        have HL6 := Lib.hid (show (ps ++ [pad 18 r]).length = ps.length + 1 by simp)
        clear hown6 hgr6
        go_wp2
        go_roundg (gk / 1000000000000000000)
        case measure => exact Nat.div_lt_self hpos (by omega)
        case rel => exact ⟨A2, c2, l2, ps ++ [pad 18 r], rfl, HN6.out, HLQ.out, by rw [HL6.out]; exact HEP.out, Lib.hid (by rw [HL6.out, ← Nat.sub_sub]; exact HEQ.out), HO6.out, HJ6, HB6.out⟩
end Go.Proofs.YtnpfdelklolchaaGreatDoor
