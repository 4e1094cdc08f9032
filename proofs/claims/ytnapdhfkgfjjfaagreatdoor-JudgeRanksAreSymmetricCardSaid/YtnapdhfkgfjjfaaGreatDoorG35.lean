import Derived.Test.YtnapdhfkgfjjfaaGreatDoorG11
import Derived.Test.YtnapdhfkgfjjfaaGreatDoorG30
import Derived.Lib.ItoaMem
import Derived.BigGuard
/- Package nat: small makes its number in memory of its own. -/
namespace Go.Proofs.YtnapdhfkgfjjfaaGreatDoor
open Go Go.RowKit Go.Proofs

/-- what a function returns that makes a number, in memory of its own, and a word -/
def NatWNew (x r : Nat) (w : World) (e : Ending) (w' : World) : Prop := ∃ A c l, e = .returned (.tuple #[.slice A l.length c, .int .u64 (r : Int)]) ∧ NatR w' A c l x ∧ Below w.heap.size w w' ∧ ∀ b o, A = some ⟨b, o, none⟩ → w.heap.size ≤ b
set_option maxHeartbeats 2000000 in
set_option maxRecDepth 100000 in
theorem natSmallN_any (A1 : Option Addr) (c1 : Nat) (l1 : List Nat) (x b : Nat) (w : World) (h1 : NatR w A1 c1 l1 x) (hs : l1.length ≤ 1000000) (hb0 : 0 < b) (hbW : b < 18446744073709551616) :
    Calls Tryz.prog 106 #[.slice A1 l1.length c1, .int .u64 b] w (NatWNew (x / b) (x % b) w) := by
  obtain ⟨i0, hi0, hz0, hz1, hz2⟩ := info_parts Tryz.infoU
  have HN1 := Lib.hid h1
  clear h1
  go_enter Tryz.func106, Tryz.ntmps106
  go_wp2_with (at_make; refine wpList_make_full _ rfl (.tmp 10) (.tmp 10) 67 rfl w.heap.size 110 i0 _ 1 Tryz.underlying67 hi0 hz0 hz1 .i64 .i64 _ _ l1.length rfl rfl ?m1 ?m2 ?m3 ?m4 ?m5 ?_)
  case m1 => rfl
  case m2 => rfl
  case m3 => rw [hz2]; omega
  case m4 => unfold maxLen; omega
  case m5 => exact Nat.le_refl _
  intro w1 hown hgr
  rw [made_zeros] at hown
  obtain ⟨hblk, _⟩ := Blk.of_own hown
  have hb1 : Below w.heap.size w w1 := (Below.refl _ w).grown hgr (Nat.le_refl _) (fun k hk => by cases hk)
  have hsz1 : w.heap.size < w1.heap.size := heap_lt hblk
  have HBK := Lib.hid hblk
  have HB1 := Lib.hid hb1
  clear hown hgr hblk hb1
  go_wp2
  go_loopw [7, 8] (fun re i wr => ∃ (k r : Nat), i = .int .i64 ((k : Int) - 1) ∧ re = .int .u64 r ∧ k ≤ l1.length ∧ r < b ∧ SmallRel w wr w.heap.size l1 b k r) (fun _ i _ => (intOf i + 1).toNat)
  case atStart => exact ⟨l1.length, 0, rfl, rfl, Nat.le_refl _, hb0, List.replicate l1.length 0, by simp, fun d hd => by rw [List.eq_of_mem_replicate hd]; unfold W64; omega, HBK.out, by rw [List.drop_length, List.drop_eq_nil_of_le (by simp)]; rfl, HB1.out⟩
  case round =>
    obtain ⟨k, r, rfl, rfl, hk, hr, o, hol, hod, hblk, hval, hbw⟩ := hrel
    have hgl := heap_lt hblk
    have HO := Lib.hid hod
    have HOL := Lib.hid hol
    have HV := Lib.hid hval
    have HBW := Lib.hid hbw
    have HBL := Lib.hid hblk
    clear hod hol hval
    cases k with
    | succ j =>
      have e : (((j + 1 : Nat) : Int) - 1) = (j : Int) := by omega
      rw [e]
      clear e
      obtain ⟨ba, oa, ua, rfl, hba, hua, qa⟩ := (HN1.out.rd.below hbw (Nat.le_refl _)).at1 (show j < l1.length by omega)
      obtain ⟨da, hda, rfl⟩ := u64s_get hua
      have hdaW : da < 18446744073709551616 := HN1.out.norm.1 da (List.mem_of_getElem? hda)
      have HDA := Lib.hid hda
      have hko : j < o.length := by have := HOL.out; omega
      obtain ⟨od, hod⟩ : ∃ od, o[j]? = some od := ⟨o[j], List.getElem?_eq_getElem hko⟩
      have q0 := hblk.cell hod
      have z0 := hblk.frozen j
      clear hua hda hod hblk hbw
      have hj1 : (j : Int) < (l1.length : Int) := by omega
      have t0 : decide ((0 : Int) ≤ ↑j) = true := by simp
      have hdv := fun W => div64_any r da b W hdaW hr hbW
      have hst := small_step (la := l1) (o := o) (b := b) hb0 HDA.out hko HV.out
      have hqW : (r * 18446744073709551616 + da) / b < 18446744073709551616 := digit_lt hr hdaW
      have hrW : (r * 18446744073709551616 + da) % b < b := Nat.mod_lt _ hb0
      obtain ⟨q, hq⟩ : ∃ z, z = (r * 18446744073709551616 + da) / b := ⟨_, rfl⟩
      obtain ⟨r', hr'⟩ : ∃ z, z = (r * 18446744073709551616 + da) % b := ⟨_, rfl⟩
      rw [← hq, ← hr'] at hst
      rw [← hq] at hqW
      rw [← hr'] at hrW
      simp only [← hq, ← hr'] at hdv
      have HDV := Lib.hid hdv
      have HNEW := Lib.hid (show ∀ n, SmallRel w ((wr.setCell ⟨w.heap.size, j, none⟩ (.int .u64 (q : Int))).drewN n) w.heap.size l1 b j r' from fun n =>
        ⟨o.set j q, by simp [HOL.out], mem_set HO.out hqW, HBL.out.set j q, hst, below_drewN (HBW.out.setCell (Nat.le_refl _) _) n⟩)
      clear hdv hst hq hr'
      go_wp2_with (go_at_call 127; refine (HDV.out _).mono ?_; rintro e w' ⟨rfl, n, rfl⟩)
      go_roundw
      case rel => exact ⟨j, r', by go_num, rfl, by omega, hrW, HNEW.out _⟩
      case measure => simp [intOf]
    | zero =>
      have hrd' : Rd wr 0 wr.heap.size 1 (some ⟨w.heap.size, 0, none⟩) o.length (u64s o) := hblk.rd
      have hv := HV.out
      rw [List.drop_zero, List.drop_zero, HN1.out.val] at hv
      have hval : val W64 o = x / b ∧ r = x % b := by
        rw [hv]
        constructor
        · rw [Nat.mul_add_div hb0, Nat.div_eq_of_lt hr, Nat.add_zero]
        · rw [Nat.mul_add_mod, Nat.mod_eq_of_lt hr]
      have hcut := cut_any (some ⟨w.heap.size, 0, none⟩) l1.length o wr hrd' (by rw [HOL.out]; exact Nat.le_refl _) (by unfold maxLen; omega) (fun h => by cases h)
      rw [HOL.out] at hcut
      have HCUT := Lib.hid hcut
      have hnr := natr_cut (c := l1.length) hrd' HO.out (by rw [HOL.out]; exact Nat.le_refl _) (by unfold maxLen; omega) (fun h => by cases h)
      rw [hval.1] at hnr
      have HNR := Lib.hid hnr
      have HR := Lib.hid hval.2
      clear hblk hbw hrd' hval hcut hnr hv
      go_wp2_with fail
      refine HCUT.out.mono ?_
      rintro e w' ⟨rfl, rfl⟩
      go_wp2
      go_ret2
      exact ⟨_, _, _, by rw [← HR.out]; rfl, HNR.out, HBW.out, fun b o e => by injection e with e; injection e with e1 e2 e3; omega⟩
end Go.Proofs.YtnapdhfkgfjjfaaGreatDoor

/- strconv.FormatUint at base 10. -/
namespace Go.Proofs.YtnapdhfkgfjjfaaGreatDoor
open Go Go.RowKit Go.Proofs Go.Sort

theorem below_fmt (w : World) (o : Obj) (dk : Array UInt8) (k : Nat) : Below w.heap.size w ((putRow (fun (b : UInt8) => Value.int .u8 (b.toNat : Int)) (w.alloc o) w.heap.size 0 dk).drewN k) := by
  rw [alloc_eq_grow]
  obtain ⟨os', _, e⟩ := putRow_grow_new (fun (b : UInt8) => Value.int .u8 (b.toNat : Int)) w #[o] w.heap.size 0 dk (Nat.le_refl _)
  rw [e]
  exact Lib.below_grow w.heap.size w (Nat.le_refl _) k os'
theorem holds_zero0 (w : World) (t : TypeId) (n : Nat) (h : n ≤ 24) : Holds (fun (b : UInt8) => Value.int .u8 (b.toNat : Int)) (w.alloc (.cells Lib.zeros24 t)) w.heap.size 0 (Array.replicate n 0) := by
  intro j hj
  have hj' : j < n := by simpa using hj
  refine ⟨?_, World.frozen?_alloc_new _ _ _ _⟩
  rw [Nat.zero_add, World.cell?_alloc_new]
  have := Lib.zeros24_at j (by omega)
  rw [this, getElem!_pos _ j hj]
  simp

set_option maxHeartbeats 6400000 in
set_option maxRecDepth 100000 in
theorem fmtUI_any (u : Nat) (w : World) (hu64 : u < 18446744073709551616) (ht : Tab w.heap.size w) :
    Calls Tryz.prog 133 #[.int .u64 u, .int .i64 10] w fun e w' => e = .returned (.string ⟨(Lib.decDigits u).toArray⟩) ∧ Below w.heap.size w w' := by
  by_cases hs : u < 100
  · have t1 : decide (u < 100) = true := by simpa using hs
    have t2 : decide ((u : Int) < 100) = true := by simp; omega
    go_enter Tryz.func133, Tryz.ntmps133
    go_wp2_with fail
    refine (Tryz.internal_strconv_small u hs _).mono ?_
    rintro e w' ⟨rfl, rfl⟩
    go_wp2
    go_ret
    exact ⟨rfl, Below.refl _ _⟩
  · have hu1 : 1 ≤ u := by omega
    have t1 : decide (u < 100) = false := by simpa using hs
    have t2 : decide ((u : Int) < 100) = false := by simp; omega
    have hnd20 : Lib.nDigits u ≤ 20 := by have := Lib.numDigits_eq u hu1 hu64; split at this <;> omega
    have hal : Tryz.prog.arrayLen 183 = 24 := by kernel_rfl
    have hsl : ∀ W, (Instr.sliceAt 183 (.pointer (some ⟨w.heap.size, 0, none⟩)) none (some (.int .i64 (Lib.nDigits u : Int))) none).run Tryz.prog W = .ok (.slice (some ⟨w.heap.size, 0, none⟩) (Lib.nDigits u) 24) W := fun W => by
      rw [run_sliceAt_array_h W 183 ⟨w.heap.size, 0, none⟩ (by kernel_rfl) .i64 (Lib.nDigits u : Int) (by omega) (by rw [hal]; omega)]
      go_simp
      try omega
    have hH0 := holds_zero0 w 183 (Lib.nDigits u) (by omega)
    have hfmt := Tryz.internal_strconv_formatBase10 w.heap.size 0 24 u (Array.replicate (Lib.nDigits u) 0) (w.alloc (.cells Lib.zeros24 183)) hH0 (by rw [Array.size_replicate]; exact Lib.lt_pow_nDigits u) hu64 (by rw [Array.size_replicate]; omega)
    rw [Array.size_replicate] at hfmt
    have HH0 := Lib.hid hH0
    have HT := Lib.hid (ht _ ((Below.refl _ w).alloc (Nat.le_refl _) (.cells Lib.zeros24 183)))
    have HND := Lib.hid (Tryz.internal_strconv_numDigits u hu1 hu64 _ HT.out)
    clear hH0 hal ht
    go_enter Tryz.func133, Tryz.ntmps133
    go_wp2_with fail
    refine HND.out.mono ?_
    rintro e w' ⟨rfl, rfl⟩
    go_wp2_with fail
    refine hfmt.mono ?_
    rintro e w' ⟨rfl, k, v', dk, rfl, hF⟩
    have hcv : (convert 167 9 (.slice (some ⟨w.heap.size, 0, none⟩) (Lib.nDigits u) 24)).run Tryz.prog ((putRow (fun (b : UInt8) => Value.int .u8 (b.toNat : Int)) (w.alloc (.cells Lib.zeros24 183)) w.heap.size 0 dk).drewN k) = .ok (.string ⟨(Lib.decDigits u).toArray⟩) ((putRow (fun (b : UInt8) => Value.int .u8 (b.toNat : Int)) (w.alloc (.cells Lib.zeros24 183)) w.heap.size 0 dk).drewN k) := by
      have h := run_convert_bytes_back (P := Tryz.prog) ((putRow (fun (b : UInt8) => Value.int .u8 (b.toNat : Int)) (w.alloc (.cells Lib.zeros24 183)) w.heap.size 0 dk).drewN k) 167 9 5 ⟨w.heap.size, 0, none⟩ 24 (Lib.decDigits u) Tryz.underlying167 Tryz.underlying5 Tryz.underlying9 (fun j hj => by
        rw [Lib.row_is_numeral hF j hj, Lib.add_plain, World.cell?_drewN]
        exact cell?_putRow (fun (b : UInt8) => Value.int .u8 (b.toNat : Int)) _ w.heap.size 0 _ dk HH0.out (by rw [hF.size, Array.size_replicate]) j (by rw [hF.size]; rw [Lib.decDigits_length] at hj; exact hj))
      rw [Lib.decDigits_length] at h
      exact h
    have HBF := Lib.hid (below_fmt w (.cells Lib.zeros24 183) dk k)
    go_wp2
    go_ret
    exact ⟨rfl, HBF.out⟩
set_option maxHeartbeats 1000000 in
set_option maxRecDepth 100000 in
theorem fmtU_any (u : Nat) (w : World) (hu64 : u < 18446744073709551616) (ht : Tab w.heap.size w) :
    Calls Tryz.prog 122 #[.int .u64 u, .int .i64 10] w fun e w' => e = .returned (.string ⟨(Lib.decDigits u).toArray⟩) ∧ Below w.heap.size w w' := by
  have H := Lib.hid (fmtUI_any u w hu64 ht)
  clear ht
  go_enter Tryz.func122, Tryz.ntmps122
  go_wp2_with fail
  refine H.out.mono ?_
  rintro e w' ⟨rfl, hb⟩
  go_wp2
  go_ret
  exact ⟨rfl, hb⟩
end Go.Proofs.YtnapdhfkgfjjfaaGreatDoor
