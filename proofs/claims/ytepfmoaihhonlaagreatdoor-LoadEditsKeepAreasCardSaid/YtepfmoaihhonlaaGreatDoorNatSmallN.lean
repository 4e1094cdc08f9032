/- Package nat: small makes its number in memory of its own. -/
import Derived.Test.YtepfmoaihhonlaaGreatDoorGNat
namespace Go.Proofs.YtepfmoaihhonlaaGreatDoor
open Go Go.RowKit Go.Proofs

/-- what a function returns that makes a number, in memory of its own, and a word -/
def NatWNew (x r : Nat) (w : World) (e : Ending) (w' : World) : Prop := ∃ A c l, e = .returned (.tuple #[.slice A l.length c, .int .u64 (r : Int)]) ∧ NatR w' A c l x ∧ Below w.heap.size w w' ∧ ∀ b o, A = some ⟨b, o, none⟩ → w.heap.size ≤ b
set_option maxHeartbeats 2000000 in
set_option maxRecDepth 100000 in
theorem natSmallN_any (A1 : Option Addr) (c1 : Nat) (l1 : List Nat) (x b : Nat) (w : World) (h1 : NatR w A1 c1 l1 x) (hs : l1.length ≤ 1000000) (hb0 : 0 < b) (hbW : b < 18446744073709551616) :
    Calls Tryz.prog 167 #[.slice A1 l1.length c1, .int .u64 b] w (NatWNew (x / b) (x % b) w) := by
  obtain ⟨i0, hi0, hz0, hz1, hz2⟩ := info_parts Tryz.infoU
  have HN1 := Lib.hid h1
  clear h1
  go_enter Tryz.func167, Tryz.ntmps167
  go_wp2_with (at_make; refine wpList_make_full _ rfl (.tmp 10) (.tmp 10) 93 rfl w.heap.size 168 i0 _ 1 Tryz.underlying93 hi0 hz0 hz1 .i64 .i64 _ _ l1.length rfl rfl ?m1 ?m2 ?m3 ?m4 ?m5 ?_)
  case m1 => rfl
  case m2 => rfl
  case m3 => rw [hz2]; omega
  case m4 => unfold maxLen; omega
  case m5 => exact Nat.le_refl _
  intro w1 hown hgr
  rw [made_zeros] at hown
  obtain ⟨hblk, _⟩ := Blk.of_own hown
  have hb1 : Below w.heap.size w w1 := (Below.refl _ w).grown hgr (Nat.le_refl _) (fun k hk => by cases hk)
  have hsz1 : w.heap.size < w1.heap.size := heap_lt hblk
  have HBK := Lib.hid hblk
  have HB1 := Lib.hid hb1
  clear hown hgr hblk hb1
  go_wp2
  go_loopw [7, 8] (fun re i wr => ∃ (k r : Nat), i = .int .i64 ((k : Int) - 1) ∧ re = .int .u64 r ∧ k ≤ l1.length ∧ r < b ∧ SmallRel w wr w.heap.size l1 b k r) (fun _ i _ => (intOf i + 1).toNat)
  case atStart => exact ⟨l1.length, 0, rfl, rfl, Nat.le_refl _, hb0, List.replicate l1.length 0, by simp, fun d hd => by rw [List.eq_of_mem_replicate hd]; unfold W64; omega, HBK.out, by rw [List.drop_length, List.drop_eq_nil_of_le (by simp)]; rfl, HB1.out⟩
  case round =>
    obtain ⟨k, r, rfl, rfl, hk, hr, o, hol, hod, hblk, hval, hbw⟩ := hrel
    have hgl := heap_lt hblk
    have HO := Lib.hid hod
    have HOL := Lib.hid hol
    have HV := Lib.hid hval
    have HBW := Lib.hid hbw
    have HBL := Lib.hid hblk
    clear hod hol hval
    cases k with
    | succ j =>
      have e : (((j + 1 : Nat) : Int) - 1) = (j : Int) := by omega
      rw [e]
      clear e
      obtain ⟨ba, oa, ua, rfl, hba, hua, qa⟩ := (HN1.out.rd.below hbw (Nat.le_refl _)).at1 (show j < l1.length by omega)
      obtain ⟨da, hda, rfl⟩ := u64s_get hua
      have hdaW : da < 18446744073709551616 := HN1.out.norm.1 da (List.mem_of_getElem? hda)
      have HDA := Lib.hid hda
      have hko : j < o.length := by have := HOL.out; omega
      obtain ⟨od, hod⟩ : ∃ od, o[j]? = some od := ⟨o[j], List.getElem?_eq_getElem hko⟩
      have q0 := hblk.cell hod
      have z0 := hblk.frozen j
      clear hua hda hod hblk hbw
      have hj1 : (j : Int) < (l1.length : Int) := by omega
      have t0 : decide ((0 : Int) ≤ ↑j) = true := by simp
      have hdv := fun W => div64_any r da b W hdaW hr hbW
      have hst := small_step (la := l1) (o := o) (b := b) hb0 HDA.out hko HV.out
      have hqW : (r * 18446744073709551616 + da) / b < 18446744073709551616 := digit_lt hr hdaW
      have hrW : (r * 18446744073709551616 + da) % b < b := Nat.mod_lt _ hb0
      obtain ⟨q, hq⟩ : ∃ z, z = (r * 18446744073709551616 + da) / b := ⟨_, rfl⟩
      obtain ⟨r', hr'⟩ : ∃ z, z = (r * 18446744073709551616 + da) % b := ⟨_, rfl⟩
      rw [← hq, ← hr'] at hst
      rw [← hq] at hqW
      rw [← hr'] at hrW
      simp only [← hq, ← hr'] at hdv
      have HDV := Lib.hid hdv
      have HNEW := Lib.hid (show ∀ n, SmallRel w ((wr.setCell ⟨w.heap.size, j, none⟩ (.int .u64 (q : Int))).drewN n) w.heap.size l1 b j r' from fun n =>
        ⟨o.set j q, by simp [HOL.out], mem_set HO.out hqW, HBL.out.set j q, hst, below_drewN (HBW.out.setCell (Nat.le_refl _) _) n⟩)
      clear hdv hst hq hr'
      go_wp2_with (go_at_call 156; refine (HDV.out _).mono ?_; rintro e w' ⟨rfl, n, rfl⟩)
      go_roundw
      case rel => exact ⟨j, r', by go_num, rfl, by omega, hrW, HNEW.out _⟩
      case measure => simp [intOf]
    | zero =>
      have hrd' : Rd wr 0 wr.heap.size 1 (some ⟨w.heap.size, 0, none⟩) o.length (u64s o) := hblk.rd
      have hv := HV.out
      rw [List.drop_zero, List.drop_zero, HN1.out.val] at hv
      have hval : val W64 o = x / b ∧ r = x % b := by
        rw [hv]
        constructor
        · rw [Nat.mul_add_div hb0, Nat.div_eq_of_lt hr, Nat.add_zero]
        · rw [Nat.mul_add_mod, Nat.mod_eq_of_lt hr]
      have hcut := cut_any (some ⟨w.heap.size, 0, none⟩) l1.length o wr hrd' (by rw [HOL.out]; exact Nat.le_refl _) (by unfold maxLen; omega) (fun h => by cases h)
      rw [HOL.out] at hcut
      have HCUT := Lib.hid hcut
      have hnr := natr_cut (c := l1.length) hrd' HO.out (by rw [HOL.out]; exact Nat.le_refl _) (by unfold maxLen; omega) (fun h => by cases h)
      rw [hval.1] at hnr
      have HNR := Lib.hid hnr
      have HR := Lib.hid hval.2
      clear hblk hbw hrd' hval hcut hnr hv
      go_wp2_with fail
      refine HCUT.out.mono ?_
      rintro e w' ⟨rfl, rfl⟩
      go_wp2
      go_ret2
      exact ⟨_, _, _, by rw [← HR.out]; rfl, HNR.out, HBW.out, fun b o e => by injection e with e; injection e with e1 e2 e3; omega⟩
end Go.Proofs.YtepfmoaihhonlaaGreatDoor
