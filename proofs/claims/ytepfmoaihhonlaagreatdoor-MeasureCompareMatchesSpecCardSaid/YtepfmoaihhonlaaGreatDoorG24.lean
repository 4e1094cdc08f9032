import Derived.Test.YtepfmoaihhonlaaGreatDoorDiv64
import Derived.Test.YtepfmoaihhonlaaGreatDoorNatTG
import Derived.Test.YtepfmoaihhonlaaGreatDoorG8
import Derived.Test.YtepfmoaihhonlaaGreatDoorShelf
import Derived.Test.YtepfmoaihhonlaaGreatDoorProg
import Derived.Handy
import Derived.WalkSpells
import Derived.WalkLawsBesides
import Derived.Deep.QuietTactic
import Derived.BigQuiet
import Derived.Laws.BytesString
import Derived.Lib.ItoaLen
import Derived.Lib.SlBytesRow
import Derived.Lib.BufferRead
/- Package nat: small (division by a word). -/
namespace Go.Proofs.YtepfmoaihhonlaaGreatDoor
open Go Go.RowKit Go.Proofs

theorem val_drop {B : Nat} {l : List Nat} {j d : Nat} (h : l[j]? = some d) : val B (l.drop j) = d + B * val B (l.drop (j + 1)) := by
  have e := List.getElem?_eq_some_iff.1 h
  rw [List.drop_eq_getElem_cons e.1, e.2]; rfl
theorem drop_set_lt {l : List Nat} {j k q : Nat} (h : j < k) : (l.set j q).drop k = l.drop k := by
  rw [List.drop_set, if_pos h]
/-- what small keeps: k words are still to come -/
def SmallRel (w wr : World) (g : Nat) (la : List Nat) (b k r : Nat) : Prop :=
  ∃ o, o.length = la.length ∧ (∀ d ∈ o, d < W64) ∧ Blk wr g o ∧ val W64 (la.drop k) = b * val W64 (o.drop k) + r ∧ Below w.heap.size w wr
theorem small_step {la o : List Nat} {b j d r : Nat} (_hb : 0 < b) (hd : la[j]? = some d) (hj : j < o.length) (h : val W64 (la.drop (j + 1)) = b * val W64 (o.drop (j + 1)) + r) :
    val W64 (la.drop j) = b * val W64 ((o.set j ((r * 18446744073709551616 + d) / b)).drop j) + (r * 18446744073709551616 + d) % b := by
  rw [val_drop hd, val_drop (l := o.set j _) (d := (r * 18446744073709551616 + d) / b) (by rw [List.getElem?_set_self hj]), drop_set_lt (by omega), h]
  have e := Nat.div_add_mod (r * 18446744073709551616 + d) b
  have e2 : W64 * (b * val W64 (o.drop (j + 1)) + r) = b * (W64 * val W64 (o.drop (j + 1))) + r * 18446744073709551616 := by
    rw [Nat.mul_add, Nat.mul_left_comm, Nat.mul_comm W64 r]; rfl
  rw [e2, Nat.mul_add b]; omega
/-- what a function returns that makes a number and a word -/
def NatWPost (x r : Nat) (w : World) (e : Ending) (w' : World) : Prop := ∃ A c l, e = .returned (.tuple #[.slice A l.length c, .int .u64 (r : Int)]) ∧ NatR w' A c l x ∧ Below w.heap.size w w'

set_option maxHeartbeats 2000000 in
set_option maxRecDepth 100000 in
theorem natSmall_any (A1 : Option Addr) (c1 : Nat) (l1 : List Nat) (x b : Nat) (w : World) (h1 : NatR w A1 c1 l1 x) (hs : l1.length ≤ 1000000) (hb0 : 0 < b) (hbW : b < 18446744073709551616) :
    Calls Tryz.prog 167 #[.slice A1 l1.length c1, .int .u64 b] w (NatWPost (x / b) (x % b) w) := by
  obtain ⟨i0, hi0, hz0, hz1, hz2⟩ := info_parts Tryz.infoU
  have HN1 := Lib.hid h1
  clear h1
  go_enter Tryz.func167, Tryz.ntmps167
  go_wp2_with (at_make; refine wpList_make_full _ rfl (.tmp 10) (.tmp 10) 93 rfl w.heap.size 168 i0 _ 1 Tryz.underlying93 hi0 hz0 hz1 .i64 .i64 _ _ l1.length rfl rfl ?m1 ?m2 ?m3 ?m4 ?m5 ?_)
  case m1 => rfl
  case m2 => rfl
  case m3 => rw [hz2]; omega
  case m4 => unfold maxLen; omega
  case m5 => exact Nat.le_refl _
  intro w1 hown hgr
  rw [made_zeros] at hown
  obtain ⟨hblk, _⟩ := Blk.of_own hown
  have hb1 : Below w.heap.size w w1 := (Below.refl _ w).grown hgr (Nat.le_refl _) (fun k hk => by cases hk)
  have hsz1 : w.heap.size < w1.heap.size := heap_lt hblk
  have HBK := Lib.hid hblk
  have HB1 := Lib.hid hb1
  clear hown hgr hblk hb1
  go_wp2
  go_loopw [7, 8] (fun re i wr => ∃ (k r : Nat), i = .int .i64 ((k : Int) - 1) ∧ re = .int .u64 r ∧ k ≤ l1.length ∧ r < b ∧ SmallRel w wr w.heap.size l1 b k r) (fun _ i _ => (intOf i + 1).toNat)
  case atStart => exact ⟨l1.length, 0, rfl, rfl, Nat.le_refl _, hb0, List.replicate l1.length 0, by simp, fun d hd => by rw [List.eq_of_mem_replicate hd]; unfold W64; omega, HBK.out, by rw [List.drop_length, List.drop_eq_nil_of_le (by simp)]; rfl, HB1.out⟩
  case round =>
    obtain ⟨k, r, rfl, rfl, hk, hr, o, hol, hod, hblk, hval, hbw⟩ := hrel
    have hgl := heap_lt hblk
    have HO := Lib.hid hod
    have HOL := Lib.hid hol
    have HV := Lib.hid hval
    have HBW := Lib.hid hbw
    have HBL := Lib.hid hblk
    clear hod hol hval
    cases k with
    | succ j =>
      have e : (((j + 1 : Nat) : Int) - 1) = (j : Int) := by omega
      rw [e]
      clear e
      obtain ⟨ba, oa, ua, rfl, hba, hua, qa⟩ := (HN1.out.rd.below hbw (Nat.le_refl _)).at1 (show j < l1.length by omega)
      obtain ⟨da, hda, rfl⟩ := u64s_get hua
      have hdaW : da < 18446744073709551616 := HN1.out.norm.1 da (List.mem_of_getElem? hda)
      have HDA := Lib.hid hda
      have hko : j < o.length := by have := HOL.out; omega
      obtain ⟨od, hod⟩ : ∃ od, o[j]? = some od := ⟨o[j], List.getElem?_eq_getElem hko⟩
      have q0 := hblk.cell hod
      have z0 := hblk.frozen j
      clear hua hda hod hblk hbw
      have hj1 : (j : Int) < (l1.length : Int) := by omega
      have t0 : decide ((0 : Int) ≤ ↑j) = true := by simp
      have hdv := fun W => div64_any r da b W hdaW hr hbW
      have hst := small_step (la := l1) (o := o) (b := b) hb0 HDA.out hko HV.out
      have hqW : (r * 18446744073709551616 + da) / b < 18446744073709551616 := digit_lt hr hdaW
      have hrW : (r * 18446744073709551616 + da) % b < b := Nat.mod_lt _ hb0
      obtain ⟨q, hq⟩ : ∃ z, z = (r * 18446744073709551616 + da) / b := ⟨_, rfl⟩
      obtain ⟨r', hr'⟩ : ∃ z, z = (r * 18446744073709551616 + da) % b := ⟨_, rfl⟩
      rw [← hq, ← hr'] at hst
      rw [← hq] at hqW
      rw [← hr'] at hrW
      simp only [← hq, ← hr'] at hdv
      have HDV := Lib.hid hdv
      have HNEW := Lib.hid (show ∀ n, SmallRel w ((wr.setCell ⟨w.heap.size, j, none⟩ (.int .u64 (q : Int))).drewN n) w.heap.size l1 b j r' from fun n =>
        ⟨o.set j q, by simp [HOL.out], mem_set HO.out hqW, HBL.out.set j q, hst, below_drewN (HBW.out.setCell (Nat.le_refl _) _) n⟩)
      clear hdv hst hq hr'
      go_wp2_with (go_at_call 156; refine (HDV.out _).mono ?_; rintro e w' ⟨rfl, n, rfl⟩)
      go_roundw
      case rel => exact ⟨j, r', by go_num, rfl, by omega, hrW, HNEW.out _⟩
      case measure => simp [intOf]
    | zero =>
      have hrd' : Rd wr 0 wr.heap.size 1 (some ⟨w.heap.size, 0, none⟩) o.length (u64s o) := hblk.rd
      have hv := HV.out
      rw [List.drop_zero, List.drop_zero, HN1.out.val] at hv
      have hval : val W64 o = x / b ∧ r = x % b := by
        rw [hv]
        constructor
        · rw [Nat.mul_add_div hb0, Nat.div_eq_of_lt hr, Nat.add_zero]
        · rw [Nat.mul_add_mod, Nat.mod_eq_of_lt hr]
      have hcut := cut_any (some ⟨w.heap.size, 0, none⟩) l1.length o wr hrd' (by rw [HOL.out]; exact Nat.le_refl _) (by unfold maxLen; omega) (fun h => by cases h)
      rw [HOL.out] at hcut
      have HCUT := Lib.hid hcut
      have hnr := natr_cut (c := l1.length) hrd' HO.out (by rw [HOL.out]; exact Nat.le_refl _) (by unfold maxLen; omega) (fun h => by cases h)
      rw [hval.1] at hnr
      have HNR := Lib.hid hnr
      have HR := Lib.hid hval.2
      clear hblk hbw hrd' hval hcut hnr hv
      go_wp2_with fail
      refine HCUT.out.mono ?_
      rintro e w' ⟨rfl, rfl⟩
      go_wp2
      go_ret2
      exact ⟨_, _, _, by rw [← HR.out]; rfl, HNR.out, HBW.out⟩
end Go.Proofs.YtepfmoaihhonlaaGreatDoor

/- Package nat: small makes its number in memory of its own. -/
namespace Go.Proofs.YtepfmoaihhonlaaGreatDoor
open Go Go.RowKit Go.Proofs

/-- what a function returns that makes a number, in memory of its own, and a word -/
def NatWNew (x r : Nat) (w : World) (e : Ending) (w' : World) : Prop := ∃ A c l, e = .returned (.tuple #[.slice A l.length c, .int .u64 (r : Int)]) ∧ NatR w' A c l x ∧ Below w.heap.size w w' ∧ ∀ b o, A = some ⟨b, o, none⟩ → w.heap.size ≤ b
set_option maxHeartbeats 2000000 in
set_option maxRecDepth 100000 in
theorem natSmallN_any (A1 : Option Addr) (c1 : Nat) (l1 : List Nat) (x b : Nat) (w : World) (h1 : NatR w A1 c1 l1 x) (hs : l1.length ≤ 1000000) (hb0 : 0 < b) (hbW : b < 18446744073709551616) :
    Calls Tryz.prog 167 #[.slice A1 l1.length c1, .int .u64 b] w (NatWNew (x / b) (x % b) w) := by
  obtain ⟨i0, hi0, hz0, hz1, hz2⟩ := info_parts Tryz.infoU
  have HN1 := Lib.hid h1
  clear h1
  go_enter Tryz.func167, Tryz.ntmps167
  go_wp2_with (at_make; refine wpList_make_full _ rfl (.tmp 10) (.tmp 10) 93 rfl w.heap.size 168 i0 _ 1 Tryz.underlying93 hi0 hz0 hz1 .i64 .i64 _ _ l1.length rfl rfl ?m1 ?m2 ?m3 ?m4 ?m5 ?_)
  case m1 => rfl
  case m2 => rfl
  case m3 => rw [hz2]; omega
  case m4 => unfold maxLen; omega
  case m5 => exact Nat.le_refl _
  intro w1 hown hgr
  rw [made_zeros] at hown
  obtain ⟨hblk, _⟩ := Blk.of_own hown
  have hb1 : Below w.heap.size w w1 := (Below.refl _ w).grown hgr (Nat.le_refl _) (fun k hk => by cases hk)
  have hsz1 : w.heap.size < w1.heap.size := heap_lt hblk
  have HBK := Lib.hid hblk
  have HB1 := Lib.hid hb1
  clear hown hgr hblk hb1
  go_wp2
  go_loopw [7, 8] (fun re i wr => ∃ (k r : Nat), i = .int .i64 ((k : Int) - 1) ∧ re = .int .u64 r ∧ k ≤ l1.length ∧ r < b ∧ SmallRel w wr w.heap.size l1 b k r) (fun _ i _ => (intOf i + 1).toNat)
  case atStart => exact ⟨l1.length, 0, rfl, rfl, Nat.le_refl _, hb0, List.replicate l1.length 0, by simp, fun d hd => by rw [List.eq_of_mem_replicate hd]; unfold W64; omega, HBK.out, by rw [List.drop_length, List.drop_eq_nil_of_le (by simp)]; rfl, HB1.out⟩
  case round =>
    obtain ⟨k, r, rfl, rfl, hk, hr, o, hol, hod, hblk, hval, hbw⟩ := hrel
    have hgl := heap_lt hblk
    have HO := Lib.hid hod
    have HOL := Lib.hid hol
    have HV := Lib.hid hval
    have HBW := Lib.hid hbw
    have HBL := Lib.hid hblk
    clear hod hol hval
    cases k with
    | succ j =>
      have e : (((j + 1 : Nat) : Int) - 1) = (j : Int) := by omega
      rw [e]
      clear e
      obtain ⟨ba, oa, ua, rfl, hba, hua, qa⟩ := (HN1.out.rd.below hbw (Nat.le_refl _)).at1 (show j < l1.length by omega)
      obtain ⟨da, hda, rfl⟩ := u64s_get hua
      have hdaW : da < 18446744073709551616 := HN1.out.norm.1 da (List.mem_of_getElem? hda)
      have HDA := Lib.hid hda
      have hko : j < o.length := by have := HOL.out; omega
      obtain ⟨od, hod⟩ : ∃ od, o[j]? = some od := ⟨o[j], List.getElem?_eq_getElem hko⟩
      have q0 := hblk.cell hod
      have z0 := hblk.frozen j
      clear hua hda hod hblk hbw
      have hj1 : (j : Int) < (l1.length : Int) := by omega
      have t0 : decide ((0 : Int) ≤ ↑j) = true := by simp
      have hdv := fun W => div64_any r da b W hdaW hr hbW
      have hst := small_step (la := l1) (o := o) (b := b) hb0 HDA.out hko HV.out
      have hqW : (r * 18446744073709551616 + da) / b < 18446744073709551616 := digit_lt hr hdaW
      have hrW : (r * 18446744073709551616 + da) % b < b := Nat.mod_lt _ hb0
      obtain ⟨q, hq⟩ : ∃ z, z = (r * 18446744073709551616 + da) / b := ⟨_, rfl⟩
      obtain ⟨r', hr'⟩ : ∃ z, z = (r * 18446744073709551616 + da) % b := ⟨_, rfl⟩
      rw [← hq, ← hr'] at hst
      rw [← hq] at hqW
      rw [← hr'] at hrW
      simp only [← hq, ← hr'] at hdv
      have HDV := Lib.hid hdv
      have HNEW := Lib.hid (show ∀ n, SmallRel w ((wr.setCell ⟨w.heap.size, j, none⟩ (.int .u64 (q : Int))).drewN n) w.heap.size l1 b j r' from fun n =>
        ⟨o.set j q, by simp [HOL.out], mem_set HO.out hqW, HBL.out.set j q, hst, below_drewN (HBW.out.setCell (Nat.le_refl _) _) n⟩)
      clear hdv hst hq hr'
      go_wp2_with (go_at_call 156; refine (HDV.out _).mono ?_; rintro e w' ⟨rfl, n, rfl⟩)
      go_roundw
      case rel => exact ⟨j, r', by go_num, rfl, by omega, hrW, HNEW.out _⟩
      case measure => simp [intOf]
    | zero =>
      have hrd' : Rd wr 0 wr.heap.size 1 (some ⟨w.heap.size, 0, none⟩) o.length (u64s o) := hblk.rd
      have hv := HV.out
      rw [List.drop_zero, List.drop_zero, HN1.out.val] at hv
      have hval : val W64 o = x / b ∧ r = x % b := by
        rw [hv]
        constructor
        · rw [Nat.mul_add_div hb0, Nat.div_eq_of_lt hr, Nat.add_zero]
        · rw [Nat.mul_add_mod, Nat.mod_eq_of_lt hr]
      have hcut := cut_any (some ⟨w.heap.size, 0, none⟩) l1.length o wr hrd' (by rw [HOL.out]; exact Nat.le_refl _) (by unfold maxLen; omega) (fun h => by cases h)
      rw [HOL.out] at hcut
      have HCUT := Lib.hid hcut
      have hnr := natr_cut (c := l1.length) hrd' HO.out (by rw [HOL.out]; exact Nat.le_refl _) (by unfold maxLen; omega) (fun h => by cases h)
      rw [hval.1] at hnr
      have HNR := Lib.hid hnr
      have HR := Lib.hid hval.2
      clear hblk hbw hrd' hval hcut hnr hv
      go_wp2_with fail
      refine HCUT.out.mono ?_
      rintro e w' ⟨rfl, rfl⟩
      go_wp2
      go_ret2
      exact ⟨_, _, _, by rw [← HR.out]; rfl, HNR.out, HBW.out, fun b o e => by injection e with e; injection e with e1 e2 e3; omega⟩
end Go.Proofs.YtepfmoaihhonlaaGreatDoor

/- Ink: what is written is a function of what is to be written. -/
namespace Go.Proofs.YtepfmoaihhonlaaGreatDoor
open Go Go.RowKit Go.Proofs Go.Maps

/-- the table that AppendInt reads, kept by whatever leaves the blocks below B alone -/
def Tab (B : Nat) (w : World) : Prop := Lib.TabBelow Tryz.prog B w "internal/strconv.uint64pow10" .u64 Lib.pow10Tab
theorem Tab.on {B : Nat} {w w' : World} (h : Tab B w) (hb : Below B w w') : Tab B w' := Lib.TabBelow.on h hb
theorem Tab.mono {B B' : Nat} {w : World} (h : Tab B w) (hB : B ≤ B') : Tab B' w := fun w' hb => h w' (hb.mono hB)

/-- what Int writes -/
def inkInt (n : Int) : List UInt8 := Lib.itoa n ++ [32]
theorem inkInt_length (n : Int) (h0 : -9223372036854775808 ≤ n) (h1 : n ≤ 9223372036854775807) : (inkInt n).length ≤ 22 := by
  have := Lib.itoa_length_le n h0 h1
  simp [inkInt]; omega

/-- block K is an Ink that has written bs -/
def InkAt (w : World) (K base : Nat) (bs : List UInt8) : Prop :=
  K < base ∧ base ≤ w.heap.size ∧ Tab K w ∧ ∃ v, w.heap[K]? = some (.cells #[v] 70 (0, 0)) ∧ w.ownsRow base 5 1 v bs.length (Lib.byteCells bs)
theorem InkAt.fr {may : Nat → Prop} {w w' : World} {K base : Nat} {bs : List UInt8} (h : InkAt w K base bs) (hf : Fr may w w') (hK : ∀ i, i ≤ K → ¬ may i) (hB : ∀ i, base ≤ i → i < w.heap.size → ¬ may i) : InkAt w' K base bs := by
  obtain ⟨h1, h2, h3, v, h4, h5⟩ := h
  exact ⟨h1, Nat.le_trans h2 hf.size, h3.on (hf.below (by omega) (fun i hi => hK i (by omega))), v, (hf.block K (by omega) (hK K (Nat.le_refl _))).trans h4, ownsRow_fr h5 hf (fun i hi => by have := ownsRow_block h5 hi; exact hB i this.1 this.2)⟩

/-- block i is a row of bytes -/
def U8 (w : World) (i : Nat) : Prop := ∃ c fz, w.heap[i]? = some (.cells c 5 fz)
/-- what an Ink's methods leave alone: all but the Ink itself and rows of bytes from 'base' on -/
def InkFr (K base : Nat) (w w' : World) : Prop := Fr (fun i => i = K ∨ (base ≤ i ∧ U8 w i)) w w'
theorem InkFr.refl (K base : Nat) (w : World) : InkFr K base w w := Fr.refl _ _
theorem InkFr.trans {K base : Nat} {w w1 w2 : World} (h1 : InkFr K base w w1) (h2 : InkFr K base w1 w2) : InkFr K base w w2 :=
  ⟨h2.os.trans h1.os, h2.tape.trans h1.tape, h2.output.trans h1.output, Nat.le_trans h1.size h2.size, fun i hi hm => by
    have e1 := h1.block i hi hm
    refine (h2.block i (Nat.lt_of_lt_of_le hi h1.size) ?_).trans e1
    rintro (rfl | ⟨hb, c, fz, hc⟩)
    · exact hm (.inl rfl)
    · exact hm (.inr ⟨hb, c, fz, by rw [← e1]; exact hc⟩)⟩
theorem InkFr.below {K base : Nat} {w w' : World} (h : InkFr K base w w') (hK : K ≤ w.heap.size) (hKb : K ≤ base) : Below K w w' := Fr.below h hK (fun i hi => by omega)
/-- a block that is no row of bytes stays -/
theorem InkFr.keep {K base : Nat} {w w' : World} (h : InkFr K base w w') {i : Nat} {c : Array Value} {t : TypeId} {fz : Nat × Nat} (hi : w.heap[i]? = some (.cells c t fz)) (ht : t ≠ 5) (hK : i ≠ K) : w'.heap[i]? = some (.cells c t fz) := by
  refine (h.block i (heap_lt hi) ?_).trans hi
  rintro (e | ⟨_, c', fz', hc⟩)
  · exact hK e
  · rw [hi] at hc
    simp only [Option.some.injEq, Obj.cells.injEq] at hc
    exact ht hc.2.1
theorem InkFr.alloc {K base : Nat} {w w' : World} (h : InkFr K base w w') (o : Obj) : InkFr K base w (w'.alloc o) := Fr.alloc h o
theorem ownBlock_u8 {w : World} {base n : Nat} {v : Value} {xs : List Value} (h : w.ownsRow base 5 1 v n xs) {i : Nat} (hi : some i = v.ownBlock) : base ≤ i ∧ U8 w i := by
  rcases h.2 with ⟨rfl, _⟩ | ⟨g, cap, cur, rfl, hb, hh, hr⟩
  · cases hi
  · cases hi; exact ⟨hb, cur, (0, 0), hh⟩

theorem Tryz.info8 : (Tryz.prog.info? 5).map (fun i => (i.zero, i.size, i.bytes)) = some (some (.int .u8 0), 1, 1) := by kernel_rfl

set_option maxHeartbeats 1000000 in
set_option maxRecDepth 100000 in
theorem inkInt_any (K base : Nat) (bs : List UInt8) (n : Int) (w : World) (h : InkAt w K base bs) (hl : bs.length < 100000000000) (h0 : -9223372036854775808 ≤ n) (h1 : n ≤ 9223372036854775807) :
    Calls Tryz.prog 121 #[.pointer (some ⟨K, 0, none⟩), .int .i64 n] w fun e w' => e = .returned (.tuple #[]) ∧ InkAt w' K base (bs ++ inkInt n) ∧ InkFr K base w w' := by
  obtain ⟨hKb, hbw, htab, v, hbx, hown⟩ := h
  obtain ⟨i0, hi, hz0, hz1, hz2⟩ := info_parts Tryz.info8
  have hc : w.cell? ⟨K, 0, none⟩ = some v := by rw [cellsAt hbx]; rfl
  have HA := Lib.hid (Tryz.strconv_AppendInt_10 base bs.length n h0 h1 v (Lib.byteCells bs) w hown hbw (by omega) (htab.mono (by omega)))
  have HT := Lib.hid htab
  have HB := Lib.hid hbx
  have hit := Lib.itoa_length_le n h0 h1
  clear hown htab hbx h0 h1
  go_enter Tryz.func121, Tryz.ntmps121
  go_wp2_with fail
  refine HA.out.mono ?_
  rintro e w1 ⟨v1, rfl, ho1, hb1, hok⟩
  have hfA : InkFr K base w w1 := ⟨hb1.os, hb1.tape, hb1.output, hb1.size, fun i hi hm => by
    by_cases hib : i < base
    · exact hb1.block i hib
    · have hu : ¬ U8 w i := fun hu => hm (.inr ⟨by omega, hu⟩)
      obtain ⟨o, ho⟩ : ∃ o, w.heap[i]? = some o := ⟨w.heap[i], Array.getElem?_eq_getElem hi⟩
      rw [ho]
      exact hok i o ho (by simp) (fun c fz e => hu ⟨c, fz, by rw [ho, e]⟩)⟩
  clear hok
  clear HA
  have hbx1 : w1.heap[K]? = some (.cells #[v] 70 (0, 0)) := (hb1.block K hKb).trans HB.out
  have hc1 : w1.cell? ⟨K, 0, none⟩ = some v := by rw [cellsAt hbx1]; rfl
  have hz1' : w1.frozen? ⟨K, 0, none⟩ = false := frozenAt hbx1 0
  obtain ⟨A1, cap1, rfl, hnc1, hcm1, hAn⟩ := ownsRow_shape ho1
  clear hAn
  have hs1 := hb1.size
  have hbx2 : (w1.setCell ⟨K, 0, none⟩ (.slice A1 (bs.length + (Lib.itoa n).length) cap1)).heap[K]? = some (.cells #[.slice A1 (bs.length + (Lib.itoa n).length) cap1] 70 (0, 0)) := by
    simp [World.setCell, Array.getElem?_modify, hbx1]
  have hf2 : Fr (fun i => i = K) w1 (w1.setCell ⟨K, 0, none⟩ (.slice A1 (bs.length + (Lib.itoa n).length) cap1)) := (Fr.refl (fun i => i = K) w1).setCell (fun _ => rfl) _
  have ho2 := ownsRow_fr ho1 hf2 (fun i hi => by have := (ownsRow_block ho1 hi).1; omega)
  have hf12 : InkFr K base w (w1.setCell ⟨K, 0, none⟩ (.slice A1 (bs.length + (Lib.itoa n).length) cap1)) := hfA.trans (hf2.mono (fun i _ hi => .inl hi))
  have HO2 := Lib.hid ho2
  have HX2 := Lib.hid hbx2
  have HF := Lib.hid hf12
  clear ho1 ho2 hbx1 hbx2 hf2 hf12 hb1 hfA
  have HM1 := Lib.hid hcm1
  have HL := Lib.hid hl
  clear hcm1 hl
  go_wp2_with (at_builtin; refine wpList_append_own _ rfl (.tmp 17) (.tmp 18) 68 rfl base 5 i0 _ 1 1 Tryz.underlying68 hi hz0 hz1 hz2 rfl (by decide) (.slice A1 (bs.length + (Lib.itoa n).length) cap1) (bs.length + (Lib.itoa n).length) (Lib.byteCells bs ++ Lib.byteCells (Lib.itoa n)) rfl (HO2.out.alloc _) ⟨w1.heap.size, 0, none⟩ 1 1 [.int .u8 32] rfl rfl ?c0 (by simp [Value.oneCell']) ?c3 ?c4 ?c5 ?_)
  case c0 => have := cell_one_new (w1.setCell ⟨K, 0, none⟩ (.slice A1 (bs.length + (Lib.itoa n).length) cap1)) (.int .u8 32) 5; simpa using this
  case c3 => have := HL.out; unfold maxLen; omega
  case c4 => have := HL.out; omega
  case c5 => simp; omega
  intro v' w2 hown' hgrow _
  obtain ⟨g', cap', rfl, hgb, hgl, _, _⟩ := ownsRow_some hown' (by omega)
  have hfg := Fr.of_grown hgrow
  have hne : ¬ some K = (Value.slice A1 (bs.length + (Lib.itoa n).length) cap1).ownBlock := by
    intro hv
    have := (ownsRow_block HO2.out hv).1
    omega
  have hsz2 : w1.heap.size + 1 ≤ w2.heap.size := by have := hgrow.size; simpa using this
  have hbx3 : w2.heap[K]? = some (.cells #[.slice A1 (bs.length + (Lib.itoa n).length) cap1] 70 (0, 0)) := by
    rw [hfg.block K (by simp; omega) hne]
    exact (Below.heap_alloc _ _ _ (by simp; omega)).trans HX2.out
  have hc3 : w2.cell? ⟨K, 0, none⟩ = some (.slice A1 (bs.length + (Lib.itoa n).length) cap1) := by rw [cellsAt hbx3]; rfl
  have hz3 : w2.frozen? ⟨K, 0, none⟩ = false := frozenAt hbx3 0
  have HF3 : Hid (InkFr K base w w2) := Lib.hid ((HF.out.alloc _).trans (hfg.mono (fun i _ hi => .inr (ownBlock_u8 (HO2.out.alloc _) hi))))
  have HB3 := Lib.hid hbx3
  have HO3 := Lib.hid hown'
  have hgK : g' ≠ K := by omega
  clear hbx3 hown' hfg hgrow hne
  go_wp2
  go_end0
  have hf4 : InkFr K base w (w2.setCell ⟨K, 0, none⟩ (.slice (some ⟨g', 0, none⟩) (bs.length + (Lib.itoa n).length + 1) cap')) := Fr.setCell HF3.out (fun _ => .inl rfl) _
  refine ⟨rfl, ⟨hKb, Nat.le_trans hbw hf4.size, HT.out.on (hf4.below (by omega) (by omega)), .slice (some ⟨g', 0, none⟩) (bs.length + (Lib.itoa n).length + 1) cap', ?_, ?_⟩, hf4⟩
  · have := HB3.out
    simp [World.setCell, Array.getElem?_modify, this]
  · have h2 := ownsRow_fr (may := fun i => i = K) HO3.out ((Fr.refl (fun i => i = K) w2).setCell (p := ⟨K, 0, none⟩) (fun _ => rfl) (.slice (some ⟨g', 0, none⟩) (bs.length + (Lib.itoa n).length + 1) cap')) (fun i hi => by cases hi; exact hgK)
    have e1 : (bs ++ inkInt n).length = bs.length + (Lib.itoa n).length + 1 := by simp [inkInt]; omega
    have e2 : Lib.byteCells (bs ++ inkInt n) = Lib.byteCells bs ++ (Lib.byteCells (Lib.itoa n) ++ [.int .u8 32]) := by simp [inkInt, Lib.byteCells]
    rw [e1, e2]; exact h2
def I64 (x : Int) : Prop := -9223372036854775808 ≤ x ∧ x ≤ 9223372036854775807
theorem inkErrno_any (K base : Nat) (bs : List UInt8) (n : Int) (w : World) (h : InkAt w K base bs) (hl : bs.length < 100000000000) (hn : I64 n) :
    Calls Tryz.prog 47 #[.pointer (some ⟨K, 0, none⟩), .int .i64 n] w fun e w' => e = .returned (.tuple #[]) ∧ InkAt w' K base (bs ++ inkInt n) ∧ InkFr K base w w' := by
  have HI := Lib.hid (inkInt_any K base bs n w h hl hn.1 hn.2)
  clear h hl hn
  go_enter Tryz.func47, Tryz.ntmps47
  go_wp2_with fail
  refine HI.out.mono ?_
  rintro e w' ⟨rfl, hi, hf⟩
  have H1 := Lib.hid hi
  have H2 := Lib.hid hf
  clear hi hf HI
  go_wp2
  go_end0
  exact ⟨rfl, H1.out, H2.out⟩

theorem told_any0 (K base : Nat) (bs : List UInt8) (w : World) (h : InkAt w K base bs) (hl : bs.length < 100000000000) :
    Calls Tryz.prog 54 #[.pointer (some ⟨K, 0, none⟩)] w fun e w' => e = .returned (.string ⟨bs.toArray⟩) ∧ w = w' := by
  obtain ⟨hKb, hbw, htab, v, hbx, hown⟩ := h
  have hc : w.cell? ⟨K, 0, none⟩ = some v := by rw [cellsAt hbx]; rfl
  obtain ⟨A, cap, rfl, hnc, hcm, hAn⟩ := ownsRow_shape hown
  have hrun : (convert 68 9 (.slice A bs.length cap)).run Tryz.prog w = .ok (.string ⟨bs.toArray⟩) w := by
    rcases hown.2 with ⟨hv, h0⟩ | ⟨g, cap', cur, hv, hb, hh, h1, h2, h3, h4⟩
    · obtain rfl : bs = [] := List.eq_nil_of_length_eq_zero h0
      simp only [Value.slice.injEq] at hv
      obtain ⟨rfl, _, rfl⟩ := hv
      exact Lib.run_convert_nil_bytes w 68 9 5 0 Tryz.underlying68 Tryz.underlying5 Tryz.underlying9
    · simp only [Value.slice.injEq, true_and] at hv
      obtain ⟨rfl, rfl⟩ := hv
      have hby : Lib.Bytes w g 0 ⟨bs.toArray⟩ := by
        intro i hi
        rw [cellsAt hh, Nat.zero_add]
        have hi' : i < bs.length := by simpa [ByteArray.size] using hi
        have hg : (Lib.byteCells bs)[i]? = some (.int .u8 (bs[i].toNat : Int)) := by
          unfold Lib.byteCells; rw [List.getElem?_map, List.getElem?_eq_getElem hi']; rfl
        rw [← h4, List.getElem?_take] at hg
        split at hg
        · rw [show (⟨bs.toArray⟩ : ByteArray)[i] = bs[i] from rfl]; simpa using hg
        · cases hg
      have := Lib.run_convert_whole (P := Tryz.prog) w 68 5 9 Tryz.underlying68 Tryz.underlying5 Tryz.underlying9 g 0 ⟨bs.toArray⟩ hby cap
      have hsz : (⟨bs.toArray⟩ : ByteArray).size = bs.length := by simp [ByteArray.size]
      rw [hsz] at this
      exact this
  clear htab hbx hown hAn hcm
  go_enter Tryz.func54, Tryz.ntmps54
  go_wp2
  go_ret
  exact ⟨rfl, rfl⟩

end Go.Proofs.YtepfmoaihhonlaaGreatDoor
