import Derived.Test.YtkoodmoilfgafaaGreatDoorSt
import Derived.Test.YtkoodmoilfgafaaGreatDoorGRa
import Derived.Laws.BitsAllLaws
import Derived.Test.YtkoodmoilfgafaaGreatDoorR7Math
import Derived.Test.YtkoodmoilfgafaaGreatDoorGArr
import Derived.Test.YtkoodmoilfgafaaGreatDoorGList
import Derived.Maps.AppendAt
/- Package api: Draw. -/
namespace Go.Proofs.YtkoodmoilfgafaaGreatDoor
open Go Go.RowKit Go.Proofs

def mx1 (x : Int) : Int := IntKind.u64.wrap (bits .xor .u64 x (x / 1073741824) * 13787848793156543929)
def mx2 (x : Int) : Int := IntKind.u64.wrap (bits .xor .u64 x (x / 134217728) * 10723151780598845931)
def mixI (x : Int) : Int := bits .xor .u64 (mx2 (mx1 x)) (mx2 (mx1 x) / 2147483648)
theorem wr_rng (x : Int) : 0 ≤ IntKind.u64.wrap x ∧ IntKind.u64.wrap x < 18446744073709551616 := by rw [IntKind.wrap_u64]; omega
theorem xor_rng {a b : Int} (h1 : 0 ≤ a) (h2 : a < 18446744073709551616) (h3 : 0 ≤ b) (h4 : b < 18446744073709551616) : 0 ≤ bits .xor .u64 a b ∧ bits .xor .u64 a b < 18446744073709551616 := by
  rw [u64_xor a b h1 h2 h3 h4]
  have := Nat.xor_lt_two_pow (x := a.toNat) (y := b.toNat) (n := 64) (by omega) (by omega)
  omega
theorem mix_rng (x : Int) : 0 ≤ mixI x ∧ mixI x < 18446744073709551616 := by
  obtain ⟨h1, h2⟩ := wr_rng (bits .xor .u64 (mx1 x) (mx1 x / 134217728) * 10723151780598845931)
  exact xor_rng h1 h2 (Int.ediv_nonneg h1 (by omega)) (by have := Int.ediv_le_self 2147483648 h1; exact Int.lt_of_le_of_lt this h2)

set_option maxHeartbeats 1000000 in
set_option maxRecDepth 100000 in
theorem mixed_any (x : Int) (w : World) (h0 : 0 ≤ x) (h1 : x < 18446744073709551616) : Calls Tryz.prog 102 #[.int .u64 x] w fun e w' => e = .returned (.int .u64 (mixI x)) ∧ w = w' := by
  have HE := Lib.hid (mixI.eq_1 x)
  have HE2 := Lib.hid (mx2.eq_1 (mx1 x))
  have HE1 := Lib.hid (mx1.eq_1 x)
  go_enter Tryz.func102, Tryz.ntmps102
  go_wp2
  go_ret
  refine ⟨?_, by trivial⟩
  rw [HE.out, HE2.out, HE1.out]
  rfl
/-- one step of a draw -/
def stD (x k : Int) : Int := mixI (IntKind.u64.wrap (x + IntKind.u64.wrap (11400714819323198485 * (k + 1))))
def drD (seed a b c : Int) : Nat → Int
  | 0 => IntKind.u64.wrap seed
  | 1 => stD (IntKind.u64.wrap seed) a
  | 2 => stD (stD (IntKind.u64.wrap seed) a) b
  | _ => stD (stD (stD (IntKind.u64.wrap seed) a) b) c
theorem drD_rng (seed a b c : Int) (k : Nat) : 0 ≤ drD seed a b c k ∧ drD seed a b c k < 18446744073709551616 := by
  unfold drD
  split
  · exact wr_rng _
  all_goals exact mix_rng _
def drw (seed a b c : Int) : Int := drD seed a b c 3 / 4294967296
theorem drw_rng (seed a b c : Int) : 0 ≤ drw seed a b c ∧ drw seed a b c < 4294967296 := by
  have := drD_rng seed a b c 3
  unfold drw
  omega
set_option maxHeartbeats 1000000 in
set_option maxRecDepth 100000 in
theorem draw_any (seed a b c : Int) (w : World) (a0 : 0 ≤ a) (a1 : a ≤ 1000000) (b0 : 0 ≤ b) (b1 : b ≤ 1000000) (c0 : 0 ≤ c) (c1 : c ≤ 1000000) :
    Calls Tryz.prog 70 #[.int .i64 seed, .int .i64 a, .int .i64 b, .int .i64 c] w fun e w' => e = .returned (.int .i64 (drw seed a b c)) ∧ w = w' := by
  have HM := Lib.hid (fun x W => mixed_any x W)
  have HR := Lib.hid (drD_rng seed a b c)
  have HD := Lib.hid (drw.eq_1 seed a b c)
  have HW := Lib.hid wr_rng
  have hB : ∀ W : World, Sem.run Tryz.prog (Instr.build 132 #[(0, .int .i64 a), (1, .int .i64 b), (2, .int .i64 c)]) W = .ok (.agg #[.int .i64 a, .int .i64 b, .int .i64 c]) W := fun W => run_build W _ _ _ (by kernel_rfl)
  have hI0 : ∀ W : World, Sem.run Tryz.prog (Instr.index 132 (.agg #[.int .i64 a, .int .i64 b, .int .i64 c]) (.int .i64 0)) W = .ok (.int .i64 a) W := fun W => by rfl
  have hI1 : ∀ W : World, Sem.run Tryz.prog (Instr.index 132 (.agg #[.int .i64 a, .int .i64 b, .int .i64 c]) (.int .i64 1)) W = .ok (.int .i64 b) W := fun W => by rfl
  have hI2 : ∀ W : World, Sem.run Tryz.prog (Instr.index 132 (.agg #[.int .i64 a, .int .i64 b, .int .i64 c]) (.int .i64 2)) W = .ok (.int .i64 c) W := fun W => by rfl
  go_enter Tryz.func70, Tryz.ntmps70
  go_wp2_with fail
  go_loopw [9, 11, 18] (fun xv _ iv wr => ∃ j : Nat, iv = .int .i64 j ∧ j ≤ 3 ∧ xv = .int .u64 (drD seed a b c j) ∧ wr = w) (fun _ _ iv _ => 3 - (intOf iv).toNat)
  case atStart => exact ⟨0, rfl, by omega, rfl, by trivial⟩
  case round =>
    obtain ⟨j, rfl, hj, rfl, rfl⟩ := hrel
    obtain ⟨r0, r1⟩ := HR.out j
    have hc : j = 0 ∨ j = 1 ∨ j = 2 ∨ j = 3 := by omega
    rcases hc with rfl | rfl | rfl | rfl
    · obtain ⟨q0, q1⟩ := HW.out (drD seed a b c 0 + IntKind.u64.wrap (11400714819323198485 * (a + 1)))
      have HK := Lib.hid (HM.out _ wr q0 q1)
      have HS := Lib.hid (show mixI (IntKind.u64.wrap (drD seed a b c 0 + IntKind.u64.wrap (11400714819323198485 * (a + 1)))) = drD seed a b c 1 from rfl)
      obtain ⟨y, hy⟩ : ∃ y, y = drD seed a b c 0 := ⟨_, rfl⟩
      rw [← hy] at HK HS r0 r1 ⊢
      clear hy q0 q1
      go_wp2_with fail
      refine HK.out.mono ?_
      rintro e w2 ⟨rfl, rfl⟩
      rw [HS.out]
      go_wp2
      go_roundw
      case rel => exact ⟨1, by go_num, by omega, rfl, by trivial⟩
      case measure => simp [intOf]
    · obtain ⟨q0, q1⟩ := HW.out (drD seed a b c 1 + IntKind.u64.wrap (11400714819323198485 * (b + 1)))
      have HK := Lib.hid (HM.out _ wr q0 q1)
      have HS := Lib.hid (show mixI (IntKind.u64.wrap (drD seed a b c 1 + IntKind.u64.wrap (11400714819323198485 * (b + 1)))) = drD seed a b c 2 from rfl)
      obtain ⟨y, hy⟩ : ∃ y, y = drD seed a b c 1 := ⟨_, rfl⟩
      rw [← hy] at HK HS r0 r1 ⊢
      clear hy q0 q1
      go_wp2_with fail
      refine HK.out.mono ?_
      rintro e w2 ⟨rfl, rfl⟩
      rw [HS.out]
      go_wp2
      go_roundw
      case rel => exact ⟨2, by go_num, by omega, rfl, by trivial⟩
      case measure => simp [intOf]
    · obtain ⟨q0, q1⟩ := HW.out (drD seed a b c 2 + IntKind.u64.wrap (11400714819323198485 * (c + 1)))
      have HK := Lib.hid (HM.out _ wr q0 q1)
      have HS := Lib.hid (show mixI (IntKind.u64.wrap (drD seed a b c 2 + IntKind.u64.wrap (11400714819323198485 * (c + 1)))) = drD seed a b c 3 from rfl)
      obtain ⟨y, hy⟩ : ∃ y, y = drD seed a b c 2 := ⟨_, rfl⟩
      rw [← hy] at HK HS r0 r1 ⊢
      clear hy q0 q1
      go_wp2_with fail
      refine HK.out.mono ?_
      rintro e w2 ⟨rfl, rfl⟩
      rw [HS.out]
      go_wp2
      go_roundw
      case rel => exact ⟨3, by go_num, by omega, rfl, by trivial⟩
      case measure => simp [intOf]
    · have HE := Lib.hid (show drw seed a b c = drD seed a b c 3 / 4294967296 from HD.out)
      obtain ⟨y, hy⟩ : ∃ y, y = drD seed a b c 3 := ⟨_, rfl⟩
      rw [← hy] at HE r0 r1 ⊢
      clear hy
      go_wp2
      go_ret
      exact ⟨by rw [HE.out]; rfl, by trivial⟩
end Go.Proofs.YtkoodmoilfgafaaGreatDoor

/- Drawn arrivals: plain. -/
namespace Go.Proofs.YtkoodmoilfgafaaGreatDoor
open Go Go.RowKit Go.Proofs

/-- the parts of a whole line, and how many times are drawn -/
def whN (l : List (Int × Int × Int)) : Nat := sumP (stgs l)
def dwn (l : List (Int × Int × Int)) : Nat := whN l / 2000000000
def dwD (seed : Int) (i : Nat) : Int := drw seed 3 0 i
def dwT (l : List (Int × Int × Int)) (seed : Int) (i : Nat) : Option Nat := fst ((2 * dwD seed i + 1).toNat * whN l) (2000000000 * 2 ^ 33) 0 0 (stgs l)
def dwL (l : List (Int × Int × Int)) (seed : Int) (k : Nat) : List Int := (List.range k).map fun i => (((dwT l seed i).getD 0 : Nat) : Int)
def drawC (l : List (Int × Int × Int)) : Int := if codeS l ≠ 0 then codeS l else if 20000 < dwn l then 3 else 0
def drawR (l : List (Int × Int × Int)) (seed : Int) : List Int := if drawC l = 0 then srtZ (dwL l seed (dwn l)) else []
theorem dwL_snoc (l : List (Int × Int × Int)) (seed : Int) (k : Nat) : dwL l seed (k + 1) = dwL l seed k ++ [(((dwT l seed k).getD 0 : Nat) : Int)] := by simp [dwL, List.range_succ]
theorem dwL_length (l : List (Int × Int × Int)) (seed : Int) (k : Nat) : (dwL l seed k).length = k := by simp [dwL]
theorem dwD_rng (seed : Int) (i : Nat) : 0 ≤ dwD seed i ∧ dwD seed i < 4294967296 := drw_rng _ _ _ _
theorem whN_le {l : List (Int × Int × Int)} (h : OkL l) : whN l ≤ 10000000000000000000000 := by
  have h1 := sumP_le h.ok
  have h2 := h.le
  unfold whN
  have : l.length * 200000000000000000000 ≤ 50 * 200000000000000000000 := Nat.mul_le_mul_right _ h2
  omega
theorem dwn_le {l : List (Int × Int × Int)} (h : OkL l) : dwn l ≤ 5000000000000 := by
  have := whN_le h
  unfold dwn; omega
theorem arQ_whole : ∀ l : List (Int × Int × Int), (∀ s ∈ l, OkS s) → arQ l (lenS l) = ((whN l : Nat) : Rat) / 2000000000
  | [], _ => by
    have : ((0 : Nat) : Rat) = 0 := rfl
    show (0 : Rat) = ((0 : Nat) : Rat) / 2000000000
    grind
  | s :: r, h => by
    have hs := h s (by simp)
    have hr := lenS_bd (l := r) (fun x hx => h x (by simp [hx]))
    have e : lenS (s :: r) = s.1 + lenS r := by simp [lenS]
    have h1 := hs.1
    rw [e, arQ, if_pos (by omega), show min s.1 (s.1 + lenS r) = s.1 from by omega, show s.1 + lenS r - s.1 = lenS r from by omega, arQ_whole r (fun x hx => h x (by simp [hx]))]
    have e1 := plQ_stage (ah := 0) hs (x := s.1) (by omega) (Int.le_refl _)
    have e2 : ((0 : Nat) : Rat) / 2000000000 = 0 := by
      have : ((0 : Nat) : Rat) = 0 := rfl
      grind
    rw [e2, Rat.zero_add, parts_rat s hs] at e1
    have e3 : whN (s :: r) = (toStg s).parts + whN r := by simp [whN, sumP, stgs]
    rw [e1, e3, Rat.natCast_add]
    grind
theorem dwn_floor {l : List (Int × Int × Int)} (h : OkL l) : frN (arQ l (lenS l)) / (arQ l (lenS l)).den = dwn l := by
  rw [arQ_whole l h.ok]
  have := frN_div (whN l) 2000000000 (by omega)
  have e : ((2000000000 : Nat) : Rat) = 2000000000 := rfl
  rw [e] at this
  exact this
theorem fst_none_lt {n d : Nat} : ∀ (l : List Stg) (ah bg : Nat), l ≠ [] → fst n d ah bg l = none → (ah + sumP l) * d < n * 2000000000
  | [], _, _, h, _ => absurd rfl h
  | s :: r, ah, bg, _, h => by
    rw [fst] at h
    split at h
    · rename_i hlt
      cases r with
      | nil => simpa [sumP] using hlt
      | cons s' r' =>
        have := fst_none_lt (s' :: r') (ah + s.parts) (bg + s.F) (by simp) h
        have e : sumP (s :: s' :: r') = s.parts + sumP (s' :: r') := by simp [sumP]
        rw [e, ← Nat.add_assoc]; exact this
    · cases h
theorem dwT_some {l : List (Int × Int × Int)} (h : OkL l) (seed : Int) (i : Nat) : ∃ T, dwT l seed i = some T := by
  cases e : dwT l seed i with
  | some T => exact ⟨T, rfl⟩
  | none =>
    have hne := stgs_ne h
    have := fst_none_lt (stgs l) 0 0 hne e
    obtain ⟨d0, d1⟩ := dwD_rng seed i
    rw [Nat.zero_add] at this
    have h2 : (2 * dwD seed i + 1).toNat * whN l * 2000000000 ≤ sumP (stgs l) * (2000000000 * 2 ^ 33) := by
      have h3 : (2 * dwD seed i + 1).toNat ≤ 2 ^ 33 := by omega
      have h4 := Nat.mul_le_mul_right (whN l * 2000000000) h3
      unfold whN at *
      rw [Nat.mul_assoc]
      refine Nat.le_trans h4 (Nat.le_of_eq ?_)
      rw [Nat.mul_comm (2 ^ 33), Nat.mul_assoc]
    omega
theorem area_eq {l : List (Int × Int × Int)} (h : OkL l) (seed : Int) (i : Nat) : arQ l (lenS l) * mkRat (2 * dwD seed i + 1) (8589934592 : Int).toNat = (((2 * dwD seed i + 1).toNat * whN l : Nat) : Rat) / ((2000000000 * 2 ^ 33 : Nat) : Rat) := by
  obtain ⟨d0, d1⟩ := dwD_rng seed i
  rw [arQ_whole l h.ok, Rat.mkRat_eq_div]
  have e1 : ((2 * dwD seed i + 1 : Int) : Rat) = (((2 * dwD seed i + 1).toNat : Nat) : Rat) := int_toNat (by omega)
  have e2 : (((8589934592 : Int).toNat : Nat) : Rat) = 8589934592 := rfl
  have e3 : ((2000000000 * 2 ^ 33 : Nat) : Rat) = 17179869184000000000 := rfl
  rw [e1, e2, e3, Rat.natCast_mul]
  grind
theorem dwT_first {l : List (Int × Int × Int)} (h : OkL l) (seed : Int) (i : Nat) : fstQ (arQ l (lenS l) * mkRat (2 * dwD seed i + 1) (8589934592 : Int).toNat) 0 0 l = (((dwT l seed i).getD 0 : Nat) : Int) := by
  have h0 : ((0 : Nat) : Rat) / 2000000000 = 0 := by
    have : ((0 : Nat) : Rat) = 0 := rfl
    grind
  rw [area_eq h]
  have hd0 : (0 : Rat) ≤ (((2 * dwD seed i + 1).toNat * whN l : Nat) : Rat) / ((2000000000 * 2 ^ 33 : Nat) : Rat) := by
    have e3 : ((2000000000 * 2 ^ 33 : Nat) : Rat) = 17179869184000000000 := rfl
    have : (0 : Rat) ≤ (((2 * dwD seed i + 1).toNat * whN l : Nat) : Rat) := Rat.natCast_nonneg
    rw [e3]
    grind
  have := fstQ_fst (n := (2 * dwD seed i + 1).toNat * whN l) (d := 2000000000 * 2 ^ 33) (by decide) l 0 0 h.ok (by rw [h0]; exact hd0)
  rw [h0] at this
  have this : fstQ ((((2 * dwD seed i + 1).toNat * whN l : Nat) : Rat) / ((2000000000 * 2 ^ 33 : Nat) : Rat)) 0 0 l = _ := this
  rw [this]
  obtain ⟨T, hT⟩ := dwT_some h seed i
  have hT' : fst ((2 * dwD seed i + 1).toNat * whN l) (2000000000 * 2 ^ 33) 0 0 (stgs l) = some T := hT
  rw [hT, hT']; rfl
theorem area_pos {l : List (Int × Int × Int)} (h : OkL l) (hw : 0 < dwn l) (seed : Int) (i : Nat) : 0 < arQ l (lenS l) * mkRat (2 * dwD seed i + 1) (8589934592 : Int).toNat := by
  rw [area_eq h]
  obtain ⟨d0, d1⟩ := dwD_rng seed i
  have hwp : 0 < whN l := by unfold dwn at hw; omega
  have e3 : ((2000000000 * 2 ^ 33 : Nat) : Rat) = 17179869184000000000 := rfl
  have : (0 : Rat) < (((2 * dwD seed i + 1).toNat * whN l : Nat) : Rat) := Rat.natCast_pos.2 (Nat.mul_pos (by omega) hwp)
  rw [e3]
  grind
end Go.Proofs.YtkoodmoilfgafaaGreatDoor

/- Package load: whole, Drawn. -/
namespace Go.Proofs.YtkoodmoilfgafaaGreatDoor
open Go Go.RowKit Go.Proofs

set_option maxHeartbeats 1000000 in
set_option maxRecDepth 100000 in
theorem whole_any (P : Nat) (A : Option Addr) (c : Nat) (l : List (Int × Int × Int)) (w : World) (hL : LineR w P A c l) (hl : l.length ≤ 50) :
    Calls Tryz.prog 67 #[.pointer (some ⟨P, 0, none⟩)] w fun e w' => ∃ A' c' l', e = .returned (.slice A' l'.length c') ∧ NatR w' A' c' l' (whN l) ∧ Below w.heap.size w w' := by
  obtain ⟨v1, v2, A1, c1, A2, c2, rfl, rfl, hbox, _, b2, o2, rfl, hb2, hah⟩ := hL.ex
  obtain ⟨A3, c3, l3, hc3, hn3⟩ := hah l.length (Nat.le_refl _)
  have hsl : (stgs l).take l.length = stgs l := by rw [List.take_of_length_le]; simp [stgs]
  rw [hsl] at hn3
  have HN := Lib.hid hn3
  have k0 : w.cell? ⟨P, 0, none⟩ = some (.slice A l.length c) := by rw [cellsAt hbox]; rfl
  have k2 : w.cell? ⟨P, 2, none⟩ = some (.slice (some ⟨b2, o2, none⟩) (l.length + 1) c2) := by rw [cellsAt hbox]; rfl
  have i0 : (0 : Int) ≤ (l.length : Int) := by omega
  have i1 : (l.length : Int) < (l.length : Int) + 1 := by omega
  clear hL hbox hah hn3 hsl
  go_enter Tryz.func67, Tryz.ntmps67
  go_wp2_with fail
  go_quiet (fail)
  go_wp2
  go_ret
  exact ⟨A3, c3, l3, rfl, (show NatR w A3 c3 l3 (whN l) from HN.out).on (below_drewN (Below.refl _ w) _), below_drewN (Below.refl _ w) _⟩

theorem W3v : W64 ^ 3 = 6277101735386680763835789423207666416102355444464034512896 := by unfold W64; rfl
set_option maxHeartbeats 4000000 in
set_option maxRecDepth 100000 in
theorem drawn_any (A : Option Addr) (c : Nat) (l : List (Int × Int × Int)) (seed : Int) (w : World) (hr : Rd w 0 w.heap.size 3 A l.length (cells3 l)) (hl : l.length ≤ 9223372036854775807) :
    Calls Tryz.prog 29 #[.slice A l.length c, .int .i64 seed] w fun e w' => ∃ A' c', e = .returned (.tuple #[.slice A' (drawR l seed).length c', .int .i64 (drawC l)]) ∧ Rd w' 0 w'.heap.size 1 A' (drawR l seed).length (ints (drawR l seed)) ∧ Below w.heap.size w w' := by
  obtain ⟨ii, hii, hiz0, hiz1, hiz2⟩ := info_parts infoI3
  have HCK := Lib.hid (loadCheck_any A c l w hr hl)
  have HR := Lib.hid hr
  clear hr
  by_cases hc : codeS l = 0
  · have hok := codeS_ok hc
    have hC1 : drawC l = if 20000 < dwn l then 3 else 0 := by unfold drawC; rw [if_neg (by rw [hc]; simp)]
    have HC1 := Lib.hid hC1
    have hl50 := hok.le
    rw [hc] at HCK
    have HOK := Lib.hid hok
    have HNL := Lib.hid (fun W (hb : Below w.heap.size w W) => newLine_any A c l W (HR.out.old hb) hok)
    have HWH := Lib.hid (fun P W (hL : LineR W P A c l) => whole_any P A c l W hL hl50)
    have HO2 := Lib.hid (fun W => natOf_any 2000000000 W (by omega))
    rw [show (2000000000 : Int).toNat = 2000000000 from rfl] at HO2
    have hwl := whN_le hok
    have hdl := dwn_le hok
    have hw9 : whN l < W64 ^ 9 := by have := W9c; have := W3v; omega
    have h29 : 2000000000 < W64 ^ 9 := by have := W9c; have := W3v; omega
    have HDM := Lib.hid (fun W A1 c1 l1 A2 c2 l2 (h1 : NatR W A1 c1 l1 (whN l)) (h2 : NatR W A2 c2 l2 2000000000) => natDivMod_any A1 A2 c1 c2 l1 l2 _ _ W h1 h2 (by have := small_len h1 hw9; omega) (by have := small_len h2 h29; omega) (by omega))
    have hn9 : dwn l < W64 ^ 9 := by have := W9c; have := W3v; omega
    have HIN := Lib.hid (fun W A1 c1 l1 (h1 : NatR W A1 c1 l1 (whN l / 2000000000)) => natInt_any A1 c1 l1 (dwn l) W h1 (by have := small_len h1 hn9; omega) (by omega))
    obtain ⟨n, hn⟩ : ∃ n, n = dwn l := ⟨_, rfl⟩
    rw [← hn] at HIN HC1 hdl
    have HN := Lib.hid hn
    clear hc hok hC1 hn9 h29 hw9 hn
    by_cases hbig : 20000 < n
    · have HE := Lib.hid (show drawC l = 3 by rw [HC1.out, if_pos hbig])
      have HEL := Lib.hid (show drawR l seed = [] by unfold drawR; rw [if_neg (by rw [HE.out]; omega)])
      have t1 : decide (20000 < (n : Int)) = true := by simp; omega
      have t2 : decide (20000 < n) = true := by simpa using hbig
      go_enter Tryz.func29, Tryz.ntmps29
      go_wp2_with fail
      (with_reducible refine HCK.out.mono ?_)
      rintro e w1 ⟨rfl, hb1⟩
      have HB1 := Lib.hid hb1
      clear hb1
      go_wp2_with fail
      (with_reducible refine (HNL.out _ HB1.out).mono ?_)
      rintro e w2 ⟨P, rfl, _, hL, hb2⟩
      have HL := Lib.hid hL
      have HB2 := Lib.hid (below_next HB1.out hb2)
      clear hb2 hL
      go_wp2_with fail
      (with_reducible refine (HWH.out P _ HL.out).mono ?_)
      rintro e w3 ⟨A3, c3, l3, rfl, hn3, hb3⟩
      have HN3 := Lib.hid hn3
      have HB3 := Lib.hid (below_next HB2.out hb3)
      clear hn3 hb3
      go_wp2_with fail
      (with_reducible refine (HO2.out _).mono ?_)
      rintro e w4 ⟨A4, c4, l4, rfl, hn4, hb4⟩
      have HD4 := Lib.hid (HDM.out w4 A3 c3 l3 A4 c4 l4 (HN3.out.on hb4) hn4)
      have HB4 := Lib.hid (below_next HB3.out hb4)
      clear hn4 hb4
      go_wp2_with fail
      (with_reducible refine HD4.out.mono ?_)
      rintro e w5 ⟨A5, c5, l5, A6, c6, l6, rfl, hn5, _, hb5⟩
      have HI5 := Lib.hid (HIN.out w5 A5 c5 l5 hn5)
      have HB5 := Lib.hid (below_next HB4.out hb5)
      clear hn5 hb5
      go_wp2_with fail
      (with_reducible refine HI5.out.mono ?_)
      rintro e w6 ⟨rfl, rfl⟩
      go_wp2
      go_ret2
      first
        | exact ⟨none, 0, by rw [HE.out, HEL.out]; rfl, by rw [HEL.out]; exact Rd.nil, HB5.out⟩
        | exact ⟨none, ⟨0, by rw [HE.out, HEL.out]; rfl⟩, by rw [HEL.out]; exact Rd.nil, HB5.out⟩
    · have HE := Lib.hid (show drawC l = 0 by rw [HC1.out, if_neg hbig])
      have HEL := Lib.hid (show drawR l seed = srtZ (dwL l seed n) by unfold drawR; rw [if_pos HE.out, HN.out])
      have HLN := Lib.hid (srtZ_length (dwL l seed n))
      have HLD := Lib.hid (dwL_length l seed n)
      have t1 : decide (20000 < (n : Int)) = false := by simp; omega
      have t2 : decide (20000 < n) = false := by simpa using hbig
      have HSH := Lib.hid (show ∀ W A1 c1 l1, NatR W A1 c1 l1 2000000000 → Calls Tryz.prog 69 #[.slice A1 l1.length c1, .int .i64 33] W (NatPost (2000000000 * 2 ^ 33) W) from fun W A1 c1 l1 h1 => natShl_any A1 c1 l1 2000000000 33 W h1 (by have := small_len h1 (show 2000000000 < W64 ^ 9 by have := W9c; have := W3v; omega); omega) (by omega))
      have HDR := Lib.hid (show ∀ (k : Nat) W, k ≤ 20000 → Calls Tryz.prog 70 #[.int .i64 seed, .int .i64 3, .int .i64 0, .int .i64 k] W fun e w' => e = .returned (.int .i64 (dwD seed k)) ∧ W = w' from fun k W hk => draw_any seed 3 0 k W (by omega) (by omega) (by omega) (by omega) (by omega) (by omega))
      have HDG := Lib.hid (fun k => dwD_rng seed k)
      have hd9 : 2000000000 * 2 ^ 33 < W64 ^ 3 := by rw [W3v]; decide
      have HMU := Lib.hid (fun (k : Nat) W A1 c1 l1 A2 c2 l2 (h1 : NatR W A1 c1 l1 (2 * dwD seed k + 1).toNat) (h2 : NatR W A2 c2 l2 (whN l)) => natMul_any A1 A2 c1 c2 l1 l2 _ _ W h1 h2 (by have := dwD_rng seed k; have := small_len h1 (by have := W9c; have := W3v; omega); omega) (by have := small_len h2 (by have := W9c; have := W3v; omega); omega))
      have HFI := Lib.hid (show ∀ (k P : Nat) W A1 c1 l1 A2 c2 l2, LineR W P A c l → NatR W A1 c1 l1 ((2 * dwD seed k + 1).toNat * whN l) → NatR W A2 c2 l2 (2000000000 * 2 ^ 33) →
          Calls Tryz.prog 71 #[.pointer (some ⟨P, 0, none⟩), .agg #[.slice A1 l1.length c1, .slice A2 l2.length c2]] W fun e w' => e = .returned (.tuple #[.int .i64 (((dwT l seed k).getD 0 : Nat) : Int), .bool (dwT l seed k).isSome]) ∧ Below W.heap.size W w' from fun k P W A1 c1 l1 A2 c2 l2 hL h1 h2 => by
        have h := first_any P A c l A1 A2 c1 c2 l1 l2 _ _ W hL HOK.out h1 h2 (by
          have h3 := dwD_rng seed k
          have h4 : (2 * dwD seed k + 1).toNat * whN l ≤ 8589934592 * 10000000000000000000000 := Nat.mul_le_mul (by omega) hwl
          have := W3v; omega) hd9
        have e : fst ((2 * dwD seed k + 1).toNat * whN l) (2000000000 * 2 ^ 33) 0 0 (stgs l) = dwT l seed k := rfl
        rw [e, firstV_eq] at h
        exact h)
      have HOW1 := Lib.hid (fun (d : Int) W (h : d < 4294967296) => natOf_any (2 * d + 1) W (by omega))
      clear hd9 hwl
      go_enter Tryz.func29, Tryz.ntmps29
      go_wp2_with fail
      (with_reducible refine HCK.out.mono ?_)
      rintro e w1 ⟨rfl, hb1⟩
      have HB1 := Lib.hid hb1
      clear hb1
      go_wp2_with fail
      (with_reducible refine (HNL.out _ HB1.out).mono ?_)
      rintro e w2 ⟨P, rfl, _, hL, hb2⟩
      have HL := Lib.hid hL
      have HB2 := Lib.hid (below_next HB1.out hb2)
      clear hb2 hL
      go_wp2_with fail
      (with_reducible refine (HWH.out P _ HL.out).mono ?_)
      rintro e w3 ⟨A3, c3, l3, rfl, hn3, hb3⟩
      have HN3 := Lib.hid hn3
      have HL3 := Lib.hid (HL.out.on hb3)
      have HB3 := Lib.hid (below_next HB2.out hb3)
      clear hn3 hb3
      go_wp2_with fail
      (with_reducible refine (HO2.out _).mono ?_)
      rintro e w4 ⟨A4, c4, l4, rfl, hn4, hb4⟩
      have HD4 := Lib.hid (HDM.out w4 A3 c3 l3 A4 c4 l4 (HN3.out.on hb4) hn4)
      have HL4 := Lib.hid (HL3.out.on hb4)
      have HB4 := Lib.hid (below_next HB3.out hb4)
      clear hn4 hb4
      go_wp2_with fail
      (with_reducible refine HD4.out.mono ?_)
      rintro e w5 ⟨A5, c5, l5, A6, c6, l6, rfl, hn5, _, hb5⟩
      have HI5 := Lib.hid (HIN.out w5 A5 c5 l5 hn5)
      have HL5 := Lib.hid (HL4.out.on hb5)
      have HB5 := Lib.hid (below_next HB4.out hb5)
      clear hn5 hb5
      go_wp2_with fail
      (with_reducible refine HI5.out.mono ?_)
      rintro e w6 ⟨rfl, rfl⟩
      go_wp2_with fail
      (with_reducible refine (HO2.out _).mono ?_)
      rintro e w6 ⟨A6', c6', l6', rfl, hn6, hb6⟩
      have HS6 := Lib.hid (HSH.out w6 A6' c6' l6' hn6)
      have HL6 := Lib.hid (HL5.out.on hb6)
      have HB6 := Lib.hid (below_next HB5.out hb6)
      clear hn6 hb6
      go_wp2_with fail
      (with_reducible refine HS6.out.mono ?_)
      rintro e w7 ⟨A7, c7, l7, rfl, hn7, hb7⟩
      have HN7 := Lib.hid hn7
      have HL7 := Lib.hid (HL6.out.on hb7)
      have HB7 := Lib.hid (below_next HB6.out hb7)
      clear hn7 hb7
      go_wp2_with (at_make; refine wpList_make_own _ rfl (.const (.int .i64 0)) (.tmp 45) 36 rfl w7.heap.size 3 ii _ 1 Tryz.underlying36 hii hiz0 hiz1 .i64 .i64 _ n rfl rfl ?m1 ?m2 ?m3 ?m4 ?_)
      case m1 => rfl
      case m2 => rw [hiz2]; omega
      case m3 => unfold maxLen; omega
      case m4 => exact Nat.le_refl _
      intro w8 hown hgr
      have HB8 := Lib.hid (show Below w7.heap.size w7 w8 from (Below.refl _ w7).grown hgr (Nat.le_refl _) (fun k (hk : none = some k) => by cases hk))
      have HO8 := Lib.hid hown
      clear hown hgr
      go_wp2_with fail
      go_loopw [13, 14, 15, 16, 17, 48] (fun ov _ _ _ _ iv wr => ∃ k : Nat, iv = .int .i64 k ∧ k ≤ n ∧ wr.ownsRow w7.heap.size 3 1 ov k (ints (dwL l seed k)) ∧ Below w7.heap.size w7 wr) (fun _ _ _ _ _ iv _ => n - (intOf iv).toNat)
      case atStart => exact ⟨0, rfl, Nat.zero_le _, HO8.out, HB8.out⟩
      case round =>
        obtain ⟨k, rfl, hk, hown, hbw⟩ := hrel
        have HOW := Lib.hid hown
        have HBW := Lib.hid hbw
        have HLR := Lib.hid (HL7.out.on hbw)
        have HNR := Lib.hid (HN7.out.on hbw)
        have hsz := hbw.size
        by_cases hlt : k < n
        · obtain ⟨d0, d1⟩ := HDG.out k
          have HD := Lib.hid (HDR.out k wr (by omega))
          have HMK := Lib.hid (HMU.out k)
          have HFK := Lib.hid (HFI.out k)
          obtain ⟨d, hd⟩ : ∃ d, d = dwD seed k := ⟨_, rfl⟩
          obtain ⟨T, hT⟩ : ∃ T, T = (dwT l seed k).getD 0 := ⟨_, rfl⟩
          obtain ⟨bo, hbo⟩ : ∃ bo, bo = (dwT l seed k).isSome := ⟨_, rfl⟩
          rw [← hd] at HD HMK HFK d0 d1
          rw [← hT, ← hbo] at HFK
          have HES := Lib.hid (show ints (dwL l seed (k + 1)) = ints (dwL l seed k) ++ [.int .i64 (T : Int)] by rw [dwL_snoc, ← hT]; simp [ints])
          clear hown hbw hd hT hbo
          go_wp2_with fail
          (with_reducible refine HD.out.mono ?_)
          rintro e wA ⟨rfl, rfl⟩
          go_wp2_with fail
          (with_reducible refine (HOW1.out d _ d1).mono ?_)
          rintro e wB ⟨AB, cB, lB, rfl, hnB, hbB⟩
          have HNB := Lib.hid hnB
          have HBB := Lib.hid hbB
          have HWB := Lib.hid (HWH.out P wB (HLR.out.on hbB))
          clear hnB hbB
          go_wp2_with fail
          (with_reducible refine HWB.out.mono ?_)
          rintro e wC ⟨AC, cC, lC, rfl, hnC, hbC⟩
          have HMC := Lib.hid (HMK.out wC AB cB lB AC cC lC (HNB.out.on hbC) hnC)
          have HBC := Lib.hid (below_next HBB.out hbC)
          clear hnC hbC
          go_wp2_with fail
          (with_reducible refine HMC.out.mono ?_)
          rintro e wD ⟨AD, cD, lD, rfl, hnD, hbD⟩
          have HBD := Lib.hid (below_next HBC.out hbD)
          have HFD := Lib.hid (HFK.out P wD AD cD lD A7 c7 l7 (HLR.out.on HBD.out) hnD (HNR.out.on HBD.out))
          clear hnD hbD
          go_wp2_with fail
          (with_reducible refine HFD.out.mono ?_)
          rintro e wE ⟨rfl, hbE⟩
          have HBE := Lib.hid (below_next HBD.out hbE)
          have HO5 := Lib.hid (ownsRow_fr HOW.out (Fr.of_below HBE.out) (fun i hi hm => by have := (ownsRow_block HOW.out hi).2; omega))
          have HB5' := Lib.hid (HBW.out.trans (HBE.out.mono hsz))
          have hs5 := HB5'.out.size
          clear hbE
          go_wp2_with (at_builtin; refine wpList_append_own _ rfl (.tmp 68) (.tmp 70) 36 rfl w7.heap.size 3 ii _ 1 8 Tryz.underlying36 hii hiz0 hiz1 hiz2 rfl (by decide) _ k (ints (dwL l seed k)) rfl (HO5.out.alloc _) ⟨wE.heap.size, 0, none⟩ 1 1 [.int .i64 (T : Int)] rfl rfl (cell_one_new wE _ 3) (by simp [Value.oneCell']) (by unfold maxLen; omega) (by omega) (by simp; omega) ?_)
          intro v' w9 hown9 hgr9 _
          have HB9 := Lib.hid (show Below w7.heap.size w7 w9 from (HB5'.out.alloc hs5 _).trans ((Fr.of_grown hgr9).below (B := w7.heap.size) (by simp; omega) (fun i hi hm => by have := (ownsRow_block HO5.out hm).1; omega)))
          have HO9 := Lib.hid (show w9.ownsRow w7.heap.size 3 1 v' (k + 1) (ints (dwL l seed (k + 1))) by rw [HES.out]; exact hown9)
          clear hown9 hgr9
          go_wp2
          go_roundw
          case rel => exact ⟨k + 1, by go_num, by omega, HO9.out, HB9.out⟩
          case measure => simp [intOf]; omega
        · obtain rfl : k = n := by omega
          have hS := sortInts_any w7.heap.size u13 (dwL l seed k) wr (by rw [HLD.out]; exact hown) (by rw [HLD.out]; omega)
          rw [HLD.out] at hS
          have HSO := Lib.hid hS
          have HOB := Lib.hid (fun i (hi : some i = u13.ownBlock) => (ownsRow_block hown hi).1)
          clear hown hbw hS
          go_wp2_with fail
          (with_reducible refine HSO.out.mono ?_)
          rintro e w9 ⟨rfl, hown9, hgr9⟩
          have HB9 := Lib.hid (show Below w7.heap.size w7 w9 from HBW.out.trans ((Fr.of_grown hgr9).below (B := w7.heap.size) hsz (fun i hi hm => by have := HOB.out i hm; omega)))
          obtain ⟨A', cap, rfl, _, _, _⟩ := ownsRow_shape hown9
          have HRD := Lib.hid ((Rd.of_own hown9).more (Nat.zero_le _) (Nat.le_refl _))
          have HBE := Lib.hid (below_next HB7.out HB9.out)
          clear hown9 hgr9 HOB
          go_wp2
          go_ret2
          refine ⟨A', cap, ?_, ?_, HBE.out⟩
          · rw [HEL.out, HLN.out, HLD.out, HE.out]; rfl
          · rw [HEL.out, HLN.out, HLD.out]; exact HRD.out
  · obtain ⟨cc, hcc⟩ : ∃ cc, cc = codeS l := ⟨_, rfl⟩
    have HE := Lib.hid (show drawC l = cc by unfold drawC; rw [if_pos hc, hcc])
    rw [← hcc] at HCK hc
    have t1 : (cc != 0) = true := by simpa using hc
    have HEL := Lib.hid (show drawR l seed = [] by unfold drawR; rw [HE.out, if_neg hc])
    clear hcc
    go_enter Tryz.func29, Tryz.ntmps29
    go_wp2_with fail
    (with_reducible refine HCK.out.mono ?_)
    rintro e w1 ⟨rfl, hb1⟩
    go_wp2
    go_ret2
    exact ⟨none, 0, by rw [HE.out, HEL.out]; rfl, by rw [HEL.out]; exact Rd.nil, hb1⟩
end Go.Proofs.YtkoodmoilfgafaaGreatDoor
