import Derived.Test.YtepfmoaihhonlaaGreatDoorR7Math
import Derived.Test.YtepfmoaihhonlaaGreatDoorFirst
import Derived.Test.YtepfmoaihhonlaaGreatDoorGDgs
import Derived.Test.YtepfmoaihhonlaaGreatDoorNatGcd
import Derived.Test.YtepfmoaihhonlaaGreatDoorInkTxt
import Derived.Test.YtepfmoaihhonlaaGreatDoorAt
import Derived.Test.YtepfmoaihhonlaaGreatDoorNewLine
/- Lines: rates, areas, peaks: plain. -/
namespace Go.Proofs.YtepfmoaihhonlaaGreatDoor
open Go

/-- a fraction's two texts -/
def ratS (x y : Nat) : List UInt8 × List UInt8 := (Lib.decDigits (x / Nat.gcd x y), Lib.decDigits (y / Nat.gcd x y))
theorem rat_low (n d : Nat) (hd : 0 < d) : frS ((n : Rat) / (d : Rat)) = false ∧ frN ((n : Rat) / (d : Rat)) = n / Nat.gcd n d ∧ ((n : Rat) / (d : Rat)).den = d / Nat.gcd n d := by
  have e : (n : Rat) / (d : Rat) = mkRat (sg false n) d := by rw [Rat.mkRat_eq_div]; rfl
  rw [e]
  rcases Nat.eq_zero_or_pos n with rfl | h
  · rw [low_zero, Nat.gcd_zero_left, Nat.zero_div, Nat.div_self hd]
    exact fr_zero
  · exact low_pos h hd
/-- the texts of a fraction as the reference has it -/
def ratQ (q : Rat) : List UInt8 × List UInt8 := (Lib.decDigits (frN q), Lib.decDigits q.den)
theorem ratQ_div (n d : Nat) (hd : 0 < d) : ratQ ((n : Rat) / (d : Rat)) = ratS n d := by
  obtain ⟨_, h2, h3⟩ := rat_low n d hd
  unfold ratQ ratS
  rw [h2, h3]
/-- the rate at a place, times the stage's length -/
def Stg.rnum (s : Stg) (x : Nat) : Nat := if s.a ≤ s.b then s.a * s.F + (s.b - s.a) * x else s.a * s.F - (s.a - s.b) * x
theorem rnum_fine {s : Stg} {x : Nat} (hx : x ≤ s.F) : (s.a - s.b) * x ≤ s.a * s.F := Nat.mul_le_mul (by omega) hx
theorem rate_rat {F y z x : Int} (h : OkS (F, y, z)) (h0 : 0 ≤ x) (hx : x ≤ F) : ((y : Int) : Rat) + ((z - y : Int) : Rat) * mkRat x F.toNat = (((toStg (F, y, z)).rnum x.toNat : Nat) : Rat) / ((F.toNat : Nat) : Rat) := by
  obtain ⟨m1, m2, m3, m4, m5, m6⟩ := h
  simp only at m1 m2 m3 m4 m5 m6
  obtain ⟨k, rfl⟩ : ∃ k : Nat, x = k := ⟨x.toNat, by omega⟩
  obtain ⟨f, rfl⟩ : ∃ k : Nat, F = k := ⟨F.toNat, by omega⟩
  obtain ⟨a, rfl⟩ : ∃ k : Nat, y = k := ⟨y.toNat, by omega⟩
  obtain ⟨b, rfl⟩ : ∃ k : Nat, z = k := ⟨z.toNat, by omega⟩
  have hf0 : (f : Rat) ≠ 0 := natR_ne (by omega)
  have hfine := rnum_fine (s := ⟨f, a, b⟩) (x := k) (by show k ≤ f; omega)
  simp only at hfine
  rw [Rat.mkRat_eq_div, Rat.intCast_sub]
  simp only [Int.toNat_natCast]
  have e : (((toStg ((f : Int), (a : Int), (b : Int))).rnum k : Nat) : Rat) = (a : Rat) * f + ((b : Rat) - a) * k := by
    show (((if a ≤ b then a * f + (b - a) * k else a * f - (a - b) * k : Nat)) : Rat) = _
    by_cases hc : a ≤ b
    · rw [if_pos hc]
      simp only [Rat.natCast_add, Rat.natCast_mul, nat_sub hc]
    · rw [if_neg hc, nat_sub hfine]
      simp only [Rat.natCast_mul, nat_sub (show b ≤ a by omega)]
      grind
  rw [e]
  have e1 : ((a : Int) : Rat) = (a : Rat) := rfl
  have e2 : ((b : Int) : Rat) = (b : Rat) := rfl
  have e3 : ((k : Int) : Rat) = (k : Rat) := rfl
  rw [e1, e2, e3]
  grind
/-- where a time lies -/
theorem stIx_sum : ∀ (l : List Stg) (t : Nat), l ≠ [] → sumF (l.take (stIx l t).1) + (stIx l t).2 = t
  | [], _, h => absurd rfl h
  | [s], t, _ => by simp [stIx, sumF]
  | s :: s' :: r, t, _ => by
    unfold stIx
    split
    · simp [sumF]
    · have ih := stIx_sum (s' :: r) (t - s.F) (by simp)
      simp only [List.take_succ_cons]
      have : sumF (s :: List.take (stIx (s' :: r) (t - s.F)).1 (s' :: r)) = s.F + sumF (List.take (stIx (s' :: r) (t - s.F)).1 (s' :: r)) := by simp [sumF]
      omega
theorem stIx_in : ∀ (l : List Stg) (t : Nat), l ≠ [] → t ≤ sumF l → ∃ s, l[(stIx l t).1]? = some s ∧ (stIx l t).2 ≤ s.F
  | [], _, h, _ => absurd rfl h
  | [s], t, _, ht => ⟨s, rfl, by simpa [stIx, sumF] using ht⟩
  | s :: s' :: r, t, _, ht => by
    unfold stIx
    split
    · exact ⟨s, rfl, by simp only; omega⟩
    · have : sumF (s :: s' :: r) = s.F + sumF (s' :: r) := by simp [sumF]
      obtain ⟨s2, h1, h2⟩ := stIx_in (s' :: r) (t - s.F) (by simp) (by omega)
      exact ⟨s2, by simpa using h1, h2⟩
/-- the codes of Rate and Area -/
def rngC (l : List (Int × Int × Int)) (t : Int) : Int := if codeS l ≠ 0 then codeS l else if t < 0 then 9 else if lenS l < t then 9 else 0
/-- the rate at a time: numerator, denominator -/
def rateN (l : List (Int × Int × Int)) (t : Nat) : Nat × Nat := match l[(stIx (stgs l) t).1]? with
  | some s => ((toStg s).rnum (stIx (stgs l) t).2, (toStg s).F)
  | none => (0, 1)
def rateP (l : List (Int × Int × Int)) (t : Int) : List UInt8 × List UInt8 := if rngC l t ≠ 0 then ([], []) else ratS (rateN l t.toNat).1 (rateN l t.toNat).2
def areaP (l : List (Int × Int × Int)) (t : Int) : List UInt8 × List UInt8 := if rngC l t ≠ 0 then ([], []) else ratS ((loc 0 (stgs l) t.toNat).2.1.num (loc 0 (stgs l) t.toNat).1 (loc 0 (stgs l) t.toNat).2.2) (loc 0 (stgs l) t.toNat).2.1.den
/-- the peak: its time, its rate; the time so far -/
def pk : List (Int × Int × Int) → Int × Int × Int → Int × Int × Int
  | [], p => p
  | s :: r, p => let p1 := if p.2.1 < s.2.1 then (p.2.2, s.2.1) else (p.1, p.2.1)
                 let p2 := if p1.2 < s.2.2 then (p.2.2 + s.1, s.2.2) else p1
                 pk r (p2.1, p2.2, p.2.2 + s.1)
theorem pk_start (s : Int × Int × Int) (r : List (Int × Int × Int)) (h : 0 ≤ s.2.1) : pk (s :: r) (0, -1, 0) = pk (s :: r) (0, s.2.1, 0) := by
  have e1 : (if (-1 : Int) < s.2.1 then ((0 : Int), s.2.1) else (0, -1)) = (0, s.2.1) := if_pos (by omega)
  have e2 : (if s.2.1 < s.2.1 then ((0 : Int), s.2.1) else (0, s.2.1)) = (0, s.2.1) := if_neg (by omega)
  simp only [pk, e1, e2]
end Go.Proofs.YtepfmoaihhonlaaGreatDoor

/- Package load: a fraction's ratio. -/
namespace Go.Proofs.YtepfmoaihhonlaaGreatDoor
open Go Go.RowKit Go.Proofs

/-- two texts as api's fraction -/
def ratOf (p : List UInt8 × List UInt8) : Value := .agg #[.string ⟨p.1.toArray⟩, .string ⟨p.2.toArray⟩]
/-- what a fraction is told as -/
def ratV (x y : Nat) : Value := ratOf (ratS x y)
theorem natLen_le {w w' : World} {A A' : Option Addr} {c c' : Nat} {l l' : List Nat} {x y : Nat} (h : NatR w A c l x) (h' : NatR w' A' c' l' y) (hxy : y ≤ x) : l'.length ≤ l.length :=
  len_le h.norm h'.norm (by rw [h.val, h'.val]; exact hxy)

set_option maxHeartbeats 2000000 in
set_option maxRecDepth 100000 in
theorem lRatio_any (A1 A2 : Option Addr) (c1 c2 : Nat) (l1 l2 : List Nat) (x y : Nat) (w : World) (h1 : NatR w A1 c1 l1 x) (h2 : NatR w A2 c2 l2 y) (hs1 : l1.length ≤ 1000) (hs2 : l2.length ≤ 1000) (hy : 0 < y) (ht : Tab w.heap.size w) :
    Calls Tryz.prog 64 #[.agg #[.slice A1 l1.length c1, .slice A2 l2.length c2]] w fun e w' => e = .returned (ratV x y) ∧ Below w.heap.size w w' := by
  have HT := Lib.hid (fun W (hb : Below w.heap.size w W) => (ht.on hb).mono hb.size)
  have hG0 : 0 < Nat.gcd x y := Nat.gcd_pos_of_pos_right _ hy
  have hGy : Nat.gcd x y ≤ y := Nat.gcd_le_right _ hy
  obtain ⟨G, hG⟩ : ∃ G, G = Nat.gcd x y := ⟨_, rfl⟩
  have HV := Lib.hid (show ratV x y = .agg #[.string ⟨(Lib.decDigits (x / G)).toArray⟩, .string ⟨(Lib.decDigits (y / G)).toArray⟩] by rw [hG]; rfl)
  have hyx : Nat.gcd y x = G := by rw [hG, Nat.gcd_comm]
  rw [← hG] at hG0 hGy
  clear hG
  obtain ⟨W0, hW0⟩ : ∃ W0, W0 = (w.alloc (.cells #[.slice A1 l1.length c1, .slice A2 l2.length c2] 98)).alloc (.cells #[.string ⟨#[]⟩, .string ⟨#[]⟩] 31) := ⟨_, rfl⟩
  have hST0 : St w W0 [(w.heap.size, .cells #[.slice A1 l1.length c1, .slice A2 l2.length c2] 98 (0, 0)), (w.heap.size + 1, .cells #[.string ⟨#[]⟩, .string ⟨#[]⟩] 31 (0, 0))] := by
    rw [hW0]
    simpa using ((St.start w).alloc _ _ rfl).alloc _ _ rfl
  have HST0 := Lib.hid hST0
  have a0 : W0.cell? ⟨w.heap.size, 0, none⟩ = some (.slice A1 l1.length c1) := hST0.cell 0 0 rfl rfl
  have a1 : W0.cell? ⟨w.heap.size, 1, none⟩ = some (.slice A2 l2.length c2) := hST0.cell 0 1 rfl rfl
  have HN1 := Lib.hid (fun W (hb : Below w.heap.size w W) => h1.on hb)
  have HN2 := Lib.hid (fun W (hb : Below w.heap.size w W) => h2.on hb)
  have HG := Lib.hid (natGcd_any A2 A1 c2 c1 l2 l1 y x W0 (h2.on hST0.below) (h1.on hST0.below) (by omega) (by omega))
  rw [hyx] at HG
  clear hyx hST0 h1 h2 ht
  go_enter Tryz.func64, Tryz.ntmps64
  go_wp2_with fail
  rw [← hW0]
  clear hW0
  (with_reducible refine HG.out.mono ?_)
  rintro e w1 ⟨AG, cG, lG, rfl, hNG, hb1⟩
  have hST1 := HST0.out.call hb1
  have HST1 := Lib.hid hST1
  have b0 : w1.cell? ⟨w.heap.size, 0, none⟩ = some (.slice A1 l1.length c1) := hST1.cell 0 0 rfl rfl
  have b1 : w1.cell? ⟨w.heap.size, 1, none⟩ = some (.slice A2 l2.length c2) := hST1.cell 0 1 rfl rfl
  have hlG : lG.length ≤ 1000 := by have := natLen_le (HN2.out w1 hST1.below) hNG hGy; omega
  have HD1 := Lib.hid (natDivMod_any A1 AG c1 cG l1 lG x G w1 (HN1.out w1 hST1.below) hNG (by omega) (by omega) hG0)
  have HNG := Lib.hid hNG
  clear HG hb1 hST1 hNG a0 a1
  go_wp2_with fail
  (with_reducible refine HD1.out.mono ?_)
  rintro e w2 ⟨AQ, cQ, lQ, AR, cR, lR, rfl, hNQ, -, hb2⟩
  have hST2 := HST1.out.call hb2
  have HST2 := Lib.hid hST2
  have d1 : w2.cell? ⟨w.heap.size, 1, none⟩ = some (.slice A2 l2.length c2) := hST2.cell 0 1 rfl rfl
  have hlQ : lQ.length ≤ 1000 := by have := natLen_le (HN1.out w2 hST2.below) hNQ (Nat.div_le_self _ _); omega
  have HD2 := Lib.hid (natDivMod_any A2 AG c2 cG l2 lG y G w2 (HN2.out w2 hST2.below) (HNG.out.on hb2) (by omega) (by omega) hG0)
  have HNQ := Lib.hid hNQ
  clear HD1 hb2 hST2 hNQ b0 b1
  go_wp2_with fail
  (with_reducible refine HD2.out.mono ?_)
  rintro e w3 ⟨AP, cP, lP, AS, cS, lS, rfl, hNP, -, hb3⟩
  have hST3 := HST2.out.call hb3
  have HST3 := Lib.hid hST3
  have hlP : lP.length ≤ 1000 := by have := natLen_le (HN2.out w3 hST3.below) hNP (Nat.div_le_self _ _); omega
  have HE1 := Lib.hid (digits_any AQ cQ lQ _ w3 (HNQ.out.on hb3) hlQ (HT.out w3 hST3.below))
  have HNP := Lib.hid hNP
  clear HD2 hb3 hST3 hNP d1
  go_wp2_with fail
  (with_reducible refine HE1.out.mono ?_)
  rintro e w4 ⟨rfl, hb4⟩
  have hST4 := HST3.out.call hb4
  have HST4 := Lib.hid hST4
  have HE2 := Lib.hid (digits_any AP cP lP _ w4 (HNP.out.on hb4) hlP (HT.out w4 hST4.below))
  clear HE1 hb4 hST4
  go_wp2_with fail
  (with_reducible refine HE2.out.mono ?_)
  rintro e w5 ⟨rfl, hb5⟩
  have hST5 := HST4.out.call hb5
  have r0 := hST5.cell 1 0 rfl rfl
  have r1 := hST5.cell 1 1 rfl rfl
  have z0 := hST5.frozen 1 0 rfl
  have z1 := hST5.frozen 1 1 rfl
  have HFIN := Lib.hid ((hST5.below.setCell (p := ⟨w.heap.size + 1, 0, none⟩) (by simp) (.string ⟨(Lib.decDigits (x / G)).toArray⟩)).setCell (p := ⟨w.heap.size + 1, 1, none⟩) (by simp) (.string ⟨(Lib.decDigits (y / G)).toArray⟩))
  clear HE2 hb5 hST5
  go_wp2
  refine bodyPost_ret (v := .agg #[.string ⟨(Lib.decDigits (x / G)).toArray⟩, .string ⟨(Lib.decDigits (y / G)).toArray⟩]) ?_ rfl ⟨by rw [HV.out], HFIN.out⟩
  simp [results, Tryz.results64, go_sem, r0, r1]
end Go.Proofs.YtepfmoaihhonlaaGreatDoor

/- Package load: Rate. -/
namespace Go.Proofs.YtepfmoaihhonlaaGreatDoor
open Go Go.RowKit Go.Proofs

theorem rngC_ok {l : List (Int × Int × Int)} {t : Int} (hc : codeS l = 0) (h0 : 0 ≤ t) (h1 : t ≤ lenS l) : rngC l t = 0 := by
  unfold rngC; rw [if_neg (by omega), if_neg (by omega), if_neg (by omega)]
theorem prod2 (a b : Int) : prodN [a, b] = a.toNat * b.toNat := by simp [prodN]

theorem prod2_block {W : World} {B : Nat} {a b : Int} (hW : W.heap[B]? = some (.cells #[.int .i64 a, .int .i64 b] 3 (0, 0))) (ha : a ≤ 9223372036854775807) (hb : b ≤ 9223372036854775807) :
    Calls Tryz.prog 60 #[.slice (some ⟨B, 0, none⟩) 2 2] W (NatPost (a.toNat * b.toNat) W) := by
  have h := prod_block (zs := [a, b]) (W := W) (B := B) hW (by simp) (by intro q hq; simp at hq; omega)
  rw [prod2] at h
  exact h
theorem small2 {a b : Int} (ha : a ≤ 9223372036854775807) (hb : b ≤ 9223372036854775807) : a.toNat * b.toNat < W64 ^ 9 := by
  have h1 : a.toNat * b.toNat ≤ 9223372036854775807 * 9223372036854775807 := Nat.mul_le_mul (by omega) (by omega)
  refine Nat.lt_of_le_of_lt h1 ?_
  unfold W64; decide

set_option maxHeartbeats 4000000 in
set_option maxRecDepth 100000 in
theorem lRate_ok (A : Option Addr) (c : Nat) (l : List (Int × Int × Int)) (t : Nat) (w : World) (hr : Rd w 0 w.heap.size 3 A l.length (cells3 l)) (hok : OkL l) (ht : (t : Int) ≤ lenS l) (htab : Tab w.heap.size w) :
    Calls Tryz.prog 15 #[.slice A l.length c, .int .i64 t] w fun e w' => e = .returned (.tuple #[ratV (rateN l t).1 (rateN l t).2, .int .i64 0]) ∧ Below w.heap.size w w' := by
  have htm := hok.sum
  have hle := hok.le
  have hsf := sumF_lenS hok.ok
  obtain ⟨s, hs1, hs2⟩ := stIx_in (stgs l) t (stgs_ne hok) (by omega)
  have HCK := Lib.hid (fun (W : World) (hb : Below w.heap.size w W) => loadCheck_any A c l W (hr.old hb) (by omega))
  have HLN := Lib.hid (fun (W : World) (hb : Below w.heap.size w W) => loadLength_any A c l W (hr.old hb) (by omega) hok.ok)
  have hSA := fun (W : World) (hb : Below w.heap.size w W) => stageAt_any A c l t W (hr.old hb) hok (by omega)
  obtain ⟨i, hi⟩ : ∃ i, i = (stIx (stgs l) t).1 := ⟨_, rfl⟩
  obtain ⟨x, hx⟩ : ∃ x, x = (stIx (stgs l) t).2 := ⟨_, rfl⟩
  rw [← hi] at hs1
  rw [← hx] at hs2
  simp only [← hi, ← hx] at hSA
  have hil : i < l.length := by have := (List.getElem?_eq_some_iff.1 hs1).1; simpa [stgs] using this
  obtain ⟨bk, ok, F, y, z, hA, _, hbk, hs, q0, q1, q2⟩ := hr.at3 hil
  subst hA
  have hse : s = toStg (F, y, z) := by unfold stgs at hs1; rw [List.getElem?_map, hs] at hs1; simpa using hs1.symm
  subst hse
  have HV := Lib.hid (show ratV (rateN l t).1 (rateN l t).2 = ratV ((toStg (F, y, z)).rnum x) F.toNat by
    unfold rateN; rw [← hi, ← hx, hs]; rfl)
  have hS := hok.ok _ (List.mem_of_getElem? hs)
  unfold OkS at hS
  simp only at hS
  obtain ⟨m1, m2, m3, m4, m5, m6⟩ := hS
  have hxF : x ≤ F.toNat := hs2
  have hfine : (y.toNat - z.toNat) * x ≤ y.toNat * F.toNat := rnum_fine (s := toStg (F, y, z)) hs2
  have HSA := Lib.hid hSA
  rw [show codeS l = 0 from hok.code] at HCK
  have b1 : decide ((t : Int) < 0) = false := by simp
  have b2 : decide (lenS l < (t : Int)) = false := by simpa using ht
  have b3 : ¬ lenS l < (t : Int) := by omega
  have hii : (i : Int) < (l.length : Int) := by omega
  have HT := Lib.hid (fun W (hb : Below w.heap.size w W) => (htab.on hb).mono hb.size)
  have HQ := Lib.hid (show ∀ W, Below w.heap.size w W → W.cell? ⟨bk, ok + i * 3, none⟩ = some (.int .i64 F) ∧ W.cell? ⟨bk, ok + i * 3 + 1, none⟩ = some (.int .i64 y) ∧ W.cell? ⟨bk, ok + i * 3 + 2, none⟩ = some (.int .i64 z) from fun W hb => ⟨(hb.cell (p := ⟨bk, ok + i * 3, none⟩) hbk).trans q0, (hb.cell (p := ⟨bk, ok + i * 3 + 1, none⟩) hbk).trans q1, (hb.cell (p := ⟨bk, ok + i * 3 + 2, none⟩) hbk).trans q2⟩)
  obtain ⟨W0, hW0⟩ : ∃ W0, W0 = w.alloc (.cells #[.string ⟨#[]⟩, .string ⟨#[]⟩] 31) := ⟨_, rfl⟩
  have HST0 := Lib.hid (show St w W0 [(w.heap.size, .cells #[.string ⟨#[]⟩, .string ⟨#[]⟩] 31 (0, 0))] by rw [hW0]; exact (St.start w).alloc _ _ rfl)
  have hsl : ∀ W : World, ∀ {A' c' l'}, ∀ {v : Nat}, NatR W A' c' l' v → v < W64 ^ 9 → l'.length ≤ 900 := fun W A' c' l' v h hv => by have := small_len h hv; omega
  have HSL := Lib.hid hsl
  have HW9 := Lib.hid W9b
  have HW3 := Lib.hid W9c
  clear hs1 hs2 hi hx hSA hs q0 q1 q2 hok htab hr hsf hsl
  go_enter Tryz.func15, Tryz.ntmps15
  go_wp2_with fail
  rw [← hW0]
  clear hW0
  (with_reducible refine (HCK.out W0 HST0.out.below).mono ?_)
  rintro e w1 ⟨rfl, hb1⟩
  have HST1 := Lib.hid (HST0.out.call hb1)
  clear hb1
  go_wp2_with fail
  (with_reducible refine (HLN.out w1 HST1.out.below).mono ?_)
  rintro e w2 ⟨rfl, hb2⟩
  have HST2 := Lib.hid (HST1.out.call hb2)
  clear hb2
  go_wp2_with fail
  (with_reducible refine (HSA.out w2 HST2.out.below).mono ?_)
  rintro e w2' ⟨rfl, rfl⟩
  obtain ⟨q0, q1, q2⟩ := HQ.out w2 HST2.out.below
  have hST3 := (HST2.out).alloc (.cells #[.int .i64 F, .int .i64 y, .int .i64 z] 86 (0, 0)) _ rfl
  have HST3 := Lib.hid hST3
  have hs3 := HST2.out.below.size
  have g0 : (w2.alloc (.cells #[.int .i64 F, .int .i64 y, .int .i64 z] 86 (0, 0))).cell? ⟨w2.heap.size, 0, none⟩ = some (.int .i64 F) := hST3.cell 1 0 rfl rfl
  clear hST3
  obtain ⟨W3, hW3⟩ : ∃ W3, W3 = w2.alloc (.cells #[.int .i64 F, .int .i64 y, .int .i64 z] 86 (0, 0)) := ⟨_, rfl⟩
  have hz3 : W3.heap.size = w2.heap.size + 1 := by rw [hW3]; simp
  rw [← hW3] at HST3 g0
  have HP1 := Lib.hid (prod2_block (W := W3.alloc (.cells #[.int .i64 y, .int .i64 F] 3 (0, 0))) (B := w2.heap.size + 1) (alloc_at _ _ _ hz3.symm) (by omega) (by omega))
  go_wp2_with fail
  rw [← hW3]
  clear hW3
  (with_reducible refine HP1.out.mono ?_)
  rintro e w4 ⟨AP, cP, lP, rfl, hnP, hb4⟩
  have hST4 := (HST3.out.more _).call hb4
  have HST4 := Lib.hid hST4
  have g0 := hST4.cell 1 0 rfl rfl
  have g1 := hST4.cell 1 1 rfl rfl
  have g2 := hST4.cell 1 2 rfl rfl
  have HNP := Lib.hid hnP
  have hlP := HSL.out w4 hnP (small2 (by omega) (by omega))
  have hsz := HST4.out.lt 1 rfl
  clear HP1 hnP hb4 hST4
  have HRN := Lib.hid (show (toStg (F, y, z)).rnum x < W64 ^ 9 by
    have h1 : (toStg (F, y, z)).rnum x ≤ 1000000000 * 100000000000 + 1000000000 * 100000000000 := by
      have e1 : y.toNat * F.toNat ≤ 1000000000 * 100000000000 := Nat.mul_le_mul (by omega) (by omega)
      have e2 : (z.toNat - y.toNat) * x ≤ 1000000000 * 100000000000 := Nat.mul_le_mul (by omega) (by omega)
      unfold Stg.rnum toStg; simp only
      split <;> omega
    refine Nat.lt_of_le_of_lt h1 ?_
    unfold W64; decide)
  have HFW := Lib.hid (show F.toNat < W64 by unfold W64; omega)
  by_cases hyz : y ≤ z
  · have HV2 := Lib.hid (show y.toNat * F.toNat + (z - y).toNat * (x : Int).toNat = (toStg (F, y, z)).rnum x by
      unfold Stg.rnum toStg; simp only; rw [if_pos (by omega)]
      rw [show (z - y).toNat = z.toNat - y.toNat by omega]; rfl)
    have HP2 := Lib.hid (prod2_block (W := w4.alloc (.cells #[.int .i64 (z - y), .int .i64 x] 3 (0, 0))) (B := w4.heap.size) (alloc_at _ _ _ rfl) (by omega) (by omega))
    have hsm : (z - y).toNat * (x : Int).toNat < W64 ^ 9 := small2 (by omega) (by omega)
    go_wp2_with fail
    (with_reducible refine HP2.out.mono ?_)
    rintro e w5 ⟨AR, cR, lR, rfl, hnR, hb5⟩
    have hb45 : Below w4.heap.size w4 w5 := below_next ((Below.refl _ w4).alloc (Nat.le_refl _) _) hb5
    have HST5 := Lib.hid (HST4.out.call hb45)
    have hlR := HSL.out w5 hnR hsm
    have HA := Lib.hid (natAdd_any AP AR cP cR lP lR _ _ w5 (HNP.out.on hb45) hnR (by omega) (by omega))
    clear HP2 hb5 hb45 hnR g0 g1 g2
    go_wp2_with fail
    (with_reducible refine HA.out.mono ?_)
    rintro e w6 ⟨AN, cN, lN, rfl, hnN, hb6⟩
    have hST6 := HST5.out.call hb6
    have HST6 := Lib.hid hST6
    have g0 := hST6.cell 1 0 rfl rfl
    have HNN := Lib.hid hnN
    rw [HV2.out] at HNN
    have HO := Lib.hid (natOf_any F w6 (by omega))
    clear HA hb6 hnN hST6
    go_wp2_with fail
    (with_reducible refine HO.out.mono ?_)
    rintro e w7 ⟨AF, cF, lF, rfl, hnF, hb7⟩
    have hST7 := HST6.out.call hb7
    have HST7 := Lib.hid hST7
    have hlN := HSL.out w7 (HNN.out.on hb7) HRN.out
    have hlF := HSL.out w7 hnF (by have := HFW.out; have := HW9.out; omega)
    have HRT := Lib.hid (lRatio_any AN AF cN cF lN lF _ _ w7 (HNN.out.on hb7) hnF (by omega) (by omega) (by omega) (HT.out w7 hST7.below))
    clear HO hb7 hST7 hnF
    go_wp2_with fail
    (with_reducible refine HRT.out.mono ?_)
    rintro e w8 ⟨rfl, hb8⟩
    have hST8 := HST7.out.call hb8
    have r0 := hST8.cell 0 0 rfl rfl
    have r1 := hST8.cell 0 1 rfl rfl
    have z0 := hST8.frozen 0 0 rfl
    have z1 := hST8.frozen 0 1 rfl
    have HFIN := Lib.hid ((hST8.below.setCell (p := ⟨w.heap.size, 0, none⟩) (Nat.le_refl _) (.string ⟨(ratS ((toStg (F, y, z)).rnum x) F.toNat).1.toArray⟩)).setCell (p := ⟨w.heap.size, 1, none⟩) (Nat.le_refl _) (.string ⟨(ratS ((toStg (F, y, z)).rnum x) F.toNat).2.toArray⟩))
    unfold ratV ratOf at HV ⊢
    clear hb8 hST8
    go_wp2
    refine bodyPost_ret (v := .tuple #[ratOf (ratS ((toStg (F, y, z)).rnum x) F.toNat), .int .i64 0]) ?_ rfl ⟨by unfold ratV ratOf; rw [HV.out], HFIN.out⟩
    simp [results, Tryz.results15, go_sem, r0, r1, ratOf]
  · have HV2 := Lib.hid (show y.toNat * F.toNat - (y - z).toNat * (x : Int).toNat = (toStg (F, y, z)).rnum x by
      unfold Stg.rnum toStg; simp only; rw [if_neg (by omega)]
      rw [show (y - z).toNat = y.toNat - z.toNat by omega]; rfl)
    have HP2 := Lib.hid (prod2_block (W := w4.alloc (.cells #[.int .i64 (y - z), .int .i64 x] 3 (0, 0))) (B := w4.heap.size) (alloc_at _ _ _ rfl) (by omega) (by omega))
    have hsm : (y - z).toNat * (x : Int).toNat < W64 ^ 9 := small2 (by omega) (by omega)
    go_wp2_with fail
    (with_reducible refine HP2.out.mono ?_)
    rintro e w5 ⟨AR, cR, lR, rfl, hnR, hb5⟩
    have hb45 : Below w4.heap.size w4 w5 := below_next ((Below.refl _ w4).alloc (Nat.le_refl _) _) hb5
    have HST5 := Lib.hid (HST4.out.call hb45)
    have hlR := HSL.out w5 hnR hsm
    have HA := Lib.hid (natSub_any AP AR cP cR lP lR _ _ w5 (HNP.out.on hb45) hnR (by omega) (by rw [show (y - z).toNat = y.toNat - z.toNat by omega]; simpa using hfine))
    clear HP2 hb5 hb45 hnR g0 g1 g2
    go_wp2_with fail
    (with_reducible refine HA.out.mono ?_)
    rintro e w6 ⟨AN, cN, lN, rfl, hnN, hb6⟩
    have hST6 := HST5.out.call hb6
    have HST6 := Lib.hid hST6
    have g0 := hST6.cell 1 0 rfl rfl
    have HNN := Lib.hid hnN
    rw [HV2.out] at HNN
    have HO := Lib.hid (natOf_any F w6 (by omega))
    clear HA hb6 hnN hST6
    go_wp2_with fail
    (with_reducible refine HO.out.mono ?_)
    rintro e w7 ⟨AF, cF, lF, rfl, hnF, hb7⟩
    have hST7 := HST6.out.call hb7
    have HST7 := Lib.hid hST7
    have hlN := HSL.out w7 (HNN.out.on hb7) HRN.out
    have hlF := HSL.out w7 hnF (by have := HFW.out; have := HW9.out; omega)
    have HRT := Lib.hid (lRatio_any AN AF cN cF lN lF _ _ w7 (HNN.out.on hb7) hnF (by omega) (by omega) (by omega) (HT.out w7 hST7.below))
    clear HO hb7 hST7 hnF
    go_wp2_with fail
    (with_reducible refine HRT.out.mono ?_)
    rintro e w8 ⟨rfl, hb8⟩
    have hST8 := HST7.out.call hb8
    have r0 := hST8.cell 0 0 rfl rfl
    have r1 := hST8.cell 0 1 rfl rfl
    have z0 := hST8.frozen 0 0 rfl
    have z1 := hST8.frozen 0 1 rfl
    have HFIN := Lib.hid ((hST8.below.setCell (p := ⟨w.heap.size, 0, none⟩) (Nat.le_refl _) (.string ⟨(ratS ((toStg (F, y, z)).rnum x) F.toNat).1.toArray⟩)).setCell (p := ⟨w.heap.size, 1, none⟩) (Nat.le_refl _) (.string ⟨(ratS ((toStg (F, y, z)).rnum x) F.toNat).2.toArray⟩))
    unfold ratV ratOf at HV ⊢
    clear hb8 hST8
    go_wp2
    refine bodyPost_ret (v := .tuple #[ratOf (ratS ((toStg (F, y, z)).rnum x) F.toNat), .int .i64 0]) ?_ rfl ⟨by unfold ratV ratOf; rw [HV.out], HFIN.out⟩
    simp [results, Tryz.results15, go_sem, r0, r1, ratOf]
-- ANY
set_option maxHeartbeats 2000000 in
set_option maxRecDepth 100000 in
theorem lRate_any (A : Option Addr) (c : Nat) (l : List (Int × Int × Int)) (t : Int) (w : World) (hr : Rd w 0 w.heap.size 3 A l.length (cells3 l)) (hl : l.length ≤ 9223372036854775807) (htl : t ≤ 9223372036854775807) (htab : Tab w.heap.size w) :
    Calls Tryz.prog 15 #[.slice A l.length c, .int .i64 t] w fun e w' => e = .returned (.tuple #[ratOf (rateP l t), .int .i64 (rngC l t)]) ∧ Below w.heap.size w w' := by
  have HCK := Lib.hid (fun (W : World) (hb : Below w.heap.size w W) => loadCheck_any A c l W (hr.old hb) hl)
  obtain ⟨W0, hW0⟩ : ∃ W0, W0 = w.alloc (.cells #[.string ⟨#[]⟩, .string ⟨#[]⟩] 31) := ⟨_, rfl⟩
  have HST0 := Lib.hid (show St w W0 [(w.heap.size, .cells #[.string ⟨#[]⟩, .string ⟨#[]⟩] 31 (0, 0))] by rw [hW0]; exact (St.start w).alloc _ _ rfl)
  by_cases hc : codeS l = 0
  · have hok := codeS_ok hc
    rw [hc] at HCK
    by_cases h0 : t < 0
    · have HV := Lib.hid (show ratOf (rateP l t) = .agg #[.string ⟨#[]⟩, .string ⟨#[]⟩] ∧ rngC l t = 9 by
        have e : rngC l t = 9 := by unfold rngC; rw [if_neg (by omega), if_pos h0]
        exact ⟨by unfold rateP; rw [if_pos (by omega)]; rfl, e⟩)
      have b1 : decide (t < 0) = true := by simpa using h0
      clear hok hc hr htab
      go_enter Tryz.func15, Tryz.ntmps15
      go_wp2_with fail
      rw [← hW0]
      clear hW0
      (with_reducible refine (HCK.out W0 HST0.out.below).mono ?_)
      rintro e w1 ⟨rfl, hb1⟩
      have hST1 := HST0.out.call hb1
      have r0 := hST1.cell 0 0 rfl rfl
      have r1 := hST1.cell 0 1 rfl rfl
      have z0 := hST1.frozen 0 0 rfl
      have z1 := hST1.frozen 0 1 rfl
      have HFIN := Lib.hid ((hST1.below.setCell (p := ⟨w.heap.size, 0, none⟩) (Nat.le_refl _) (.string ⟨#[]⟩)).setCell (p := ⟨w.heap.size, 1, none⟩) (Nat.le_refl _) (.string ⟨#[]⟩))
      clear hb1 hST1
      go_wp2
      refine bodyPost_ret (v := .tuple #[.agg #[.string ⟨#[]⟩, .string ⟨#[]⟩], .int .i64 9]) ?_ rfl ⟨by rw [HV.out.1, HV.out.2], HFIN.out⟩
      simp [results, Tryz.results15, go_sem, r0, r1]
    · by_cases h1 : lenS l < t
      · have HV := Lib.hid (show ratOf (rateP l t) = .agg #[.string ⟨#[]⟩, .string ⟨#[]⟩] ∧ rngC l t = 9 by
          have e : rngC l t = 9 := by unfold rngC; rw [if_neg (by omega), if_neg h0, if_pos h1]
          exact ⟨by unfold rateP; rw [if_pos (by omega)]; rfl, e⟩)
        have b1 : decide (t < 0) = false := by simpa using h0
        have b2 : decide (lenS l < t) = true := by simpa using h1
        have HLN := Lib.hid (fun (W : World) (hb : Below w.heap.size w W) => loadLength_any A c l W (hr.old hb) (by have := hok.le; omega) hok.ok)
        clear hok hc hr htab
        go_enter Tryz.func15, Tryz.ntmps15
        go_wp2_with fail
        rw [← hW0]
        clear hW0
        (with_reducible refine (HCK.out W0 HST0.out.below).mono ?_)
        rintro e w1 ⟨rfl, hb1⟩
        have HST1 := Lib.hid (HST0.out.call hb1)
        clear hb1
        go_wp2_with fail
        (with_reducible refine (HLN.out w1 HST1.out.below).mono ?_)
        rintro e w2 ⟨rfl, hb2⟩
        have hST1 := HST1.out.call hb2
        have r0 := hST1.cell 0 0 rfl rfl
        have r1 := hST1.cell 0 1 rfl rfl
        have z0 := hST1.frozen 0 0 rfl
        have z1 := hST1.frozen 0 1 rfl
        have HFIN := Lib.hid ((hST1.below.setCell (p := ⟨w.heap.size, 0, none⟩) (Nat.le_refl _) (.string ⟨#[]⟩)).setCell (p := ⟨w.heap.size, 1, none⟩) (Nat.le_refl _) (.string ⟨#[]⟩))
        clear hb2 hST1
        go_wp2
        refine bodyPost_ret (v := .tuple #[.agg #[.string ⟨#[]⟩, .string ⟨#[]⟩], .int .i64 9]) ?_ rfl ⟨by rw [HV.out.1, HV.out.2], HFIN.out⟩
        simp [results, Tryz.results15, go_sem, r0, r1]
      · obtain ⟨k, rfl⟩ : ∃ k : Nat, t = k := ⟨t.toNat, by omega⟩
        have e : rngC l k = 0 := rngC_ok hc (by omega) (by omega)
        refine (lRate_ok A c l k w hr hok (by omega) htab).mono ?_
        rintro e' w' ⟨rfl, hb⟩
        exact ⟨by unfold rateP; rw [if_neg (by omega), e]; rfl, hb⟩
  · have HV := Lib.hid (show ratOf (rateP l t) = .agg #[.string ⟨#[]⟩, .string ⟨#[]⟩] ∧ rngC l t = codeS l by
      have e : rngC l t = codeS l := by unfold rngC; rw [if_pos hc]
      exact ⟨by unfold rateP; rw [if_pos (by omega)]; rfl, e⟩)
    obtain ⟨cc, hcc⟩ : ∃ cc, cc = codeS l := ⟨_, rfl⟩
    rw [← hcc] at HCK HV hc
    have t1 : (cc != 0) = true := by simpa using hc
    clear hcc hr htab
    go_enter Tryz.func15, Tryz.ntmps15
    go_wp2_with fail
    rw [← hW0]
    clear hW0
    (with_reducible refine (HCK.out W0 HST0.out.below).mono ?_)
    rintro e w1 ⟨rfl, hb1⟩
    have hST1 := HST0.out.call hb1
    have r0 := hST1.cell 0 0 rfl rfl
    have r1 := hST1.cell 0 1 rfl rfl
    have z0 := hST1.frozen 0 0 rfl
    have z1 := hST1.frozen 0 1 rfl
    have HFIN := Lib.hid ((hST1.below.setCell (p := ⟨w.heap.size, 0, none⟩) (Nat.le_refl _) (.string ⟨#[]⟩)).setCell (p := ⟨w.heap.size, 1, none⟩) (Nat.le_refl _) (.string ⟨#[]⟩))
    clear hb1 hST1
    go_wp2
    refine bodyPost_ret (v := .tuple #[.agg #[.string ⟨#[]⟩, .string ⟨#[]⟩], .int .i64 cc]) ?_ rfl ⟨by rw [HV.out.1, HV.out.2], HFIN.out⟩
    simp [results, Tryz.results15, go_sem, r0, r1]
end Go.Proofs.YtepfmoaihhonlaaGreatDoor

/- Package load: Area. -/
namespace Go.Proofs.YtepfmoaihhonlaaGreatDoor
open Go Go.RowKit Go.Proofs

theorem W4_9 : W64 ^ 4 < W64 ^ 9 := by unfold W64; decide
set_option maxHeartbeats 2000000 in
set_option maxRecDepth 100000 in
theorem lArea_ok (A : Option Addr) (c : Nat) (l : List (Int × Int × Int)) (t : Nat) (w : World) (hr : Rd w 0 w.heap.size 3 A l.length (cells3 l)) (hok : OkL l) (ht : (t : Int) ≤ lenS l) (htab : Tab w.heap.size w) :
    Calls Tryz.prog 17 #[.slice A l.length c, .int .i64 t] w fun e w' => e = .returned (.tuple #[ratV ((place l t).2.1.num (place l t).1 (place l t).2.2) (place l t).2.1.den, .int .i64 0]) ∧ Below w.heap.size w w' := by
  have htm := hok.sum
  have hle := hok.le
  have HCK := Lib.hid (fun (W : World) (hb : Below w.heap.size w W) => loadCheck_any A c l W (hr.old hb) (by omega))
  have HLN := Lib.hid (fun (W : World) (hb : Below w.heap.size w W) => loadLength_any A c l W (hr.old hb) (by omega) hok.ok)
  have HNL := Lib.hid (fun (W : World) (hb : Below w.heap.size w W) => newLine_any A c l W (hr.old hb) hok)
  have HAT := Lib.hid (fun (W : World) P (hL : LineR W P A c l) => at_any P A c l t W hL hok (by omega))
  obtain ⟨_, h3, h4, h5⟩ := upto_small hok t
  rw [show codeS l = 0 from hok.code] at HCK
  have b1 : decide ((t : Int) < 0) = false := by simp
  have b2 : decide (lenS l < (t : Int)) = false := by simpa using ht
  have b3 : ¬ lenS l < (t : Int) := by omega
  have HT := Lib.hid (fun W (hb : Below w.heap.size w W) => (htab.on hb).mono hb.size)
  obtain ⟨W0, hW0⟩ : ∃ W0, W0 = w.alloc (.cells #[.string ⟨#[]⟩, .string ⟨#[]⟩] 31) := ⟨_, rfl⟩
  have HST0 := Lib.hid (show St w W0 [(w.heap.size, .cells #[.string ⟨#[]⟩, .string ⟨#[]⟩] 31 (0, 0))] by rw [hW0]; exact (St.start w).alloc _ _ rfl)
  obtain ⟨N, hN⟩ : ∃ N, N = (place l t).2.1.num (place l t).1 (place l t).2.2 := ⟨_, rfl⟩
  obtain ⟨D, hD⟩ : ∃ D, D = (place l t).2.1.den := ⟨_, rfl⟩
  have hD0 : 0 < D := by rw [hD]; unfold Stg.den; omega
  rw [← hN] at h5 HAT ⊢
  rw [← hD] at h4 HAT ⊢
  have HW9 := Lib.hid (And.intro (Nat.lt_trans h4 W4_9) (Nat.lt_trans h5 W4_9))
  clear hN hD h3 h4 h5 hok htab hr
  go_enter Tryz.func17, Tryz.ntmps17
  go_wp2_with fail
  rw [← hW0]
  clear hW0
  (with_reducible refine (HCK.out W0 HST0.out.below).mono ?_)
  rintro e w1 ⟨rfl, hb1⟩
  have HST1 := Lib.hid (HST0.out.call hb1)
  clear hb1
  go_wp2_with fail
  (with_reducible refine (HLN.out w1 HST1.out.below).mono ?_)
  rintro e w2 ⟨rfl, hb2⟩
  have HST2 := Lib.hid (HST1.out.call hb2)
  clear hb2
  go_wp2_with fail
  (with_reducible refine (HNL.out w2 HST2.out.below).mono ?_)
  rintro e w3 ⟨P, rfl, hP, hL, hb3⟩
  have HST3 := Lib.hid (HST2.out.call hb3)
  have HA := Lib.hid (HAT.out w3 P hL)
  clear hb3 hL hP
  go_wp2_with fail
  (with_reducible refine HA.out.mono ?_)
  rintro e w4 ⟨A1, c1, l1, A2, c2, l2, rfl, h1, h2, hb4⟩
  have hST4 := HST3.out.call hb4
  have HST4 := Lib.hid hST4
  have HR := Lib.hid (lRatio_any A1 A2 c1 c2 l1 l2 N D w4 h1 h2 (by have := small_len h1 HW9.out.2; omega) (by have := small_len h2 HW9.out.1; omega) hD0 (HT.out w4 hST4.below))
  clear hb4 h1 h2 hST4
  go_wp2_with fail
  (with_reducible refine HR.out.mono ?_)
  rintro e w8 ⟨rfl, hb8⟩
  have hST8 := HST4.out.call hb8
  have r0 := hST8.cell 0 0 rfl rfl
  have r1 := hST8.cell 0 1 rfl rfl
  have z0 := hST8.frozen 0 0 rfl
  have z1 := hST8.frozen 0 1 rfl
  have HFIN := Lib.hid ((hST8.below.setCell (p := ⟨w.heap.size, 0, none⟩) (Nat.le_refl _) (.string ⟨(ratS N D).1.toArray⟩)).setCell (p := ⟨w.heap.size, 1, none⟩) (Nat.le_refl _) (.string ⟨(ratS N D).2.toArray⟩))
  unfold ratV ratOf
  clear hb8 hST8
  go_wp2
  refine bodyPost_ret (v := .tuple #[ratOf (ratS N D), .int .i64 0]) ?_ rfl ⟨rfl, HFIN.out⟩
  simp [results, Tryz.results17, go_sem, r0, r1, ratOf]
-- ANY
set_option maxHeartbeats 2000000 in
set_option maxRecDepth 100000 in
theorem lArea_any (A : Option Addr) (c : Nat) (l : List (Int × Int × Int)) (t : Int) (w : World) (hr : Rd w 0 w.heap.size 3 A l.length (cells3 l)) (hl : l.length ≤ 9223372036854775807) (htl : t ≤ 9223372036854775807) (htab : Tab w.heap.size w) :
    Calls Tryz.prog 17 #[.slice A l.length c, .int .i64 t] w fun e w' => e = .returned (.tuple #[ratOf (areaP l t), .int .i64 (rngC l t)]) ∧ Below w.heap.size w w' := by
  have HCK := Lib.hid (fun (W : World) (hb : Below w.heap.size w W) => loadCheck_any A c l W (hr.old hb) hl)
  obtain ⟨W0, hW0⟩ : ∃ W0, W0 = w.alloc (.cells #[.string ⟨#[]⟩, .string ⟨#[]⟩] 31) := ⟨_, rfl⟩
  have HST0 := Lib.hid (show St w W0 [(w.heap.size, .cells #[.string ⟨#[]⟩, .string ⟨#[]⟩] 31 (0, 0))] by rw [hW0]; exact (St.start w).alloc _ _ rfl)
  by_cases hc : codeS l = 0
  · have hok := codeS_ok hc
    rw [hc] at HCK
    by_cases h0 : t < 0
    · have HV := Lib.hid (show ratOf (areaP l t) = .agg #[.string ⟨#[]⟩, .string ⟨#[]⟩] ∧ rngC l t = 9 by
        have e : rngC l t = 9 := by unfold rngC; rw [if_neg (by omega), if_pos h0]
        exact ⟨by unfold areaP; rw [if_pos (by omega)]; rfl, e⟩)
      have b1 : decide (t < 0) = true := by simpa using h0
      clear hok hc hr htab
      go_enter Tryz.func17, Tryz.ntmps17
      go_wp2_with fail
      rw [← hW0]
      clear hW0
      (with_reducible refine (HCK.out W0 HST0.out.below).mono ?_)
      rintro e w1 ⟨rfl, hb1⟩
      have hST1 := HST0.out.call hb1
      have r0 := hST1.cell 0 0 rfl rfl
      have r1 := hST1.cell 0 1 rfl rfl
      have z0 := hST1.frozen 0 0 rfl
      have z1 := hST1.frozen 0 1 rfl
      have HFIN := Lib.hid ((hST1.below.setCell (p := ⟨w.heap.size, 0, none⟩) (Nat.le_refl _) (.string ⟨#[]⟩)).setCell (p := ⟨w.heap.size, 1, none⟩) (Nat.le_refl _) (.string ⟨#[]⟩))
      clear hb1 hST1
      go_wp2
      refine bodyPost_ret (v := .tuple #[.agg #[.string ⟨#[]⟩, .string ⟨#[]⟩], .int .i64 9]) ?_ rfl ⟨by rw [HV.out.1, HV.out.2], HFIN.out⟩
      simp [results, Tryz.results17, go_sem, r0, r1]
    · by_cases h1 : lenS l < t
      · have HV := Lib.hid (show ratOf (areaP l t) = .agg #[.string ⟨#[]⟩, .string ⟨#[]⟩] ∧ rngC l t = 9 by
          have e : rngC l t = 9 := by unfold rngC; rw [if_neg (by omega), if_neg h0, if_pos h1]
          exact ⟨by unfold areaP; rw [if_pos (by omega)]; rfl, e⟩)
        have b1 : decide (t < 0) = false := by simpa using h0
        have b2 : decide (lenS l < t) = true := by simpa using h1
        have HLN := Lib.hid (fun (W : World) (hb : Below w.heap.size w W) => loadLength_any A c l W (hr.old hb) (by have := hok.le; omega) hok.ok)
        clear hok hc hr htab
        go_enter Tryz.func17, Tryz.ntmps17
        go_wp2_with fail
        rw [← hW0]
        clear hW0
        (with_reducible refine (HCK.out W0 HST0.out.below).mono ?_)
        rintro e w1 ⟨rfl, hb1⟩
        have HST1 := Lib.hid (HST0.out.call hb1)
        clear hb1
        go_wp2_with fail
        (with_reducible refine (HLN.out w1 HST1.out.below).mono ?_)
        rintro e w2 ⟨rfl, hb2⟩
        have hST1 := HST1.out.call hb2
        have r0 := hST1.cell 0 0 rfl rfl
        have r1 := hST1.cell 0 1 rfl rfl
        have z0 := hST1.frozen 0 0 rfl
        have z1 := hST1.frozen 0 1 rfl
        have HFIN := Lib.hid ((hST1.below.setCell (p := ⟨w.heap.size, 0, none⟩) (Nat.le_refl _) (.string ⟨#[]⟩)).setCell (p := ⟨w.heap.size, 1, none⟩) (Nat.le_refl _) (.string ⟨#[]⟩))
        clear hb2 hST1
        go_wp2
        refine bodyPost_ret (v := .tuple #[.agg #[.string ⟨#[]⟩, .string ⟨#[]⟩], .int .i64 9]) ?_ rfl ⟨by rw [HV.out.1, HV.out.2], HFIN.out⟩
        simp [results, Tryz.results17, go_sem, r0, r1]
      · obtain ⟨k, rfl⟩ : ∃ k : Nat, t = k := ⟨t.toNat, by omega⟩
        have e : rngC l k = 0 := rngC_ok hc (by omega) (by omega)
        refine (lArea_ok A c l k w hr hok (by omega) htab).mono ?_
        rintro e' w' ⟨rfl, hb⟩
        exact ⟨by unfold areaP; rw [if_neg (by omega), e]; rfl, hb⟩
  · have HV := Lib.hid (show ratOf (areaP l t) = .agg #[.string ⟨#[]⟩, .string ⟨#[]⟩] ∧ rngC l t = codeS l by
      have e : rngC l t = codeS l := by unfold rngC; rw [if_pos hc]
      exact ⟨by unfold areaP; rw [if_pos (by omega)]; rfl, e⟩)
    obtain ⟨cc, hcc⟩ : ∃ cc, cc = codeS l := ⟨_, rfl⟩
    rw [← hcc] at HCK HV hc
    have t1 : (cc != 0) = true := by simpa using hc
    clear hcc hr htab
    go_enter Tryz.func17, Tryz.ntmps17
    go_wp2_with fail
    rw [← hW0]
    clear hW0
    (with_reducible refine (HCK.out W0 HST0.out.below).mono ?_)
    rintro e w1 ⟨rfl, hb1⟩
    have hST1 := HST0.out.call hb1
    have r0 := hST1.cell 0 0 rfl rfl
    have r1 := hST1.cell 0 1 rfl rfl
    have z0 := hST1.frozen 0 0 rfl
    have z1 := hST1.frozen 0 1 rfl
    have HFIN := Lib.hid ((hST1.below.setCell (p := ⟨w.heap.size, 0, none⟩) (Nat.le_refl _) (.string ⟨#[]⟩)).setCell (p := ⟨w.heap.size, 1, none⟩) (Nat.le_refl _) (.string ⟨#[]⟩))
    clear hb1 hST1
    go_wp2
    refine bodyPost_ret (v := .tuple #[.agg #[.string ⟨#[]⟩, .string ⟨#[]⟩], .int .i64 cc]) ?_ rfl ⟨by rw [HV.out.1, HV.out.2], HFIN.out⟩
    simp [results, Tryz.results17, go_sem, r0, r1]
end Go.Proofs.YtepfmoaihhonlaaGreatDoor
