import Derived.Test.YtlkjgjojahjapaaGreatDoorG1
import Derived.Test.YtlkjgjojahjapaaGreatDoorG0
import Derived.Test.YtlkjgjojahjapaaGreatDoorJChn
import Derived.Test.YtlkjgjojahjapaaGreatDoorG36
/- A pair of texts in a box. -/
namespace Go.Proofs.YtlkjgjojahjapaaGreatDoor
open Go Go.RowKit Go.Proofs

def Txt2 (W : World) (B : Nat) (S1 S2 : ByteArray) : Prop := W.heap[B]? = some (.cells #[.string S1, .string S2] 23 (0, 0))
theorem Txt2.on {w w' : World} {B : Nat} {S1 S2 : ByteArray} (h : Txt2 w B S1 S2) (hb : Below w.heap.size w w') : Txt2 w' B S1 S2 := (hb.block B (heap_lt h)).trans h
theorem Txt2.facts {w : World} {B : Nat} {S1 S2 : ByteArray} (h : Txt2 w B S1 S2) : w.cell? ⟨B, 0, none⟩ = some (.string S1) ∧ w.cell? ⟨B, 1, none⟩ = some (.string S2) ∧ w.frozen? ⟨B, 0, none⟩ = false ∧ w.frozen? ⟨B, 1, none⟩ = false ∧ B < w.heap.size :=
  ⟨by rw [cellsAt h]; rfl, by rw [cellsAt h]; rfl, frozenAt h 0, frozenAt h 1, heap_lt h⟩
theorem txt2_set {W : World} {B : Nat} {a b x y : Value} {t : TypeId} (h : W.heap[B]? = some (.cells #[a, b] t (0, 0))) : ((W.setCell ⟨B, 0, none⟩ x).setCell ⟨B, 1, none⟩ y).heap[B]? = some (.cells #[x, y] t (0, 0)) := by
  simp [World.setCell, Array.getElem?_modify, h]
theorem txt2_far {W : World} {B B' : Nat} {x y : Value} (h : B' ≠ B) : ((W.setCell ⟨B, 0, none⟩ x).setCell ⟨B, 1, none⟩ y).heap[B']? = W.heap[B']? :=
  (Below.heap_setCell (W.setCell ⟨B, 0, none⟩ x) ⟨B, 1, none⟩ y B' h).trans (Below.heap_setCell W ⟨B, 0, none⟩ x B' h)
theorem txt2_below {w W : World} {B : Nat} (h : Below w.heap.size w W) (hB : w.heap.size ≤ B) (x y : Value) : Below w.heap.size w ((W.setCell ⟨B, 0, none⟩ x).setCell ⟨B, 1, none⟩ y) := (h.setCell (p := ⟨B, 0, none⟩) hB x).setCell (p := ⟨B, 1, none⟩) hB y
theorem fr2 {w : World} {B : Nat} (u v : Value) : Fr (fun i => i = B) w ((w.setCell ⟨B, 0, none⟩ u).setCell ⟨B, 1, none⟩ v) :=
  ((Fr.refl (fun i => i = B) w).setCell (fun _ => rfl) _).setCell (fun _ => rfl) _
end Go.Proofs.YtlkjgjojahjapaaGreatDoor

/- Package judge: Errors. -/
namespace Go.Proofs.YtlkjgjojahjapaaGreatDoor
open Go Go.RowKit Go.Proofs

def ratZ : Value := .agg #[.string ⟨#[]⟩, .string ⟨#[]⟩]
/-- what Errors returns -/
def ersV (L : List (ByteArray × ByteArray)) (p q r0 r1 : Rat) (n : Int) : Value :=
  if trCode L p q ≠ 0 then .tuple #[ratZ, ratZ, .int .i64 (trCode L p q)] else
  if n < 0 ∨ 40 < n then .tuple #[ratZ, ratZ, .int .i64 9] else
  if rtC (errQ p q r0 r1 p 2 n.toNat) ≠ 0 then .tuple #[ratZ, ratZ, .int .i64 (rtC (errQ p q r0 r1 p 2 n.toNat))] else
  if rtC (errQ p q r0 r1 q 1 n.toNat) ≠ 0 then .tuple #[ratZ, ratZ, .int .i64 (rtC (errQ p q r0 r1 q 1 n.toNat))] else
  .tuple #[ratOf (rtT (errQ p q r0 r1 p 2 n.toNat)), ratOf (rtT (errQ p q r0 r1 q 1 n.toNat)), .int .i64 0]
section
variable {L : List (ByteArray × ByteArray)} {p q r0 r1 : Rat} {n : Int}
theorem ersV_tr (h : trCode L p q ≠ 0) : ersV L p q r0 r1 n = .tuple #[ratZ, ratZ, .int .i64 (trCode L p q)] := by unfold ersV; rw [if_pos h]
theorem ersV_rng (h : trCode L p q = 0) (h2 : n < 0 ∨ 40 < n) : ersV L p q r0 r1 n = .tuple #[ratZ, ratZ, .int .i64 9] := by unfold ersV; rw [if_neg (by omega), if_pos h2]
theorem ersV_one (h : trCode L p q = 0) (h2 : ¬ (n < 0 ∨ 40 < n)) (h3 : rtC (errQ p q r0 r1 p 2 n.toNat) ≠ 0) : ersV L p q r0 r1 n = .tuple #[ratZ, ratZ, .int .i64 (rtC (errQ p q r0 r1 p 2 n.toNat))] := by unfold ersV; rw [if_neg (by omega), if_neg h2, if_pos h3]
theorem ersV_two (h : trCode L p q = 0) (h2 : ¬ (n < 0 ∨ 40 < n)) (h3 : rtC (errQ p q r0 r1 p 2 n.toNat) = 0) (h4 : rtC (errQ p q r0 r1 q 1 n.toNat) ≠ 0) : ersV L p q r0 r1 n = .tuple #[ratZ, ratZ, .int .i64 (rtC (errQ p q r0 r1 q 1 n.toNat))] := by unfold ersV; rw [if_neg (by omega), if_neg h2, if_neg (by omega), if_pos h4]
theorem ersV_ok (h : trCode L p q = 0) (h2 : ¬ (n < 0 ∨ 40 < n)) (h3 : rtC (errQ p q r0 r1 p 2 n.toNat) = 0) (h4 : rtC (errQ p q r0 r1 q 1 n.toNat) = 0) : ersV L p q r0 r1 n = .tuple #[ratOf (rtT (errQ p q r0 r1 p 2 n.toNat)), ratOf (rtT (errQ p q r0 r1 q 1 n.toNat)), .int .i64 0] := by unfold ersV; rw [if_neg (by omega), if_neg h2, if_neg (by omega), if_neg (by omega)]
end
theorem NatR.frT {w w' : World} {b : Nat} {S1 S2 : ByteArray} {A : Option Addr} {c x : Nat} {l : List Nat} (h : NatR w A c l x) (hb : Txt2 w b S1 S2) (hf : Fr (fun i => i = b) w w') : NatR w' A c l x :=
  h.keepB hf.size fun b' o e hlt hl => hf.block b' hlt (h.apartB hb (by intro v hv z; simp at hv; rcases hv with rfl | rfl <;> simp) b' o e hl)
theorem JAt.frT {w w' : World} {B o x y b : Nat} {S1 S2 : ByteArray} (h : JAt w B o x y) (hb : Txt2 w b S1 S2) (hne : B ≠ b) (hf : Fr (fun i => i = b) w w') : JAt w' B o x y := by
  obtain ⟨cs, A1, c1, l1, A2, c2, l2, h0, h1, h2, h3, h4, h5⟩ := h
  exact ⟨cs, A1, c1, l1, A2, c2, l2, (hf.block B (heap_lt h0) hne).trans h0, h1, h2, h3, h4.frT hb hf, h5.frT hb hf⟩
theorem TrR.frT {w w' : World} {B b : Nat} {p q r0 r1 : Rat} {S1 S2 : ByteArray} (h : TrR w B p q r0 r1) (hb : Txt2 w b S1 S2) (hne : B ≠ b) (hf : Fr (fun i => i = b) w w') : TrR w' B p q r0 r1 :=
  ⟨h.p0.frT hb hne hf, h.p1.frT hb hne hf, h.k0.frT hb hne hf, h.k1.frT hb hne hf, h.bad.frT hb hne hf, h.good.frT hb hne hf⟩
theorem jq_err (p q r0 r1 x : Rat) (v : Int) (N : Nat) (W : World) (u : Value) (hx : frN x ≤ x.den) (hd : x.den < 1000000) (hN : N ≤ 40) (hv : v = 1 ∨ v = 2) (h : JF W u false (errW (verN p q r0 r1) v (frN x) (x.den - frN x) x.den N) (x.den ^ N)) : JQ W u (errQ p q r0 r1 x v N) 41 := by
  have h1 : x.den ^ N < W64 ^ 41 := Nat.lt_of_le_of_lt (Nat.pow_le_pow_left (show x.den ≤ W64 by unfold W64; omega) N) (Nat.pow_lt_pow_right (by unfold W64; omega) (by omega))
  have h2 := err_le (verN p q r0 r1) (verN_one p q r0 r1) v hv (frN x) (x.den - frN x) N
  rw [show frN x + (x.den - frN x) = x.den by omega] at h2
  exact ⟨false, _, _, h, rfl, Nat.lt_of_le_of_lt h2 h1, h1, Nat.pow_pos x.den_pos⟩
set_option maxHeartbeats 8000000 in
set_option maxRecDepth 100000 in
theorem jErrors_any (S0 S1 S2 S3 S4 S5 S6 S7 : ByteArray) (n : Int) (w : World) (z0 : S0.size ≤ 9223372036854775800) (z1 : S1.size ≤ 9223372036854775800) (z2 : S2.size ≤ 9223372036854775800) (z3 : S3.size ≤ 9223372036854775800) (z4 : S4.size ≤ 9223372036854775800) (z5 : S5.size ≤ 9223372036854775800) (z6 : S6.size ≤ 9223372036854775800) (z7 : S7.size ≤ 9223372036854775800) (htab : Tab w.heap.size w) :
    Calls Tryz.prog 7 #[.agg #[.string S0, .string S1, .string S2, .string S3, .string S4, .string S5, .string S6, .string S7], .int .i64 n] w fun e w' => e = .returned (ersV (TL S0 S1 S2 S3 S4 S5 S6 S7) (prQ (S0, S1)) (prQ (S2, S3)) (prQ (S4, S5)) (prQ (S6, S7)) n) ∧ Below w.heap.size w w' := by
  obtain ⟨L, hL⟩ : ∃ L, L = TL S0 S1 S2 S3 S4 S5 S6 S7 := ⟨_, rfl⟩
  obtain ⟨W0, hW0⟩ : ∃ W0, W0 = ((w.alloc (.cells #[.string S0, .string S1, .string S2, .string S3, .string S4, .string S5, .string S6, .string S7] 25)).alloc (.cells #[.string ⟨#[]⟩, .string ⟨#[]⟩] 23)).alloc (.cells #[.string ⟨#[]⟩, .string ⟨#[]⟩] 23) := ⟨_, rfl⟩
  have HST0 := Lib.hid (show St w W0 [(w.heap.size, .cells #[.string S0, .string S1, .string S2, .string S3, .string S4, .string S5, .string S6, .string S7] 25 (0, 0)), (w.heap.size + 1, .cells #[.string ⟨#[]⟩, .string ⟨#[]⟩] 23 (0, 0)), (w.heap.size + 2, .cells #[.string ⟨#[]⟩, .string ⟨#[]⟩] 23 (0, 0))] by rw [hW0]; exact (((St.start w).alloc _ _ rfl).alloc _ _ (by simp)).alloc _ _ (by simp))
  have HT1 := Lib.hid (show Txt2 W0 (w.heap.size + 1) ⟨#[]⟩ ⟨#[]⟩ from HST0.out.at 1 rfl)
  have HT2 := Lib.hid (show Txt2 W0 (w.heap.size + 2) ⟨#[]⟩ ⟨#[]⟩ from HST0.out.at 2 rfl)
  have HTAB := Lib.hid (fun W (hW : Below w.heap.size w W) => (htab.on hW).mono hW.size)
  have HCM := Lib.hid (fun W => jCompile_any S0 S1 S2 S3 S4 S5 S6 S7 W z0 z1 z2 z3 z4 z5 z6 z7)
  rw [show [(S0, S1), (S2, S3), (S4, S5), (S6, S7)] = L from hL.symm] at HCM
  rw [← hL]
  obtain ⟨p, hp⟩ : ∃ q, q = prQ (S0, S1) := ⟨_, rfl⟩
  obtain ⟨q, hq⟩ : ∃ r, r = prQ (S2, S3) := ⟨_, rfl⟩
  obtain ⟨r0, hr0⟩ : ∃ q, q = prQ (S4, S5) := ⟨_, rfl⟩
  obtain ⟨r1, hr1⟩ : ∃ q, q = prQ (S6, S7) := ⟨_, rfl⟩
  rw [← hp, ← hq, ← hr0, ← hr1] at HCM ⊢
  have HC1 := Lib.hid (ersV_tr (L := L) (p := p) (q := q) (r0 := r0) (r1 := r1) (n := n))
  have HC2 := Lib.hid (ersV_rng (L := L) (p := p) (q := q) (r0 := r0) (r1 := r1) (n := n))
  have HC3 := Lib.hid (ersV_one (L := L) (p := p) (q := q) (r0 := r0) (r1 := r1) (n := n))
  have HC4 := Lib.hid (ersV_two (L := L) (p := p) (q := q) (r0 := r0) (r1 := r1) (n := n))
  have HC5 := Lib.hid (ersV_ok (L := L) (p := p) (q := q) (r0 := r0) (r1 := r1) (n := n))
  obtain ⟨C, hC⟩ : ∃ c, c = trCode L p q := ⟨_, rfl⟩
  obtain ⟨E, hE⟩ : ∃ c, c = ersV L p q r0 r1 n := ⟨_, rfl⟩
  unfold CompPost at HCM
  rw [← hC] at HCM HC1 HC2 HC3 HC4 HC5
  rw [← hE] at HC1 HC2 HC3 HC4 HC5 ⊢
  have HIN := Lib.hid (fun W => jInside_any n 0 40 W)
  have p0 : W0.cell? ⟨w.heap.size, 0, none⟩ = some (.string S0) := HST0.out.cell 0 0 rfl rfl
  have p1 : W0.cell? ⟨w.heap.size, 1, none⟩ = some (.string S1) := HST0.out.cell 0 1 rfl rfl
  have p2 : W0.cell? ⟨w.heap.size, 2, none⟩ = some (.string S2) := HST0.out.cell 0 2 rfl rfl
  have p3 : W0.cell? ⟨w.heap.size, 3, none⟩ = some (.string S3) := HST0.out.cell 0 3 rfl rfl
  have p4 : W0.cell? ⟨w.heap.size, 4, none⟩ = some (.string S4) := HST0.out.cell 0 4 rfl rfl
  have p5 : W0.cell? ⟨w.heap.size, 5, none⟩ = some (.string S5) := HST0.out.cell 0 5 rfl rfl
  have p6 : W0.cell? ⟨w.heap.size, 6, none⟩ = some (.string S6) := HST0.out.cell 0 6 rfl rfl
  have p7 : W0.cell? ⟨w.heap.size, 7, none⟩ = some (.string S7) := HST0.out.cell 0 7 rfl rfl
  clear hL hp hq hr0 hr1 hC hE z0 z1 z2 z3 z4 z5 z6 z7 htab
  go_enter Tryz.func7, Tryz.ntmps7
  go_upto_region 1 with fail
  rw [← hW0]
  clear hW0
  go_wp2_with fail
  (with_reducible refine (HCM.out _).mono ?_)
  clear p0 p1 p2 p3 p4 p5 p6 p7
  rintro e w1 (⟨hne, rfl, hb1⟩ | ⟨hz, B, rfl, hT, hok, hBl, hb1⟩)
  · have HB := Lib.hid (below_next HST0.out.below hb1)
    have HEV := Lib.hid (HC1.out hne)
    have t1 : (C != 0) = true := by rw [bne_iff_ne]; exact hne
    have hh1 := HT1.out.on hb1
    have hh2 := HT2.out.on hb1
    clear hne hb1
    obtain ⟨s0, s1, s2, s3, s4⟩ := (hh1).facts
    obtain ⟨o0, o1, o2, o3, o4⟩ := (hh2).facts
    have HFN := Lib.hid (fun a b c d => txt2_below (B := w.heap.size + 2) (txt2_below (B := w.heap.size + 1) HB.out (by omega) a b) (by omega) c d)
    go_wp2
    refine bodyPost_ret (v := .tuple #[.agg #[.string ⟨#[]⟩, .string ⟨#[]⟩], .agg #[.string ⟨#[]⟩, .string ⟨#[]⟩], .int .i64 C]) (by simp [results, Tryz.results7, go_sem, s0, s1, o0, o1]) rfl ⟨by rw [HEV.out]; rfl, HFN.out _ _ _ _⟩
  · have HB := Lib.hid (below_next HST0.out.below hb1)
    have HZ := Lib.hid hz
    have HT11 := Lib.hid (HT1.out.on hb1)
    have HT21 := Lib.hid (HT2.out.on hb1)
    by_cases hr : n < 0 ∨ 40 < n
    · have hin : (decide (0 ≤ n) && decide (n ≤ 40)) = false := by
        rw [Bool.eq_false_iff]; simp; omega
      rw [hin] at HIN
      have HEV := Lib.hid (HC2.out HZ.out hr)
      clear hr hin hT hok hBl hz hb1
      go_wp2_with fail
      (with_reducible refine (HIN.out _).mono ?_)
      rintro e wi ⟨rfl, hwi⟩
      have hwi' := hwi.symm
      subst hwi'
      obtain ⟨s0, s1, s2, s3, s4⟩ := (HT11.out).facts
      obtain ⟨o0, o1, o2, o3, o4⟩ := (HT21.out).facts
      have HFN := Lib.hid (fun a b c d => txt2_below (B := w.heap.size + 2) (txt2_below (B := w.heap.size + 1) HB.out (by omega) a b) (by omega) c d)
      go_wp2
      refine bodyPost_ret (v := .tuple #[.agg #[.string ⟨#[]⟩, .string ⟨#[]⟩], .agg #[.string ⟨#[]⟩, .string ⟨#[]⟩], .int .i64 9]) (by simp [results, Tryz.results7, go_sem, s0, s1, o0, o1]) rfl ⟨by rw [HEV.out]; rfl, HFN.out _ _ _ _⟩
    · have hin : (decide (0 ≤ n) && decide (n ≤ 40)) = true := by
        rw [Bool.and_eq_true, decide_eq_true_eq, decide_eq_true_eq]; omega
      rw [hin] at HIN
      obtain ⟨N, rfl⟩ : ∃ N : Nat, n = N := ⟨n.toNat, by omega⟩
      have HC3 := Lib.hid (HC3.out HZ.out hr)
      have HC4 := Lib.hid (HC4.out HZ.out hr)
      have HC5 := Lib.hid (HC5.out HZ.out hr)
      rw [Int.toNat_natCast] at HC3 HC4 HC5
      have hN : N ≤ 40 := by omega
      have HTR := Lib.hid hT
      obtain ⟨A1, c1, l1, A2, c2, l2, hk1, n1, n2⟩ := hT.p0.get
      have HJ1 := Lib.hid (jChance_any B (.agg #[.bool false, .slice A1 l1.length c1, .slice A2 l2.length c2]) (frN p) p.den N 2 p q r0 r1 w1 hT hok (jf_mk n1 n2) (by have := hok.g.p1; omega) p.den_pos hok.s.p0 hN (.inr rfl))
      have HJ2 := Lib.hid (fun W A3 A4 c3 c4 l3 l4 (hW : TrR W B p q r0 r1) (n3 : NatR W A3 c3 l3 (frN q)) (n4 : NatR W A4 c4 l4 q.den) => jChance_any B (.agg #[.bool false, .slice A3 l3.length c3, .slice A4 l4.length c4]) (frN q) q.den N 1 p q r0 r1 W hW hok (jf_mk n3 n4) (by have := hok.g.q1; omega) q.den_pos hok.s.q0 hN (.inl rfl))
      have HQ1 := Lib.hid (fun W u => jq_err p q r0 r1 p 2 N W u (by have := hok.g.p1; omega) hok.s.p0 hN (.inr rfl))
      have HQ2 := Lib.hid (fun W u => jq_err p q r0 r1 q 1 N W u (by have := hok.g.q1; omega) hok.s.q0 hN (.inl rfl))
      obtain ⟨e1, he1⟩ : ∃ e, e = errQ p q r0 r1 p 2 N := ⟨_, rfl⟩
      obtain ⟨e2, he2⟩ : ∃ e, e = errQ p q r0 r1 q 1 N := ⟨_, rfl⟩
      rw [← he1] at HQ1 HC3 HC4 HC5
      rw [← he2] at HQ2 HC4 HC5
      obtain ⟨T1, T2, hT12⟩ : ∃ x y : ByteArray, ratOf (rtT e1) = .agg #[.string x, .string y] := ⟨_, _, rfl⟩
      obtain ⟨T3, T4, hT34⟩ : ∃ x y : ByteArray, ratOf (rtT e2) = .agg #[.string x, .string y] := ⟨_, _, rfl⟩
      rw [hT12, hT34] at HC5
      have HRA := Lib.hid (fun W u (h : JQ W u e1 41) (hb : Below w.heap.size w W) => jRatioQ 41 u e1 W (by omega) h (HTAB.out W hb))
      have HRB := Lib.hid (fun W u (h : JQ W u e2 41) (hb : Below w.heap.size w W) => jRatioQ 41 u e2 W (by omega) h (HTAB.out W hb))
      rw [hT12] at HRA
      rw [hT34] at HRB
      obtain ⟨ka, hka⟩ : ∃ k, k = rtC e1 := ⟨_, rfl⟩
      obtain ⟨kb, hkb⟩ : ∃ k, k = rtC e2 := ⟨_, rfl⟩
      rw [← hka] at HRA HC3 HC4 HC5
      rw [← hkb] at HRB HC4 HC5
      obtain ⟨g0, g1, g2⟩ := hk1 w1 (Below.refl _ _)
      have HBL := Lib.hid (show w.heap.size + 3 ≤ B by have := heap_lt HT2.out; omega)
      clear hr hin hT hok hBl hz hb1 hk1 n1 n2 he1 he2 hT12 hT34 hka hkb
      go_wp2_with fail
      (with_reducible refine (HIN.out _).mono ?_)
      rintro e wi ⟨rfl, hwi⟩
      have hwi' := hwi.symm
      subst hwi'
      go_wp2_with fail
      (with_reducible refine (HJ1.out).mono ?_)
      clear g0 g1 g2
      rintro e w2 ⟨v2, rfl, hj2, hb2⟩
      have HJQ := Lib.hid (HQ1.out w2 _ hj2)
      have HB2 := Lib.hid (below_next HB.out hb2)
      have HB12 := Lib.hid hb2
      clear hj2 hb2
      go_wp2_with fail
      (with_reducible refine (HRA.out w2 _ HJQ.out HB2.out).mono ?_)
      rintro e w3 ⟨rfl, hb3⟩
      have HB3 := Lib.hid (below_next HB2.out hb3)
      have hb13 := below_next HB12.out hb3
      have hs3 := HT11.out.on hb13
      have ho3 := HT21.out.on hb13
      obtain ⟨W4, hW4⟩ : ∃ W, W = (w3.setCell ⟨w.heap.size + 1, 0, none⟩ (.string T1)).setCell ⟨w.heap.size + 1, 1, none⟩ (.string T2) := ⟨_, rfl⟩
      have HS4 := Lib.hid (show Txt2 W4 (w.heap.size + 1) T1 T2 by rw [hW4]; exact txt2_set hs3)
      have HO4 := Lib.hid (show Txt2 W4 (w.heap.size + 2) ⟨#[]⟩ ⟨#[]⟩ by rw [hW4]; exact (txt2_far (by omega)).trans ho3)
      have HB4 := Lib.hid (show Below w.heap.size w W4 by rw [hW4]; exact txt2_below HB3.out (by omega) _ _)
      have HTR4 := Lib.hid (show TrR W4 B p q r0 r1 by rw [hW4]; exact (HTR.out.on hb13).frT hs3 (by have := HBL.out; omega) (fr2 _ _))
      obtain ⟨x0, x1, x2, x3, x4⟩ := hs3.facts
      clear hb3 hb13 hs3 ho3
      by_cases hka0 : ka = 0
      · have t2 : (ka != 0) = false := by rw [hka0]; rfl
        obtain ⟨A3, c3, l3, A4, c4, l4, hk2, n3, n4⟩ := HTR4.out.p1.get
        have HJ4 := Lib.hid (HJ2.out W4 A3 A4 c3 c4 l3 l4 HTR4.out n3 n4)
        obtain ⟨g0, g1, g2⟩ := hk2 W4 (Below.refl _ _)
        have HC4 := Lib.hid (HC4.out hka0)
        have HC5 := Lib.hid (HC5.out hka0)
        rw [hW4] at g0 g1 g2
        clear hk2 n3 n4 hka0
        go_wp2_with fail
        rw [← hW4]
        clear hW4 x0 x1 x2 x3 x4 g0 g1 g2
        (with_reducible refine (HJ4.out).mono ?_)
        rintro e w5 ⟨v5, rfl, hj5, hb5⟩
        have HJQ5 := Lib.hid (HQ2.out w5 _ hj5)
        have HB5 := Lib.hid (below_next HB4.out hb5)
        have HB45 := Lib.hid hb5
        clear hj5 hb5
        go_wp2_with fail
        (with_reducible refine (HRB.out w5 _ HJQ5.out HB5.out).mono ?_)
        rintro e w8 ⟨rfl, hb8⟩
        have HB8 := Lib.hid (below_next HB5.out hb8)
        have HS8 := Lib.hid (HS4.out.on (below_next HB45.out hb8))
        have HO8 := Lib.hid (HO4.out.on (below_next HB45.out hb8))
        obtain ⟨s0, s1, s2, s3, s4⟩ := HS8.out.facts
        obtain ⟨o0, o1, o2, o3, o4⟩ := HO8.out.facts
        clear hb8
        by_cases hkb0 : kb = 0
        · have HEV := Lib.hid (HC5.out hkb0)
          have t3 : (kb != 0) = false := by rw [hkb0]; rfl
          have HKS := Lib.hid (show ∀ X, Below w.heap.size w X → Txt2 X (w.heap.size + 1) T1 T2 → Txt2 X (w.heap.size + 2) T3 T4 → (fun X => Below w.heap.size w X ∧ X.cell? ⟨w.heap.size + 1, 0, none⟩ = some (.string T1) ∧ X.cell? ⟨w.heap.size + 1, 1, none⟩ = some (.string T2) ∧ X.cell? ⟨w.heap.size + 2, 0, none⟩ = some (.string T3) ∧ X.cell? ⟨w.heap.size + 2, 1, none⟩ = some (.string T4) ∧ Txt2 X (w.heap.size + 1) T1 T2 ∧ Txt2 X (w.heap.size + 2) T3 T4) X from fun X h1 h2 h3 => by
            obtain ⟨s0, s1, -, -, -⟩ := h2.facts
            obtain ⟨o0, o1, -, -, -⟩ := h3.facts
            exact ⟨h1, s0, s1, o0, o1, h2, h3⟩)
          obtain ⟨W9, hW9⟩ : ∃ W, W = (w8.setCell ⟨w.heap.size + 2, 0, none⟩ (.string T3)).setCell ⟨w.heap.size + 2, 1, none⟩ (.string T4) := ⟨_, rfl⟩
          have HS9 := Lib.hid (HKS.out W9 (by rw [hW9]; exact txt2_below HB8.out (by omega) _ _) (by rw [hW9]; exact (txt2_far (by omega)).trans HS8.out) (by rw [hW9]; exact txt2_set HO8.out))
          clear hkb0
          go_wp2_with fail
          rw [← hW9]
          clear hW9 s0 s1 s2 s3 s4 o0 o1 o2 o3 o4
          refine wp_region_noPanic ?_
          refine wp_region_held_drew (S := (fun X => Below w.heap.size w X ∧ X.cell? ⟨w.heap.size + 1, 0, none⟩ = some (.string T1) ∧ X.cell? ⟨w.heap.size + 1, 1, none⟩ = some (.string T2) ∧ X.cell? ⟨w.heap.size + 2, 0, none⟩ = some (.string T3) ∧ X.cell? ⟨w.heap.size + 2, 1, none⟩ = some (.string T4) ∧ Txt2 X (w.heap.size + 1) T1 T2 ∧ Txt2 X (w.heap.size + 2) T3 T4)) (by kernel_rfl) (HKS.out _ HS9.out.1.drew HS9.out.2.2.2.2.2.1 HS9.out.2.2.2.2.2.2) (fun HS0 => ?_)
          obtain ⟨X0, hX0⟩ : ∃ X, X = W9.drew := ⟨_, rfl⟩
          rw [← hX0] at HS0 ⊢
          clear hX0
          refine wpAnyH_take (i := 0) (v := ?_) rfl (by kernel_rfl) (by kernel_rfl) (by kernel_rfl) (fun _ _ _ h => h) (Or.inl ⟨by rfl, ?_⟩) HS0 ?_
          rotate_left
          · intro W hW; (try dsimp only at hW); go_simp; try (with_reducible rfl)
          (try simp only [List.getElem_toArray, List.getElem_cons_zero, Act.put, List.setIfInBounds_toArray, List.set_cons_zero, List.set_cons_succ])
          refine wpAnyH_take (i := 1) (v := ?_) rfl (by kernel_rfl) (by kernel_rfl) (by kernel_rfl) (fun _ _ _ h => h) (Or.inl ⟨by rfl, ?_⟩) HS0 ?_
          rotate_left
          · intro W hW; (try dsimp only at hW); go_simp; try (with_reducible rfl)
          (try simp only [List.getElem_toArray, List.getElem_cons_succ, List.getElem_cons_zero, Act.put, List.setIfInBounds_toArray, List.set_cons_zero, List.set_cons_succ])
          have HSX := Lib.hid HS0
          obtain ⟨s0, s1, s2, s3, s4⟩ := HSX.out.2.2.2.2.2.1.facts
          obtain ⟨X1, hY⟩ : ∃ Y, Y = (X0.setCell ⟨w.heap.size + 1, 0, none⟩ (.string T1)).setCell ⟨w.heap.size + 1, 1, none⟩ (.string T2) := ⟨_, rfl⟩
          have HSY := HKS.out X1 (by rw [hY]; exact txt2_below HSX.out.1 (by omega) _ _) (by rw [hY]; exact txt2_set HSX.out.2.2.2.2.2.1) (by rw [hY]; exact (txt2_far (by omega)).trans HSX.out.2.2.2.2.2.2)
          clear HS0
          refine run_one (i := 2) (by kernel_rfl) rfl rfl ?_
          intro K hK
          go_simp
          rw [← hY]
          refine hK.out _ _ HSY ?_
          clear hK K hY HSX HSY s0 s1 s2 s3 s4
          intro HS0
          have HSX := Lib.hid HS0
          obtain ⟨s0, s1, s2, s3, s4⟩ := HSX.out.2.2.2.2.2.2.facts
          obtain ⟨X2, hY⟩ : ∃ Y, Y = (X1.setCell ⟨w.heap.size + 2, 0, none⟩ (.string T3)).setCell ⟨w.heap.size + 2, 1, none⟩ (.string T4) := ⟨_, rfl⟩
          have HSY := HKS.out X2 (by rw [hY]; exact txt2_below HSX.out.1 (by omega) _ _) (by rw [hY]; exact (txt2_far (by omega)).trans HSX.out.2.2.2.2.2.1) (by rw [hY]; exact txt2_set HSX.out.2.2.2.2.2.2)
          clear HS0
          refine run_one (i := 3) (by kernel_rfl) rfl rfl ?_
          intro K hK
          go_simp
          rw [← hY]
          refine hK.out _ _ HSY ?_
          clear hK K hY HSX HSY s0 s1 s2 s3 s4
          intro HS0
          refine wpAnyH_take (i := 4) (v := ?_) rfl (by kernel_rfl) (by kernel_rfl) (by kernel_rfl) (fun _ _ _ h => h) (Or.inl ⟨by rfl, ?_⟩) HS0 ?_
          rotate_left
          · intro W hW; (try dsimp only at hW); go_simp; try (with_reducible rfl)
          (try simp only [List.getElem_toArray, List.getElem_cons_succ, List.getElem_cons_zero, Act.put, List.setIfInBounds_toArray, List.set_cons_zero, List.set_cons_succ])
          refine wpAnyH_done (by kernel_rfl) ?_ _
          refine NoPanic.normal ?_
          obtain ⟨s0, s1, s2, s3, s4⟩ := HS0.2.2.2.2.2.1.facts
          obtain ⟨o0, o1, o2, o3, o4⟩ := HS0.2.2.2.2.2.2.facts
          have HBL2 := Lib.hid HS0.1
          clear HS0
          go_wp2
          refine bodyPost_ret (v := .tuple #[.agg #[.string T1, .string T2], .agg #[.string T3, .string T4], .int .i64 0]) (by simp [results, Tryz.results7, go_sem, s0, s1, o0, o1]) rfl ⟨by rw [HEV.out], HBL2.out⟩
        · have t3 : (kb != 0) = true := by rw [bne_iff_ne]; exact hkb0
          have HEV := Lib.hid (HC4.out hkb0)
          obtain ⟨W9, hW9⟩ : ∃ W, W = (w8.setCell ⟨w.heap.size + 2, 0, none⟩ (.string T3)).setCell ⟨w.heap.size + 2, 1, none⟩ (.string T4) := ⟨_, rfl⟩
          have HB9 := Lib.hid (show Below w.heap.size w W9 by rw [hW9]; exact txt2_below HB8.out (by omega) _ _)
          have HO9 := Lib.hid (show Txt2 W9 (w.heap.size + 2) T3 T4 by rw [hW9]; exact txt2_set HO8.out)
          have HS9 := Lib.hid (show Txt2 W9 (w.heap.size + 1) T1 T2 by rw [hW9]; exact (txt2_far (by omega)).trans HS8.out)
          have HFN := Lib.hid (fun a b c d => txt2_below (B := w.heap.size + 2) (txt2_below (B := w.heap.size + 1) (HB9).out (by omega) a b) (by omega) c d)
          obtain ⟨p0, p1, p2, p3, p4⟩ := (HS9).out.facts
          obtain ⟨q0, q1, q2, q3, q4⟩ := (HO9).out.facts
          rw [hW9] at p0 p1 p2 p3 p4 q0 q1 q2 q3 q4
          go_wp2
          rw [← hW9]
          rw [← hW9] at p0 p1 p2 p3 p4 q0 q1 q2 q3 q4
          refine bodyPost_ret (v := .tuple #[.agg #[.string ⟨#[]⟩, .string ⟨#[]⟩], .agg #[.string ⟨#[]⟩, .string ⟨#[]⟩], .int .i64 kb]) (by simp [results, Tryz.results7, go_sem, p0, p1, q0, q1]) rfl ⟨by rw [HEV.out]; rfl, HFN.out _ _ _ _⟩
      · have t2 : (ka != 0) = true := by rw [bne_iff_ne]; exact hka0
        have HEV := Lib.hid (HC3.out hka0)
        have HFN := Lib.hid (fun a b c d => txt2_below (B := w.heap.size + 2) (txt2_below (B := w.heap.size + 1) (HB4).out (by omega) a b) (by omega) c d)
        obtain ⟨p0, p1, p2, p3, p4⟩ := (HS4).out.facts
        obtain ⟨q0, q1, q2, q3, q4⟩ := (HO4).out.facts
        rw [hW4] at p0 p1 p2 p3 p4 q0 q1 q2 q3 q4
        go_wp2
        rw [← hW4]
        rw [← hW4] at p0 p1 p2 p3 p4 q0 q1 q2 q3 q4
        refine bodyPost_ret (v := .tuple #[.agg #[.string ⟨#[]⟩, .string ⟨#[]⟩], .agg #[.string ⟨#[]⟩, .string ⟨#[]⟩], .int .i64 ka]) (by simp [results, Tryz.results7, go_sem, p0, p1, q0, q1]) rfl ⟨by rw [HEV.out]; rfl, HFN.out _ _ _ _⟩
end Go.Proofs.YtlkjgjojahjapaaGreatDoor
