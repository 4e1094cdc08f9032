/- Package judge: a fraction as a ratio. -/
import Derived.Test.YtnpfdelklolchaaGreatDoorG17
import Derived.Test.YtnpfdelklolchaaGreatDoorG25
import Derived.Test.YtnpfdelklolchaaGreatDoorG0
import Derived.Test.YtnpfdelklolchaaGreatDoorG22
namespace Go.Proofs.YtnpfdelklolchaaGreatDoor
open Go Go.RowKit Go.Proofs

theorem low_le (b : Bool) {x y : Nat} (hy : 0 < y) : frN (mkRat (sg b x) y) ≤ x ∧ (mkRat (sg b x) y).den ≤ y := by
  obtain ⟨_, h2, h3⟩ := low_parts b (x := x) hy
  rw [h2, h3]
  exact ⟨Nat.div_le_self _ _, Nat.div_le_self _ _⟩
/-- box B holds two texts -/
def TBox (w : World) (B : Nat) (S1 S2 : ByteArray) : Prop := w.heap[B]? = some (.cells #[.string S1, .string S2] 24 (0, 0))
theorem TBox.facts {w : World} {B : Nat} {S1 S2 : ByteArray} (h : TBox w B S1 S2) : w.cell? ⟨B, 0, none⟩ = some (.string S1) ∧ w.cell? ⟨B, 1, none⟩ = some (.string S2) ∧ w.frozen? ⟨B, 0, none⟩ = false ∧ w.frozen? ⟨B, 1, none⟩ = false ∧ B < w.heap.size :=
  ⟨by rw [cellsAt h]; rfl, by rw [cellsAt h]; rfl, frozenAt h 0, frozenAt h 1, heap_lt h⟩
theorem TBox.on {w w' : World} {B : Nat} {S1 S2 : ByteArray} (h : TBox w B S1 S2) (hb : Below w.heap.size w w') : TBox w' B S1 S2 := (hb.block B (heap_lt h)).trans h
theorem TBox.set {w : World} {B : Nat} {S1 S2 T1 T2 : ByteArray} (h : TBox w B S1 S2) : TBox ((w.setCell ⟨B, 0, none⟩ (.string T1)).setCell ⟨B, 1, none⟩ (.string T2)) B T1 T2 := by
  unfold TBox at *
  simp [World.setCell, Array.getElem?_modify, h]
theorem TBox.far {w : World} {B B' : Nat} {S1 S2 : ByteArray} (h : TBox w B S1 S2) (hB : B ≠ B') (u : Value) (j : Nat) : TBox (w.setCell ⟨B', j, none⟩ u) B S1 S2 := (Below.heap_setCell w ⟨B', j, none⟩ u B hB).trans h
theorem fit_parts {q : Rat} {S1 S2 : ByteArray} (h1 : S1 = ⟨(Lib.decDigits (frN q)).toArray⟩) (h2 : S2 = ⟨(Lib.decDigits q.den).toArray⟩) : fitQ q = !(decide (2000 < S1.size) || decide (2000 < S2.size)) := by
  have e1 : S1.size = (ratQ q).1.length := by rw [h1]; rfl
  have e2 : S2.size = (ratQ q).2.length := by rw [h2]; rfl
  unfold fitQ
  rw [← e1, ← e2, Bool.eq_iff_iff]
  simp
theorem rtC_of {q : Rat} : (fitQ q = true → rtC q = 0 ∧ rtT q = txtQ q) ∧ (fitQ q = false → rtC q = 3 ∧ rtT q = ([], [])) := by
  unfold rtC rtT
  constructor <;> intro h <;> rw [h] <;> exact ⟨rfl, rfl⟩
theorem txt_pos {q : Rat} {S1 S2 : ByteArray} (h1 : S1 = ⟨(Lib.decDigits (frN q)).toArray⟩) (h2 : S2 = ⟨(Lib.decDigits q.den).toArray⟩) (hs : frS q = false) : ratOf (txtQ q) = .agg #[.string S1, .string S2] := by
  unfold txtQ; rw [hs, if_neg (by decide), h1, h2]; rfl
theorem txt_neg {q : Rat} {S1 S2 S3 : ByteArray} (h1 : S1 = ⟨(Lib.decDigits (frN q)).toArray⟩) (h2 : S2 = ⟨(Lib.decDigits q.den).toArray⟩) (h3 : S3 = ⟨#[45]⟩ ++ S1) (hs : frS q = true) : ratOf (txtQ q) = .agg #[.string S3, .string S2] := by
  unfold txtQ
  rw [hs, if_pos rfl, h3, h1, h2, show (⟨#[45]⟩ : ByteArray) = ⟨[45].toArray⟩ from rfl, bytes_cat]
  rfl
theorem natr_set3 {w : World} {B : Nat} {u0 u1 u2 a0 a1 a2 : Value} {A : Option Addr} {c x : Nat} {l : List Nat} (h : NatR w A c l x) (hX : w.heap[B]? = some (.cells #[u0, u1, u2] 73 (0, 0))) (hne : ∀ z, u0 ≠ .int .u64 z ∧ u1 ≠ .int .u64 z ∧ u2 ≠ .int .u64 z) : NatR (((w.setCell ⟨B, 0, none⟩ a0).setCell ⟨B, 1, none⟩ a1).setCell ⟨B, 2, none⟩ a2) A c l x :=
  h.keepB (fr3 (w := w) (B := B) a0 a1 a2).size (fun b o e hb hl => (fr3 (w := w) (B := B) a0 a1 a2).block b hb (h.apartB hX (by intro v hv z; have := hne z; simp at hv; rcases hv with rfl | rfl | rfl <;> simp [this]) b o e hl))
set_option maxHeartbeats 8000000 in
set_option maxRecDepth 100000 in
theorem jRatio_any (u : Value) (b : Bool) (x y n : Nat) (w : World) (h : JF w u b x y) (hx : x < W64 ^ n) (hy : y < W64 ^ n) (hn : n ≤ 1000) (hy0 : 0 < y) (htab : Tab w.heap.size w) :
    Calls Tryz.prog 34 #[u] w fun e w' => e = .returned (.tuple #[ratOf (rtT (mkRat (sg b x) y)), .int .i64 (rtC (mkRat (sg b x) y))]) ∧ Below w.heap.size w w' := by
  have hle := low_le b (x := x) hy0
  have HL := Lib.hid (fun W (hb : Below w.heap.size w W) => jLowest_any u b x y n W (h.on hb) hx hy (by omega) hy0)
  obtain ⟨q, hq⟩ : ∃ q, q = mkRat (sg b x) y := ⟨_, rfl⟩
  rw [← hq] at HL hle ⊢
  have hqx : frN q < W64 ^ n := by omega
  have hqy : q.den < W64 ^ n := by omega
  obtain ⟨A1, c1, l1, A2, c2, l2, rfl, h1, h2⟩ := h
  have HD := Lib.hid (fun W A c l z (hb : Below w.heap.size w W) (h : NatR W A c l z) (hz : z < W64 ^ n) => digits_any A c l z W h (by have := h.len hz; omega) ((htab.on hb).mono hb.size))
  obtain ⟨S1, hS1⟩ : ∃ S1 : ByteArray, S1 = ⟨(Lib.decDigits (frN q)).toArray⟩ := ⟨_, rfl⟩
  obtain ⟨S2, hS2⟩ : ∃ S2 : ByteArray, S2 = ⟨(Lib.decDigits q.den).toArray⟩ := ⟨_, rfl⟩
  have HD1 := Lib.hid (fun W A c l hb h => HD.out W A c l (frN q) hb h hqx)
  have HD2 := Lib.hid (fun W A c l hb h => HD.out W A c l q.den hb h hqy)
  rw [← hS1] at HD1
  rw [← hS2] at HD2
  obtain ⟨W0, hW0⟩ : ∃ W0, W0 = (w.alloc (.cells #[.bool b, .slice A1 l1.length c1, .slice A2 l2.length c2] 73)).alloc (.cells #[.string ⟨#[]⟩, .string ⟨#[]⟩] 24) := ⟨_, rfl⟩
  have HST0 := Lib.hid (show St w W0 [(w.heap.size, .cells #[.bool b, .slice A1 l1.length c1, .slice A2 l2.length c2] 73 (0, 0)), (w.heap.size + 1, .cells #[.string ⟨#[]⟩, .string ⟨#[]⟩] 24 (0, 0))] by rw [hW0]; exact ((St.start w).alloc _ _ rfl).alloc _ _ (by simp))
  have g0 := HST0.out.cell 0 0 rfl rfl
  have g1 := HST0.out.cell 0 1 rfl rfl
  have g2 := HST0.out.cell 0 2 rfl rfl
  have hz1 : S1.size ≤ 100000 := by
    have e : S1.size = (Lib.decDigits (frN q)).length := by rw [hS1]; rfl
    rw [e]
    obtain ⟨K, hK0, hK1⟩ : ∃ K : Nat, 20000 ≤ K ∧ K ≤ 100000 := ⟨20000, by omega, by omega⟩
    refine Nat.le_trans (dec_le (k := K) (by omega) (Nat.lt_of_lt_of_le hqx ?_)) hK1
    refine Nat.le_trans (Nat.pow_le_pow_left (show W64 ≤ 10 ^ 20 by unfold W64; omega) n) ?_
    rw [← Nat.pow_mul]
    exact Nat.pow_le_pow_right (by omega) (by omega)
  have hcl : ¬ 9223372036854775807 < 1 + S1.size := by omega
  have hcl2 : 1 + S1.size ≤ 9223372036854775807 := by omega
  have hcl3 : ¬ 9223372036854775807 < S1.size + 1 := by omega
  have HCF := Lib.hid (rtC_of (q := q))
  have HFIT := Lib.hid (fit_parts hS1 hS2)
  have HTP := Lib.hid (txt_pos hS1 hS2)
  have HTN := Lib.hid (fun S3 h3 => txt_neg hS1 hS2 (S3 := S3) h3)
  obtain ⟨sq, hsq⟩ : ∃ sq, sq = frS q := ⟨_, rfl⟩
  rw [← hsq] at HL HTP HTN
  obtain ⟨b1, hb1⟩ : ∃ b1, b1 = decide (2000 < S1.size) := ⟨_, rfl⟩
  obtain ⟨b2, hb2⟩ : ∃ b2, b2 = decide (2000 < S2.size) := ⟨_, rfl⟩
  rw [← hb1, ← hb2] at HFIT
  have t1 := hb1.symm
  have t2 := hb2.symm
  have t3 : decide ((2000 : Int) < (S1.size : Int)) = b1 := by rw [hb1, decide_eq_decide]; omega
  have t4 : decide ((2000 : Int) < (S2.size : Int)) = b2 := by rw [hb2, decide_eq_decide]; omega
  clear h1 h2 hx hy hle hqx hqy hS1 hS2 HD hb1 hb2 hsq hq htab
  go_enter Tryz.func34, Tryz.ntmps34
  go_wp2_with fail
  rw [← hW0]
  clear hW0
  go_wp2_with fail
  (with_reducible refine (HL.out _ HST0.out.below).mono ?_)
  rintro e w1 ⟨v, rfl, ⟨A3, c3, l3, A4, c4, l4, rfl, h3, h4⟩, hb1⟩
  have hST1 := HST0.out.call hb1
  have HX1 := Lib.hid (hST1.at 0 rfl)
  obtain ⟨W2, hW2⟩ : ∃ W2, W2 = ((w1.setCell ⟨w.heap.size, 0, none⟩ (.bool sq)).setCell ⟨w.heap.size, 1, none⟩ (.slice A3 l3.length c3)).setCell ⟨w.heap.size, 2, none⟩ (.slice A4 l4.length c4) := ⟨_, rfl⟩
  have HB2 := Lib.hid (show Below w.heap.size w W2 by rw [hW2]; exact ((hST1.below.setCell (p := ⟨w.heap.size, 0, none⟩) (Nat.le_refl _) _).setCell (p := ⟨w.heap.size, 1, none⟩) (Nat.le_refl _) _).setCell (p := ⟨w.heap.size, 2, none⟩) (Nat.le_refl _) _)
  have HT2 := Lib.hid (show TBox W2 (w.heap.size + 1) ⟨#[]⟩ ⟨#[]⟩ by rw [hW2]; exact (((show TBox w1 (w.heap.size + 1) ⟨#[]⟩ ⟨#[]⟩ from hST1.at 1 rfl).far (by omega) _ _).far (by omega) _ _).far (by omega) _ _)
  have z0 := hST1.frozen 0 0 rfl
  have z1 := hST1.frozen 0 1 rfl
  have z2 := hST1.frozen 0 2 rfl
  have g0 := hST1.cell 0 0 rfl rfl
  have g1 := hST1.cell 0 1 rfl rfl
  have g2 := hST1.cell 0 2 rfl rfl
  have hlt0 := hST1.lt 0 rfl
  have HN3 := Lib.hid (show NatR W2 A3 c3 l3 (frN q) by rw [hW2]; exact natr_set3 h3 HX1.out (by simp))
  have HN4 := Lib.hid (show NatR W2 A4 c4 l4 q.den by rw [hW2]; exact natr_set3 h4 HX1.out (by simp))
  have HBX := Lib.hid (show W2.heap[w.heap.size]? = some (.cells #[.bool sq, .slice A3 l3.length c3, .slice A4 l4.length c4] 73 (0, 0)) by rw [hW2]; simp [World.setCell, Array.getElem?_modify, HX1.out])
  have HCE := Lib.hid (show ∀ X, Below W2.heap.size W2 X → X.cell? ⟨w.heap.size, 0, none⟩ = some (.bool sq) ∧ X.cell? ⟨w.heap.size, 1, none⟩ = some (.slice A3 l3.length c3) ∧ X.cell? ⟨w.heap.size, 2, none⟩ = some (.slice A4 l4.length c4) from fun X hX => by
    have e := (hX.block _ (heap_lt HBX.out)).trans HBX.out
    exact ⟨by rw [cellsAt e]; rfl, by rw [cellsAt e]; rfl, by rw [cellsAt e]; rfl⟩)
  have HKS := Lib.hid (show ∀ X, Below W2.heap.size W2 X → (fun X => Below W2.heap.size W2 X ∧ X.cell? ⟨w.heap.size, 1, none⟩ = some (.slice A3 l3.length c3) ∧ X.cell? ⟨w.heap.size, 2, none⟩ = some (.slice A4 l4.length c4)) X from fun X hX => ⟨hX, (HCE.out X hX).2.1, (HCE.out X hX).2.2⟩)
  have HE1 := Lib.hid (fun W (hb : Below W2.heap.size W2 W) => HD1.out W A3 c3 l3 (below_next HB2.out hb) (HN3.out.on hb))
  have HE2 := Lib.hid (fun W (hb : Below W2.heap.size W2 W) => HD2.out W A4 c4 l4 (below_next HB2.out hb) (HN4.out.on hb))
  have HSW := Lib.hid (show w.heap.size + 1 < W2.heap.size from heap_lt HT2.out)
  clear hb1 hST1 h3 h4
  go_wp2_with fail
  rw [← hW2]
  clear hW2 g0 g1 g2 z0 z1 z2 hlt0
  obtain ⟨_, f1, f2⟩ := HKS.out W2 (Below.refl _ _)
  go_cut [4] from 14 (fun v wx => ∃ B, v = .pointer (some ⟨B, 0, none⟩) ∧ TBox wx B S1 S2 ∧ W2.heap.size ≤ B ∧ Below W2.heap.size W2 wx)
  case first =>
    go_region_held3 (fun X => Below W2.heap.size W2 X ∧ X.cell? ⟨w.heap.size, 1, none⟩ = some (.slice A3 l3.length c3) ∧ X.cell? ⟨w.heap.size, 2, none⟩ = some (.slice A4 l4.length c4))
      (first
        | exact HKS.out _ (Below.refl _ W2).drew
        | exact HKS.out _ ((Below.refl _ W2).alloc (Nat.le_refl _) _).drew
        | (go_split_ands; refine HKS.out _ (below_next ?_ hb7); assumption)
        | (go_split_ands; refine HKS.out _ (below_next ?_ hb8); assumption)
        | (go_split_ands; refine HKS.out _ (below_next ?_ ((Below.refl _ _).alloc (Nat.le_refl _) _)); assumption)
        | (go_split_ands; refine HKS.out _ (below_realloc (Z := .cells #[.string ⟨#[]⟩, .string ⟨#[]⟩] 24) ?_ (by omega)); assumption)
        | (go_split_ands; exact HKS.out _ ((Below.setCell (by assumption) (by show W2.heap.size ≤ _; first | exact Nat.le_refl _ | (dsimp only; omega) | omega) _).setCell (by show W2.heap.size ≤ _; first | exact Nat.le_refl _ | (dsimp only; omega) | omega) _)))
      (first
        | (go_at_call 81; (with_reducible refine (HE1.out _ ?_).mono ?_); (go_split_ands; assumption); rintro e w7 ⟨rfl, hb7⟩; have s7 : W2.heap.size ≤ w7.heap.size := (by first | exact hb7.size | exact Nat.le_trans (Nat.le_of_lt (by simp)) hb7.size | exact Nat.le_trans (Nat.le_succ _) hb7.size))
        | (go_at_call 81; (with_reducible refine (HE2.out _ ?_).mono ?_); (go_split_ands; assumption); rintro e w8 ⟨rfl, hb8⟩; have s8 : w7.heap.size ≤ w8.heap.size := (by first | exact hb8.size | exact Nat.le_trans (Nat.le_of_lt (by simp)) hb8.size | exact Nat.le_trans (Nat.le_succ _) hb8.size); (first | (have HBY := TBox.on (show TBox (w7.alloc (.cells #[.string ⟨#[]⟩, .string ⟨#[]⟩] 24)) w7.heap.size ⟨#[]⟩ ⟨#[]⟩ from alloc_at w7 _ _ rfl) hb8) | (have HBY := TBox.on (TBox.on (show TBox ((W2.alloc (.cells #[.string ⟨#[]⟩, .string ⟨#[]⟩] 24)).drew) W2.heap.size ⟨#[]⟩ ⟨#[]⟩ from alloc_at W2 _ _ rfl) hb7) hb8) | have HBY := True.intro); (try obtain ⟨q0, q1, z0, z1, hlt⟩ := HBY.facts)))
    all_goals go_wp2_with fail
    all_goals go_meet
    all_goals first
      | exact ⟨_, rfl, HBY.set, by first | exact Nat.le_refl _ | omega, by go_split_ands; assumption⟩
      | exact ⟨_, rfl, alloc_at _ _ _ rfl, by first | exact Nat.le_refl _ | omega, by go_split_ands; assumption⟩
  case rest =>
    obtain ⟨B, rfl, hv4, hB4, hbc⟩ := hcut
    obtain ⟨q0, q1, y0, y1, hltB⟩ := hv4.facts
    have hST := below_next HB2.out hbc
    obtain ⟨r0, r1, z0, z1, hl0⟩ := (HT2.out.on hbc).facts
    obtain ⟨g0, -, -⟩ := HCE.out wc hbc
    have hBw : w.heap.size + 1 < B := by have := HSW.out; omega
    have hne1 : ¬ B = w.heap.size := by omega
    have hne2 : ¬ B = w.heap.size + 1 := by omega
    have hne3 : ¬ w.heap.size = B := by omega
    have hne4 : ¬ w.heap.size + 1 = B := by omega
    have HFN := Lib.hid (fun x y => (hST.setCell (p := ⟨w.heap.size + 1, 0, none⟩) (by simp) x).setCell (p := ⟨w.heap.size + 1, 1, none⟩) (by simp) y)
    have HFN3 := Lib.hid (fun u x y => ((hST.setCell (p := ⟨B, 0, none⟩) (by simp only; omega) u).setCell (p := ⟨w.heap.size + 1, 0, none⟩) (by simp) x).setCell (p := ⟨w.heap.size + 1, 1, none⟩) (by simp) y)
    clear hbc hv4 hST f1 f2 hB4
    by_cases hbb : b1 = false ∧ b2 = false
    · obtain ⟨rfl, rfl⟩ := hbb
      have HR := Lib.hid (HCF.out.1 (by rw [HFIT.out]; rfl))
      cases sq with
      | false =>
        have HT := Lib.hid (HTP.out rfl)
        go_wp2
        refine bodyPost_ret (v := .tuple #[.agg #[.string S1, .string S2], .int .i64 0]) (by simp [results, Tryz.results34, go_sem, r0, r1]) rfl ⟨by rw [HR.out.1, HR.out.2, HT.out], HFN.out _ _⟩
      | true =>
        obtain ⟨S3, hS3⟩ : ∃ S3 : ByteArray, S3 = ⟨#[45]⟩ ++ S1 := ⟨_, rfl⟩
        have HT := Lib.hid (HTN.out S3 hS3 rfl)
        have hcat := hS3.symm
        clear hS3
        go_wp2
        refine bodyPost_ret (v := .tuple #[.agg #[.string S3, .string S2], .int .i64 0]) (by simp [results, Tryz.results34, go_sem, r0, r1]) rfl ⟨by rw [HR.out.1, HR.out.2, HT.out], HFN3.out _ _ _⟩
    · have HR := Lib.hid (HCF.out.2 (by rw [HFIT.out]; cases b1 <;> cases b2 <;> first | rfl | (exact absurd ⟨rfl, rfl⟩ hbb)))
      cases b1 with
      | true =>
        go_wp2
        refine bodyPost_ret (v := .tuple #[.agg #[.string ⟨#[]⟩, .string ⟨#[]⟩], .int .i64 3]) (by simp [results, Tryz.results34, go_sem, r0, r1]) rfl ⟨by rw [HR.out.1, HR.out.2]; rfl, HFN.out _ _⟩
      | false =>
        obtain rfl : b2 = true := by simpa using hbb
        go_wp2
        refine bodyPost_ret (v := .tuple #[.agg #[.string ⟨#[]⟩, .string ⟨#[]⟩], .int .i64 3]) (by simp [results, Tryz.results34, go_sem, r0, r1]) rfl ⟨by rw [HR.out.1, HR.out.2]; rfl, HFN.out _ _⟩
end Go.Proofs.YtnpfdelklolchaaGreatDoor
