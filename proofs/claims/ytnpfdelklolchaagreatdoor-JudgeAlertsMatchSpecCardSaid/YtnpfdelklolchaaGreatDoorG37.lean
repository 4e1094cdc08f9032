import Derived.Test.YtnpfdelklolchaaGreatDoorG36
import Derived.Test.YtnpfdelklolchaaGreatDoorG22
import Derived.Test.YtnpfdelklolchaaGreatDoorG27
import Derived.Test.YtnpfdelklolchaaGreatDoorG32
import Derived.Test.YtnpfdelklolchaaGreatDoorG33
/- The reference's Burn. -/
namespace Go.Proofs.YtnpfdelklolchaaGreatDoor
open Go Go.RowKit Go.Proofs

theorem sz_brn {g o bad all : Int} (hok : OkO g o) (r0 : 0 ≤ bad) (r1 : bad ≤ all) (r2 : all ≤ 1000000000000) : Sz 100000 (brnQ g o bad all) := by
  obtain ⟨g0, g1, g2⟩ : 0 ≤ g ∧ g < o ∧ o ≤ 1000000 := hok
  by_cases h0 : all = 0
  · have hq : brnQ g o bad all = ((0 : Int) : Rat) := by unfold brnQ; rw [if_pos h0]; rfl
    rw [hq]
    exact sz_mono (sz_int (n := 5) (z := 0) (by omega) (t4_5 (by decide))) (by omega)
  · rw [brnQ_eq h0 (by omega) g1]
    have hbn : bad.natAbs ≤ 10000000000000000 := by omega
    have han : all.toNat ≤ 10000000000000000 := by omega
    have hon : o.natAbs ≤ 10000000000000000 := by omega
    have hgn : (o - g).toNat ≤ 10000000000000000 := by omega
    exact sz_mono (sz_mul (sz_part (n := 5) (z := bad) (d := all.toNat) (by omega) (t4_5 hbn) (t4_5 han)) (sz_part (n := 5) (z := o) (d := (o - g).toNat) (by omega) (t4_5 hon) (t4_5 hgn))) (by omega)
set_option maxHeartbeats 8000000 in
set_option maxRecDepth 100000 in
theorem rBurn_any (g o bad all : Int) (w : World) (htab : Tab w.heap.size w) :
    Calls Tryz.prog 18 #[.agg #[.int .i64 g, .int .i64 o], .int .i64 bad, .int .i64 all] w (BrnPost g o bad all w) := by
  unfold BrnPost
  have HTAB := Lib.hid htab
  obtain ⟨W0, hW0⟩ : ∃ W0, W0 = (w.alloc (.cells #[.int .i64 g, .int .i64 o] 48)).alloc (.cells #[.string ⟨#[]⟩, .string ⟨#[]⟩] 24) := ⟨_, rfl⟩
  have hb0 : Below w.heap.size w W0 := by rw [hW0]; exact two_on _ _
  have HB := Lib.hid hb0
  have HT := Lib.hid (show Txt2 W0 (w.heap.size + 1) ⟨#[]⟩ ⟨#[]⟩ by rw [hW0]; exact alloc_at _ _ _ (by simp))
  have HO := Lib.hid (show W0.heap[w.heap.size]? = some (.cells #[.int .i64 g, .int .i64 o] 48 (0, 0)) by rw [hW0, Below.heap_alloc _ _ _ (by simp)]; exact alloc_at _ _ _ rfl)
  have HJ := Lib.hid (rObj_any g o W0)
  by_cases hok : OkO g o
  · have hc0 : cdO g o = 0 := if_pos hok
    rw [hc0] at HJ
    by_cases hr : 0 ≤ bad ∧ bad ≤ all ∧ all ≤ 1000000000000
    · obtain ⟨r0, r1, r2⟩ := hr
      have hn0 : ¬ bad < 0 := by omega
      have hn1 : ¬ all < bad := by omega
      have hn2 : ¬ (1000000000000 : Int) < all := by omega
      have hbk : brnOk g o bad all := ⟨hok, r0, r1, r2⟩
      have HV := Lib.hid (show brnC g o bad all = rtC (brnQ g o bad all) ∧ brnT g o bad all = rtT (brnQ g o bad all) from ⟨if_pos hbk, if_pos hbk⟩)
      have HBU := Lib.hid (fun W => rburn_any g o bad all W hok r0 r1 r2)
      have HSZ := Lib.hid (sz_brn hok r0 r1 r2)
      obtain ⟨S1, S2, hS⟩ : ∃ S1 S2 : ByteArray, ratOf (rtT (brnQ g o bad all)) = .agg #[.string S1, .string S2] := ⟨_, _, rfl⟩
      obtain ⟨rc, hrc⟩ : ∃ z, z = rtC (brnQ g o bad all) := ⟨_, rfl⟩
      have HS := Lib.hid hS
      have HRC := Lib.hid hrc
      clear hc0 hb0 htab hbk hok hS hrc
      go_enter Tryz.func18, Tryz.ntmps18
      go_wp2_with fail
      rw [← hW0]
      clear hW0
      (with_reducible refine (HJ.out).mono ?_)
      rintro e w1 ⟨rfl, hb1⟩
      have HB1 := Lib.hid (below_next HB.out hb1)
      have HT1 := Lib.hid (HT.out.on hb1)
      have ho1 := (hb1.block _ (heap_lt HO.out)).trans HO.out
      have k0 : w1.cell? ⟨w.heap.size, 0, none⟩ = some (.int .i64 g) := by rw [cellsAt ho1]; rfl
      have k1 : w1.cell? ⟨w.heap.size, 1, none⟩ = some (.int .i64 o) := by rw [cellsAt ho1]; rfl
      clear hb1 ho1
      go_wp2_with fail
      (with_reducible refine (HBU.out w1).mono ?_)
      rintro e w4 ⟨v4, rfl, hv4, hb4⟩
      have HB4 := Lib.hid (below_next HB1.out hb4)
      have HT4 := Lib.hid (HT1.out.on hb4)
      have hrt := rResult_any v4 _ w4 hv4 HSZ.out ((HTAB.out.on HB4.out).mono HB4.out.size)
      rw [HS.out, ← HRC.out] at hrt
      have HRT := Lib.hid hrt
      clear hv4 hb4 hrt k0 k1
      go_wp2_with fail
      (with_reducible refine (HRT.out).mono ?_)
      rintro e w5 ⟨rfl, hb5⟩
      have HB5 := Lib.hid (below_next HB4.out hb5)
      have ht5 := HT4.out.on hb5
      obtain ⟨W9, hW9⟩ : ∃ W, W = (w5.setCell ⟨w.heap.size + 1, 0, none⟩ (.string S1)).setCell ⟨w.heap.size + 1, 1, none⟩ (.string S2) := ⟨_, rfl⟩
      have HT9 := Lib.hid (show Txt2 W9 (w.heap.size + 1) S1 S2 by rw [hW9]; exact txt2_set ht5)
      have HB9 := Lib.hid (show Below w.heap.size w W9 by rw [hW9]; exact txt2_below HB5.out (by omega) _ _)
      obtain ⟨s0, s1, s2, s3, s4⟩ := ht5.facts
      clear hb5 ht5
      go_wp2_with fail
      rw [← hW9]
      clear hW9 s0 s1 s2 s3 s4
      obtain ⟨q0, q1, q2, q3, q4⟩ := HT9.out.facts
      refine bodyPost_ret (v := .tuple #[.agg #[.string S1, .string S2], .int .i64 rc]) (by simp [results, Tryz.results18, go_sem, q0, q1, q4]) rfl ⟨by rw [HV.out.1, HV.out.2, HS.out, ← HRC.out], HB9.out⟩
    · have HV := Lib.hid (show brnC g o bad all = 9 ∧ brnT g o bad all = ([], []) from ⟨if_neg (fun h => hr h.2), if_neg (fun h => hr h.2)⟩)
      by_cases h1 : bad < 0
      · clear hc0 hb0 htab
        go_enter Tryz.func18, Tryz.ntmps18
        go_wp2_with fail
        rw [← hW0]
        clear hW0
        (with_reducible refine (HJ.out).mono ?_)
        rintro e w1 ⟨rfl, hb1⟩
        have HB1 := Lib.hid (below_next HB.out hb1)
        obtain ⟨s0, s1, s2, s3, s4⟩ := (HT.out.on hb1).facts
        have HFN := Lib.hid (fun a b => txt2_below (B := w.heap.size + 1) HB1.out (by omega) a b)
        clear hb1
        go_wp2_with fail
        refine bodyPost_ret (v := .tuple #[.agg #[.string ⟨#[]⟩, .string ⟨#[]⟩], .int .i64 9]) (by simp [results, Tryz.results18, go_sem, s0, s1, s4]) rfl ⟨by rw [HV.out.1, HV.out.2]; rfl, HFN.out _ _⟩
      · by_cases h2 : all < bad
        · clear hc0 hb0 htab
          go_enter Tryz.func18, Tryz.ntmps18
          go_wp2_with fail
          rw [← hW0]
          clear hW0
          (with_reducible refine (HJ.out).mono ?_)
          rintro e w1 ⟨rfl, hb1⟩
          have HB1 := Lib.hid (below_next HB.out hb1)
          obtain ⟨s0, s1, s2, s3, s4⟩ := (HT.out.on hb1).facts
          have HFN := Lib.hid (fun a b => txt2_below (B := w.heap.size + 1) HB1.out (by omega) a b)
          clear hb1
          go_wp2_with fail
          refine bodyPost_ret (v := .tuple #[.agg #[.string ⟨#[]⟩, .string ⟨#[]⟩], .int .i64 9]) (by simp [results, Tryz.results18, go_sem, s0, s1, s4]) rfl ⟨by rw [HV.out.1, HV.out.2]; rfl, HFN.out _ _⟩
        · have h3 : (1000000000000 : Int) < all := by omega
          clear hc0 hb0 htab
          go_enter Tryz.func18, Tryz.ntmps18
          go_wp2_with fail
          rw [← hW0]
          clear hW0
          (with_reducible refine (HJ.out).mono ?_)
          rintro e w1 ⟨rfl, hb1⟩
          have HB1 := Lib.hid (below_next HB.out hb1)
          obtain ⟨s0, s1, s2, s3, s4⟩ := (HT.out.on hb1).facts
          have HFN := Lib.hid (fun a b => txt2_below (B := w.heap.size + 1) HB1.out (by omega) a b)
          clear hb1
          go_wp2_with fail
          refine bodyPost_ret (v := .tuple #[.agg #[.string ⟨#[]⟩, .string ⟨#[]⟩], .int .i64 9]) (by simp [results, Tryz.results18, go_sem, s0, s1, s4]) rfl ⟨by rw [HV.out.1, HV.out.2]; rfl, HFN.out _ _⟩
  · have hc0 : cdO g o = 9 := if_neg hok
    rw [hc0] at HJ
    have HV := Lib.hid (show brnC g o bad all = 9 ∧ brnT g o bad all = ([], []) from ⟨if_neg (fun h => hok h.1), if_neg (fun h => hok h.1)⟩)
    clear hc0 hb0 htab
    go_enter Tryz.func18, Tryz.ntmps18
    go_wp2_with fail
    rw [← hW0]
    clear hW0
    (with_reducible refine (HJ.out).mono ?_)
    rintro e w1 ⟨rfl, hb1⟩
    have HB1 := Lib.hid (below_next HB.out hb1)
    obtain ⟨s0, s1, s2, s3, s4⟩ := (HT.out.on hb1).facts
    have HFN := Lib.hid (fun a b => txt2_below (B := w.heap.size + 1) HB1.out (by omega) a b)
    clear hb1
    go_wp2_with fail
    refine bodyPost_ret (v := .tuple #[.agg #[.string ⟨#[]⟩, .string ⟨#[]⟩], .int .i64 9]) (by simp [results, Tryz.results18, go_sem, s0, s1, s4]) rfl ⟨by rw [HV.out.1, HV.out.2]; rfl, HFN.out _ _⟩
end Go.Proofs.YtnpfdelklolchaaGreatDoor

/- JudgeAlertsMatchSpec: the law's walk. -/
namespace Go.Proofs.YtnpfdelklolchaaGreatDoor
open Go Go.RowKit Go.Proofs

theorem setTo_all {P : (Int × Int × Int) → Prop} {out : List (Int × Int × Int)} {t : Int} (h : ∀ x ∈ out, P x) (hp : ∀ x, P x → P (x.1, x.2.1, t)) : ∀ x ∈ setTo out t, P x := by
  intro x hx
  unfold setTo at hx
  split at hx
  · rename_i y hy
    rcases List.mem_or_eq_of_mem_set hx with h1 | h1
    · exact h x h1
    · rw [h1]; exact hp y (h y (List.mem_of_getElem? hy))
  · exact h x hx
/-- the times of an alert are a point's -/
def TmA (x : Int × Int × Int) : Prop := (0 ≤ x.2.1 ∧ x.2.1 ≤ 1000000000000) ∧ (0 ≤ x.2.2 ∧ x.2.2 ≤ 1000000000000)
theorem alPts_tm {l : List Pt} (ho : OkPts l) {k : Int} {b : Nat → Bool} {s : List (Int × Int × Int)} (h : ∀ x ∈ s, TmA x) : ∀ i, ∀ x ∈ (alPts k l b s i).2, TmA x
  | 0 => h
  | i + 1 => by
    have ih := alPts_tm ho h i (k := k) (b := b)
    cases hp : l[i]? with
    | none => rw [alPts]; simp only [hp]; exact ih
    | some p =>
      rw [alPts_step hp]
      have hk := ho.ok i p hp
      have ht : 0 ≤ p.1 ∧ p.1 ≤ 1000000000000 := ⟨hk.1, hk.2.1⟩
      unfold alStep
      cases b i with
      | false => exact ih
      | true =>
        simp only [if_true]
        cases (alPts k l b s i).1 with
        | true => exact setTo_all ih (fun x hx => ⟨hx.1, ht⟩)
        | false =>
          intro x hx
          have hx : x ∈ (alPts k l b s i).2 ++ [(k, p.1, p.1)] := hx
          rw [List.mem_append, List.mem_singleton] at hx
          rcases hx with hx | rfl
          · exact ih x hx
          · exact ⟨ht, ht⟩
theorem alRus_tm {g o : Int} {l : List Pt} (ho : OkPts l) {rs : List Ru} : ∀ k, ∀ x ∈ alRus g o l rs k, TmA x
  | 0 => fun x hx => by simp [alRus] at hx
  | k + 1 => by
    have ih := alRus_tm ho k (g := g) (o := o) (rs := rs)
    cases hr : rs[k]? with
    | none => rw [alRus]; simp only [hr]; exact ih
    | some r => rw [alRus_step hr]; exact alPts_tm ho ih l.length
/-- what both results have in common -/
def AlAs (g o : Int) (l : List Pt) (rs : List Ru) (l' : List Al) : Prop := (codeAl g o l rs ≠ 0 ∧ l' = []) ∨ (codeAl g o l rs = 0 ∧ (alRus g o l rs rs.length).Perm l' ∧ SrtOn ltA l' 0 l'.length)
theorem AlAs.one {g o : Int} {l : List Pt} {rs : List Ru} {l1 l2 : List Al} (h1 : AlAs g o l rs l1) (h2 : AlAs g o l rs l2) : l2 = l1 := by
  rcases h1 with ⟨c1, rfl⟩ | ⟨c1, p1, s1⟩
  · rcases h2 with ⟨_, rfl⟩ | ⟨c2, _⟩
    · rfl
    · exact absurd c2 c1
  · rcases h2 with ⟨c2, _⟩ | ⟨_, p2, s2⟩
    · exact absurd c1 c2
    · exact srt_one rfl p2 p1 (by rw [p2.length_eq]; exact s2) (by rw [p1.length_eq]; exact s1)
theorem codeAl_zero {g o : Int} {l : List Pt} {rs : List Ru} (h : codeAl g o l rs = 0) : OkPts l ∧ OkRus rs := by
  unfold codeAl at h
  by_cases hk : OkO g o
  · rw [if_pos hk] at h; exact codeA_zero h
  · rw [if_neg hk] at h; exact absurd h (by decide)
theorem AlAs.ok {g o : Int} {l : List Pt} {rs : List Ru} {l' : List Al} (h : AlAs g o l rs l') : l'.length ≤ 1000000 ∧ ∀ x ∈ l', I64al x := by
  rcases h with ⟨_, rfl⟩ | ⟨c, p, _⟩
  · exact ⟨by simp, fun x hx => by cases hx⟩
  · obtain ⟨hp, hr⟩ := codeAl_zero c
    have hd := AlDone.rus (g := g) (o := o) hp rs.length (Nat.le_refl _)
    have hle := hr.le
    refine ⟨by rw [← p.length_eq]; have := hd.len; omega, fun x hx => ?_⟩
    have hx2 := p.mem_iff.2 hx
    have h1 := hd.rule x hx2
    have h2 := alRus_tm (g := g) (o := o) (rs := rs) hp rs.length x hx2
    unfold TmA at h2
    unfold I64al I64
    omega
theorem alp_val {g o : Int} {l : List Pt} {rs : List Ru} {w w' : World} {e : Ending} (h : AlPost g o l rs w e w') :
    ∃ A cap l', e = .returned (.tuple #[.slice A l'.length cap, .int .i64 (codeAl g o l rs)]) ∧ RdA w' w.heap.size A l' ∧ AlAs g o l rs l' ∧ Below w.heap.size w w' := by
  rcases h with ⟨h0, rfl, hb⟩ | ⟨h0, A, cap, l', rfl, hr, hp, hs, hb⟩
  · exact ⟨none, 0, [], rfl, .inl ⟨rfl, rfl⟩, .inl ⟨h0, rfl⟩, hb⟩
  · exact ⟨A, cap, l', by rw [h0], hr, .inr ⟨h0, hp, hs⟩, hb⟩
theorem RowA.rd {w : World} {q : Nat} {l : List Al} (h : RowA w q l) : Rd w 0 w.heap.size 3 (some ⟨q, 0, none⟩) l.length (al3 l) :=
  ⟨al3_length l, fun _ => ⟨q, 0, rfl, Nat.zero_le _, h.lt, fun j u hj => by rw [Nat.zero_add]; exact h.get hj⟩⟩
theorem RdA.rd {w : World} {B : Nat} {A : Option Addr} {l : List Al} (h : RdA w B A l) : Rd w 0 w.heap.size 3 A l.length (al3 l) := by
  rcases h with ⟨rfl, rfl⟩ | ⟨q, rfl, _, hr⟩
  · exact ⟨rfl, fun h => absurd h (by simp)⟩
  · exact hr.rd
theorem RdA.on {w w' : World} {B : Nat} {A : Option Addr} {l : List Al} (h : RdA w B A l) (hb : Below w.heap.size w w') : RdA w' B A l := by
  rcases h with h | ⟨q, e, h1, hr⟩
  · exact .inl h
  · exact .inr ⟨q, e, h1, hr.on hb⟩
theorem RdA.ink {K base B : Nat} {w w' : World} {A : Option Addr} {l : List Al} (h : RdA w B A l) (hK : K < B) (hf : InkFr K base w w') : RdA w' B A l := by
  rcases h with h | ⟨q, e, h1, cur, h2, h3⟩
  · exact .inl h
  · exact .inr ⟨q, e, h1, cur, InkFr.keep hf h2 (by decide) (by omega), h3⟩
set_option maxHeartbeats 8000000 in
set_option maxRecDepth 100000 in
theorem lawAl_any (g o bad all : Int) (A B : Option Addr) (c d : Nat) (l : List Pt) (rs : List Ru) (w : World) (htab : Tab w.heap.size w)
    (hj : ∀ W, Below w.heap.size w W → Calls Tryz.prog 19 #[.agg #[.int .i64 g, .int .i64 o], .slice A l.length c, .slice B rs.length d] W (AlPost g o l rs W)) (hrr : ∀ W, Below w.heap.size w W → Calls Tryz.prog 20 #[.agg #[.int .i64 g, .int .i64 o], .slice A l.length c, .slice B rs.length d] W (AlPost g o l rs W)) :
    Calls Tryz.prog 5 #[.agg #[.int .i64 g, .int .i64 o], .int .i64 bad, .int .i64 all, .slice A l.length c, .slice B rs.length d] w fun e w' => e = .returned (.bool true) ∧ Below w.heap.size w w' := by
  have HH := Lib.hid (fun W (hW : Below w.heap.size w W) => halves_any W ((htab.on hW).mono hW.size))
  have HTB := Lib.hid htab
  have HJ1 := Lib.hid (fun W (hW : Below w.heap.size w W) => jBurn_any g o bad all W ((htab.on hW).mono hW.size))
  have HR1 := Lib.hid (fun W (hW : Below w.heap.size w W) => rBurn_any g o bad all W ((htab.on hW).mono hW.size))
  unfold BrnPost at HJ1 HR1
  have HJ2 := Lib.hid (fun W (hW : Below w.heap.size w W) => (hj W hW).mono fun e w' h => alp_val h)
  have HR2 := Lib.hid (fun W (hW : Below w.heap.size w W) => (hrr W hW).mono fun e w' h => alp_val h)
  obtain ⟨ec, hec⟩ : ∃ z, z = brnC g o bad all := ⟨_, rfl⟩
  rw [← hec] at HJ1 HR1
  obtain ⟨S1, S2, hS⟩ : ∃ S1 S2 : ByteArray, ratOf (brnT g o bad all) = .agg #[.string S1, .string S2] := ⟨_, _, rfl⟩
  rw [hS] at HJ1 HR1
  obtain ⟨ac, hac⟩ : ∃ z, z = codeAl g o l rs := ⟨_, rfl⟩
  have HAO := Lib.hid (fun l1 l2 => AlAs.one (g := g) (o := o) (l := l) (rs := rs) (l1 := l1) (l2 := l2))
  have HAK := Lib.hid (fun l1 => AlAs.ok (g := g) (o := o) (l := l) (rs := rs) (l' := l1))
  obtain ⟨AS, hAS⟩ : ∃ P, P = AlAs g o l rs := ⟨_, rfl⟩
  rw [← hac, ← hAS] at HJ2 HR2
  rw [← hAS] at HAO HAK
  obtain ⟨W0, hW0⟩ : ∃ W0, W0 = w.alloc (.cells #[.int .i64 g, .int .i64 o] 48) := ⟨_, rfl⟩
  have HB0 := Lib.hid (show Below w.heap.size w W0 by rw [hW0]; exact (Below.refl _ w).alloc (Nat.le_refl _) _)
  have HX0 := Lib.hid (show W0.heap[w.heap.size]? = some (.cells #[.int .i64 g, .int .i64 o] 48 (0, 0)) by rw [hW0]; exact alloc_at _ _ _ rfl)
  have HOB := Lib.hid (fun W (hW : Below W0.heap.size W0 W) => (show W.cell? ⟨w.heap.size, 0, none⟩ = some (.int .i64 g) ∧ W.cell? ⟨w.heap.size, 1, none⟩ = some (.int .i64 o) from obj_cells ((hW.block _ (heap_lt HX0.out)).trans HX0.out)))
  obtain ⟨k0, k1⟩ := HOB.out W0 (Below.refl _ _)
  rw [hW0] at k0 k1
  clear hec hS hac hAS htab hj hrr
  go_enter Tryz.func5, Tryz.ntmps5
  go_wp2_with fail
  rw [← hW0]
  rw [← hW0] at k0 k1
  clear hW0
  (with_reducible refine (HJ1.out _ HB0.out).mono ?_)
  rintro e w1 ⟨rfl, hb1⟩
  obtain ⟨W2, hW2⟩ : ∃ W2, W2 = w1.alloc (.cells #[.string S1, .string S2] 24) := ⟨_, rfl⟩
  have hb12 : Below w1.heap.size w1 W2 := by rw [hW2]; exact (Below.refl _ w1).alloc (Nat.le_refl _) _
  have HX2 := Lib.hid (show Txt2 W2 w1.heap.size S1 S2 by rw [hW2]; exact alloc_at _ _ _ rfl)
  have HB2 := Lib.hid (below_next hb1 hb12)
  clear k0 k1
  obtain ⟨k0, k1⟩ := HOB.out W2 HB2.out
  rw [hW2] at k0 k1
  clear hb1 hb12
  go_wp2_with fail
  rw [← hW2]
  obtain ⟨kr, hkr⟩ : ∃ B, B = w1.heap.size := ⟨_, rfl⟩
  rw [← hkr] at HX2 ⊢
  clear hW2 hkr k0 k1
  (with_reducible refine (HR1.out _ (below_next HB0.out HB2.out)).mono ?_)
  rintro e w3 ⟨rfl, hb3⟩
  obtain ⟨W4, hW4⟩ : ∃ W4, W4 = w3.alloc (.cells #[.string S1, .string S2] 24) := ⟨_, rfl⟩
  have hb34 : Below w3.heap.size w3 W4 := by rw [hW4]; exact (Below.refl _ w3).alloc (Nat.le_refl _) _
  have HX4 := Lib.hid (HX2.out.on (below_next hb3 hb34))
  have HY4 := Lib.hid (show Txt2 W4 w3.heap.size S1 S2 by rw [hW4]; exact alloc_at _ _ _ rfl)
  have HB4 := Lib.hid (below_next HB2.out (below_next hb3 hb34))
  obtain ⟨x0, x1, -⟩ := Txt2.facts HX4.out
  obtain ⟨y0, y1, -⟩ := Txt2.facts HY4.out
  rw [hW4] at x0 x1 y0 y1
  have HSM := Lib.hid (same_any S1 S2 ec W4)
  clear hb3 hb34
  go_wp2_with fail
  rw [← hW4]
  clear hW4 x0 x1 y0 y1
  (with_reducible refine (HSM.out).mono ?_)
  rintro e w5 ⟨rfl, hb5⟩
  have HB5 := Lib.hid (below_next HB4.out hb5)
  clear hb5
  obtain ⟨W6, hW6⟩ : ∃ W, W = (w5.alloc (.cells #[.slice none 0 0] 40)).alloc (.cells #[.slice none 0 0] 40) := ⟨_, rfl⟩
  have hb56 : Below w5.heap.size w5 W6 := by rw [hW6]; exact two_on _ _
  have HK1 := Lib.hid (show W6.heap[w5.heap.size]? = some (.cells #[.slice none 0 0] 40 (0, 0)) by rw [hW6, Below.heap_alloc _ _ _ (by simp)]; exact alloc_at _ _ _ rfl)
  have HK2 := Lib.hid (show W6.heap[w5.heap.size + 1]? = some (.cells #[.slice none 0 0] 40 (0, 0)) by rw [hW6]; exact alloc_at _ _ _ (by simp))
  have HB6 := Lib.hid (below_next HB5.out hb56)
  have HLK := Lib.hid (show w.heap.size ≤ w5.heap.size from (below_next HB0.out HB5.out).size)
  obtain ⟨k0, k1⟩ := HOB.out W6 HB6.out
  rw [hW6] at k0 k1
  clear hb56
  go_wp2_with fail
  rw [← hW6]
  obtain ⟨n3, hn3⟩ : ∃ n, n = w5.heap.size := ⟨_, rfl⟩
  rw [← hn3] at HK1 HK2 HLK ⊢
  clear hW6 hn3 k0 k1
  (with_reducible refine (HJ2.out _ (below_next HB0.out HB6.out)).mono ?_)
  rintro e w7 ⟨A1, c1, l1, rfl, hr1, ha1, hb7⟩
  have HB7 := Lib.hid (below_next HB6.out hb7)
  have HK17 := Lib.hid ((hb7.block _ (heap_lt HK1.out)).trans HK1.out)
  have HK27 := Lib.hid ((hb7.block _ (heap_lt HK2.out)).trans HK2.out)
  have HA1 := Lib.hid ha1
  have HRD1 := Lib.hid hr1
  have HS6 := Lib.hid (show n3 + 1 < W6.heap.size from heap_lt HK2.out)
  obtain ⟨k0, k1⟩ := HOB.out w7 HB7.out
  clear hb7 ha1 hr1
  go_wp2_with fail
  (with_reducible refine (HR2.out _ (below_next HB0.out HB7.out)).mono ?_)
  rintro e w8 ⟨A2, c2, l2, rfl, hr2, ha2, hb8⟩
  obtain rfl : l2 = l1 := HAO.out l1 l2 HA1.out ha2
  have HB8 := Lib.hid (below_next HB7.out hb8)
  have HK18 := Lib.hid ((hb8.block _ (heap_lt HK17.out)).trans HK17.out)
  have HK28 := Lib.hid ((hb8.block _ (heap_lt HK27.out)).trans HK27.out)
  have HOKL := Lib.hid (HAK.out _ HA1.out)
  have HD1 := Lib.hid (HRD1.out.on hb8)
  have HD2 := Lib.hid hr2
  have HS7 := Lib.hid (show n3 + 1 < w7.heap.size from heap_lt HK27.out)
  have HS8 := Lib.hid (show n3 + 1 < w8.heap.size from heap_lt HK28.out)
  clear k0 k1 hb8 hr2 ha2
  have hi1 : InkAt w8 n3 w8.heap.size [] := ⟨by have := HS8.out; omega, Nat.le_refl _, (HTB.out.on (below_next HB0.out HB8.out)).mono HLK.out, _, HK18.out, ⟨by simp [Lib.byteCells], .inl ⟨rfl, rfl⟩⟩⟩
  have HN1 := Lib.hid (inkAlerts_any n3 w8.heap.size [] A1 c1 l2 w8 hi1 (by simp) HOKL.out.2 (by have := HOKL.out.1; omega) (fun w' hw' => (HD1.out.ink (by have := HS6.out; omega) hw').rd))
  have hlen := inkAls0_length l2 HOKL.out.2
  have hl2 := inkInt_length (l2.length : Int) (by omega) (by have := HOKL.out.1; omega)
  have HLT := Lib.hid (show (inkAls l2).length < 100000000000 by have := HOKL.out.1; simp only [inkAls, List.length_append]; omega)
  clear hi1 hlen hl2
  go_wp2_with fail
  (with_reducible refine (HN1.out).mono ?_)
  rintro e w9 ⟨rfl, hi9, hf9⟩
  rw [List.nil_append] at hi9
  have hs9 := hf9.size
  have hb9 : Below n3 w8 w9 := Fr.below hf9 (by have := HS8.out; omega) (fun i hi hm => by have := HS8.out; rcases hm with h | h <;> omega)
  have hk9 : w9.heap[n3 + 1]? = _ := (hf9.block (n3 + 1) (by have := HS8.out; omega) (fun hm => by have := HS8.out; rcases hm with h | h <;> omega)).trans HK28.out
  have hbw9 : Below w.heap.size w w9 := (below_next HB0.out HB8.out).trans (Fr.below hf9 (below_next HB0.out HB8.out).size (fun i hi hm => by have := HLK.out; have := HS8.out; rcases hm with h | h <;> omega))
  have hi2 : InkAt w9 (n3 + 1) w9.heap.size [] := ⟨heap_lt hk9, Nat.le_refl _, (HTB.out.on hbw9).mono (by have := HLK.out; omega), _, hk9, ⟨by simp [Lib.byteCells], .inl ⟨rfl, rfl⟩⟩⟩
  have hd2 := HD2.out.ink (K := n3) (by have := HS7.out; omega) hf9
  have HN2 := Lib.hid (inkAlerts_any (n3 + 1) w9.heap.size [] A2 c2 l2 w9 hi2 (by simp) HOKL.out.2 (by have := HOKL.out.1; omega) (fun w' hw' => (hd2.ink (by have := HS7.out; omega) hw').rd))
  have HI9 := Lib.hid hi9
  have HB9 := Lib.hid hbw9
  have HS9 := Lib.hid (show w8.heap.size ≤ w9.heap.size from hs9)
  clear hi9 hf9 hs9 hb9 hk9 hbw9 hi2 hd2
  go_wp2_with fail
  (with_reducible refine (HN2.out).mono ?_)
  rintro e w10 ⟨rfl, hi10, hf10⟩
  rw [List.nil_append] at hi10
  have HI10 := Lib.hid (HI9.out.fr hf10 (fun i hi hm => by have := HS9.out; have := HS8.out; rcases hm with h | h <;> omega) (fun i hi h2 hm => by have := HS8.out; rcases hm with h | h <;> omega))
  have HJ10 := Lib.hid hi10
  have HB10 := Lib.hid (show Below w.heap.size w w10 from HB9.out.trans (Fr.below hf10 HB9.out.size (fun i hi hm => by have := HLK.out; have := HB9.out.size; rcases hm with h | h <;> omega)))
  have HT1 := Lib.hid (told_any0 _ _ _ _ HI10.out HLT.out)
  have HT2 := Lib.hid (told_any0 _ _ _ _ HJ10.out HLT.out)
  obtain ⟨bs, hbs⟩ : ∃ b : ByteArray, b = ⟨(inkAls l2).toArray⟩ := ⟨_, rfl⟩
  rw [← hbs] at HT1 HT2
  clear hi10 hf10 hbs
  go_wp2_with fail
  (with_reducible refine (HT1.out).mono ?_)
  rintro e w11 ⟨rfl, rfl⟩
  go_wp2_with fail
  (with_reducible refine (HT2.out).mono ?_)
  rintro e w12 ⟨rfl, rfl⟩
  go_wp2_with fail
  (with_reducible refine (HH.out _ HB10.out).mono ?_)
  rintro e w13 ⟨rfl, hb13⟩
  have HB13 := Lib.hid (below_next HB10.out hb13)
  clear hb13
  go_wp2
  go_ret
  exact ⟨by rfl, HB13.out⟩
end Go.Proofs.YtnpfdelklolchaaGreatDoor
