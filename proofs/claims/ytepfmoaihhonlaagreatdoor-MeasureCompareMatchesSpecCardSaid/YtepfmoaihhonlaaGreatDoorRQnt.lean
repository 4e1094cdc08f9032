/- Package dynamometerref9: Quantile. Printed by gen_rqnt.py. -/
import Derived.Test.YtepfmoaihhonlaaGreatDoorG35
import Derived.Test.YtepfmoaihhonlaaGreatDoorFracOps
namespace Go.Proofs.YtepfmoaihhonlaaGreatDoor
open Go Go.RowKit Go.Proofs

theorem cmp_le {x y : Nat} : decide (cmpN x y ≤ 0) = decide (x ≤ y) := by
  unfold cmpN
  congr 1
  rw [eq_iff_iff]
  repeat' split
  all_goals omega
theorem rnatCmpM_any (A1 A2 : Option Addr) (c1 c2 : Nat) (l1 l2 : List Nat) (x y : Nat) (w : World) (h1 : RNatR w A1 c1 l1 x) (h2 : RNatR w A2 c2 l2 y) (hs : l1.length ≤ 1000000) (hs2 : l2.length ≤ 1000000) :
    Calls Tryz.prog 78 #[.slice A1 l1.length c1, .slice A2 l2.length c2] w fun e w' => e = .returned (.int .i64 (cmpN x y)) ∧ Below w.heap.size w w' :=
  (rnatCmp_any A1 A2 c1 c2 l1 l2 x y w h1 h2 hs hs2).mono fun e w' ⟨he, q, hq⟩ => ⟨he, by rw [hq]; exact below_drewN (Below.refl _ w) q⟩
theorem of_len2 {w : World} {A : Option Addr} {c : Nat} {l : List Nat} {x y : Nat} (h : RNatR w A c l (x * y)) (hx : x ≤ 9223372036854775807) (hy : y ≤ 9223372036854775807) : l.length ≤ 10 :=
  h.len (n := 5 + 5) (by rw [Nat.pow_add, T4_5]; exact Nat.mul_lt_mul'' (by omega) (by omega))
theorem tot_pos {cs : List (Int × Int)} (h : ∀ c ∈ cs, 1 ≤ c.2 ∧ c.2 ≤ 1125899906842624) : (cs.length : Int) ≤ tot cs := by
  induction cs with
  | nil => simp [tot]
  | cons c r ih =>
    have h1 := h c (by simp)
    have h2 := ih (fun x hx => h x (by simp [hx]))
    unfold tot at *
    simp only [List.map_cons, List.sum_cons, List.length_cons]
    omega

set_option maxHeartbeats 4000000 in
set_option maxRecDepth 100000 in
theorem rQuantile_bad (b : Int) (A : Option Addr) (c : Nat) (cs : List (Int × Int)) (num den : Int) (w : World) (hr : Rd w 0 w.heap.size 2 A cs.length (cells2 cs)) (hl : cs.length < 9223372036854775807) (hx : ∀ c ∈ cs, c.1 ≤ 9223372036854775807) (h : codeH b cs ≠ 0) :
    Calls Tryz.prog 39 #[.agg #[.int .i64 b, .slice A cs.length c], .int .i64 num, .int .i64 den] w (QPost b cs num den w) := by
  have HQ := Lib.hid (show codeQ b cs num den = codeH b cs by unfold codeQ; rw [if_neg h])
  have HCK := Lib.hid (fun (W : World) (hb : Below w.heap.size w W) => rcheck_any b A cs.length c cs W (hr.old hb) (by omega) hx)
  obtain ⟨W0, hW0⟩ : ∃ W0, W0 = w.alloc (.cells #[.int .i64 b, .slice A cs.length c] 53) := ⟨_, rfl⟩
  have HST0 := Lib.hid (show St w W0 [(w.heap.size, .cells #[.int .i64 b, .slice A cs.length c] 53 (0, 0))] by rw [hW0]; exact (St.start w).alloc _ _ rfl)
  obtain ⟨cd, hcd⟩ : ∃ cd, cd = codeH b cs := ⟨_, rfl⟩
  rw [← hcd] at h HQ HCK
  clear hcd hr hx
  have tc' : (cd != 0) = true := by simpa using h
  go_enter Tryz.func39, Tryz.ntmps39
  go_wp2_with fail
  rw [← hW0]
  clear hW0
  (with_reducible refine (HCK.out W0 HST0.out.below).mono ?_)
  rintro e w1 ⟨rfl, hb1⟩
  have hST1 := HST0.out.call hb1
  have HST1 := Lib.hid hST1
  have k00 := hST1.cell 0 0 rfl rfl
  have k01 := hST1.cell 0 1 rfl rfl
  clear hb1 hST1
  go_wp2
  exact bodyPost_ret (v := .tuple #[.int .i64 0, .int .i64 0, .int .i64 cd]) (by simp [results, Tryz.results39, go_sem]) rfl ⟨0, 0, by rw [HQ.out], fun hz => absurd (HQ.out ▸ hz) (by exact h), fun _ => ⟨rfl, rfl⟩, HST1.out.below⟩

set_option maxHeartbeats 4000000 in
set_option maxRecDepth 100000 in
theorem rQuantile_range (b : Int) (A : Option Addr) (c : Nat) (cs : List (Int × Int)) (num den : Int) (w : World) (hr : Rd w 0 w.heap.size 2 A cs.length (cells2 cs)) (hl : cs.length < 9223372036854775807) (hx : ∀ c ∈ cs, c.1 ≤ 9223372036854775807) (h : codeH b cs = 0) (hq : badQ num den = true) :
    Calls Tryz.prog 39 #[.agg #[.int .i64 b, .slice A cs.length c], .int .i64 num, .int .i64 den] w (QPost b cs num den w) := by
  have HQ := Lib.hid (show codeQ b cs num den = 9 by unfold codeQ; rw [if_pos h, if_pos hq])
  have hq' : num < 0 ∨ den < num ∨ den < 1 ∨ 1000000 < den := by simp [badQ] at hq; omega
  have HCK := Lib.hid (fun (W : World) (hb : Below w.heap.size w W) => rcheck_any b A cs.length c cs W (hr.old hb) (by omega) hx)
  obtain ⟨W0, hW0⟩ : ∃ W0, W0 = w.alloc (.cells #[.int .i64 b, .slice A cs.length c] 53) := ⟨_, rfl⟩
  have HST0 := Lib.hid (show St w W0 [(w.heap.size, .cells #[.int .i64 b, .slice A cs.length c] 53 (0, 0))] by rw [hW0]; exact (St.start w).alloc _ _ rfl)
  rw [h] at HCK
  clear h hq hr hx
  by_cases g0 : num < 0
  · have t1 : decide (num < 0) = true := decide_eq_true g0
    clear hq'
    go_enter Tryz.func39, Tryz.ntmps39
    go_wp2_with fail
    rw [← hW0]
    clear hW0
    (with_reducible refine (HCK.out W0 HST0.out.below).mono ?_)
    rintro e w1 ⟨rfl, hb1⟩
    have hST1 := HST0.out.call hb1
    have HST1 := Lib.hid hST1
    have k00 := hST1.cell 0 0 rfl rfl
    have k01 := hST1.cell 0 1 rfl rfl
    clear hb1 hST1
    go_wp2
    exact bodyPost_ret (v := .tuple #[.int .i64 0, .int .i64 0, .int .i64 9]) (by simp [results, Tryz.results39, go_sem]) rfl ⟨0, 0, by rw [HQ.out], fun hz => absurd (HQ.out ▸ hz) (by decide), fun _ => ⟨rfl, rfl⟩, HST1.out.below⟩
  · have t1 : decide (num < 0) = false := decide_eq_false g0
    by_cases g1 : den < num
    · have t2 : decide (den < num) = true := decide_eq_true g1
      clear hq'
      go_enter Tryz.func39, Tryz.ntmps39
      go_wp2_with fail
      rw [← hW0]
      clear hW0
      (with_reducible refine (HCK.out W0 HST0.out.below).mono ?_)
      rintro e w1 ⟨rfl, hb1⟩
      have hST1 := HST0.out.call hb1
      have HST1 := Lib.hid hST1
      have k00 := hST1.cell 0 0 rfl rfl
      have k01 := hST1.cell 0 1 rfl rfl
      clear hb1 hST1
      go_wp2
      exact bodyPost_ret (v := .tuple #[.int .i64 0, .int .i64 0, .int .i64 9]) (by simp [results, Tryz.results39, go_sem]) rfl ⟨0, 0, by rw [HQ.out], fun hz => absurd (HQ.out ▸ hz) (by decide), fun _ => ⟨rfl, rfl⟩, HST1.out.below⟩
    · have t2 : decide (den < num) = false := decide_eq_false g1
      by_cases g2 : den < 1
      · have t3 : decide (den < 1) = true := decide_eq_true g2
        clear hq'
        go_enter Tryz.func39, Tryz.ntmps39
        go_wp2_with fail
        rw [← hW0]
        clear hW0
        (with_reducible refine (HCK.out W0 HST0.out.below).mono ?_)
        rintro e w1 ⟨rfl, hb1⟩
        have hST1 := HST0.out.call hb1
        have HST1 := Lib.hid hST1
        have k00 := hST1.cell 0 0 rfl rfl
        have k01 := hST1.cell 0 1 rfl rfl
        clear hb1 hST1
        go_wp2
        exact bodyPost_ret (v := .tuple #[.int .i64 0, .int .i64 0, .int .i64 9]) (by simp [results, Tryz.results39, go_sem]) rfl ⟨0, 0, by rw [HQ.out], fun hz => absurd (HQ.out ▸ hz) (by decide), fun _ => ⟨rfl, rfl⟩, HST1.out.below⟩
      · have t3 : decide (den < 1) = false := decide_eq_false g2
        have t4 : decide (1000000 < den) = true := decide_eq_true (by omega)
        clear hq'
        go_enter Tryz.func39, Tryz.ntmps39
        go_wp2_with fail
        rw [← hW0]
        clear hW0
        (with_reducible refine (HCK.out W0 HST0.out.below).mono ?_)
        rintro e w1 ⟨rfl, hb1⟩
        have hST1 := HST0.out.call hb1
        have HST1 := Lib.hid hST1
        have k00 := hST1.cell 0 0 rfl rfl
        have k01 := hST1.cell 0 1 rfl rfl
        clear hb1 hST1
        go_wp2
        exact bodyPost_ret (v := .tuple #[.int .i64 0, .int .i64 0, .int .i64 9]) (by simp [results, Tryz.results39, go_sem]) rfl ⟨0, 0, by rw [HQ.out], fun hz => absurd (HQ.out ▸ hz) (by decide), fun _ => ⟨rfl, rfl⟩, HST1.out.below⟩

set_option maxHeartbeats 4000000 in
set_option maxRecDepth 100000 in
theorem rQuantile_empty (b : Int) (A : Option Addr) (c : Nat) (cs : List (Int × Int)) (num den : Int) (w : World) (hr : Rd w 0 w.heap.size 2 A cs.length (cells2 cs)) (hl : cs.length < 9223372036854775807) (hx : ∀ c ∈ cs, c.1 ≤ 9223372036854775807) (h : codeH b cs = 0) (hq : badQ num den = false) (hl0 : cs.length = 0) :
    Calls Tryz.prog 39 #[.agg #[.int .i64 b, .slice A cs.length c], .int .i64 num, .int .i64 den] w (QPost b cs num den w) := by
  have HQ := Lib.hid (show codeQ b cs num den = 13 by unfold codeQ; rw [if_pos h, hq, if_neg (by simp), if_pos hl0])
  have hg := codeH_zero h
  obtain ⟨q0, q1, q2, q3⟩ : 0 ≤ num ∧ num ≤ den ∧ 1 ≤ den ∧ den ≤ 1000000 := by simp [badQ] at hq; omega
  have t1 : decide (num < 0) = false := decide_eq_false (by omega)
  have t2 : decide (den < num) = false := decide_eq_false (by omega)
  have t3 : decide (den < 1) = false := decide_eq_false (by omega)
  have t4 : decide (1000000 < den) = false := decide_eq_false (by omega)
  have HCK := Lib.hid (fun (W : World) (hb : Below w.heap.size w W) => rcheck_any b A cs.length c cs W (hr.old hb) (by omega) hx)
  obtain ⟨W0, hW0⟩ : ∃ W0, W0 = w.alloc (.cells #[.int .i64 b, .slice A cs.length c] 53) := ⟨_, rfl⟩
  have HST0 := Lib.hid (show St w W0 [(w.heap.size, .cells #[.int .i64 b, .slice A cs.length c] 53 (0, 0))] by rw [hW0]; exact (St.start w).alloc _ _ rfl)
  have HTO := Lib.hid (fun (W : World) (hb : Below w.heap.size w W) => rtotal_any b A cs.length c cs W (hr.old hb) (fun c hc => (hg.2.2.2.1 c hc).2) hg.2.2.1)
  have e0 : tot cs = 0 := by rw [List.eq_nil_of_length_eq_zero hl0]; rfl
  rw [h] at HCK
  rw [e0] at HTO
  clear h hq hr hx hg e0 hl0
  go_enter Tryz.func39, Tryz.ntmps39
  go_wp2_with fail
  rw [← hW0]
  clear hW0
  (with_reducible refine (HCK.out W0 HST0.out.below).mono ?_)
  rintro e w1 ⟨rfl, hb1⟩
  have hST1 := HST0.out.call hb1
  have HST1 := Lib.hid hST1
  have k00 := hST1.cell 0 0 rfl rfl
  have k01 := hST1.cell 0 1 rfl rfl
  clear hb1 hST1
  go_wp2_with fail
  (with_reducible refine (HTO.out w1 HST1.out.below).mono ?_)
  rintro e w2 ⟨rfl, hb2⟩
  have HFIN := Lib.hid (below_next HST1.out.below hb2)
  clear hb2 k00 k01
  go_wp2
  exact bodyPost_ret (v := .tuple #[.int .i64 0, .int .i64 0, .int .i64 13]) (by simp [results, Tryz.results39, go_sem]) rfl ⟨0, 0, by rw [HQ.out], fun hz => absurd (HQ.out ▸ hz) (by decide), fun _ => ⟨rfl, rfl⟩, HFIN.out⟩

set_option maxHeartbeats 4000000 in
set_option maxRecDepth 100000 in
theorem rQuantile_main (b : Int) (A : Option Addr) (c : Nat) (cs : List (Int × Int)) (num den : Int) (w : World) (hr : Rd w 0 w.heap.size 2 A cs.length (cells2 cs)) (hl : cs.length < 9223372036854775807) (hx : ∀ c ∈ cs, c.1 ≤ 9223372036854775807) (h : codeH b cs = 0) (hq : badQ num den = false) (hl0 : 0 < cs.length) :
    Calls Tryz.prog 39 #[.agg #[.int .i64 b, .slice A cs.length c], .int .i64 num, .int .i64 den] w (QPost b cs num den w) := by
  have HQ := Lib.hid (show codeQ b cs num den = 0 by unfold codeQ; rw [if_pos h, hq, if_neg (by simp), if_neg (by omega)])
  have hg := codeH_zero h
  have HG := Lib.hid hg
  have hb2 := hg.1
  have hb8 := hg.2.1
  have hlen := hg.2.2.1
  have HR := Lib.hid hr
  have HCS := Lib.hid (fun c hc => (hg.2.2.2.1 c hc).2)
  obtain ⟨q0, q1, q2, q3⟩ : 0 ≤ num ∧ num ≤ den ∧ 1 ≤ den ∧ den ≤ 1000000 := by simp [badQ] at hq; omega
  have t1 : decide (num < 0) = false := decide_eq_false (by omega)
  have t2 : decide (den < num) = false := decide_eq_false (by omega)
  have t3 : decide (den < 1) = false := decide_eq_false (by omega)
  have t4 : decide (1000000 < den) = false := decide_eq_false (by omega)
  have HCK := Lib.hid (fun (W : World) (hb : Below w.heap.size w W) => rcheck_any b A cs.length c cs W (hr.old hb) (by omega) hx)
  obtain ⟨W0, hW0⟩ : ∃ W0, W0 = w.alloc (.cells #[.int .i64 b, .slice A cs.length c] 53) := ⟨_, rfl⟩
  have HST0 := Lib.hid (show St w W0 [(w.heap.size, .cells #[.int .i64 b, .slice A cs.length c] 53 (0, 0))] by rw [hW0]; exact (St.start w).alloc _ _ rfl)
  have HTO := Lib.hid (fun (W : World) (hb : Below w.heap.size w W) => rtotal_any b A cs.length c cs W (hr.old hb) (fun c hc => (hg.2.2.2.1 c hc).2) hg.2.2.1)
  have htb := tot_pos (fun c hc => (hg.2.2.2.1 c hc).2)
  have htt := hg.2.2.2.2.2
  obtain ⟨N, hN⟩ : ∃ N : Nat, (N : Int) = tot cs := ⟨(tot cs).toNat, by omega⟩
  rw [← hN] at HTO htb htt
  obtain ⟨u, rfl⟩ : ∃ u : Nat, num = u := ⟨num.toNat, by omega⟩
  obtain ⟨d, rfl⟩ : ∃ d : Nat, den = d := ⟨den.toNat, by omega⟩
  have HN := Lib.hid hN
  have tn : ((N : Int) == 0) = false := by rw [beq_eq_false_iff_ne]; omega
  have tn' : (N == 0) = false := by rw [beq_eq_false_iff_ne]; omega
  have hN1 : N ≤ 1125899906842624 := by omega
  have hu1 : u ≤ 1000000 := by omega
  have hd1 : d ≤ 1000000 := by omega
  have HOF := Lib.hid (fun (x : Nat) (hx : x ≤ 9223372036854775807) W => rnatOf_any (x : Int) W (by omega))
  have HMU := Lib.hid (fun W A1 c1 l1 A2 c2 l2 (x y : Nat) (hx : x ≤ 9223372036854775807) (hy : y ≤ 9223372036854775807) (h1 : RNatR W A1 c1 l1 x) (h2 : RNatR W A2 c2 l2 y) => rnatMul_any A1 A2 c1 c2 l1 l2 x y W h1 h2 (by have := of_len h1 hx; omega) (by have := of_len h2 hy; omega))
  have HCM := Lib.hid (fun W A1 c1 l1 A2 c2 l2 (x y z t : Nat) (hx : x ≤ 9223372036854775807) (hy : y ≤ 9223372036854775807) (hz : z ≤ 9223372036854775807) (ht : t ≤ 9223372036854775807) (h1 : RNatR W A1 c1 l1 (x * y)) (h2 : RNatR W A2 c2 l2 (z * t)) => rnatCmpM_any A1 A2 c1 c2 l1 l2 _ _ W h1 h2 (by have := of_len2 h1 hx hy; omega) (by have := of_len2 h2 hz ht; omega))
  simp only [Int.toNat_natCast] at HOF
  rw [h] at HCK
  clear h hq hr hx hg hN
  go_enter Tryz.func39, Tryz.ntmps39
  go_wp2_with fail
  rw [← hW0]
  clear hW0
  (with_reducible refine (HCK.out W0 HST0.out.below).mono ?_)
  rintro e w1 ⟨rfl, hb1⟩
  have hST1 := HST0.out.call hb1
  have HST1 := Lib.hid hST1
  have k00 := hST1.cell 0 0 rfl rfl
  have k01 := hST1.cell 0 1 rfl rfl
  clear hb1 hST1
  go_wp2_with fail
  (with_reducible refine (HTO.out w1 HST1.out.below).mono ?_)
  rintro e w2 ⟨rfl, hb2'⟩
  have HST2 := Lib.hid (HST1.out.call hb2')
  clear hb2' k00 k01
  go_wp2_with fail
  go_loopw [11, 12] (fun sv iv wr => ∃ k : Nat, k ≤ cs.length ∧ iv = .int .i64 k ∧ ∃ T : Nat, sv = .int .i64 T ∧ Hid ((T : Int) = tot (cs.take k)) ∧ Hid (k ≠ 0 → T * d < N * u) ∧ St w wr [(w.heap.size, .cells #[.int .i64 b, .slice A cs.length c] 53 (0, 0))]) (fun _ iv _ => cs.length - (intOf iv).toNat)
  case atStart => exact ⟨0, Nat.zero_le _, rfl, 0, rfl, Lib.hid (by simp [tot]), Lib.hid (fun h => absurd rfl h), HST2.out⟩
  case round =>
    obtain ⟨k, hk, rfl, T, rfl, HT, HNO, hst⟩ := hrel
    have HST := Lib.hid hst
    have k00 : wr.cell? ⟨w.heap.size, 0, none⟩ = some (.int .i64 b) := hst.cell 0 0 rfl rfl
    have k01 : wr.cell? ⟨w.heap.size, 1, none⟩ = some (.slice A cs.length c) := hst.cell 0 1 rfl rfl
    have hbw := hst.below
    by_cases hlt : k < cs.length
    · obtain ⟨bk, o, x, m, hA, _, hbk, hx, c0, c1⟩ := (HR.out.below hbw (Nat.le_refl _)).at2 hlt
      subst hA
      have HX := Lib.hid hx
      have hm := HCS.out (x, m) (List.mem_of_getElem? hx)
      simp only at hm
      obtain ⟨M, rfl⟩ : ∃ M : Nat, m = M := ⟨m.toNat, by omega⟩
      have HTT := Lib.hid (show ((T + M : Nat) : Int) = tot (cs.take (k + 1)) by rw [tot_take cs k x M hx, ← HT.out]; simp)
      have hTM : T + M ≤ N := by
        have h1 := HTT.out
        have h2 := tot_pos (cs := cs.drop (k + 1)) (fun c hc => HCS.out c (List.mem_of_mem_drop hc))
        have h3 : tot cs = tot (cs.take (k + 1)) + tot (cs.drop (k + 1)) := by
          conv => lhs; rw [← List.take_append_drop (k + 1) cs]
          unfold tot; rw [List.map_append, List.sum_append]
        have := HN.out
        omega
      have hki : (k : Int) < (cs.length : Int) := by omega
      have hbel := HST.out
      have hT1 : T ≤ 1125899906842624 := by omega
      have hM1 : M ≤ 1125899906842624 := by omega
      have e1 : (T : Int) + (M : Int) = ((T + M : Nat) : Int) := by simp
      obtain ⟨S, hS⟩ : ∃ S, S = T + M := ⟨_, rfl⟩
      rw [← hS] at e1 HTT hTM
      have hS1 : 1 ≤ S := by omega
      have HE1 := Lib.hid e1
      have t5 : decide ((1 : Int) ≤ (S : Int)) = true := decide_eq_true (by omega)
      have t6 : decide (1 ≤ S) = true := decide_eq_true hS1
      clear hx hst hS e1
      go_upto_region 14 with fail
      rw [HE1.out]
      clear c0 c1
      go_wp2_with fail
      (with_reducible refine (HOF.out N (by omega) _).mono ?_)
      rintro e w3 ⟨A3, c3, l3, rfl, h3, hb3⟩
      have HB3 := Lib.hid hb3
      have H3 := Lib.hid h3
      clear hb3 h3 k00 k01
      go_wp2_with fail
      (with_reducible refine (HOF.out u (by omega) _).mono ?_)
      rintro e w4 ⟨A4, c4, l4, rfl, h4, hb4⟩
      have HB4 := Lib.hid (below_next HB3.out hb4)
      have HM1 := Lib.hid (HMU.out w4 A3 c3 l3 A4 c4 l4 N u (by omega) (by omega) (H3.out.on hb4) h4)
      clear hb4 h4
      go_wp2_with fail
      (with_reducible refine HM1.out.mono ?_)
      rintro e w5 ⟨A5, c5, l5, rfl, h5, hb5⟩
      have HB5 := Lib.hid (below_next HB4.out hb5)
      have H5 := Lib.hid h5
      clear hb5 h5
      go_wp2_with fail
      (with_reducible refine (HOF.out S (by omega) _).mono ?_)
      rintro e w6 ⟨A6, c6, l6, rfl, h6, hb6⟩
      have HB6 := Lib.hid (below_next HB5.out hb6)
      have HB56 := Lib.hid hb6
      have H6 := Lib.hid h6
      clear hb6 h6
      go_wp2_with fail
      (with_reducible refine (HOF.out d (by omega) _).mono ?_)
      rintro e w7 ⟨A7, c7, l7, rfl, h7, hb7⟩
      have HB7 := Lib.hid (below_next HB6.out hb7)
      have HB57 := Lib.hid (below_next HB56.out hb7)
      have HM2 := Lib.hid (HMU.out w7 A6 c6 l6 A7 c7 l7 S d (by omega) (by omega) (H6.out.on hb7) h7)
      clear hb7 h7
      go_wp2_with fail
      (with_reducible refine HM2.out.mono ?_)
      rintro e w8 ⟨A8, c8, l8, rfl, h8, hb8'⟩
      have HB8 := Lib.hid (below_next HB7.out hb8')
      have HC1 := Lib.hid (HCM.out w8 A5 c5 l5 A8 c8 l8 N u S d (by omega) (by omega) (by omega) (by omega) (H5.out.on (below_next HB57.out hb8')) h8)
      clear hb8' h8
      go_wp2_with fail
      (with_reducible refine HC1.out.mono ?_)
      rintro e w9 ⟨rfl, hb9⟩
      have HST9 := Lib.hid (HST.out.call (below_next HB8.out hb9))
      clear hb9
      have tc := cmp_le (x := N * u) (y := S * d)
      obtain ⟨cz, hcz⟩ : ∃ z, z = cmpN (N * u) (S * d) := ⟨_, rfl⟩
      rw [← hcz] at tc ⊢
      clear hcz
      by_cases hit : N * u ≤ S * d
      · rw [decide_eq_true hit] at tc
        have HAT := Lib.hid (show AtRank b cs (rnk (tot cs) u d) (loB b x) (hiB b x) from ⟨k, x, M, HX.out, by
            rw [← HN.out, ← HT.out]
            refine lt_rnk (by omega) ?_
            rcases Nat.eq_zero_or_pos k with h0 | h0
            · left
              have := HT.out
              rw [h0, List.take_zero] at this
              simpa [tot] using this
            · right
              have := HNO.out (by omega)
              rw [← Int.natCast_mul, ← Int.natCast_mul]
              omega, by
            rw [← HN.out, ← HTT.out]
            refine rnk_le (by omega) (by omega) ?_
            rw [← Int.natCast_mul, ← Int.natCast_mul]
            omega, rfl, rfl⟩)
        have hX := (HG.out.2.2.2.1 (x, (M : Int)) (List.mem_of_getElem? HX.out)).1
        simp only at hX
        have hmx := maxB_bd b hb2 hb8
        have HHI := Lib.hid (fun W => high_any b x W hb2 hb8 hX.1 hX.2)
        have HLO := Lib.hid (fun W => low_any b x W hb2 hb8 (by omega))
        rw [(lowR_pos b x hb2 hb8 hX.1 hX.2).1] at HLO
        obtain ⟨hi, hhi⟩ : ∃ z, z = hiB b x := ⟨_, rfl⟩
        obtain ⟨lo, hlo⟩ : ∃ z, z = loB b x := ⟨_, rfl⟩
        rw [← hhi] at HHI HAT
        rw [← hlo] at HLO HAT
        obtain ⟨bk', o', x', m', hA', _, _, hx', c0, c1⟩ := (HR.out.below HST9.out.below (Nat.le_refl _)).at2 hlt
        simp only [Option.some.injEq, Addr.mk.injEq, and_true] at hA'
        obtain ⟨rfl, rfl⟩ := hA'
        rw [HX.out] at hx'
        simp only [Option.some.injEq, Prod.mk.injEq] at hx'
        obtain ⟨rfl, rfl⟩ := hx'
        have k00 : w9.cell? ⟨w.heap.size, 0, none⟩ = some (.int .i64 b) := HST9.out.cell 0 0 rfl rfl
        have k01 : w9.cell? ⟨w.heap.size, 1, none⟩ = some (.slice (some ⟨bk, o, none⟩) cs.length c) := HST9.out.cell 0 1 rfl rfl
        clear hhi hlo hX hmx hit
        go_wp2_with fail
        go_quiet ((first | (go_at_call 96; first | exact quiet_left (HLO.out _) | exact quiet_add_left (HLO.out _)) | (go_at_call 106; first | exact quiet_left (HHI.out _) | exact quiet_add_left (HHI.out _))))
        go_wp2
        exact bodyPost_ret (v := .tuple #[.int .i64 lo, .int .i64 hi, .int .i64 0]) (by simp [results, Tryz.results39, go_sem]) rfl ⟨lo, hi, by rw [HQ.out], fun _ => HAT.out, fun hz => absurd HQ.out hz, by first | exact below_drewN HST9.out.below _ | exact HST9.out.below⟩
      · rw [decide_eq_false hit] at tc
        go_wp2
        go_roundw
        case rel => exact ⟨k + 1, by omega, by go_num, S, by first | rfl | (rw [HE1.out]), HTT, Lib.hid (fun _ => by omega), HST9.out⟩
        case measure => simp [intOf]; omega
    · exfalso
      have h1 : cs.take k = cs := List.take_of_length_le (by omega)
      have h2 := HT.out
      rw [h1, ← HN.out] at h2
      have h3 := HNO.out (by omega)
      have h4 : T = N := by omega
      rw [h4] at h3
      have : N * u ≤ N * d := Nat.mul_le_mul (Nat.le_refl _) (by omega)
      omega

theorem rQuantile_any (b : Int) (A : Option Addr) (c : Nat) (cs : List (Int × Int)) (num den : Int) (w : World) (hr : Rd w 0 w.heap.size 2 A cs.length (cells2 cs)) (hl : cs.length < 9223372036854775807) (hx : ∀ c ∈ cs, c.1 ≤ 9223372036854775807) :
    Calls Tryz.prog 39 #[.agg #[.int .i64 b, .slice A cs.length c], .int .i64 num, .int .i64 den] w (QPost b cs num den w) := by
  by_cases h : codeH b cs = 0
  · cases hq : badQ num den with
    | true => exact rQuantile_range b A c cs num den w hr hl hx h hq
    | false =>
      rcases Nat.eq_zero_or_pos cs.length with h0 | h0
      · exact rQuantile_empty b A c cs num den w hr hl hx h hq h0
      · exact rQuantile_main b A c cs num den w hr hl hx h hq h0
  · exact rQuantile_bad b A c cs num den w hr hl hx h
end Go.Proofs.YtepfmoaihhonlaaGreatDoor
