import Derived.StillTailTactics
import Derived.Test.YtnpfdelklolchaaGreatDoorG31
import Derived.Test.YtnpfdelklolchaaGreatDoorG14
import Derived.Test.YtnpfdelklolchaaGreatDoorG13
import Derived.Test.YtnpfdelklolchaaGreatDoorG12
import Derived.Test.YtnpfdelklolchaaGreatDoorG30
import Derived.Test.YtnpfdelklolchaaGreatDoorG23
/- Package dynamometerref10: spread (the cost of a part of a list). -/
namespace Go.Proofs.YtnpfdelklolchaaGreatDoor
open Go Go.RowKit Go.Proofs

/-- the cost of a part, times D -/
def spN (D : Nat) (xs : List Int) : Nat := D * (sqs xs).toNat - D / xs.length * (xs.sum.natAbs * xs.sum.natAbs)
theorem cS_spN {l : List Int} {D i j : Nat} (hj : j ≤ l.length) : cS l D i j = spN D (segL l i j) := by
  unfold cS spN
  rw [segL_length hj]
theorem take_next {xs : List Int} {i : Nat} {x : Int} (h : xs[i]? = some x) : (xs.take (i + 1)).sum = (xs.take i).sum + x ∧ sqs (xs.take (i + 1)) = sqs (xs.take i) + x * x := by
  rw [List.take_add_one, h]
  constructor
  · simp [List.sum_append]
  · unfold sqs
    simp [List.map_append, List.sum_append]
theorem sum_le {M : Nat} : ∀ {l : List Int}, (∀ z ∈ l, z.natAbs ≤ M) → l.sum.natAbs ≤ l.length * M
  | [], _ => by simp
  | x :: l, h => by
    have ih := sum_le (l := l) fun z hz => h z (by simp [hz])
    have h1 := h x (by simp)
    rw [List.sum_cons, List.length_cons, Nat.succ_mul]
    omega
theorem spN_sub {D : Nat} {xs : List Int} (h1 : 0 < xs.length) (hd : xs.length ∣ D) : D / xs.length * (xs.sum.natAbs * xs.sum.natAbs) ≤ D * (sqs xs).toNat := by
  have h := cS_sub (l := xs) (D := D) (i := 0) (j := xs.length) h1 (Nat.le_refl _) (by simpa using hd)
  have e : segL xs 0 xs.length = xs := by unfold segL; simp
  rw [e] at h
  simpa using h
set_option maxHeartbeats 8000000 in
set_option maxRecDepth 100000 in
theorem r10Spread_any (A AD : Option Addr) (c cD D : Nat) (lD : List Nat) (xs : List Int) (w : World) (hx : Rd w 0 w.heap.size 1 A xs.length (ints xs)) (hz : ∀ z ∈ xs, z.natAbs ≤ 1000000) (hn : 1 ≤ xs.length) (hn2 : xs.length ≤ 300)
    (hD : RNatR w AD cD lD D) (hDs : D < T4 ^ 34) (hd : xs.length ∣ D) :
    Calls Tryz.prog 48 #[.slice A xs.length c, .slice AD lD.length cD] w (RNatNew (spN D xs) w) := by
  have HX := Lib.hid hx
  have HD := Lib.hid hD
  have HZ := Lib.hid hz
  have HDB := Lib.hid hDs
  have HLD := Lib.hid (show lD.length ≤ 34 from rlen_lt hD.norm hD.val hDs)
  have HSM := Lib.hid (fun W A c l x (h : RNatR W A c l x) (hx : x < T4 ^ 10) => (show (l : List Nat).length ≤ 10 from rlen_lt h.norm h.val hx))
  have HSB := Lib.hid (fun (i : Nat) (hi : i ≤ 300) => (show (xs.take i).sum.natAbs ≤ 300000000 ∧ 0 ≤ sqs (xs.take i) ∧ (sqs (xs.take i)).toNat ≤ 300000000000000 from by
    have hm : ∀ z ∈ xs.take i, z.natAbs ≤ 1000000 := fun z h => hz z (List.mem_of_mem_take h)
    have h1 := sum_le hm
    have h2 := sqs_le hm
    have h3 : (xs.take i).length ≤ 300 := by rw [List.length_take]; omega
    exact ⟨by omega, sqs_nonneg _, by omega⟩))
  have HSUB := Lib.hid (spN_sub hn hd)
  have hn0 : 0 < xs.length := by omega
  clear hx hD hz hDs hd
  go_enter Tryz.func48, Tryz.ntmps48
  go_wp2
  go_loopw [5, 6, 7] (fun sv qv iv wr => ∃ i : Nat, iv = .int .i64 (i : Int) ∧ i ≤ xs.length ∧ sv = .int .i64 (xs.take i).sum ∧ qv = .int .i64 (sqs (xs.take i)) ∧ Below w.heap.size w wr) (fun _ _ iv _ => xs.length - (intOf iv).toNat)
  case atStart => exact ⟨0, rfl, Nat.zero_le _, rfl, rfl, Below.refl _ _⟩
  case round =>
    obtain ⟨i, rfl, hi, rfl, rfl, hb⟩ := hrel
    have HB := Lib.hid hb
    obtain ⟨q1, q2, q3⟩ := HSB.out i (by omega)
    by_cases hlt : i < xs.length
    · have hltz : (i : Int) < (xs.length : Int) := by omega
      obtain ⟨b, o, u, rfl, hbb, hu, hc⟩ := (HX.out.below hb (Nat.le_refl _)).at1 hlt
      obtain ⟨x, hxx⟩ : ∃ x, xs[i]? = some x := ⟨xs[i], List.getElem?_eq_getElem hlt⟩
      unfold ints at hu
      rw [List.getElem?_map, hxx] at hu
      obtain rfl := Option.some.inj hu
      obtain ⟨t1, t2⟩ := take_next hxx
      have hxb := HZ.out x (List.mem_of_getElem? hxx)
      obtain ⟨p1, p2, p3⟩ := HSB.out (i + 1) (by omega)
      have hxx0 := sq_nonneg x
      have hxx1 : x.natAbs * x.natAbs ≤ 1000000 * 1000000 := Nat.mul_le_mul hxb hxb
      have hxx2 := natAbs_sq x
      have w1 : IntKind.i64.wrap ((xs.take i).sum + x) = (xs.take (i + 1)).sum := by rw [IntKind.wrap_i64, t1]; omega
      have w2 : IntKind.i64.wrap (x * x) = x * x := by rw [IntKind.wrap_i64]; omega
      have w3 : IntKind.i64.wrap (sqs (xs.take i) + x * x) = sqs (xs.take (i + 1)) := by rw [IntKind.wrap_i64, t2]; omega
      have hcd : wr.drew.cell? ⟨b, o + i, none⟩ = some (.int .i64 x) := hc
      clear t1 t2 q1 q2 q3 p1 p2 p3 hxx0 hxx1 hxx2 hxb hxx hbb hb
      go_wp2
      refine wp_region_still_tail 11 (by kernel_rfl) (by kernel_rfl) ?_
      simp only [List.take_succ_cons, List.take_zero, List.drop_succ_cons, List.drop_zero]
      repeat still_step
      refine wpStill_nil ?_
      change wpList _ _ _ _ _ wr.drew
      go_wp2
      go_roundw
      case rel => exact ⟨i + 1, by go_num, by omega, by simp only [w1], by simp only [w2, w3], HB.out.drew⟩
      case measure => simp [intOf]; omega
    · obtain rfl : i = xs.length := by omega
      rw [List.take_length] at q1 q2 q3 ⊢
      obtain ⟨s, hs⟩ : ∃ s, s = xs.sum := ⟨_, rfl⟩
      obtain ⟨qq, hq⟩ : ∃ q : Nat, (q : Int) = sqs xs := ⟨(sqs xs).toNat, by omega⟩
      have hq' : (sqs xs).toNat = qq := by omega
      have hsub := HSUB.out
      have HG : spN D xs = D * qq - D / xs.length * (s.natAbs * s.natAbs) := by unfold spN; rw [hq', hs]
      rw [hq', ← hs] at hsub
      rw [← hs] at q1
      rw [← hs, ← hq]
      rw [← hq] at q2 q3
      have HGE := Lib.hid HG
      have HSU := Lib.hid hsub
      have HO1 := Lib.hid (fun W => rnatOf_any (xs.length : Int) W (by omega))
      have HO2 := Lib.hid (fun W => rnatOf_any (qq : Int) W (by omega))
      have HO3 := Lib.hid (fun W => rnatOf_any (max s (-s)) W (by omega))
      rw [show (max s (-s)).toNat = s.natAbs by omega] at HO3
      rw [Int.toNat_natCast] at HO1 HO2
      have hs1 : -300000000 ≤ s := by omega
      have hs2 : s ≤ 300000000 := by omega
      have HBW := Lib.hid HB.out
      have hT : xs.length < T4 ^ 10 ∧ qq < T4 ^ 10 ∧ s.natAbs < T4 ^ 10 := by unfold T4; omega
      have HT := Lib.hid hT
      have HMB := Lib.hid (show qq * D < T4 ^ 44 from by rw [show (44 : Nat) = 10 + 34 from rfl, Nat.pow_add]; exact Nat.mul_lt_mul'' hT.2.1 HDB.out)
      have HSS := Lib.hid (show s.natAbs * s.natAbs < T4 ^ 20 from by rw [show (20 : Nat) = 10 + 10 from rfl, Nat.pow_add]; exact Nat.mul_lt_mul'' hT.2.2 hT.2.2)
      clear hT
      clear hb HB HX HZ HSB hq hq' hs HG hsub HSUB q1 q2 q3
      go_wp2_with fail
      (with_reducible refine (HO1.out _).mono ?_)
      rintro e w1 ⟨A1, c1, l1, rfl, h1, hb1⟩
      have HL1 := Lib.hid (HSM.out _ _ _ _ _ h1 HT.out.1)
      have HB1 := Lib.hid (below_next HBW.out hb1)
      have HDM := Lib.hid (rnatDivMod_any AD A1 cD c1 lD l1 D xs.length w1 (HD.out.on HB1.out) h1 (by have := HLD.out; omega) (by have := HL1.out; omega) hn0)
      clear h1 hb1
      go_wp2_with fail
      (with_reducible refine (HDM.out).mono ?_)
      rintro e w2 ⟨A2, c2, l2, A3, c3, l3, rfl, h2, -, hb2⟩
      have H2 := Lib.hid h2
      have HL2 := Lib.hid (show l2.length ≤ 34 from rlen_lt h2.norm h2.val (Nat.lt_of_le_of_lt (Nat.div_le_self _ _) HDB.out))
      have HB2 := Lib.hid (below_next HB1.out hb2)
      clear h2 hb2
      go_wp2_with fail
      (with_reducible refine (HO2.out w2).mono ?_)
      rintro e w4 ⟨A4, c4, l4, rfl, h4, hb4⟩
      have HL4 := Lib.hid (HSM.out _ _ _ _ _ h4 HT.out.2.1)
      have HB4 := Lib.hid (below_next HB2.out hb4)
      have HM1 := Lib.hid (rnatMul_any A4 AD c4 cD l4 lD qq D w4 h4 (HD.out.on HB4.out) (by have := HL4.out; omega) (by have := HLD.out; omega))
      have H24 := Lib.hid (H2.out.on hb4)
      clear h4 hb4
      go_wp2_with fail
      (with_reducible refine (HM1.out).mono ?_)
      rintro e w5 ⟨A5, c5, l5, rfl, h5, hb5⟩
      have HL5 := Lib.hid (show l5.length ≤ 44 from rlen_lt h5.norm h5.val HMB.out)
      have HB5 := Lib.hid (below_next HB4.out hb5)
      have H25 := Lib.hid (H24.out.on hb5)
      have H5 := Lib.hid h5
      clear h5 hb5
      go_wp2_with fail
      (with_reducible refine (HO3.out w5).mono ?_)
      rintro e w6 ⟨A6, c6, l6, rfl, h6, hb6⟩
      have HL6 := Lib.hid (HSM.out _ _ _ _ _ h6 HT.out.2.2)
      have HB6 := Lib.hid (below_next HB5.out hb6)
      have H26 := Lib.hid (H25.out.on hb6)
      have H56 := Lib.hid (H5.out.on hb6)
      have H6 := Lib.hid h6
      clear h6 hb6
      go_wp2_with fail
      (with_reducible refine (HO3.out w6).mono ?_)
      rintro e w7 ⟨A7, c7, l7, rfl, h7, hb7⟩
      have HL7 := Lib.hid (HSM.out _ _ _ _ _ h7 HT.out.2.2)
      have HB7 := Lib.hid (below_next HB6.out hb7)
      have HM2 := Lib.hid (rnatMul_any A6 A7 c6 c7 l6 l7 s.natAbs s.natAbs w7 (H6.out.on hb7) h7 (by have := HL6.out; omega) (by have := HL7.out; omega))
      have H27 := Lib.hid (H26.out.on hb7)
      have H57 := Lib.hid (H56.out.on hb7)
      clear h7 hb7
      go_wp2_with fail
      (with_reducible refine (HM2.out).mono ?_)
      rintro e w8 ⟨A8, c8, l8, rfl, h8, hb8⟩
      have HL8 := Lib.hid (show l8.length ≤ 20 from rlen_lt h8.norm h8.val HSS.out)
      have HB8 := Lib.hid (below_next HB7.out hb8)
      have HM3 := Lib.hid (rnatMul_any A8 A2 c8 c2 l8 l2 (s.natAbs * s.natAbs) (D / xs.length) w8 h8 (H27.out.on hb8) (by have := HL8.out; omega) (by have := HL2.out; omega))
      have H58 := Lib.hid (H57.out.on hb8)
      clear h8 hb8
      go_wp2_with fail
      (with_reducible refine (HM3.out).mono ?_)
      rintro e w9 ⟨A9, c9, l9, rfl, h9, hb9⟩
      have HB9 := Lib.hid (below_next HB8.out hb9)
      have HSB2 := Lib.hid (rnatSubN_any A5 A9 c5 c9 l5 l9 (qq * D) (s.natAbs * s.natAbs * (D / xs.length)) w9 (H58.out.on hb9) h9 (by have := HL5.out; omega) (by have := HSU.out; rw [Nat.mul_comm qq, Nat.mul_comm _ (D / xs.length)]; exact this))
      rw [show qq * D - s.natAbs * s.natAbs * (D / xs.length) = spN D xs by rw [HGE.out, Nat.mul_comm qq, Nat.mul_comm _ (D / xs.length)]] at HSB2
      clear h9 hb9
      go_wp2_with fail
      (with_reducible refine (HSB2.out).mono ?_)
      rintro e w10 ⟨A10, c10, l10, rfl, h10, hb10, hnew⟩
      have HF := Lib.hid (show RNatR w10 A10 c10 l10 (spN D xs) ∧ Below w.heap.size w w10 ∧ ∀ b o, A10 = some ⟨b, o, none⟩ → w.heap.size ≤ b from ⟨h10, below_next HB9.out hb10, fun b o e => Nat.le_trans HB9.out.size (hnew b o e)⟩)
      clear h10 hb10 hnew
      go_wp2
      refine bodyPost_ret (v := .slice A10 l10.length c10) (by simp [results, Tryz.results48, go_sem]) rfl ⟨A10, c10, l10, rfl, HF.out.1, HF.out.2.1, HF.out.2.2⟩
end Go.Proofs.YtnpfdelklolchaaGreatDoor

/- Words for judge.Changes: rows of numbers by a function, the parts of a list from behind, a variable that holds a division. -/
namespace Go.Proofs.YtnpfdelklolchaaGreatDoor
open Go Go.RowKit Go.Proofs

/-- block g holds n numbers: f 0, f 1, .. -/
def NFn (w : World) (g n : Nat) (f : Nat → Nat) : Prop := ∃ ns : List Nm, ns.length = n ∧ NRow w g 61 ns ∧ ∀ k z, ns[k]? = some z → z.x = f k
section
variable {w w' : World} {g n : Nat} {f f' : Nat → Nat}
theorem NFn.lt (h : NFn w g n f) : g < w.heap.size := by obtain ⟨ns, _, h2, _⟩ := h; exact h2.lt
theorem NFn.on (h : NFn w g n f) (hb : Below w.heap.size w w') : NFn w' g n f := by
  obtain ⟨ns, h1, h2, h3⟩ := h
  exact ⟨ns, h1, h2.on hb, h3⟩
theorem NFn.congr (h : NFn w g n f) (he : ∀ k, k < n → f k = f' k) : NFn w g n f' := by
  obtain ⟨ns, h1, h2, h3⟩ := h
  exact ⟨ns, h1, h2, fun k z hk => (h3 k z hk).trans (he k (by have := (List.getElem?_eq_some_iff.1 hk).1; omega))⟩
theorem NFn.zero (h : VBlk w g 61 (List.replicate n (.slice none 0 0))) (hz : NatR w none 0 [] 0) : NFn w g n (fun _ => 0) :=
  ⟨_, by simp, NRow.zero w g n _ h hz, fun k z hk => by
    rw [List.getElem?_replicate] at hk
    split at hk
    · cases hk; rfl
    · cases hk⟩
theorem NFn.frozen (h : NFn w g n f) (k : Nat) : w.frozen? ⟨g, k, none⟩ = false := by obtain ⟨ns, _, h2, _⟩ := h; exact h2.1.frozen k
theorem NFn.get (h : NFn w g n f) {k : Nat} (hk : k < n) : ∃ A c l, (∀ X, Below w.heap.size w X → X.cell? ⟨g, k, none⟩ = some (.slice A (l : List Nat).length c)) ∧ NatR w A c l (f k) := by
  obtain ⟨ns, h1, h2, h3⟩ := h
  obtain ⟨z, hz⟩ : ∃ z, ns[k]? = some z := ⟨ns[k]'(by omega), List.getElem?_eq_getElem (by omega)⟩
  refine ⟨z.A, z.c, z.l, fun X hX => (h2.1.on hX).cell (nmCells_get hz), ?_⟩
  rw [← h3 k z hz]
  exact h2.2 z (List.mem_of_getElem? hz)
theorem NFn.set (h : NFn w g n f) {k : Nat} (hk : k < n) {A : Option Addr} {c x : Nat} {l : List Nat} (hx : NatR w A c l x) : NFn (w.setCell ⟨g, k, none⟩ (.slice A l.length c)) g n (fun i => if i = k then x else f i) := by
  obtain ⟨ns, h1, h2, h3⟩ := h
  refine ⟨ns.set k ⟨A, c, l, x⟩, by rw [List.length_set, h1], h2.set k ⟨A, c, l, x⟩ hx, fun i z hi => ?_⟩
  by_cases e : i = k
  · subst e
    rw [List.getElem?_set_self (by omega)] at hi
    cases hi
    simp
  · rw [List.getElem?_set_ne (Ne.symm e)] at hi
    show z.x = if i = k then x else f i
    rw [if_neg e]
    exact h3 i z hi
end
/-- one element more at the front of a part -/
theorem segL_step {l : List Int} {i j : Nat} {x : Int} (hij : i < j) (hx : l[i]? = some x) : segL l i j = x :: segL l (i + 1) j := by
  have hlt := (List.getElem?_eq_some_iff.1 hx).1
  unfold segL
  rw [List.drop_eq_getElem_cons hlt, (List.getElem?_eq_some_iff.1 hx).2, show j - i = (j - (i + 1)) + 1 by omega, List.take_succ_cons]
theorem segL_none (l : List Int) (j : Nat) : segL l j j = [] := by simp [segL]
theorem seg_next {l : List Int} {i j : Nat} {x : Int} (hij : i < j) (hx : l[i]? = some x) : (segL l i j).sum = (segL l (i + 1) j).sum + x ∧ sqs (segL l i j) = sqs (segL l (i + 1) j) + x * x := by
  rw [segL_step hij hx]
  constructor
  · rw [List.sum_cons, Int.add_comm]
  · unfold sqs
    rw [List.map_cons, List.sum_cons, Int.add_comm]
theorem segL_len_le (l : List Int) (i j : Nat) : (segL l i j).length ≤ j - i := by unfold segL; rw [List.length_take]; omega
/-- how great the sums are -/
theorem seg_bound {l : List Int} (h : ∀ z ∈ l, z.natAbs ≤ 1000000) {i j : Nat} (hj : j ≤ 300) : (segL l i j).sum.natAbs ≤ 300000000 ∧ 0 ≤ sqs (segL l i j) ∧ (sqs (segL l i j)).toNat ≤ 300000000000000 := by
  have hm : ∀ z ∈ segL l i j, z.natAbs ≤ 1000000 := fun z hz => h z (segL_mem hz)
  have h1 := sum_le hm
  have h2 := sqs_le hm
  have h3 := segL_len_le l i j
  exact ⟨by omega, sqs_nonneg _, by omega⟩
/-- a division is put into a variable -/
theorem DvB.put {w : World} {b : Nat} {T : TypeId} {h y : Dv} (hd : DvB w b T h) (hy : DvR w y) :
    DvB ((w.setCell ⟨b, 0, none⟩ (.slice y.A1 y.l1.length y.c1)).setCell ⟨b, 1, none⟩ (.slice y.A2 y.zs.length y.c2)) b T y ∧
    Fr (fun i => i = b) w ((w.setCell ⟨b, 0, none⟩ (.slice y.A1 y.l1.length y.c1)).setCell ⟨b, 1, none⟩ (.slice y.A2 y.zs.length y.c2)) := by
  have hf : Fr (fun i => i = b) w ((w.setCell ⟨b, 0, none⟩ (.slice y.A1 y.l1.length y.c1)).setCell ⟨b, 1, none⟩ (.slice y.A2 y.zs.length y.c2)) :=
    ((Fr.refl (fun i => i = b) w).setCell (p := ⟨b, 0, none⟩) (fun _ => rfl) _).setCell (p := ⟨b, 1, none⟩) (fun _ => rfl) _
  refine ⟨⟨?_, hy.frB hd hf⟩, hf⟩
  have e := hd.1
  simp [World.setCell, Array.getElem?_modify, e, Dv.v]
/-- .. its number alone -/
theorem DvB.put0 {w : World} {b : Nat} {T : TypeId} {h : Dv} (hd : DvB w b T h) {A : Option Addr} {c x : Nat} {l : List Nat} (hx : NatR w A c l x) :
    DvB (w.setCell ⟨b, 0, none⟩ (.slice A l.length c)) b T { h with A1 := A, c1 := c, l1 := l, x := x } ∧ Fr (fun i => i = b) w (w.setCell ⟨b, 0, none⟩ (.slice A l.length c)) := by
  have hf : Fr (fun i => i = b) w (w.setCell ⟨b, 0, none⟩ (.slice A l.length c)) := (Fr.refl (fun i => i = b) w).setCell (p := ⟨b, 0, none⟩) (fun _ => rfl) _
  have hy : DvR w { h with A1 := A, c1 := c, l1 := l, x := x } := ⟨hx, hd.2.2⟩
  refine ⟨⟨?_, hy.frB hd hf⟩, hf⟩
  have e := hd.1
  simp [World.setCell, Array.getElem?_modify, e, Dv.v]
/-- .. its list alone -/
theorem DvB.put1 {w : World} {b : Nat} {T : TypeId} {h : Dv} (hd : DvB w b T h) {A : Option Addr} {c : Nat} {zs : List Nat} (hz : PlR w A c zs) :
    DvB (w.setCell ⟨b, 1, none⟩ (.slice A zs.length c)) b T { h with A2 := A, c2 := c, zs := zs } ∧ Fr (fun i => i = b) w (w.setCell ⟨b, 1, none⟩ (.slice A zs.length c)) := by
  have hf : Fr (fun i => i = b) w (w.setCell ⟨b, 1, none⟩ (.slice A zs.length c)) := (Fr.refl (fun i => i = b) w).setCell (p := ⟨b, 1, none⟩) (fun _ => rfl) _
  have hy : DvR w { h with A2 := A, c2 := c, zs := zs } := ⟨hd.2.1, hz⟩
  refine ⟨⟨?_, hy.frB hd hf⟩, hf⟩
  have e := hd.1
  simp [World.setCell, Array.getElem?_modify, e, Dv.v]
/-- a new variable -/
theorem DvB.new {w : World} {T : TypeId} {y : Dv} (hy : DvR w y) : DvB (w.alloc (.cells y.v.toArray T)) w.heap.size T y := ⟨alloc_at _ _ _ rfl, hy.on ((Below.refl _ w).alloc (Nat.le_refl _) _)⟩
end Go.Proofs.YtnpfdelklolchaaGreatDoor
