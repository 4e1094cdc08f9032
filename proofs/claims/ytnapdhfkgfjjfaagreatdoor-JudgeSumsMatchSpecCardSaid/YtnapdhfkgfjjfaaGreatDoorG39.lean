import Derived.StillTailTactics
import Derived.Test.YtnapdhfkgfjjfaaGreatDoorJRnkW
/- Package judge: choose (all ways to choose some elements). -/
namespace Go.Proofs.YtnapdhfkgfjjfaaGreatDoor
open Go Go.RowKit Go.Proofs

/-- the counts of a ranking in memory -/
def RkB (w : World) (O : Nat) (V lo hi al : Int) : Prop := w.heap[O]? = some (.cells #[.int .i64 V, .int .i64 lo, .int .i64 hi, .int .i64 al] 24 (0, 0))
theorem RkB.ne {w : World} {O g : Nat} {V lo hi al : Int} {l : List Int} (h : RkB w O V lo hi al) (hg : IBlk w g l) : g ≠ O := by
  intro e
  subst e
  unfold RkB IBlk at *
  rw [h] at hg
  injection hg with hg
  injection hg with _ h2 _
  exact absurd h2 (by decide)
theorem RkB.set {w : World} {O : Nat} {V lo hi al : Int} (h : RkB w O V lo hi al) :
    RkB (w.setCell ⟨O, 3, none⟩ (.int .i64 (al + 1))) O V lo hi (al + 1) ∧ RkB (w.setCell ⟨O, 1, none⟩ (.int .i64 (lo + 1))) O V (lo + 1) hi al ∧ RkB (w.setCell ⟨O, 2, none⟩ (.int .i64 (hi + 1))) O V lo (hi + 1) al :=
  ⟨rk_set h _, rk_set h _, rk_set h _⟩
theorem RkB.drew {w : World} {O : Nat} {V lo hi al : Int} (h : RkB w O V lo hi al) : RkB w.drew O V lo hi al := ((Below.refl _ w).drew.block O (heap_lt h)).trans h
theorem IBlk.drew {w : World} {g : Nat} {l : List Int} (h : IBlk w g l) : IBlk w.drew g l := ((Below.refl _ w).drew.block g (heap_lt h)).trans h
theorem cnt_nil (v : Int) : cntLe v [] = 0 ∧ cntGe v [] = 0 := ⟨rfl, rfl⟩
theorem cnt_app (v : Int) (l m : List Int) : cntLe v (l ++ m) = cntLe v l + cntLe v m ∧ cntGe v (l ++ m) = cntGe v l + cntGe v m := ⟨List.countP_append, List.countP_append⟩
theorem chs_at {l : List Int} {k left : Nat} {x : Int} (h : l[k]? = some x) (V : Int) :
    cntLe V (chs (l.drop k) (left + 1)) = cntLe (V - x) (chs (l.drop (k + 1)) left) + cntLe V (chs (l.drop (k + 1)) (left + 1)) ∧
    cntGe V (chs (l.drop k) (left + 1)) = cntGe (V - x) (chs (l.drop (k + 1)) left) + cntGe V (chs (l.drop (k + 1)) (left + 1)) ∧
    (chs (l.drop k) (left + 1)).length = (chs (l.drop (k + 1)) left).length + (chs (l.drop (k + 1)) (left + 1)).length := by
  have hlt := (List.getElem?_eq_some_iff.1 h).1
  have e : l.drop k = x :: l.drop (k + 1) := by
    rw [List.drop_eq_getElem_cons hlt]
    congr 1
    exact (List.getElem?_eq_some_iff.1 h).2
  rw [e, chs_cons, (cnt_app _ _ _).1, (cnt_app _ _ _).2, cntLe_shift, cntGe_shift, List.length_append, List.length_map]
  exact ⟨rfl, rfl, rfl⟩
set_option maxHeartbeats 8000000 in
set_option maxRecDepth 100000 in
theorem jChoose_any (l : List Int) (g c O : Nat) (V : Int) (hl : l.length ≤ 40) (hc : l.length ≤ c) (hV : -1000000000 ≤ V ∧ V ≤ 1000000000) (hx : ∀ x ∈ l, -1000000 ≤ x ∧ x ≤ 1000000) : ∀ (left i : Nat) (s lo hi al : Int) (w : World), IBlk w g l → RkB w O V lo hi al → left ≤ 40 → i ≤ l.length → -1000000000 + 1000000 * (left : Int) ≤ s → s ≤ 1000000000 - 1000000 * (left : Int) → 0 ≤ lo → lo ≤ al → 0 ≤ hi → hi ≤ al → al + ((chs (l.drop i) left).length : Int) ≤ 1099511627776 →
    Calls Tryz.prog 32 #[.agg #[.slice (some ⟨g, 0, none⟩) l.length c, .pointer (some ⟨O, 0, none⟩)], .int .i64 (i : Nat), .int .i64 (left : Nat), .int .i64 s] w fun e w' => e = .returned (.tuple #[]) ∧ RkB w' O V (lo + (cntLe (V - s) (chs (l.drop i) left) : Nat)) (hi + (cntGe (V - s) (chs (l.drop i) left) : Nat)) (al + ((chs (l.drop i) left).length : Nat)) ∧ Fr (fun b => b = O) w w' := by
  intro left
  induction left with
  | zero =>
    intro i s lo hi al w hg ho hleft hi' hs0 hs1 hlo hlo2 hhi hhi2 hal
    rw [chs_zero] at hal ⊢
    obtain ⟨W0, hW0⟩ : ∃ W0, W0 = w.alloc (.cells #[.slice (some ⟨g, 0, none⟩) l.length c, .pointer (some ⟨O, 0, none⟩)] 61) := ⟨_, rfl⟩
    have hOl := heap_lt ho
    have ho0 : RkB W0 O V lo hi al := by rw [hW0]; exact (Below.heap_alloc w _ O hOl).trans ho
    have hb0 : W0.heap[w.heap.size]? = some (.cells #[.slice (some ⟨g, 0, none⟩) l.length c, .pointer (some ⟨O, 0, none⟩)] 61 (0, 0)) := by rw [hW0]; exact alloc_at _ _ _ rfl
    have hf0 : Fr (fun i => i = O) w W0 := by rw [hW0]; exact (Fr.refl _ w).alloc _
    have c1 : W0.cell? ⟨w.heap.size, 1, none⟩ = some (.pointer (some ⟨O, 0, none⟩)) := by rw [cellsAt hb0]; rfl
    obtain ⟨W1, hW1⟩ : ∃ W1, W1 = W0.setCell ⟨O, 3, none⟩ (.int .i64 (al + 1)) := ⟨_, rfl⟩
    have ho1 : RkB W1 O V lo hi (al + 1) := by rw [hW1]; exact ho0.set.1
    have hf1 : Fr (fun i => i = O) w W1 := by rw [hW1]; exact hf0.setCell (p := ⟨O, 3, none⟩) (fun _ => rfl) _
    have hb1 : W1.heap[w.heap.size]? = some (.cells #[.slice (some ⟨g, 0, none⟩) l.length c, .pointer (some ⟨O, 0, none⟩)] 61 (0, 0)) := by rw [hW1]; exact (Below.heap_setCell W0 ⟨O, 3, none⟩ _ w.heap.size (Nat.ne_of_gt hOl)).trans hb0
    have d1 : W1.cell? ⟨w.heap.size, 1, none⟩ = some (.pointer (some ⟨O, 0, none⟩)) := by rw [cellsAt hb1]; rfl
    have k3 : W0.cell? ⟨O, 3, none⟩ = some (.int .i64 al) := by rw [cellsAt ho0]; rfl
    have m0 : W1.cell? ⟨O, 0, none⟩ = some (.int .i64 V) := by rw [cellsAt ho1]; rfl
    have m1 : W1.cell? ⟨O, 1, none⟩ = some (.int .i64 lo) := by rw [cellsAt ho1]; rfl
    have m2 : W1.cell? ⟨O, 2, none⟩ = some (.int .i64 hi) := by rw [cellsAt ho1]; rfl
    have z3 := frozenAt ho0 3
    have z1 := frozenAt ho1 1
    have z2 := frozenAt ho1 2
    have hlO := heap_lt ho0
    have hlO1 := heap_lt ho1
    have hHO1 := Lib.hid ho1
    have hHF1 := Lib.hid hf1
    have hb1' := Lib.hid hb1
    have HOL := Lib.hid hOl
    have s1 := ho1.set.2.1
    obtain ⟨W2, hW2⟩ : ∃ W2, W2 = W1.setCell ⟨O, 1, none⟩ (.int .i64 (lo + 1)) := ⟨_, rfl⟩
    rw [← hW2] at s1
    have hf2 : Fr (fun i => i = O) w W2 := by rw [hW2]; exact hf1.setCell (p := ⟨O, 1, none⟩) (fun _ => rfl) _
    have hb2 : W2.heap[w.heap.size]? = some (.cells #[.slice (some ⟨g, 0, none⟩) l.length c, .pointer (some ⟨O, 0, none⟩)] 61 (0, 0)) := by rw [hW2]; exact (Below.heap_setCell W1 ⟨O, 1, none⟩ _ w.heap.size (Nat.ne_of_gt hOl)).trans hb1
    have f1 : W2.cell? ⟨w.heap.size, 1, none⟩ = some (.pointer (some ⟨O, 0, none⟩)) := by rw [cellsAt hb2]; rfl
    have n0 : W2.cell? ⟨O, 0, none⟩ = some (.int .i64 V) := by rw [cellsAt s1]; rfl
    have n2 : W2.cell? ⟨O, 2, none⟩ = some (.int .i64 hi) := by rw [cellsAt s1]; rfl
    have y2 := frozenAt s1 2
    have hlO2 := heap_lt s1
    have HS1 := Lib.hid s1
    have HF2 := Lib.hid hf2
    have al1 : al + 1 ≤ 1099511627776 := by simpa using hal
    clear hal ho hg ho0 hb0 hf0 ho1 hf1 hb1 s1 hf2 hb2 hOl
    have e0 : (((0 : Nat) : Int) == 0) = true := rfl
    have l0 : 0 ≤ lo + 1 := by omega
    by_cases h1 : s ≤ V
    · have t1 : decide (s ≤ V) = true := decide_eq_true h1
      have q1 : cntLe (V - s) [0] = 1 := by
        unfold cntLe; rw [List.countP_cons, List.countP_nil, decide_eq_true (by omega)]; rfl
      by_cases h2 : V ≤ s
      · have t2 : decide (V ≤ s) = true := decide_eq_true h2
        have q2 : cntGe (V - s) [0] = 1 := by
          unfold cntGe; rw [List.countP_cons, List.countP_nil, decide_eq_true (by omega)]; rfl
        rw [q1, q2]
        have HFF := Lib.hid (show RkB (W2.setCell ⟨O, 2, none⟩ (.int .i64 (hi + 1))) O V (lo + 1) (hi + 1) (al + 1) ∧ Fr (fun i => i = O) w (W2.setCell ⟨O, 2, none⟩ (.int .i64 (hi + 1))) from ⟨HS1.out.set.2.2, HF2.out.setCell (p := ⟨O, 2, none⟩) (fun _ => rfl) _⟩)
        clear q1 q2 h1 h2
        rw [hW2] at f1 n0 n2 y2 hlO2
        rw [hW1] at d1 m0 m1 m2 z1 z2 hlO1 f1 n0 n2 y2 hlO2
        have HW1 := Lib.hid hW1
        have HW2 := Lib.hid hW2
        clear hW1 hW2
        go_enter Tryz.func32, Tryz.ntmps32
        go_upto_region 1 with fail
        rw [← hW0]
        clear hW0
        go_wp2
        rw [← HW1.out, ← HW2.out]
        refine bodyPost_ret (v := .tuple #[]) (by simp [results, Tryz.results32, go_sem]) rfl ⟨rfl, HFF.out⟩
      · have t2 : decide (V ≤ s) = false := decide_eq_false h2
        have q2 : cntGe (V - s) [0] = 0 := by
          unfold cntGe; rw [List.countP_cons, List.countP_nil, decide_eq_false (by omega)]; rfl
        rw [q1, q2]
        have HFF := Lib.hid (show RkB W2 O V (lo + 1) (hi + 0) (al + 1) ∧ Fr (fun i => i = O) w W2 from ⟨by rw [Int.add_zero]; exact HS1.out, HF2.out⟩)
        clear q1 q2 h1 h2
        rw [hW2] at f1 n0 n2 y2 hlO2
        rw [hW1] at d1 m0 m1 m2 z1 z2 hlO1 f1 n0 n2 y2 hlO2
        have HW1 := Lib.hid hW1
        have HW2 := Lib.hid hW2
        clear hW1 hW2
        go_enter Tryz.func32, Tryz.ntmps32
        go_upto_region 1 with fail
        rw [← hW0]
        clear hW0
        go_wp2
        rw [← HW1.out, ← HW2.out]
        refine bodyPost_ret (v := .tuple #[]) (by simp [results, Tryz.results32, go_sem]) rfl ⟨rfl, HFF.out⟩
    · have t1 : decide (s ≤ V) = false := decide_eq_false h1
      have h2 : V ≤ s := by omega
      have t2 : decide (V ≤ s) = true := decide_eq_true h2
      have q1 : cntLe (V - s) [0] = 0 := by
        unfold cntLe; rw [List.countP_cons, List.countP_nil, decide_eq_false (by omega)]; rfl
      have q2 : cntGe (V - s) [0] = 1 := by
        unfold cntGe; rw [List.countP_cons, List.countP_nil, decide_eq_true (by omega)]; rfl
      rw [q1, q2]
      have HFF := Lib.hid (show RkB (W1.setCell ⟨O, 2, none⟩ (.int .i64 (hi + 1))) O V (lo + 0) (hi + 1) (al + 1) ∧ Fr (fun i => i = O) w (W1.setCell ⟨O, 2, none⟩ (.int .i64 (hi + 1))) from ⟨by rw [Int.add_zero]; exact hHO1.out.set.2.2, hHF1.out.setCell (p := ⟨O, 2, none⟩) (fun _ => rfl) _⟩)
      clear q1 q2 h1 h2 f1 n0 n2 y2 hlO2
      rw [hW1] at d1 m0 m1 m2 z1 z2 hlO1
      have HW1 := Lib.hid hW1
      clear hW1 hW2
      go_enter Tryz.func32, Tryz.ntmps32
      go_upto_region 1 with fail
      rw [← hW0]
      clear hW0
      go_wp2
      rw [← HW1.out]
      refine bodyPost_ret (v := .tuple #[]) (by simp [results, Tryz.results32, go_sem]) rfl ⟨rfl, HFF.out⟩
  | succ left ih =>
    intro i s lo hi al w hg ho hleft hi' hs0 hs1 hlo hlo2 hhi hhi2 hal
    have IH := Lib.hid (fun i' s' lo' hi'' al' W (h1 : IBlk W g l) (h2 : RkB W O V lo' hi'' al') => ih i' s' lo' hi'' al' W h1 h2 (by omega))
    obtain ⟨T, hT⟩ : ∃ T : Nat, T = (chs (l.drop i) (left + 1)).length := ⟨_, rfl⟩
    obtain ⟨TL, hTL⟩ : ∃ T : Nat, T = cntLe (V - s) (chs (l.drop i) (left + 1)) := ⟨_, rfl⟩
    obtain ⟨TG, hTG⟩ : ∃ T : Nat, T = cntGe (V - s) (chs (l.drop i) (left + 1)) := ⟨_, rfl⟩
    rw [← hT] at hal ⊢
    rw [← hTL, ← hTG]
    have HT := Lib.hid (And.intro hT (And.intro hTL hTG))
    have HAT := Lib.hid (fun k x (h : l[k]? = some x) => chs_at (left := left) h (V - s))
    have HOV := Lib.hid (fun k (h : l.length < k + (left + 1)) => chs_over (l.drop k) (left + 1) (by rw [List.length_drop]; omega))
    have HCL := Lib.hid (fun k => (show cntLe (V - s) (chs (l.drop k) (left + 1)) ≤ (chs (l.drop k) (left + 1)).length from List.countP_le_length))
    have HCG := Lib.hid (fun k => (show cntGe (V - s) (chs (l.drop k) (left + 1)) ≤ (chs (l.drop k) (left + 1)).length from List.countP_le_length))
    have HX := Lib.hid hx
    have HC := Lib.hid hc
    obtain ⟨W0, hW0⟩ : ∃ W0, W0 = w.alloc (.cells #[.slice (some ⟨g, 0, none⟩) l.length c, .pointer (some ⟨O, 0, none⟩)] 61) := ⟨_, rfl⟩
    have hOl := heap_lt ho
    have ho0 : RkB W0 O V lo hi al := by rw [hW0]; exact (Below.heap_alloc w _ O hOl).trans ho
    have hg0 : IBlk W0 g l := by rw [hW0]; exact (Below.heap_alloc w _ g (heap_lt hg)).trans hg
    have hb0 : W0.heap[w.heap.size]? = some (.cells #[.slice (some ⟨g, 0, none⟩) l.length c, .pointer (some ⟨O, 0, none⟩)] 61 (0, 0)) := by rw [hW0]; exact alloc_at _ _ _ rfl
    have hf0 : Fr (fun i => i = O) w W0 := by rw [hW0]; exact (Fr.refl _ w).alloc _
    have HO0 := Lib.hid ho0
    have HG0 := Lib.hid hg0
    have HB0 := Lib.hid hb0
    have HF0 := Lib.hid hf0
    have HOL := Lib.hid (show O < w.heap.size from hOl)
    have HNE := Lib.hid (ho.ne hg)
    have HAL := Lib.hid hal
    have e0 : (((left + 1 : Nat) : Int) == 0) = false := by rw [beq_eq_false_iff_ne]; omega
    have HLE := Lib.hid (show ((left + 1 : Nat) : Int) - 1 = (left : Int) by omega)
    obtain ⟨M, hM⟩ : ∃ M, M = left + 1 := ⟨_, rfl⟩
    rw [← hM] at e0 HLE
    have HM := Lib.hid hM
    have hM40 : M ≤ 40 := by omega
    have hs0' : -1000000000 + 1000000 * (M : Int) ≤ s := by rw [hM]; exact hs0
    have hs1' : s ≤ 1000000000 - 1000000 * (M : Int) := by rw [hM]; exact hs1
    clear ih hT hTL hTG ho hg ho0 hg0 hb0 hf0 hx hc hOl hal hV hs0 hs1
    rw [← hM]
    clear hM
    go_enter Tryz.func32, Tryz.ntmps32
    go_upto_region 1 with fail
    rw [← hW0]
    clear hW0
    go_wp2
    go_loopw [8] (fun kv wr => ∃ (k : Nat) (lo1 hi1 al1 : Int), kv = .int .i64 (k : Nat) ∧ k ≤ l.length ∧ RkB wr O V lo1 hi1 al1 ∧ IBlk wr g l ∧ wr.heap[w.heap.size]? = some (.cells #[.slice (some ⟨g, 0, none⟩) l.length c, .pointer (some ⟨O, 0, none⟩)] 61 (0, 0)) ∧ Fr (fun i => i = O) w wr ∧ lo1 + (cntLe (V - s) (chs (l.drop k) (left + 1)) : Nat) = lo + (TL : Nat) ∧ hi1 + (cntGe (V - s) (chs (l.drop k) (left + 1)) : Nat) = hi + (TG : Nat) ∧ al1 + ((chs (l.drop k) (left + 1)).length : Nat) = al + (T : Nat) ∧ 0 ≤ lo1 ∧ lo1 ≤ al1 ∧ 0 ≤ hi1 ∧ hi1 ≤ al1) (fun kv _ => l.length - (intOf kv).toNat)
    case atStart => exact ⟨i, lo, hi, al, rfl, hi', HO0.out, HG0.out, HB0.out, HF0.out, by rw [HT.out.2.1], by rw [HT.out.2.2], by rw [HT.out.1], hlo, hlo2, hhi, hhi2⟩
    case round =>
      obtain ⟨k, lo1, hi1, al1, rfl, hk, hob, hgb, hbb, hfb, p1, p2, p3, b0, b1, b2, b3⟩ := hrel
      have HOB := Lib.hid hob
      have HGB := Lib.hid hgb
      have HBB := Lib.hid hbb
      have HFB := Lib.hid hfb
      have HP := Lib.hid (And.intro p1 (And.intro p2 p3))
      have HBD := Lib.hid (And.intro b0 (And.intro b1 (And.intro b2 b3)))
      have c0 : wr.cell? ⟨w.heap.size, 0, none⟩ = some (.slice (some ⟨g, 0, none⟩) l.length c) := by rw [cellsAt hbb]; rfl
      have c1 : wr.cell? ⟨w.heap.size, 1, none⟩ = some (.pointer (some ⟨O, 0, none⟩)) := by rw [cellsAt hbb]; rfl
      have hwl := heap_lt hbb
      clear hob hgb hbb hfb p1 p2 p3 b0 b1 b2 b3 HO0 HG0 HB0 HF0
      by_cases hlt : k + M ≤ l.length
      · have hkl : k < l.length := by have := HM.out; omega
        obtain ⟨x, hxk⟩ : ∃ x, l[k]? = some x := ⟨_, List.getElem?_eq_getElem hkl⟩
        have hxb := HX.out x (List.mem_of_getElem? hxk)
        have hx0 := hxb.1
        have hx1 := hxb.2
        obtain ⟨a1, a2, a3⟩ := HAT.out k x hxk
        have cx := HGB.out.cell hxk
        have t1 : decide ((k : Int) + (M : Int) ≤ (l.length : Int)) = true := decide_eq_true (by omega)
        have q1 : (0 : Int) ≤ (k : Int) := by omega
        have q2 : (k : Int) < (l.length : Int) := by omega
        have q3 : IntKind.i64.wrap (s + x) = s + x := IntWalk.i64_in _ (by omega)
        have HIH := Lib.hid (show ∀ W, IBlk W g l → RkB W O V lo1 hi1 al1 → _ from fun W g1 g2 => IH.out (k + 1) (s + x) lo1 hi1 al1 W g1 g2 (by omega) (by have := HM.out; omega) (by have := HM.out; omega) HBD.out.1 HBD.out.2.1 HBD.out.2.2.1 HBD.out.2.2.2 (by have := HP.out.2.2; have := HAL.out; omega))
        have HIH2 := Lib.hid (show ∀ W, IBlk W g l → RkB W O V lo1 hi1 al1 → Calls Tryz.prog 32 #[.agg #[.slice (some ⟨g, 0, none⟩) l.length c, .pointer (some ⟨O, 0, none⟩)], .int .i64 ((k : Int) + 1), .int .i64 ((M : Int) - 1), .int .i64 (s + x)] W fun e w' => e = .returned (.tuple #[]) ∧ RkB w' O V (lo1 + (cntLe (V - s - x) (chs (l.drop (k + 1)) left) : Nat)) (hi1 + (cntGe (V - s - x) (chs (l.drop (k + 1)) left) : Nat)) (al1 + ((chs (l.drop (k + 1)) left).length : Nat)) ∧ Fr (fun b => b = O) W w' from fun W g1 g2 => by
          have h := HIH.out W g1 g2
          rw [show V - (s + x) = V - s - x by omega] at h
          rw [HLE.out, show (k : Int) + 1 = ((k + 1 : Nat) : Int) by omega]
          exact h)
        have y1 : cntLe (V - s - x) (chs (l.drop (k + 1)) left) ≤ (chs (l.drop (k + 1)) left).length := List.countP_le_length
        have y2 : cntGe (V - s - x) (chs (l.drop (k + 1)) left) ≤ (chs (l.drop (k + 1)) left).length := List.countP_le_length
        obtain ⟨p1, p2, p3⟩ := HP.out
        obtain ⟨b0, b1, b2, b3⟩ := HBD.out
        have HN := Lib.hid (show lo1 + (cntLe (V - s - x) (chs (l.drop (k + 1)) left) : Nat) + (cntLe (V - s) (chs (l.drop (k + 1)) (left + 1)) : Nat) = lo + (TL : Nat) ∧ hi1 + (cntGe (V - s - x) (chs (l.drop (k + 1)) left) : Nat) + (cntGe (V - s) (chs (l.drop (k + 1)) (left + 1)) : Nat) = hi + (TG : Nat) ∧ al1 + ((chs (l.drop (k + 1)) left).length : Nat) + ((chs (l.drop (k + 1)) (left + 1)).length : Nat) = al + (T : Nat) ∧ 0 ≤ lo1 + (cntLe (V - s - x) (chs (l.drop (k + 1)) left) : Nat) ∧ lo1 + (cntLe (V - s - x) (chs (l.drop (k + 1)) left) : Nat) ≤ al1 + ((chs (l.drop (k + 1)) left).length : Nat) ∧ 0 ≤ hi1 + (cntGe (V - s - x) (chs (l.drop (k + 1)) left) : Nat) ∧ hi1 + (cntGe (V - s - x) (chs (l.drop (k + 1)) left) : Nat) ≤ al1 + ((chs (l.drop (k + 1)) left).length : Nat) from by
          refine ⟨?_, ?_, ?_, ?_, ?_, ?_, ?_⟩ <;> omega)
        clear a1 a2 a3 hxk hxb y1 y2 p1 p2 p3 b0 b1 b2 b3
        go_wp2
        refine wp_region_still_tail 12 (by kernel_rfl) (by kernel_rfl) ?_
        simp only [List.take_succ_cons, List.take_zero, List.drop_succ_cons, List.drop_zero]
        repeat still_step
        refine wpStill_nil ?_
        change wpList _ _ _ _ _ wr.drew
        go_wp2_with fail
        (with_reducible refine (HIH2.out wr.drew (IBlk.drew HGB.out) (RkB.drew HOB.out)).mono ?_)
        rintro e w5 ⟨rfl, ho5, hf5⟩
        have HO5 := Lib.hid ho5
        have HG5 := Lib.hid (show IBlk w5 g l from (hf5.block g (heap_lt HGB.out) HNE.out).trans HGB.out)
        have HB5 := Lib.hid ((hf5.block w.heap.size hwl (by have := HOL.out; omega)).trans HBB.out)
        have HF5 := Lib.hid (show Fr (fun i => i = O) w w5 from HFB.out.drew.trans hf5 fun i _ h => h)
        clear ho5 hf5 hwl
        go_wp2
        go_roundw
        case rel => exact ⟨k + 1, _, _, _, by go_num, hkl, HO5.out, HG5.out, HB5.out, HF5.out, HN.out⟩
        case measure => simp [intOf]; omega
      · have t1 : decide ((k : Int) + (M : Int) ≤ (l.length : Int)) = false := decide_eq_false (by omega)
        have hnil := HOV.out k (by have := HM.out; omega)
        obtain ⟨p1, p2, p3⟩ := HP.out
        rw [hnil] at p1 p2 p3
        have HE := Lib.hid (show lo1 = lo + (TL : Nat) ∧ hi1 = hi + (TG : Nat) ∧ al1 = al + (T : Nat) from ⟨by rw [(cnt_nil _).1] at p1; omega, by rw [(cnt_nil _).2] at p2; omega, by simp at p3; omega⟩)
        clear hnil p1 p2 p3
        go_wp2
        go_end0
        exact ⟨rfl, by rw [← HE.out.1, ← HE.out.2.1, ← HE.out.2.2]; exact HOB.out, HFB.out⟩
end Go.Proofs.YtnapdhfkgfjjfaaGreatDoor

/- Package judge: Sums. -/
namespace Go.Proofs.YtnapdhfkgfjjfaaGreatDoor
open Go Go.RowKit Go.Proofs

/-- what Sums returns -/
def smP (a b : List Int) (w : World) (e : Ending) (w' : World) : Prop :=
  (smC a b 24 ≠ 0 ∧ e = .returned (.tuple #[rkZ, .int .i64 (smC a b 24)]) ∧ Below w.heap.size w w') ∨ (smC a b 24 = 0 ∧ e = .returned (.tuple #[.agg #[.int .i64 a.sum, .int .i64 (cntLe a.sum (chs (a ++ b) a.length) : Nat), .int .i64 (cntGe a.sum (chs (a ++ b) a.length) : Nat), .int .i64 ((chs (a ++ b) a.length).length : Nat)], .int .i64 0]) ∧ Below w.heap.size w w')
theorem take_sum {a : List Int} {k : Nat} {x : Int} (h : a[k]? = some x) : (a.take (k + 1)).sum = (a.take k).sum + x := by rw [List.take_add_one, h]; simp
theorem take_bd {a : List Int} (h : ∀ x ∈ a, -1000000 ≤ x ∧ x ≤ 1000000) : ∀ k : Nat, k ≤ a.length → -(1000000 * (k : Int)) ≤ (a.take k).sum ∧ (a.take k).sum ≤ 1000000 * (k : Int)
  | 0, _ => by simp
  | k + 1, hk => by
    have ih := take_bd h k (by omega)
    obtain ⟨x, hx⟩ : ∃ x, a[k]? = some x := ⟨_, List.getElem?_eq_getElem (by omega)⟩
    have hb := h x (List.mem_of_getElem? hx)
    rw [take_sum hx]; omega
theorem okZ_of {a b : List Int} {m : Int} (h : smC a b m = 0) : okZ (a ++ b) = true := by
  unfold smC at h
  split at h
  · cases h
  · split at h
    · cases h
    · split at h
      · assumption
      · cases h
set_option maxHeartbeats 8000000 in
set_option maxRecDepth 100000 in
theorem jSums_any (A B : Option Addr) (c d : Nat) (a b : List Int) (w : World) (hr1 : Rd w 0 w.heap.size 1 A a.length (ints a)) (hr2 : Rd w 0 w.heap.size 1 B b.length (ints b)) (hc1 : a.length ≤ c) (hc2 : b.length ≤ d) (hm1 : a.length ≤ 4000000000000000000) (hm2 : b.length ≤ 4000000000000000000) :
    Calls Tryz.prog 11 #[.slice A a.length c, .slice B b.length d] w (smP a b w) := by
  unfold smP
  have HR1 := Lib.hid hr1
  have HR2 := Lib.hid hr2
  have HCK := Lib.hid (fun W (hW : Below w.heap.size w W) => jChkSmp_any A B c d a b 24 W (hr1.old hW) (hr2.old hW) (by omega) (by omega) (by omega) (by omega))
  have hok := smC_ok (a := a) (b := b) (m := 24)
  have hoz := okZ_of (a := a) (b := b) (m := 24)
  obtain ⟨C, hC⟩ : ∃ C, C = smC a b 24 := ⟨_, rfl⟩
  rw [← hC] at HCK hok hoz ⊢
  obtain ⟨W0, hW0⟩ : ∃ W0, W0 = w.alloc (.cells #[.int .i64 0, .int .i64 0, .int .i64 0, .int .i64 0] 24) := ⟨_, rfl⟩
  have HST0 := Lib.hid (show St w W0 [(w.heap.size, .cells #[.int .i64 0, .int .i64 0, .int .i64 0, .int .i64 0] 24 (0, 0))] by rw [hW0]; exact (St.start w).alloc _ _ rfl)
  clear hC hr1 hr2
  by_cases hz : C = 0
  · obtain ⟨hN0, hM0, hNM⟩ := hok hz
    have hab : ∀ x ∈ a ++ b, -1000000 ≤ x ∧ x ≤ 1000000 := fun x hx => okZ_mem (hoz hz) hx
    have HXA := Lib.hid (show ∀ x ∈ a, -1000000 ≤ x ∧ x ≤ 1000000 from fun x hx => hab x (by simp [hx]))
    have HTB := Lib.hid (take_bd HXA.out)
    have HTS := Lib.hid (fun k x (h : a[k]? = some x) => take_sum h)
    have HC0 := Lib.hid hz
    have t1 : (C != 0) = false := by rw [hz]; rfl
    have HJ := Lib.hid (fun W (hW : Below w.heap.size w W) => jJoined_any A B c d a b W (HR1.out.old hW) (HR2.out.old hW) (by omega) (by omega))
    obtain ⟨all, hall⟩ : ∃ l, l = a ++ b := ⟨_, rfl⟩
    have hal : all.length = a.length + b.length := by rw [hall]; simp
    rw [← hall] at hab HJ ⊢
    have hl2 := chs_length_le all a.length
    have hl3 := two_pow (j := all.length) (by omega)
    have hsb := HTB.out a.length (Nat.le_refl _)
    rw [List.take_length] at hsb
    have HCH := Lib.hid (fun g O W (hg : IBlk W g all) (ho : RkB W O a.sum 0 0 0) => jChoose_any all g (a.length + b.length) O a.sum (by omega) (by omega) (by omega) hab a.length 0 0 0 0 0 W hg ho (by omega) (by omega) (by omega) (by omega) (by omega) (by omega) (by omega) (by omega) (by rw [List.drop_zero]; omega))
    rw [hal] at HCH
    simp only [List.drop_zero, Int.sub_zero, Int.zero_add, Int.natCast_zero] at HCH
    obtain ⟨V, hV⟩ : ∃ V, V = a.sum := ⟨_, rfl⟩
    obtain ⟨Lo, hLo⟩ : ∃ V, V = cntLe a.sum (chs all a.length) := ⟨_, rfl⟩
    obtain ⟨Hi, hHi⟩ : ∃ V, V = cntGe a.sum (chs all a.length) := ⟨_, rfl⟩
    obtain ⟨Al, hAl⟩ : ∃ V, V = (chs all a.length).length := ⟨_, rfl⟩
    rw [← hLo, ← hHi, ← hAl, ← hV] at HCH ⊢
    have HV := Lib.hid (show V = (a.take a.length).sum by rw [List.take_length, hV])
    have hN : a.length ≤ 24 := by omega
    have hN2 : b.length ≤ 24 := by omega
    clear hz hok hoz hall hal hab hl2 hl3 hsb hV hLo hHi hAl hNM hM0
    go_enter Tryz.func11, Tryz.ntmps11
    go_wp2_with fail
    rw [← hW0]
    clear hW0
    (with_reducible refine (HCK.out W0 HST0.out.below).mono ?_)
    rintro e w1 ⟨rfl, hb1⟩
    obtain ⟨W2, hW2⟩ : ∃ W2, W2 = w1.alloc (.cells #[.int .i64 0, .int .i64 0, .int .i64 0, .int .i64 0] 24) := ⟨_, rfl⟩
    have hst2 : St w W2 [(w.heap.size, .cells #[.int .i64 0, .int .i64 0, .int .i64 0, .int .i64 0] 24 (0, 0)), (w1.heap.size, .cells #[.int .i64 0, .int .i64 0, .int .i64 0, .int .i64 0] 24 (0, 0))] := by
      rw [hW2]
      exact (HST0.out.call hb1).alloc _ _ rfl
    obtain ⟨O, hO⟩ : ∃ O, O = w1.heap.size := ⟨_, rfl⟩
    have HB20 := Lib.hid hst2.below
    have HX0 := Lib.hid (show W2.heap[w.heap.size]? = some (.cells #[.int .i64 0, .int .i64 0, .int .i64 0, .int .i64 0] 24 (0, 0)) from (hst2.box 0 _ _ rfl).2)
    have HO2 := Lib.hid (show RkB W2 O 0 0 0 0 by rw [hO]; exact (hst2.box 1 _ _ rfl).2)
    have HOL := Lib.hid (show w.heap.size < O by rw [hO]; exact heap_lt ((HST0.out.call hb1).box 0 _ _ rfl).2)
    clear hst2 hb1
    go_upto_region 1 with fail
    go_upto_region 1 with fail
    go_wp2
    rw [← hW2, ← hO]
    clear hW2 hO
    go_loopw [19] (fun iv wr => ∃ k : Nat, iv = .int .i64 (k : Nat) ∧ k ≤ a.length ∧ RkB wr O (a.take k).sum 0 0 0 ∧ wr.heap[w.heap.size]? = some (.cells #[.int .i64 0, .int .i64 0, .int .i64 0, .int .i64 0] 24 (0, 0)) ∧ Below w.heap.size w wr) (fun iv _ => a.length - (intOf iv).toNat)
    case atStart => exact ⟨0, rfl, Nat.zero_le _, HO2.out, HX0.out, HB20.out⟩
    case round =>
      obtain ⟨k, rfl, hk, hob, hox, hbw⟩ := hrel
      have HBW := Lib.hid hbw
      have HOX := Lib.hid hox
      have HOB := Lib.hid hob
      obtain ⟨g0, g1⟩ := HTB.out k hk
      obtain ⟨S, hS⟩ : ∃ S, S = (a.take k).sum := ⟨_, rfl⟩
      rw [← hS] at g0 g1 hob
      have HS := Lib.hid hS
      have c0 : wr.cell? ⟨O, 0, none⟩ = some (.int .i64 S) := by rw [cellsAt hob]; rfl
      have z0 := frozenAt hob 0
      have hlo := heap_lt hob
      clear hbw hox hob hS HB20 HX0 HO2
      by_cases hlt : k < a.length
      · obtain ⟨b', o', u, rfl, hbB, hu, hc⟩ := (HR1.out.old HBW.out).at1 hlt
        obtain ⟨x, hx, rfl⟩ := ints_get hu
        have hxb := HXA.out x (List.mem_of_getElem? hx)
        have hx0 := hxb.1
        have hx1 := hxb.2
        have q1 : IntKind.i64.wrap (S + x) = S + x := IntWalk.i64_in _ (by omega)
        have HOY := Lib.hid (show RkB (wr.setCell ⟨O, 0, none⟩ (.int .i64 (S + x))) O (a.take (k + 1)).sum 0 0 0 by rw [HTS.out k x hx, ← HS.out]; exact rk_set HOB.out _)
        have HOX2 := Lib.hid ((Below.heap_setCell wr ⟨O, 0, none⟩ (.int .i64 (S + x)) w.heap.size (Nat.ne_of_lt HOL.out)).trans HOX.out)
        have HBW2 := Lib.hid (HBW.out.setCell (p := ⟨O, 0, none⟩) (Nat.le_of_lt HOL.out) (.int .i64 (S + x)))
        clear hxb hu hx
        go_wp2
        go_roundw
        case rel => exact ⟨k + 1, by go_num, by omega, HOY.out, HOX2.out, HBW2.out⟩
        case measure => simp [intOf]; omega
      · obtain rfl : k = a.length := by omega
        have HSV := Lib.hid (show RkB wr O V 0 0 0 by rw [HV.out]; exact HOB.out)
        clear c0 z0 hlo g0 g1
        go_wp2_with fail
        (with_reducible refine (HJ.out wr HBW.out).mono ?_)
        rintro e w5 ⟨g, rfl, hg5, hb5⟩
        have ho5 : RkB w5 O V 0 0 0 := (hb5.block O (heap_lt HSV.out)).trans HSV.out
        have hC := HCH.out g O w5 hg5 ho5
        have HC := Lib.hid hC
        have HX5 := Lib.hid ((hb5.block _ (heap_lt HOX.out)).trans HOX.out)
        have HB5 := Lib.hid (below_next HBW.out hb5)
        clear hg5 ho5 hC hb5
        go_wp2_with fail
        (with_reducible refine (HC.out).mono ?_)
        rintro e w6 ⟨rfl, ho6, hf6⟩
        have hox6 := (hf6.block w.heap.size (heap_lt HX5.out) (Nat.ne_of_lt HOL.out)).trans HX5.out
        have hb6 : Below w.heap.size w w6 := HB5.out.trans (hf6.below HB5.out.size fun i hi h => by have := HOL.out; omega)
        have k0 : w6.cell? ⟨O, 0, none⟩ = some (.int .i64 V) := by rw [cellsAt ho6]; rfl
        have k1 : w6.cell? ⟨O, 1, none⟩ = some (.int .i64 (Lo : Nat)) := by rw [cellsAt ho6]; rfl
        have k2 : w6.cell? ⟨O, 2, none⟩ = some (.int .i64 (Hi : Nat)) := by rw [cellsAt ho6]; rfl
        have k3 : w6.cell? ⟨O, 3, none⟩ = some (.int .i64 (Al : Nat)) := by rw [cellsAt ho6]; rfl
        have b0 : w6.cell? ⟨w.heap.size, 0, none⟩ = some (.int .i64 0) := by rw [cellsAt hox6]; rfl
        have b1 : w6.cell? ⟨w.heap.size, 1, none⟩ = some (.int .i64 0) := by rw [cellsAt hox6]; rfl
        have b2 : w6.cell? ⟨w.heap.size, 2, none⟩ = some (.int .i64 0) := by rw [cellsAt hox6]; rfl
        have b3 : w6.cell? ⟨w.heap.size, 3, none⟩ = some (.int .i64 0) := by rw [cellsAt hox6]; rfl
        have z0 := frozenAt hox6 0
        have z1 := frozenAt hox6 1
        have z2 := frozenAt hox6 2
        have z3 := frozenAt hox6 3
        have hlt6 := heap_lt hox6
        have HBF := Lib.hid (fun x y u v => (((hb6.setCell (p := ⟨w.heap.size, 0, none⟩) (Nat.le_refl _) x).setCell (p := ⟨w.heap.size, 1, none⟩) (Nat.le_refl _) y).setCell (p := ⟨w.heap.size, 2, none⟩) (Nat.le_refl _) u).setCell (p := ⟨w.heap.size, 3, none⟩) (Nat.le_refl _) v)
        clear ho6 hf6 hox6 hb6
        go_wp2
        refine bodyPost_ret (v := .tuple #[.agg #[.int .i64 V, .int .i64 (Lo : Nat), .int .i64 (Hi : Nat), .int .i64 (Al : Nat)], .int .i64 0]) (by simp [results, Tryz.results11, go_sem, b0, b1, b2, b3]) rfl (.inr ⟨HC0.out, rfl, HBF.out _ _ _ _⟩)
  · have t1 : (C != 0) = true := by rw [bne_iff_ne]; exact hz
    have HNE := Lib.hid hz
    clear hz hok hoz
    go_enter Tryz.func11, Tryz.ntmps11
    go_wp2_with fail
    rw [← hW0]
    clear hW0
    (with_reducible refine (HCK.out W0 HST0.out.below).mono ?_)
    rintro e w1 ⟨rfl, hb1⟩
    have hst1 := HST0.out.call hb1
    have k0 : w1.cell? ⟨w.heap.size, 0, none⟩ = some (.int .i64 0) := hst1.cell 0 0 rfl rfl
    have k1 : w1.cell? ⟨w.heap.size, 1, none⟩ = some (.int .i64 0) := hst1.cell 0 1 rfl rfl
    have k2 : w1.cell? ⟨w.heap.size, 2, none⟩ = some (.int .i64 0) := hst1.cell 0 2 rfl rfl
    have k3 : w1.cell? ⟨w.heap.size, 3, none⟩ = some (.int .i64 0) := hst1.cell 0 3 rfl rfl
    have z0 := hst1.frozen 0 0 rfl
    have z1 := hst1.frozen 0 1 rfl
    have z2 := hst1.frozen 0 2 rfl
    have z3 := hst1.frozen 0 3 rfl
    have hlt := hst1.lt 0 rfl
    have HBF := Lib.hid (fun x y u v => ((((below_next HST0.out.below hb1).setCell (p := ⟨w.heap.size, 0, none⟩) (Nat.le_refl _) x).setCell (p := ⟨w.heap.size, 1, none⟩) (Nat.le_refl _) y).setCell (p := ⟨w.heap.size, 2, none⟩) (Nat.le_refl _) u).setCell (p := ⟨w.heap.size, 3, none⟩) (Nat.le_refl _) v)
    clear hb1 hst1
    go_wp2
    refine bodyPost_ret (v := .tuple #[.agg #[.int .i64 0, .int .i64 0, .int .i64 0, .int .i64 0], .int .i64 C]) (by simp [results, Tryz.results11, go_sem, k0, k1, k2, k3]) rfl (.inl ⟨HNE.out, rfl, HBF.out _ _ _ _⟩)
end Go.Proofs.YtnapdhfkgfjjfaaGreatDoor
