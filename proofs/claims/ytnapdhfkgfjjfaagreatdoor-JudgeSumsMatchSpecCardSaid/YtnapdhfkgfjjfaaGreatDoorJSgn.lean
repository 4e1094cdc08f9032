/- Package judge: Signs. -/
import Derived.StillTailTactics
import Derived.Test.YtnapdhfkgfjjfaaGreatDoorG39
import Derived.Test.YtnapdhfkgfjjfaaGreatDoorG40
import Derived.Test.YtnapdhfkgfjjfaaGreatDoorG29
import Derived.Test.YtnapdhfkgfjjfaaGreatDoorG16
namespace Go.Proofs.YtnapdhfkgfjjfaaGreatDoor
open Go Go.RowKit Go.Proofs

/-- the code of pairs -/
def sgC (a b : List Int) : Int := if a.length ≠ b.length then 2 else if 60 < a.length then 3 else if okZ (a ++ b) = true then 0 else 9
theorem sgC_form {a b : List Int} (h : a.length ≠ b.length) : sgC a b = 2 := by unfold sgC; rw [if_pos h]
theorem sgC_size {a b : List Int} (h : a.length = b.length) (h2 : 60 < a.length) : sgC a b = 3 := by unfold sgC; rw [if_neg (by omega), if_pos h2]
theorem sgC_num {a b : List Int} (h : a.length = b.length) (h2 : ¬ 60 < a.length) : sgC a b = if okZ (a ++ b) = true then 0 else 9 := by unfold sgC; rw [if_neg (by omega), if_neg h2]
/-- what Signs returns -/
def sgR (a b : List Int) : Value := .agg #[.int .i64 (sgV a b a.length : Nat), .int .i64 (cntLe (sgV a b a.length : Nat) (tS (sgD a b a.length)) : Nat), .int .i64 (cntGe (sgV a b a.length : Nat) (tS (sgD a b a.length)) : Nat), .int .i64 ((tS (sgD a b a.length)).length : Nat)]
def sgW (a b : List Int) : Value := if sgC a b = 0 then .tuple #[sgR a b, .int .i64 0] else .tuple #[rkZ, .int .i64 (sgC a b)]
theorem sgW_ok {a b : List Int} (h : sgC a b = 0) : sgW a b = .tuple #[sgR a b, .int .i64 0] := by unfold sgW; rw [if_pos h]
theorem sgW_bad {a b : List Int} (h : sgC a b ≠ 0) : sgW a b = .tuple #[rkZ, .int .i64 (sgC a b)] := by unfold sgW; rw [if_neg h]
theorem NRow.frR {w w' : World} {g O : Nat} {ns : List Nm} {V lo hi al : Int} (h : NRow w g 67 ns) (ho : RkB w O V lo hi al) (hf : Fr (fun i => i = O) w w') : NRow w' g 67 ns := by
  have hne : g ≠ O := by
    intro e
    subst e
    have hg := h.1
    unfold RkB VBlk at *
    rw [ho] at hg
    injection hg with hg
    injection hg with _ h2 _
    exact absurd h2 (by decide)
  refine ⟨(hf.block g (heap_lt h.1) hne).trans h.1, fun n hn => (h.2 n hn).keepB hf.size fun b o e hb hl => hf.block b hb ?_⟩
  refine (h.2 n hn).apartB ho ?_ b o e hl
  intro v hv z
  simp at hv
  rcases hv with rfl | rfl | rfl | rfl <;> simp
set_option maxHeartbeats 8000000 in
set_option maxRecDepth 100000 in
theorem jSigns_any (A B : Option Addr) (c d : Nat) (a b : List Int) (w : World) (hr1 : Rd w 0 w.heap.size 1 A a.length (ints a)) (hr2 : Rd w 0 w.heap.size 1 B b.length (ints b)) (hm1 : a.length ≤ 4000000000000000000) (hm2 : b.length ≤ 4000000000000000000) :
    Calls Tryz.prog 13 #[.slice A a.length c, .slice B b.length d] w fun e w' => e = .returned (sgW a b) ∧ Below w.heap.size w w' := by
  have HR1 := Lib.hid hr1
  have HR2 := Lib.hid hr2
  obtain ⟨W0, hW0⟩ : ∃ W0, W0 = w.alloc (.cells #[.int .i64 0, .int .i64 0, .int .i64 0, .int .i64 0] 24) := ⟨_, rfl⟩
  have HST0 := Lib.hid (show St w W0 [(w.heap.size, .cells #[.int .i64 0, .int .i64 0, .int .i64 0, .int .i64 0] 24 (0, 0))] by rw [hW0]; exact (St.start w).alloc _ _ rfl)
  clear hr1 hr2
  by_cases hf : a.length ≠ b.length
  · have HWE := Lib.hid (show sgW a b = .tuple #[rkZ, .int .i64 2] by rw [sgW_bad (by rw [sgC_form hf]; decide), sgC_form hf])
    have t1 : ((a.length : Int) != (b.length : Int)) = true := by rw [bne_iff_ne]; omega
    clear hf
    go_enter Tryz.func13, Tryz.ntmps13
    go_upto_region 1 with fail
    rw [← hW0]
    clear hW0
    have hst1 := HST0.out.call (Below.refl _ W0)
    have k0 : _ = some (Value.int .i64 0) := hst1.cell 0 0 rfl rfl
    have k1 : _ = some (Value.int .i64 0) := hst1.cell 0 1 rfl rfl
    have k2 : _ = some (Value.int .i64 0) := hst1.cell 0 2 rfl rfl
    have k3 : _ = some (Value.int .i64 0) := hst1.cell 0 3 rfl rfl
    have z0 := hst1.frozen 0 0 rfl
    have z1 := hst1.frozen 0 1 rfl
    have z2 := hst1.frozen 0 2 rfl
    have z3 := hst1.frozen 0 3 rfl
    have hlt := hst1.lt 0 rfl
    have HBF := Lib.hid (fun x y u v => ((((below_next HST0.out.below (Below.refl _ W0)).setCell (p := ⟨w.heap.size, 0, none⟩) (Nat.le_refl _) x).setCell (p := ⟨w.heap.size, 1, none⟩) (Nat.le_refl _) y).setCell (p := ⟨w.heap.size, 2, none⟩) (Nat.le_refl _) u).setCell (p := ⟨w.heap.size, 3, none⟩) (Nat.le_refl _) v)
    clear hst1
    go_wp2
    refine bodyPost_ret (v := .tuple #[.agg #[.int .i64 0, .int .i64 0, .int .i64 0, .int .i64 0], .int .i64 2]) (by simp [results, Tryz.results13, go_sem, k0, k1, k2, k3]) rfl ⟨by rw [HWE.out]; rfl, HBF.out _ _ _ _⟩
  have hab : a.length = b.length := by omega
  have t1 : ((a.length : Int) != (b.length : Int)) = false := by rw [hab]; simp
  by_cases hs : 60 < a.length
  · have HWE := Lib.hid (show sgW a b = .tuple #[rkZ, .int .i64 3] by rw [sgW_bad (by rw [sgC_size hab hs]; decide), sgC_size hab hs])
    have t2 : decide (60 < (a.length : Int)) = true := decide_eq_true (by omega)
    clear hf hs hab
    go_enter Tryz.func13, Tryz.ntmps13
    go_upto_region 1 with fail
    rw [← hW0]
    clear hW0
    have hst1 := HST0.out.call (Below.refl _ W0)
    have k0 : _ = some (Value.int .i64 0) := hst1.cell 0 0 rfl rfl
    have k1 : _ = some (Value.int .i64 0) := hst1.cell 0 1 rfl rfl
    have k2 : _ = some (Value.int .i64 0) := hst1.cell 0 2 rfl rfl
    have k3 : _ = some (Value.int .i64 0) := hst1.cell 0 3 rfl rfl
    have z0 := hst1.frozen 0 0 rfl
    have z1 := hst1.frozen 0 1 rfl
    have z2 := hst1.frozen 0 2 rfl
    have z3 := hst1.frozen 0 3 rfl
    have hlt := hst1.lt 0 rfl
    have HBF := Lib.hid (fun x y u v => ((((below_next HST0.out.below (Below.refl _ W0)).setCell (p := ⟨w.heap.size, 0, none⟩) (Nat.le_refl _) x).setCell (p := ⟨w.heap.size, 1, none⟩) (Nat.le_refl _) y).setCell (p := ⟨w.heap.size, 2, none⟩) (Nat.le_refl _) u).setCell (p := ⟨w.heap.size, 3, none⟩) (Nat.le_refl _) v)
    clear hst1
    go_wp2
    refine bodyPost_ret (v := .tuple #[.agg #[.int .i64 0, .int .i64 0, .int .i64 0, .int .i64 0], .int .i64 3]) (by simp [results, Tryz.results13, go_sem, k0, k1, k2, k3]) rfl ⟨by rw [HWE.out]; rfl, HBF.out _ _ _ _⟩
  have t2 : decide (60 < (a.length : Int)) = false := decide_eq_false (by omega)
  have HJ := Lib.hid (fun W (hW : Below w.heap.size w W) => jJoined_any A B c d a b W (HR1.out.old hW) (HR2.out.old hW) (by omega) (by omega))
  have HCN := Lib.hid (fun W g (h : IBlk W g (a ++ b)) => jChkNum_any (some ⟨g, 0, none⟩) (a.length + b.length) (a ++ b) W h.rd (by rw [List.length_append]; omega))
  rw [List.length_append] at HCN
  have hcn := sgC_num hab hs
  by_cases ho : okZ (a ++ b) = true
  · rw [if_pos ho] at hcn HCN
    have HOZ := Lib.hid (fun x (hx : x ∈ a ++ b) => okZ_mem ho hx)
    have HWE := Lib.hid (show sgW a b = .tuple #[sgR a b, .int .i64 0] from sgW_ok hcn)
    have hN : a.length ≤ 60 := by omega
    have HAB := Lib.hid hab
    obtain ⟨D, hD⟩ : ∃ D, D = sgD a b a.length := ⟨_, rfl⟩
    obtain ⟨V, hV⟩ : ∃ D, D = sgV a b a.length := ⟨_, rfl⟩
    have hle := sg_le a b a.length
    rw [← hD, ← hV] at hle
    obtain ⟨hVD, hDN⟩ := hle
    have HDV := Lib.hid (And.intro hD hV)
    have HLE := Lib.hid (fun k => sg_le a b k)
    have HRW := Lib.hid (fun W u (hu : JF W u false 1 2) => jRow_any D u 1 2 W hu (by omega) (by omega) (by unfold W64; omega))
    rw [show 2 - 1 = 1 from rfl] at HRW
    have h2p : 2 ^ D ≤ 1152921504606846976 := Nat.le_trans (Nat.pow_le_pow_right (by omega) (show D ≤ 60 by omega)) (by decide)
    have HBD := Lib.hid (fun j (hj : j ≤ D + 1) => (show sgLo D V j ≤ 1152921504606846976 ∧ sgHi D V j ≤ 1152921504606846976 ∧ bwS 1 1 D j ≤ 1152921504606846976 from by have := sg_bd (d := D) (V := V) hj; omega))
    have HF1 := Lib.hid (sgLo_all hVD)
    have HF2 := Lib.hid (sgHi_all hVD)
    have HF3 := Lib.hid (sgAll_all D)
    have HF0 := Lib.hid (And.intro (sgLo_zero D V) (sgHi_zero D V))
    clear hf hs ho hcn hab hD hV h2p
    go_enter Tryz.func13, Tryz.ntmps13
    go_upto_region 1 with fail
    rw [← hW0]
    clear hW0
    go_wp2_with fail
    (with_reducible refine (HJ.out W0 HST0.out.below).mono ?_)
    rintro e w1 ⟨g1, rfl, hg1, hb1⟩
    have HC1 := Lib.hid (HCN.out w1 g1 hg1)
    have HB1 := Lib.hid hb1
    clear hg1 hb1
    go_wp2_with fail
    (with_reducible refine (HC1.out).mono ?_)
    rintro e w2 ⟨rfl, hb2⟩
    obtain ⟨W3, hW3⟩ : ∃ W3, W3 = w2.alloc (.cells #[.int .i64 0, .int .i64 0, .int .i64 0, .int .i64 0] 24) := ⟨_, rfl⟩
    have hst2 := HST0.out.call (below_next HB1.out hb2)
    have hst3 : St w W3 [(w.heap.size, .cells #[.int .i64 0, .int .i64 0, .int .i64 0, .int .i64 0] 24 (0, 0)), (w2.heap.size, .cells #[.int .i64 0, .int .i64 0, .int .i64 0, .int .i64 0] 24 (0, 0))] := by
      rw [hW3]
      exact hst2.alloc _ _ rfl
    obtain ⟨O, hO⟩ : ∃ O, O = w2.heap.size := ⟨_, rfl⟩
    have HOL := Lib.hid (show w.heap.size < O by rw [hO]; exact heap_lt (hst2.box 0 _ _ rfl).2)
    have HX3 := Lib.hid (show W3.heap[w.heap.size]? = some (.cells #[.int .i64 0, .int .i64 0, .int .i64 0, .int .i64 0] 24 (0, 0)) from (hst3.box 0 _ _ rfl).2)
    have HO3 := Lib.hid (show RkB W3 O 0 0 0 0 by rw [hO]; exact (hst3.box 1 _ _ rfl).2)
    have HB3 := Lib.hid hst3.below
    clear hst2 hst3 hb2
    go_wp2
    rw [← hW3, ← hO]
    clear hW3 hO
    go_loopw [7, 37] (fun dv iv wr => ∃ k : Nat, iv = .int .i64 (k : Nat) ∧ k ≤ a.length ∧ dv = .int .i64 (sgD a b k : Nat) ∧ RkB wr O (sgV a b k : Nat) 0 0 0 ∧ wr.heap[w.heap.size]? = some (.cells #[.int .i64 0, .int .i64 0, .int .i64 0, .int .i64 0] 24 (0, 0)) ∧ Below w.heap.size w wr) (fun _ iv _ => a.length - (intOf iv).toNat)
    case atStart => exact ⟨0, rfl, Nat.zero_le _, rfl, HO3.out, HX3.out, HB3.out⟩
    case round =>
      obtain ⟨k, rfl, hk, rfl, hob, hox, hbw⟩ := hrel
      have HBW := Lib.hid hbw
      have HOX := Lib.hid hox
      have HOB := Lib.hid hob
      have hvk := HLE.out k
      have hvd := hvk.1
      have hdk := hvk.2
      clear hbw hox hob HX3 HO3 HB3 hvk
      by_cases hlt : k < a.length
      · obtain ⟨b1, o1, u1, rfl, hbB1, hu1, _⟩ := (HR1.out.old HBW.out).at1 hlt
        obtain ⟨b2, o2, u2, rfl, hbB2, hu2, _⟩ := (HR2.out.old HBW.out).at1 (show k < b.length by rw [← HAB.out]; exact hlt)
        obtain ⟨x, hx, rfl⟩ := ints_get hu1
        obtain ⟨y, hy, rfl⟩ := ints_get hu2
        have HXC := Lib.hid (show ∀ W, Below w.heap.size w W → W.cell? ⟨b1, o1 + k, none⟩ = some (.int .i64 x) ∧ W.cell? ⟨b2, o2 + k, none⟩ = some (.int .i64 y) from fun W hW => by
          obtain ⟨b1', o1', e1, _, _, h1⟩ := (HR1.out.old hW).2 (by omega)
          obtain ⟨b2', o2', e2, _, _, h2⟩ := (HR2.out.old hW).2 (by have := HAB.out; omega)
          cases e1
          cases e2
          exact ⟨h1 k _ hu1, h2 k _ hu2⟩)
        have HDN := Lib.hid (sgD_next hx hy)
        have HVN := Lib.hid (sgV_next hx hy)
        have q1 : (0 : Int) ≤ (k : Int) := by omega
        have q2 : (k : Int) < (a.length : Int) := by omega
        have q3 : (k : Int) < (b.length : Int) := by have := HAB.out; omega
        obtain ⟨Dk, hDk⟩ : ∃ z, z = sgD a b k := ⟨_, rfl⟩
        obtain ⟨Vk, hVk⟩ : ∃ z, z = sgV a b k := ⟨_, rfl⟩
        rw [← hDk, ← hVk] at hvd
        rw [← hDk] at hdk HDN ⊢
        rw [← hVk] at HVN HOB
        obtain ⟨p1, p2⟩ := HXC.out wr HBW.out
        clear hbB1 hu1 hbB2 hu2 hx hy hDk hVk
        by_cases he : x = y
        · have t3 : (x != y) = false := by rw [he]; simp
          have t4 : decide (x < y) = false := decide_eq_false (by omega)
          have HD1 := Lib.hid (show sgD a b (k + 1) = Dk by rw [HDN.out, if_pos he]; rfl)
          have HV1 := Lib.hid (show sgV a b (k + 1) = Vk by rw [HVN.out, if_neg (by omega)]; rfl)
          clear he
          go_wp2
          refine wp_region_still_tail 8 (by kernel_rfl) (by kernel_rfl) ?_
          simp only [List.take_succ_cons, List.take_zero, List.drop_succ_cons, List.drop_zero]
          repeat still_step
          refine wpStill_nil ?_
          change wpList _ _ _ _ _ wr.drew
          obtain ⟨wd, hwd⟩ : ∃ X, X = wr.drew := ⟨_, rfl⟩
          rw [← hwd]
          have HBD' := Lib.hid (show Below w.heap.size w wd by rw [hwd]; exact HBW.out.drew)
          have HOD := Lib.hid (show RkB wd O (Vk : Nat) 0 0 0 by rw [hwd]; exact HOB.out.drew)
          have HXD := Lib.hid (show wd.heap[w.heap.size]? = some (.cells #[.int .i64 0, .int .i64 0, .int .i64 0, .int .i64 0] 24 (0, 0)) by rw [hwd]; exact ((Below.refl _ wr).drew.block _ (heap_lt HOX.out)).trans HOX.out)
          obtain ⟨r1, r2⟩ := HXC.out wd HBD'.out
          clear hwd p1 p2
          go_wp2
          refine wp_region_still_tail 8 (by kernel_rfl) (by kernel_rfl) ?_
          simp only [List.take_succ_cons, List.take_zero, List.drop_succ_cons, List.drop_zero]
          repeat still_step
          refine wpStill_nil ?_
          change wpList _ _ _ _ _ wd.drew
          obtain ⟨we, hwe⟩ : ∃ X, X = wd.drew := ⟨_, rfl⟩
          rw [← hwe]
          have HBE := Lib.hid (show Below w.heap.size w we by rw [hwe]; exact HBD'.out.drew)
          have HOE := Lib.hid (show RkB we O (Vk : Nat) 0 0 0 by rw [hwe]; exact HOD.out.drew)
          have HXE := Lib.hid (show we.heap[w.heap.size]? = some (.cells #[.int .i64 0, .int .i64 0, .int .i64 0, .int .i64 0] 24 (0, 0)) by rw [hwe]; exact ((Below.refl _ wd).drew.block _ (heap_lt HXD.out)).trans HXD.out)
          clear hwe r1 r2
          go_wp2
          go_roundw
          case rel => exact ⟨k + 1, by go_num, by omega, by rw [HD1.out], by rw [HV1.out]; exact HOE.out, HXE.out, HBE.out⟩
          case measure => simp [intOf]; omega
        · have t3 : (x != y) = true := by rw [bne_iff_ne]; exact he
          have HD1 := Lib.hid (show sgD a b (k + 1) = Dk + 1 by rw [HDN.out, if_neg he])
          by_cases hlt2 : x < y
          · have t4 : decide (x < y) = true := decide_eq_true hlt2
            have HV1 := Lib.hid (show sgV a b (k + 1) = Vk + 1 by rw [HVN.out, if_pos hlt2])
            clear he hlt2
            go_wp2
            refine wp_region_still_tail 8 (by kernel_rfl) (by kernel_rfl) ?_
            simp only [List.take_succ_cons, List.take_zero, List.drop_succ_cons, List.drop_zero]
            repeat still_step
            refine wpStill_nil ?_
            change wpList _ _ _ _ _ wr.drew
            obtain ⟨wd, hwd⟩ : ∃ X, X = wr.drew := ⟨_, rfl⟩
            rw [← hwd]
            have HBD' := Lib.hid (show Below w.heap.size w wd by rw [hwd]; exact HBW.out.drew)
            have HOD := Lib.hid (show RkB wd O (Vk : Nat) 0 0 0 by rw [hwd]; exact HOB.out.drew)
            have HXD := Lib.hid (show wd.heap[w.heap.size]? = some (.cells #[.int .i64 0, .int .i64 0, .int .i64 0, .int .i64 0] 24 (0, 0)) by rw [hwd]; exact ((Below.refl _ wr).drew.block _ (heap_lt HOX.out)).trans HOX.out)
            obtain ⟨r1, r2⟩ := HXC.out wd HBD'.out
            clear hwd p1 p2
            go_wp2
            refine wp_region_still_tail 8 (by kernel_rfl) (by kernel_rfl) ?_
            simp only [List.take_succ_cons, List.take_zero, List.drop_succ_cons, List.drop_zero]
            repeat still_step
            refine wpStill_nil ?_
            change wpList _ _ _ _ _ wd.drew
            obtain ⟨we, hwe⟩ : ∃ X, X = wd.drew := ⟨_, rfl⟩
            rw [← hwe]
            have HBE := Lib.hid (show Below w.heap.size w we by rw [hwe]; exact HBD'.out.drew)
            have HOE := Lib.hid (show RkB we O (Vk : Nat) 0 0 0 by rw [hwe]; exact HOD.out.drew)
            have HXE := Lib.hid (show we.heap[w.heap.size]? = some (.cells #[.int .i64 0, .int .i64 0, .int .i64 0, .int .i64 0] 24 (0, 0)) by rw [hwe]; exact ((Below.refl _ wd).drew.block _ (heap_lt HXD.out)).trans HXD.out)
            clear hwe r1 r2
            have hoe := HOE.out
            have c0 : we.cell? ⟨O, 0, none⟩ = some (.int .i64 (Vk : Nat)) := by rw [cellsAt hoe]; rfl
            have zz := frozenAt hoe 0
            have hlo := heap_lt hoe
            have HOY := Lib.hid (show RkB (we.setCell ⟨O, 0, none⟩ (.int .i64 ((Vk : Int) + 1))) O (sgV a b (k + 1) : Nat) 0 0 0 by rw [HV1.out]; exact rk_set HOE.out _)
            have HXY := Lib.hid ((Below.heap_setCell we ⟨O, 0, none⟩ (.int .i64 ((Vk : Int) + 1)) w.heap.size (Nat.ne_of_lt HOL.out)).trans HXE.out)
            have HBY := Lib.hid (HBE.out.setCell (p := ⟨O, 0, none⟩) (Nat.le_of_lt HOL.out) (.int .i64 ((Vk : Int) + 1)))
            clear hoe
            go_wp2
            go_roundw
            case rel => exact ⟨k + 1, by go_num, by omega, by rw [HD1.out]; go_num, HOY.out, HXY.out, HBY.out⟩
            case measure => simp [intOf]; omega
          · have t4 : decide (x < y) = false := decide_eq_false hlt2
            have HV1 := Lib.hid (show sgV a b (k + 1) = Vk by rw [HVN.out, if_neg hlt2]; rfl)
            clear he hlt2
            go_wp2
            refine wp_region_still_tail 8 (by kernel_rfl) (by kernel_rfl) ?_
            simp only [List.take_succ_cons, List.take_zero, List.drop_succ_cons, List.drop_zero]
            repeat still_step
            refine wpStill_nil ?_
            change wpList _ _ _ _ _ wr.drew
            obtain ⟨wd, hwd⟩ : ∃ X, X = wr.drew := ⟨_, rfl⟩
            rw [← hwd]
            have HBD' := Lib.hid (show Below w.heap.size w wd by rw [hwd]; exact HBW.out.drew)
            have HOD := Lib.hid (show RkB wd O (Vk : Nat) 0 0 0 by rw [hwd]; exact HOB.out.drew)
            have HXD := Lib.hid (show wd.heap[w.heap.size]? = some (.cells #[.int .i64 0, .int .i64 0, .int .i64 0, .int .i64 0] 24 (0, 0)) by rw [hwd]; exact ((Below.refl _ wr).drew.block _ (heap_lt HOX.out)).trans HOX.out)
            obtain ⟨r1, r2⟩ := HXC.out wd HBD'.out
            clear hwd p1 p2
            go_wp2
            refine wp_region_still_tail 8 (by kernel_rfl) (by kernel_rfl) ?_
            simp only [List.take_succ_cons, List.take_zero, List.drop_succ_cons, List.drop_zero]
            repeat still_step
            refine wpStill_nil ?_
            change wpList _ _ _ _ _ wd.drew
            obtain ⟨we, hwe⟩ : ∃ X, X = wd.drew := ⟨_, rfl⟩
            rw [← hwe]
            have HBE := Lib.hid (show Below w.heap.size w we by rw [hwe]; exact HBD'.out.drew)
            have HOE := Lib.hid (show RkB we O (Vk : Nat) 0 0 0 by rw [hwe]; exact HOD.out.drew)
            have HXE := Lib.hid (show we.heap[w.heap.size]? = some (.cells #[.int .i64 0, .int .i64 0, .int .i64 0, .int .i64 0] 24 (0, 0)) by rw [hwe]; exact ((Below.refl _ wd).drew.block _ (heap_lt HXD.out)).trans HXD.out)
            clear hwe r1 r2
            go_wp2
            go_roundw
            case rel => exact ⟨k + 1, by go_num, by omega, by rw [HD1.out]; go_num, by rw [HV1.out]; exact HOE.out, HXE.out, HBE.out⟩
            case measure => simp [intOf]; omega
      · obtain rfl : k = a.length := by omega
        rw [← HDV.out.1, ← HDV.out.2] at hvd
        rw [← HDV.out.1] at hdk ⊢
        have HO4 := Lib.hid (show RkB wr O (V : Nat) 0 0 0 by rw [HDV.out.2]; exact HOB.out)
        clear hlt hvd hdk
        go_wp2_with fail
        (with_reducible refine (natOf_any 1 wr (by omega)).mono ?_)
        rintro e w4 ⟨A1, c1, l1, rfl, h1, hb4⟩
        have HN1 := Lib.hid (show NatR w4 A1 c1 l1 1 by have e : (1 : Int).toNat = 1 := rfl; rw [e] at h1; exact h1)
        have HB4 := Lib.hid hb4
        clear h1 hb4
        go_wp2_with fail
        (with_reducible refine (natOf_any 2 w4 (by omega)).mono ?_)
        rintro e w5 ⟨A2, c2, l2, rfl, h2, hb5⟩
        have HN2 := Lib.hid (show NatR w5 A2 c2 l2 2 by have e : (2 : Int).toNat = 2 := rfl; rw [e] at h2; exact h2)
        have HB5 := Lib.hid (below_next HB4.out hb5)
        have HN1' := Lib.hid (HN1.out.on hb5)
        clear h2 hb5
        go_wp2_with fail
        (with_reducible refine (jOf_any A1 A2 c1 c2 l1 l2 1 2 w5 HN1'.out HN2.out).mono ?_)
        rintro e w6 ⟨v, rfl, ⟨A3, c3, l3, A4, c4, l4, rfl, h3, h4⟩, hb6⟩
        obtain ⟨W7, hW7⟩ : ∃ W7, W7 = w6.alloc (.cells #[.bool false, .slice A3 l3.length c3, .slice A4 l4.length c4] 69) := ⟨_, rfl⟩
        have hb67 : Below w6.heap.size w6 W7 := by rw [hW7]; exact (Below.refl _ w6).alloc (Nat.le_refl _) _
        have HJ7 := Lib.hid (jf_mk (b := false) (h3.on hb67) (h4.on hb67))
        have hx7 : W7.heap[w6.heap.size]? = some (.cells #[.bool false, .slice A3 l3.length c3, .slice A4 l4.length c4] 69 (0, 0)) := by rw [hW7]; exact alloc_at _ _ _ rfl
        have o0 : W7.cell? ⟨w6.heap.size, 0, none⟩ = some (.bool false) := by rw [cellsAt hx7]; rfl
        have o1 : W7.cell? ⟨w6.heap.size, 1, none⟩ = some (.slice A3 l3.length c3) := by rw [cellsAt hx7]; rfl
        have o2 : W7.cell? ⟨w6.heap.size, 2, none⟩ = some (.slice A4 l4.length c4) := by rw [cellsAt hx7]; rfl
        have HB7 := Lib.hid (below_next (below_next HB5.out hb6) hb67)
        rw [hW7] at o0 o1 o2
        clear h3 h4 hb6 hb67 hx7
        go_wp2_with fail
        rw [← hW7]
        clear hW7 o0 o1 o2
        (with_reducible refine (HRW.out W7 _ HJ7.out).mono ?_)
        rintro e w8 ⟨g, ns, rfl, hrow, hvals, hgw, hb8⟩
        have HNL := Lib.hid (show ns.length = D + 1 by have := congrArg List.length hvals; rwa [nmVals_length, bwL_length] at this)
        have HVALS := Lib.hid hvals
        have HROW := Lib.hid hrow
        have hb38 := below_next HB7.out hb8
        have HO8 := Lib.hid (show RkB w8 O (V : Nat) 0 0 0 from (hb38.block O (heap_lt HO4.out)).trans HO4.out)
        have HX8 := Lib.hid ((hb38.block _ (heap_lt HOX.out)).trans HOX.out)
        have HB8 := Lib.hid (below_next HBW.out hb38)
        clear hrow hvals hb8 hb38
        go_wp2
        go_loopw [72] (fun iv wr => ∃ k : Nat, iv = .int .i64 (k : Nat) ∧ k ≤ D + 1 ∧ RkB wr O (V : Nat) (sgLo D V k : Nat) (sgHi D V k : Nat) (bwS 1 1 D k : Nat) ∧ wr.heap[w.heap.size]? = some (.cells #[.int .i64 0, .int .i64 0, .int .i64 0, .int .i64 0] 24 (0, 0)) ∧ NRow wr g 67 ns ∧ Below w.heap.size w wr) (fun iv _ => D + 1 - (intOf iv).toNat)
        case atStart => exact ⟨0, rfl, Nat.zero_le _, by rw [HF0.out.1, HF0.out.2]; exact HO8.out, HX8.out, HROW.out, HB8.out⟩
        case round =>
          clear HBW HOX HOB HO4 HN1 HB4 HN2 HB5 HN1' HJ7 HB7 HROW HO8 HX8 HB8
          obtain ⟨k, rfl, hk, hob, hox, hnr, hbw⟩ := hrel
          have HBW := Lib.hid hbw
          have HOX := Lib.hid hox
          have HOB := Lib.hid hob
          have HNR := Lib.hid hnr
          obtain ⟨d0, d1, d2⟩ := HBD.out k hk
          obtain ⟨L1, hL1⟩ : ∃ z, z = sgLo D V k := ⟨_, rfl⟩
          obtain ⟨L2, hL2⟩ : ∃ z, z = sgHi D V k := ⟨_, rfl⟩
          obtain ⟨L3, hL3⟩ : ∃ z, z = bwS 1 1 D k := ⟨_, rfl⟩
          rw [← hL1, ← hL2, ← hL3] at hob HOB
          rw [← hL1] at d0
          rw [← hL2] at d1
          rw [← hL3] at d2
          have HLL := Lib.hid (And.intro hL1 (And.intro hL2 hL3))
          have k0 : wr.cell? ⟨O, 0, none⟩ = some (.int .i64 (V : Nat)) := by rw [cellsAt hob]; rfl
          have k1 : wr.cell? ⟨O, 1, none⟩ = some (.int .i64 (L1 : Nat)) := by rw [cellsAt hob]; rfl
          have k2 : wr.cell? ⟨O, 2, none⟩ = some (.int .i64 (L2 : Nat)) := by rw [cellsAt hob]; rfl
          have k3 : wr.cell? ⟨O, 3, none⟩ = some (.int .i64 (L3 : Nat)) := by rw [cellsAt hob]; rfl
          by_cases hlt : k < D + 1
          · obtain ⟨y, hy⟩ : ∃ y, ns[k]? = some y := ⟨_, List.getElem?_eq_getElem (by rw [HNL.out]; exact hlt)⟩
            have hyx : y.x = bw 1 1 D k := by
              have h1 := nmVals_get hy
              rw [HVALS.out, bwL_get 1 1 D k (by omega)] at h1
              exact (Option.some.inj h1).symm
            have c0 : wr.cell? ⟨g, k, none⟩ = some (.slice y.A y.l.length y.c) := hnr.1.cell (nmCells_get hy)
            have hyn := hnr.2 y (List.mem_of_getElem? hy)
            obtain ⟨F, hF⟩ : ∃ F, F = y.x := ⟨_, rfl⟩
            have hFb : F ≤ 1152921504606846976 := by
              have h1 := (HBD.out (k + 1) (by omega)).2.2
              rw [bwS_next] at h1
              rw [hF, hyx]; omega
            have HINT := Lib.hid (natIntV_any y.A y.c y.l y.x wr hyn (by have := hyn.len (n := 1) (by rw [← hF]; unfold W64; omega); omega) (by rw [← hF]; omega))
            rw [← hF] at HINT
            have hsn : sgLo D V (k + 1) = L1 + (if k ≤ V then F else 0) ∧ sgHi D V (k + 1) = L2 + (if V ≤ k then F else 0) ∧ bwS 1 1 D (k + 1) = L3 + F := by
              rw [sgLo_next, sgHi_next, bwS_next, ← hyx, ← hF, hL1, hL2, hL3]
              exact ⟨rfl, rfl, rfl⟩
            have z1 := frozenAt hob 1
            have z2 := frozenAt hob 2
            have z3 := frozenAt hob 3
            have hlo := heap_lt hob
            have q1 : (0 : Int) ≤ (k : Int) := by omega
            have q2 : (k : Int) < (D : Int) + 1 := by omega
            have q3 : (k : Int) < ((D + 1 : Nat) : Int) := by omega
            clear hbw hox hob hnr hL1 hL2 hL3 hyx hF hy hyn
            by_cases h1 : k ≤ V
            · have t3 : decide ((k : Int) ≤ (V : Int)) = true := decide_eq_true (by omega)
              rw [if_pos h1] at hsn
              by_cases h2 : V ≤ k
              · have t4 : decide ((V : Int) ≤ (k : Int)) = true := decide_eq_true (by omega)
                rw [if_pos h2] at hsn
                have HSN := Lib.hid hsn
                clear hsn
                go_wp2_with fail
                (with_reducible refine (HINT.out).mono ?_)
                rintro e w9 ⟨rfl, rfl⟩
                obtain ⟨W8, hW8⟩ : ∃ W, W = ((wr.setCell ⟨O, 3, none⟩ (.int .i64 ((L3 : Int) + (F : Int)))).setCell ⟨O, 1, none⟩ (.int .i64 ((L1 : Int) + (F : Int)))).setCell ⟨O, 2, none⟩ (.int .i64 ((L2 : Int) + (F : Int))) := ⟨_, rfl⟩
                have HO8 := Lib.hid (show RkB W8 O V (sgLo D V (k + 1) : Nat) (sgHi D V (k + 1) : Nat) (bwS 1 1 D (k + 1) : Nat) from by
                  rw [HSN.out.1, HSN.out.2.1, HSN.out.2.2, hW8, Int.natCast_add, Int.natCast_add, Int.natCast_add]
                  exact rk3 HOB.out _ _ _)
                have hf8 : Fr (fun i => i = O) wr W8 := hW8 ▸ ((((Fr.refl (fun i => i = O) wr).setCell (p := ⟨O, 3, none⟩) (fun _ => rfl) _).setCell (p := ⟨O, 1, none⟩) (fun _ => rfl) _).setCell (p := ⟨O, 2, none⟩) (fun _ => rfl) _)
                have HN8 := Lib.hid (HNR.out.frR HOB.out hf8)
                have HX8 := Lib.hid ((hf8.block _ (heap_lt HOX.out) (Nat.ne_of_lt HOL.out)).trans HOX.out)
                have HB8 := Lib.hid (HBW.out.trans (hf8.below HBW.out.size fun i hi h => by have := HOL.out; omega))
                clear hf8
                go_wp2
                rw [← hW8]
                go_roundw
                case rel => exact ⟨k + 1, by go_num, by omega, HO8.out, HX8.out, HN8.out, HB8.out⟩
                case measure => simp [intOf]; omega
              · have t4 : decide ((V : Int) ≤ (k : Int)) = false := decide_eq_false (by omega)
                rw [if_neg h2] at hsn
                have HSN := Lib.hid hsn
                clear hsn
                go_wp2_with fail
                (with_reducible refine (HINT.out).mono ?_)
                rintro e w9 ⟨rfl, rfl⟩
                obtain ⟨W8, hW8⟩ : ∃ W, W = (wr.setCell ⟨O, 3, none⟩ (.int .i64 ((L3 : Int) + (F : Int)))).setCell ⟨O, 1, none⟩ (.int .i64 ((L1 : Int) + (F : Int))) := ⟨_, rfl⟩
                have HO8 := Lib.hid (show RkB W8 O V (sgLo D V (k + 1) : Nat) (sgHi D V (k + 1) : Nat) (bwS 1 1 D (k + 1) : Nat) from by
                  rw [HSN.out.1, HSN.out.2.1, HSN.out.2.2, hW8, Int.natCast_add, Int.natCast_add, Int.natCast_add]
                  exact (by rw [Int.natCast_zero, Int.add_zero]; exact rk31 HOB.out _ _))
                have hf8 : Fr (fun i => i = O) wr W8 := hW8 ▸ (((Fr.refl (fun i => i = O) wr).setCell (p := ⟨O, 3, none⟩) (fun _ => rfl) _).setCell (p := ⟨O, 1, none⟩) (fun _ => rfl) _)
                have HN8 := Lib.hid (HNR.out.frR HOB.out hf8)
                have HX8 := Lib.hid ((hf8.block _ (heap_lt HOX.out) (Nat.ne_of_lt HOL.out)).trans HOX.out)
                have HB8 := Lib.hid (HBW.out.trans (hf8.below HBW.out.size fun i hi h => by have := HOL.out; omega))
                clear hf8
                go_wp2
                rw [← hW8]
                go_roundw
                case rel => exact ⟨k + 1, by go_num, by omega, HO8.out, HX8.out, HN8.out, HB8.out⟩
                case measure => simp [intOf]; omega
            · have t3 : decide ((k : Int) ≤ (V : Int)) = false := decide_eq_false (by omega)
              have t4 : decide ((V : Int) ≤ (k : Int)) = true := decide_eq_true (by omega)
              rw [if_neg h1, if_pos (show V ≤ k by omega)] at hsn
              have HSN := Lib.hid hsn
              clear hsn
              go_wp2_with fail
              (with_reducible refine (HINT.out).mono ?_)
              rintro e w9 ⟨rfl, rfl⟩
              obtain ⟨W8, hW8⟩ : ∃ W, W = (wr.setCell ⟨O, 3, none⟩ (.int .i64 ((L3 : Int) + (F : Int)))).setCell ⟨O, 2, none⟩ (.int .i64 ((L2 : Int) + (F : Int))) := ⟨_, rfl⟩
              have HO8 := Lib.hid (show RkB W8 O V (sgLo D V (k + 1) : Nat) (sgHi D V (k + 1) : Nat) (bwS 1 1 D (k + 1) : Nat) from by
                rw [HSN.out.1, HSN.out.2.1, HSN.out.2.2, hW8, Int.natCast_add, Int.natCast_add, Int.natCast_add]
                exact (by rw [Int.natCast_zero, Int.add_zero]; exact rk32 HOB.out _ _))
              have hf8 : Fr (fun i => i = O) wr W8 := hW8 ▸ (((Fr.refl (fun i => i = O) wr).setCell (p := ⟨O, 3, none⟩) (fun _ => rfl) _).setCell (p := ⟨O, 2, none⟩) (fun _ => rfl) _)
              have HN8 := Lib.hid (HNR.out.frR HOB.out hf8)
              have HX8 := Lib.hid ((hf8.block _ (heap_lt HOX.out) (Nat.ne_of_lt HOL.out)).trans HOX.out)
              have HB8 := Lib.hid (HBW.out.trans (hf8.below HBW.out.size fun i hi h => by have := HOL.out; omega))
              clear hf8
              go_wp2
              rw [← hW8]
              go_roundw
              case rel => exact ⟨k + 1, by go_num, by omega, HO8.out, HX8.out, HN8.out, HB8.out⟩
              case measure => simp [intOf]; omega
          · obtain rfl : k = D + 1 := by omega
            have HVF := Lib.hid (show sgW a b = .tuple #[.agg #[.int .i64 (V : Nat), .int .i64 (L1 : Nat), .int .i64 (L2 : Nat), .int .i64 (L3 : Nat)], .int .i64 0] by
              rw [HWE.out]
              unfold sgR
              rw [← HDV.out.1, ← HDV.out.2, HLL.out.1, HLL.out.2.1, HLL.out.2.2, HF1.out, HF2.out, HF3.out])
            have b0 : wr.cell? ⟨w.heap.size, 0, none⟩ = some (.int .i64 0) := by rw [cellsAt hox]; rfl
            have b1 : wr.cell? ⟨w.heap.size, 1, none⟩ = some (.int .i64 0) := by rw [cellsAt hox]; rfl
            have b2 : wr.cell? ⟨w.heap.size, 2, none⟩ = some (.int .i64 0) := by rw [cellsAt hox]; rfl
            have b3 : wr.cell? ⟨w.heap.size, 3, none⟩ = some (.int .i64 0) := by rw [cellsAt hox]; rfl
            have z0 := frozenAt hox 0
            have z1 := frozenAt hox 1
            have z2 := frozenAt hox 2
            have z3 := frozenAt hox 3
            have hlt6 := heap_lt hox
            have HBF := Lib.hid (fun x y u v => (((hbw.setCell (p := ⟨w.heap.size, 0, none⟩) (Nat.le_refl _) x).setCell (p := ⟨w.heap.size, 1, none⟩) (Nat.le_refl _) y).setCell (p := ⟨w.heap.size, 2, none⟩) (Nat.le_refl _) u).setCell (p := ⟨w.heap.size, 3, none⟩) (Nat.le_refl _) v)
            clear hbw hox hob hnr hL1 hL2 hL3 hlt
            go_wp2
            refine bodyPost_ret (v := .tuple #[.agg #[.int .i64 (V : Nat), .int .i64 (L1 : Nat), .int .i64 (L2 : Nat), .int .i64 (L3 : Nat)], .int .i64 0]) (by simp [results, Tryz.results13, go_sem, b0, b1, b2, b3]) rfl ⟨by rw [HVF.out], HBF.out _ _ _ _⟩
  · rw [if_neg ho] at hcn HCN
    have HWE := Lib.hid (show sgW a b = .tuple #[rkZ, .int .i64 9] by rw [sgW_bad (by rw [hcn]; decide), hcn])
    clear hf hs ho hcn hab
    go_enter Tryz.func13, Tryz.ntmps13
    go_upto_region 1 with fail
    rw [← hW0]
    clear hW0
    go_wp2_with fail
    (with_reducible refine (HJ.out W0 HST0.out.below).mono ?_)
    rintro e w1 ⟨g1, rfl, hg1, hb1⟩
    have HC1 := Lib.hid (HCN.out w1 g1 hg1)
    have HB1 := Lib.hid hb1
    clear hg1 hb1
    go_wp2_with fail
    (with_reducible refine (HC1.out).mono ?_)
    rintro e w2 ⟨rfl, hb2⟩
    have HB2 := Lib.hid (below_next HB1.out hb2)
    clear hb2
    have hst1 := HST0.out.call HB2.out
    have k0 : _ = some (Value.int .i64 0) := hst1.cell 0 0 rfl rfl
    have k1 : _ = some (Value.int .i64 0) := hst1.cell 0 1 rfl rfl
    have k2 : _ = some (Value.int .i64 0) := hst1.cell 0 2 rfl rfl
    have k3 : _ = some (Value.int .i64 0) := hst1.cell 0 3 rfl rfl
    have z0 := hst1.frozen 0 0 rfl
    have z1 := hst1.frozen 0 1 rfl
    have z2 := hst1.frozen 0 2 rfl
    have z3 := hst1.frozen 0 3 rfl
    have hlt := hst1.lt 0 rfl
    have HBF := Lib.hid (fun x y u v => ((((below_next HST0.out.below HB2.out).setCell (p := ⟨w.heap.size, 0, none⟩) (Nat.le_refl _) x).setCell (p := ⟨w.heap.size, 1, none⟩) (Nat.le_refl _) y).setCell (p := ⟨w.heap.size, 2, none⟩) (Nat.le_refl _) u).setCell (p := ⟨w.heap.size, 3, none⟩) (Nat.le_refl _) v)
    clear hst1
    go_wp2
    refine bodyPost_ret (v := .tuple #[.agg #[.int .i64 0, .int .i64 0, .int .i64 0, .int .i64 0], .int .i64 9]) (by simp [results, Tryz.results13, go_sem, k0, k1, k2, k3]) rfl ⟨by rw [HWE.out]; rfl, HBF.out _ _ _ _⟩
end Go.Proofs.YtnapdhfkgfjjfaaGreatDoor
