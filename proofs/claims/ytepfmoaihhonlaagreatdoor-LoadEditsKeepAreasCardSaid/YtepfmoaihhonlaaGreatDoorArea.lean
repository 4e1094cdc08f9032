/- Package load: area. -/
import Derived.Test.YtepfmoaihhonlaaGreatDoorNewLine
import Derived.Deep.RegionHeld3
import Derived.Deep.CutRange
namespace Go.Proofs.YtepfmoaihhonlaaGreatDoor
open Go Go.RowKit Go.Proofs

/-- a number does not lie in a box without words -/
theorem NatR.apart {w : World} {A : Option Addr} {c : Nat} {l : List Nat} {x B : Nat} {cs : Array Value} {t : TypeId} (h : NatR w A c l x) (hB : w.heap[B]? = some (.cells cs t (0, 0))) (hcs : ∀ v ∈ cs.toList, ∀ z, v ≠ .int .u64 z) : ∀ b o, A = some ⟨b, o, none⟩ → 0 < l.length → b ≠ B := by
  rintro b o rfl hl rfl
  obtain ⟨b', o', e, _, _, hc⟩ := h.rd.2 hl
  simp only [Option.some.injEq, Addr.mk.injEq, and_true] at e
  obtain ⟨rfl, rfl⟩ := e
  have hu : (u64s l)[0]? = some ((u64s l)[0]'(by rw [u64s_length]; exact hl)) := List.getElem?_eq_getElem _
  have h1 := hc 0 _ hu
  obtain ⟨d, _, hd⟩ := u64s_get hu
  rw [cellsAt hB, hd] at h1
  obtain ⟨hlt, h2⟩ := Array.getElem?_eq_some_iff.1 h1
  exact hcs _ (by rw [← Array.getElem_toList hlt]; exact List.getElem_mem _) d h2
theorem ahead_len {w : World} {A : Option Addr} {c : Nat} {ll : List Nat} {l : List (Int × Int × Int)} {i : Nat} (h : NatR w A c ll (sumP ((stgs l).take i))) (hl : OkL l) : ll.length ≤ 3 := by
  refine len_of_lt h.norm h.val ?_
  have h1 := sumP_le (l := l.take i) (fun s hs => hl.ok s (List.mem_of_mem_take hs))
  have h2 : stgs (l.take i) = (stgs l).take i := by simp [stgs]
  rw [h2] at h1
  have h3 : (l.take i).length ≤ 50 := by have := hl.le; simp; omega
  have h4 := Nat.mul_le_mul_right 200000000000000000000 h3
  have h5 : W64 ^ 3 = 6277101735386680763835789423207666416102355444464034512896 := by unfold W64; rfl
  rw [h5]; omega
theorem ahead_lt {l : List (Int × Int × Int)} {i : Nat} (hl : OkL l) : sumP ((stgs l).take i) < W64 ^ 3 := by
  have h1 := sumP_le (l := l.take i) (fun s hs => hl.ok s (List.mem_of_mem_take hs))
  have h2 : stgs (l.take i) = (stgs l).take i := by simp [stgs]
  rw [h2] at h1
  have h3 : (l.take i).length ≤ 50 := by have := hl.le; simp; omega
  have h4 := Nat.mul_le_mul_right 200000000000000000000 h3
  have h5 : W64 ^ 3 = 6277101735386680763835789423207666416102355444464034512896 := by unfold W64; rfl
  rw [h5]; omega
theorem W9a : W64 ^ 4 + W64 ^ 4 + W64 ^ 4 + W64 ^ 4 < W64 ^ 9 := by unfold W64; decide
theorem W9c : W64 ^ 3 < W64 ^ 9 := by unfold W64; decide
theorem W9b : W64 < W64 ^ 9 := by unfold W64; decide
theorem small_len {w : World} {A : Option Addr} {c : Nat} {ll : List Nat} {x : Nat} (h : NatR w A c ll x) (hx : x < W64 ^ 9) : ll.length ≤ 9 := len_of_lt h.norm h.val hx
theorem prod_block {W : World} {B : Nat} {zs : List Int} (hW : W.heap[B]? = some (.cells (ints zs).toArray 3 (0, 0))) (hn : zs.length ≤ 1000) (hz : ∀ z ∈ zs, z ≤ 9223372036854775807) :
    Calls Tryz.prog 60 #[.slice (some ⟨B, 0, none⟩) zs.length zs.length] W (NatPost (prodN zs) W) :=
  product_any (some ⟨B, 0, none⟩) zs.length zs W ⟨by simp [ints], fun _ => ⟨B, 0, rfl, Nat.zero_le _, heap_lt hW, fun j u hj => by rw [cellsAt hW, Nat.zero_add]; simpa using hj⟩⟩ hn hz

set_option maxHeartbeats 4000000 in
set_option maxRecDepth 100000 in
theorem area_any (P : Nat) (A : Option Addr) (c : Nat) (l : List (Int × Int × Int)) (i x : Nat) (w : World) (hL : LineR w P A c l) (hok : OkL l) (F y z : Int) (hs : l[i]? = some (F, y, z)) (hx : x ≤ F.toNat) :
    Calls Tryz.prog 139 #[.pointer (some ⟨P, 0, none⟩), .int .i64 i, .int .i64 x] w fun e w' => ∃ A1 c1 l1 A2 c2 l2, e = .returned (.agg #[.slice A1 l1.length c1, .slice A2 l2.length c2]) ∧
      NatR w' A1 c1 l1 ((toStg (F, y, z)).num (sumP ((stgs l).take i)) x) ∧ NatR w' A2 c2 l2 (toStg (F, y, z)).den ∧ Below w.heap.size w w' := by
  have hil : i < l.length := (List.getElem?_eq_some_iff.1 hs).1
  obtain ⟨v1, v2, A1, c1, A2, c2, rfl, rfl, hbox, _, b2, o2, rfl, hb2, hah⟩ := hL.ex
  obtain ⟨A3, c3, l3, hc3, hn3⟩ := hah i (by omega)
  obtain ⟨bk, ok, F', y', z', rfl, _, hbk, hs', q0, q1, q2⟩ := hL.st.at3 hil
  obtain ⟨rfl, rfl, rfl⟩ : F = F' ∧ y = y' ∧ z = z' := by rw [hs] at hs'; simpa using hs'
  have hS := hok.ok _ (List.mem_of_getElem? hs)
  unfold OkS at hS
  simp only at hS
  obtain ⟨m1, m2, m3, m4, m5, m6⟩ := hS
  have hl3 := ahead_len hn3 hok
  obtain ⟨ah, hahe⟩ : ∃ ah, ah = sumP ((stgs l).take i) := ⟨_, rfl⟩
  have hahl : ah < W64 ^ 3 := by rw [hahe]; exact ahead_lt hok
  rw [← hahe] at hn3 ⊢
  clear hahe
  have k0 : w.cell? ⟨P, 0, none⟩ = some (.slice (some ⟨bk, ok, none⟩) l.length c) := by rw [cellsAt hbox]; rfl
  have hPl := hL.lt
  have hle := hok.le
  obtain ⟨W0, hW0⟩ : ∃ W0, W0 = (w.alloc (.cells #[.slice none 0 0, .slice none 0 0] 98)).alloc (.cells #[.int .i64 F, .int .i64 y, .int .i64 z] 86) := ⟨_, rfl⟩
  have HST0 := Lib.hid (show St w W0 [(w.heap.size, .cells #[.slice none 0 0, .slice none 0 0] 98 (0, 0)), (w.heap.size + 1, .cells #[.int .i64 F, .int .i64 y, .int .i64 z] 86 (0, 0))] by rw [hW0]; exact ((St.start w).alloc _ _ rfl).alloc _ _ (by simp))
  have hsW0 : W0.heap.size = w.heap.size + 2 := by rw [hW0]; simp
  have HN3 := Lib.hid hn3
  have HSW0 := Lib.hid hsW0
  have HBOX := Lib.hid hbox
  have HC3 := Lib.hid hc3
  have hii : (i : Int) < (l.length : Int) := by omega
  have hii0 : (0 : Int) ≤ (i : Int) := by omega
  have hii1 : (i : Int) < (l.length : Int) + 1 := by omega
  clear hsW0 hah hn3 hbox hs hs' hL hc3
  go_enter Tryz.func139, Tryz.ntmps139
  go_upto_region 2 with fail
  rw [← hW0]
  clear hW0 k0 q0 q1 q2
  have HFACT := Lib.hid (show ∀ X, Below W0.heap.size W0 X → Below W0.heap.size W0 X ∧ X.cell? ⟨P, 2, none⟩ = some (.slice (some ⟨b2, o2, none⟩) (l.length + 1) c2) ∧ X.cell? ⟨b2, o2 + i, none⟩ = some (.slice A3 l3.length c3) ∧ X.cell? ⟨w.heap.size + 1, 0, none⟩ = some (.int .i64 F) ∧ X.cell? ⟨w.heap.size + 1, 1, none⟩ = some (.int .i64 y) ∧ X.cell? ⟨w.heap.size + 1, 2, none⟩ = some (.int .i64 z) from fun X hX => by
    have hb := HST0.out.old hX
    refine ⟨hX, (hb.cell (p := ⟨P, 2, none⟩) hPl).trans (by rw [cellsAt HBOX.out]; rfl), (hb.cell (p := ⟨b2, o2 + i, none⟩) hb2).trans HC3.out, (HST0.out.call hX).cell 1 0 rfl rfl, (HST0.out.call hX).cell 1 1 rfl rfl, (HST0.out.call hX).cell 1 2 rfl rfl⟩)
  have hFW : F.toNat < W64 := by unfold W64; omega
  have HM4 := Lib.hid (show ah * F.toNat ≤ W64 ^ 4 by rw [Nat.pow_succ]; exact Nat.mul_le_mul (by omega) (by omega))
  have HP4 := Lib.hid (prodN_le (zs := [2, F, y, (x : Int)]) (by intro q hq; simp at hq; omega))
  have HAHL := Lib.hid hahl
  have HOF := Lib.hid (fun W => natOf_any F W (by omega))
  have HMU := Lib.hid (fun W A4 c4 l4 (hb : Below W0.heap.size W0 W) (h4 : NatR W A4 c4 l4 F.toNat) => natMul_any A3 A4 c3 c4 l3 l4 _ _ W (HN3.out.on (HST0.out.old hb)) h4 (by omega) (by have := small_len h4 (Nat.lt_trans hFW W9b); omega))
  have HPR := Lib.hid (fun (W : World) B (hW : W.heap[B]? = some (.cells #[.int .i64 2, .int .i64 F, .int .i64 y, .int .i64 x] 3 (0, 0))) => prod_block (zs := [2, F, y, (x : Int)]) (W := W) (B := B) hW (by simp) (by intro q hq; simp at hq; omega))
  have HAD := Lib.hid (fun W A5 c5 l5 A6 c6 l6 (h5 : NatR W A5 c5 l5 (ah * F.toNat)) (h6 : NatR W A6 c6 l6 (prodN [2, F, y, (x : Int)])) => natAdd_any A5 A6 c5 c6 l5 l6 _ _ W h5 h6 (by have := small_len h5 (by have := HM4.out; have := W9a; omega); omega) (by have h := small_len h6 (by have h1 : prodN [2, F, y, (x : Int)] ≤ W64 ^ 4 := HP4.out; have := W9a; omega); omega))
  clear hahl hok
  obtain ⟨f0, f1, f2, f3, f4, f5⟩ := HFACT.out W0 (Below.refl _ W0)
  go_cut [8] from 9 (fun v wx => ∃ A4 c4 l4, v = .slice A4 l4.length c4 ∧ NatR wx A4 c4 l4 (ah * F.toNat + prodN [2, F, y, (x : Int)]) ∧ Below W0.heap.size W0 wx)
  case first =>
    go_region_held3 (fun X => Below W0.heap.size W0 X ∧ X.cell? ⟨P, 2, none⟩ = some (.slice (some ⟨b2, o2, none⟩) (l.length + 1) c2) ∧ X.cell? ⟨b2, o2 + i, none⟩ = some (.slice A3 l3.length c3) ∧ X.cell? ⟨w.heap.size + 1, 0, none⟩ = some (.int .i64 F) ∧ X.cell? ⟨w.heap.size + 1, 1, none⟩ = some (.int .i64 y) ∧ X.cell? ⟨w.heap.size + 1, 2, none⟩ = some (.int .i64 z))
      (first
        | exact HFACT.out _ (Below.refl _ W0).drew
        | exact HFACT.out _ ((Below.refl _ W0).alloc (Nat.le_refl _) _).drew
        | (go_split_ands; refine HFACT.out _ (below_next ?_ hbA); assumption)
        | (go_split_ands; refine HFACT.out _ (below_next ?_ hbP); assumption)
        | (go_split_ands; refine HFACT.out _ (below_next ?_ hbM); assumption)
        | (go_split_ands; refine HFACT.out _ (below_next ?_ hbO); assumption)
        | (go_split_ands; refine HFACT.out _ (below_next ?_ ((Below.refl _ _).alloc (Nat.le_refl _) _)); assumption))
      (first
        | (go_at_call 63; refine (HOF.out _).mono ?_; rintro e wO ⟨AO, cO, lO, rfl, hnO, hbO⟩)
        | (go_at_call 90; refine (HMU.out _ AO cO lO ?_ ?_).mono ?_; (go_split_ands; assumption); (first | exact hnO | exact hnO.on ((Below.refl _ _).alloc (Nat.le_refl _) _)); rintro e wM ⟨AM, cM, lM, rfl, hnM, hbM⟩)
        | (go_at_call 60; refine (HPR.out _ _ ?_).mono ?_; (first | exact alloc_at _ _ _ rfl | exact (hbM.block _ (by simp)).trans (alloc_at _ _ _ rfl) | exact (hbM.block _ (by have := hbO.size; simp at this; omega)).trans ((hbO.block _ (by simp)).trans (alloc_at _ _ _ rfl))); rintro e wP ⟨AP, cP, lP, rfl, hnP, hbP⟩)
        | (go_at_call 61; refine (HAD.out _ AM cM lM AP cP lP ?_ hnP).mono ?_; (first | exact hnM.on hbP | exact hnM.on (below_next ((Below.refl _ _).alloc (Nat.le_refl _) _) hbP)); rintro e wA ⟨AA, cA, lA, rfl, hnA, hbA⟩))
    all_goals go_wp2_with fail
    all_goals go_meet
    all_goals exact ⟨AA, cA, lA, rfl, hnA, by go_split_ands; assumption⟩
  case rest =>
    obtain ⟨A4, c4, l4, rfl, hn4, hbc⟩ := hcut
    have HN4 := Lib.hid hn4
    have HBC := Lib.hid hbc
    have hl4 := small_len hn4 (by have h1 := HM4.out; have h2 : prodN [2, F, y, (x : Int)] ≤ W64 ^ 4 := HP4.out; have := W9a; omega)
    have HDEN := Lib.hid (show prodN [2, F, 1000000000] = (toStg (F, y, z)).den by simp only [prodN, Stg.den, toStg]; show 2 * (F.toNat * (1000000000 * 1)) = _; omega)
    obtain ⟨g0, g1, g2, g3, g4, g5⟩ := HFACT.out wc hbc
    have hwc : w.heap.size + 1 < wc.heap.size := by have := HSW0.out; have := hbc.size; omega
    clear hn4 hbc f0 f1 f2 f3 f4 f5
    have e1 : prodN [2, F, y, (x : Int)] = 2 * F.toNat * y.toNat * x := by simp only [prodN, Nat.mul_one]; show 2 * (F.toNat * (y.toNat * x)) = _; rw [Nat.mul_assoc, Nat.mul_assoc]
    by_cases hyz : y ≤ z
    · have e2 : prodN [z - y, (x : Int), (x : Int)] = (z.toNat - y.toNat) * x * x := by simp only [prodN, Nat.mul_one]; show (z - y).toNat * (x * x) = _; rw [Nat.mul_assoc, show (z - y).toNat = z.toNat - y.toNat by omega]
      have HNUM := Lib.hid (show ah * F.toNat + prodN [2, F, y, (x : Int)] + prodN [z - y, (x : Int), (x : Int)] = (toStg (F, y, z)).num ah x by
        rw [e1, e2]; unfold Stg.num toStg; simp only; rw [if_pos (by omega)])
      clear e1 e2
      have HP3 := Lib.hid (prodN_le (zs := [z - y, (x : Int), (x : Int)]) (by intro q hq; simp at hq; omega))
      have HPR2 := Lib.hid (fun (W : World) B (hW : W.heap[B]? = some (.cells #[.int .i64 (z - y), .int .i64 x, .int .i64 x] 3 (0, 0))) => prod_block (zs := [z - y, (x : Int), (x : Int)]) (W := W) (B := B) hW (by simp) (by intro q hq; simp at hq; omega))
      have HPR3 := Lib.hid (fun (W : World) B (hW : W.heap[B]? = some (.cells #[.int .i64 2, .int .i64 F, .int .i64 1000000000] 3 (0, 0))) => prod_block (zs := [2, F, 1000000000]) (W := W) (B := B) hW (by simp) (by intro q hq; simp at hq; omega))
      have HOP := Lib.hid (show ∀ (W : World) A6 c6 l6, Below wc.heap.size wc W → NatR W A6 c6 l6 (prodN [z - y, (x : Int), (x : Int)]) → Calls Tryz.prog 61 #[.slice A4 l4.length c4, .slice A6 l6.length c6] W (NatPost (ah * F.toNat + prodN [2, F, y, (x : Int)] + prodN [z - y, (x : Int), (x : Int)]) W) from fun W A6 c6 l6 hb h6 => natAdd_any A4 A6 c4 c6 l4 l6 _ _ W (HN4.out.on hb) h6 (by omega) (by have := small_len h6 (by have h1 : prodN [z - y, (x : Int), (x : Int)] ≤ W64 ^ 3 := HP3.out; have := W9c; omega); omega))
      go_wp2_with fail
      refine (HPR2.out _ _ (alloc_at wc _ _ rfl)).mono ?_
      rintro e wP ⟨AP, cP, lP, rfl, hnP, hbP⟩
      have hbP' : Below wc.heap.size wc wP := below_next ((Below.refl _ wc).alloc (Nat.le_refl _) _) hbP
      have HO := Lib.hid (HOP.out wP AP cP lP hbP' hnP)
      clear g0 g1 g2 g3 g4 g5
      obtain ⟨g0, g1, g2, g3, g4, g5⟩ := HFACT.out wP (below_next HBC.out hbP')
      go_wp2_with fail
      refine HO.out.mono ?_
      rintro e wA ⟨AA, cA, lA, rfl, hnA, hbA⟩
      have hbA' : Below wc.heap.size wc wA := below_next hbP' hbA
      clear g0 g1 g2 g3 g4 g5
      obtain ⟨g0, g1, g2, g3, g4, g5⟩ := HFACT.out wA (below_next HBC.out hbA')
      have g6 : w.heap.size + 1 < wA.heap.size := by have := HSW0.out; have := (below_next HBC.out hbA').size; omega
      have HNA := Lib.hid hnA
      clear hnP hbP hnA hbA
      go_wp2_with fail
      refine (HPR3.out _ _ (alloc_at wA _ _ rfl)).mono ?_
      rintro e wD ⟨AD, cD, lD, rfl, hnD, hbD⟩
      have hbD1 : Below wA.heap.size wA wD := below_next ((Below.refl _ wA).alloc (Nat.le_refl _) _) hbD
      have hbD' : Below W0.heap.size W0 wD := below_next HBC.out (below_next hbA' hbD1)
      have hRB := (HST0.out.call hbD').at 0 rfl
      have r0 := (HST0.out.call hbD').cell 0 0 rfl rfl
      have r1 := (HST0.out.call hbD').cell 0 1 rfl rfl
      have z0 := (HST0.out.call hbD').frozen 0 0 rfl
      have z1 := (HST0.out.call hbD').frozen 0 1 rfl
      have HFIN := Lib.hid (show NatR ((wD.setCell ⟨w.heap.size, 0, none⟩ (.slice AA lA.length cA)).setCell ⟨w.heap.size, 1, none⟩ (.slice AD lD.length cD)) AA cA lA (ah * F.toNat + prodN [2, F, y, (x : Int)] + prodN [z - y, (x : Int), (x : Int)]) ∧ NatR ((wD.setCell ⟨w.heap.size, 0, none⟩ (.slice AA lA.length cA)).setCell ⟨w.heap.size, 1, none⟩ (.slice AD lD.length cD)) AD cD lD (prodN [2, F, 1000000000]) ∧ Below w.heap.size w ((wD.setCell ⟨w.heap.size, 0, none⟩ (.slice AA lA.length cA)).setCell ⟨w.heap.size, 1, none⟩ (.slice AD lD.length cD)) from by
        have hf : Fr (fun i => i = w.heap.size) wD ((wD.setCell ⟨w.heap.size, 0, none⟩ (.slice AA lA.length cA)).setCell ⟨w.heap.size, 1, none⟩ (.slice AD lD.length cD)) := ((Fr.refl (fun i => i = w.heap.size) wD).setCell (fun _ => rfl) _).setCell (fun _ => rfl) _
        have key : ∀ A c l x, NatR wD A c l x → NatR ((wD.setCell ⟨w.heap.size, 0, none⟩ (.slice AA lA.length cA)).setCell ⟨w.heap.size, 1, none⟩ (.slice AD lD.length cD)) A c l x := fun A c l x h => h.keep hf.size (fun b o e hb hl => hf.block b hb (h.apart hRB (by intro v hv z; simp at hv; rw [hv]; intro e; cases e) b o e hl))
        exact ⟨key _ _ _ _ (HNA.out.on hbD1), key _ _ _ _ hnD, ((HST0.out.call hbD').below.setCell (Nat.le_refl _) _).setCell (Nat.le_refl _) _⟩)
      clear hnD hbD hRB
      go_wp2
      refine bodyPost_ret (v := .agg #[.slice AA lA.length cA, .slice AD lD.length cD]) ?_ rfl ⟨AA, cA, lA, AD, cD, lD, rfl, ?_, ?_, HFIN.out.2.2⟩
      · simp [results, Tryz.results139, go_sem, r0, r1]
      · rw [← HNUM.out]; exact HFIN.out.1
      · rw [← HDEN.out]; exact HFIN.out.2.1
    · have e2 : prodN [y - z, (x : Int), (x : Int)] = (y.toNat - z.toNat) * x * x := by simp only [prodN, Nat.mul_one]; show (y - z).toNat * (x * x) = _; rw [Nat.mul_assoc, show (y - z).toNat = y.toNat - z.toNat by omega]
      have HNUM := Lib.hid (show ah * F.toNat + prodN [2, F, y, (x : Int)] - prodN [y - z, (x : Int), (x : Int)] = (toStg (F, y, z)).num ah x by
        rw [e1, e2]; unfold Stg.num toStg; simp only; rw [if_neg (by omega)])
      have HFINE := Lib.hid (show prodN [y - z, (x : Int), (x : Int)] ≤ ah * F.toNat + prodN [2, F, y, (x : Int)] by
        rw [e1, e2]; exact num_fine (ah := ah) (s := toStg (F, y, z)) (x := x) hx)
      have t1 : decide (y ≤ z) = false := by simpa using hyz
      clear e1 e2
      have HP3 := Lib.hid (prodN_le (zs := [y - z, (x : Int), (x : Int)]) (by intro q hq; simp at hq; omega))
      have HPR2 := Lib.hid (fun (W : World) B (hW : W.heap[B]? = some (.cells #[.int .i64 (y - z), .int .i64 x, .int .i64 x] 3 (0, 0))) => prod_block (zs := [y - z, (x : Int), (x : Int)]) (W := W) (B := B) hW (by simp) (by intro q hq; simp at hq; omega))
      have HPR3 := Lib.hid (fun (W : World) B (hW : W.heap[B]? = some (.cells #[.int .i64 2, .int .i64 F, .int .i64 1000000000] 3 (0, 0))) => prod_block (zs := [2, F, 1000000000]) (W := W) (B := B) hW (by simp) (by intro q hq; simp at hq; omega))
      have HOP := Lib.hid (show ∀ (W : World) A6 c6 l6, Below wc.heap.size wc W → NatR W A6 c6 l6 (prodN [y - z, (x : Int), (x : Int)]) → Calls Tryz.prog 62 #[.slice A4 l4.length c4, .slice A6 l6.length c6] W (NatPost (ah * F.toNat + prodN [2, F, y, (x : Int)] - prodN [y - z, (x : Int), (x : Int)]) W) from fun W A6 c6 l6 hb h6 => natSub_any A4 A6 c4 c6 l4 l6 _ _ W (HN4.out.on hb) h6 (by omega) HFINE.out)
      go_wp2_with fail
      refine (HPR2.out _ _ (alloc_at wc _ _ rfl)).mono ?_
      rintro e wP ⟨AP, cP, lP, rfl, hnP, hbP⟩
      have hbP' : Below wc.heap.size wc wP := below_next ((Below.refl _ wc).alloc (Nat.le_refl _) _) hbP
      have HO := Lib.hid (HOP.out wP AP cP lP hbP' hnP)
      clear g0 g1 g2 g3 g4 g5
      obtain ⟨g0, g1, g2, g3, g4, g5⟩ := HFACT.out wP (below_next HBC.out hbP')
      go_wp2_with fail
      refine HO.out.mono ?_
      rintro e wA ⟨AA, cA, lA, rfl, hnA, hbA⟩
      have hbA' : Below wc.heap.size wc wA := below_next hbP' hbA
      clear g0 g1 g2 g3 g4 g5
      obtain ⟨g0, g1, g2, g3, g4, g5⟩ := HFACT.out wA (below_next HBC.out hbA')
      have g6 : w.heap.size + 1 < wA.heap.size := by have := HSW0.out; have := (below_next HBC.out hbA').size; omega
      have HNA := Lib.hid hnA
      clear hnP hbP hnA hbA
      go_wp2_with fail
      refine (HPR3.out _ _ (alloc_at wA _ _ rfl)).mono ?_
      rintro e wD ⟨AD, cD, lD, rfl, hnD, hbD⟩
      have hbD1 : Below wA.heap.size wA wD := below_next ((Below.refl _ wA).alloc (Nat.le_refl _) _) hbD
      have hbD' : Below W0.heap.size W0 wD := below_next HBC.out (below_next hbA' hbD1)
      have hRB := (HST0.out.call hbD').at 0 rfl
      have r0 := (HST0.out.call hbD').cell 0 0 rfl rfl
      have r1 := (HST0.out.call hbD').cell 0 1 rfl rfl
      have z0 := (HST0.out.call hbD').frozen 0 0 rfl
      have z1 := (HST0.out.call hbD').frozen 0 1 rfl
      have HFIN := Lib.hid (show NatR ((wD.setCell ⟨w.heap.size, 0, none⟩ (.slice AA lA.length cA)).setCell ⟨w.heap.size, 1, none⟩ (.slice AD lD.length cD)) AA cA lA (ah * F.toNat + prodN [2, F, y, (x : Int)] - prodN [y - z, (x : Int), (x : Int)]) ∧ NatR ((wD.setCell ⟨w.heap.size, 0, none⟩ (.slice AA lA.length cA)).setCell ⟨w.heap.size, 1, none⟩ (.slice AD lD.length cD)) AD cD lD (prodN [2, F, 1000000000]) ∧ Below w.heap.size w ((wD.setCell ⟨w.heap.size, 0, none⟩ (.slice AA lA.length cA)).setCell ⟨w.heap.size, 1, none⟩ (.slice AD lD.length cD)) from by
        have hf : Fr (fun i => i = w.heap.size) wD ((wD.setCell ⟨w.heap.size, 0, none⟩ (.slice AA lA.length cA)).setCell ⟨w.heap.size, 1, none⟩ (.slice AD lD.length cD)) := ((Fr.refl (fun i => i = w.heap.size) wD).setCell (fun _ => rfl) _).setCell (fun _ => rfl) _
        have key : ∀ A c l x, NatR wD A c l x → NatR ((wD.setCell ⟨w.heap.size, 0, none⟩ (.slice AA lA.length cA)).setCell ⟨w.heap.size, 1, none⟩ (.slice AD lD.length cD)) A c l x := fun A c l x h => h.keep hf.size (fun b o e hb hl => hf.block b hb (h.apart hRB (by intro v hv z; simp at hv; rw [hv]; intro e; cases e) b o e hl))
        exact ⟨key _ _ _ _ (HNA.out.on hbD1), key _ _ _ _ hnD, ((HST0.out.call hbD').below.setCell (Nat.le_refl _) _).setCell (Nat.le_refl _) _⟩)
      clear hnD hbD hRB
      go_wp2
      refine bodyPost_ret (v := .agg #[.slice AA lA.length cA, .slice AD lD.length cD]) ?_ rfl ⟨AA, cA, lA, AD, cD, lD, rfl, ?_, ?_, HFIN.out.2.2⟩
      · simp [results, Tryz.results139, go_sem, r0, r1]
      · rw [← HNUM.out]; exact HFIN.out.1
      · rw [← HDEN.out]; exact HFIN.out.2.1
end Go.Proofs.YtepfmoaihhonlaaGreatDoor
