/- Package load: first, arrival. -/
import Derived.Test.YtepfmoaihhonlaaGreatDoorAt
import Derived.Deep.CutBlock
namespace Go.Proofs.YtepfmoaihhonlaaGreatDoor
open Go Go.RowKit Go.Proofs

def sumF (l : List Stg) : Nat := (l.map Stg.F).sum
/-- the first stage with the area -/
theorem fst_at {n d : Nat} : ∀ (l : List Stg) (ah bg k : Nat) (s : Stg), l[k]? = some s → (∀ j, j < k → (ah + sumP (l.take (j + 1))) * d < n * 2000000000) → ¬ (ah + sumP (l.take (k + 1))) * d < n * 2000000000 →
    fst n d ah bg l = some (bg + sumF (l.take k) + bs (fun x => decide (atLeast n d (ah + sumP (l.take k), s, x))) 64 0 s.F)
  | [], _, _, _, _, h, _, _ => by simp at h
  | s0 :: r, ah, bg, 0, s, h, _, h2 => by
    have h : s0 = s := by simpa using h
    subst h
    unfold fst
    rw [if_neg (by simpa [sumP] using h2)]
    simp [sumF, sumP]
  | s0 :: r, ah, bg, k + 1, s, h, h1, h2 => by
    unfold fst
    rw [if_pos (by have := h1 0 (by omega); simpa [sumP] using this)]
    have ih := fst_at r (ah + s0.parts) (bg + s0.F) k s (by simpa using h) (fun j hj => by have := h1 (j + 1) (by omega); simpa [sumP, Nat.add_assoc] using this) (by simpa [sumP, Nat.add_assoc] using h2)
    rw [ih]
    simp [sumF, sumP, Nat.add_assoc]
theorem fst_end {n d : Nat} : ∀ (l : List Stg) (ah bg : Nat), (∀ j, j < l.length → (ah + sumP (l.take (j + 1))) * d < n * 2000000000) → fst n d ah bg l = none
  | [], _, _, _ => rfl
  | s0 :: r, ah, bg, h1 => by
    unfold fst
    rw [if_pos (by have := h1 0 (by simp); simpa [sumP] using this)]
    exact fst_end r (ah + s0.parts) (bg + s0.F) (fun j hj => by have := h1 (j + 1) (by simp; omega); simpa [sumP, Nat.add_assoc] using this)
theorem sumF_lenS {l : List (Int × Int × Int)} (h : ∀ s ∈ l, OkS s) : (sumF (stgs l) : Int) = lenS l := by
  induction l with
  | nil => rfl
  | cons s l ih =>
    have h1 := ih (fun x hx => h x (by simp [hx]))
    have h2 := h s (by simp)
    unfold OkS at h2
    have e : sumF (stgs (s :: l)) = s.1.toNat + sumF (stgs l) := by simp [sumF, stgs, toStg]
    have e2 : lenS (s :: l) = s.1 + lenS l := by simp [lenS]
    rw [e, e2]; omega
theorem cmpN_lt0 {x y : Nat} : (cmpN x y < 0) ↔ x < y := by unfold cmpN; split <;> (try split) <;> omega
theorem cmpN_ge0 {x y : Nat} : (0 ≤ cmpN x y) ↔ y ≤ x := by unfold cmpN; split <;> (try split) <;> omega
theorem W9d : W64 ^ 4 * W64 ^ 4 < W64 ^ 9 := by unfold W64; decide
theorem mul9 {a b : Nat} (ha : a < W64 ^ 4) (hb : b < W64 ^ 4) : a * b < W64 ^ 9 := Nat.lt_of_le_of_lt (Nat.mul_le_mul (Nat.le_of_lt ha) (Nat.le_of_lt hb)) W9d
theorem W3_4 : W64 ^ 3 < W64 ^ 4 := by unfold W64; decide

/-- what first returns -/
def firstV : Option Nat → Value
  | some T => .tuple #[.int .i64 (T : Int), .bool true]
  | none => .tuple #[.int .i64 0, .bool false]

set_option maxHeartbeats 8000000 in
set_option maxRecDepth 100000 in
theorem first_any (P : Nat) (A : Option Addr) (c : Nat) (l : List (Int × Int × Int)) (An Ad : Option Addr) (cn cd : Nat) (ln ld : List Nat) (n d : Nat) (w : World) (hL : LineR w P A c l) (hok : OkL l) (hn : NatR w An cn ln n) (hd : NatR w Ad cd ld d) (hn4 : n < W64 ^ 3) (hd4 : d < W64 ^ 3) :
    Calls Tryz.prog 179 #[.pointer (some ⟨P, 0, none⟩), .agg #[.slice An ln.length cn, .slice Ad ld.length cd]] w fun e w' =>
      e = .returned (firstV (fst n d 0 0 (stgs l))) ∧ Below w.heap.size w w' := by
  have hln := small_len hn (by have := W9c; omega)
  have hld := small_len hd (by have := W9c; omega)
  obtain ⟨v1, v2, A1, c1, A2, c2, rfl, rfl, hbox, hbg, b2, o2, rfl, hb2, hah⟩ := hL.ex
  have hPl := hL.lt
  have hle := hok.le
  have HNN := Lib.hid hn
  have HND := Lib.hid hd
  have HL := Lib.hid hL
  have HOK := Lib.hid hok
  obtain ⟨W0, hW0⟩ : ∃ W0, W0 = w.alloc (.cells #[.slice An ln.length cn, .slice Ad ld.length cd] 98) := ⟨_, rfl⟩
  have HST0 := Lib.hid (show St w W0 [(w.heap.size, .cells #[.slice An ln.length cn, .slice Ad ld.length cd] 98 (0, 0))] by rw [hW0]; exact (St.start w).alloc _ _ rfl)
  have HBOX := Lib.hid hbox
  have HFACT := Lib.hid (show ∀ X, Below W0.heap.size W0 X → Below W0.heap.size W0 X ∧ X.cell? ⟨w.heap.size, 0, none⟩ = some (.slice An ln.length cn) ∧ X.cell? ⟨w.heap.size, 1, none⟩ = some (.slice Ad ld.length cd) ∧ X.cell? ⟨P, 0, none⟩ = some (.slice A l.length c) ∧ X.cell? ⟨P, 1, none⟩ = some (.slice A1 l.length c1) ∧ X.cell? ⟨P, 2, none⟩ = some (.slice (some ⟨b2, o2, none⟩) (l.length + 1) c2) from fun X hX => by
    have hb := HST0.out.old hX
    exact ⟨hX, (HST0.out.call hX).cell 0 0 rfl rfl, (HST0.out.call hX).cell 0 1 rfl rfl, (hb.cell (p := ⟨P, 0, none⟩) hPl).trans (by rw [cellsAt HBOX.out]; rfl), (hb.cell (p := ⟨P, 1, none⟩) hPl).trans (by rw [cellsAt HBOX.out]; rfl), (hb.cell (p := ⟨P, 2, none⟩) hPl).trans (by rw [cellsAt HBOX.out]; rfl)⟩)
  have HOF := Lib.hid (fun W => natOf_any 2000000000 W (by omega))
  have HMP := Lib.hid (fun (W : World) A5 c5 l5 (hb : Below W0.heap.size W0 W) (h5 : NatR W A5 c5 l5 (2000000000 : Int).toNat) => natMul_any An A5 cn c5 ln l5 _ _ W (HNN.out.on (HST0.out.old hb)) h5 (by omega) (by have := small_len h5 (by have := W9b; show 2000000000 < _; unfold W64 at this ⊢; omega); omega))
  have HAHD := Lib.hid hah
  have HBG := Lib.hid hbg
  clear hn hd hL hok hbox hah hbg
  go_enter Tryz.func179, Tryz.ntmps179
  go_wp2_with fail
  rw [← hW0]
  clear hW0
  obtain ⟨f0, f1, f2, f3, f4, f5⟩ := HFACT.out W0 (Below.refl _ W0)
  go_region_held3 (fun X => Below W0.heap.size W0 X ∧ X.cell? ⟨w.heap.size, 0, none⟩ = some (.slice An ln.length cn))
    (first
      | exact ⟨(HFACT.out _ (Below.refl _ W0).drew).1, (HFACT.out _ (Below.refl _ W0).drew).2.1⟩
      | (go_split_ands; refine ⟨(HFACT.out _ (below_next ?_ hbM)).1, (HFACT.out _ (below_next ?_ hbM)).2.1⟩ <;> assumption)
      | (go_split_ands; refine ⟨(HFACT.out _ (below_next ?_ hbO)).1, (HFACT.out _ (below_next ?_ hbO)).2.1⟩ <;> assumption))
    (first
      | (go_at_call 63; refine (HOF.out _).mono ?_; rintro e wO ⟨AO, cO, lO, rfl, hnO, hbO⟩)
      | (go_at_call 90; refine (HMP.out _ AO cO lO ?_ hnO).mono ?_; (go_split_ands; assumption); rintro e wM ⟨AM, cM, lM, rfl, hnM, hbM⟩))
  have hbM0 : Below W0.heap.size W0 wM := by go_split_ands; assumption
  have HNM := Lib.hid (show NatR wM AM cM lM (n * 2000000000) from hnM)
  have HBM := Lib.hid hbM0
  have hlM := small_len HNM.out (mul9 (by have := W3_4; omega) (by unfold W64; omega))
  clear hnM hnO hbM0 f0 f1 f2 f3 f4 f5
  go_wp2_with fail
  go_loopw [7] (fun iv wr => ∃ k : Nat, iv = .int .i64 k ∧ k ≤ l.length ∧ (∀ j, j < k → (0 + sumP ((stgs l).take (j + 1))) * d < n * 2000000000) ∧ Below wM.heap.size wM wr) (fun iv _ => l.length - (intOf iv).toNat)
  case atStart => exact ⟨0, rfl, Nat.zero_le _, fun j hj => absurd hj (by omega), Below.refl _ _⟩
  case round =>
    obtain ⟨wo, hwo⟩ : ∃ wo : World, wo = wr := ⟨_, rfl⟩
    subst hwo
    obtain ⟨k, rfl, hk, hlow, hbw⟩ := hrel
    have HLOW := Lib.hid hlow
    have HBW := Lib.hid hbw
    have hb0 : Below W0.heap.size W0 wo := below_next HBM.out hbw
    have HB0 := Lib.hid hb0
    clear hlow
    by_cases hlt : k < l.length
    · have t1 : decide ((k : Int) < (l.length : Int)) = true := by simp; omega
      obtain ⟨A5, c5, l5, hc5, hn5⟩ := HAHD.out (k + 1) (by omega)
      have h5l := ahead_lt (l := l) (i := k + 1) HOK.out
      obtain ⟨ah, hahe⟩ : ∃ ah, ah = sumP ((stgs l).take (k + 1)) := ⟨_, rfl⟩
      rw [← hahe] at hn5 h5l
      have HAHE := Lib.hid hahe
      have hl5 := small_len hn5 (by have := W9c; omega)
      have HN5 := Lib.hid hn5
      have HC5 := Lib.hid hc5
      have HK1 := Lib.hid (show ∀ X, Below wo.heap.size wo X → Below W0.heap.size W0 X ∧ Below wM.heap.size wM X ∧ X.cell? ⟨P, 0, none⟩ = some (.slice A l.length c) ∧ X.cell? ⟨P, 2, none⟩ = some (.slice (some ⟨b2, o2, none⟩) (l.length + 1) c2) ∧ X.cell? ⟨b2, o2 + (k + 1), none⟩ = some (.slice A5 l5.length c5) ∧ X.cell? ⟨w.heap.size, 1, none⟩ = some (.slice Ad ld.length cd) from fun X hX => by
        obtain ⟨f0, f1, f2, f3, f4, f5⟩ := HFACT.out X (below_next HB0.out hX)
        exact ⟨f0, below_next HBW.out hX, f3, f5, ((HST0.out.old f0).cell (p := ⟨b2, o2 + (k + 1), none⟩) hb2).trans HC5.out, f2⟩)
      have HMA := Lib.hid (fun (X : World) (hX : Below wo.heap.size wo X) => natMul_any A5 Ad c5 cd l5 ld _ _ X (HN5.out.on (HST0.out.old (below_next HB0.out hX))) (HND.out.on (HST0.out.old (below_next HB0.out hX))) (by omega) (by omega))
      have HCM := Lib.hid (fun (X : World) AQ cQ lQ (hX : Below wo.heap.size wo X) (hQ : NatR X AQ cQ lQ (ah * d)) => natCmp_any AQ AM cQ cM lQ lM _ _ X hQ (HNM.out.on (below_next HBW.out hX)) (by have := small_len hQ (mul9 (by have := W3_4; omega) (by have := W3_4; omega)); omega) (by omega))
      have hki : (k : Int) + 1 < (l.length : Int) + 1 := by omega
      have hki0 : (0 : Int) ≤ (k : Int) + 1 := by omega
      have hwk : IntKind.i64.wrap ((k : Int) + 1) = (k : Int) + 1 := by simp [IntKind.wrap, IntKind.bits, IntKind.signed]; omega
      obtain ⟨f0, fM, f3, f5, fa, f2⟩ := HK1.out wo (Below.refl _ wo)
      clear hn5 hc5 hbw hb0 hahe
      by_cases hcond : ah * d < n * 2000000000
      · rw [cmpN_neg hcond] at HCM
        have HLOW2 := Lib.hid (show ∀ j, j < k + 1 → (0 + sumP ((stgs l).take (j + 1))) * d < n * 2000000000 from fun j hj => by
          rcases Nat.eq_or_lt_of_le (Nat.le_of_lt_succ hj) with e | e
          · rw [e, Nat.zero_add, ← HAHE.out]; exact hcond
          · exact HLOW.out j e)
        go_wp2_with fail
        go_region_held3 (fun X => Below W0.heap.size W0 X ∧ Below wM.heap.size wM X ∧ X.cell? ⟨P, 0, none⟩ = some (.slice A l.length c) ∧ X.cell? ⟨P, 2, none⟩ = some (.slice (some ⟨b2, o2, none⟩) (l.length + 1) c2) ∧ X.cell? ⟨b2, o2 + (k + 1), none⟩ = some (.slice A5 l5.length c5) ∧ X.cell? ⟨w.heap.size, 1, none⟩ = some (.slice Ad ld.length cd))
          (first
            | exact HK1.out _ (Below.refl _ wo).drew
            | (go_split_ands; refine HK1.out _ (below_next HBQ.out hbC))
            | (go_split_ands; refine HK1.out _ hbQ))
          (first
            | (go_at_call 90; refine (HMA.out _ (Below.refl _ wo).drew).mono ?_; rintro e wQ ⟨AQ, cQ, lQ, rfl, hnQ, hbQ0⟩; have hbQ : Below wo.heap.size wo wQ := below_next (Below.refl _ wo).drew hbQ0; have HBQ := Lib.hid hbQ)
            | (go_at_call 91; refine (HCM.out wQ AQ cQ lQ hbQ hnQ).mono ?_; rintro e wC ⟨rfl, qC, rfl⟩; have hbC : Below wQ.heap.size wQ (wQ.drewN qC) := below_drewN (Below.refl _ wQ) qC))
        all_goals
          have hbe : Below wM.heap.size wM (wQ.drewN qC) := by go_split_ands; assumption
          have HBE := Lib.hid hbe
          clear hbe hnQ
          go_wp2
          go_roundw
          case rel => exact ⟨k + 1, by go_num, by omega, HLOW2.out, HBE.out⟩
          case measure => simp [intOf]; omega
      · have hcm := (cmpN_ge0 (x := ah * d) (y := n * 2000000000)).2 (by omega)
        obtain ⟨cm, hcme⟩ : ∃ cm, cm = cmpN (ah * d) (n * 2000000000) := ⟨_, rfl⟩
        rw [← hcme] at HCM hcm
        clear hcme
        have t2 : decide (cm < 0) = false := by simp; omega
        go_wp2_with fail
        go_region_held3 (fun X => Below W0.heap.size W0 X ∧ Below wM.heap.size wM X ∧ X.cell? ⟨P, 0, none⟩ = some (.slice A l.length c) ∧ X.cell? ⟨P, 2, none⟩ = some (.slice (some ⟨b2, o2, none⟩) (l.length + 1) c2) ∧ X.cell? ⟨b2, o2 + (k + 1), none⟩ = some (.slice A5 l5.length c5) ∧ X.cell? ⟨w.heap.size, 1, none⟩ = some (.slice Ad ld.length cd))
          (first
            | exact HK1.out _ (Below.refl _ wo).drew
            | (go_split_ands; refine HK1.out _ (below_next HBQ.out hbC))
            | (go_split_ands; refine HK1.out _ hbQ))
          (first
            | (go_at_call 90; refine (HMA.out _ (Below.refl _ wo).drew).mono ?_; rintro e wQ ⟨AQ, cQ, lQ, rfl, hnQ, hbQ0⟩; have hbQ : Below wo.heap.size wo wQ := below_next (Below.refl _ wo).drew hbQ0; have HBQ := Lib.hid hbQ)
            | (go_at_call 91; refine (HCM.out wQ AQ cQ lQ hbQ hnQ).mono ?_; rintro e wC ⟨rfl, qC, rfl⟩; have hbC : Below wQ.heap.size wQ (wQ.drewN qC) := below_drewN (Below.refl _ wQ) qC))
        have hbQ2 : Below wo.heap.size wo wQ := HBQ.out
        obtain ⟨bk, ok, F, y, z, hA, _, hbk, hs, q0, q1, q2⟩ := HL.out.st.at3 hlt
        subst hA
        have hS := HOK.out.ok _ (List.mem_of_getElem? hs)
        unfold OkS at hS
        simp only at hS
        obtain ⟨m1, m2, m3, m4, m5, m6⟩ := hS
        have hW0Q : Below W0.heap.size W0 wQ := below_next HB0.out hbQ2
        have kF : wQ.cell? ⟨bk, ok + k * 3, none⟩ = some (.int .i64 F) := ((HST0.out.old hW0Q).cell (p := ⟨bk, ok + k * 3, none⟩) hbk).trans q0
        have t5 : ((k : Int) == (l.length : Int)) = false := by simp; omega
        have HS := Lib.hid hs
        have HWMQ := Lib.hid (below_next HBW.out hbQ2)
        have HW0Q := Lib.hid hW0Q
        have hsk : (stgs l)[k]? = some (toStg (F, y, z)) := by unfold stgs; rw [List.getElem?_map, hs]; rfl
        obtain ⟨X, hX, hXF, hXs⟩ := bs_place (n := n) (d := d) (ah := 0 + sumP ((stgs l).take k)) (s := toStg (F, y, z)) (by simp only [toStg]; omega) (by simp only [toStg]; omega) (by
          have e : sumP ((stgs l).take (k + 1)) = sumP ((stgs l).take k) + (toStg (F, y, z)).parts := by rw [List.take_add_one, hsk]; simp [sumP]
          rw [Nat.zero_add, ← e, ← HAHE.out]; exact hcond)
        have HRES := Lib.hid (show fst n d 0 0 (stgs l) = some (sumF ((stgs l).take k) + X) by
          rw [fst_at (stgs l) 0 0 k (toStg (F, y, z)) hsk HLOW.out (by rw [Nat.zero_add, ← HAHE.out]; exact hcond), hX, Nat.zero_add])
        have HSF := Lib.hid (show ((sumF ((stgs l).take k) : Nat) : Int) = lenS (l.take k) by
          have := sumF_lenS (l := l.take k) (fun s hs => HOK.out.ok s (List.mem_of_mem_take hs))
          rwa [show stgs (l.take k) = (stgs l).take k by simp [stgs]] at this)
        have hlb := lenS_bd (l := l.take k) (fun s hs => HOK.out.ok s (List.mem_of_mem_take hs))
        have hlb2 : (l.take k).length ≤ 50 := by simp; omega
        have HXS := Lib.hid hXs
        have hXF' : X ≤ F.toNat := hXF
        obtain ⟨bb, ob, ub, hA1, hbb, hub, qb⟩ := HBG.out.at1 hlt
        obtain ⟨zb, hzb, rfl⟩ := ints_get hub
        have hzb' : zb = lenS (l.take k) := by rw [List.getElem?_map, List.getElem?_range hlt] at hzb; simpa using hzb.symm
        subst hA1
        have hii : (k : Int) < (l.length : Int) := by omega
        have hii0 : (0 : Int) ≤ (k : Int) := by omega
        rw [← hzb'] at HSF hlb
        have HQB := Lib.hid qb
        obtain ⟨g0, g1, g2, g3, g4, g5⟩ := HFACT.out wQ hW0Q
        have HAR := Lib.hid (fun (Y : World) (x : Nat) (hY : Below wQ.heap.size wQ Y) (hx : x ≤ F.toNat) => area_any P (some ⟨bk, ok, none⟩) c l k x Y (HL.out.on (HST0.out.old (below_next HW0Q.out hY))) HOK.out F y z HS.out hx)
        have HNUM4 := Lib.hid (fun (x : Nat) (hx : x ≤ F.toNat) => show (toStg (F, y, z)).num (sumP ((stgs l).take k)) x < W64 ^ 4 ∧ (toStg (F, y, z)).den < W64 ^ 4 from by
          have a1 := num_mono (sumP ((stgs l).take k)) (toStg (F, y, z)) (x := x) (y := F.toNat) hx (Nat.le_refl _)
          have a2 := num_end (sumP ((stgs l).take k)) (toStg (F, y, z))
          have a3 := ahead_lt (l := l) (i := k + 1) HOK.out
          have e : sumP ((stgs l).take (k + 1)) = sumP ((stgs l).take k) + (toStg (F, y, z)).parts := by rw [List.take_add_one, hsk]; simp [sumP]
          rw [← e] at a2
          have a4 : sumP ((stgs l).take (k + 1)) * F.toNat < W64 ^ 4 := by
            rw [Nat.pow_succ]
            exact Nat.mul_lt_mul_of_lt_of_le a3 (by unfold W64; omega) (by unfold W64; omega)
          refine ⟨Nat.lt_of_le_of_lt a1 (by rw [show F.toNat = (toStg (F, y, z)).F from rfl, a2]; exact a4), ?_⟩
          unfold Stg.den toStg
          have hW : W64 ^ 4 = 115792089237316195423570985008687907853269984665640564039457584007913129639936 := by unfold W64; rfl
          rw [hW]; simp only; omega)
        clear hs hsk hX hXs hXF hzb hub hzb' hnQ hbQ hbC hbQ2 hW0Q q0 q1 q2 qb f0 fM f3 f5 fa f2 HMA HCM HK1
        go_wp2_with fail
        go_quiet (fail)
        go_wp2_with fail
        obtain ⟨wq, hwq⟩ : ∃ wq : World, wq = wQ := ⟨_, rfl⟩
        go_loopw [8, 9, 10, 11] (fun lov hiv _ _ wr => ∃ lo hi : Nat, lov = .int .i64 lo ∧ hiv = .int .i64 hi ∧ lo ≤ X ∧ X ≤ hi ∧ hi ≤ F.toNat ∧ Below wq.heap.size wq wr) (fun lov hiv _ _ _ => (intOf hiv - intOf lov).toNat)
        case atStart => exact ⟨0, F.toNat, rfl, by go_num, Nat.zero_le _, hXF', Nat.le_refl _, by rw [hwq]; exact below_drewN (below_drewN (Below.refl _ wQ) _) _⟩
        case round =>
          obtain ⟨w9, hw9⟩ : ∃ w9 : World, w9 = wr := ⟨_, rfl⟩
          subst hw9
          subst hwq
          obtain ⟨lo, hi, rfl, rfl, hlo, hhi, hhF, hb9⟩ := hrel
          have HB9 := Lib.hid hb9
          have hb09 : Below W0.heap.size W0 w9 := below_next HW0Q.out hb9
          clear g0 g1 g2 g3 g4 g5 kF
          obtain ⟨g0, g1, g2, g3, g4, g5⟩ := HFACT.out w9 hb09
          by_cases hlh : lo < hi
          · obtain ⟨mid, hmid⟩ : ∃ mid, mid = (lo + hi) / 2 := ⟨_, rfl⟩
            have hm1 : ((lo : Int) + hi) / 2 = (mid : Int) := by rw [hmid]; omega
            have hm2 : mid < hi := by omega
            have hm3 : lo ≤ mid := by omega
            obtain ⟨hnum4, hden4⟩ := HNUM4.out mid (by omega)
            have HA := Lib.hid (HAR.out w9 mid hb9 (by omega))
            have hiff := HXS.out mid (by simp only [toStg]; omega)
            unfold atLeast at hiff
            simp only [Nat.zero_add] at hiff
            obtain ⟨nm, hnm⟩ : ∃ nm, nm = (toStg (F, y, z)).num (sumP ((stgs l).take k)) mid := ⟨_, rfl⟩
            obtain ⟨dn, hdn⟩ : ∃ dn, dn = (toStg (F, y, z)).den := ⟨_, rfl⟩
            simp only [← hnm, ← hdn] at HA hiff hnum4 hden4
            have HIFF := Lib.hid hiff
            clear hmid hiff hnm hdn
            go_wp2_with fail
            refine HA.out.mono ?_
            rintro e w3 ⟨A3, c3, l3, A4, c4, l4, rfl, hn3, hn4', hb3⟩
            have hl3 := small_len hn3 (by have := W9a; omega)
            have hl4 := small_len hn4' (by have := W9a; omega)
            obtain ⟨W1, hW1⟩ : ∃ W1, W1 = w3.alloc (.cells #[.slice A3 l3.length c3, .slice A4 l4.length c4] 98) := ⟨_, rfl⟩
            have hbW1 : Below w3.heap.size w3 W1 := by rw [hW1]; exact (Below.refl _ w3).alloc (Nat.le_refl _) _
            have hbx : W1.heap[w3.heap.size]? = some (.cells #[.slice A3 l3.length c3, .slice A4 l4.length c4] 98 (0, 0)) := by rw [hW1]; exact alloc_at _ _ _ rfl
            have hb91 : Below w9.heap.size w9 W1 := below_next hb3 hbW1
            have HN3 := Lib.hid (hn3.on hbW1)
            have HN4 := Lib.hid (hn4'.on hbW1)
            have HQ1 := Lib.hid (below_next HB9.out hb91)
            have HK2 := Lib.hid (show ∀ X, Below W1.heap.size W1 X → Below W1.heap.size W1 X ∧ X.cell? ⟨w3.heap.size, 0, none⟩ = some (.slice A3 l3.length c3) ∧ X.cell? ⟨w3.heap.size, 1, none⟩ = some (.slice A4 l4.length c4) ∧ X.cell? ⟨w.heap.size, 0, none⟩ = some (.slice An ln.length cn) ∧ X.cell? ⟨w.heap.size, 1, none⟩ = some (.slice Ad ld.length cd) from fun X hX => by
              obtain ⟨f0, f1, f2, f3, f4, f5⟩ := HFACT.out X (below_next HW0Q.out (below_next HQ1.out hX))
              have b2 := (hX.block _ (heap_lt hbx)).trans hbx
              exact ⟨hX, by rw [cellsAt b2]; rfl, by rw [cellsAt b2]; rfl, f1, f2⟩)
            have HM1 := Lib.hid (fun (X : World) (hX : Below W1.heap.size W1 X) => natMul_any A3 Ad c3 cd l3 ld _ _ X (HN3.out.on hX) (HND.out.on (HST0.out.old (below_next HW0Q.out (below_next HQ1.out hX)))) (by omega) (by omega))
            have HM2 := Lib.hid (fun (X : World) (hX : Below W1.heap.size W1 X) => natMul_any An A4 cn c4 ln l4 _ _ X (HNN.out.on (HST0.out.old (below_next HW0Q.out (below_next HQ1.out hX)))) (HN4.out.on hX) (by omega) (by omega))
            have HC2 := Lib.hid (fun (X : World) A5 c5 l5 A6 c6 l6 (h5 : NatR X A5 c5 l5 (nm * d)) (h6 : NatR X A6 c6 l6 (n * dn)) => natCmp_any A5 A6 c5 c6 l5 l6 _ _ X h5 h6 (by have := small_len h5 (mul9 hnum4 (by have := W3_4; omega)); omega) (by have := small_len h6 (mul9 (by have := W3_4; omega) hden4); omega))
            obtain ⟨cm, hcme⟩ : ∃ cm, cm = cmpN (nm * d) (n * dn) := ⟨_, rfl⟩
            have hcm : 0 ≤ cm ↔ X ≤ mid := by rw [hcme, cmpN_ge0]; exact HIFF.out.symm
            simp only [← hcme] at HC2
            have hlt3 : w3.heap.size < W1.heap.size := heap_lt hbx
            clear hcme hn3 hn4' hb3 hbW1 hbx hb91
            go_wp2_with fail
            rw [← hW1]
            clear hW1 g0 g1 g2 g3 g4 g5
            obtain ⟨g0, g1, g2, g3, g4⟩ := HK2.out W1 (Below.refl _ W1)
            go_region_held3 (fun X => Below W1.heap.size W1 X ∧ X.cell? ⟨w3.heap.size, 0, none⟩ = some (.slice A3 l3.length c3) ∧ X.cell? ⟨w3.heap.size, 1, none⟩ = some (.slice A4 l4.length c4) ∧ X.cell? ⟨w.heap.size, 0, none⟩ = some (.slice An ln.length cn) ∧ X.cell? ⟨w.heap.size, 1, none⟩ = some (.slice Ad ld.length cd))
              (first
                | exact HK2.out _ (Below.refl _ W1).drew
                | (go_split_ands; refine HK2.out _ (below_next ?_ hbC); assumption)
                | (go_split_ands; refine HK2.out _ (below_next ?_ hbT); assumption)
                | (go_split_ands; refine HK2.out _ (below_next ?_ hbS); assumption))
              (first
                | (go_at_call_of 90 (Value.slice A3 l3.length c3); refine (HM1.out _ ?_).mono ?_; (go_split_ands; assumption); rintro e wS ⟨AS, cS, lS, rfl, hnS, hbS⟩)
                | (go_at_call_of 90 (Value.slice A4 l4.length c4); refine (HM2.out _ ?_).mono ?_; (go_split_ands; assumption); rintro e wT ⟨AT, cT, lT, rfl, hnT, hbT⟩)
                | (go_at_call 91; refine (HC2.out _ AS cS lS AT cT lT (hnS.on hbT) hnT).mono ?_; rintro e wC ⟨rfl, qD, rfl⟩; have hbC : Below wT.heap.size wT (wT.drewN qD) := below_drewN (Below.refl _ wT) qD))
            all_goals
              have hbe : Below W1.heap.size W1 (wT.drewN qD) := by go_split_ands; assumption
              have HBE := Lib.hid (below_next HQ1.out hbe)
              clear hbe hnS hnT
            by_cases hc0 : 0 ≤ cm
            · have t7 : decide (0 ≤ cm) = true := by simpa using hc0
              have hXm := hcm.1 hc0
              clear hcm
              go_wp2
              go_roundw
              case rel => first | exact ⟨lo, mid, rfl, by go_num, hlo, hXm, by omega, HBE.out⟩ | ((repeat apply Exists.intro); exact ⟨⟨lo, mid, rfl, by go_num, hlo, hXm, by omega, HBE.out⟩, rfl⟩)
              case measure => simp [intOf]; omega
            · have t7 : decide (0 ≤ cm) = false := by simpa using hc0
              have hXm : mid < X := by
                rcases Nat.lt_or_ge mid X with h | h
                · exact h
                · exact absurd (hcm.2 h) hc0
              clear hcm
              go_wp2
              go_roundw
              case rel => first | exact ⟨mid + 1, hi, by go_num, rfl, hXm, hhi, hhF, HBE.out⟩ | ((repeat apply Exists.intro); exact ⟨⟨mid + 1, hi, by go_num, rfl, hXm, hhi, hhF, HBE.out⟩, rfl⟩)
              case measure => simp [intOf]; omega
          · obtain rfl : X = lo := by omega
            have qb : w9.cell? ⟨bb, ob + k, none⟩ = some (.int .i64 zb) := ((HST0.out.old hb09).cell (p := ⟨bb, ob + k, none⟩) hbb).trans HQB.out
            have HBE := Lib.hid (HST0.out.old hb09)
            clear hb9 hb09
            go_wp2
            go_ret2
            refine ⟨?_, HBE.out⟩
            rw [HRES.out]
            show Ending.returned (.tuple #[.int .i64 (zb + (X : Int)), .bool true]) = Ending.returned (.tuple #[.int .i64 ((sumF ((stgs l).take k) + X : Nat) : Int), .bool true])
            rw [Int.natCast_add, HSF.out]
    · obtain rfl : k = l.length := by omega
      have t1 : decide ((l.length : Int) < (l.length : Int)) = false := by simp
      obtain ⟨f0, f1, f2, f3, f4, f5⟩ := HFACT.out wo hb0
      have HNO := Lib.hid (fst_end (n := n) (d := d) (stgs l) 0 0 (fun j hj => HLOW.out j (by simpa [stgs] using hj)))
      have HBE := Lib.hid (HST0.out.old hb0)
      clear hbw hb0
      go_wp2_with fail
      go_quiet (fail)
      go_wp2
      go_ret2
      exact ⟨by rw [HNO.out]; rfl, below_drewN HBE.out _⟩
end Go.Proofs.YtepfmoaihhonlaaGreatDoor
