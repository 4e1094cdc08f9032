/- FromBytes of the reference. -/
import Derived.Test.YtgmbgclhljobaaaDoorFb
namespace Go.Proofs.YtgmbgclhljobaaaDoor
open Go Go.RowKit Go.Proofs Go.Maps

def RFbOk (w wr : World) (H : Nat) (b : Int) (l : List UInt8) (r : List UInt8) (M k a : Nat) (last : Int) : Prop :=
  ∃ f acc v, comb acc (prs uR f ((M : Int) - k) last (l.drop a)) = prsL uR r ∧ (l.drop a).length < f ∧ acc.length = k ∧ acc.length + (l.drop a).length ≤ r.length ∧ a ≤ l.length ∧ 0 ≤ last ∧ last ≤ 4611686018427387904 ∧ FbSt w wr H b v ∧ wr.ownsRow (H + 1) 63 2 v acc.length (cells2 acc)
def RFbBad (w wr : World) (H : Nat) (b : Int) (r : List UInt8) (c : Int) : Prop := ∃ v, c ≠ 0 ∧ (prsL uR r).1 = c ∧ FbSt w wr H b v
theorem uR_bd {last : Int} {d : Nat} (h0 : 0 ≤ last) (h1 : last ≤ 4611686018427387904) : 0 ≤ uR last d ∧ uR last d ≤ 4611686018427387904 := by unfold uR; split <;> omega
theorem rfb_next {f : Nat} {M k : Nat} {last : Int} {l' : List UInt8} {acc : List (Int × Int)} {r : List UInt8} (hk : k < M) (h : comb acc (prs uR f ((M : Int) - k) last l') = prsL uR r) (hf : l'.length < f) (ha : acc.length + l'.length ≤ r.length) (h1 : (rdN 0 0 l').1 = 0) (h0 : (rdN 0 0 (rdN 0 0 l').2.2).1 = 0) :
    ∃ f', comb (acc ++ [(uR last (rdN 0 0 l').2.1, ((rdN 0 0 (rdN 0 0 l').2.2).2.1 : Int))]) (prs uR f' ((M : Int) - (k + 1 : Nat)) (uR last (rdN 0 0 l').2.1) (rdN 0 0 (rdN 0 0 l').2.2).2.2) = prsL uR r ∧ (rdN 0 0 (rdN 0 0 l').2.2).2.2.length < f' ∧
      (acc ++ [(uR last (rdN 0 0 l').2.1, ((rdN 0 0 (rdN 0 0 l').2.2).2.1 : Int))]).length + (rdN 0 0 (rdN 0 0 l').2.2).2.2.length ≤ r.length := by
  cases f with
  | zero => omega
  | succ f =>
    rw [prs_step (by omega) h1 h0] at h
    have l1 := rdN_len l' 0 0 h1
    have l2 := rdN_len _ 0 0 h0
    refine ⟨f, by rw [← h]; congr 2; omega, by omega, ?_⟩
    simp only [List.length_append, List.length_singleton]; omega
theorem rfb_bad {f : Nat} {M k : Nat} {last : Int} {l' : List UInt8} {acc : List (Int × Int)} {r : List UInt8} (hk : k < M) (h : comb acc (prs uR f ((M : Int) - k) last l') = prsL uR r) (hf : l'.length < f) (h1 : (rdN 0 0 l').1 ≠ 0) : (prsL uR r).1 = (rdN 0 0 l').1 := by
  rw [← h]
  cases f with
  | zero => omega
  | succ f => exact prs_bad (by omega) h1
theorem rfb_bad2 {f : Nat} {M k : Nat} {last : Int} {l' : List UInt8} {acc : List (Int × Int)} {r : List UInt8} (hk : k < M) (h : comb acc (prs uR f ((M : Int) - k) last l') = prsL uR r) (hf : l'.length < f) (h1 : (rdN 0 0 l').1 = 0) (h0 : (rdN 0 0 (rdN 0 0 l').2.2).1 ≠ 0) : (prsL uR r).1 = (rdN 0 0 (rdN 0 0 l').2.2).1 := by
  rw [← h]
  cases f with
  | zero => omega
  | succ f => exact prs_bad2 (by omega) h1 h0

theorem prs_bd : ∀ (f : Nat) (cnt last : Int) (l : List UInt8), 0 ≤ last → last ≤ 4611686018427387904 → ∀ c ∈ (prs uR f cnt last l).2.1, c.1 ≤ 9223372036854775807
  | 0, _, _, _, _, _, c, h => by simp [prs] at h
  | f + 1, cnt, last, l, h0, h1, c, h => by
    unfold prs at h
    by_cases hc : cnt ≤ 0
    · rw [if_pos hc] at h; simp at h
    · rw [if_neg hc] at h
      by_cases hd : (rdN 0 0 l).1 ≠ 0
      · rw [if_pos hd] at h; simp at h
      · rw [if_neg hd] at h
        by_cases hn : (rdN 0 0 (rdN 0 0 l).2.2).1 ≠ 0
        · rw [if_pos hn] at h; simp at h
        · rw [if_neg hn] at h
          have hb := uR_bd (d := (rdN 0 0 l).2.1) h0 h1
          rcases List.mem_cons.1 h with e | e
          · subst e; simp only; omega
          · exact prs_bd f _ _ _ hb.1 hb.2 c e
theorem RFB_bound {x : UInt8} {r : List UInt8} {acc : List (Int × Int)} (h : listF uR (x :: r) = acc) (_h : (rdN 0 0 r).1 = 0) : ∀ c ∈ acc, c.1 ≤ 9223372036854775807 := by
  rw [← h]
  exact prs_bd _ _ 0 _ (by omega) (by omega)

set_option maxHeartbeats 4000000 in
set_option maxRecDepth 100000 in
theorem RFromBytes_any (A : Option Addr) (c : Nat) (l : List UInt8) (w : World) (hr : Rd w 0 w.heap.size 1 A l.length (Lib.byteCells l)) (hl : l.length ≤ 2000000) :
    Calls Tryd.prog 30 #[.slice A l.length c] w (HistPost (sumAt id (listF uR l)) (bitsF l) (codeF uR l) w) := by
  obtain ⟨i0, hi0, hz0, hz1, hz2⟩ := info_parts Tryd.infoC
  have HR := Lib.hid hr
  clear hr
  cases l with
  | nil =>
    go_enter Tryd.func30, Tryd.ntmps30
    go_wp2
    refine bodyPost_ret (v := .tuple #[.agg #[.int .i64 0, .slice none 0 0], .int .i64 16]) (by simp [results, Tryd.results30, go_sem]) rfl (HistPost.none (by omega) rfl ?_)
    repeat (first | exact (Below.refl _ w) | (refine Below.setCell ?_ (by dsimp only; omega) _) | (refine Below.alloc ?_ (Nat.le_refl _) _))
  | cons x r =>
    have hxl := x.toNat_lt
    obtain ⟨g, o_, rfl, _, hgB, hcell0⟩ := HR.out.2 (by simp)
    have q0 : w.cell? ⟨g, o_, none⟩ = some (.int .u8 x.toNat) := by
      have := hcell0 0 _ (show (Lib.byteCells (x :: r))[0]? = some (.int .u8 x.toNat) from rfl)
      simpa using this
    have hgne : g ≠ w.heap.size := by omega
    obtain ⟨l, hl_⟩ : ∃ l, l = x :: r := ⟨_, rfl⟩
    rw [← hl_] at HR hl
    have hll : (x :: r).length = l.length := by rw [hl_]
    have hdr : l.drop 1 = r := by rw [hl_]; rfl
    have hlr : l.length = r.length + 1 := by rw [hl_]; rfl
    clear hcell0
    obtain ⟨W0, hW0⟩ : ∃ W0, W0 = ((w).alloc (.cells #[Value.int .i64 0, Value.slice none 0 0] 24)).alloc (.cells #[Value.int .i64 x.toNat, Value.slice none 0 0] 24) := ⟨_, rfl⟩
    have st0 : St w W0 [(w.heap.size, Obj.cells #[Value.int .i64 0, Value.slice none 0 0] 24 (0, 0)), (w.heap.size + 1, Obj.cells #[Value.int .i64 x.toNat, Value.slice none 0 0] 24 (0, 0))] := by rw [hW0]; exact ((St.start w).alloc _ _ (by simp)).alloc _ _ (by simp)
    have hs0 : W0.heap.size = w.heap.size + 1 + 1 := by rw [hW0]; simp
    have hsz0 : w.heap.size + 1 + 1 ≤ W0.heap.size := by omega
    have HST0 := Lib.hid st0
    have HS0 := Lib.hid hs0
    have HN1 := Lib.hid (numberAt_any (some ⟨g, o_, none⟩) c w.heap.size l 1 W0 (HR.out.below st0.below (Nat.le_refl _)) (by omega) (by omega))
    have HDR := Lib.hid hdr
    have HLR := Lib.hid hlr
    have HL_ := Lib.hid hl_
    rw [hl_] at HN1
    have hlen0 : (((x :: r).length : Nat) : Int) = (r.length : Int) + 1 := by simp
    have hle0 : ((r.length : Int) + 1 == 0) = false := by simp; omega
    simp only [List.length_cons] at HN1 ⊢
    clear hdr hlr hl_ hll hlen0
    clear st0 hs0
    go_enter Tryd.func30, Tryd.ntmps30
    go_wp2_with fail
    rw [← hW0]
    clear hW0
    unfold NumAtPost at HN1
    refine HN1.out.mono ?_
    rintro e w' ⟨a0, rfl, ha0, rfl⟩
    have HA0 := Lib.hid ha0
    clear ha0 q0
    have hd1 : List.drop 1 (x :: r) = r := rfl
    rw [hd1] at HA0
    have hmv := rdN_val r 0 0 (by omega) (by simp)
    rw [hd1]
    clear hd1
    have k0_0 : W0.cell? ⟨w.heap.size, 0, none⟩ = some (Value.int .i64 0) := HST0.out.cell 0 0 rfl rfl
    have z0_0 : W0.frozen? ⟨w.heap.size, 0, none⟩ = false := HST0.out.frozen 0 0 rfl
    have k0_1 : W0.cell? ⟨w.heap.size, 1, none⟩ = some (Value.slice none 0 0) := HST0.out.cell 0 1 rfl rfl
    have z0_1 : W0.frozen? ⟨w.heap.size, 1, none⟩ = false := HST0.out.frozen 0 1 rfl
    have l0_ : w.heap.size < W0.heap.size := HST0.out.lt 0 rfl
    have k1_0 : W0.cell? ⟨w.heap.size + 1, 0, none⟩ = some (Value.int .i64 x.toNat) := HST0.out.cell 1 0 rfl rfl
    have z1_0 : W0.frozen? ⟨w.heap.size + 1, 0, none⟩ = false := HST0.out.frozen 1 0 rfl
    have k1_1 : W0.cell? ⟨w.heap.size + 1, 1, none⟩ = some (Value.slice none 0 0) := HST0.out.cell 1 1 rfl rfl
    have z1_1 : W0.frozen? ⟨w.heap.size + 1, 1, none⟩ = false := HST0.out.frozen 1 1 rfl
    have l1_ : w.heap.size + 1 < W0.heap.size := HST0.out.lt 1 rfl
    by_cases hm : (rdN 0 0 r).1 = 0
    · have HM := Lib.hid hm
      obtain ⟨M, hM⟩ : ∃ M, M = (rdN 0 0 r).2.1 := ⟨_, rfl⟩
      have HMM := Lib.hid hM
      have hl1 := rdN_len r 0 0 hm
      have HL1 := Lib.hid hl1
      obtain ⟨hal0, hdl0⟩ := HA0.out hm
      have HDL0 := Lib.hid hdl0
      rw [← hM] at hmv ⊢
      rw [hm]
      have hrl : r.length ≤ 2000000 := by have := HLR.out; omega
      clear hm hM hl1 hdl0
      go_wp2
      go_loopw [6, 7, 8, 9, 10, 11] (fun a e la i _ _ wr => ∃ (k a' : Nat) (last c : Int), a = .int .i64 a' ∧ e = .int .i64 c ∧ la = .int .i64 last ∧ i = .int .i64 k ∧ k ≤ r.length + 1 ∧ ((c = 0 ∧ RFbOk w wr (w.heap.size + 1) x.toNat (x :: r) r M k a' last) ∨ RFbBad w wr (w.heap.size + 1) x.toNat r c)) (fun _ _ _ i _ _ _ => r.length + 2 - (intOf i).toNat)
      case atStart =>
        refine ⟨0, a0, 0, 0, rfl, rfl, rfl, rfl, by omega, .inl ⟨rfl, r.length + 1, [], .slice none 0 0, ?_, ?_, rfl, ?_, hal0, by omega, by omega, HST0.out, ⟨by simp [cells2], .inl ⟨rfl, rfl⟩⟩⟩⟩
        · unfold prsL comb
          rw [← HMM.out, HDL0.out]; simp
        · rw [HDL0.out]; have := HL1.out; omega
        · rw [HDL0.out]; have := HL1.out; simp; omega
      case round =>
        clear k0_0 z0_0 k0_1 z0_1 l0_ k1_0 z1_0 k1_1 z1_1 l1_
        obtain ⟨k, a, last, c', rfl, rfl, rfl, rfl, hkr, hrel⟩ := hrel
        rcases hrel with ⟨rfl, f, acc, v, hcomb, hlf, hak, hal, haL, hla0, hla1, hst, hown⟩ | ⟨v, hcc, hpc, hst⟩
        · have HSTr := Lib.hid hst
          have HOW := Lib.hid hown
          have HCB := Lib.hid hcomb
          have HAK := Lib.hid hak
          have hak2 : acc.length ≤ r.length := by omega
          have HLF := Lib.hid hlf
          have HAL := Lib.hid hal
          have hkb : k ≤ r.length := by omega
          clear hst hown hcomb hak hlf hal
          have k0_0 : wr.cell? ⟨w.heap.size, 0, none⟩ = some (Value.int .i64 0) := HSTr.out.cell 0 0 rfl rfl
          have z0_0 : wr.frozen? ⟨w.heap.size, 0, none⟩ = false := HSTr.out.frozen 0 0 rfl
          have k0_1 : wr.cell? ⟨w.heap.size, 1, none⟩ = some (Value.slice none 0 0) := HSTr.out.cell 0 1 rfl rfl
          have z0_1 : wr.frozen? ⟨w.heap.size, 1, none⟩ = false := HSTr.out.frozen 0 1 rfl
          have l0_ : w.heap.size < wr.heap.size := HSTr.out.lt 0 rfl
          have k1_0 : wr.cell? ⟨w.heap.size + 1, 0, none⟩ = some (Value.int .i64 x.toNat) := HSTr.out.cell 1 0 rfl rfl
          have z1_0 : wr.frozen? ⟨w.heap.size + 1, 0, none⟩ = false := HSTr.out.frozen 1 0 rfl
          have k1_1 : wr.cell? ⟨w.heap.size + 1, 1, none⟩ = some (v) := HSTr.out.cell 1 1 rfl rfl
          have z1_1 : wr.frozen? ⟨w.heap.size + 1, 1, none⟩ = false := HSTr.out.frozen 1 1 rfl
          have l1_ : w.heap.size + 1 < wr.heap.size := HSTr.out.lt 1 rfl
          by_cases hlt : k < M
          · have hlt' : decide (k < M) = true := by simpa using hlt
            have hra : Rd wr 0 w.heap.size 1 (some ⟨g, o_, none⟩) (x :: r).length (Lib.byteCells (x :: r)) := by rw [← HL_.out]; exact HR.out.below HSTr.out.below (Nat.le_refl _)
            have HNa := Lib.hid (numberAt_any (some ⟨g, o_, none⟩) c w.heap.size (x :: r) a wr hra haL (by simp only [List.length_cons]; omega))
            have HRA := Lib.hid hra
            unfold NumAtPost at HNa
            simp only [List.length_cons] at HNa
            clear hra
            go_wp2_with fail
            refine HNa.out.mono ?_
            rintro e w' ⟨a1, rfl, ha1, rfl⟩
            have hd1 := rdN_val (List.drop a (x :: r)) 0 0 (by omega) (by simp)
            by_cases he1 : (rdN 0 0 (List.drop a (x :: r))).1 = 0
            · have HE1 := Lib.hid he1
              obtain ⟨hal1, hdl1⟩ := ha1 he1
              have hra : Rd wr 0 w.heap.size 1 (some ⟨g, o_, none⟩) (x :: r).length (Lib.byteCells (x :: r)) := HRA.out
              have HNb := Lib.hid (numberAt_any (some ⟨g, o_, none⟩) c w.heap.size (x :: r) a1 wr hra hal1 (by simp only [List.length_cons]; omega))
              unfold NumAtPost at HNb
              simp only [List.length_cons] at HNb
              have he1' : ((rdN 0 0 (List.drop a (x :: r))).1 == 0) = true := by simp [he1]
              have HDL1 := Lib.hid hdl1
              clear hra he1 ha1 hdl1
              go_wp2_with fail
              refine HNb.out.mono ?_
              rintro e w' ⟨a2, rfl, ha2, rfl⟩
              have hd2 := rdN_val (List.drop a1 (x :: r)) 0 0 (by omega) (by simp)
              have HA2 := Lib.hid ha2
              have HNX := Lib.hid (rfb_next (r := r) hlt HCB.out HLF.out HAL.out HE1.out)
              have HB2 := Lib.hid (rfb_bad2 (r := r) hlt HCB.out HLF.out HE1.out)
              rw [← HDL1.out] at HNX HB2
              obtain ⟨D, hD⟩ : ∃ D, D = (rdN 0 0 (List.drop a (x :: r))).2.1 := ⟨_, rfl⟩
              rw [← hD] at HNX hd1 ⊢
              obtain ⟨R2, hR2⟩ : ∃ R2, R2 = rdN 0 0 (List.drop a1 (x :: r)) := ⟨_, rfl⟩
              rw [← hR2] at HNX HB2 HA2 hd2 ⊢
              obtain ⟨NN, hNN⟩ : ∃ NN, NN = R2.2.1 := ⟨_, rfl⟩
              rw [← hNN] at HNX hd2 ⊢
              clear ha2 hD hR2 hNN he1'
              have hub := uR_bd (last := last) (d := D) hla0 hla1
              by_cases hbig : 4611686018427387904 - last < (D : Int)
              · have hbig' : decide (4611686018427387904 - last < (D : Int)) = true := by simpa using hbig
                have HUV := Lib.hid (show uR last D = 4611686018427387904 by unfold uR; rw [if_pos hbig])
                clear hub
                go_wp2_with (at_builtin; refine wpList_append_own _ rfl (.tmp 61) (.tmp 65) 22 rfl (w.heap.size + 1 + 1) 63 i0 _ 2 16 Tryd.underlying22 hi0 hz0 hz1 hz2 rfl (by decide) v _ _ rfl (HOW.out.alloc _) ⟨wr.heap.size, 0, none⟩ 1 1 [.int .i64 4611686018427387904, .int .i64 NN] rfl rfl (cell_two_new _ _ _ _) (by simp [Value.oneCell']) ?c3 ?c4 ?c5 ?_)
                case c3 => unfold maxLen; omega
                case c4 => omega
                case c5 => simp; omega
                intro v' w5 hown' hgrow _
                obtain ⟨g5, cap5, rfl, hgb5, hgne5, hbx', hfr, hsz5⟩ := app_after (H := w.heap.size + 1) HOW.out (HSTr.out.at 1 rfl) (by omega) hown' hgrow
                have e3 : w5.cell? ⟨w.heap.size + 1, 1, none⟩ = some v := by rw [cellsAt hbx']; rfl
                have z3 : w5.frozen? ⟨w.heap.size + 1, 1, none⟩ = false := frozenAt hbx' 1
                have hst5 : FbSt w w5 (w.heap.size + 1) x.toNat v := (HSTr.out.more _).app (HOW.out.alloc _) hgrow (by simp <;> omega) (by omega)
                have hst6 : FbSt w (w5.setCell ⟨w.heap.size + 1, 1, none⟩ (.slice (some ⟨g5, 0, none⟩) (acc.length + 1) cap5)) (w.heap.size + 1) x.toNat (.slice (some ⟨g5, 0, none⟩) (acc.length + 1) cap5) := St.setLast [(w.heap.size, Obj.cells #[Value.int .i64 0, Value.slice none 0 0] 24 (0, 0))] 1 _ hst5 (by simp <;> omega)
                have HNEW := Lib.hid (show ∃ (k' a' : Nat) (last' c' : Int), Value.int .i64 (a2 : Int) = .int .i64 a' ∧ Value.int .i64 R2.1 = .int .i64 c' ∧ Value.int .i64 4611686018427387904 = .int .i64 last' ∧ Value.int .i64 ((k : Int) + 1) = .int .i64 k' ∧ k' ≤ r.length + 1 ∧ ((c' = 0 ∧ RFbOk w (w5.setCell ⟨w.heap.size + 1, 1, none⟩ (.slice (some ⟨g5, 0, none⟩) (acc.length + 1) cap5)) (w.heap.size + 1) x.toNat (x :: r) r M k' a' last') ∨ RFbBad w (w5.setCell ⟨w.heap.size + 1, 1, none⟩ (.slice (some ⟨g5, 0, none⟩) (acc.length + 1) cap5)) (w.heap.size + 1) x.toNat r c') from by
                  refine ⟨k + 1, a2, _, _, rfl, rfl, rfl, by go_num, by omega, ?_⟩
                  by_cases h0 : R2.1 = 0
                  · left
                    obtain ⟨f', g1, g2, g3⟩ := HNX.out h0
                    obtain ⟨q1, q2⟩ := HA2.out h0
                    rw [HUV.out] at g1 g3
                    refine ⟨h0, f', _, _, by rw [q2]; exact g1, by rw [q2]; exact g2, by simp; have := HAK.out; omega, by rw [q2]; exact g3, q1, by have := HUV.out; omega, by have := HUV.out; omega, hst6, ?_⟩
                    have := row_store hown' (show w.heap.size + 1 < w.heap.size + 1 + 1 by omega) 1 (.slice (some ⟨g5, 0, none⟩) (acc.length + 1) cap5)
                    rw [cells2_append]
                    simpa [cells2] using this
                  · right
                    exact ⟨_, h0, HB2.out h0, hst6⟩)
                clear hown' hgrow hbx' hfr hst5 hst6
                clear k0_0 z0_0 k0_1 z0_1 l0_ k1_0 z1_0 k1_1 z1_1 l1_
                go_wp2
                go_roundw
                case rel => exact HNEW.out
                case measure => simp [intOf]; omega
              · have hbig' : decide (4611686018427387904 - last < (D : Int)) = false := by simpa using hbig
                have HUV := Lib.hid (show uR last D = (last + (D : Int)) by unfold uR; rw [if_neg hbig])
                clear hub
                go_wp2_with (at_builtin; refine wpList_append_own _ rfl (.tmp 61) (.tmp 65) 22 rfl (w.heap.size + 1 + 1) 63 i0 _ 2 16 Tryd.underlying22 hi0 hz0 hz1 hz2 rfl (by decide) v _ _ rfl (HOW.out.alloc _) ⟨wr.heap.size, 0, none⟩ 1 1 [.int .i64 (last + (D : Int)), .int .i64 NN] rfl rfl (cell_two_new _ _ _ _) (by simp [Value.oneCell']) ?c3 ?c4 ?c5 ?_)
                case c3 => unfold maxLen; omega
                case c4 => omega
                case c5 => simp; omega
                intro v' w5 hown' hgrow _
                obtain ⟨g5, cap5, rfl, hgb5, hgne5, hbx', hfr, hsz5⟩ := app_after (H := w.heap.size + 1) HOW.out (HSTr.out.at 1 rfl) (by omega) hown' hgrow
                have e3 : w5.cell? ⟨w.heap.size + 1, 1, none⟩ = some v := by rw [cellsAt hbx']; rfl
                have z3 : w5.frozen? ⟨w.heap.size + 1, 1, none⟩ = false := frozenAt hbx' 1
                have hst5 : FbSt w w5 (w.heap.size + 1) x.toNat v := (HSTr.out.more _).app (HOW.out.alloc _) hgrow (by simp <;> omega) (by omega)
                have hst6 : FbSt w (w5.setCell ⟨w.heap.size + 1, 1, none⟩ (.slice (some ⟨g5, 0, none⟩) (acc.length + 1) cap5)) (w.heap.size + 1) x.toNat (.slice (some ⟨g5, 0, none⟩) (acc.length + 1) cap5) := St.setLast [(w.heap.size, Obj.cells #[Value.int .i64 0, Value.slice none 0 0] 24 (0, 0))] 1 _ hst5 (by simp <;> omega)
                have HNEW := Lib.hid (show ∃ (k' a' : Nat) (last' c' : Int), Value.int .i64 (a2 : Int) = .int .i64 a' ∧ Value.int .i64 R2.1 = .int .i64 c' ∧ Value.int .i64 (last + (D : Int)) = .int .i64 last' ∧ Value.int .i64 ((k : Int) + 1) = .int .i64 k' ∧ k' ≤ r.length + 1 ∧ ((c' = 0 ∧ RFbOk w (w5.setCell ⟨w.heap.size + 1, 1, none⟩ (.slice (some ⟨g5, 0, none⟩) (acc.length + 1) cap5)) (w.heap.size + 1) x.toNat (x :: r) r M k' a' last') ∨ RFbBad w (w5.setCell ⟨w.heap.size + 1, 1, none⟩ (.slice (some ⟨g5, 0, none⟩) (acc.length + 1) cap5)) (w.heap.size + 1) x.toNat r c') from by
                  refine ⟨k + 1, a2, _, _, rfl, rfl, rfl, by go_num, by omega, ?_⟩
                  by_cases h0 : R2.1 = 0
                  · left
                    obtain ⟨f', g1, g2, g3⟩ := HNX.out h0
                    obtain ⟨q1, q2⟩ := HA2.out h0
                    rw [HUV.out] at g1 g3
                    refine ⟨h0, f', _, _, by rw [q2]; exact g1, by rw [q2]; exact g2, by simp; have := HAK.out; omega, by rw [q2]; exact g3, q1, by have := HUV.out; omega, by have := HUV.out; omega, hst6, ?_⟩
                    have := row_store hown' (show w.heap.size + 1 < w.heap.size + 1 + 1 by omega) 1 (.slice (some ⟨g5, 0, none⟩) (acc.length + 1) cap5)
                    rw [cells2_append]
                    simpa [cells2] using this
                  · right
                    exact ⟨_, h0, HB2.out h0, hst6⟩)
                clear hown' hgrow hbx' hfr hst5 hst6
                clear k0_0 z0_0 k0_1 z0_1 l0_ k1_0 z1_0 k1_1 z1_1 l1_
                go_wp2
                go_roundw
                case rel => exact HNEW.out
                case measure => simp [intOf]; omega
            · have HE1 := Lib.hid he1
              have he1' : ((rdN 0 0 (List.drop a (x :: r))).1 == 0) = false := by simpa using he1
              have HB1 := Lib.hid (rfb_bad (r := r) hlt HCB.out HLF.out he1)
              obtain ⟨D, hD⟩ : ∃ D, D = (rdN 0 0 (List.drop a (x :: r))).2.1 := ⟨_, rfl⟩
              rw [← hD] at hd1 ⊢
              obtain ⟨C1, hC1⟩ : ∃ C1, C1 = (rdN 0 0 (List.drop a (x :: r))).1 := ⟨_, rfl⟩
              rw [← hC1] at HB1 HE1 he1' ⊢
              clear he1 ha1 hD hC1
              have hub := uR_bd (last := last) (d := D) hla0 hla1
              by_cases hbig : 4611686018427387904 - last < (D : Int)
              · have hbig' : decide (4611686018427387904 - last < (D : Int)) = true := by simpa using hbig
                have HUV := Lib.hid (show uR last D = 4611686018427387904 by unfold uR; rw [if_pos hbig])
                clear hub
                go_wp2_with (at_builtin; refine wpList_append_own _ rfl (.tmp 61) (.tmp 65) 22 rfl (w.heap.size + 1 + 1) 63 i0 _ 2 16 Tryd.underlying22 hi0 hz0 hz1 hz2 rfl (by decide) v _ _ rfl (HOW.out.alloc _) ⟨wr.heap.size, 0, none⟩ 1 1 [.int .i64 4611686018427387904, .int .i64 0] rfl rfl (cell_two_new _ _ _ _) (by simp [Value.oneCell']) ?c3 ?c4 ?c5 ?_)
                case c3 => unfold maxLen; omega
                case c4 => omega
                case c5 => simp; omega
                intro v' w5 hown' hgrow _
                obtain ⟨g5, cap5, rfl, hgb5, hgne5, hbx', hfr, hsz5⟩ := app_after (H := w.heap.size + 1) HOW.out (HSTr.out.at 1 rfl) (by omega) hown' hgrow
                have e3 : w5.cell? ⟨w.heap.size + 1, 1, none⟩ = some v := by rw [cellsAt hbx']; rfl
                have z3 : w5.frozen? ⟨w.heap.size + 1, 1, none⟩ = false := frozenAt hbx' 1
                have hst5 : FbSt w w5 (w.heap.size + 1) x.toNat v := (HSTr.out.more _).app (HOW.out.alloc _) hgrow (by simp <;> omega) (by omega)
                have hst6 : FbSt w (w5.setCell ⟨w.heap.size + 1, 1, none⟩ (.slice (some ⟨g5, 0, none⟩) (acc.length + 1) cap5)) (w.heap.size + 1) x.toNat (.slice (some ⟨g5, 0, none⟩) (acc.length + 1) cap5) := St.setLast [(w.heap.size, Obj.cells #[Value.int .i64 0, Value.slice none 0 0] 24 (0, 0))] 1 _ hst5 (by simp <;> omega)
                have HNEW := Lib.hid (show ∃ (k' a' : Nat) (last' c' : Int), Value.int .i64 (a1 : Int) = .int .i64 a' ∧ Value.int .i64 C1 = .int .i64 c' ∧ Value.int .i64 4611686018427387904 = .int .i64 last' ∧ Value.int .i64 ((k : Int) + 1) = .int .i64 k' ∧ k' ≤ r.length + 1 ∧ ((c' = 0 ∧ RFbOk w (w5.setCell ⟨w.heap.size + 1, 1, none⟩ (.slice (some ⟨g5, 0, none⟩) (acc.length + 1) cap5)) (w.heap.size + 1) x.toNat (x :: r) r M k' a' last') ∨ RFbBad w (w5.setCell ⟨w.heap.size + 1, 1, none⟩ (.slice (some ⟨g5, 0, none⟩) (acc.length + 1) cap5)) (w.heap.size + 1) x.toNat r c') from by
                  exact ⟨k + 1, a1, _, _, rfl, rfl, rfl, by go_num, by omega, .inr ⟨_, HE1.out, HB1.out, hst6⟩⟩)
                clear hown' hgrow hbx' hfr hst5 hst6
                clear k0_0 z0_0 k0_1 z0_1 l0_ k1_0 z1_0 k1_1 z1_1 l1_
                go_wp2
                go_roundw
                case rel => exact HNEW.out
                case measure => simp [intOf]; omega
              · have hbig' : decide (4611686018427387904 - last < (D : Int)) = false := by simpa using hbig
                have HUV := Lib.hid (show uR last D = (last + (D : Int)) by unfold uR; rw [if_neg hbig])
                clear hub
                go_wp2_with (at_builtin; refine wpList_append_own _ rfl (.tmp 61) (.tmp 65) 22 rfl (w.heap.size + 1 + 1) 63 i0 _ 2 16 Tryd.underlying22 hi0 hz0 hz1 hz2 rfl (by decide) v _ _ rfl (HOW.out.alloc _) ⟨wr.heap.size, 0, none⟩ 1 1 [.int .i64 (last + (D : Int)), .int .i64 0] rfl rfl (cell_two_new _ _ _ _) (by simp [Value.oneCell']) ?c3 ?c4 ?c5 ?_)
                case c3 => unfold maxLen; omega
                case c4 => omega
                case c5 => simp; omega
                intro v' w5 hown' hgrow _
                obtain ⟨g5, cap5, rfl, hgb5, hgne5, hbx', hfr, hsz5⟩ := app_after (H := w.heap.size + 1) HOW.out (HSTr.out.at 1 rfl) (by omega) hown' hgrow
                have e3 : w5.cell? ⟨w.heap.size + 1, 1, none⟩ = some v := by rw [cellsAt hbx']; rfl
                have z3 : w5.frozen? ⟨w.heap.size + 1, 1, none⟩ = false := frozenAt hbx' 1
                have hst5 : FbSt w w5 (w.heap.size + 1) x.toNat v := (HSTr.out.more _).app (HOW.out.alloc _) hgrow (by simp <;> omega) (by omega)
                have hst6 : FbSt w (w5.setCell ⟨w.heap.size + 1, 1, none⟩ (.slice (some ⟨g5, 0, none⟩) (acc.length + 1) cap5)) (w.heap.size + 1) x.toNat (.slice (some ⟨g5, 0, none⟩) (acc.length + 1) cap5) := St.setLast [(w.heap.size, Obj.cells #[Value.int .i64 0, Value.slice none 0 0] 24 (0, 0))] 1 _ hst5 (by simp <;> omega)
                have HNEW := Lib.hid (show ∃ (k' a' : Nat) (last' c' : Int), Value.int .i64 (a1 : Int) = .int .i64 a' ∧ Value.int .i64 C1 = .int .i64 c' ∧ Value.int .i64 (last + (D : Int)) = .int .i64 last' ∧ Value.int .i64 ((k : Int) + 1) = .int .i64 k' ∧ k' ≤ r.length + 1 ∧ ((c' = 0 ∧ RFbOk w (w5.setCell ⟨w.heap.size + 1, 1, none⟩ (.slice (some ⟨g5, 0, none⟩) (acc.length + 1) cap5)) (w.heap.size + 1) x.toNat (x :: r) r M k' a' last') ∨ RFbBad w (w5.setCell ⟨w.heap.size + 1, 1, none⟩ (.slice (some ⟨g5, 0, none⟩) (acc.length + 1) cap5)) (w.heap.size + 1) x.toNat r c') from by
                  exact ⟨k + 1, a1, _, _, rfl, rfl, rfl, by go_num, by omega, .inr ⟨_, HE1.out, HB1.out, hst6⟩⟩)
                clear hown' hgrow hbx' hfr hst5 hst6
                clear k0_0 z0_0 k0_1 z0_1 l0_ k1_0 z1_0 k1_1 z1_1 l1_
                go_wp2
                go_roundw
                case rel => exact HNEW.out
                case measure => simp [intOf]; omega
          · have hlt' : decide (k < M) = false := by simpa using hlt
            have HPL := Lib.hid (show prsL uR r = (0, acc, List.drop a (x :: r)) by rw [← HCB.out, prs_end (by omega)]; simp [comb])
            by_cases hend : a = r.length + 1
            · have he' : ((a : Int) != (r.length : Int) + 1) = false := by simp; omega
              have hdn : List.drop a (x :: r) = [] := List.drop_of_length_le (by simp; omega)
              rw [hdn] at HPL
              have HCF := Lib.hid (show codeF uR (x :: r) = codeH x.toNat acc by rw [codeF_cons, if_neg (by rw [HM.out]; simp), if_neg (by rw [HPL.out]; simp), if_neg (by rw [HPL.out]; simp), HPL.out])
              have HLF2 := Lib.hid (show listF uR (x :: r) = acc by show (prsL uR r).2.1 = acc; rw [HPL.out])
              obtain ⟨A5, cap5, rfl, hnc5, hcm5, hA5⟩ := ownsRow_shape HOW.out
              have HRO := Lib.hid ((Rd.of_own HOW.out).more (Nat.zero_le _) (Nat.le_refl _))
              clear hdn hend hcm5 hA5
              have HCK := Lib.hid (rcheck_any x.toNat A5 acc.length cap5 acc wr HRO.out (by omega) (RFB_bound HLF2.out HM.out))
              go_wp2_with fail
              refine HCK.out.mono ?_
              rintro e w6 ⟨rfl, hb6⟩
              have hsz6 := hb6.size
              have HST6 := Lib.hid (HSTr.out.call hb6)
              have HO6 := Lib.hid (ownsRow_fr HOW.out (Fr.of_below hb6) (fun i hi => by have := (ownsRow_block HOW.out hi).2; omega))
              clear hb6
              clear k0_0 z0_0 k0_1 z0_1 l0_ k1_0 z1_0 k1_1 z1_1 l1_
              have k0_0 : w6.cell? ⟨w.heap.size, 0, none⟩ = some (Value.int .i64 0) := HST6.out.cell 0 0 rfl rfl
              have z0_0 : w6.frozen? ⟨w.heap.size, 0, none⟩ = false := HST6.out.frozen 0 0 rfl
              have k0_1 : w6.cell? ⟨w.heap.size, 1, none⟩ = some (Value.slice none 0 0) := HST6.out.cell 0 1 rfl rfl
              have z0_1 : w6.frozen? ⟨w.heap.size, 1, none⟩ = false := HST6.out.frozen 0 1 rfl
              have l0_ : w.heap.size < w6.heap.size := HST6.out.lt 0 rfl
              have k1_0 : w6.cell? ⟨w.heap.size + 1, 0, none⟩ = some (Value.int .i64 x.toNat) := HST6.out.cell 1 0 rfl rfl
              have z1_0 : w6.frozen? ⟨w.heap.size + 1, 0, none⟩ = false := HST6.out.frozen 1 0 rfl
              have k1_1 : w6.cell? ⟨w.heap.size + 1, 1, none⟩ = some (Value.slice A5 acc.length cap5) := HST6.out.cell 1 1 rfl rfl
              have z1_1 : w6.frozen? ⟨w.heap.size + 1, 1, none⟩ = false := HST6.out.frozen 1 1 rfl
              have l1_ : w.heap.size + 1 < w6.heap.size := HST6.out.lt 1 rfl
              by_cases hch : codeH x.toNat acc = 0
              · have hch' : (codeH x.toNat acc != 0) = false := by simp [hch]
                have HCH := Lib.hid hch
                have HG := Lib.hid (codeH_zero hch).hist
                clear hch
                have HR6 := Lib.hid (Rd.of_own HO6.out)
                go_wp2
                refine bodyPost_ret (v := .tuple #[.agg #[.int .i64 x.toNat, .slice A5 acc.length cap5], .int .i64 0]) (by simp [results, Tryd.results30, go_sem, k0_0, k0_1, k1_0, k1_1]) rfl (HistPost.some (X := w6) (L := w.heap.size + 1 + 1) (HCF.out.trans HCH.out) (by rw [HLF2.out]; exact HG.out) HR6.out (by omega) HST6.out.below ?_)
                repeat (first | exact Fr.refl _ _ | (refine Fr.setCell ?_ (fun _ => by dsimp only; omega) _))
              · have hch' : (codeH x.toNat acc != 0) = true := by simp [hch]
                have HNO := Lib.hid hch
                clear hch
                go_wp2
                refine bodyPost_ret (v := .tuple #[.agg #[.int .i64 0, .slice none 0 0], .int .i64 (codeH x.toNat acc)]) (by simp [results, Tryd.results30, go_sem, k0_0, k0_1]) rfl (HistPost.none (HNO.out) HCF.out ?_)
                repeat (first | exact HST6.out.below | (refine Below.setCell ?_ (by dsimp only; omega) _))
            · have he' : ((a : Int) != (r.length : Int) + 1) = true := by simp; omega
              have hdn : List.drop a (x :: r) ≠ [] := by
                intro h
                have := congrArg List.length h
                simp only [List.length_drop, List.length_cons, List.length_nil] at this haL
                omega
              have HCF := Lib.hid (show codeF uR (x :: r) = 2 by rw [codeF_cons, if_neg (by rw [HM.out]; simp), if_neg (by rw [HPL.out]; simp), if_pos (by rw [HPL.out]; exact hdn)])
              clear hdn hend
              go_wp2
              refine bodyPost_ret (v := .tuple #[.agg #[.int .i64 0, .slice none 0 0], .int .i64 (2)]) (by simp [results, Tryd.results30, go_sem, k0_0, k0_1]) rfl (HistPost.none (by omega) HCF.out ?_)
              repeat (first | exact HSTr.out.below | (refine Below.setCell ?_ (by dsimp only; omega) _))
        · have HSTr := Lib.hid hst
          have HNO := Lib.hid hcc
          have hcc1 : (c' == 0) = false := by simpa using hcc
          have hcc2 : (c' != 0) = true := by simpa using hcc
          have HCF := Lib.hid (show codeF uR (x :: r) = c' by rw [codeF_cons, if_neg (by rw [HM.out]; simp), if_pos (by rw [hpc]; exact hcc), hpc])
          clear hst hcc hpc
          have k0_0 : wr.cell? ⟨w.heap.size, 0, none⟩ = some (Value.int .i64 0) := HSTr.out.cell 0 0 rfl rfl
          have z0_0 : wr.frozen? ⟨w.heap.size, 0, none⟩ = false := HSTr.out.frozen 0 0 rfl
          have k0_1 : wr.cell? ⟨w.heap.size, 1, none⟩ = some (Value.slice none 0 0) := HSTr.out.cell 0 1 rfl rfl
          have z0_1 : wr.frozen? ⟨w.heap.size, 1, none⟩ = false := HSTr.out.frozen 0 1 rfl
          have l0_ : w.heap.size < wr.heap.size := HSTr.out.lt 0 rfl
          have k1_0 : wr.cell? ⟨w.heap.size + 1, 0, none⟩ = some (Value.int .i64 x.toNat) := HSTr.out.cell 1 0 rfl rfl
          have z1_0 : wr.frozen? ⟨w.heap.size + 1, 0, none⟩ = false := HSTr.out.frozen 1 0 rfl
          have k1_1 : wr.cell? ⟨w.heap.size + 1, 1, none⟩ = some (v) := HSTr.out.cell 1 1 rfl rfl
          have z1_1 : wr.frozen? ⟨w.heap.size + 1, 1, none⟩ = false := HSTr.out.frozen 1 1 rfl
          have l1_ : w.heap.size + 1 < wr.heap.size := HSTr.out.lt 1 rfl
          by_cases hlt : k < M
          · have hlt' : decide (k < M) = true := by simpa using hlt
            go_wp2
            refine bodyPost_ret (v := .tuple #[.agg #[.int .i64 0, .slice none 0 0], .int .i64 (c')]) (by simp [results, Tryd.results30, go_sem, k0_0, k0_1]) rfl (HistPost.none (HNO.out) HCF.out ?_)
            repeat (first | exact HSTr.out.below | (refine Below.setCell ?_ (by dsimp only; omega) _))
          · have hlt' : decide (k < M) = false := by simpa using hlt
            go_wp2
            refine bodyPost_ret (v := .tuple #[.agg #[.int .i64 0, .slice none 0 0], .int .i64 (c')]) (by simp [results, Tryd.results30, go_sem, k0_0, k0_1]) rfl (HistPost.none (HNO.out) HCF.out ?_)
            repeat (first | exact HSTr.out.below | (refine Below.setCell ?_ (by dsimp only; omega) _))
    · have HM := Lib.hid hm
      have hmz := rdN_err r 0 0 hm
      have hm2 : ((rdN 0 0 r).1 == 0) = false := by simpa using hm
      have hm3 : ((rdN 0 0 r).1 != 0) = true := by simpa using hm
      rw [hmz]
      have HCF := Lib.hid (show codeF uR (x :: r) = (rdN 0 0 r).1 by rw [codeF_cons, if_pos hm])
      clear hm hmz
      go_wp2
      refine wp_loop_rounds 1 ?_
      rw [rounds_succ]
      go_wp2
      refine bodyPost_ret (v := .tuple #[.agg #[.int .i64 0, .slice none 0 0], .int .i64 ((rdN 0 0 r).1)]) (by simp [results, Tryd.results30, go_sem, k0_0, k0_1]) rfl (HistPost.none (HM.out) HCF.out ?_)
      repeat (first | exact HST0.out.below | (refine Below.setCell ?_ (by dsimp only; omega) _))
end Go.Proofs.YtgmbgclhljobaaaDoor
