/- FromBytes of the program. -/
import Derived.Test.YtgmbgclhljobaaaDoorPrs
import Derived.Test.YtgmbgclhljobaaaDoorHP
import Derived.StillTailTactics
namespace Go.Proofs.YtgmbgclhljobaaaDoor
open Go Go.RowKit Go.Proofs Go.Maps

/-- the call's boxes: the result, the histogram that is made -/
def FbSt (w wr : World) (H : Nat) (b : Int) (v : Value) : Prop := St w wr [(w.heap.size, Obj.cells #[Value.int .i64 0, Value.slice none 0 0] 24 (0, 0)), (H, Obj.cells #[Value.int .i64 b, v] 24 (0, 0))]
/-- no error so far -/
def FbOk (w wr : World) (H : Nat) (b : Int) (r : List UInt8) (M k : Nat) (last : Int) : Prop :=
  ∃ f l' acc v, comb acc (prs uP f ((M : Int) - k) last l') = prsL uP r ∧ l'.length < f ∧ acc.length = k ∧ acc.length + l'.length ≤ r.length ∧ 0 ≤ last ∧ last ≤ 9223372036854775807 ∧ FbSt w wr H b v ∧ SrcAt wr w.heap.size (w.heap.size + 1) l' 0 ∧ wr.ownsRow (H + 1) 63 2 v acc.length (cells2 acc)
/-- an error -/
def FbBad (w wr : World) (H : Nat) (b : Int) (r : List UInt8) : Prop :=
  ∃ l' c v, c ≠ 0 ∧ (prsL uP r).1 = c ∧ FbSt w wr H b v ∧ SrcAt wr w.heap.size (w.heap.size + 1) l' c
theorem St.frK {w w' w'' : World} {bs : List (Nat × Obj)} {K : Nat} (h : St w w' bs) (hf : Fr (fun i => i = K) w' w'') (hm : ∀ x ∈ bs, x.1 ≠ K) (h0 : w.heap.size ≤ K) : St w w'' bs :=
  h.fr hf (fun _ _ _ hi hb => hm _ (List.mem_of_getElem? hi) hb) (fun i hi => by omega)
theorem SrcAt.no {w : World} {B K : Nat} {l : List UInt8} {no : Int} (h : SrcAt w B K l no) : w.cell? ⟨K, 1, none⟩ = some (.int .i64 no) ∧ w.frozen? ⟨K, 1, none⟩ = false := by
  obtain ⟨A, c, h1, _⟩ := h
  exact ⟨by rw [cellsAt h1]; rfl, frozenAt h1 1⟩
theorem SrcAt.len {w : World} {B K : Nat} {l : List UInt8} {no : Int} (h : SrcAt w B K l no) : ∃ A c, w.cell? ⟨K, 0, none⟩ = some (.slice A l.length c) := by
  obtain ⟨A, c, h1, _⟩ := h
  exact ⟨A, c, by rw [cellsAt h1]; rfl⟩
theorem rdS_zero (l : List UInt8) : rdS 0 l = rdN 0 0 l := by unfold rdS; simp
/-- a round that ended well, or in an error -/
theorem fb_next {f : Nat} {M k : Nat} {last : Int} {l' : List UInt8} {acc : List (Int × Int)} {r : List UInt8} (hk : k < M) (h : comb acc (prs uP f ((M : Int) - k) last l') = prsL uP r) (hf : l'.length < f) (ha : acc.length + l'.length ≤ r.length) (h0 : (rdS (rdS 0 l').1 (rdS 0 l').2.2).1 = 0) :
    ∃ f', comb (acc ++ [(uP last (rdS 0 l').2.1, ((rdS (rdS 0 l').1 (rdS 0 l').2.2).2.1 : Int))]) (prs uP f' ((M : Int) - (k + 1 : Nat)) (uP last (rdS 0 l').2.1) (rdS (rdS 0 l').1 (rdS 0 l').2.2).2.2) = prsL uP r ∧ (rdS (rdS 0 l').1 (rdS 0 l').2.2).2.2.length < f' ∧
      (acc ++ [(uP last (rdS 0 l').2.1, ((rdS (rdS 0 l').1 (rdS 0 l').2.2).2.1 : Int))]).length + (rdS (rdS 0 l').1 (rdS 0 l').2.2).2.2.length ≤ r.length := by
  rw [rdS_zero] at *
  by_cases h1 : (rdN 0 0 l').1 = 0
  · rw [h1, rdS_zero] at h0 ⊢
    cases f with
    | zero => omega
    | succ f =>
      rw [prs_step (by omega) h1 h0] at h
      have l1 := rdN_len l' 0 0 h1
      have l2 := rdN_len _ 0 0 h0
      refine ⟨f, by rw [← h]; congr 2; omega, by omega, ?_⟩
      simp only [List.length_append, List.length_singleton]; omega
  · exfalso
    unfold rdS at h0
    rw [if_pos h1] at h0
    exact h1 h0
theorem fb_bad {f : Nat} {M k : Nat} {last : Int} {l' : List UInt8} {acc : List (Int × Int)} {r : List UInt8} (hk : k < M) (h : comb acc (prs uP f ((M : Int) - k) last l') = prsL uP r) (hf : l'.length < f) (h0 : (rdS (rdS 0 l').1 (rdS 0 l').2.2).1 ≠ 0) :
    (prsL uP r).1 = (rdS (rdS 0 l').1 (rdS 0 l').2.2).1 := by
  rw [rdS_zero] at *
  rw [← h]
  cases f with
  | zero => omega
  | succ f =>
    show (prs uP (f + 1) ((M : Int) - k) last l').1 = _
    by_cases h1 : (rdN 0 0 l').1 = 0
    · rw [h1, rdS_zero] at h0 ⊢
      exact prs_bad2 (by omega) h1 h0
    · rw [prs_bad (by omega) h1]
      unfold rdS
      rw [if_pos h1]
theorem uP_bd {last : Int} {d : Nat} (h0 : 0 ≤ last) (h1 : last ≤ 9223372036854775807) : 0 ≤ uP last d ∧ uP last d ≤ 9223372036854775807 := by unfold uP; omega

set_option maxHeartbeats 4000000 in
set_option maxRecDepth 100000 in
theorem FromBytes_any (A : Option Addr) (c : Nat) (l : List UInt8) (w : World) (hr : Rd w 0 w.heap.size 1 A l.length (Lib.byteCells l)) (hc : l.length ≤ c) (hcm : c ≤ maxLen) (hl : l.length ≤ 2000000) :
    Calls Tryd.prog 29 #[.slice A l.length c] w (HistPost (sumAt id (listF uP l)) (bitsF l) (codeF uP l) w) := by
  obtain ⟨i0, hi0, hz0, hz1, hz2⟩ := info_parts Tryd.infoC
  obtain ⟨W0, hW0⟩ : ∃ W0, W0 = ((w).alloc (.cells #[Value.int .i64 0, Value.slice none 0 0] 24)).alloc (.cells #[Value.slice A l.length c, Value.int .i64 0] 84) := ⟨_, rfl⟩
  have st0 : St w W0 [(w.heap.size, Obj.cells #[Value.int .i64 0, Value.slice none 0 0] 24 (0, 0)), (w.heap.size + 1, Obj.cells #[Value.slice A l.length c, Value.int .i64 0] 84 (0, 0))] := by rw [hW0]; exact ((St.start w).alloc _ _ (by simp)).alloc _ _ (by simp)
  have hs0 : W0.heap.size = w.heap.size + 1 + 1 := by rw [hW0]; simp
  have hsz0 : w.heap.size + 1 + 1 ≤ W0.heap.size := by omega
  have HST0 := Lib.hid st0
  have HS0 := Lib.hid hs0
  have hsrc : SrcAt W0 w.heap.size (w.heap.size + 1) l 0 := ⟨A, c, st0.at 1 rfl, hr.below st0.below (Nat.le_refl _), hc, hcm, by omega⟩
  have HSRC := Lib.hid hsrc
  clear hsrc hr hc hcm
  have HSTR := Lib.hid (show St w W0 [(w.heap.size, Obj.cells #[Value.int .i64 0, Value.slice none 0 0] 24 (0, 0))] from st0.take 1)
  clear st0 hs0
  go_enter Tryd.func29, Tryd.ntmps29
  go_wp2_with fail
  rw [← hW0]
  clear hW0
  cases l with
  | nil =>
    have HB := Lib.hid (byte_nil _ _ W0 HSRC.out)
    refine HB.out.mono ?_
    rintro e w1 ⟨rfl, hs1, hf1⟩
    have hsz1 : W0.heap.size ≤ w1.heap.size := hf1.size
    obtain ⟨W1, hW1⟩ : ∃ W1, W1 = w1.alloc (.cells #[.int .i64 0, .slice none 0 0] 24) := ⟨_, rfl⟩
    have HS1 := Lib.hid (show SrcAt W1 w.heap.size (w.heap.size + 1) [] 16 by rw [hW1]; exact hs1.fr ((Fr.refl (fun _ => False) w1).alloc _) (by simp) (by simp))
    have HST1 := Lib.hid (show St w W1 [(w.heap.size, Obj.cells #[Value.int .i64 0, Value.slice none 0 0] 24 (0, 0))] by rw [hW1]; exact (HSTR.out.frK hf1 (by simp <;> omega) (by omega)).more _)
    have HN := Lib.hid (number_err _ _ _ _ W1 HS1.out (by omega))
    clear hs1 hf1
    go_wp2_with fail
    rw [← hW1]
    clear hW1
    refine HN.out.mono ?_
    rintro e w' ⟨rfl, rfl⟩
    obtain ⟨n1, n2⟩ := HS1.out.no
    have k0_0 : W1.cell? ⟨w.heap.size, 0, none⟩ = some (Value.int .i64 0) := HST1.out.cell 0 0 rfl rfl
    have z0_0 : W1.frozen? ⟨w.heap.size, 0, none⟩ = false := HST1.out.frozen 0 0 rfl
    have k0_1 : W1.cell? ⟨w.heap.size, 1, none⟩ = some (Value.slice none 0 0) := HST1.out.cell 0 1 rfl rfl
    have z0_1 : W1.frozen? ⟨w.heap.size, 1, none⟩ = false := HST1.out.frozen 0 1 rfl
    have l0_ : w.heap.size < W1.heap.size := HST1.out.lt 0 rfl
    have hno : (16 : Int) ≠ 0 := by omega
    have HNO := Lib.hid hno
    clear hno
    go_wp2
    refine wp_loop_rounds 1 ?_
    rw [rounds_succ]
    go_wp2
    go_region
    all_goals go_wp2
    all_goals (refine bodyPost_ret (v := .tuple #[.agg #[.int .i64 0, .slice none 0 0], .int .i64 (16)]) (by simp [results, Tryd.results29, go_sem, k0_0, k0_1]) rfl (HistPost.none HNO.out rfl ?_); repeat (first | exact HST1.out.below | (refine Below.setCell ?_ (by dsimp only; omega) _) | refine Below.drew ?_))
  | cons x r =>
    have hxl := x.toNat_lt
    have HB := Lib.hid (byte_cons _ _ x r W0 HSRC.out)
    simp only [List.length_cons] at hl
    refine HB.out.mono ?_
    rintro e w1 ⟨rfl, hs1, hf1⟩
    have hsz1 : W0.heap.size ≤ w1.heap.size := hf1.size
    obtain ⟨W1, hW1⟩ : ∃ W1, W1 = w1.alloc (.cells #[.int .i64 x.toNat, .slice none 0 0] 24) := ⟨_, rfl⟩
    have HS1 := Lib.hid (show SrcAt W1 w.heap.size (w.heap.size + 1) r 0 by rw [hW1]; exact hs1.fr ((Fr.refl (fun _ => False) w1).alloc _) (by simp) (by simp))
    have HST1 := Lib.hid (show FbSt w W1 w1.heap.size x.toNat (.slice none 0 0) by rw [hW1]; exact (HSTR.out.frK hf1 (by simp <;> omega) (by omega)).alloc _ _ rfl)
    have HN := Lib.hid (numberS_any _ _ _ W1 HS1.out)
    have hszW1 : w1.heap.size + 1 ≤ W1.heap.size := by rw [hW1]; simp
    clear hs1 hf1
    go_wp2_with fail
    rw [← hW1]
    clear hW1
    refine HN.out.mono ?_
    rintro e w2 ⟨rfl, hs2, hf2⟩
    have hsz2 : W1.heap.size ≤ w2.heap.size := hf2.size
    have HST2 := Lib.hid (show FbSt w w2 w1.heap.size x.toNat (.slice none 0 0) from HST1.out.frK hf2 (by simp <;> omega) (by omega))
    have HS2 := Lib.hid hs2
    have hmv := rdN_val r 0 0 (by omega) (by simp)
    clear hs2 hf2
    obtain ⟨n1, n2⟩ := HS2.out.no
    have k0_0 : w2.cell? ⟨w.heap.size, 0, none⟩ = some (Value.int .i64 0) := HST2.out.cell 0 0 rfl rfl
    have z0_0 : w2.frozen? ⟨w.heap.size, 0, none⟩ = false := HST2.out.frozen 0 0 rfl
    have k0_1 : w2.cell? ⟨w.heap.size, 1, none⟩ = some (Value.slice none 0 0) := HST2.out.cell 0 1 rfl rfl
    have z0_1 : w2.frozen? ⟨w.heap.size, 1, none⟩ = false := HST2.out.frozen 0 1 rfl
    have l0_ : w.heap.size < w2.heap.size := HST2.out.lt 0 rfl
    have k1_0 : w2.cell? ⟨w1.heap.size, 0, none⟩ = some (Value.int .i64 x.toNat) := HST2.out.cell 1 0 rfl rfl
    have z1_0 : w2.frozen? ⟨w1.heap.size, 0, none⟩ = false := HST2.out.frozen 1 0 rfl
    have k1_1 : w2.cell? ⟨w1.heap.size, 1, none⟩ = some (Value.slice none 0 0) := HST2.out.cell 1 1 rfl rfl
    have z1_1 : w2.frozen? ⟨w1.heap.size, 1, none⟩ = false := HST2.out.frozen 1 1 rfl
    have l1_ : w1.heap.size < w2.heap.size := HST2.out.lt 1 rfl
    by_cases hm : (rdN 0 0 r).1 = 0
    · have HM := Lib.hid hm
      obtain ⟨M, hM⟩ : ∃ M, M = (rdN 0 0 r).2.1 := ⟨_, rfl⟩
      have HMM := Lib.hid hM
      have hl1 := rdN_len r 0 0 hm
      have HL1 := Lib.hid hl1
      rw [← hM] at hmv ⊢
      rw [hm] at n1 HS2
      clear hm hM hl1
      go_wp2
      go_loopw [7, 8, 9, 10] (fun la i _ _ wr => ∃ (k : Nat) (last : Int), la = .int .i64 last ∧ i = .int .i64 k ∧ k ≤ r.length + 1 ∧ (FbOk w wr w1.heap.size x.toNat r M k last ∨ FbBad w wr w1.heap.size x.toNat r)) (fun _ i _ _ _ => r.length + 2 - (intOf i).toNat)
      case atStart =>
        refine ⟨0, 0, rfl, rfl, by omega, .inl ⟨r.length + 1, (rdN 0 0 r).2.2, [], .slice none 0 0, ?_, by have := HL1.out; omega, rfl, by have := HL1.out; simp; omega, by omega, by omega, HST2.out, HS2.out, ⟨by simp [cells2], .inl ⟨rfl, rfl⟩⟩⟩⟩
        unfold prsL comb
        rw [← HMM.out]; simp
      case round =>
        clear n1 n2
        clear k0_0 z0_0 k0_1 z0_1 l0_ k1_0 z1_0 k1_1 z1_1 l1_
        obtain ⟨k, last, rfl, rfl, hkr, hrel⟩ := hrel
        rcases hrel with ⟨f, l', acc, v, hcomb, hlf, hak, hal, hla0, hla1, hst, hsrc, hown⟩ | ⟨l', cc, v, hcc, hpc, hst, hsrc⟩
        · have HSTr := Lib.hid hst
          have HSR := Lib.hid hsrc
          have HOW := Lib.hid hown
          have HCB := Lib.hid hcomb
          have HAK := Lib.hid hak
          obtain ⟨n1, n2⟩ := HSR.out.no
          obtain ⟨As, cs_, n3⟩ := HSR.out.len
          clear hst hsrc hown hcomb hak
          have k0_0 : wr.cell? ⟨w.heap.size, 0, none⟩ = some (Value.int .i64 0) := HSTr.out.cell 0 0 rfl rfl
          have z0_0 : wr.frozen? ⟨w.heap.size, 0, none⟩ = false := HSTr.out.frozen 0 0 rfl
          have k0_1 : wr.cell? ⟨w.heap.size, 1, none⟩ = some (Value.slice none 0 0) := HSTr.out.cell 0 1 rfl rfl
          have z0_1 : wr.frozen? ⟨w.heap.size, 1, none⟩ = false := HSTr.out.frozen 0 1 rfl
          have l0_ : w.heap.size < wr.heap.size := HSTr.out.lt 0 rfl
          have k1_0 : wr.cell? ⟨w1.heap.size, 0, none⟩ = some (Value.int .i64 x.toNat) := HSTr.out.cell 1 0 rfl rfl
          have z1_0 : wr.frozen? ⟨w1.heap.size, 0, none⟩ = false := HSTr.out.frozen 1 0 rfl
          have k1_1 : wr.cell? ⟨w1.heap.size, 1, none⟩ = some (v) := HSTr.out.cell 1 1 rfl rfl
          have z1_1 : wr.frozen? ⟨w1.heap.size, 1, none⟩ = false := HSTr.out.frozen 1 1 rfl
          have l1_ : w1.heap.size < wr.heap.size := HSTr.out.lt 1 rfl
          by_cases hlt : k < M
          · have hlt' : decide (k < M) = true := by simpa using hlt
            have HN1 := Lib.hid (numberG_any _ _ l' 0 wr HSR.out)
            go_wp2_with fail
            refine HN1.out.mono ?_
            rintro e w3 ⟨rfl, hs3, hf3⟩
            have HN2 := Lib.hid (numberG_any _ _ _ _ w3 hs3)
            have HF3 := Lib.hid hf3
            have hsz3 : wr.heap.size ≤ w3.heap.size := hf3.size
            clear hs3 hf3 n1 n2 n3
            go_wp2_with fail
            refine HN2.out.mono ?_
            rintro e w4 ⟨rfl, hs4, hf4⟩
            have hsz4 : w3.heap.size ≤ w4.heap.size := hf4.size
            have hf : Fr (fun i => i = w.heap.size + 1) wr w4 := HF3.out.trans hf4 (fun _ _ h => h)
            have hd1 := rdS_val 0 l'
            have hd2 := rdS_val (rdS 0 l').1 (rdS 0 l').2.2
            have HNX := Lib.hid (fb_next hlt HCB.out hlf hal)
            have HBD := Lib.hid (fb_bad hlt HCB.out hlf)
            have HUP := Lib.hid (uP_bd (last := last) (d := (rdS 0 l').2.1) hla0 hla1)
            obtain ⟨R2, hR2⟩ : ∃ R2, R2 = rdS (rdS 0 l').1 (rdS 0 l').2.2 := ⟨_, rfl⟩
            rw [← hR2] at HNX HBD hd2 hs4 ⊢
            obtain ⟨D, hD⟩ : ∃ D, D = (rdS 0 l').2.1 := ⟨_, rfl⟩
            rw [← hD] at HNX HUP hd1 ⊢
            obtain ⟨NN, hNN⟩ : ∃ NN, NN = R2.2.1 := ⟨_, rfl⟩
            rw [← hNN] at HNX hd2 ⊢
            have HS4 := Lib.hid hs4
            have HST4 := Lib.hid (show FbSt w w4 w1.heap.size x.toNat v from HSTr.out.frK hf (by simp <;> omega) (by omega))
            have HO4 := Lib.hid (ownsRow_fr HOW.out hf (fun i hi => by have := (ownsRow_block HOW.out hi).1; omega))
            clear hs4 hf4 hf hR2 hD hNN
            clear k0_0 z0_0 k0_1 z0_1 l0_ k1_0 z1_0 k1_1 z1_1 l1_
            have k0_0 : w4.cell? ⟨w.heap.size, 0, none⟩ = some (Value.int .i64 0) := HST4.out.cell 0 0 rfl rfl
            have z0_0 : w4.frozen? ⟨w.heap.size, 0, none⟩ = false := HST4.out.frozen 0 0 rfl
            have k0_1 : w4.cell? ⟨w.heap.size, 1, none⟩ = some (Value.slice none 0 0) := HST4.out.cell 0 1 rfl rfl
            have z0_1 : w4.frozen? ⟨w.heap.size, 1, none⟩ = false := HST4.out.frozen 0 1 rfl
            have l0_ : w.heap.size < w4.heap.size := HST4.out.lt 0 rfl
            have k1_0 : w4.cell? ⟨w1.heap.size, 0, none⟩ = some (Value.int .i64 x.toNat) := HST4.out.cell 1 0 rfl rfl
            have z1_0 : w4.frozen? ⟨w1.heap.size, 0, none⟩ = false := HST4.out.frozen 1 0 rfl
            have k1_1 : w4.cell? ⟨w1.heap.size, 1, none⟩ = some (v) := HST4.out.cell 1 1 rfl rfl
            have z1_1 : w4.frozen? ⟨w1.heap.size, 1, none⟩ = false := HST4.out.frozen 1 1 rfl
            have l1_ : w1.heap.size < w4.heap.size := HST4.out.lt 1 rfl
            go_wp2_with (at_builtin; refine wpList_append_own _ rfl (.tmp 42) (.tmp 46) 22 rfl (w1.heap.size + 1) 63 i0 _ 2 16 Tryd.underlying22 hi0 hz0 hz1 hz2 rfl (by decide) v _ _ rfl (HO4.out.alloc _) ⟨w4.heap.size, 0, none⟩ 1 1 [.int .i64 (min last 4611686018427387904 + min (D : Int) 4611686018427387903), .int .i64 NN] rfl rfl (cell_two_new _ _ _ _) (by simp [Value.oneCell']) ?c3 ?c4 ?c5 ?_)
            case c3 => unfold maxLen; omega
            case c4 => omega
            case c5 => simp; omega
            intro v' w5 hown' hgrow _
            obtain ⟨g, cap, rfl, hgb, hgne, hbx', hfr, hsz5⟩ := app_after (H := w1.heap.size) HO4.out (HST4.out.at 1 rfl) (by omega) hown' hgrow
            have e3 : w5.cell? ⟨w1.heap.size, 1, none⟩ = some v := by rw [cellsAt hbx']; rfl
            have z3 : w5.frozen? ⟨w1.heap.size, 1, none⟩ = false := frozenAt hbx' 1
            have hst5 : FbSt w w5 w1.heap.size x.toNat v := (HST4.out.more _).app (HO4.out.alloc _) hgrow (by simp; omega) (by omega)
            have hst6 : FbSt w (w5.setCell ⟨w1.heap.size, 1, none⟩ (.slice (some ⟨g, 0, none⟩) (acc.length + 1) cap)) w1.heap.size x.toNat (.slice (some ⟨g, 0, none⟩) (acc.length + 1) cap) := St.setLast [(w.heap.size, Obj.cells #[Value.int .i64 0, Value.slice none 0 0] 24 (0, 0))] 1 _ hst5 (by simp; omega)
            have hff : Fr (fun i => w1.heap.size ≤ i) w4 (w5.setCell ⟨w1.heap.size, 1, none⟩ (.slice (some ⟨g, 0, none⟩) (acc.length + 1) cap)) := by
              refine Fr.setCell (may := fun i => w1.heap.size ≤ i) (p := ⟨w1.heap.size, 1, none⟩) (Fr.trans ((Fr.refl _ w4).alloc _) (Fr.of_grown hgrow) (fun i _ hi => ?_)) (fun _ => Nat.le_refl _) _
              have := (ownsRow_block HO4.out hi).1; omega
            have hs6 := HS4.out.fr hff (by omega) (fun i hi => by omega)
            have hnew : FbOk w (w5.setCell ⟨w1.heap.size, 1, none⟩ (.slice (some ⟨g, 0, none⟩) (acc.length + 1) cap)) w1.heap.size x.toNat r M (k + 1) (min last 4611686018427387904 + min (D : Int) 4611686018427387903) ∨ FbBad w (w5.setCell ⟨w1.heap.size, 1, none⟩ (.slice (some ⟨g, 0, none⟩) (acc.length + 1) cap)) w1.heap.size x.toNat r := by
              by_cases h0 : R2.1 = 0
              · left
                obtain ⟨f', g1, g2, g3⟩ := HNX.out h0
                rw [h0] at hs6
                refine ⟨f', _, _, _, g1, g2, by simp; have := HAK.out; omega, g3, HUP.out.1, HUP.out.2, hst6, hs6, ?_⟩
                have := row_store hown' (show w1.heap.size < w1.heap.size + 1 by omega) 1 (.slice (some ⟨g, 0, none⟩) (acc.length + 1) cap)
                rw [cells2_append]
                simpa [cells2, uP] using this
              · right
                exact ⟨_, R2.1, _, h0, HBD.out h0, hst6, hs6⟩
            have HNEW := Lib.hid hnew
            clear hown' hgrow hbx' hfr hst5 hst6 hff hs6 hnew
            have hak := HAK.out
            have hkr2 : k + 1 ≤ r.length + 1 := by omega
            clear hak
            clear k0_0 z0_0 k0_1 z0_1 l0_ k1_0 z1_0 k1_1 z1_1 l1_
            go_wp2
            go_roundw
            case rel => exact ⟨k + 1, _, rfl, by go_num, hkr2, HNEW.out⟩
            case measure => simp [intOf]; omega
          · have hlt' : decide (k < M) = false := by simpa using hlt
            have HPL := Lib.hid (show prsL uP r = (0, acc, l') by rw [← HCB.out, prs_end (by omega)]; simp [comb])
            have hpl1 := congrArg (fun p => p.1) HPL.out
            by_cases hl0 : l' = []
            · subst hl0
              have HCF := Lib.hid (show codeF uP (x :: r) = codeH x.toNat acc by rw [codeF_cons, if_neg (by rw [HM.out]; simp), if_neg (by rw [HPL.out]; simp), if_neg (by rw [HPL.out]; simp), HPL.out])
              have HLF := Lib.hid (show listF uP (x :: r) = acc by show (prsL uP r).2.1 = acc; rw [HPL.out])
              obtain ⟨A5, cap5, rfl, hnc5, hcm5, hA5⟩ := ownsRow_shape HOW.out
              have HCK := Lib.hid (check_any x.toNat A5 acc.length cap5 acc wr ((Rd.of_own HOW.out).more (Nat.zero_le _) (Nat.le_refl _)) (by have := HAK.out; omega))
              have HA5 := Lib.hid hA5
              have HCM := Lib.hid hcm5
              clear hpl1 hA5 hcm5
              simp only [List.length_nil] at n3
              go_wp2_with fail
              refine HCK.out.mono ?_
              rintro e w6 ⟨rfl, hb6⟩
              have hsz6 := hb6.size
              have HST6 := Lib.hid (HSTr.out.call hb6)
              have HS6 := Lib.hid (HSR.out.fr (Fr.of_below hb6) (by have := HSR.out.lt; omega) (fun i hi => by have := HSR.out.lt; omega))
              have HO6 := Lib.hid (ownsRow_fr HOW.out (Fr.of_below hb6) (fun i hi => by have := (ownsRow_block HOW.out hi).2; omega))
              clear hb6 n1 n2 n3
              obtain ⟨n1, n2⟩ := HS6.out.no
              clear k0_0 z0_0 k0_1 z0_1 l0_ k1_0 z1_0 k1_1 z1_1 l1_
              have k0_0 : w6.cell? ⟨w.heap.size, 0, none⟩ = some (Value.int .i64 0) := HST6.out.cell 0 0 rfl rfl
              have z0_0 : w6.frozen? ⟨w.heap.size, 0, none⟩ = false := HST6.out.frozen 0 0 rfl
              have k0_1 : w6.cell? ⟨w.heap.size, 1, none⟩ = some (Value.slice none 0 0) := HST6.out.cell 0 1 rfl rfl
              have z0_1 : w6.frozen? ⟨w.heap.size, 1, none⟩ = false := HST6.out.frozen 0 1 rfl
              have l0_ : w.heap.size < w6.heap.size := HST6.out.lt 0 rfl
              have k1_0 : w6.cell? ⟨w1.heap.size, 0, none⟩ = some (Value.int .i64 x.toNat) := HST6.out.cell 1 0 rfl rfl
              have z1_0 : w6.frozen? ⟨w1.heap.size, 0, none⟩ = false := HST6.out.frozen 1 0 rfl
              have k1_1 : w6.cell? ⟨w1.heap.size, 1, none⟩ = some (Value.slice A5 acc.length cap5) := HST6.out.cell 1 1 rfl rfl
              have z1_1 : w6.frozen? ⟨w1.heap.size, 1, none⟩ = false := HST6.out.frozen 1 1 rfl
              have l1_ : w1.heap.size < w6.heap.size := HST6.out.lt 1 rfl
              have hKw : w.heap.size + 1 ≠ w1.heap.size := by omega
              by_cases hch : codeH x.toNat acc = 0
              · have hch' : (codeH x.toNat acc != 0) = false := by simp [hch]
                have HCH := Lib.hid hch
                have HG := Lib.hid (codeH_zero hch).hist
                clear hch
                have HCL := Lib.hid (fun W => clip_count A5 acc.length cap5 W hnc5 HCM.out HA5.out)
                have HR6 := Lib.hid (Rd.of_own HO6.out)
                go_wp2_with fail
                refine (HCL.out _).mono ?_
                rintro e w' ⟨rfl, rfl⟩
                go_wp2
                refine bodyPost_ret (v := .tuple #[.agg #[.int .i64 x.toNat, .slice A5 acc.length acc.length], .int .i64 0]) (by simp [results, Tryd.results29, go_sem, k0_0, k0_1, k1_0, k1_1]) rfl (HistPost.some (X := w6) (L := w1.heap.size + 1) (HCF.out.trans HCH.out) (by rw [HLF.out]; exact HG.out) HR6.out (by omega) HST6.out.below ?_)
                repeat (first | exact Fr.refl _ _ | (refine Fr.setCell ?_ (fun _ => by dsimp only; omega) _))
              · have hch' : (codeH x.toNat acc != 0) = true := by simp [hch]
                have HNO := Lib.hid hch
                clear hch
                obtain ⟨X, hX⟩ : ∃ X, X = w6.setCell ⟨w.heap.size + 1, 1, none⟩ (.int .i64 (codeH x.toNat acc)) := ⟨_, rfl⟩
                have HSTX := Lib.hid (show FbSt w X w1.heap.size x.toNat (.slice A5 acc.length cap5) by rw [hX]; exact HST6.out.frK (fr_cell _ _ _ _) (by simp <;> omega) (by omega))
                have HSX := Lib.hid (show SrcAt X w.heap.size (w.heap.size + 1) _ (codeH x.toNat acc) by rw [hX]; exact HS6.out.set1 _)
                go_wp2
                rw [← hX]
                clear hX n1 n2
                obtain ⟨n1, n2⟩ := HSX.out.no
                clear k0_0 z0_0 k0_1 z0_1 l0_ k1_0 z1_0 k1_1 z1_1 l1_
                have k0_0 : X.cell? ⟨w.heap.size, 0, none⟩ = some (Value.int .i64 0) := HSTX.out.cell 0 0 rfl rfl
                have z0_0 : X.frozen? ⟨w.heap.size, 0, none⟩ = false := HSTX.out.frozen 0 0 rfl
                have k0_1 : X.cell? ⟨w.heap.size, 1, none⟩ = some (Value.slice none 0 0) := HSTX.out.cell 0 1 rfl rfl
                have z0_1 : X.frozen? ⟨w.heap.size, 1, none⟩ = false := HSTX.out.frozen 0 1 rfl
                have l0_ : w.heap.size < X.heap.size := HSTX.out.lt 0 rfl
                have k1_0 : X.cell? ⟨w1.heap.size, 0, none⟩ = some (Value.int .i64 x.toNat) := HSTX.out.cell 1 0 rfl rfl
                have z1_0 : X.frozen? ⟨w1.heap.size, 0, none⟩ = false := HSTX.out.frozen 1 0 rfl
                have k1_1 : X.cell? ⟨w1.heap.size, 1, none⟩ = some (Value.slice A5 acc.length cap5) := HSTX.out.cell 1 1 rfl rfl
                have z1_1 : X.frozen? ⟨w1.heap.size, 1, none⟩ = false := HSTX.out.frozen 1 1 rfl
                have l1_ : w1.heap.size < X.heap.size := HSTX.out.lt 1 rfl
                go_wp2
                go_region
                all_goals go_wp2
                all_goals (refine bodyPost_ret (v := .tuple #[.agg #[.int .i64 0, .slice none 0 0], .int .i64 (codeH x.toNat acc)]) (by simp [results, Tryd.results29, go_sem, k0_0, k0_1]) rfl (HistPost.none HNO.out HCF.out ?_); repeat (first | exact HSTX.out.below | (refine Below.setCell ?_ (by dsimp only; omega) _) | refine Below.drew ?_))
            · have hl0' : decide (0 < l'.length) = true := by simp; exact List.length_pos_iff.2 hl0
              have hl0'' : decide ((0 : Int) < ↑l'.length) = true := by simp; exact List.length_pos_iff.2 hl0
              have HCF := Lib.hid (show codeF uP (x :: r) = 2 by rw [codeF_cons, if_neg (by rw [HM.out]; simp), if_neg (by rw [HPL.out]; simp), if_pos (by rw [HPL.out]; exact hl0)])
              have HNO := Lib.hid (show (2 : Int) ≠ 0 by omega)
              clear hl0 hpl1
              obtain ⟨X, hX⟩ : ∃ X, X = wr.setCell ⟨w.heap.size + 1, 1, none⟩ (.int .i64 (2)) := ⟨_, rfl⟩
              have HSTX := Lib.hid (show FbSt w X w1.heap.size x.toNat (v) by rw [hX]; exact HSTr.out.frK (fr_cell _ _ _ _) (by simp <;> omega) (by omega))
              have HSX := Lib.hid (show SrcAt X w.heap.size (w.heap.size + 1) _ (2) by rw [hX]; exact HSR.out.set1 _)
              go_wp2
              rw [← hX]
              clear hX n1 n2 n3
              obtain ⟨n1, n2⟩ := HSX.out.no
              clear k0_0 z0_0 k0_1 z0_1 l0_ k1_0 z1_0 k1_1 z1_1 l1_
              have k0_0 : X.cell? ⟨w.heap.size, 0, none⟩ = some (Value.int .i64 0) := HSTX.out.cell 0 0 rfl rfl
              have z0_0 : X.frozen? ⟨w.heap.size, 0, none⟩ = false := HSTX.out.frozen 0 0 rfl
              have k0_1 : X.cell? ⟨w.heap.size, 1, none⟩ = some (Value.slice none 0 0) := HSTX.out.cell 0 1 rfl rfl
              have z0_1 : X.frozen? ⟨w.heap.size, 1, none⟩ = false := HSTX.out.frozen 0 1 rfl
              have l0_ : w.heap.size < X.heap.size := HSTX.out.lt 0 rfl
              have k1_0 : X.cell? ⟨w1.heap.size, 0, none⟩ = some (Value.int .i64 x.toNat) := HSTX.out.cell 1 0 rfl rfl
              have z1_0 : X.frozen? ⟨w1.heap.size, 0, none⟩ = false := HSTX.out.frozen 1 0 rfl
              have k1_1 : X.cell? ⟨w1.heap.size, 1, none⟩ = some (v) := HSTX.out.cell 1 1 rfl rfl
              have z1_1 : X.frozen? ⟨w1.heap.size, 1, none⟩ = false := HSTX.out.frozen 1 1 rfl
              have l1_ : w1.heap.size < X.heap.size := HSTX.out.lt 1 rfl
              go_wp2
              go_region
              all_goals go_wp2
              all_goals (refine bodyPost_ret (v := .tuple #[.agg #[.int .i64 0, .slice none 0 0], .int .i64 (2)]) (by simp [results, Tryd.results29, go_sem, k0_0, k0_1]) rfl (HistPost.none HNO.out HCF.out ?_); repeat (first | exact HSTX.out.below | (refine Below.setCell ?_ (by dsimp only; omega) _) | refine Below.drew ?_))
        · have HSTr := Lib.hid hst
          have HSR := Lib.hid hsrc
          have HNO := Lib.hid hcc
          have hcc1 : (cc == 0) = false := by simpa using hcc
          have hcc2 : (cc != 0) = true := by simpa using hcc
          have HCF := Lib.hid (show codeF uP (x :: r) = cc by rw [codeF_cons, if_neg (by rw [HM.out]; simp), if_pos (by rw [hpc]; exact hcc), hpc])
          obtain ⟨n1, n2⟩ := HSR.out.no
          clear hst hsrc hcc hpc
          have k0_0 : wr.cell? ⟨w.heap.size, 0, none⟩ = some (Value.int .i64 0) := HSTr.out.cell 0 0 rfl rfl
          have z0_0 : wr.frozen? ⟨w.heap.size, 0, none⟩ = false := HSTr.out.frozen 0 0 rfl
          have k0_1 : wr.cell? ⟨w.heap.size, 1, none⟩ = some (Value.slice none 0 0) := HSTr.out.cell 0 1 rfl rfl
          have z0_1 : wr.frozen? ⟨w.heap.size, 1, none⟩ = false := HSTr.out.frozen 0 1 rfl
          have l0_ : w.heap.size < wr.heap.size := HSTr.out.lt 0 rfl
          have k1_0 : wr.cell? ⟨w1.heap.size, 0, none⟩ = some (Value.int .i64 x.toNat) := HSTr.out.cell 1 0 rfl rfl
          have z1_0 : wr.frozen? ⟨w1.heap.size, 0, none⟩ = false := HSTr.out.frozen 1 0 rfl
          have k1_1 : wr.cell? ⟨w1.heap.size, 1, none⟩ = some (v) := HSTr.out.cell 1 1 rfl rfl
          have z1_1 : wr.frozen? ⟨w1.heap.size, 1, none⟩ = false := HSTr.out.frozen 1 1 rfl
          have l1_ : w1.heap.size < wr.heap.size := HSTr.out.lt 1 rfl
          by_cases hlt : k < M
          · have hlt' : decide (k < M) = true := by simpa using hlt
            go_wp2
            go_region
            all_goals go_wp2
            all_goals (refine bodyPost_ret (v := .tuple #[.agg #[.int .i64 0, .slice none 0 0], .int .i64 (cc)]) (by simp [results, Tryd.results29, go_sem, k0_0, k0_1]) rfl (HistPost.none HNO.out HCF.out ?_); repeat (first | exact HSTr.out.below | (refine Below.setCell ?_ (by dsimp only; omega) _) | refine Below.drew ?_))
          · have hlt' : decide (k < M) = false := by simpa using hlt
            go_wp2
            go_region
            all_goals go_wp2
            all_goals (refine bodyPost_ret (v := .tuple #[.agg #[.int .i64 0, .slice none 0 0], .int .i64 (cc)]) (by simp [results, Tryd.results29, go_sem, k0_0, k0_1]) rfl (HistPost.none HNO.out HCF.out ?_); repeat (first | exact HSTr.out.below | (refine Below.setCell ?_ (by dsimp only; omega) _) | refine Below.drew ?_))
    · have HM := Lib.hid hm
      have hmz := rdN_err r 0 0 hm
      have hm2 : ((rdN 0 0 r).1 == 0) = false := by simpa using hm
      have hm3 : ((rdN 0 0 r).1 != 0) = true := by simpa using hm
      rw [hmz]
      have HCF := Lib.hid (show codeF uP (x :: r) = (rdN 0 0 r).1 by rw [codeF_cons, if_pos hm])
      clear hm hmz
      go_wp2
      refine wp_loop_rounds 1 ?_
      rw [rounds_succ]
      go_wp2
      go_region
      all_goals go_wp2
      all_goals (refine bodyPost_ret (v := .tuple #[.agg #[.int .i64 0, .slice none 0 0], .int .i64 ((rdN 0 0 r).1)]) (by simp [results, Tryd.results29, go_sem, k0_0, k0_1]) rfl (HistPost.none HM.out HCF.out ?_); repeat (first | exact HST2.out.below | (refine Below.setCell ?_ (by dsimp only; omega) _) | refine Below.drew ?_))
end Go.Proofs.YtgmbgclhljobaaaDoor
