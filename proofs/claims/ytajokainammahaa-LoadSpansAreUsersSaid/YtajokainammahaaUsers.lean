/- Package load: Users. -/
import Derived.Test.YtajokainammahaaStage
namespace Go.Proofs.Ytajokainammahaa
open Go Go.RowKit Go.Proofs

theorem runC_snoc : ∀ (l : List (Int × Int × Int)) (s : Int × Int × Int) (b : Int) (c : Crd), runC (l ++ [s]) b c = (stageC (runC l b c).1 s (runC l b c).2, (runC l b c).2 + s.1)
  | [], s, b, c => rfl
  | x :: r, s, b, c => by rw [List.cons_append, runC, runC, runC_snoc r]
theorem runC_take {l : List (Int × Int × Int)} {k : Nat} {s : Int × Int × Int} (h : l[k]? = some s) : runC (l.take (k + 1)) 0 ([], 0) = (stageC (runC (l.take k) 0 ([], 0)).1 s (runC (l.take k) 0 ([], 0)).2, (runC (l.take k) 0 ([], 0)).2 + s.1) := by
  rw [List.take_add_one, h]; exact runC_snoc _ _ _ _
theorem runC_len : ∀ (l : List (Int × Int × Int)) (b : Int) (c : Crd), (runC l b c).2 = b + lenS l
  | [], b, c => by simp [runC, lenS]
  | x :: r, b, c => by rw [runC, runC_len r]; simp [lenS]; omega
theorem OkS.u {s : Int × Int × Int} (h : OkS s) : OkU s := h
/-- what the crowd is behind some stages -/
structure RunOk (l : List (Int × Int × Int)) (k : Nat) (c : Crd) (b : Int) : Prop where
  eq : runC (l.take k) 0 ([], 0) = (c, b)
  asc : Asc c.1 b
  s0 : 0 ≤ c.2
  s1 : c.2 ≤ k * 2010000
  len : (c.1.length : Int) ≤ c.2
  b0 : 0 ≤ b
theorem run_zero (l : List (Int × Int × Int)) : RunOk l 0 ([], 0) 0 := ⟨rfl, ⟨fun i j a b _ h => by simp at h, fun a h => by simp at h, fun a h => by simp at h⟩, Int.le_refl _, by simp, by simp, Int.le_refl _⟩
theorem run_next {l : List (Int × Int × Int)} {k : Nat} {c : Crd} {b : Int} {s : Int × Int × Int} (h : RunOk l k c b) (hs : l[k]? = some s) (ho : OkU s) : RunOk l (k + 1) (stageC c s b) (b + s.1) := by
  have h1 := stage_asc ho h.b0 h.asc
  have h2 := stage_le ho h.b0 h.asc h.len h.s0
  have h3 := h.s0
  have h4 := h.s1
  have h5 := h.b0
  have h6 := ho.1
  refine ⟨by rw [runC_take hs, h.eq], h1.1, by omega, by omega, h2.2, by omega⟩
/-- what Users returns -/
def usrC (l : List (Int × Int × Int)) : Int := if codeS l ≠ 0 then codeS l else if 10000 < (usersC l).2 then 3 else 0
def usrL (l : List (Int × Int × Int)) : List (Int × Int) := if usrC l = 0 then (usersC l).1 else []
theorem users_of {l : List (Int × Int × Int)} {c : Crd} {b : Int} (h : RunOk l l.length c b) : usersC l = setC c b 0 := by
  have := h.eq
  rw [List.take_length] at this
  unfold usersC
  rw [this]
theorem run_b {l : List (Int × Int × Int)} {k : Nat} {c : Crd} {b : Int} (h : RunOk l k c b) : b = lenS (l.take k) := by
  have := runC_len (l.take k) 0 ([], 0)
  rw [h.eq] at this
  simpa using this

set_option maxHeartbeats 1000000 in
set_option maxRecDepth 100000 in
theorem clipC_any (A : Option Addr) (n c : Nat) (w : World) (hc : n ≤ c) (hcm : c ≤ maxLen) (hA : A = none → n = 0 ∧ c = 0) :
    Calls Try.prog 25 #[.slice A n c] w fun e w' => e = .returned (.slice A n n) ∧ w = w' := by
  cases A with
  | none =>
    obtain ⟨rfl, rfl⟩ := hA rfl
    go_enter Try.func25, Try.ntmps25
    go_wp2
    go_ret
    exact ⟨rfl, rfl⟩
  | some a =>
    obtain ⟨b, o, sp⟩ := a
    go_enter Try.func25, Try.ntmps25
    go_wp2
    go_ret
    exact ⟨rfl, rfl⟩

set_option maxHeartbeats 4000000 in
set_option maxRecDepth 100000 in
theorem users_any (A : Option Addr) (c : Nat) (l : List (Int × Int × Int)) (w : World) (hr : Rd w 0 w.heap.size 3 A l.length (cells3 l)) (hl : l.length ≤ 9223372036854775807) :
    Calls Try.prog 14 #[.slice A l.length c] w fun e w' => ∃ A' c', e = .returned (.tuple #[.slice A' (usrL l).length c', .int .i64 (usrC l)]) ∧ Rd w' w.heap.size w'.heap.size 2 A' (usrL l).length (cellsC (usrL l)) ∧ Below w.heap.size w w' := by
  have HCK := Lib.hid (loadCheck_any A c l w hr hl)
  have HR := Lib.hid hr
  have HUL := Lib.hid (usrL.eq_1 l)
  clear hr
  by_cases hc : codeS l = 0
  · have hok := codeS_ok hc
    rw [hc] at HCK
    have HA := Lib.hid (show usrC l = if 10000 < (usersC l).2 then 3 else 0 from (usrC.eq_1 l).trans (if_neg (by rw [hc]; simp)))
    have hn := hok.le
    have HOK := Lib.hid hok.ok
    have HSUM := Lib.hid (fun k => (lenS_bd (l := l.take k) (fun s hs => hok.ok s (List.mem_of_mem_take hs))))
    clear hok hc
    go_enter Try.func14, Try.ntmps14
    go_wp2_with fail
    refine HCK.out.mono ?_
    rintro e w1 ⟨rfl, hb1⟩
    have HB1 := Lib.hid hb1
    have hs1 := hb1.size
    clear hb1
    obtain ⟨W1, hW1⟩ : ∃ W1, W1 = w1.alloc (.cells #[.slice none 0 0, .int .i64 0] 63) := ⟨_, rfl⟩
    have hbx : W1.heap[w1.heap.size]? = some (.cells #[.slice none 0 0, .int .i64 0] 63 (0, 0)) := by rw [hW1]; exact alloc_at _ _ _ rfl
    have HC1 := Lib.hid (show CrdIn W1 w1.heap.size (.slice none 0 0) ([], 0) from ⟨hbx, ⟨rfl, .inl ⟨rfl, rfl⟩⟩⟩)
    have hsW1 : W1.heap.size = w1.heap.size + 1 := by rw [hW1]; simp
    have HBW1 := Lib.hid (show Below w.heap.size w W1 by rw [hW1]; exact below_next HB1.out ((Below.refl _ w1).alloc (Nat.le_refl _) _))
    have HPB := Lib.hid (fun (W : World) (hf : Fr (fun i => i = w1.heap.size ∨ some i = (Value.slice none 0 0).ownBlock) W1 W) => show Below w.heap.size w W from by
      refine HBW1.out.trans (hf.below (by omega) (fun i hi hm => ?_))
      rcases hm with h | h
      · omega
      · exact absurd h (by simp [Value.ownBlock]))
    clear hbx
    go_wp2_with fail
    rw [← hW1]
    clear hW1
    go_loopw [6, 8, 18] (fun av _ iv wr => ∃ (k : Nat) (cc : Crd) (b : Int), iv = .int .i64 k ∧ k ≤ l.length ∧ av = .int .i64 b ∧ RunOk l k cc b ∧ CrdPost W1 w1.heap.size (.slice none 0 0) cc wr) (fun _ _ iv _ => l.length - (intOf iv).toNat)
    case atStart => exact ⟨0, ([], 0), 0, rfl, Nat.zero_le _, rfl, run_zero l, CrdPost.same HC1.out (Below.refl _ _)⟩
    case round =>
      obtain ⟨k, cc, b, rfl, hk, rfl, hrun, hpost⟩ := hrel
      obtain ⟨v1, hc1, ho1, hf1⟩ := hpost
      have hbw := HPB.out wr hf1
      have HCR := Lib.hid hc1
      have HO := Lib.hid ho1
      have HF := Lib.hid hf1
      have HRU := Lib.hid hrun
      have hb := run_b hrun
      have hsum := HSUM.out k
      rw [← hb, List.length_take] at hsum
      have hb0 := hrun.b0
      have hb1 : b ≤ 5000000000000 := by omega
      have hs0 := hrun.s0
      have hs1 := hrun.s1
      have hlen := hrun.len
      have hnow := hrun.asc.now
      have hPr := heap_lt hc1.box
      have hown := fun i (hi : some i = v1.ownBlock) => (ownsRow_block hc1.own hi).2
      by_cases hlt : k < l.length
      · obtain ⟨bk, o, F, x, y, rfl, _, hbk, hx, q0, q1, q2⟩ := (HR.out.old hbw).at3 hlt
        have hm := HOK.out _ (List.mem_of_getElem? hx)
        have HRN := Lib.hid (run_next HRU.out hx hm.u)
        have hF := hm.1
        have hF2 := hm.2.1
        simp only at hF hF2
        obtain ⟨W2, hW2⟩ : ∃ W2, W2 = wr.alloc (.cells #[.int .i64 F, .int .i64 x, .int .i64 y] 53) := ⟨_, rfl⟩
        have hb2 : Below wr.heap.size wr W2 := by rw [hW2]; exact (Below.refl _ wr).alloc (Nat.le_refl _) _
        have hs2 : W2.heap.size = wr.heap.size + 1 := by rw [hW2]; simp
        have hbx2 : W2.heap[wr.heap.size]? = some (.cells #[.int .i64 F, .int .i64 x, .int .i64 y] 53 (0, 0)) := by rw [hW2]; exact alloc_at _ _ _ rfl
        have HSG := Lib.hid (crowdStage_any w1.heap.size v1 cc F x y b W2 (hc1.on hb2) hm.u hb0 (by omega) hrun.asc hs0 hlen (by omega))
        have HB2 := Lib.hid hb2
        have HBX := Lib.hid (fun (W : World) (hf : Fr (fun i => i = w1.heap.size ∨ some i = v1.ownBlock) W2 W) => show W.heap[wr.heap.size]? = some (.cells #[.int .i64 F, .int .i64 x, .int .i64 y] 53 (0, 0)) from (hf.block _ (by omega) (fun hm => by
          rcases hm with h1 | h1
          · omega
          · have := hown _ h1; omega)).trans hbx2)
        clear hrun hc1 ho1 hf1 hbw hb hsum hx hm hb2 hown hnow hbx2
        go_wp2_with fail
        rw [← hW2]
        clear hW2 q0 q1 q2
        refine HSG.out.mono ?_
        rintro e w3 ⟨rfl, hp3⟩
        obtain ⟨v3, hc3, ho3, hf3⟩ := hp3
        have hbx3 := HBX.out w3 hf3
        have d0 : w3.cell? ⟨wr.heap.size, 0, none⟩ = some (.int .i64 F) := by rw [cellsAt hbx3]; rfl
        have HP3 := Lib.hid (CrdPost.step HO.out HF.out (CrdPost.ahead HCR.out HB2.out ⟨v3, hc3, ho3, hf3⟩))
        clear hc3 ho3 hf3 hbx3
        go_wp2
        go_roundw
        case rel => exact ⟨k + 1, stageC cc (F, x, y) b, b + F, by go_num, by omega, rfl, HRN.out, HP3.out⟩
        case measure => simp [intOf]; omega
      · obtain rfl : k = l.length := by omega
        have HUS := Lib.hid (users_of hrun)
        have HST := Lib.hid (crowdSet_any w1.heap.size v1 cc b 0 wr hc1 (by omega) hs0 (by omega) hnow (Int.le_refl _) (by omega))
        have hsl := setC_len cc b 0
        rw [← HUS.out] at HST hsl
        clear hrun hc1 ho1 hf1 hbw hb hsum hown hnow
        go_wp2_with fail
        refine HST.out.mono ?_
        rintro e w4 ⟨rfl, hp4⟩
        obtain ⟨v4, hc4, ho4, hf4⟩ := CrdPost.step HO.out HF.out hp4
        have HBE := Lib.hid (HPB.out w4 hf4)
        obtain ⟨k0, k1, z0, z1, hP4⟩ := hc4.cells
        obtain ⟨A4, c4, rfl, hcap, hcm, hA4⟩ := ownsRow_shape hc4.own
        have HRD := Lib.hid ((Rd.of_own hc4.own).more (show w.heap.size ≤ w1.heap.size + 1 by omega) (Nat.le_refl _))
        clear hp4 hc4 ho4 hf4
        by_cases hbig : 10000 < (usersC l).2
        · have t1 : decide (10000 < (usersC l).2) = true := by simpa using hbig
          have HE := Lib.hid (show usrC l = 3 from HA.out.trans (if_pos hbig))
          have HEL := Lib.hid (show usrL l = [] by rw [HUL.out, HE.out, if_neg (by omega)])
          go_wp2
          go_ret2
          exact ⟨none, 0, by rw [HE.out, HEL.out]; rfl, by rw [HEL.out]; exact Rd.nil, HBE.out⟩
        · have t1 : decide (10000 < (usersC l).2) = false := by simpa using hbig
          have HE := Lib.hid (show usrC l = 0 from HA.out.trans (if_neg hbig))
          have HEL := Lib.hid (show usrL l = (usersC l).1 by rw [HUL.out, HE.out, if_pos rfl])
          have HCL := Lib.hid (fun W => clipC_any A4 (usersC l).1.length c4 W hcap hcm hA4)
          go_wp2_with fail
          refine (HCL.out _).mono ?_
          rintro e w5 ⟨rfl, rfl⟩
          go_wp2
          go_ret2
          exact ⟨A4, (usersC l).1.length, by rw [HE.out, HEL.out]; rfl, by rw [HEL.out]; exact HRD.out, HBE.out⟩
  · obtain ⟨cc, hcc⟩ : ∃ cc, cc = codeS l := ⟨_, rfl⟩
    have HE := Lib.hid (show usrC l = cc from (usrC.eq_1 l).trans ((if_pos hc).trans hcc.symm))
    rw [← hcc] at HCK hc
    have t1 : (cc != 0) = true := by simpa using hc
    have HEL := Lib.hid (show usrL l = [] by rw [HUL.out, HE.out, if_neg hc])
    clear hcc
    go_enter Try.func14, Try.ntmps14
    go_wp2_with fail
    refine HCK.out.mono ?_
    rintro e w1 ⟨rfl, hb1⟩
    go_wp2
    go_ret2
    exact ⟨none, 0, by rw [HE.out, HEL.out]; rfl, by rw [HEL.out]; exact Rd.nil, hb1⟩
end Go.Proofs.Ytajokainammahaa
