/- Package load: users: the crowd: now, set. -/
import Derived.Test.YtajokainammahaaMuldiv
import Derived.Test.YtajokainammahaaFlat
import Derived.Deep.AppendLies
import Derived.Test.YtajokainammahaaRegLast
import Derived.Deep.RegionHeld3
namespace Go.Proofs.Ytajokainammahaa
open Go Go.RowKit Go.Proofs

theorem Try.infoCh : (Try.prog.info? 46).map (fun i => (i.zero, i.size, i.bytes)) = some (some (.agg #[.int .i64 0, .int .i64 0]), 2, 16) := by kernel_rfl
/-- changes as cells -/
def cellC (p : Int × Int) : List Value := [.int .i64 p.1, .int .i64 p.2]
def cellsC (l : List (Int × Int)) : List Value := l.flatMap cellC
theorem cellsC_length (l : List (Int × Int)) : (cellsC l).length = l.length * 2 := flat_length _ 2 (fun _ => rfl) l
theorem cellsC_snoc (l : List (Int × Int)) (p : Int × Int) : cellsC (l ++ [p]) = cellsC l ++ [.int .i64 p.1, .int .i64 p.2] := by simp [cellsC, cellC]
theorem Rd.atC {w : World} {L B n i : Nat} {A : Option Addr} {l : List (Int × Int)} (h : Rd w L B 2 A n (cellsC l)) (hi : i < n) :
    ∃ b o t u, A = some ⟨b, o, none⟩ ∧ L ≤ b ∧ b < B ∧ l[i]? = some (t, u) ∧ w.cell? ⟨b, o + i * 2, none⟩ = some (.int .i64 t) ∧ w.cell? ⟨b, o + i * 2 + 1, none⟩ = some (.int .i64 u) := by
  obtain ⟨b, o, e, hl, hb, hc⟩ := h.2 (by omega)
  have hlen : l.length = n := by have := h.1; rw [cellsC_length] at this; omega
  obtain ⟨⟨t, u⟩, hx⟩ : ∃ p, l[i]? = some p := ⟨l[i]'(by omega), List.getElem?_eq_getElem (by omega)⟩
  have g0 := flat_get cellC 2 (fun _ => rfl) l i 0 (by omega) (t, u) hx
  have g1 := flat_get cellC 2 (fun _ => rfl) l i 1 (by omega) (t, u) hx
  exact ⟨b, o, t, u, e, hl, hb, hx, hc (i * 2) _ g0, by have := hc (i * 2 + 1) _ g1; rwa [← Nat.add_assoc] at this⟩
theorem nowC_at {l : List (Int × Int)} {j : Nat} {t u : Int} (hj : l.length = j + 1) (h : l[j]? = some (t, u)) : nowC l = u := by
  unfold nowC
  rw [List.getLast?_eq_getElem?, hj, Nat.add_sub_cancel, h]; rfl
/-- block P is a crowd, whose changes lie in the slice v -/
structure CrdIn (w : World) (P : Nat) (v : Value) (c : Crd) : Prop where
  box : w.heap[P]? = some (.cells #[v, .int .i64 c.2] 63 (0, 0))
  own : w.ownsRow (P + 1) 46 2 v c.1.length (cellsC c.1)
theorem CrdIn.cells {w : World} {P : Nat} {v : Value} {c : Crd} (h : CrdIn w P v c) : w.cell? ⟨P, 0, none⟩ = some v ∧ w.cell? ⟨P, 1, none⟩ = some (.int .i64 c.2) ∧ w.frozen? ⟨P, 0, none⟩ = false ∧ w.frozen? ⟨P, 1, none⟩ = false ∧ P < w.heap.size :=
  ⟨by rw [cellsAt h.box]; rfl, by rw [cellsAt h.box]; rfl, frozenAt h.box 0, frozenAt h.box 1, heap_lt h.box⟩
theorem CrdIn.drewN {w : World} {P : Nat} {v : Value} {c : Crd} (h : CrdIn w P v c) (n : Nat) : CrdIn (w.drewN n) P v c := ⟨h.box, ownsRow_fr h.own ((Fr.refl (fun _ => False) w).drewN n) (fun _ _ h => h)⟩
theorem CrdIn.on {w w' : World} {P : Nat} {v : Value} {c : Crd} (h : CrdIn w P v c) (hb : Below w.heap.size w w') : CrdIn w' P v c :=
  ⟨(hb.block P (heap_lt h.box)).trans h.box, ownsRow_fr h.own (Fr.of_below hb) (fun i hi hm => by have := (ownsRow_block h.own hi).2; omega)⟩
theorem CrdIn.setSum {w : World} {P : Nat} {v : Value} {c : Crd} (h : CrdIn w P v c) (s : Int) : CrdIn (w.setCell ⟨P, 1, none⟩ (.int .i64 s)) P v (c.1, s) :=
  ⟨by have := h.box; simp [World.setCell, Array.getElem?_modify, this], ownsRow_fr h.own ((Fr.refl (fun i => i = P) w).setCell (fun _ => rfl) _) (fun i hi hm => by have := (ownsRow_block h.own hi).1; omega)⟩
/-- what a function leaves that changes a crowd -/
def CrdPost (w : World) (P : Nat) (v : Value) (c : Crd) (w' : World) : Prop :=
  ∃ v', CrdIn w' P v' c ∧ (∀ i, some i = v'.ownBlock → some i = v.ownBlock ∨ w.heap.size ≤ i) ∧ Fr (fun i => i = P ∨ some i = v.ownBlock) w w'
theorem CrdPost.same {w w' : World} {P : Nat} {v : Value} {c : Crd} (h : CrdIn w P v c) (hb : Below w.heap.size w w') : CrdPost w P v c w' :=
  ⟨v, h.on hb, fun _ h => .inl h, (Fr.of_below hb).mono (fun i hi hm => by omega)⟩
theorem CrdPost.step {w w1 w2 : World} {P : Nat} {v v1 : Value} {c2 : Crd} (ho : ∀ i, some i = v1.ownBlock → some i = v.ownBlock ∨ w.heap.size ≤ i) (hf : Fr (fun i => i = P ∨ some i = v.ownBlock) w w1) (h2 : CrdPost w1 P v1 c2 w2) : CrdPost w P v c2 w2 := by
  obtain ⟨v2, hc, ho2, hf2⟩ := h2
  refine ⟨v2, hc, fun i hi => ?_, hf.trans hf2 (fun i hi hm => ?_)⟩
  · rcases ho2 i hi with h | h
    · exact ho i h
    · exact .inr (by have := hf.size; omega)
  · rcases hm with h | h
    · exact .inl h
    · rcases ho i h with h' | h'
      · exact .inr h'
      · omega
theorem CrdPost.ahead {w w1 w2 : World} {P : Nat} {v : Value} {c c2 : Crd} (h : CrdIn w P v c) (hb : Below w.heap.size w w1) (h2 : CrdPost w1 P v c2 w2) : CrdPost w P v c2 w2 :=
  CrdPost.step (fun _ h => .inl h) ((Fr.of_below hb).mono (fun i hi hm => by omega)) h2
theorem CrdPost.behind {w w1 w2 : World} {P : Nat} {v : Value} {c2 : Crd} (h : CrdPost w P v c2 w1) (hb : Below w1.heap.size w1 w2) : CrdPost w P v c2 w2 := by
  obtain ⟨v1, hc, ho, hf⟩ := h
  exact CrdPost.step ho hf (CrdPost.same hc hb)

set_option maxHeartbeats 1000000 in
set_option maxRecDepth 100000 in
theorem crowdNow_any (P : Nat) (v : Value) (c : Crd) (w : World) (h : CrdIn w P v c) (hl : c.1.length ≤ 1000000000) :
    Calls Try.prog 43 #[.pointer (some ⟨P, 0, none⟩)] w fun e w' => e = .returned (.int .i64 (nowC c.1)) ∧ ∃ n, w' = w.drewN n := by
  obtain ⟨k0, k1, z0, z1, hP⟩ := h.cells
  obtain ⟨A, cap, rfl, hcap, _, _⟩ := ownsRow_shape h.own
  have HRD := Lib.hid (Rd.of_own h.own)
  clear h
  obtain ⟨n, hn⟩ : ∃ n, n = c.1.length := ⟨_, rfl⟩
  rw [← hn] at k0 HRD hl hcap
  rcases n with _ | j
  · have HV := Lib.hid (show nowC c.1 = 0 by rw [List.eq_nil_of_length_eq_zero hn.symm]; rfl)
    clear hn
    go_enter Try.func43, Try.ntmps43
    go_wp2
    go_ret
    exact ⟨by rw [HV.out]; rfl, 0, rfl⟩
  · obtain ⟨b, o, t, u, rfl, _, hb, hx, c0, c1⟩ := HRD.out.atC (show j < j + 1 by omega)
    have HV := Lib.hid (nowC_at hn.symm hx)
    clear hn hx
    go_enter Try.func43, Try.ntmps43
    go_wp2
    go_quiet (fail)
    go_wp2
    go_ret
    exact ⟨by rw [HV.out]; rfl, _, rfl⟩

set_option maxHeartbeats 2000000 in
set_option maxRecDepth 100000 in
theorem crowdSet_any (P : Nat) (v : Value) (c : Crd) (t n : Int) (w : World) (h : CrdIn w P v c) (hl : c.1.length ≤ 1000000000) (hs0 : 0 ≤ c.2) (hs : c.2 ≤ 1000000000000) (hnw : 0 ≤ nowC c.1 ∧ nowC c.1 ≤ 1000000) (hn0 : 0 ≤ n) (hn : n ≤ 1000000) :
    Calls Try.prog 24 #[.pointer (some ⟨P, 0, none⟩), .int .i64 t, .int .i64 n] w fun e w' => e = .returned (.tuple #[]) ∧ CrdPost w P v (setC c t n) w' := by
  obtain ⟨ii, hii, hiz0, hiz1, hiz2⟩ := info_parts Try.infoCh
  have HNW := Lib.hid (fun W (h : CrdIn W P v c) => crowdNow_any P v c W h hl)
  have HC := Lib.hid h
  have HSE := Lib.hid (setC.eq_1 c t n)
  obtain ⟨m, hm⟩ : ∃ m, m = nowC c.1 := ⟨_, rfl⟩
  rw [← hm] at HNW HSE hnw
  have HNB := Lib.hid (fun W (h : CrdIn W P v c) => (HNW.out W h).mono (R' := fun e w' => e = .returned (.int .i64 m) ∧ Below W.heap.size W w') (fun e w' ⟨he, q, hq⟩ => ⟨he, by rw [hq]; exact below_drewN (Below.refl _ W) q⟩))
  clear hm h
  by_cases hnm : n = m
  · subst hnm
    rw [if_pos rfl] at HSE
    have t1 : (n == n) = true := by simp
    go_enter Try.func24, Try.ntmps24
    go_wp2_with fail
    refine (HNW.out _ HC.out).mono ?_
    rintro e w1 ⟨rfl, q, rfl⟩
    go_wp2
    refine bodyPost_ret (v := .tuple #[]) (by simp [results, Try.results24, go_sem]) rfl ⟨rfl, ?_⟩
    rw [HSE.out]; exact CrdPost.same HC.out (below_drewN (Below.refl _ w) q)
  · rw [if_neg hnm] at HSE
    have t1 : (n == m) = false := by simpa using hnm
    go_enter Try.func24, Try.ntmps24
    go_wp2_with fail
    refine (HNW.out _ HC.out).mono ?_
    rintro e w1 ⟨rfl, q, rfl⟩
    have HC1 := Lib.hid (HC.out.drewN q)
    obtain ⟨k0, k1, z0, z1, hP⟩ := HC1.out.cells
    obtain ⟨W1, hW1⟩ : ∃ W1, W1 = w.drewN q := ⟨_, rfl⟩
    have HB1 := Lib.hid (show Below w.heap.size w W1 by rw [hW1]; exact below_drewN (Below.refl _ w) q)
    rw [← hW1] at HC1 k0 k1 z0 z1 hP ⊢
    clear hW1
    go_wp2_with fail
    -- REGION
    have HKS := Lib.hid (show ∀ X, Below W1.heap.size W1 X → (fun X => X.cell? ⟨P, 1, none⟩ = some (.int .i64 c.2) ∧ CrdIn X P v c ∧ Below W1.heap.size W1 X) X from fun X hX => ⟨(HC1.out.on hX).cells.2.1, HC1.out.on hX, hX⟩)
    refine wp_region_last (init := #[_, _, _, _, _, _, _, _, _, _, _, _, _, _, _, _]) (last := _) rfl (by kernel_rfl) (by kernel_rfl) (by kernel_rfl) ?_
    show wpAny _ _ _ _ 16 (Array.replicate 16 false) _ _
    refine wpAny_last (init := #[_, _, _, _, _, _, _, _, _, _, _, _, _, _, _]) (last := _) (listed := #[false, false, false, false, false, false, false, false, false, false, false, false, false, false, false]) (fuel := 15) [] rfl rfl (by kernel_rfl) (by kernel_rfl) rfl (by kernel_rfl) rfl ?_
    refine wpAny_last (init := #[_, _, _, _, _, _, _, _, _, _, _, _, _, _]) (last := _) (listed := #[false, false, false, false, false, false, false, false, false, false, false, false, false, false]) (fuel := 14) [] rfl rfl (by kernel_rfl) (by kernel_rfl) rfl (by kernel_rfl) rfl ?_
    refine wpAny_of_held (S := (fun X => X.cell? ⟨P, 1, none⟩ = some (.int .i64 c.2) ∧ CrdIn X P v c ∧ Below W1.heap.size W1 X)) _ _ _ _ ?_
    have HS0 := HKS.out _ (Below.refl _ W1).drew
    refine wpAnyH_take (i := 0) (v := ?_) rfl (by kernel_rfl) (by kernel_rfl) (by kernel_rfl) (fun _ _ _ h => h) (Or.inl ⟨by rfl, ?_⟩) HS0 ?_
    rotate_left
    · intro W hW; (try dsimp only at hW); go_simp; try (with_reducible rfl)
    (try simp only [List.getElem_toArray, List.getElem_cons_succ, List.getElem_cons_zero, Act.put, List.setIfInBounds_toArray, List.set_cons_zero, List.set_cons_succ])
    refine wpAnyH_take (i := 1) (v := ?_) rfl (by kernel_rfl) (by kernel_rfl) (by kernel_rfl) (fun _ _ _ h => h) (Or.inl ⟨by rfl, ?_⟩) HS0 ?_
    rotate_left
    · intro W hW; (try dsimp only at hW); go_simp; try (with_reducible rfl)
    (try simp only [List.getElem_toArray, List.getElem_cons_succ, List.getElem_cons_zero, Act.put, List.setIfInBounds_toArray, List.set_cons_zero, List.set_cons_succ])
    refine wpAnyH_take (i := 2) (v := ?_) rfl (by kernel_rfl) (by kernel_rfl) (by kernel_rfl) (fun _ _ _ h => h) (Or.inl ⟨by rfl, ?_⟩) HS0 ?_
    rotate_left
    · intro W hW; (try dsimp only at hW); go_simp; try (with_reducible rfl)
    (try simp only [List.getElem_toArray, List.getElem_cons_succ, List.getElem_cons_zero, Act.put, List.setIfInBounds_toArray, List.set_cons_zero, List.set_cons_succ])
    refine wpAnyH_take (i := 3) (v := ?_) rfl (by kernel_rfl) (by kernel_rfl) (by kernel_rfl) (fun _ _ _ h => h) (Or.inl ⟨by rfl, ?_⟩) HS0 ?_
    rotate_left
    · intro W hW; (try dsimp only at hW); go_simp; try (with_reducible rfl)
    (try simp only [List.getElem_toArray, List.getElem_cons_succ, List.getElem_cons_zero, Act.put, List.setIfInBounds_toArray, List.set_cons_zero, List.set_cons_succ])
    refine wpAnyH_take (i := 4) (v := ?_) rfl (by kernel_rfl) (by kernel_rfl) (by kernel_rfl) (fun _ _ _ h => h) (Or.inl ⟨by rfl, ?_⟩) HS0 ?_
    rotate_left
    · intro W hW; (try dsimp only at hW); go_simp; try (with_reducible rfl)
    (try simp only [List.getElem_toArray, List.getElem_cons_succ, List.getElem_cons_zero, Act.put, List.setIfInBounds_toArray, List.set_cons_zero, List.set_cons_succ])
    refine wpAnyH_take (i := 5) (v := ?_) rfl (by kernel_rfl) (by kernel_rfl) (by kernel_rfl) (fun _ _ _ h => h) (Or.inl ⟨by rfl, ?_⟩) HS0 ?_
    rotate_left
    · intro W hW; (try dsimp only at hW); go_simp; try (with_reducible rfl)
    (try simp only [List.getElem_toArray, List.getElem_cons_succ, List.getElem_cons_zero, Act.put, List.setIfInBounds_toArray, List.set_cons_zero, List.set_cons_succ])
    refine wpAnyH_take (i := 8) (v := ?_) rfl (by kernel_rfl) (by kernel_rfl) (by kernel_rfl) (fun _ _ _ h => h) (Or.inl ⟨by rfl, ?_⟩) HS0 ?_
    rotate_left
    · intro W hW; (try dsimp only at hW); go_simp; try (with_reducible rfl)
    (try simp only [List.getElem_toArray, List.getElem_cons_succ, List.getElem_cons_zero, Act.put, List.setIfInBounds_toArray, List.set_cons_zero, List.set_cons_succ])
    refine wpAnyH_take (i := 10) (v := ?_) rfl (by kernel_rfl) (by kernel_rfl) (by kernel_rfl) (fun _ _ _ h => h) (Or.inl ⟨by rfl, ?_⟩) HS0 ?_
    rotate_left
    · intro W hW; (try dsimp only at hW); go_simp; try (with_reducible rfl)
    (try simp only [List.getElem_toArray, List.getElem_cons_succ, List.getElem_cons_zero, Act.put, List.setIfInBounds_toArray, List.set_cons_zero, List.set_cons_succ])
    refine run_one (i := 6) (by kernel_rfl) rfl rfl ?_
    intro K hK
    go_simp
    refine (HNB.out _ HS0.2.1).mono ?_
    rintro e w3 ⟨rfl, hb3⟩
    refine hK.out _ _ (HKS.out _ (below_next HS0.2.2 hb3)) ?_
    clear hK K HS0
    intro HS0
    refine wpAnyH_take (i := 7) (v := ?_) rfl (by kernel_rfl) (by kernel_rfl) (by kernel_rfl) (fun _ _ _ h => h) (Or.inl ⟨by rfl, ?_⟩) HS0 ?_
    rotate_left
    · intro W hW; (try dsimp only at hW); go_simp; try (with_reducible rfl)
    (try simp only [List.getElem_toArray, List.getElem_cons_succ, List.getElem_cons_zero, Act.put, List.setIfInBounds_toArray, List.set_cons_zero, List.set_cons_succ])
    refine run_one (i := 9) (by kernel_rfl) rfl rfl ?_
    intro K hK
    go_simp
    refine (HNB.out _ HS0.2.1).mono ?_
    rintro e w4 ⟨rfl, hb4⟩
    refine hK.out _ _ (HKS.out _ (below_next HS0.2.2 hb4)) ?_
    clear hK K HS0
    intro HS0
    refine wpAnyH_take (i := 11) (v := ?_) rfl (by kernel_rfl) (by kernel_rfl) (by kernel_rfl) (fun _ _ _ h => h) (Or.inl ⟨by rfl, ?_⟩) HS0 ?_
    rotate_left
    · intro W hW; (try dsimp only at hW); go_simp; try (with_reducible rfl)
    (try simp only [List.getElem_toArray, List.getElem_cons_succ, List.getElem_cons_zero, Act.put, List.setIfInBounds_toArray, List.set_cons_zero, List.set_cons_succ])
    refine wpAnyH_take (i := 12) (v := ?_) rfl (by kernel_rfl) (by kernel_rfl) (by kernel_rfl) (fun _ _ _ h => h) (Or.inl ⟨by rfl, ?_⟩) HS0 ?_
    rotate_left
    · intro W hW; (try dsimp only at hW); go_simp; try (with_reducible rfl)
    (try simp only [List.getElem_toArray, List.getElem_cons_succ, List.getElem_cons_zero, Act.put, List.setIfInBounds_toArray, List.set_cons_zero, List.set_cons_succ])
    refine wpAnyH_take (i := 13) (v := ?_) rfl (by kernel_rfl) (by kernel_rfl) (by kernel_rfl) (fun _ _ _ h => h) (Or.inl ⟨by rfl, ?_⟩) HS0 ?_
    rotate_left
    · intro W hW; (try dsimp only at hW); go_simp; try (with_reducible rfl)
    (try simp only [List.getElem_toArray, List.getElem_cons_succ, List.getElem_cons_zero, Act.put, List.setIfInBounds_toArray, List.set_cons_zero, List.set_cons_succ])
    refine wpAnyH_done (by kernel_rfl) ?_ _
    -- END
    have HS1 := Lib.hid HS0
    clear HS0 k0 k1 z0 z1 hP
    obtain ⟨k0, k1, z0, z1, hP⟩ := HS1.out.2.1.cells
    have hw1 : IntKind.i64.wrap (n - m) = n - m := IntWalk.i64_in _ (by omega)
    have hw2 : IntKind.i64.wrap (m - n) = m - n := IntWalk.i64_in _ (by omega)
    have hw3 : IntKind.i64.wrap (c.snd + max (n - m) (m - n)) = c.snd + max (n - m) (m - n) := IntWalk.i64_in _ (by omega)
    rw [hw1, hw2, hw3]
    clear hw1 hw2 hw3
    simp only [LastQ]
    go_simp
    have HC5 := Lib.hid (HS1.out.2.1.setSum (c.snd + max (n - m) (m - n)))
    have HF5 := Lib.hid (show Fr (fun i => i = P ∨ some i = v.ownBlock) w (w4.setCell ⟨P, 1, none⟩ (.int .i64 (c.snd + max (n - m) (m - n)))) from ((Fr.of_below (below_next HB1.out HS1.out.2.2)).mono (fun i hi hm => by omega)).setCell (fun _ => .inl rfl) _)
    obtain ⟨W5, hW5⟩ : ∃ W5, W5 = w4.setCell ⟨P, 1, none⟩ (.int .i64 (c.snd + max (n - m) (m - n))) := ⟨_, rfl⟩
    rw [← hW5] at HC5 HF5 ⊢
    clear hW5 k0 k1 z0 z1 hP
    obtain ⟨k0, k1, z0, z1, hP⟩ := HC5.out.cells
    go_wp2_with (at_builtin; refine wpList_append_lies _ rfl (.tmp 30) (.tmp 34) 37 rfl (P + 1) 46 ii _ 2 16 Try.underlying37 hii hiz0 hiz1 hiz2 rfl (by decide) v c.1.length (cellsC c.1) rfl (HC5.out.own.alloc _) ⟨W5.heap.size, 0, none⟩ 1 1 [.int .i64 t, .int .i64 n] rfl rfl (cell_two_new _ _ _ _) (by simp [Value.oneCell']) (by omega) (by unfold maxLen; omega) (by omega) (by simp; omega) (W5.heap.size + 1) (by simp) ?_)
    intro g cap W6 hown6 hgr6 hat6 hlt6
    have hgP : ∀ i, some i = v.ownBlock → P + 1 ≤ i := fun i hi => (ownsRow_block HC5.out.own hi).1
    have hbox6 : W6.heap[P]? = some (.cells #[v, .int .i64 (c.snd + max (n - m) (m - n))] 63 (0, 0)) := (hgr6.block P (by simp; omega) (fun hm => by have := hgP P hm; omega)).trans ((Below.heap_alloc W5 _ _ hP).trans HC5.out.box)
    have HF6 := Lib.hid (show Fr (fun i => i = P ∨ some i = v.ownBlock) w W6 from (HF5.out.alloc _).trans (Fr.of_grown hgr6) (fun i _ hm => .inr hm))
    have hgne : g ≠ P := by
      rcases hat6 with h | h
      · have := hgP g h.symm; omega
      · omega
    have HG := Lib.hid (show ∀ i, some i = (Value.slice (some ⟨g, 0, none⟩) (c.1.length + 1) cap).ownBlock → some i = v.ownBlock ∨ w.heap.size ≤ i from fun i hi => by
      have hi : i = g := by simpa [Value.ownBlock] using hi
      subst hi
      rcases hat6 with h | h
      · exact .inl h.symm
      · have := HF5.out.size; exact .inr (by omega))
    have HO6 := Lib.hid hown6
    clear k0 k1 z0 z1 hP hown6 hgr6 hat6 hgP
    have k0 : W6.cell? ⟨P, 0, none⟩ = some v := by rw [cellsAt hbox6]; rfl
    have z0 : W6.frozen? ⟨P, 0, none⟩ = false := frozenAt hbox6 0
    have HBX := Lib.hid hbox6
    clear hbox6
    go_wp2
    go_end0
    refine ⟨rfl, .slice (some ⟨g, 0, none⟩) (c.1.length + 1) cap, ⟨?_, ?_⟩, HG.out, HF6.out.setCell (fun _ => .inl rfl) _⟩
    · rw [HSE.out]
      have := HBX.out
      simp [World.setCell, Array.getElem?_modify, this]
    · rw [HSE.out]
      simp only [List.length_append, List.length_singleton, cellsC_snoc]
      exact ownsRow_fr HO6.out ((Fr.refl (fun i => i = P) W6).setCell (fun _ => rfl) _) (fun i hi hm => by
        have hi : i = g := by simpa [Value.ownBlock] using hi
        exact hgne (hi.symm.trans hm))
end Go.Proofs.Ytajokainammahaa
