/- merged of the program and joined of the reference: the histogram of several cells. -/
import Derived.Test.YtgmbgclhljobaaaDoorSerChk
import Derived.Test.YtgmbgclhljobaaaDoorRMerge
import Derived.Test.YtgmbgclhljobaaaDoorTell
import Derived.Deep.CutRange
namespace Go.Proofs.YtgmbgclhljobaaaDoor
open Go Go.RowKit Go.Proofs Go.Maps

theorem bel_alloc {W X : World} (h : Below W.heap.size W X) (o : Obj) : Below W.heap.size W (X.alloc o) := h.alloc h.size o
theorem bel_set {W X : World} (h : Below W.heap.size W X) {p : Addr} (hp : W.heap.size ≤ p.block) (u : Value) : Below W.heap.size W (X.setCell p u) := h.setCell hp u
theorem new_box {W w3 : World} {x y : Value} {t : TypeId} (h : Below (W.alloc (.cells #[x, y] t)).drew.heap.size (W.alloc (.cells #[x, y] t)).drew w3) :
    w3.cell? ⟨W.heap.size, 0, none⟩ = some x ∧ w3.cell? ⟨W.heap.size, 1, none⟩ = some y ∧ w3.frozen? ⟨W.heap.size, 0, none⟩ = false ∧ w3.frozen? ⟨W.heap.size, 1, none⟩ = false := by
  have nb : w3.heap[W.heap.size]? = some (.cells #[x, y] t (0, 0)) := (h.block _ (by show W.heap.size < (W.alloc _).heap.size; simp)).trans (alloc_at _ _ _ rfl)
  exact ⟨by rw [cellsAt nb]; rfl, by rw [cellsAt nb]; rfl, frozenAt nb 0, frozenAt nb 1⟩
theorem new_box' {X w3 : World} (x y : Value) (t : TypeId) (W : World) (h : Below X.heap.size X w3) (e : X = (W.alloc (.cells #[x, y] t)).drew) :
    w3.cell? ⟨W.heap.size, 0, none⟩ = some x ∧ w3.cell? ⟨W.heap.size, 1, none⟩ = some y ∧ w3.frozen? ⟨W.heap.size, 0, none⟩ = false ∧ w3.frozen? ⟨W.heap.size, 1, none⟩ = false := by
  subst e; exact new_box h
theorem St.two {w w' : World} {bs : List (Nat × Obj)} (h : St w w' bs) (i : Nat) {b : Nat} {x y : Value} {t : TypeId} (hi : bs[i]? = some (b, .cells #[x, y] t (0, 0))) :
    w'.cell? ⟨b, 0, none⟩ = some x ∧ w'.cell? ⟨b, 1, none⟩ = some y ∧ w'.frozen? ⟨b, 0, none⟩ = false ∧ w'.frozen? ⟨b, 1, none⟩ = false ∧ b < w'.heap.size :=
  ⟨h.cell i 0 hi rfl, h.cell i 1 hi rfl, h.frozen i 0 hi, h.frozen i 1 hi, h.lt i hi⟩

/-- the error, and the counts, of several cells together -/
noncomputable def mgStep (st : Int × List (Int × Int)) (c : List (Int × Int)) : Int × List (Int × Int) :=
  if st.1 = 0 then (if codeM st.2 c = 0 then (0, histOf (sumAt id (st.2 ++ c))) else (codeM st.2 c, [])) else st
noncomputable def mgAll (l : List (List (Int × Int))) : Int × List (Int × Int) := l.foldl mgStep (0, [])
theorem mgAll_snoc (l : List (List (Int × Int))) (c : List (Int × Int)) : mgAll (l ++ [c]) = mgStep (mgAll l) c := by simp [mgAll, List.foldl_append]
theorem mgAll_bad (l m : List (List (Int × Int))) (h : (mgAll l).1 ≠ 0) : mgAll (l ++ m) = mgAll l := by
  unfold mgAll at *
  rw [List.foldl_append]
  generalize l.foldl mgStep (0, []) = st at *
  induction m generalizing st with
  | nil => rfl
  | cons c m ih =>
    rw [List.foldl_cons]
    have : mgStep st c = st := by unfold mgStep; rw [if_neg h]
    rw [this]; exact ih st h
def csL (l : List Hg) : List (List (Int × Int)) := l.map (·.cs)
theorem csL_take (l : List Hg) (k : Nat) (s : Hg) (h : l[k]? = some s) : csL (l.take (k + 1)) = csL (l.take k) ++ [s.cs] := by
  unfold csL; rw [List.take_add_one, h]; simp
theorem hist_ex (ds : List (Int × Int)) (h : ∀ c ∈ ds, 0 ≤ c.2) : ∃ cs, IsHist (sumAt id ds) cs := by
  have key : ∀ l : List (Int × Int), (∀ c ∈ l, 0 ≤ c.2) → ∃ cs, IsHist (sumAt id l.reverse) cs := by
    intro l
    induction l with
    | nil => intro _; exact ⟨[], ⟨List.Pairwise.nil, fun x n => by simp [sumAt]; omega⟩⟩
    | cons c l ih =>
      intro h
      obtain ⟨cs, hcs⟩ := ih (fun x hx => h x (by simp [hx]))
      refine ⟨moreL c.1 c.2 cs, ?_⟩
      have h2 := sumAt_snoc id l.reverse c.1 c.2
      rw [List.reverse_cons, show [c] = [(c.1, c.2)] from rfl, ← h2]
      exact more_hist hcs (fun x => (sumAt_bd id _ x (fun y hy => h y (by simp at hy; simp [hy]))).1) c.1 c.2 (h c (by simp))
  have := key ds.reverse (fun c hc => h c (by simpa using hc))
  rwa [List.reverse_reverse] at this
theorem mg_good {d : Int} {l : List (List (Int × Int))} (hd : 2 ≤ d) (hd' : d ≤ 8) (hl : ∀ c ∈ l, Good d c) (h : (mgAll l).1 = 0) : Good d (mgAll l).2 := by
  have key : ∀ l : List (List (Int × Int)), (∀ c ∈ l, Good d c) → (mgAll l.reverse).1 = 0 → Good d (mgAll l.reverse).2 := by
    intro l
    induction l with
    | nil => intro _ _; exact ⟨hd, hd', by simp [mgAll], (fun _ h => by simp [mgAll] at h), by simp [mgAll], by simp [mgAll, tot]⟩
    | cons c l ih =>
      intro hl h
      rw [List.reverse_cons, mgAll_snoc] at h ⊢
      unfold mgStep at h ⊢
      split at h
      · rename_i h0
        rw [if_pos h0]
        have g0 := ih (fun x hx => hl x (by simp [hx])) h0
        have gc := hl c (by simp)
        split at h
        · rename_i h1
          rw [if_pos h1]
          have ht : tot (mgAll l.reverse).2 + tot c ≤ 1125899906842624 := by unfold codeM at h1; split at h1 <;> omega
          have hex : ∃ cs, IsHist (sumAt id ((mgAll l.reverse).2 ++ c)) cs := hist_ex _ (fun x hx => by
            rcases List.mem_append.1 hx with h | h
            · have := (g0.2.2.2.1 x h).2; omega
            · have := (gc.2.2.2.1 x h).2; omega)
          obtain ⟨cs, hcs⟩ := hex
          show Good d (histOf _)
          rw [histOf_eq hcs]
          exact good_merge hcs g0 gc ht
        · rename_i h1; exact absurd h h1
      · rename_i h0; exact absurd h h0
  have := key l.reverse (fun c hc => hl c (by simpa using hc))
  rw [List.reverse_reverse] at this
  exact this h
theorem codeM_i (a b : List (Int × Int)) : codeM a b = 0 ∨ codeM a b = 3 := by unfold codeM; split <;> simp
theorem mg_code (l : List (List (Int × Int))) : (mgAll l).1 = 0 ∨ (mgAll l).1 = 3 := by
  unfold mgAll
  have key : ∀ (l : List (List (Int × Int))) st, (st.1 = 0 ∨ st.1 = 3) → ((l.foldl mgStep st).1 = 0 ∨ (l.foldl mgStep st).1 = 3) := by
    intro l
    induction l with
    | nil => intro st h; exact h
    | cons c l ih =>
      intro st h
      rw [List.foldl_cons]
      apply ih
      unfold mgStep
      split
      · split
        · exact .inl rfl
        · exact codeM_i _ _
      · exact h
  exact key l (0, []) (.inl rfl)
/-- what merged and joined return -/
def MgPost (d : Int) (l : List (List (Int × Int))) (w : World) (e : Ending) (w' : World) : Prop := HistPost (sumAt id (mgAll l).2) d (mgAll l).1 w e w'

set_option maxHeartbeats 2000000 in
set_option maxRecDepth 100000 in
theorem merged_any (d : Int) (A : Option Addr) (n c : Nat) (l : List Hg) (w : World) (hr : HgR w w.heap.size A n l) (hn : n ≤ 2000) (hd : 2 ≤ d) (hd' : d ≤ 8) (hg : ∀ h ∈ l, Good d h.cs) :
    Calls Tryd.prog 75 #[.slice A n c, .int .i64 d] w (MgPost d (csL l) w) := by
  have hl := hr.len
  have HR := Lib.hid hr
  have HL := Lib.hid hl
  have HG := Lib.hid hg
  clear hr hl hg
  obtain ⟨W0, hW0⟩ : ∃ W0, W0 = (w.alloc (.cells #[Value.int .i64 0, Value.slice none 0 0] 24)).alloc (.cells #[Value.int .i64 d, Value.slice none 0 0] 24) := ⟨_, rfl⟩
  have HST0 := Lib.hid (show St w W0 [(w.heap.size, Obj.cells #[Value.int .i64 0, Value.slice none 0 0] 24 (0, 0)), (w.heap.size + 1, Obj.cells #[Value.int .i64 d, Value.slice none 0 0] 24 (0, 0))] by rw [hW0]; exact ((St.start w).alloc _ _ rfl).alloc _ _ (by simp))
  go_enter Tryd.func75, Tryd.ntmps75
  go_wp2
  rw [← hW0]
  clear hW0
  go_loopw [8, 9, 10, 15] (fun _ _ _ i wr => ∃ (k : Nat) (A1 : Option Addr) (c1 : Nat) (cs : List (Int × Int)), k ≤ n ∧ i = .int .i64 k ∧ mgAll (csL (l.take k)) = (0, cs) ∧ St w wr [(w.heap.size, Obj.cells #[Value.int .i64 0, Value.slice none 0 0] 24 (0, 0)), (w.heap.size + 1, Obj.cells #[Value.int .i64 d, Value.slice A1 cs.length c1] 24 (0, 0))] ∧ Rd wr (w.heap.size + 1 + 1) wr.heap.size 2 A1 cs.length (cells2 cs)) (fun _ _ _ i _ => n - (intOf i).toNat)
  case atStart => exact ⟨0, none, 0, [], Nat.zero_le _, rfl, rfl, HST0.out, Rd.nil⟩
  case round =>
    obtain ⟨k, A1, c1, cs, hk, rfl, hmg, hst, hrd⟩ := hrel
    have HMG := Lib.hid hmg
    have hgc : Good d cs := by
      have := mg_good (l := csL (l.take k)) hd hd' (fun x hx => by
        unfold csL at hx
        obtain ⟨h, hh, rfl⟩ := List.mem_map.1 hx
        exact HG.out h (List.mem_of_mem_take hh)) (by rw [hmg])
      rw [hmg] at this; exact this
    have HGC := Lib.hid hgc
    have HST := Lib.hid hst
    have HRD := Lib.hid hrd
    obtain ⟨k00, k01, z00, z01, l0⟩ := hst.two 0 rfl
    obtain ⟨k10, k11, z10, z11, l1⟩ := hst.two 1 rfl
    clear hmg hst hrd hgc
    by_cases hlt : k < n
    · obtain ⟨bk, o, ⟨sb, sA, sc, scs⟩, rfl, hbk, hs, q0, q1, hrs⟩ := (HR.out.old HST.out.below).at hlt
      simp only at q0 q1 hrs
      have hgs := HG.out _ (List.mem_of_getElem? hs)
      simp only at hgs
      have htk := csL_take l k _ hs
      simp only at htk
      obtain ⟨W2, hW2⟩ : ∃ W2, W2 = wr.alloc (.cells #[Value.int .i64 sb, Value.slice sA scs.length sc] 24) := ⟨_, rfl⟩
      have hb2 : Below wr.heap.size wr W2 := by rw [hW2]; exact (Below.refl _ wr).alloc (Nat.le_refl _) _
      have HST2 := Lib.hid (show St w W2 [(w.heap.size, Obj.cells #[Value.int .i64 0, Value.slice none 0 0] 24 (0, 0)), (w.heap.size + 1, Obj.cells #[Value.int .i64 d, Value.slice A1 cs.length c1] 24 (0, 0)), (wr.heap.size, Obj.cells #[Value.int .i64 sb, Value.slice sA scs.length sc] 24 (0, 0))] by rw [hW2]; exact HST.out.alloc _ _ rfl)
      have HM := Lib.hid (merge_any d sb A1 sA c1 sc cs scs W2 ((HRD.out.more (Nat.zero_le _) (Nat.le_refl _)).old hb2) (hrs.old hb2) HGC.out hgs)
      have hlt2 : wr.heap.size < W2.heap.size := HST2.out.lt 2 rfl
      have hl1w : w.heap.size + 1 < wr.heap.size := l1
      have HTK := Lib.hid htk
      clear hs hrs htk
      go_wp2_with fail
      rw [← hW2]
      clear hW2
      refine (HM.out.mono (fun e w' h => h.form)).mono ?_
      rintro e w3 ⟨b3, A3, n3, c3, rfl, hs3, hz3, hb3⟩
      have hsz3 := hb3.size
      have HS3 := Lib.hid hs3
      have HZ3 := Lib.hid hz3
      have HSTw := Lib.hid (HST2.out.call hb3)
      have HST3 := Lib.hid (show St w (w3.alloc (.cells #[Value.int .i64 b3, Value.slice A3 n3 c3] 24)) [(w.heap.size, Obj.cells #[Value.int .i64 0, Value.slice none 0 0] 24 (0, 0)), (w.heap.size + 1, Obj.cells #[Value.int .i64 d, Value.slice A1 cs.length c1] 24 (0, 0)), (wr.heap.size, Obj.cells #[Value.int .i64 sb, Value.slice sA scs.length sc] 24 (0, 0)), (w3.heap.size, Obj.cells #[Value.int .i64 b3, Value.slice A3 n3 c3] 24 (0, 0))] from HSTw.out.alloc _ _ rfl)
      clear k00 k01 z00 z01 l0 k10 k11 z10 z11 l1 q0 q1 hs3 hz3 HM
      obtain ⟨k00, k01, z00, z01, l0⟩ := HSTw.out.two 0 rfl
      obtain ⟨k10, k11, z10, z11, l1⟩ := HSTw.out.two 1 rfl
      generalize hcm : codeM cs scs = cd at *
      by_cases h0 : cd = 0
      · subst h0
        obtain ⟨cs', hh, hd3, hn3, hrd3⟩ := HS3.out rfl
        replace hd3 := hd3.symm
        subst hd3 hn3
        have hmg' : mgAll (csL (l.take (k + 1))) = (0, cs') := by
          rw [HTK.out, mgAll_snoc, HMG.out]
          unfold mgStep
          rw [if_pos rfl, if_pos hcm, histOf_eq hh]
        have HMG' := Lib.hid hmg'
        have HRD3 := Lib.hid hrd3
        clear hh hrd3 hmg' HS3 HZ3 hcm hb3
        go_wp2
        go_roundw
        case rel =>
          refine ⟨k + 1, A3, c3, cs', by omega, by go_num, HMG'.out, ?_, ?_⟩
          · exact (St.setLast [(w.heap.size, Obj.cells #[Value.int .i64 0, Value.slice none 0 0] 24 (0, 0))] 1 _ (St.setLast [(w.heap.size, Obj.cells #[Value.int .i64 0, Value.slice none 0 0] 24 (0, 0))] 0 _ (HSTw.out.take 2) (by simp)) (by simp)).more _
          · refine ((HRD3.out.fr (may := fun i => i = w.heap.size + 1) (w' := _) ?_ (Nat.le_refl _) (fun i hi _ => by omega)).alloc (by simp [World.setCell]) _).more (by omega) (by simp [World.setCell])
            repeat (first | exact Fr.refl _ _ | (refine Fr.setCell ?_ (fun _ => by dsimp only) _))
        case measure => simp [intOf]; omega
      · have tc : (cd == 0) = false := by simpa using h0
        have tc' : (cd != 0) = true := by simpa using h0
        have HC := Lib.hid (show (mgAll (csL l)).1 = cd by
          have e1 : mgAll (csL (l.take (k + 1))) = (cd, []) := by
            rw [HTK.out, mgAll_snoc, HMG.out]
            unfold mgStep
            rw [if_pos rfl, if_neg (by rw [hcm]; exact h0), hcm]
          have e2 : csL l = csL (l.take (k + 1)) ++ csL (l.drop (k + 1)) := by unfold csL; rw [← List.map_append, List.take_append_drop]
          rw [e2, mgAll_bad _ _ (by rw [e1]; exact h0), e1])
        clear HS3 HZ3 hcm hb3
        go_wp2
        refine bodyPost_ret (v := .tuple #[.agg #[.int .i64 0, .slice none 0 0], .int .i64 cd]) (by simp [results, Tryd.results75, go_sem, k00, k01, l0]) rfl (HistPost.none h0 HC.out ?_)
        repeat (first | exact HSTw.out.below | (refine Below.setCell ?_ (by dsimp only; omega) _) | (refine Below.alloc ?_ (by simp [World.setCell]; omega) _))
    · have htk : l.take k = l := List.take_of_length_le (by have := HL.out; omega)
      rw [htk] at HMG
      have HC := Lib.hid (show (mgAll (csL l)).1 = 0 by rw [HMG.out])
      have HH := Lib.hid (show IsHist (sumAt id (mgAll (csL l)).2) cs by rw [HMG.out]; exact HGC.out.hist)
      clear htk
      go_wp2
      refine bodyPost_ret (v := .tuple #[.agg #[.int .i64 d, .slice A1 cs.length c1], .int .i64 0]) (by simp [results, Tryd.results75, go_sem, k00, k01]) rfl (HistPost.some HC.out HH.out HRD.out (by omega) HST.out.below ?_)
      repeat (first | exact Fr.refl _ _ | (refine Fr.setCell ?_ (fun _ => by dsimp only; omega) _))

/-- the cells from i to j, as the reference takes them -/
def cut2 {α : Type} (l : List α) (i j : Nat) : List α := (l.take j).drop i
theorem cut2_snoc {α : Type} (l : List α) (i j : Nat) (s : α) (h : l[j]? = some s) (hij : i ≤ j) : cut2 l i (j + 1) = cut2 l i j ++ [s] := by
  unfold cut2
  have hj := (List.getElem?_eq_some_iff.1 h).1
  rw [List.take_add_one, h, List.drop_append_of_le_length (by simp; omega)]; rfl
theorem cut2_stop {α : Type} (l : List α) (i j : Nat) (h : l.length ≤ j) : cut2 l i j = cut2 l i l.length := by
  unfold cut2; rw [List.take_of_length_le h, List.take_of_length_le (Nat.le_refl _)]
theorem cut2_pre {α : Type} (l : List α) (i j k : Nat) (_h : i ≤ j) (hj : j ≤ k) : ∃ m, cut2 l i k = cut2 l i j ++ m := by
  unfold cut2
  refine ⟨((l.take k).drop j).drop (i - (l.take j).length), ?_⟩
  have e : l.take k = l.take j ++ (l.take k).drop j := by
    conv => lhs; rw [← List.take_append_drop j (l.take k)]
    rw [List.take_take, Nat.min_eq_left hj]
  conv => lhs; rw [e]
  rw [List.drop_append]
theorem mem_cut2 {α : Type} {l : List α} {i j : Nat} {x : α} (h : x ∈ cut2 l i j) : x ∈ l := List.mem_of_mem_take (List.mem_of_mem_drop h)

set_option maxHeartbeats 2000000 in
set_option maxRecDepth 100000 in
theorem joined_any (W : Int) (A : Option Addr) (c : Nat) (l : List Hg) (i0 j0 : Nat) (w : World) (hr : HgR w w.heap.size A l.length l) (hn : l.length ≤ 2000) (_hj : j0 ≤ 1000000) (hij : i0 ≤ j0) (hi0 : i0 ≤ 1000000) (hd : 2 ≤ bitsL l) (hd' : bitsL l ≤ 8) (hg : ∀ h ∈ l, Good h.b h.cs ∧ h.b = bitsL l) :
    Calls Tryd.prog 76 #[.agg #[.int .i64 W, .slice A l.length c], .int .i64 (i0 : Nat), .int .i64 (j0 : Nat)] w (MgPost (bitsL l) (csL (cut2 l i0 j0)) w) := by
  have HR := Lib.hid hr
  have HG := Lib.hid hg
  clear hr hg
  obtain ⟨W0, hW0⟩ : ∃ W0, W0 = (w.alloc (.cells #[Value.int .i64 W, Value.slice A l.length c] 49)).alloc (.cells #[Value.int .i64 0, Value.slice none 0 0] 24) := ⟨_, rfl⟩
  have HST0 := Lib.hid (show St w W0 [(w.heap.size, Obj.cells #[Value.int .i64 W, Value.slice A l.length c] 49 (0, 0)), (w.heap.size + 1, Obj.cells #[Value.int .i64 0, Value.slice none 0 0] 24 (0, 0))] by rw [hW0]; exact ((St.start w).alloc _ _ rfl).alloc _ _ (by simp))
  have HB := Lib.hid (RbitsOf_any W A c l W0 (HR.out.old HST0.out.below))
  go_enter Tryd.func76, Tryd.ntmps76
  go_wp2_with fail
  rw [← hW0]
  clear hW0
  refine HB.out.mono ?_
  rintro e w1 ⟨rfl, hb1⟩
  clear HB
  generalize hbd : bitsL l = d at *
  have HST1 := Lib.hid (HST0.out.call hb1)
  have hs1 := hb1.size
  have hl1 := HST1.out.lt 1 rfl
  have hlw : w.heap.size + 1 < W0.heap.size := HST0.out.lt 1 rfl
  clear hb1
  go_wp2
  go_loopw [9, 10, 11] (fun i _ _ wr => ∃ (k : Nat) (A1 : Option Addr) (c1 : Nat) (cs : List (Int × Int)), i0 ≤ k ∧ k ≤ 1000000 ∧ i = .int .i64 k ∧ (k ≤ j0 ∧ k ≤ l.length ∨ k = i0) ∧ mgAll (csL (cut2 l i0 k)) = (0, cs) ∧ St w wr [(w.heap.size, Obj.cells #[Value.int .i64 W, Value.slice A l.length c] 49 (0, 0)), (w.heap.size + 1, Obj.cells #[Value.int .i64 0, Value.slice none 0 0] 24 (0, 0)), (w1.heap.size, Obj.cells #[Value.int .i64 d, Value.slice A1 cs.length c1] 24 (0, 0))] ∧ Rd wr (w1.heap.size + 1) wr.heap.size 2 A1 cs.length (cells2 cs)) (fun i _ _ _ => 1000001 - (intOf i).toNat)
  case atStart => exact ⟨i0, none, 0, [], Nat.le_refl _, hi0, rfl, .inr rfl, by simp [cut2, csL, mgAll], HST1.out.alloc _ _ rfl, Rd.nil⟩
  case round =>
    obtain ⟨k, A1, c1, cs, hk0, hk1, rfl, hk2, hmg, hst, hrd⟩ := hrel
    have HMG := Lib.hid hmg
    have hgc : Good d cs := by
      have := mg_good (l := csL (cut2 l i0 k)) hd hd' (fun x hx => by
        unfold csL at hx
        obtain ⟨h, hh, rfl⟩ := List.mem_map.1 hx
        have := HG.out h (mem_cut2 hh)
        rw [this.2] at this; exact this.1) (by rw [hmg])
      rw [hmg] at this; exact this
    have HGC := Lib.hid hgc
    have HST := Lib.hid hst
    have HRD := Lib.hid hrd
    obtain ⟨k00, k01, _, _, l0⟩ := hst.two 0 rfl
    obtain ⟨k10, k11, z10, z11, l1⟩ := hst.two 1 rfl
    obtain ⟨k20, k21, z20, z21, l2⟩ := hst.two 2 rfl
    clear hmg hst hrd hgc
    by_cases hlt : k < j0 ∧ k < l.length
    · obtain ⟨hlt1, hlt2⟩ := hlt
      have t1 : decide ((k : Int) < (j0 : Int)) = true := by simp; omega
      have t2 : decide ((k : Int) < (l.length : Int)) = true := by simp; omega
      obtain ⟨bk, o, ⟨sb, sA, sc, scs⟩, rfl, hbk, hs, q0, q1, hrs⟩ := (HR.out.old HST.out.below).at hlt2
      simp only at q0 q1 hrs
      obtain ⟨hgs, hsb⟩ := HG.out _ (List.mem_of_getElem? hs)
      simp only at hgs hsb
      replace hsb := hsb.symm
      subst hsb
      have htk : csL (cut2 l i0 (k + 1)) = csL (cut2 l i0 k) ++ [scs] := by rw [cut2_snoc l i0 k _ hs hk0]; simp [csL]
      have HTK := Lib.hid htk
      have hcg : codeG d cs d scs = codeM cs scs := by
        unfold codeG codeB
        rw [if_neg (not_not_intro HGC.out.code), if_neg (not_not_intro hgs.code), if_pos rfl]; simp
      have HM := Lib.hid (fun W' (hb : Below wr.heap.size wr W') => (RMerge_any d d A1 sA c1 sc cs scs W' ((HRD.out.more (Nat.zero_le _) (Nat.le_refl _)).old hb) (hrs.old hb) (by have := HGC.out.2.2.1; omega) (by have := hgs.2.2.1; omega) (fun x hx => by have := (HGC.out.2.2.2.1 x hx).1; have := maxB_bd d hd hd'; omega) (fun x hx => by have := (hgs.2.2.2.1 x hx).1; have := maxB_bd d hd hd'; omega)).mono (fun e w' h => (h.code hcg).form))
      have hkk : (0 : Int) ≤ (k : Int) := by omega
      have hbl : bk < wr.heap.size := hbk
      have HCELLS := Lib.hid (And.intro q0 q1)
      clear hs hrs htk hgs hcg
      have HKS := Lib.hid (show ∀ w', Below wr.heap.size wr w' → w'.cell? ⟨w1.heap.size, 0, none⟩ = some (.int .i64 d) ∧ w'.cell? ⟨w1.heap.size, 1, none⟩ = some (.slice A1 cs.length c1) ∧ w'.cell? ⟨w.heap.size, 1, none⟩ = some (.slice (some ⟨bk, o, none⟩) l.length c) ∧ w'.cell? ⟨bk, o + k * 2, none⟩ = some (.int .i64 d) ∧ w'.cell? ⟨bk, o + k * 2 + 1, none⟩ = some (.slice sA scs.length sc) ∧ Below wr.heap.size wr w' from
        fun w' hb => ⟨(HST.out.call hb).cell 2 0 rfl rfl, (HST.out.call hb).cell 2 1 rfl rfl, (HST.out.call hb).cell 0 1 rfl rfl, (hb.cell (p := ⟨bk, o + k * 2, none⟩) hbl).trans HCELLS.out.1, (hb.cell (p := ⟨bk, o + k * 2 + 1, none⟩) hbl).trans HCELLS.out.2, hb⟩)
      have hl2w : w1.heap.size < wr.heap.size := l2
      go_upto_region 5 with fail
      go_cut [10, 11] from 16 to 42 (fun p q wx => ∃ (N : Nat) (b3 : Int) (A3 : Option Addr) (n3 c3 : Nat), p = .pointer (some ⟨N, 0, none⟩) ∧ q = .int .i64 (codeM cs scs) ∧ w1.heap.size < N ∧ St w wx [(w.heap.size, Obj.cells #[Value.int .i64 W, Value.slice (some ⟨bk, o, none⟩) l.length c] 49 (0, 0)), (w.heap.size + 1, Obj.cells #[Value.int .i64 0, Value.slice none 0 0] 24 (0, 0)), (w1.heap.size, Obj.cells #[Value.int .i64 d, Value.slice A1 cs.length c1] 24 (0, 0)), (N, Obj.cells #[Value.int .i64 b3, Value.slice A3 n3 c3] 24 (0, 0))] ∧ (codeM cs scs = 0 → ∃ cs', IsHist (sumAt id (cs ++ scs)) cs' ∧ b3 = d ∧ n3 = cs'.length ∧ Rd wx (w1.heap.size + 1) wx.heap.size 2 A3 cs'.length (cells2 cs')))
      case first =>
        go_region_held3 (fun w' => w'.cell? ⟨w1.heap.size, 0, none⟩ = some (.int .i64 d) ∧ w'.cell? ⟨w1.heap.size, 1, none⟩ = some (.slice A1 cs.length c1) ∧ w'.cell? ⟨w.heap.size, 1, none⟩ = some (.slice (some ⟨bk, o, none⟩) l.length c) ∧ w'.cell? ⟨bk, o + k * 2, none⟩ = some (.int .i64 d) ∧ w'.cell? ⟨bk, o + k * 2 + 1, none⟩ = some (.slice sA scs.length sc) ∧ Below wr.heap.size wr w')
          ((go_split_ands; refine HKS.out _ ?_; repeat (first | assumption | exact Below.refl _ _ | refine Below.drew ?_ | refine bel_alloc ?_ _ | refine below_next ?_ hb3 | refine bel_set ?_ (by dsimp only; omega) _)))
          (first
            | (go_at_call 23; refine (HM.out _ ?_).mono ?_; (go_split_ands; assumption); rintro e w3 ⟨b3, A3, n3, c3, rfl, hs3, hz3, hb3⟩; have nb := new_box' (.int .i64 0) (.slice none 0 0) 24 wr hb3))
        all_goals go_wp2
        · go_meet
          case rel =>
            have hb3' : Below wr.heap.size wr w3 := below_next (Below.refl _ wr).drew hb3
            have hsz := hb3'.size
            refine ⟨w3.heap.size, b3, A3, n3, c3, rfl, rfl, by omega, (HST.out.call hb3').alloc _ _ rfl, fun h0 => ?_⟩
            obtain ⟨cs', g1, g2, g3, g4⟩ := hs3 h0
            exact ⟨cs', g1, g2, g3, (g4.alloc (Nat.le_refl _) _).more (show w1.heap.size + 1 ≤ wr.heap.size by omega) (by simp)⟩
        · go_meet
          case rel =>
            have hb3' : Below (wr.alloc (.cells #[.int .i64 0, .slice none 0 0] 24)).heap.size (wr.alloc (.cells #[.int .i64 0, .slice none 0 0] 24)) w3 := below_next (Below.refl _ _).drew hb3
            have hsz := hb3'.size
            simp only [World.size_alloc] at hsz
            have st3 := (HST.out.alloc (.cells #[.int .i64 0, .slice none 0 0] 24) _ rfl).call hb3'
            refine ⟨wr.heap.size, b3, A3, n3, c3, rfl, rfl, by omega, St.setLast [(w.heap.size, Obj.cells #[Value.int .i64 W, Value.slice (some ⟨bk, o, none⟩) l.length c] 49 (0, 0)), (w.heap.size + 1, Obj.cells #[Value.int .i64 0, Value.slice none 0 0] 24 (0, 0)), (w1.heap.size, Obj.cells #[Value.int .i64 d, Value.slice A1 cs.length c1] 24 (0, 0))] 1 _ (St.setLast [(w.heap.size, Obj.cells #[Value.int .i64 W, Value.slice (some ⟨bk, o, none⟩) l.length c] 49 (0, 0)), (w.heap.size + 1, Obj.cells #[Value.int .i64 0, Value.slice none 0 0] 24 (0, 0)), (w1.heap.size, Obj.cells #[Value.int .i64 d, Value.slice A1 cs.length c1] 24 (0, 0))] 0 _ st3 (by simp; omega)) (by simp; omega), fun h0 => ?_⟩
            obtain ⟨cs', g1, g2, g3, g4⟩ := hs3 h0
            have hlw3 : (wr.alloc (.cells #[.int .i64 0, .slice none 0 0] 24)).drew.heap.size = wr.heap.size + 1 := by show (wr.alloc _).heap.size = _; simp
            rw [hlw3] at g4
            refine ⟨cs', g1, g2, g3, (g4.fr (may := fun i => i = wr.heap.size) (w' := _) ?_ (Nat.le_refl _) (fun i hi _ => by omega)).more (by omega) (by simp [World.setCell])⟩
            repeat (first | exact Fr.refl _ _ | (refine Fr.setCell ?_ (fun _ => by dsimp only) _))
      case rest =>
        obtain ⟨N, b3, A3, n3, c3, rfl, rfl, hN, hst3, hs3⟩ := hcut
        have HSTw := Lib.hid hst3
        have HS3 := Lib.hid hs3
        clear k00 k01 l0 k10 k11 z10 z11 l1 k20 k21 z20 z21 l2 q0 q1 hst3 hs3 HM
        obtain ⟨k00, k01, z00, z01, l0⟩ := HSTw.out.two 0 rfl
        obtain ⟨k10, k11, z10, z11, l1⟩ := HSTw.out.two 1 rfl
        obtain ⟨k20, k21, z20, z21, l2⟩ := HSTw.out.two 2 rfl
        obtain ⟨k30, k31, _, _, l3⟩ := HSTw.out.two 3 rfl
        generalize hcm : codeM cs scs = cd at *
        by_cases h0 : cd = 0
        · subst h0
          obtain ⟨cs', hh, hd3, hn3, hrd3⟩ := HS3.out rfl
          replace hd3 := hd3.symm
          subst hd3 hn3
          have hmg' : mgAll (csL (cut2 l i0 (k + 1))) = (0, cs') := by
            rw [HTK.out, mgAll_snoc, HMG.out]
            unfold mgStep
            rw [if_pos rfl, if_pos hcm, histOf_eq hh]
          have HMG' := Lib.hid hmg'
          have HRD3 := Lib.hid hrd3
          clear hh hrd3 hmg' HS3 hcm
          go_wp2
          go_roundw
          case rel =>
            refine ⟨k + 1, A3, c3, cs', by omega, by omega, by go_num, .inl ⟨by omega, by omega⟩, HMG'.out, ?_, ?_⟩
            · exact St.setLast [(w.heap.size, Obj.cells #[Value.int .i64 W, Value.slice (some ⟨bk, o, none⟩) l.length c] 49 (0, 0)), (w.heap.size + 1, Obj.cells #[Value.int .i64 0, Value.slice none 0 0] 24 (0, 0))] 1 _ (St.setLast [(w.heap.size, Obj.cells #[Value.int .i64 W, Value.slice (some ⟨bk, o, none⟩) l.length c] 49 (0, 0)), (w.heap.size + 1, Obj.cells #[Value.int .i64 0, Value.slice none 0 0] 24 (0, 0))] 0 _ (HSTw.out.take 3) (by simp; omega)) (by simp; omega)
            · refine (HRD3.out.fr (may := fun i => i = w1.heap.size) (w' := _) ?_ (Nat.le_refl _) (fun i hi _ => by omega)).more (Nat.le_refl _) (by simp [World.setCell])
              repeat (first | exact Fr.refl _ _ | (refine Fr.setCell ?_ (fun _ => by dsimp only) _))
          case measure => simp [intOf]; omega
        · have tc : (cd == 0) = false := by simpa using h0
          have tc' : (cd != 0) = true := by simpa using h0
          have HC := Lib.hid (show (mgAll (csL (cut2 l i0 j0))).1 = cd by
            have e1 : mgAll (csL (cut2 l i0 (k + 1))) = (cd, []) := by
              rw [HTK.out, mgAll_snoc, HMG.out]
              unfold mgStep
              rw [if_pos rfl, if_neg (by rw [hcm]; exact h0), hcm]
            obtain ⟨m, e2⟩ := cut2_pre l i0 (k + 1) j0 (by omega) (by omega)
            have e3 : csL (cut2 l i0 j0) = csL (cut2 l i0 (k + 1)) ++ csL m := by rw [e2]; simp [csL]
            rw [e3, mgAll_bad _ _ (by rw [e1]; exact h0), e1])
          clear HS3 hcm
          go_wp2
          refine bodyPost_ret (v := .tuple #[.agg #[.int .i64 0, .slice none 0 0], .int .i64 cd]) (by simp [results, Tryd.results76, go_sem, k10, k11]) rfl (HistPost.none h0 HC.out ?_)
          repeat (first | exact HSTw.out.below | (refine Below.setCell ?_ (by dsimp only; omega) _))
    · have HALL := Lib.hid (show cut2 l i0 j0 = cut2 l i0 k by
        rcases hk2 with ⟨g1, g2⟩ | rfl
        · by_cases e : k = j0
          · rw [e]
          · rw [cut2_stop l i0 j0 (by omega), cut2_stop l i0 k (by omega)]
        · by_cases e : k = j0
          · rw [e]
          · rw [cut2_stop l k j0 (by omega), cut2_stop l k k (by omega)])
      have HC := Lib.hid (show (mgAll (csL (cut2 l i0 j0))).1 = 0 by rw [HALL.out, HMG.out])
      have HH := Lib.hid (show IsHist (sumAt id (mgAll (csL (cut2 l i0 j0))).2) cs by rw [HALL.out, HMG.out]; exact HGC.out.hist)
      by_cases hlt1 : k < j0
      · have t1 : decide ((k : Int) < (j0 : Int)) = true := by simp; omega
        have t2 : decide ((k : Int) < (l.length : Int)) = false := by simp; omega
        go_wp2
        refine bodyPost_ret (v := .tuple #[.agg #[.int .i64 d, .slice A1 cs.length c1], .int .i64 0]) (by simp [results, Tryd.results76, go_sem, k10, k11]) rfl (HistPost.some HC.out HH.out HRD.out (by omega) HST.out.below ?_)
        repeat (first | exact Fr.refl _ _ | (refine Fr.setCell ?_ (fun _ => by dsimp only; omega) _))
      · have t1 : decide ((k : Int) < (j0 : Int)) = false := by simp; omega
        go_wp2
        refine bodyPost_ret (v := .tuple #[.agg #[.int .i64 d, .slice A1 cs.length c1], .int .i64 0]) (by simp [results, Tryd.results76, go_sem, k10, k11]) rfl (HistPost.some HC.out HH.out HRD.out (by omega) HST.out.below ?_)
        repeat (first | exact Fr.refl _ _ | (refine Fr.setCell ?_ (fun _ => by dsimp only; omega) _))
end Go.Proofs.YtgmbgclhljobaaaDoor
