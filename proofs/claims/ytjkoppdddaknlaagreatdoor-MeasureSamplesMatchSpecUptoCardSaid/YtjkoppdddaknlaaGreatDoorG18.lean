import Derived.Test.YtjkoppdddaknlaaGreatDoorG10
import Derived.Test.YtjkoppdddaknlaaGreatDoorG17
import Derived.Test.YtjkoppdddaknlaaGreatDoorShelf
import Derived.BigQuiet
/- measure.Worst: the closure, the walk. -/
namespace Go.Proofs.YtjkoppdddaknlaaGreatDoor
open Go Go.RowKit Go.Proofs

/-- how long sample i took -/
def dW (l : List Smp) (i : Nat) : Int := (l.getD i default).d
theorem dW_at {l : List Smp} {i : Nat} {s : Smp} (h : l[i]? = some s) : dW l i = s.d := by unfold dW; rw [List.getD_eq_getElem?_getD, h]; rfl
theorem cmpW_cmp (d : Nat → Int) (x y : Nat) : Lib.compareInt (d y) (d x) = cmpW d x y := by
  unfold cmpW Lib.compareInt
  rcases Int.lt_trichotomy (d y) (d x) with h | h | h
  · simp [h]
  · rw [h]
  · have h1 : ¬ d y < d x := by omega
    simp [h, h1]
set_option maxHeartbeats 2000000 in
set_option maxRecDepth 100000 in
theorem worstCmp_any (A : Option Addr) (n c : Nat) (l : List Smp) (x y Bl B : Nat) (X : World) (hbox : X.cell? ⟨Bl, 0, none⟩ = some (.slice A n c)) (hr : SmpR X B A n l) (hx : x < n) (hy : y < n) :
    Calls Tryz.prog 34 #[.int .i64 (x : Int), .int .i64 (y : Int), .pointer (some ⟨Bl, 0, none⟩)] X fun e w' => e = .returned (.int .i64 (cmpW (dW l) x y)) ∧ Below X.heap.size X w' := by
  obtain ⟨b, o, s, rfl, hb, hs, _, cx, _, _⟩ := hr.at hx
  obtain ⟨b', o', t, e, hb', ht, _, cy, _, _⟩ := hr.at hy
  cases e
  have HV := Lib.hid (show cmpW (dW l) x y = Lib.compareInt t.d s.d by rw [← cmpW_cmp, dW_at hs, dW_at ht])
  obtain ⟨sd, hsd⟩ : ∃ z, z = s.d := ⟨_, rfl⟩
  obtain ⟨td, htd⟩ : ∃ z, z = t.d := ⟨_, rfl⟩
  rw [← hsd, ← htd] at HV
  rw [← hsd] at cx
  rw [← htd] at cy
  have hbox' : X.drew.cell? ⟨Bl, 0, none⟩ = some (.slice (some ⟨b, o, none⟩) n c) := hbox
  have cx' : X.drew.cell? ⟨b, o + x * 4 + 1, none⟩ = some (.int .i64 sd) := cx
  have cy' : X.drew.cell? ⟨b, o + y * 4 + 1, none⟩ = some (.int .i64 td) := cy
  have HC := Lib.hid (fun W => Tryz.cmp_Compare_int td sd W)
  clear hs ht hr hsd htd hb hb'
  go_enter Tryz.func34, Tryz.ntmps34
  go_wp2
  refine wp_region_still_tail 10 (by kernel_rfl) (by kernel_rfl) ?_
  simp only [List.take_succ_cons, List.take_zero, List.drop_succ_cons, List.drop_zero]
  repeat still_step
  refine wpStill_nil ?_
  change wpList _ _ _ _ _ X.drew
  go_wp2_with fail
  (with_reducible refine (HC.out _).mono ?_)
  rintro e w2 ⟨rfl, rfl⟩
  go_wp2
  go_ret
  exact ⟨by rw [HV.out]; rfl, (Below.refl _ X).drew⟩
theorem made_zeroW (n : Nat) : (madeCells #[Value.int .i64 0] n).toList = ints (List.replicate n 0) := by
  apply List.ext_getElem
  · simp [madeCells, ints]
  · intro i h1 h2
    simp [madeCells, Nat.mod_one, ints]
/-- the numbers as they stand while they are filled in -/
def fillW (n k : Nat) : List Int := (List.range k).map (fun (i : Nat) => (i : Int)) ++ List.replicate (n - k) 0
theorem fillW_zero (n : Nat) : ints (fillW n 0) = ints (List.replicate n 0) := by simp [fillW]
theorem fillW_len {n k : Nat} (h : k ≤ n) : (fillW n k).length = n := by simp [fillW]; omega
theorem fillW_set {n k : Nat} (h : k < n) : (fillW n k).set k (k : Int) = fillW n (k + 1) := by
  unfold fillW
  obtain ⟨m, hm⟩ : ∃ m, n - k = m + 1 := ⟨n - k - 1, by omega⟩
  have hm2 : n - (k + 1) = m := by omega
  rw [hm, hm2, List.replicate_succ, List.range_succ, List.map_append, List.append_assoc]
  rw [List.set_append_right _ _ (by simp)]
  simp
theorem fillW_done (n : Nat) : ints (fillW n n) = izC (List.range n) := by
  unfold fillW ints izC
  simp
/-- block g holds these cells -/
def CBlk (w : World) (g : Nat) (o : List Int) : Prop := w.heap[g]? = some (.cells (ints o).toArray 3 (0, 0))
theorem CBlk.of_own {w : World} {base g n : Nat} {o : List Int} (h : w.ownsRow base 3 1 (.slice (some ⟨g, 0, none⟩) n n) n (ints o)) : CBlk w g o := by
  have hl : o.length = n := by have := h.1; simpa [ints] using this
  rcases h.2 with ⟨hv, _⟩ | ⟨g', cap, cur, hv, hb, hh, h1, h2, h3, h4⟩
  · cases hv
  · simp only [Value.slice.injEq, Option.some.injEq, Addr.mk.injEq] at hv
    obtain ⟨⟨rfl, _⟩, _, rfl⟩ := hv
    unfold CBlk
    rw [hh]
    have e : cur = (ints o).toArray := by
      apply Array.toList_inj.1
      rw [← h4, List.take_of_length_le (by simp; omega)]
    rw [e]
theorem CBlk.set {w : World} {g : Nat} {o : List Int} (h : CBlk w g o) (i : Nat) (d : Int) : CBlk (w.setCell ⟨g, i, none⟩ (.int .i64 d)) g (o.set i d) := by
  unfold CBlk at *
  simp only [World.setCell, Array.getElem?_modify, h, if_true, Option.map_some]
  congr 2
  rw [List.setIfInBounds_toArray]
  simp [ints, List.map_set]
theorem CBlk.cell {w : World} {g : Nat} {o : List Int} (h : CBlk w g o) {i : Nat} {d : Int} (hi : o[i]? = some d) : w.cell? ⟨g, i, none⟩ = some (.int .i64 d) := by
  rw [cellsAt h]; simp [ints, hi]
theorem CBlk.row {w : World} {g n : Nat} (h : CBlk w g (fillW n n)) : RowI w g (List.range n) := by
  refine ⟨_, h, ?_, ?_⟩
  · rw [fillW_done]; simp [izC]
  · rw [fillW_done]
    exact List.take_of_length_le (by simp [izC])
/-- what Worst returns -/
def codeWst (n m : Nat) (k : Int) (l : List Smp) : Int := if codeS n l ≠ 0 then codeS n l else if k < 0 ∨ (m : Int) < k then 9 else 0
/-- the block of a slice has cells of this type -/
def TyB (w : World) (t : TypeId) (A : Option Addr) (n : Nat) : Prop := 0 < n → ∃ b o c fz, A = some ⟨b, o, none⟩ ∧ w.heap[b]? = some (.cells c t fz)
theorem TyB.of_own {w : World} {base k n c : Nat} {e : TypeId} {A : Option Addr} {xs : List Value} (h : w.ownsRow base e k (.slice A n c) n xs) : TyB w e A n := fun hn => by
  rcases h.2 with ⟨_, h0⟩ | ⟨g, cap, cur, hv, _, hh, _⟩
  · omega
  · simp only [Value.slice.injEq] at hv
    exact ⟨g, 0, cur, _, hv.1, hh⟩
def WPost (n : Nat) (k : Int) (l : List Smp) (w : World) (e : Ending) (w' : World) : Prop :=
  Below w.heap.size w w' ∧ ((codeWst n n k l ≠ 0 ∧ e = .returned (.tuple #[.slice none 0 0, .int .i64 (codeWst n n k l)])) ∨
    (codeWst n n k l = 0 ∧ ∃ A c, e = .returned (.tuple #[.slice A k.toNat c, .int .i64 0]) ∧ Rd w' 0 w'.heap.size 1 A k.toNat (izC ((worst (dW l) n).take k.toNat)) ∧ TyB w' 3 A k.toNat))
theorem sorted_worst {d : Nat → Int} {n : Nat} {l' : List Nat} (hp : (List.range n).Perm l') (hs : SrtOn (ltW d) l' 0 n) : l' = worst d n := by
  refine worst_one hp.symm ?_
  have hl : l'.length = n := by rw [← hp.length_eq, List.length_range]
  rw [List.pairwise_iff_getElem]
  intro i j hi hj hij
  exact hs i j _ _ (Nat.zero_le _) hij (by omega) (List.getElem?_eq_getElem hi) (List.getElem?_eq_getElem hj)
theorem RowI.rdTake {w : World} {g k : Nat} {l : List Nat} (h : RowI w g l) (hk : k ≤ l.length) : Rd w 0 w.heap.size 1 (some ⟨g, 0, none⟩) k (izC (l.take k)) := by
  have hlt := h.lt
  obtain ⟨cur, h1, h2, h3⟩ := h
  refine ⟨by simp [izC]; omega, fun _ => ⟨g, 0, rfl, Nat.zero_le _, hlt, fun j u hj => ?_⟩⟩
  unfold izC at hj
  rw [List.map_take] at hj
  have hjk : j < k := by
    have := (List.getElem?_eq_some_iff.1 hj).1
    simp at this; omega
  rw [List.getElem?_take_of_lt hjk] at hj
  rw [cellsAt h1, Nat.zero_add, ← Array.getElem?_toList]
  have hz : (izC l)[j]? = some u := hj
  rw [← h3, List.getElem?_take_of_lt (by omega)] at hz
  exact hz
theorem clipW_any (A : Option Addr) (n c : Nat) (w : World) (hnc : n ≤ c) :
    Calls Tryz.prog 36 #[.slice A n c] w fun e w' => e = .returned (.slice A n n) ∧ w = w' := by
  go_enter Tryz.func36, Tryz.ntmps36
  go_wp2
  go_ret
  exact ⟨rfl, by trivial⟩
theorem infoIW : (Tryz.prog.info? 3).map (fun i => (i.zero, i.size, i.bytes)) = some (some (.int .i64 0), 1, 8) := by kernel_rfl
set_option maxHeartbeats 8000000 in
set_option maxRecDepth 100000 in
theorem worst_any (A : Option Addr) (n c : Nat) (k : Int) (l : List Smp) (w : World) (hr : SmpR w w.heap.size A n l) (hn : n ≤ maxLen) (hk : -9223372036854775808 ≤ k ∧ k ≤ 9223372036854775807) :
    Calls Tryz.prog 8 #[.slice A n c, .int .i64 k] w (WPost n k l w) := by
  obtain ⟨i0, hi0, hz0, hz1, hz2⟩ := info_parts infoIW
  unfold maxLen at hn
  have hl := hr.len
  have HR := Lib.hid hr
  have HL := Lib.hid hl
  obtain ⟨W2, hW2⟩ : ∃ W2, W2 = w.alloc (.cells #[.slice A n c] 22) := ⟨_, rfl⟩
  have HST := Lib.hid (show St w W2 [(w.heap.size, .cells #[.slice A n c] 22 (0, 0))] by rw [hW2]; exact (St.start w).alloc _ _ rfl)
  have k2 : W2.cell? ⟨w.heap.size, 0, none⟩ = some (.slice A n c) := HST.out.cell 0 0 rfl rfl
  have hz2' := HST.out.lt 0 rfl
  have HR2 := Lib.hid (show SmpR W2 W2.heap.size A n l from (hr.below HST.out.below (Nat.le_refl _)).more HST.out.below.size)
  have HCK := Lib.hid (checkSamples_any A n c l W2 HR2.out (by unfold maxLen; omega))
  clear hr hl
  go_enter Tryz.func8, Tryz.ntmps8
  go_wp2_with fail
  rw [← hW2]
  clear hW2
  go_wp2_with fail
  (with_reducible refine (HCK.out).mono ?_)
  rintro e w3 ⟨rfl, hb3⟩
  have HST3 := Lib.hid (HST.out.call hb3)
  have HB3 := Lib.hid hb3
  clear hb3 HCK k2
  have k3 : w3.cell? ⟨w.heap.size, 0, none⟩ = some (.slice A n c) := HST3.out.cell 0 0 rfl rfl
  have hz3 := HST3.out.lt 0 rfl
  obtain ⟨cc, hcc⟩ : ∃ z, z = codeS n l := ⟨_, rfl⟩
  rw [← hcc]
  by_cases hc0 : cc = 0
  · subst hc0
    obtain ⟨hn2, hfine⟩ := codeS_zero hcc.symm
    by_cases hk1 : k < 0
    · have HC := Lib.hid (show codeWst n n k l = 9 by unfold codeWst; rw [if_neg (by rw [← hcc]; simp), if_pos (.inl hk1)])
      have hk1' : decide (k < 0) = true := by simpa using hk1
      clear hcc hfine
      go_wp2
      go_ret2
      exact ⟨HST3.out.below, .inl ⟨by rw [HC.out]; decide, by rw [HC.out]; rfl⟩⟩
    · have hk1' : decide (k < 0) = false := by simpa using hk1
      by_cases hk2 : (n : Int) < k
      · have HC := Lib.hid (show codeWst n n k l = 9 by unfold codeWst; rw [if_neg (by rw [← hcc]; simp), if_pos (.inr hk2)])
        have hk2' : decide ((n : Int) < k) = true := by simpa using hk2
        clear hcc hfine
        go_wp2
        go_ret2
        exact ⟨HST3.out.below, .inl ⟨by rw [HC.out]; decide, by rw [HC.out]; rfl⟩⟩
      · have HC := Lib.hid (show codeWst n n k l = 0 by unfold codeWst; rw [if_neg (by rw [← hcc]; simp), if_neg (by omega)])
        have hk2' : decide ((n : Int) < k) = false := by simpa using hk2
        obtain ⟨m, hm⟩ : ∃ m : Nat, k = m := ⟨k.toNat, by omega⟩
        subst hm
        have hmn : m ≤ n := by omega
        have hmn' : (m : Int) ≤ (n : Int) := by omega
        clear hcc hfine
        go_wp2_with (at_make; refine wpList_make_full _ rfl (.tmp 23) (.tmp 23) 34 rfl w3.heap.size 3 i0 _ 1 Tryz.underlying34 hi0 hz0 hz1 .i64 .i64 _ _ n rfl rfl ?m1 ?m2 ?m3 ?m4 ?m5 ?_)
        case m1 => go_num
        case m2 => go_num
        case m3 => rw [hz2]; omega
        case m4 => unfold maxLen; omega
        case m5 => exact Nat.le_refl _
        intro w4 hown hgr
        rw [made_zeroW, ← fillW_zero] at hown
        have HBK := Lib.hid (CBlk.of_own hown)
        have HF4 := Lib.hid (show Below w3.heap.size w3 w4 from (Below.refl _ w3).grown hgr (Nat.le_refl _) (fun k hk => by cases hk))
        clear hown hgr
        have hs4 : w3.heap.size < w4.heap.size := heap_lt HBK.out
        have k4 : w4.cell? ⟨w.heap.size, 0, none⟩ = some (.slice A n c) := (HST3.out.call HF4.out).cell 0 0 rfl rfl
        go_wp2
        go_loopw [8, 27] (fun _ iv wr => ∃ j : Nat, iv = .int .i64 (j : Int) ∧ j ≤ n ∧ CBlk wr w3.heap.size (fillW n j) ∧ Fr (fun q => q = w3.heap.size) w4 wr) (fun _ iv _ => n - (intOf iv).toNat)
        case atStart => exact ⟨0, rfl, Nat.zero_le _, HBK.out, Fr.refl _ _⟩
        case round =>
          obtain ⟨j, rfl, hj, hblk, hfr⟩ := hrel
          have HB := Lib.hid hblk
          have HFR := Lib.hid hfr
          have hsr := hfr.size
          by_cases hlt : j < n
          · have hx : w.heap.size = w.heap.size := rfl
            have q0 := hblk.cell (i := j) (d := (fillW n j)[j]'(by rw [fillW_len hj]; exact hlt)) (List.getElem?_eq_getElem _)
            have q1 : wr.frozen? ⟨w3.heap.size, j, none⟩ = false := frozenAt hblk j
            have HN := Lib.hid (hblk.set j (j : Int))
            have HFN := Lib.hid (hfr.setCell (p := ⟨w3.heap.size, j, none⟩) (fun _ => rfl) (.int .i64 (j : Int)))
            clear hblk hfr hx
            go_wp2
            go_roundw
            case rel => exact ⟨j + 1, by go_num, by omega, by rw [← fillW_set hlt]; exact HN.out, HFN.out⟩
            case measure => simp [intOf]; omega
          · obtain rfl : j = n := by omega
            have hrow := hblk.row
            have hbx : wr.cell? ⟨w.heap.size, 0, none⟩ = some (.slice A j c) := (hfr.cell (p := ⟨w.heap.size, 0, none⟩) (by first | omega | (dsimp only; omega) | (simp; omega)) (by first | omega | (dsimp only; omega) | (simp; omega))).trans k4
            have HSR := Lib.hid (show SmpR wr w3.heap.size A j l from by
              have h1 : SmpR w3 w3.heap.size A j l := HR2.out.old HB3.out
              have h2 : Below w3.heap.size w3 wr := HF4.out.trans (hfr.below (by omega) (fun i hi => by first | omega | (dsimp only; omega) | (simp; omega)))
              exact h1.below h2 (Nat.le_refl _))
            have hrowc : RowC (dW l) j (.pointer (some ⟨w.heap.size, 0, none⟩)) wr w3.heap.size (List.range j) := ⟨hrow, fun x y X hx hy hf => by
              have hb : X.cell? ⟨w.heap.size, 0, none⟩ = some (.slice A j c) := (hf.cell (p := ⟨w.heap.size, 0, none⟩) (by first | omega | (dsimp only; omega) | (simp; omega)) (by first | omega | (dsimp only; omega) | (simp; omega))).trans hbx
              have hs : SmpR X w3.heap.size A j l := HSR.out.below (hf.below (by omega) (fun i hi => by first | omega | (dsimp only; omega) | (simp; omega))) (Nat.le_refl _)
              exact worstCmp_any A j c l x y w.heap.size w3.heap.size X hb hs hx hy⟩
            have HSO := Lib.hid (izSort_all (dW l) j (.pointer (some ⟨w.heap.size, 0, none⟩)) w3.heap.size j j (List.range j) wr hrowc List.length_range (by omega) ⟨StbW.range _ _, fun x hx => List.mem_range.1 hx⟩)
            have HBW := Lib.hid (show Below w.heap.size w wr from HST3.out.below.trans ((HF4.out.trans (hfr.below (B := w3.heap.size) (by omega) (fun i hi => by first | omega | (dsimp only; omega) | (simp; omega)))).mono HST3.out.below.size))
            clear hrow hrowc hblk hfr hbx HB HFR k4 k3
            go_wp2_with fail
            (with_reducible refine (HSO.out).mono ?_)
            rintro e w5 ⟨rfl, l', hrow5, hp5, hs5, hf5⟩
            have HE := Lib.hid (sorted_worst hp5 hs5)
            have HRW := Lib.hid hrow5.row
            have HF5 := Lib.hid hf5
            have HCL := Lib.hid (fun W => clipW_any (some ⟨w3.heap.size, 0, none⟩) m j W hmn)
            clear hrow5 hp5 hs5 hf5 HSO
            go_wp2_with fail
            (with_reducible refine (HCL.out _).mono ?_)
            rintro e w6 ⟨rfl, rfl⟩
            go_wp2
            go_ret2
            refine ⟨HBW.out.trans (HF5.out.below (B := w.heap.size) (by have := HBW.out.size; omega) (fun i hi => by have := HST3.out.below.size; have := hz3; omega)), .inr ⟨HC.out, some ⟨w3.heap.size, 0, none⟩, m, by rfl, ?_, fun _ => by obtain ⟨cur, hcu, _⟩ := HRW.out; exact ⟨_, _, _, _, rfl, hcu⟩⟩⟩
            rw [← HE.out]
            have := HRW.out.rdTake (k := m) (by rw [HE.out, worst_len]; exact hmn)
            exact this
  · have HC := Lib.hid (show codeWst n n k l = cc by unfold codeWst; rw [if_pos (by rw [← hcc]; exact hc0), hcc])
    have hcn : (cc != 0) = true := by simpa using hc0
    clear hcc
    go_wp2
    go_ret2
    exact ⟨HST3.out.below, .inl ⟨by rw [HC.out]; exact hc0, by rw [HC.out]; rfl⟩⟩
end Go.Proofs.YtjkoppdddaknlaaGreatDoor

/- The reference's SamplesFault: what it returns. -/
namespace Go.Proofs.YtjkoppdddaknlaaGreatDoor
open Go Go.RowKit Go.Proofs

set_option maxHeartbeats 4000000 in
set_option maxRecDepth 100000 in
theorem samplesFault_any (A : Option Addr) (n c : Nat) (l : List Smp) (w : World) (hr : SmpR w w.heap.size A n l) (hn : n ≤ maxLen) :
    Calls Tryz.prog 25 #[.slice A n c] w fun e w' => e = .returned (.int .i64 (codeS n l)) ∧ Below w.heap.size w w' := by
  have hl := hr.len
  unfold maxLen at hn
  have HR := Lib.hid hr
  have HL := Lib.hid hl
  clear hr hl
  by_cases h1 : 20000 < n
  · have HC := Lib.hid (show codeS n l = 3 by unfold codeS; rw [if_pos h1])
    go_enter Tryz.func25, Tryz.ntmps25
    go_wp2
    go_ret
    exact ⟨by rw [HC.out]; rfl, Below.refl _ _⟩
  · go_enter Tryz.func25, Tryz.ntmps25
    go_wp2
    go_loopw [3, 4] (fun i _ wr => ∃ k : Nat, k ≤ n ∧ i = .int .i64 k ∧ (∀ s ∈ l.take k, codeSmp s = 0) ∧ Below w.heap.size w wr) (fun i _ _ => n - (intOf i).toNat)
    case atStart => exact ⟨0, Nat.zero_le _, rfl, by simp, Below.refl _ _⟩
    case round =>
      obtain ⟨wo, hwo⟩ : ∃ wo : World, wo = wr := ⟨_, rfl⟩
      subst hwo
      obtain ⟨k, hk, rfl, hok, hbw⟩ := hrel
      have hsw := hbw.size
      have HOK := Lib.hid hok
      have HB := Lib.hid hbw
      clear hok
      by_cases hlt : k < n
      · obtain ⟨bk, o, ⟨a, d, sA, sn, sc, lab, sf⟩, rfl, hbk, hs, c0, c1, c2, c3⟩ := (HR.out.below hbw (Nat.le_refl _)).at hlt
        simp only at c0 c1 c2 c3
        obtain ⟨hrl, hsn⟩ := HR.out.2 _ (List.mem_of_getElem? hs)
        simp only at hrl hsn
        unfold maxLen at hsn
        have hll : lab.length = sn := by have := hrl.1; rw [strs2_length] at this; omega
        have HLL := Lib.hid hll
        have hbl : bk < wo.heap.size := by omega
        have HS := Lib.hid hs
        have HRL := Lib.hid hrl
        clear hs hbw hrl hll
        by_cases hbad : badT a d
        · have HC := Lib.hid (show codeS n l = 9 from (codeS_at h1 HS.out HOK.out (by unfold codeSmp; rw [if_pos hbad]; omega)).trans (by unfold codeSmp; rw [if_pos hbad]))
          by_cases d1 : a < 0
          · have d1' : decide (a < 0) = true := by simpa using d1
            go_wp2
            go_ret
            exact ⟨by rw [HC.out]; rfl, HB.out⟩
          · have d1' : decide (a < 0) = false := by simpa using d1
            by_cases d2 : 1000000000000 < a
            · have d2' : decide (1000000000000 < a) = true := by simpa using d2
              go_wp2
              go_ret
              exact ⟨by rw [HC.out]; rfl, HB.out⟩
            · have d2' : decide (1000000000000 < a) = false := by simpa using d2
              by_cases d3 : d < 0
              · have d3' : decide (d < 0) = true := by simpa using d3
                go_wp2
                go_ret
                exact ⟨by rw [HC.out]; rfl, HB.out⟩
              · have d3' : decide (d < 0) = false := by simpa using d3
                have d4 : 1000000000000 < d := by unfold badT at hbad; omega
                have d4' : decide (1000000000000 < d) = true := by simpa using d4
                clear hbad
                go_wp2
                go_ret
                exact ⟨by rw [HC.out]; rfl, HB.out⟩
        · have d1' : decide (a < 0) = false := by unfold badT at hbad; simp; omega
          have d2' : decide (1000000000000 < a) = false := by unfold badT at hbad; simp; omega
          have d3' : decide (d < 0) = false := by unfold badT at hbad; simp; omega
          have d4' : decide (1000000000000 < d) = false := by unfold badT at hbad; simp; omega
          have HCS := Lib.hid (show codeSmp ⟨a, d, sA, sn, sc, lab, sf⟩ = codeL lab by unfold codeSmp; rw [if_neg hbad])
          clear hbad
          go_wp2
          go_loopw [4] (fun i wq => ∃ j : Nat, (j ≤ sn ∨ j = 1) ∧ 1 ≤ j ∧ i = .int .i64 j ∧ (∀ i', 1 ≤ i' → i' < j → ordBad lab i' = false) ∧ Below wo.heap.size wo wq) (fun i _ => sn - (intOf i).toNat)
          case atStart => exact ⟨1, .inr rfl, Nat.le_refl _, rfl, fun i' h1 h2 => by omega, Below.refl _ _⟩
          case round =>
            obtain ⟨j, hj1, hj2, rfl, hjo, hbq⟩ := hrel
            have HJO := Lib.hid hjo
            have HBQ := Lib.hid hbq
            have hsz2 := hbq.size
            have k2 : wr.cell? ⟨bk, o + k * 4 + 2, none⟩ = some (.slice sA sn sc) := (hbq.cell (p := ⟨bk, o + k * 4 + 2, none⟩) hbl).trans c2
            have HBQ' := Lib.hid (show Below w.heap.size w wr from HB.out.trans (hbq.mono HB.out.size))
            clear hjo hbq
            by_cases hjl : j < sn
            · have hrl' := HRL.out.below HBQ'.out (Nat.le_refl _)
              obtain ⟨b1, o1, x, y, rfl, hb1, hxy, cx, _⟩ := rd_strs hrl' hjl
              obtain ⟨b2, o2, x', y', e, hb2, hxy', cx', _⟩ := rd_strs hrl' (show j - 1 < sn by omega)
              cases e
              have hob : ordBad lab j = strLeq x x' := by unfold ordBad; rw [List.getD_eq_getElem?_getD, hxy, List.getD_eq_getElem?_getD, hxy']; rfl
              have HOB := Lib.hid hob
              have k2d : wr.drew.cell? ⟨bk, o + k * 4 + 2, none⟩ = some (.slice (some ⟨b1, o1, none⟩) sn sc) := k2
              have cxd : wr.drew.cell? ⟨b1, o1 + j * 2, none⟩ = some (.string x) := cx
              have cxd' : wr.drew.cell? ⟨b1, o1 + (j - 1) * 2, none⟩ = some (.string x') := cx'
              clear hrl' hxy hxy' hob
              have hw1 : IntKind.i64.wrap ((j : Int) - 1) = (j : Int) - 1 := IntWalk.i64_in _ (by omega)
              have hw2 : ((j : Int) - 1).toNat = j - 1 := by omega
              have hk1 : (0 : Int) ≤ (j : Int) - 1 := by omega
              have hk3 : (j : Int) - 1 < (sn : Int) := by omega
              cases hle : strLeq x x' with
              | true =>
                have hle' : (Op.bytesLess x.toList x'.toList || x.toList == x'.toList) = true := hle
                have HC := Lib.hid (show codeS n l = 10 from (codeS_at h1 HS.out HOK.out (by rw [HCS.out, codeL_at hj2 (by rw [HLL.out]; exact hjl) (HOB.out.trans hle)]; omega)).trans (HCS.out.trans (codeL_at hj2 (by rw [HLL.out]; exact hjl) (HOB.out.trans hle))))
                clear hle
                go_wp2_with fail
                go_quiet (fail)
                go_wp2
                go_ret
                exact ⟨by rw [HC.out]; rfl, by first | exact HBQ'.out | exact below_drewN HBQ'.out _⟩
              | false =>
                have hle' : (Op.bytesLess x.toList x'.toList || x.toList == x'.toList) = false := hle
                clear hle
                go_wp2_with fail
                go_quiet (fail)
                clear hw1 hw2
                go_wp2
                go_roundw
                case rel => exact ⟨j + 1, .inl (by omega), by omega, by go_num, fun i' g1 g2 => by
                              by_cases e : i' = j
                              · subst e; exact HOB.out.trans hle'
                              · exact HJO.out i' g1 (by omega), by first | exact HBQ.out | exact below_drewN HBQ.out _⟩
                case measure => simp [intOf]; omega
            · have HN := Lib.hid (show codeSmp ⟨a, d, sA, sn, sc, lab, sf⟩ = 0 from HCS.out.trans (codeL_end (fun i' g1 g2 => HJO.out i' g1 (by have := HLL.out; omega))))
              go_wp2
              go_roundw
              case rel => exact ⟨k + 1, by omega, by go_num, fun s hs => by
                            rw [List.take_add_one, HS.out] at hs
                            simp only [Option.toList_some, List.mem_append, List.mem_singleton] at hs
                            rcases hs with hs | rfl
                            · exact HOK.out s hs
                            · exact HN.out, HBQ'.out⟩
              case measure => simp [intOf]; omega
      · have HC := Lib.hid (show codeS n l = 0 from codeS_end h1 (by have := HOK.out; rwa [List.take_of_length_le (by have := HL.out; omega)] at this))
        go_wp2
        go_ret
        exact ⟨by rw [HC.out]; rfl, hbw⟩
end Go.Proofs.YtjkoppdddaknlaaGreatDoor
