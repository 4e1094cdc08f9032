/- The reference's Worst. -/
import Derived.Test.YtjkoppdddaknlaaGreatDoorG18
import Derived.Maps.AppendAt
namespace Go.Proofs.YtjkoppdddaknlaaGreatDoor
open Go Go.RowKit Go.Proofs

/-- who is taken already -/
def takenL (d : Nat → Int) (n k : Nat) : List Bool := (List.range n).map fun i => decide (i ∈ (worst d n).take k)
theorem takenL_at {d : Nat → Int} {n k i : Nat} (h : i < n) : (takenL d n k)[i]? = some (decide (i ∈ (worst d n).take k)) := by
  unfold takenL; simp [h]
theorem takenL_len (d : Nat → Int) (n k : Nat) : (takenL d n k).length = n := by simp [takenL]
theorem takenL_set {d : Nat → Int} {n k b : Nat} (h : (worst d n)[k]? = some b) : (takenL d n k).set b true = takenL d n (k + 1) := by
  apply List.ext_getElem?
  intro i
  rw [List.getElem?_set]
  have e2 : (worst d n).take (k + 1) = (worst d n).take k ++ [b] := by rw [List.take_add_one, h]; rfl
  have hb : b < n := worst_mem.1 (List.mem_of_getElem? h)
  by_cases e : b = i
  · subst e
    rw [if_pos rfl, if_pos (by rw [takenL_len]; exact hb), takenL_at hb, e2]
    simp
  · rw [if_neg e]
    by_cases hi : i < n
    · rw [takenL_at hi, takenL_at hi, e2]
      have : i ≠ b := fun h => e h.symm
      simp [this]
    · rw [List.getElem?_eq_none (by rw [takenL_len]; omega), List.getElem?_eq_none (by rw [takenL_len]; omega)]
/-- block g holds these truths -/
def BBlk (w : World) (g : Nat) (o : List Bool) : Prop := w.heap[g]? = some (.cells (o.map Value.bool).toArray 4 (0, 0))
theorem made_falseW (n : Nat) : (madeCells #[Value.bool false] n).toList = (List.replicate n false).map Value.bool := by
  apply List.ext_getElem
  · simp [madeCells]
  · intro i h1 h2
    simp [madeCells, Nat.mod_one]
theorem BBlk.of_own {w : World} {base g n : Nat} {o : List Bool} (h : w.ownsRow base 4 1 (.slice (some ⟨g, 0, none⟩) n n) n (o.map Value.bool)) : BBlk w g o := by
  have hl : o.length = n := by have := h.1; simpa using this
  rcases h.2 with ⟨hv, _⟩ | ⟨g', cap, cur, hv, hb, hh, h1, h2, h3, h4⟩
  · cases hv
  · simp only [Value.slice.injEq, Option.some.injEq, Addr.mk.injEq] at hv
    obtain ⟨⟨rfl, _⟩, _, rfl⟩ := hv
    unfold BBlk
    rw [hh]
    have e : cur = (o.map Value.bool).toArray := by
      apply Array.toList_inj.1
      rw [← h4, List.take_of_length_le (by simp; omega)]
    rw [e]
theorem BBlk.set {w : World} {g : Nat} {o : List Bool} (h : BBlk w g o) (i : Nat) (d : Bool) : BBlk (w.setCell ⟨g, i, none⟩ (.bool d)) g (o.set i d) := by
  unfold BBlk at *
  simp only [World.setCell, Array.getElem?_modify, h, if_true, Option.map_some]
  congr 2
  rw [List.setIfInBounds_toArray]
  simp [List.map_set]
theorem BBlk.cell {w : World} {g : Nat} {o : List Bool} (h : BBlk w g o) {i : Nat} {d : Bool} (hi : o[i]? = some d) : w.cell? ⟨g, i, none⟩ = some (.bool d) := by
  rw [cellsAt h]; simp [hi]
theorem infoBW : (Tryz.prog.info? 4).map (fun i => (i.zero, i.size, i.bytes)) = some (some (.bool false), 1, 1) := by kernel_rfl
theorem takenL_zero (d : Nat → Int) (n : Nat) : takenL d n 0 = List.replicate n false := by
  unfold takenL
  apply List.ext_getElem
  · simp
  · intro i h1 h2
    simp
theorem izC_snoc (l : List Nat) (b : Nat) : izC (l ++ [b]) = izC l ++ [.int .i64 (b : Int)] := by simp [izC]
set_option maxHeartbeats 8000000 in
set_option maxRecDepth 100000 in
theorem rworst_any (A : Option Addr) (n c : Nat) (k : Int) (l : List Smp) (w : World) (hr : SmpR w w.heap.size A n l) (hn : n ≤ maxLen) (hk : -9223372036854775808 ≤ k ∧ k ≤ 9223372036854775807) :
    Calls Tryz.prog 9 #[.slice A n c, .int .i64 k] w (WPost n k l w) := by
  obtain ⟨i0, hi0, hz0, hz1, hz2⟩ := info_parts infoBW
  obtain ⟨ii, hii, hiz0, hiz1, hiz2⟩ := info_parts infoIW
  unfold maxLen at hn
  have hl := hr.len
  have HR := Lib.hid hr
  have HL := Lib.hid hl
  have HCK := Lib.hid (samplesFault_any A n c l w hr (by unfold maxLen; omega))
  clear hr hl
  go_enter Tryz.func9, Tryz.ntmps9
  go_wp2_with fail
  (with_reducible refine (HCK.out).mono ?_)
  rintro e w3 ⟨rfl, hb3⟩
  have HB3 := Lib.hid hb3
  clear hb3 HCK
  obtain ⟨cc, hcc⟩ : ∃ z, z = codeS n l := ⟨_, rfl⟩
  rw [← hcc]
  by_cases hc0 : cc = 0
  · subst hc0
    obtain ⟨hn2, hfine⟩ := codeS_zero hcc.symm
    by_cases hk1 : k < 0
    · have HC := Lib.hid (show codeWst n n k l = 9 by unfold codeWst; rw [if_neg (by rw [← hcc]; simp), if_pos (.inl hk1)])
      have hk1' : decide (k < 0) = true := by simpa using hk1
      clear hcc hfine
      go_wp2
      go_ret2
      exact ⟨HB3.out, .inl ⟨by rw [HC.out]; decide, by rw [HC.out]; rfl⟩⟩
    · have hk1' : decide (k < 0) = false := by simpa using hk1
      by_cases hk2 : (n : Int) < k
      · have HC := Lib.hid (show codeWst n n k l = 9 by unfold codeWst; rw [if_neg (by rw [← hcc]; simp), if_pos (.inr hk2)])
        have hk2' : decide ((n : Int) < k) = true := by simpa using hk2
        clear hcc hfine
        go_wp2
        go_ret2
        exact ⟨HB3.out, .inl ⟨by rw [HC.out]; decide, by rw [HC.out]; rfl⟩⟩
      · have HC := Lib.hid (show codeWst n n k l = 0 by unfold codeWst; rw [if_neg (by rw [← hcc]; simp), if_neg (by omega)])
        have hk2' : decide ((n : Int) < k) = false := by simpa using hk2
        obtain ⟨m, hm⟩ : ∃ m : Nat, k = m := ⟨k.toNat, by omega⟩
        subst hm
        have hmn : m ≤ n := by omega
        have hmn' : (m : Int) ≤ (n : Int) := by omega
        obtain ⟨d, hd⟩ : ∃ d, d = dW l := ⟨_, rfl⟩
        have HD := Lib.hid hd
        have HWL := Lib.hid (worst_len d n)
        clear hcc hfine hd
        go_wp2_with (at_make; refine wpList_make_full _ rfl (.tmp 26) (.tmp 26) 73 rfl w3.heap.size 4 i0 _ 1 Tryz.underlying73 hi0 hz0 hz1 .i64 .i64 _ _ n rfl rfl ?m1 ?m2 ?m3 ?m4 ?m5 ?_)
        case m1 => go_num
        case m2 => go_num
        case m3 => rw [hz2]; omega
        case m4 => unfold maxLen; omega
        case m5 => exact Nat.le_refl _
        intro w4 hown hgr
        rw [made_falseW, ← takenL_zero d n] at hown
        have HBK := Lib.hid (BBlk.of_own hown)
        have HF4 := Lib.hid (show Below w3.heap.size w3 w4 from (Below.refl _ w3).grown hgr (Nat.le_refl _) (fun k hk => by cases hk))
        clear hown hgr
        have hs4 : w3.heap.size < w4.heap.size := heap_lt HBK.out
        go_wp2
        go_loopw [7, 9, 10, 11] (fun out kk _ _ wr => ∃ (v : Value) (k : Nat), v = out ∧ kk = .int .i64 (k : Int) ∧ k ≤ m ∧ wr.ownsRow w4.heap.size 3 1 v k (izC ((worst d n).take k)) ∧ BBlk wr w3.heap.size (takenL d n k) ∧ Below w3.heap.size w3 wr ∧ w4.heap.size ≤ wr.heap.size) (fun _ kk _ _ _ => m - (intOf kk).toNat)
        case atStart => exact ⟨.slice none 0 0, 0, rfl, rfl, Nat.zero_le _, ⟨by simp [izC], .inl ⟨rfl, by simp⟩⟩, HBK.out, HF4.out, Nat.le_refl _⟩
        case round =>
          obtain ⟨wo, hwo⟩ : ∃ wo : World, wo = wr := ⟨_, rfl⟩
          subst hwo
          obtain ⟨v, k, rfl, rfl, hk, hown, hblk, hb, hsz⟩ := hrel
          have HO := Lib.hid hown
          have HBL := Lib.hid hblk
          have HB := Lib.hid hb
          have HBW := Lib.hid (show Below w.heap.size w wo from HB3.out.trans (hb.mono HB3.out.size))
          clear hown hblk hb
          by_cases hlt : k < m
          · have hltz : (k : Int) < (m : Int) := by omega
            have HX := Lib.hid (show ∃ x, (worst d n)[k]? = some x from ⟨_, List.getElem?_eq_getElem (by rw [HWL.out]; omega)⟩)
            go_wp2
            go_loopw [10, 11] (fun best iv wq => ∃ (i : Nat) (b : Int), iv = .int .i64 (i : Int) ∧ best = .int .i64 b ∧ i ≤ n ∧ BestW d n k i b ∧ Below wo.heap.size wo wq) (fun _ iv _ => n - (intOf iv).toNat)
            case atStart => exact ⟨0, -1, rfl, rfl, Nat.zero_le _, BestW.zero _ _ _, Below.refl _ _⟩
            case round =>
              obtain ⟨i, b, rfl, rfl, hi, hbest, hbq⟩ := hrel
              have HBE := Lib.hid hbest
              have HBQ := Lib.hid hbq
              have hsq := hbq.size
              by_cases hil : i < n
              · have hr2 := (HR.out.below (HBW.out.trans (hbq.mono HBW.out.size)) (Nat.le_refl _))
                obtain ⟨bk, o, s, rfl, hbk, hs, _, ci, _, _⟩ := hr2.at hil
                have hblk2 : BBlk wr w3.heap.size (takenL d n k) := (hbq.block _ (heap_lt HBL.out)).trans HBL.out
                have ct := hblk2.cell (takenL_at (d := d) (k := k) hil)
                have hds : d i = s.d := by rw [HD.out]; exact dW_at hs
                obtain ⟨di, hdi⟩ : ∃ z, z = s.d := ⟨_, rfl⟩
                rw [← hdi] at hds ci
                by_cases htk : i ∈ (worst d n).take k
                · rw [decide_eq_true htk] at ct
                  have HN := Lib.hid (HBE.out.taken htk)
                  clear hblk2 hr2 hbest hbq hs hds hdi htk
                  go_wp2_with fail
                  go_quiet (fail)
                  go_wp2
                  go_roundw
                  case rel => exact ⟨i + 1, b, by go_num, rfl, by omega, HN.out, by first | exact HBQ.out | exact below_drewN HBQ.out _⟩
                  case measure => simp [intOf]; omega
                · rw [decide_eq_false htk] at ct
                  by_cases hb0 : b < 0
                  · have hb0' : decide (b < 0) = true := by simpa using hb0
                    have HN := Lib.hid (HBE.out.first hb0 htk)
                    clear hblk2 hr2 hbest hbq hs hds hdi htk
                    go_wp2_with fail
                    go_quiet (fail)
                    go_wp2
                    go_roundw
                    case rel => exact ⟨i + 1, (i : Int), by go_num, rfl, by omega, HN.out, by first | exact HBQ.out | exact below_drewN HBQ.out _⟩
                    case measure => simp [intOf]; omega
                  · have hb0' : decide (b < 0) = false := by simpa using hb0
                    obtain ⟨bn, hbn⟩ : ∃ bn : Nat, b = bn := ⟨b.toNat, by omega⟩
                    subst hbn
                    have hbn : bn < n := by
                      rcases hbest with ⟨h1, _⟩ | ⟨b', h1, h2, _⟩
                      · omega
                      · have : bn = b' := by omega
                        omega
                    obtain ⟨bk', o', t, e, hbk', ht, _, cb, _, _⟩ := hr2.at hbn
                    cases e
                    have hdt : d bn = t.d := by rw [HD.out]; exact dW_at ht
                    obtain ⟨db, hdb⟩ : ∃ z, z = t.d := ⟨_, rfl⟩
                    rw [← hdb] at hdt cb
                    have hbz : (0 : Int) ≤ (bn : Int) := by omega
                    have hbz2 : (bn : Int) < (n : Int) := by omega
                    by_cases hmore : db < di
                    · have hmore' : decide (db < di) = true := by simpa using hmore
                      have HN := Lib.hid (HBE.out.more (by rw [hdt, hds]; exact hmore) htk)
                      clear hblk2 hr2 hbest hbq hs hds hdi htk hb0 ht hdt hdb hmore
                      go_wp2_with fail
                      go_quiet (fail)
                      go_wp2
                      go_roundw
                      case rel => exact ⟨i + 1, (i : Int), by go_num, rfl, by omega, HN.out, by first | exact HBQ.out | exact below_drewN HBQ.out _⟩
                      case measure => simp [intOf]; omega
                    · have hmore' : decide (db < di) = false := by simpa using hmore
                      have HN := Lib.hid (HBE.out.less (by rw [hdt, hds]; exact hmore))
                      clear hblk2 hr2 hbest hbq hs hds hdi htk hb0 ht hdt hdb hmore
                      go_wp2_with fail
                      go_quiet (fail)
                      go_wp2
                      go_roundw
                      case rel => exact ⟨i + 1, (bn : Int), by go_num, rfl, by omega, HN.out, by first | exact HBQ.out | exact below_drewN HBQ.out _⟩
                      case measure => simp [intOf]; omega
              · obtain rfl : i = n := by omega
                obtain ⟨bn, hbn, hwk⟩ := hbest.done (by omega)
                subst hbn
                have hbnn : bn < i := worst_mem.1 (List.mem_of_getElem? hwk)
                have hbz : (0 : Int) ≤ (bn : Int) := by omega
                have hbz2 : (bn : Int) < (i : Int) := by omega
                have hblk2 : BBlk wr w3.heap.size (takenL d i k) := (hbq.block _ (heap_lt HBL.out)).trans HBL.out
                have q0 := hblk2.cell (i := bn) (takenL_at (d := d) (k := k) hbnn)
                have q1 : wr.frozen? ⟨w3.heap.size, bn, none⟩ = false := frozenAt hblk2 bn
                obtain ⟨W5, hW5⟩ : ∃ W5, W5 = wr.setCell ⟨w3.heap.size, bn, none⟩ (.bool true) := ⟨_, rfl⟩
                have hf5 : Fr (fun q => q = w3.heap.size) wr W5 := by rw [hW5]; exact (Fr.refl (fun q => q = w3.heap.size) wr).setCell (p := ⟨w3.heap.size, bn, none⟩) (fun _ => rfl) _
                have HB5 := Lib.hid (show BBlk W5 w3.heap.size (takenL d i (k + 1)) from by rw [hW5, ← takenL_set hwk]; exact hblk2.set bn true)
                have HO5 := Lib.hid (show W5.ownsRow w4.heap.size 3 1 v k (izC ((worst d i).take k)) from ownsRow_fr (ownsRow_fr HO.out (Fr.of_below hbq) (fun i hi => by have := ownsRow_block HO.out hi; omega)) hf5 (fun i hi => by have := ownsRow_block HO.out hi; omega))
                have hs5 : W5.heap.size = wr.heap.size := by rw [hW5]; simp
                have HBW5 := Lib.hid (show Below w3.heap.size w3 W5 from (HB.out.trans (hbq.mono (by omega))).trans (hf5.below (by omega) (fun i hi => by omega)))
                have HTK := Lib.hid (show izC ((worst d i).take (k + 1)) = izC ((worst d i).take k) ++ [.int .i64 (bn : Int)] by rw [List.take_add_one, hwk]; exact izC_snoc _ _)
                have HS5 := Lib.hid hs5
                have hs5l : wr.heap.size ≤ W5.heap.size := by omega
                clear hblk2 hbest hbq hwk hf5 HBE HBQ hs5
                go_upto_region 18 with fail
                rw [← hW5]
                clear hW5
                go_wp2_with (at_builtin; refine wpList_append_own _ rfl (.tmp 65) (.tmp 67) 34 rfl w4.heap.size 3 ii _ 1 8 Tryz.underlying34 hii hiz0 hiz1 hiz2 rfl (by decide) _ k _ rfl (HO5.out.alloc _) ⟨W5.heap.size, 0, none⟩ 1 1 [.int .i64 (bn : Int)] rfl rfl (cell_one_new W5 _ 3) (by simp [Value.oneCell']) ?c3 ?c4 ?c5 ?_)
                case c3 => unfold maxLen; omega
                case c4 => omega
                case c5 => simp; omega
                intro v' w6 hown6 hgrow6 _
                have hf6 := (((Fr.refl (fun i => some i = v.ownBlock) W5).alloc (.cells #[.int .i64 (bn : Int)] 3)).trans (Fr.of_grown hgrow6) (fun i _ h => h))
                have hs6 := hf6.size
                have HB6 := Lib.hid (show BBlk w6 w3.heap.size (takenL d i (k + 1)) from (hf6.block _ (by omega) (fun h => by have := ownsRow_block HO5.out h; omega)).trans HB5.out)
                have HBW6 := Lib.hid (show Below w3.heap.size w3 w6 from HBW5.out.trans (hf6.below (by omega) (fun i hi h => by have := ownsRow_block HO5.out h; omega)))
                have HO6 := Lib.hid hown6
                clear hown6 hgrow6 hf6
                go_wp2
                go_roundw
                case rel => exact ⟨v', k + 1, rfl, by go_num, by omega, by rw [HTK.out]; exact HO6.out, HB6.out, HBW6.out, by omega⟩
                case measure => simp [intOf]; omega
          · obtain rfl : k = m := by omega
            obtain ⟨Av, cv, rfl, _, _, _⟩ := ownsRow_shape HO.out
            have HRD := Lib.hid ((Rd.of_own HO.out).more (Nat.zero_le _) (Nat.le_refl _))
            have HTY := Lib.hid (TyB.of_own HO.out)
            go_wp2
            go_ret2
            refine ⟨HBW.out, .inr ⟨HC.out, Av, cv, by rfl, ?_, HTY.out⟩⟩
            rw [← HD.out]
            exact HRD.out
  · have HC := Lib.hid (show codeWst n n k l = cc by unfold codeWst; rw [if_pos (by rw [← hcc]; exact hc0), hcc])
    have hcn : (cc != 0) = true := by simpa using hc0
    clear hcc
    go_wp2
    go_ret2
    exact ⟨HB3.out, .inl ⟨by rw [HC.out]; exact hc0, by rw [HC.out]; rfl⟩⟩
end Go.Proofs.YtjkoppdddaknlaaGreatDoor
