/- The reference's Group. -/
import Derived.Test.YtjkoppdddaknlaaGreatDoorG34
import Derived.Test.YtjkoppdddaknlaaGreatDoorMore
import Derived.Test.YtjkoppdddaknlaaGreatDoorG18
import Derived.Test.YtjkoppdddaknlaaGreatDoorG36
import Derived.Test.YtjkoppdddaknlaaGreatDoorG28
import Derived.Deep.AppendLies
import Derived.Deep.RegionHeld3
import Derived.StillTailTactics
import Derived.Deep.CutRange
namespace Go.Proofs.YtjkoppdddaknlaaGreatDoor
open Go Go.RowKit Go.Proofs

/-- the values of a sample's labels -/
def kfL (keys : List ByteArray) (l : List Smp) (j : Nat) : List ByteArray := keys.map (labV (l.getD j default).lab)
def flW (l : List Smp) (i : Nat) : Bool := (l.getD i default).f
theorem flW_at {l : List Smp} {i : Nat} {s : Smp} (h : l[i]? = some s) : flW l i = s.f := by unfold flW; rw [List.getD_eq_getElem?_getD, h]; rfl
theorem kfL_at {keys : List ByteArray} {l : List Smp} {i : Nat} {s : Smp} (h : l[i]? = some s) : kfL keys l i = keys.map (labV s.lab) := by unfold kfL; rw [List.getD_eq_getElem?_getD, h]; rfl
open Classical in
/-- the code that Group returns -/
noncomputable def codeG (n : Nat) (l : List Smp) (keys : List ByteArray) : Int := if codeS n l ≠ 0 then codeS n l else if 5 < keys.length then 3 else if keys.Nodup then 0 else 5
/-- what Group returns -/
def GPost (n : Nat) (l : List Smp) (keys : List ByteArray) (w : World) (e : Ending) (w' : World) : Prop :=
  Below w.heap.size w w' ∧ ((codeG n l keys ≠ 0 ∧ e = .returned (.tuple #[.slice none 0 0, .int .i64 (codeG n l keys)])) ∨
    (codeG n l keys = 0 ∧ ∃ A c L, e = .returned (.tuple #[.slice A (L : List RowX).length c, .int .i64 0]) ∧ GrR w' A L ∧ GrOk (kfL keys l) (dW l) (flW l) n (L.map RowX.gr)))
theorem infoSt : (Tryz.prog.info? 9).map (fun i => (i.zero, i.size, i.bytes)) = some (some (.string ⟨#[]⟩), 1, 16) := by kernel_rfl
theorem infoRw : (Tryz.prog.info? 64).map (fun i => (i.zero, i.size, i.bytes)) = some (some (.agg #[.slice none 0 0, .int .i64 0, .slice none 0 0, .int .i64 0]), 4, 64) := by kernel_rfl
theorem rowZ (W : World) : (Instr.build 64 #[]).run Tryz.prog W = .ok (.agg #[.slice none 0 0, .int .i64 0, .slice none 0 0, .int .i64 0]) W := by kernel_rfl
theorem histZ (W : World) : (Instr.build 61 #[(0, .int .i64 8)]).run Tryz.prog W = .ok (.agg #[.int .i64 8, .slice none 0 0]) W := by kernel_rfl
theorem rowN (A : Option Addr) (n c : Nat) (W : World) : (Instr.build 64 #[(0, .slice A n c), (1, .agg #[.int .i64 8, .slice none 0 0])]).run Tryz.prog W = .ok (.agg #[.slice A n c, .int .i64 8, .slice none 0 0, .int .i64 0]) W := by kernel_rfl
theorem strC_snoc (a : List ByteArray) (s : ByteArray) : strC (a ++ [s]) = strC a ++ [.string s] := by simp [strC]
set_option maxHeartbeats 16000000 in
set_option maxRecDepth 100000 in
theorem rgroup_any (A Ak : Option Addr) (n c ck : Nat) (l : List Smp) (keys : List ByteArray) (w : World) (hr : SmpR w w.heap.size A n l) (hn : n ≤ maxLen) (hk : Rd w 0 w.heap.size 1 Ak keys.length (strC keys)) (hkl : keys.length ≤ maxLen) :
    Calls Tryz.prog 5 #[.slice A n c, .slice Ak keys.length ck] w (GPost n l keys w) := by
  obtain ⟨is, his, hsz0, hsz1, hsz2⟩ := info_parts infoSt
  obtain ⟨ir, hir, hrz0, hrz1, hrz2⟩ := info_parts infoRw
  have HSZR := Lib.hid (show (Tryz.prog.info? 64).map (·.size) = some 4 by rw [hir]; exact congrArg some hrz1)
  unfold maxLen at hn hkl
  have hl := hr.len
  have HR := Lib.hid hr
  have HL := Lib.hid hl
  have HK := Lib.hid hk
  have HCK := Lib.hid (samplesFault_any A n c l w hr (by unfold maxLen; omega))
  obtain ⟨m, hm⟩ : ∃ m, m = keys.length := ⟨_, rfl⟩
  have HM := Lib.hid hm
  rw [← hm] at hkl ⊢
  have mixed : Tryz.prog.follows Departure.mixedOrders = true := by kernel_rfl
  clear hr hl hk hm
  go_enter Tryz.func5, Tryz.ntmps5
  go_wp2_with fail
  (with_reducible refine (HCK.out).mono ?_)
  rintro e w1 ⟨rfl, hb1⟩
  have HB1 := Lib.hid hb1
  clear hb1 HCK
  obtain ⟨cc, hcc⟩ : ∃ z, z = codeS n l := ⟨_, rfl⟩
  rw [← hcc]
  by_cases hc0 : cc = 0
  · subst hc0
    obtain ⟨hn2, hfine⟩ := codeS_zero hcc.symm
    have HF := Lib.hid hfine
    have HCC := Lib.hid hcc
    clear hcc hfine
    by_cases hm5 : 5 < m
    · have HC := Lib.hid (show codeG n l keys = 3 by unfold codeG; rw [if_neg (by rw [← HCC.out]; simp), if_pos (by rw [← HM.out]; exact hm5)])
      have hm5z : (5 : Int) < (m : Int) := by omega
      go_wp2
      go_ret2
      exact ⟨HB1.out, .inl ⟨by rw [HC.out]; decide, by rw [HC.out]; rfl⟩⟩
    · have hm5z : ¬ (5 : Int) < (m : Int) := by omega
      have HKC := Lib.hid (show ∀ W, Below w.heap.size w W → ∀ i x, keys[i]? = some x → ∃ b o, Ak = some ⟨b, o, none⟩ ∧ b < w.heap.size ∧ W.cell? ⟨b, o + i, none⟩ = some (.string x) from fun W hW i x hx => by
        have hi := (List.getElem?_eq_some_iff.1 hx).1
        obtain ⟨b, o, z, e, hb, hz, hc⟩ := (HK.out.below hW (Nat.le_refl _)).atS hi
        rw [hx] at hz
        cases hz
        exact ⟨b, o, e, hb, hc⟩)
      go_wp2
      go_loopw [7, 8] (fun iv _ wr => ∃ i : Nat, iv = .int .i64 (i : Int) ∧ i ≤ m ∧ (keys.take i).Nodup ∧ Below w.heap.size w wr) (fun iv _ _ => m - (intOf iv).toNat)
      case atStart => exact ⟨0, rfl, Nat.zero_le _, by simp, HB1.out⟩
      case round =>
        obtain ⟨i, rfl, hi, hnd, hbw⟩ := hrel
        have HND := Lib.hid hnd
        have HBW := Lib.hid hbw
        clear hnd hbw
        by_cases him : i < m
        · obtain ⟨x, hx⟩ : ∃ x, keys[i]? = some x := ⟨_, List.getElem?_eq_getElem (by rw [← HM.out]; exact him)⟩
          have HX := Lib.hid hx
          have himz : (i : Int) < (m : Int) := by omega
          clear hx
          go_wp2
          go_loopw [8] (fun kv wr => ∃ k : Nat, kv = .int .i64 (k : Int) ∧ k ≤ i ∧ (∀ y ∈ keys.take k, y ≠ x) ∧ Below w.heap.size w wr) (fun kv _ => i - (intOf kv).toNat)
          case atStart => exact ⟨0, rfl, Nat.zero_le _, by simp, HBW.out⟩
          case round =>
            obtain ⟨k, rfl, hki, hne, hbw⟩ := hrel
            have HNE := Lib.hid hne
            have HB2 := Lib.hid hbw
            clear hne
            by_cases hlt : k < i
            · obtain ⟨y, hy⟩ : ∃ y, keys[k]? = some y := ⟨_, List.getElem?_eq_getElem (by rw [← HM.out]; omega)⟩
              have HY := Lib.hid hy
              obtain ⟨b, o, e, hb, ky⟩ := HKC.out wr hbw k y hy
              obtain ⟨b', o', e', _, kx⟩ := HKC.out wr hbw i x HX.out
              rw [e] at e'
              cases e'
              subst e
              have kyd : wr.drew.cell? ⟨b, o + k, none⟩ = some (.string y) := ky
              have kxd : wr.drew.cell? ⟨b, o + i, none⟩ = some (.string x) := kx
              have hltz : (k : Int) < (i : Int) := by omega
              have hkmz : (k : Int) < (m : Int) := by omega
              clear hy hbw
              cases hq : (y.toList == x.toList) with
              | true =>
                have HC := Lib.hid (show codeG n l keys = 5 by
                  have he : y = x := ba_inj (by simpa using hq)
                  unfold codeG
                  rw [if_neg (by rw [← HCC.out]; simp), if_neg (by rw [← HM.out]; omega), if_neg]
                  intro hd
                  obtain ⟨h1, h2⟩ := List.getElem?_eq_some_iff.1 HY.out
                  obtain ⟨h3, h4⟩ := List.getElem?_eq_some_iff.1 HX.out
                  have := (List.getElem_inj hd (h₀ := h1) (h₁ := h3)).1 (by rw [h2, h4, he])
                  omega)
                go_wp2_with fail
                go_quiet (fail)
                go_wp2
                go_ret2
                exact ⟨below_drewN HB2.out _, .inl ⟨by rw [HC.out]; decide, by rw [HC.out]; rfl⟩⟩
              | false =>
                have HN2 := Lib.hid (show ∀ z ∈ keys.take (k + 1), z ≠ x from fun z hz => by
                  rw [List.take_add_one, HY.out] at hz
                  simp only [Option.toList_some, List.mem_append, List.mem_singleton] at hz
                  rcases hz with hz | rfl
                  · exact HNE.out z hz
                  · intro e; subst e; simp at hq)
                go_wp2_with fail
                go_quiet (fail)
                go_wp2
                go_roundw
                case rel => exact ⟨k + 1, by go_num, by omega, HN2.out, below_drewN HB2.out _⟩
                case measure => simp [intOf]; omega
            · obtain rfl : k = i := by omega
              have HND2 := Lib.hid (show (keys.take (k + 1)).Nodup by
                rw [List.take_add_one, HX.out]
                show (keys.take k ++ [x]).Nodup
                rw [List.nodup_append]
                exact ⟨HND.out, by simp, fun a ha b hb => by
                  simp only [List.mem_singleton] at hb
                  subst hb
                  exact HNE.out a ha⟩)
              clear hbw
              go_wp2
              go_roundw
              case rel => exact ⟨k + 1, by go_num, by omega, HND2.out, HB2.out⟩
              case measure => simp [intOf]; omega
        · obtain rfl : i = m := by omega
          have HCZ := Lib.hid (show codeG n l keys = 0 by
            unfold codeG
            have := HND.out
            rw [List.take_of_length_le (by rw [← HM.out]; exact Nat.le_refl _)] at this
            rw [if_neg (by rw [← HCC.out]; simp), if_neg (by rw [← HM.out]; omega), if_pos this])
          obtain ⟨wS, hwS⟩ : ∃ W : World, W = wr := ⟨_, rfl⟩
          subst hwS
          have hsS := HBW.out.size
          clear HND
          go_wp2
          go_loopw [9, 10, 11, 12, 13] (fun ov iv _ _ _ wr => ∃ (v : Value) (L : List RowX) (j : Nat), v = ov ∧ iv = .int .i64 (j : Int) ∧ j ≤ n ∧ L.length ≤ j ∧ RowW wr wS.heap.size v L ∧ GrOk (kfL keys l) (dW l) (flW l) j (L.map RowX.gr) ∧ Below wS.heap.size wS wr) (fun _ iv _ _ _ _ => n - (intOf iv).toNat)
          case atStart => exact ⟨.slice none 0 0, [], 0, rfl, rfl, Nat.zero_le _, Nat.le_refl _, ⟨⟨rfl, .inl ⟨rfl, rfl⟩⟩, fun r h => by cases h⟩, GrOk.zero, Below.refl _ _⟩
          case round =>
            obtain ⟨wo, hwo⟩ : ∃ W : World, W = wr := ⟨_, rfl⟩
            subst hwo
            obtain ⟨v, L, j, rfl, rfl, hj, hLj, hrw, hok, hbw⟩ := hrel
            have hszo := hbw.size
            have HRW := Lib.hid hrw
            have HOK := Lib.hid hok
            have HBO := Lib.hid hbw
            have HBWO := Lib.hid (show Below w.heap.size w wo from HBW.out.trans (hbw.mono hsS))
            clear hrw hok hbw
            by_cases hjn : j < n
            · have HSM := Lib.hid (show ∃ s, l[j]? = some s from ⟨_, List.getElem?_eq_getElem (by rw [HL.out]; exact hjn)⟩)
              obtain ⟨⟨a, d, sA, sn, sc, lab, sf⟩, hs⟩ := HSM.out
              have HS := Lib.hid hs
              have hfi := HF.out _ (List.mem_of_getElem? hs)
              simp only at hfi
              have hrl := (HR.out.2 _ (List.mem_of_getElem? hs))
              simp only at hrl
              obtain ⟨hrl1, hrl2⟩ := hrl
              have HLAB := Lib.hid (show ∀ W, Below w.heap.size w W → Rd W 0 W.heap.size 2 sA sn (strs2 lab) from fun W hW => (hrl1.below hW (Nat.le_refl _)).more (Nat.le_refl _) hW.size)
              have HSC := Lib.hid (show ∀ W, Below w.heap.size w W → ∃ b o, A = some ⟨b, o, none⟩ ∧ b < w.heap.size ∧ W.cell? ⟨b, o + j * 4, none⟩ = some (.int .i64 a) ∧ W.cell? ⟨b, o + j * 4 + 1, none⟩ = some (.int .i64 d) ∧ W.cell? ⟨b, o + j * 4 + 2, none⟩ = some (.slice sA sn sc) ∧ W.cell? ⟨b, o + j * 4 + 3, none⟩ = some (.bool sf) from fun W hW => by
                obtain ⟨b, o, s, e, hb, hs', q0, q1, q2, q3⟩ := (HR.out.below hW (Nat.le_refl _)).at hjn
                rw [HS.out] at hs'
                cases hs'
                exact ⟨b, o, e, hb, q0, q1, q2, q3⟩)
              obtain ⟨bs, os, hA, hbs, -, -, -, -⟩ := HSC.out wo HBWO.out
              subst hA
              have HSC2 := Lib.hid (show ∀ W, Below w.heap.size w W → W.cell? ⟨bs, os + j * 4, none⟩ = some (.int .i64 a) ∧ W.cell? ⟨bs, os + j * 4 + 1, none⟩ = some (.int .i64 d) ∧ W.cell? ⟨bs, os + j * 4 + 2, none⟩ = some (.slice sA sn sc) ∧ W.cell? ⟨bs, os + j * 4 + 3, none⟩ = some (.bool sf) from fun W hW => by
                obtain ⟨b, o, e, _, q⟩ := HSC.out W hW
                cases e
                exact q)
              have HKF := Lib.hid (kfL_at (keys := keys) hs)
              simp only at HKF
              clear hs hrl1 hrl2 HSM HSC
              have hjnz : (j : Int) < (n : Int) := by omega
              go_wp2
              go_loopw [11, 12] (fun vv kv wq => ∃ (v2 : Value) (k : Nat), v2 = vv ∧ kv = .int .i64 (k : Int) ∧ k ≤ i ∧ wq.ownsRow wo.heap.size 9 1 v2 k (strC ((keys.map (labV lab)).take k)) ∧ Below wo.heap.size wo wq) (fun _ kv _ => i - (intOf kv).toNat)
              case atStart => exact ⟨.slice none 0 0, 0, rfl, rfl, Nat.zero_le _, ⟨by simp [strC], .inl ⟨rfl, rfl⟩⟩, Below.refl _ _⟩
              case round =>
                obtain ⟨v2, k, rfl, rfl, hki, hown, hbq⟩ := hrel
                have HO := Lib.hid hown
                have HBQ := Lib.hid hbq
                have hsq := hbq.size
                have hbww : Below w.heap.size w wr := HBWO.out.trans (hbq.mono HBWO.out.size)
                have HBWW := Lib.hid hbww
                clear hown hbq
                by_cases hlt : k < i
                · obtain ⟨x, hx⟩ : ∃ x, keys[k]? = some x := ⟨_, List.getElem?_eq_getElem (by rw [← HM.out]; exact hlt)⟩
                  obtain ⟨b, o, hAk, hb, kx⟩ := HKC.out wr hbww k x hx
                  subst hAk
                  obtain ⟨c0, c1, c2, c3⟩ := HSC2.out wr hbww
                  have kxd : wr.drew.cell? ⟨b, o + k, none⟩ = some (.string x) := kx
                  have c0d : wr.drew.cell? ⟨bs, os + j * 4, none⟩ = some (.int .i64 a) := c0
                  have c1d : wr.drew.cell? ⟨bs, os + j * 4 + 1, none⟩ = some (.int .i64 d) := c1
                  have c2d : wr.drew.cell? ⟨bs, os + j * 4 + 2, none⟩ = some (.slice sA sn sc) := c2
                  have c3d : wr.drew.cell? ⟨bs, os + j * 4 + 3, none⟩ = some (.bool sf) := c3
                  have HLB := Lib.hid (show ∀ W, Below w.heap.size w W → _ from fun W hW => rlabel_any a d sA sn sc lab sf x W (HLAB.out W hW) (HR.out.2 _ (List.mem_of_getElem? HS.out)).2)
                  have HTK := Lib.hid (show strC (((keys.map (labV lab)).take (k + 1))) = strC ((keys.map (labV lab)).take k) ++ [.string (labV lab x)] by
                    rw [List.take_add_one, List.getElem?_map, hx]
                    exact strC_snoc _ _)
                  have HBR := Lib.hid (Below.refl wr.heap.size wr)
                  have HOF := Lib.hid (show ∀ W, Below wr.heap.size wr W → _ from fun W hW => ownsRow_fr HO.out (Fr.of_below hW) (fun i hi hm => by have := ownsRow_block HO.out hi; omega))
                  have hltz : (k : Int) < (i : Int) := by omega
                  clear hx hbww
                  go_wp2
                  go_region_law
                    (first
                      | (go_simp; go_at_call 26; refine (HLB.out _ ?_).mono ?_; (first | exact HBWW.out | exact HBWW.out.drew); rintro e w5 ⟨rfl, hbC⟩; have hb5 : Below wr.heap.size wr w5 := below_next (by first | exact HBR.out | exact HBR.out.drew) hbC; try go_simp)
                      | (refine step_append_lies _ (by rfl) _ _ _ (by rfl) wo.heap.size 9 is _ 1 16 Tryz.underlying23 his hsz0 hsz1 hsz2 rfl (by omega) v2 k _ (by rfl) (by first | exact (HOF.out _ hb5).alloc _ | exact ((HOF.out _ hb5).alloc _).drew) ⟨w5.heap.size, 0, none⟩ 1 1 [.string (labV lab x)] (by rfl) (by rfl) (World.news_of_block (cs := #[.string (labV lab x)]) (t := 9) (fr := (0, 0)) (heap_alloc_new w5 _)) (by intro u hu; simp only [List.mem_singleton] at hu; subst hu; rfl) (by omega) (by unfold maxLen; omega) (by omega) (by have := hb5.size; show wo.heap.size ≤ (w5.heap.push _).size; simp <;> omega) (w5.heap.size + 1) (by simp) ?_; intro g cap w6 hown' hgrow hat hlt6))
                  all_goals
                    have hgrow' : (w5.alloc (.cells #[.string (labV lab x)] 9)).grownBy w6 v2.ownBlock := ⟨hgrow.os, hgrow.tape, hgrow.output, hgrow.size, hgrow.block⟩
                    have hs5 := hb5.size
                    have hf6 := (((Fr.refl (fun i => some i = v2.ownBlock) w5).alloc (.cells #[.string (labV lab x)] 9)).trans (Fr.of_grown hgrow') (fun i _ h => h))
                    have HO6 := Lib.hid hown'
                    have HB6 := Lib.hid (show Below wo.heap.size wo w6 from (HBQ.out.trans (hb5.mono hsq)).trans ((hf6.below (B := wo.heap.size) (by omega) (fun i hi h => by have := ownsRow_block HO.out h; omega)) ))
                    clear hown' hgrow hgrow' hf6 hat
                    go_wp2
                    go_roundw
                    case rel => exact ⟨_, k + 1, rfl, by go_num, by omega, by rw [HTK.out]; exact HO6.out, HB6.out⟩
                    case measure => simp [intOf]; omega
                · obtain rfl : k = i := by omega
                  obtain ⟨vA, vcap, rfl, _, _, _⟩ := ownsRow_shape HO.out
                  have hkk : (keys.map (labV lab)).take k = keys.map (labV lab) := List.take_of_length_le (by rw [List.length_map, ← HM.out]; exact Nat.le_refl _)
                  obtain ⟨kv, hkv⟩ : ∃ kv, kv = kfL keys l j := ⟨_, rfl⟩
                  have HKV := Lib.hid hkv
                  have hkl2 : kv.length = k := by rw [hkv, HKF.out, List.length_map, ← HM.out]
                  have HVR := Lib.hid (show Rd wr wo.heap.size wr.heap.size 1 vA k (strC kv) by
                    have := Rd.of_own HO.out
                    rw [hkk, ← HKF.out, ← hkv] at this
                    exact this)
                  have HKL2 := Lib.hid hkl2
                  have HKO := Lib.hid (show ∀ r ∈ L, r.vals.length = k from fun r hr => by
                    have h1 := (HOK.out.1.2 (ky r.vals)).1 (List.mem_map.2 ⟨r.gr, List.mem_map.2 ⟨r, hr, rfl⟩, rfl⟩)
                    obtain ⟨q, _, e⟩ := h1
                    have e2 : kfL keys l q = r.vals := ky_inj e
                    rw [← e2]
                    unfold kfL
                    rw [List.length_map, ← HM.out])
                  have HRW2 := Lib.hid (HRW.out.on HBQ.out)
                  obtain ⟨Ao, co, ho, _, _, _⟩ := ownsRow_shape HRW.out.1
                  subst ho
                  obtain ⟨N, hN⟩ : ∃ N, N = L.length := ⟨_, rfl⟩
                  have HN := Lib.hid hN
                  have hNj : N ≤ j := by omega
                  have HRV := Lib.hid (show RowW wr wS.heap.size (.slice Ao N co) L by rw [hN]; exact HRW2.out)
                  have HVB := Lib.hid (show ∀ b, some b = (Value.slice Ao N co).ownBlock → wS.heap.size ≤ b ∧ b < wo.heap.size from fun b hb => by rw [hN] at hb; exact ownsRow_block HRW.out.1 hb)
                  have HKJ := Lib.hid (show kv = kfL keys l j from hkv)
                  rw [← hN]
                  clear hkk hkv hkl2 hN HRW2 HRW
                  obtain ⟨wv, hwv⟩ : ∃ W : World, W = wr := ⟨_, rfl⟩
                  subst hwv
                  go_wp2_with fail
                  go_loopw [13] (fun iv W => ∃ q : Nat, iv = .int .i64 (q : Int) ∧ q ≤ N ∧ (∀ j' r, j' < q → L[j']? = some r → ky r.vals < ky kv) ∧ Below wv.heap.size wv W) (fun iv _ => N - (intOf iv).toNat)
                  case atStart => exact ⟨0, rfl, Nat.zero_le _, fun _ _ h => absurd h (Nat.not_lt_zero _), Below.refl _ _⟩
                  case round =>
                    obtain ⟨q, rfl, hqN, hah, hbz⟩ := hrel
                    have HAH := Lib.hid hah
                    have HBZ := Lib.hid hbz
                    have HRZ := Lib.hid (HRV.out.on hbz)
                    clear hah hbz
                    by_cases hlt : q < N
                    · obtain ⟨r, hr⟩ : ∃ r, L[q]? = some r := ⟨_, List.getElem?_eq_getElem (by rw [← HN.out]; exact hlt)⟩
                      have HRG := Lib.hid hr
                      obtain ⟨g, cap, R, hv, hg0, _, _, _, _, _⟩ := own_block HRZ.out.1 (show 0 < L.length by rw [← HN.out]; omega)
                      obtain ⟨rfl, rfl⟩ : Ao = some ⟨g, 0, none⟩ ∧ co = cap := by
                        simp only [Value.slice.injEq] at hv
                        exact ⟨hv.1, hv.2.2⟩
                      have HRC := Lib.hid (show ∀ W, Below wv.heap.size wv W → W.cell? ⟨g, q * 4, none⟩ = some (.slice r.vA r.vals.length r.vc) ∧ W.cell? ⟨g, q * 4 + 1, none⟩ = some (.int .i64 8) ∧ W.cell? ⟨g, q * 4 + 2, none⟩ = some (.slice r.hA r.cs.length r.hc) ∧ W.cell? ⟨g, q * 4 + 3, none⟩ = some (.int .i64 r.f) from fun W hW => by
                        obtain ⟨b, o, r', e, _, hr', q0, q1, q2, q3⟩ := ((HRV.out.on hW).rd HN.out).at (show q < L.length by rw [← HN.out]; exact hlt)
                        rw [HRG.out] at hr'
                        cases hr'
                        cases e
                        simp only [Nat.zero_add] at q0 q1 q2 q3
                        exact ⟨q0, q1, q2, q3⟩)
                      obtain ⟨cv, hcv⟩ : ∃ cv, cv = cmpT r.vals kv := ⟨_, rfl⟩
                      have HCV := Lib.hid hcv
                      have HCP := Lib.hid (show ∀ W, Below wv.heap.size wv W → Calls Tryz.prog 27 #[.slice r.vA r.vals.length r.vc, .slice vA k vcap] W (fun e w' => e = .returned (.int .i64 cv) ∧ Below W.heap.size W w') from fun W hW => by
                        have h1 := compared_any r.vA vA r.vc vcap r.vals kv W (((HRV.out.on hW).2 r (List.mem_of_getElem? HRG.out)).vals.more (Nat.zero_le _) (Nat.le_refl _)) (by rw [HKL2.out]; exact (HVR.out.below hW (Nat.le_refl _)).more (Nat.zero_le _) hW.size) (by rw [HKO.out r (List.mem_of_getElem? HRG.out), HKL2.out]) (by rw [HKO.out r (List.mem_of_getElem? HRG.out)]; omega)
                        rw [HKL2.out, ← HCV.out] at h1
                        exact h1)
                      obtain ⟨r0, r1, r2, r3⟩ := HRC.out wr HBZ.out
                      have hltz : (q : Int) < (N : Int) := by omega
                      have hqe : ¬ (q : Int) = (N : Int) := by omega
                      clear hr hv hcv
                      by_cases hneg : cv < 0
                      · have HAH2 := Lib.hid (show ∀ j' r', j' < q + 1 → L[j']? = some r' → ky r'.vals < ky kv from fun j' r' h1 h2 => by
                          rcases Nat.lt_or_ge j' q with h3 | h3
                          · exact HAH.out j' r' h3 h2
                          · obtain rfl : j' = q := by omega
                            rw [HRG.out] at h2
                            cases h2
                            exact (cmpT_lt _ _).1 (by rw [← HCV.out]; exact hneg))
                        go_wp2_with fail
                        (with_reducible refine (HCP.out _ HBZ.out).mono ?_)
                        rintro e w5 ⟨rfl, hb5⟩
                        have HB5 := Lib.hid (bel_nx HBZ.out hb5)
                        clear hb5 r0 r1 r2 r3
                        go_wp2
                        go_roundw
                        case rel => exact ⟨q + 1, by go_num, by omega, HAH2.out, HB5.out⟩
                        case measure => simp [intOf]; omega
                      · go_wp2_with fail
                        (with_reducible refine (HCP.out _ HBZ.out).mono ?_)
                        rintro e w5 ⟨rfl, hb5⟩
                        have HB5 := Lib.hid (bel_nx HBZ.out hb5)
                        clear hb5 r0 r1 r2 r3
                        obtain ⟨r0, r1, r2, r3⟩ := HRC.out w5 HB5.out
                        go_wp2_with fail
                        (with_reducible refine (HCP.out _ HB5.out).mono ?_)
                        rintro e w6 ⟨rfl, hb6⟩
                        have HB6 := Lib.hid (bel_nx HB5.out hb6)
                        clear hb6 r0 r1 r2 r3
                        by_cases hz : cv = 0
                        · have hcn : (cv != 0) = false := by simpa using hz
                          subst hz
                          have HPRE := Lib.hid (gr_again HOK.out HRG.out ((cmpT_eq _ _).1 HCV.out.symm |>.trans HKJ.out))
                          have HK2 := Lib.hid (show r.vals = kfL keys l j from ((cmpT_eq _ _).1 HCV.out.symm).trans HKJ.out)
                          have HBX := Lib.hid (show Below wS.heap.size wS w6 from HBO.out.trans ((HBQ.out.trans (HB6.out.mono hsq)).mono hszo))
                          have HRX3 := Lib.hid (HRV.out.on HB6.out)
                          have HM3 := Lib.hid HN.out
                          have HR2 := Lib.hid HRG.out
                          have hMj : N ≤ j + 1 := by omega
                          obtain ⟨wx, hwx⟩ : ∃ W : World, W = w6 := ⟨_, rfl⟩
                          subst hwx
                          obtain ⟨M, hM⟩ : ∃ M, M = N := ⟨_, rfl⟩
                          have hqM : q < M := by omega
                          rw [← hM] at HRX3 HM3 hMj ⊢
                          obtain ⟨L2, hL2⟩ : ∃ L2, L2 = L := ⟨_, rfl⟩
                          rw [← hL2] at HRX3 HM3 HR2 HPRE
                          obtain ⟨r2, hr2⟩ : ∃ r2, r2 = r := ⟨_, rfl⟩
                          rw [← hr2] at HR2 HK2
                          obtain ⟨cap, hcap⟩ : ∃ cap, cap = co := ⟨_, rfl⟩
                          rw [← hcap] at HRX3 ⊢
                          clear hM hL2 hr2 hcap HRC HCP HCV HRZ HB5 HB6 HAH HBZ
                          go_upto_region 30 with fail
                          have hgs := ((ownsRow_block HRX3.out.1 (i := g) rfl))
                          have HWX := Lib.hid (show Below w.heap.size w wx from HBW.out.trans (HBX.out.mono hsS))
                          obtain ⟨c0, c1, c2, c3⟩ := HSC2.out wx HWX.out
                          have HRC2 := Lib.hid (show ∀ W, Below wx.heap.size wx W → W.cell? ⟨g, q * 4, none⟩ = some (.slice r2.vA r2.vals.length r2.vc) ∧ W.cell? ⟨g, q * 4 + 1, none⟩ = some (.int .i64 8) ∧ W.cell? ⟨g, q * 4 + 2, none⟩ = some (.slice r2.hA r2.cs.length r2.hc) ∧ W.cell? ⟨g, q * 4 + 3, none⟩ = some (.int .i64 r2.f) from fun W hW => by
                            obtain ⟨b, o, r', e, _, hr', q0, q1, q2, q3⟩ := ((HRX3.out.on hW).rd HM3.out).at (show q < L2.length by rw [← HM3.out]; exact hqM)
                            rw [HR2.out] at hr'
                            cases hr'
                            cases e
                            simp only [Nat.zero_add] at q0 q1 q2 q3
                            exact ⟨q0, q1, q2, q3⟩)
                          have HFZ := Lib.hid (show ∀ W, Below wx.heap.size wx W → ∀ i, W.frozen? ⟨g, i, none⟩ = false from fun W hW i => by
                            obtain ⟨g', cap', R', e, _, hh, _⟩ := own_block (HRX3.out.on hW).1 (show 0 < L2.length by rw [← HM3.out]; omega)
                            cases e
                            exact frozenAt hh i)
                          have hbds := row_bds (HPRE.out.2 r2.gr (List.mem_map.2 ⟨r2, List.mem_of_getElem? HR2.out, rfl⟩)) (by omega) (fun i hi => by
                            obtain ⟨s, hs⟩ : ∃ s, l[i]? = some s := ⟨_, List.getElem?_eq_getElem (by rw [HL.out]; omega)⟩
                            have := HF.out _ (List.mem_of_getElem? hs)
                            rw [dW_at hs]
                            unfold fineV
                            simp; omega)
                          have HBD := Lib.hid hbds
                          have HMO := Lib.hid (show ∀ W, Below wx.heap.size wx W → _ from fun W hW => more_any 8 (bkt 8 d) 1 r2.hA r2.hc r2.cs W ((((HRX3.out.on hW).2 r2 (List.mem_of_getElem? HR2.out)).cnts).more (Nat.zero_le _) (Nat.le_refl _)) HBD.out.1 (by omega) (by omega) HBD.out.2.1)
                          have HPL := Lib.hid (fun W => (place_any 8 d W (by omega) (by omega) (by omega) (by omega)).mono (fun _ _ h => And.intro h.1 h.2.symm))
                          have HUP := Lib.hid (show ∀ r' : RowX, r'.vals = r2.vals → r'.cs = moreL (bkt 8 d) 1 r2.cs → r'.f = r2.f + (if sf then 1 else 0) → GrOk (kfL keys l) (dW l) (flW l) (j + 1) ((L2.set q r').map RowX.gr) from fun r' h1 h2 h3 => gr_upd HPRE.out HR2.out HK2.out r' h1 (by rw [dW_at HS.out]; exact h2) (by rw [flW_at HS.out]; exact h3))
                          have HBR := Lib.hid (Below.refl wx.heap.size wx)
                          obtain ⟨r0, r1, r2c, r3⟩ := HRC2.out wx HBR.out
                          have c1d : wx.drew.cell? ⟨bs, os + j * 4 + 1, none⟩ = some (.int .i64 d) := c1
                          have r1d : wx.drew.cell? ⟨g, q * 4 + 1, none⟩ = some (.int .i64 8) := r1
                          have r2d : wx.drew.cell? ⟨g, q * 4 + 2, none⟩ = some (.slice r2.hA r2.cs.length r2.hc) := r2c
                          clear hbds
                          go_region_law
                            (first
                              | (go_simp; go_at_call 29; refine (HPL.out _).mono ?_; rintro e w4 ⟨rfl, rfl⟩; try go_simp)
                              | (go_simp; go_at_call 28; refine (HMO.out _ (by first | exact HBR.out | exact HBR.out.drew)).mono ?_; rintro e w5 ⟨u5, rfl, ⟨A5, c5, rfl, hlc5, hcm5, hA5, hrd5⟩, hbC⟩; have hb5 : Below wx.heap.size wx w5 := below_next (by first | exact HBR.out | exact HBR.out.drew) hbC; obtain ⟨y0, y1, y2, y3⟩ := HRC2.out w5 hb5; have z1 : w5.frozen? ⟨g, q * 4 + 1, none⟩ = false := HFZ.out w5 hb5 _; have z2 : w5.frozen? ⟨g, q * 4 + 2, none⟩ = false := HFZ.out w5 hb5 _; have y1d : w5.drew.cell? ⟨g, q * 4 + 1, none⟩ = some (.int .i64 8) := y1; have y2d : w5.drew.cell? ⟨g, q * 4 + 2, none⟩ = some (.slice r2.hA r2.cs.length r2.hc) := y2; have z1d : w5.drew.frozen? ⟨g, q * 4 + 1, none⟩ = false := z1; have z2d : w5.drew.frozen? ⟨g, q * 4 + 2, none⟩ = false := z2; try go_simp))
                          all_goals
                            obtain ⟨wq, hwq⟩ : ∃ W : World, W = (w5.setCell ⟨g, q * 4 + 1, none⟩ (.int .i64 8)).setCell ⟨g, q * 4 + 1 + 1, none⟩ (.slice A5 (moreL (bkt 8 d) 1 r2.cs).length c5) := ⟨_, rfl⟩
                            obtain ⟨r4, hr4⟩ : ∃ r4 : RowX, r4 = { r2 with cs := moreL (bkt 8 d) 1 r2.cs, hA := A5, hc := c5 } := ⟨_, rfl⟩
                            have HQ := Lib.hid (show RowW wq wS.heap.size (.slice (some ⟨g, 0, none⟩) M cap) (L2.set q r4) by rw [hwq, hr4]; exact RowW.setH (B := wx.heap.size) (HRX3.out.on hb5) HM3.out HR2.out hrd5 HBX.out.size hgs.2)
                            have HBq := Lib.hid (show Below wS.heap.size wS wq by rw [hwq]; exact ((HBX.out.trans (hb5.mono HBX.out.size)).setCell hgs.1 _).setCell hgs.1 _)
                            have HR4 := Lib.hid hr4
                            rw [← hwq]
                            clear hwq hr4 y0 y1 y2 y3 z1 z2 y1d y2d z1d z2d hrd5 hb5 hbC r0 r1 r2c r3 c0 c1 c2 c3 c1d r1d r2d hlc5 hcm5 hA5
                            obtain ⟨c0, c1, c2, c3⟩ := HSC2.out wq (HBW.out.trans (HBq.out.mono hsS))
                            have HM4 := Lib.hid (show M = (L2.set q r4).length by rw [List.length_set]; exact HM3.out)
                            have HQG := Lib.hid (show (L2.set q r4)[q]? = some r4 by rw [List.getElem?_set_self (by rw [← HM3.out]; exact hqM)])
                            obtain ⟨r0, r1, r2c, r3⟩ : wq.cell? ⟨g, q * 4, none⟩ = some (.slice r4.vA r4.vals.length r4.vc) ∧ wq.cell? ⟨g, q * 4 + 1, none⟩ = some (.int .i64 8) ∧ wq.cell? ⟨g, q * 4 + 2, none⟩ = some (.slice r4.hA r4.cs.length r4.hc) ∧ wq.cell? ⟨g, q * 4 + 3, none⟩ = some (.int .i64 r4.f) := by
                              obtain ⟨b, o, r', e, _, hr', q0, q1, q2, q3⟩ := (HQ.out.rd HM4.out).at (show q < (L2.set q r4).length by rw [← HM4.out]; exact hqM)
                              rw [HQG.out] at hr'
                              cases hr'
                              cases e
                              simp only [Nat.zero_add] at q0 q1 q2 q3
                              exact ⟨q0, q1, q2, q3⟩
                            obtain ⟨x3, hx3⟩ : ∃ x3, x3 = r4.f := ⟨_, rfl⟩
                            have hx5 : 0 ≤ x3 ∧ x3 ≤ 20000 := by rw [hx3, HR4.out]; exact HBD.out.2.2
                            rw [← hx3] at r3
                            have HX3 := Lib.hid hx3
                            have z3 : wq.frozen? ⟨g, q * 4 + 3, none⟩ = false := by
                              obtain ⟨g', cap', R', e, _, hh, _⟩ := own_block HQ.out.1 (show 0 < (L2.set q r4).length by rw [← HM4.out]; omega)
                              cases e
                              exact frozenAt hh _
                            clear hx3
                            have HGG := Lib.hid (And.intro hgs.1 hgs.2)
                            clear hgs
                            cases sf with
                            | false =>
                              go_wp2
                              go_roundw
                              case rel => exact ⟨_, L2.set q r4, j + 1, rfl, by go_num, by omega, by rw [← HM4.out]; exact hMj, HQ.out, HUP.out r4 (by rw [HR4.out]) (by rw [HR4.out]) (by rw [HR4.out]; simp), HBq.out⟩
                              case measure => simp [intOf]; omega
                            | true =>
                              obtain ⟨r6, hr6⟩ : ∃ r6 : RowX, r6 = { r4 with f := x3 + 1 } := ⟨_, rfl⟩
                              have HR6 := Lib.hid hr6
                              have HF6 := Lib.hid (show RowW (wq.setCell ⟨g, q * 4 + 3, none⟩ (.int .i64 (x3 + 1))) wS.heap.size (.slice (some ⟨g, 0, none⟩) M cap) (L2.set q r6) by
                                have := RowW.setF HQ.out HM4.out HQG.out (x3 + 1)
                                rw [List.set_set, ← hr6] at this
                                exact this)
                              clear hr6
                              go_wp2
                              go_roundw
                              case rel => exact ⟨_, L2.set q r6, j + 1, rfl, by go_num, by omega, by rw [List.length_set, ← HM3.out]; exact hMj, HF6.out, HUP.out r6 (by rw [HR6.out, HR4.out]) (by rw [HR6.out, HR4.out]) (by rw [HR6.out, HX3.out, HR4.out]; simp), HBq.out.setCell HGG.out.1 _⟩
                              case measure => simp [intOf]; omega
                        · have hcn : (cv != 0) = true := by simpa using hz
                          have HBX0 := Lib.hid HB6.out
                          have HXQ := Lib.hid (show q = L.length ∨ ∃ r, L[q]? = some r ∧ ky kv < ky r.vals from .inr ⟨r, HRG.out, by
                            rcases ky_total (ky kv) (ky r.vals) with h | h | h
                            · exact h
                            · exact absurd ((cmpT_eq _ _).2 (ky_inj h).symm) (by rw [← HCV.out]; exact hz)
                            · exact absurd ((cmpT_lt _ _).2 h) (by rw [← HCV.out]; omega)⟩)
                          obtain ⟨wx, hwx⟩ : ∃ W : World, W = w6 := ⟨_, rfl⟩
                          subst hwx
                          have HRX := Lib.hid (HRV.out.on HBX0.out)
                          have hsx := HBX0.out.size
                          go_upto_region 27 with fail
                          obtain ⟨vo, hvo⟩ : ∃ vo, vo = Value.slice (some ⟨g, 0, none⟩) N co := ⟨_, rfl⟩
                          rw [← hvo]
                          have HVO := Lib.hid hvo
                          have HRO := Lib.hid (show wx.ownsRow wS.heap.size 64 4 vo N (rowCells L) by have := HRX.out.1; rw [← HN.out] at this; rw [hvo]; exact this)
                          clear hvo
                          have hBw : wS.heap.size ≤ wx.heap.size := by have := HBX0.out.size; have := HBQ.out.size; omega
                          have hbZ := rowZ
                          have hbH := histZ
                          have hbN := rowN vA k vcap
                          go_wp2_with (at_builtin; go_loud (refine wpList_append_lies _ rfl (.tmp 96) (.tmp 98) 28 rfl wS.heap.size 64 ir _ 4 64 Tryz.underlying28 hir hrz0 hrz1 hrz2 rfl (by decide) vo N (rowCells L) rfl (HRO.out.alloc _) ⟨wx.heap.size, 0, none⟩ 1 1 [.slice none 0 0, .int .i64 0, .slice none 0 0, .int .i64 0] rfl rfl (World.news_of_block (cs := #[.slice none 0 0, .int .i64 0, .slice none 0 0, .int .i64 0]) (t := 64) (fr := (0, 0)) (heap_alloc_new wx _)) (by simp [Value.oneCell']) (by decide) ?h63 ?hby ?hba (wx.heap.size + 1) (by simp) ?_))
                          case h63 => unfold maxLen; omega
                          case hby => omega
                          case hba => simp; omega
                          intro g7 cap7 w7 hown7 hgrow7 hat7 hlt7
                          obtain ⟨g', cap', R, e, hg7, hgc7, hgl7, hnc7, hcm7, _⟩ := own_block hown7 (by omega)
                          obtain ⟨rfl, rfl⟩ : g7 = g' ∧ cap7 = cap' := by
                            simp only [Value.slice.injEq, Option.some.injEq, Addr.mk.injEq, and_true, true_and] at e
                            exact e
                          have HGC7 := Lib.hid hgc7
                          have HGL7 := Lib.hid hgl7
                          have HGR7 := Lib.hid hgrow7
                          have HAT7 := Lib.hid hat7
                          clear e hgc7 hgl7 hown7 hgrow7 hat7
                          obtain ⟨cur, hcur⟩ : ∃ cur, cur = rowCells L ++ [.slice none 0 0, .int .i64 0, .slice none 0 0, .int .i64 0] ++ R := ⟨_, rfl⟩
                          obtain ⟨cs7, hcs7⟩ : ∃ cs7, cs7 = rowCells (L.drop q) := ⟨_, rfl⟩
                          have hcl : cur.length = cap7 * 4 := by rw [hcur]; exact HGL7.out
                          have hcsl : cs7.length = (N - q) * 4 := by rw [hcs7, rowCells_length, List.length_drop, ← HN.out]
                          have i1 : (q : Int) + 1 ≤ (N : Int) + 1 := by omega
                          have i2 : (q : Int) ≤ (N : Int) + 1 := by omega
                          have i3 : q + 1 ≤ cap7 := by omega
                          have q1 : IntKind.i64.wrap ((q : Int) + 1) = (q : Int) + 1 := IntWalk.i64_in _ (by omega)
                          have q2 : (0 : Int) ≤ (q : Int) + 1 := by omega
                          have q3 : ((q : Int) + 1).toNat = q + 1 := by omega
                          have HGD := Lib.hid (show w7.drew.heap[g7]? = some (.cells cur.toArray 64 (0, 0)) by rw [hcur]; exact HGC7.out)
                          have HN1 := Lib.hid (show cs7.length = Nat.min (N + 1 - q) (N - q) * 4 by rw [hcsl]; congr 1; simp [Nat.min_def] <;> omega)
                          have HPOS := Lib.hid (show 0 < cs7.length → (if cap7 = q + 1 then some (⟨g7, 0, none⟩ : Addr) else some ⟨g7, (q + 1) * 4, none⟩) = some ⟨g7, (q + 1) * 4, none⟩ ∧ ∃ ad, (if cap7 = q then some (⟨g7, 0, none⟩ : Addr) else some ⟨g7, q * 4, none⟩) = some ad ∧ ∀ j v, cs7[j]? = some v → w7.drew.cell? (ad.add j) = some v from fun hp => by
                            rw [hcsl] at hp
                            refine ⟨if_neg (by omega), ⟨g7, q * 4, none⟩, if_neg (by omega), fun j v hj => ?_⟩
                            have ea : (⟨g7, q * 4, none⟩ : Addr).add j = ⟨g7, q * 4 + j, none⟩ := by unfold Addr.add; split <;> simp_all
                            rw [ea, cellsAt HGD.out]
                            have hjl : j < (N - q) * 4 := by have := (List.getElem?_eq_some_iff.1 hj).1; omega
                            simp only [List.getElem?_toArray]
                            rw [hcur, List.append_assoc, List.getElem?_append_left (by rw [rowCells_length, ← HN.out]; omega)]
                            have eL : rowCells L = rowCells (L.take q) ++ cs7 := by rw [hcs7, ← rowCells_append, List.take_append_drop]
                            rw [eL, List.getElem?_append_right (by rw [rowCells_length, List.length_take]; omega), ← hj]
                            congr 1
                            rw [rowCells_length, List.length_take, ← HN.out]
                            omega)
                          have HFIT := Lib.hid (show (q + 1) * 4 + cs7.length ≤ cur.length by rw [hcsl, hcl]; omega)
                          have HONE := Lib.hid (show ∀ v ∈ cs7, v.oneCell' = true by rw [hcs7]; exact rowCells_one _)
                          have HCS := Lib.hid hcs7
                          have HCUR := Lib.hid hcur
                          clear hcs7 hcur hcsl hcl
                          go_upto_region 28 with fail
                          go_region_law (refine step_copy_spliceK (by rfl) (.tmp 103) (.tmp 106) 28 28 (by rfl) 64 4 (by omega) Tryz.underlying28 HSZR.out (if cap7 = q + 1 then some ⟨g7, 0, none⟩ else some ⟨g7, (q + 1) * 4, none⟩) (if cap7 = q then some ⟨g7, 0, none⟩ else some ⟨g7, q * 4, none⟩) (N - q) (cap7 - (q + 1)) (N + 1 - q) (cap7 - q) (by go_simp) (by go_simp) g7 ((q + 1) * 4) cur 64 HGD.out cs7 HN1.out HPOS.out HFIT.out HONE.out ?_; intro w8 HG8 hgr8)
                          all_goals
                            have HF8 := Lib.hid (show Fr (fun i => i = g7) w7 w8 from (Fr.of_grown (show w7.grownBy w8 (some g7) from ⟨hgr8.os, hgr8.tape, hgr8.output, hgr8.size, hgr8.block⟩)).mono (fun i _ h => Option.some.inj h))
                            have HH8 := Lib.hid (show w8.heap[g7]? = some (.cells (splice (rowCells L ++ [.slice none 0 0, .int .i64 0, .slice none 0 0, .int .i64 0] ++ R) ((q + 1) * 4) (rowCells (L.drop q))).toArray 64 (0, 0)) by rw [← HCS.out, ← HCUR.out]; exact HG8)
                            obtain ⟨sp, hsp⟩ : ∃ sp, sp = splice cur ((q + 1) * 4) cs7 := ⟨_, rfl⟩
                            have HG9 := Lib.hid (show w8.heap[g7]? = some (.cells sp.toArray 64 (0, 0)) by rw [hsp]; exact HG8)
                            have hspl : (q + 1) * 4 ≤ sp.length := by rw [hsp, length_splice _ _ _ HFIT.out]; have := HFIT.out; omega
                            clear hsp HG8 hgr8
                            obtain ⟨v0, hv0⟩ : ∃ v0, sp[q * 4]? = some v0 := ⟨_, List.getElem?_eq_getElem (by omega)⟩
                            obtain ⟨v1, hv1⟩ : ∃ v1, sp[q * 4 + 1]? = some v1 := ⟨_, List.getElem?_eq_getElem (by omega)⟩
                            obtain ⟨v2', hv2⟩ : ∃ v2, sp[q * 4 + 2]? = some v2 := ⟨_, List.getElem?_eq_getElem (by omega)⟩
                            obtain ⟨v3, hv3⟩ : ∃ v3, sp[q * 4 + 3]? = some v3 := ⟨_, List.getElem?_eq_getElem (by omega)⟩
                            have p0 : w8.cell? ⟨g7, q * 4, none⟩ = some v0 := by rw [cellsAt HG9.out]; simpa using hv0
                            have p1 : w8.cell? ⟨g7, q * 4 + 1, none⟩ = some v1 := by rw [cellsAt HG9.out]; simpa using hv1
                            have p2 : w8.cell? ⟨g7, q * 4 + 2, none⟩ = some v2' := by rw [cellsAt HG9.out]; simpa using hv2
                            have p3 : w8.cell? ⟨g7, q * 4 + 3, none⟩ = some v3 := by rw [cellsAt HG9.out]; simpa using hv3
                            have f0 : w8.frozen? ⟨g7, q * 4, none⟩ = false := frozenAt HG9.out _
                            have f1 : w8.frozen? ⟨g7, q * 4 + 1, none⟩ = false := frozenAt HG9.out _
                            have f2 : w8.frozen? ⟨g7, q * 4 + 2, none⟩ = false := frozenAt HG9.out _
                            have f3 : w8.frozen? ⟨g7, q * 4 + 3, none⟩ = false := frozenAt HG9.out _
                            clear hv0 hv1 hv2 hv3 hspl i1 i2 i3 q1 q2 q3
                            go_upto_region 30 with fail
                            obtain ⟨rn, hrn⟩ : ∃ rn : RowX, rn = { vals := kv, cs := [], f := 0, vA := vA, vc := vcap, hA := none, hc := 0 } := ⟨_, rfl⟩
                            obtain ⟨wy, hwy⟩ : ∃ W : World, W = ((((w8.setCell ⟨g7, q * 4, none⟩ (.slice vA k vcap)).setCell ⟨g7, q * 4 + 1, none⟩ (.int .i64 8)).setCell ⟨g7, q * 4 + 2, none⟩ (.slice none 0 0)).setCell ⟨g7, q * 4 + 3, none⟩ (.int .i64 0)) := ⟨_, rfl⟩
                            rw [← hwy]
                            have hst : wy = st4 w8 g7 q rn := by rw [hwy, hrn]; unfold st4; simp only [HKL2.out, List.length_nil]
                            have HIN := RowW.insert (Ao := (some ⟨g, 0, none⟩)) (co := co) (N := N) (q := q) (cap := cap7) (r := rn) HRX.out hBw HN.out (by omega) rfl (by have := HGR7.out; rw [HVO.out] at this; exact this) (by have := HAT7.out; rw [HVO.out] at this; exact this) hg7 HGL7.out hnc7 hcm7 HH8.out HF8.out
                              (by rw [hrn]; show Rd wx wS.heap.size wx.heap.size 1 vA kv.length (strC kv); rw [HKL2.out]; exact (HVR.out.below HBX0.out (Nat.le_refl _)).more hszo hsx)
                              (fun b o e hp hb => by
                                rw [hrn] at e hp
                                have h1 := HVB.out b hb
                                obtain ⟨b', o', e', hL, _, _⟩ := HVR.out.2 (by rw [← HKL2.out]; exact hp)
                                simp only at e
                                rw [e] at e'
                                simp only [Option.some.injEq, Addr.mk.injEq, and_true] at e'
                                omega) (by rw [hrn])
                            rw [← hst] at HIN
                            have HBX := Lib.hid (show Below wS.heap.size wS wy from (HBO.out.trans ((HBQ.out.trans (HBX0.out.mono hsq)).mono hszo)).trans HIN.2)
                            obtain ⟨M, hM⟩ : ∃ M, M = N + 1 := ⟨_, rfl⟩
                            obtain ⟨L2, hL2⟩ : ∃ L2, L2 = L.take q ++ rn :: L.drop q := ⟨_, rfl⟩
                            have HRX3 := Lib.hid HIN.1
                            rw [← hM, ← hL2] at HRX3
                            have HM3 := Lib.hid (show M = L2.length by rw [hM, hL2]; have := HN.out; simp; omega)
                            have HR2 := Lib.hid (show L2[q]? = some rn by
                              rw [hL2, List.getElem?_append_right (by rw [List.length_take]; omega), List.length_take, ← HN.out, Nat.min_eq_left (by omega), Nat.sub_self]; rfl)
                            have HK2 := Lib.hid (show rn.vals = kfL keys l j by rw [hrn]; exact HKJ.out)
                            have HPRE := Lib.hid (show GrPre (kfL keys l) (dW l) (flW l) j (L2.map RowX.gr) by
                              rw [hL2]
                              exact gr_ins HOK.out (by rw [← HN.out]; omega) (fun j' r h1 h2 => by rw [← HKJ.out]; exact HAH.out j' r h1 h2) (by rw [← HKJ.out]; exact HXQ.out) rn HK2.out (by rw [hrn]) (by rw [hrn]))
                            have hMj : M ≤ j + 1 := by omega
                            have hqM : q < M := by omega
                            rw [← hM]
                            clear hwy hrn hst HIN hM hL2 p0 p1 p2 p3 f0 f1 f2 f3 HG9 HH8 HF8 hbZ hbH hbN HXQ HAH HBX0 HRX HRO HVO HGD HN1 HPOS HFIT HONE HCS HCUR
                            obtain ⟨r2, hr2⟩ : ∃ r2, r2 = rn := ⟨_, rfl⟩
                            subst hr2
                            obtain ⟨g, hg⟩ : ∃ z, z = g7 := ⟨_, rfl⟩
                            subst hg
                            obtain ⟨cap, hcap⟩ : ∃ z, z = cap7 := ⟨_, rfl⟩
                            subst hcap
                            obtain ⟨wx, hwx⟩ : ∃ W : World, W = wy := ⟨_, rfl⟩
                            subst hwx
                            have hgs := ((ownsRow_block HRX3.out.1 (i := g) rfl))
                            have HWX := Lib.hid (show Below w.heap.size w wx from HBW.out.trans (HBX.out.mono hsS))
                            obtain ⟨c0, c1, c2, c3⟩ := HSC2.out wx HWX.out
                            have HRC2 := Lib.hid (show ∀ W, Below wx.heap.size wx W → W.cell? ⟨g, q * 4, none⟩ = some (.slice r2.vA r2.vals.length r2.vc) ∧ W.cell? ⟨g, q * 4 + 1, none⟩ = some (.int .i64 8) ∧ W.cell? ⟨g, q * 4 + 2, none⟩ = some (.slice r2.hA r2.cs.length r2.hc) ∧ W.cell? ⟨g, q * 4 + 3, none⟩ = some (.int .i64 r2.f) from fun W hW => by
                              obtain ⟨b, o, r', e, _, hr', q0, q1, q2, q3⟩ := ((HRX3.out.on hW).rd HM3.out).at (show q < L2.length by rw [← HM3.out]; exact hqM)
                              rw [HR2.out] at hr'
                              cases hr'
                              cases e
                              simp only [Nat.zero_add] at q0 q1 q2 q3
                              exact ⟨q0, q1, q2, q3⟩)
                            have HFZ := Lib.hid (show ∀ W, Below wx.heap.size wx W → ∀ i, W.frozen? ⟨g, i, none⟩ = false from fun W hW i => by
                              obtain ⟨g', cap', R', e, _, hh, _⟩ := own_block (HRX3.out.on hW).1 (show 0 < L2.length by rw [← HM3.out]; omega)
                              cases e
                              exact frozenAt hh i)
                            have hbds := row_bds (HPRE.out.2 r2.gr (List.mem_map.2 ⟨r2, List.mem_of_getElem? HR2.out, rfl⟩)) (by omega) (fun i hi => by
                              obtain ⟨s, hs⟩ : ∃ s, l[i]? = some s := ⟨_, List.getElem?_eq_getElem (by rw [HL.out]; omega)⟩
                              have := HF.out _ (List.mem_of_getElem? hs)
                              rw [dW_at hs]
                              unfold fineV
                              simp; omega)
                            have HBD := Lib.hid hbds
                            have HMO := Lib.hid (show ∀ W, Below wx.heap.size wx W → _ from fun W hW => more_any 8 (bkt 8 d) 1 r2.hA r2.hc r2.cs W ((((HRX3.out.on hW).2 r2 (List.mem_of_getElem? HR2.out)).cnts).more (Nat.zero_le _) (Nat.le_refl _)) HBD.out.1 (by omega) (by omega) HBD.out.2.1)
                            have HPL := Lib.hid (fun W => (place_any 8 d W (by omega) (by omega) (by omega) (by omega)).mono (fun _ _ h => And.intro h.1 h.2.symm))
                            have HUP := Lib.hid (show ∀ r' : RowX, r'.vals = r2.vals → r'.cs = moreL (bkt 8 d) 1 r2.cs → r'.f = r2.f + (if sf then 1 else 0) → GrOk (kfL keys l) (dW l) (flW l) (j + 1) ((L2.set q r').map RowX.gr) from fun r' h1 h2 h3 => gr_upd HPRE.out HR2.out HK2.out r' h1 (by rw [dW_at HS.out]; exact h2) (by rw [flW_at HS.out]; exact h3))
                            have HBR := Lib.hid (Below.refl wx.heap.size wx)
                            obtain ⟨r0, r1, r2c, r3⟩ := HRC2.out wx HBR.out
                            have c1d : wx.drew.cell? ⟨bs, os + j * 4 + 1, none⟩ = some (.int .i64 d) := c1
                            have r1d : wx.drew.cell? ⟨g, q * 4 + 1, none⟩ = some (.int .i64 8) := r1
                            have r2d : wx.drew.cell? ⟨g, q * 4 + 2, none⟩ = some (.slice r2.hA r2.cs.length r2.hc) := r2c
                            clear hbds
                            go_region_law
                              (first
                                | (go_simp; go_at_call 29; refine (HPL.out _).mono ?_; rintro e w4 ⟨rfl, rfl⟩; try go_simp)
                                | (go_simp; go_at_call 28; refine (HMO.out _ (by first | exact HBR.out | exact HBR.out.drew)).mono ?_; rintro e w5 ⟨u5, rfl, ⟨A5, c5, rfl, hlc5, hcm5, hA5, hrd5⟩, hbC⟩; have hb5 : Below wx.heap.size wx w5 := below_next (by first | exact HBR.out | exact HBR.out.drew) hbC; obtain ⟨y0, y1, y2, y3⟩ := HRC2.out w5 hb5; have z1 : w5.frozen? ⟨g, q * 4 + 1, none⟩ = false := HFZ.out w5 hb5 _; have z2 : w5.frozen? ⟨g, q * 4 + 2, none⟩ = false := HFZ.out w5 hb5 _; have y1d : w5.drew.cell? ⟨g, q * 4 + 1, none⟩ = some (.int .i64 8) := y1; have y2d : w5.drew.cell? ⟨g, q * 4 + 2, none⟩ = some (.slice r2.hA r2.cs.length r2.hc) := y2; have z1d : w5.drew.frozen? ⟨g, q * 4 + 1, none⟩ = false := z1; have z2d : w5.drew.frozen? ⟨g, q * 4 + 2, none⟩ = false := z2; try go_simp))
                            all_goals
                              obtain ⟨wq, hwq⟩ : ∃ W : World, W = (w5.setCell ⟨g, q * 4 + 1, none⟩ (.int .i64 8)).setCell ⟨g, q * 4 + 1 + 1, none⟩ (.slice A5 (moreL (bkt 8 d) 1 r2.cs).length c5) := ⟨_, rfl⟩
                              obtain ⟨r4, hr4⟩ : ∃ r4 : RowX, r4 = { r2 with cs := moreL (bkt 8 d) 1 r2.cs, hA := A5, hc := c5 } := ⟨_, rfl⟩
                              have HQ := Lib.hid (show RowW wq wS.heap.size (.slice (some ⟨g, 0, none⟩) M cap) (L2.set q r4) by rw [hwq, hr4]; exact RowW.setH (B := wx.heap.size) (HRX3.out.on hb5) HM3.out HR2.out hrd5 HBX.out.size hgs.2)
                              have HBq := Lib.hid (show Below wS.heap.size wS wq by rw [hwq]; exact ((HBX.out.trans (hb5.mono HBX.out.size)).setCell hgs.1 _).setCell hgs.1 _)
                              have HR4 := Lib.hid hr4
                              rw [← hwq]
                              clear hwq hr4 y0 y1 y2 y3 z1 z2 y1d y2d z1d z2d hrd5 hb5 hbC r0 r1 r2c r3 c0 c1 c2 c3 c1d r1d r2d hlc5 hcm5 hA5
                              obtain ⟨c0, c1, c2, c3⟩ := HSC2.out wq (HBW.out.trans (HBq.out.mono hsS))
                              have HM4 := Lib.hid (show M = (L2.set q r4).length by rw [List.length_set]; exact HM3.out)
                              have HQG := Lib.hid (show (L2.set q r4)[q]? = some r4 by rw [List.getElem?_set_self (by rw [← HM3.out]; exact hqM)])
                              obtain ⟨r0, r1, r2c, r3⟩ : wq.cell? ⟨g, q * 4, none⟩ = some (.slice r4.vA r4.vals.length r4.vc) ∧ wq.cell? ⟨g, q * 4 + 1, none⟩ = some (.int .i64 8) ∧ wq.cell? ⟨g, q * 4 + 2, none⟩ = some (.slice r4.hA r4.cs.length r4.hc) ∧ wq.cell? ⟨g, q * 4 + 3, none⟩ = some (.int .i64 r4.f) := by
                                obtain ⟨b, o, r', e, _, hr', q0, q1, q2, q3⟩ := (HQ.out.rd HM4.out).at (show q < (L2.set q r4).length by rw [← HM4.out]; exact hqM)
                                rw [HQG.out] at hr'
                                cases hr'
                                cases e
                                simp only [Nat.zero_add] at q0 q1 q2 q3
                                exact ⟨q0, q1, q2, q3⟩
                              obtain ⟨x3, hx3⟩ : ∃ x3, x3 = r4.f := ⟨_, rfl⟩
                              have hx5 : 0 ≤ x3 ∧ x3 ≤ 20000 := by rw [hx3, HR4.out]; exact HBD.out.2.2
                              rw [← hx3] at r3
                              have HX3 := Lib.hid hx3
                              have z3 : wq.frozen? ⟨g, q * 4 + 3, none⟩ = false := by
                                obtain ⟨g', cap', R', e, _, hh, _⟩ := own_block HQ.out.1 (show 0 < (L2.set q r4).length by rw [← HM4.out]; omega)
                                cases e
                                exact frozenAt hh _
                              clear hx3
                              have HGG := Lib.hid (And.intro hgs.1 hgs.2)
                              clear hgs
                              cases sf with
                              | false =>
                                go_wp2
                                go_roundw
                                case rel => exact ⟨_, L2.set q r4, j + 1, rfl, by go_num, by omega, by rw [← HM4.out]; exact hMj, HQ.out, HUP.out r4 (by rw [HR4.out]) (by rw [HR4.out]) (by rw [HR4.out]; simp), HBq.out⟩
                                case measure => simp [intOf]; omega
                              | true =>
                                obtain ⟨r6, hr6⟩ : ∃ r6 : RowX, r6 = { r4 with f := x3 + 1 } := ⟨_, rfl⟩
                                have HR6 := Lib.hid hr6
                                have HF6 := Lib.hid (show RowW (wq.setCell ⟨g, q * 4 + 3, none⟩ (.int .i64 (x3 + 1))) wS.heap.size (.slice (some ⟨g, 0, none⟩) M cap) (L2.set q r6) by
                                  have := RowW.setF HQ.out HM4.out HQG.out (x3 + 1)
                                  rw [List.set_set, ← hr6] at this
                                  exact this)
                                clear hr6
                                go_wp2
                                go_roundw
                                case rel => exact ⟨_, L2.set q r6, j + 1, rfl, by go_num, by omega, by rw [List.length_set, ← HM3.out]; exact hMj, HF6.out, HUP.out r6 (by rw [HR6.out, HR4.out]) (by rw [HR6.out, HR4.out]) (by rw [HR6.out, HX3.out, HR4.out]; simp), HBq.out.setCell HGG.out.1 _⟩
                                case measure => simp [intOf]; omega
                    · obtain rfl : q = N := by omega
                      have HBX0 := Lib.hid HBZ.out
                      have HXQ := Lib.hid (show q = L.length ∨ ∃ r, L[q]? = some r ∧ ky kv < ky r.vals from .inl HN.out)
                      obtain ⟨wx, hwx⟩ : ∃ W : World, W = wr := ⟨_, rfl⟩
                      subst hwx
                      have HRX := Lib.hid (HRV.out.on HBX0.out)
                      have hsx := HBX0.out.size
                      go_upto_region 27 with fail
                      obtain ⟨vo, hvo⟩ : ∃ vo, vo = Value.slice Ao q co := ⟨_, rfl⟩
                      rw [← hvo]
                      have HVO := Lib.hid hvo
                      have HRO := Lib.hid (show wx.ownsRow wS.heap.size 64 4 vo q (rowCells L) by have := HRX.out.1; rw [← HN.out] at this; rw [hvo]; exact this)
                      clear hvo
                      have hBw : wS.heap.size ≤ wx.heap.size := by have := HBX0.out.size; have := HBQ.out.size; omega
                      have hbZ := rowZ
                      have hbH := histZ
                      have hbN := rowN vA k vcap
                      go_wp2_with (at_builtin; go_loud (refine wpList_append_lies _ rfl (.tmp 96) (.tmp 98) 28 rfl wS.heap.size 64 ir _ 4 64 Tryz.underlying28 hir hrz0 hrz1 hrz2 rfl (by decide) vo q (rowCells L) rfl (HRO.out.alloc _) ⟨wx.heap.size, 0, none⟩ 1 1 [.slice none 0 0, .int .i64 0, .slice none 0 0, .int .i64 0] rfl rfl (World.news_of_block (cs := #[.slice none 0 0, .int .i64 0, .slice none 0 0, .int .i64 0]) (t := 64) (fr := (0, 0)) (heap_alloc_new wx _)) (by simp [Value.oneCell']) (by decide) ?h63 ?hby ?hba (wx.heap.size + 1) (by simp) ?_))
                      case h63 => unfold maxLen; omega
                      case hby => omega
                      case hba => simp; omega
                      intro g7 cap7 w7 hown7 hgrow7 hat7 hlt7
                      obtain ⟨g', cap', R, e, hg7, hgc7, hgl7, hnc7, hcm7, _⟩ := own_block hown7 (by omega)
                      obtain ⟨rfl, rfl⟩ : g7 = g' ∧ cap7 = cap' := by
                        simp only [Value.slice.injEq, Option.some.injEq, Addr.mk.injEq, and_true, true_and] at e
                        exact e
                      have HGC7 := Lib.hid hgc7
                      have HGL7 := Lib.hid hgl7
                      have HGR7 := Lib.hid hgrow7
                      have HAT7 := Lib.hid hat7
                      clear e hgc7 hgl7 hown7 hgrow7 hat7
                      obtain ⟨cur, hcur⟩ : ∃ cur, cur = rowCells L ++ [.slice none 0 0, .int .i64 0, .slice none 0 0, .int .i64 0] ++ R := ⟨_, rfl⟩
                      obtain ⟨cs7, hcs7⟩ : ∃ cs7, cs7 = rowCells (L.drop q) := ⟨_, rfl⟩
                      have hcl : cur.length = cap7 * 4 := by rw [hcur]; exact HGL7.out
                      have hcsl : cs7.length = (q - q) * 4 := by rw [hcs7, rowCells_length, List.length_drop, ← HN.out]
                      have i1 : (q : Int) + 1 ≤ (q : Int) + 1 := by omega
                      have i2 : (q : Int) ≤ (q : Int) + 1 := by omega
                      have i3 : q + 1 ≤ cap7 := by omega
                      have q1 : IntKind.i64.wrap ((q : Int) + 1) = (q : Int) + 1 := IntWalk.i64_in _ (by omega)
                      have q2 : (0 : Int) ≤ (q : Int) + 1 := by omega
                      have q3 : ((q : Int) + 1).toNat = q + 1 := by omega
                      have HGD := Lib.hid (show w7.drew.heap[g7]? = some (.cells cur.toArray 64 (0, 0)) by rw [hcur]; exact HGC7.out)
                      have HN1 := Lib.hid (show cs7.length = Nat.min (q + 1 - q) (q - q) * 4 by rw [hcsl]; congr 1; simp [Nat.min_def] <;> omega)
                      have HPOS := Lib.hid (show 0 < cs7.length → (if cap7 = q + 1 then some (⟨g7, 0, none⟩ : Addr) else some ⟨g7, (q + 1) * 4, none⟩) = some ⟨g7, (q + 1) * 4, none⟩ ∧ ∃ ad, (if cap7 = q then some (⟨g7, 0, none⟩ : Addr) else some ⟨g7, q * 4, none⟩) = some ad ∧ ∀ j v, cs7[j]? = some v → w7.drew.cell? (ad.add j) = some v from fun hp => by
                        rw [hcsl] at hp
                        refine ⟨if_neg (by omega), ⟨g7, q * 4, none⟩, if_neg (by omega), fun j v hj => ?_⟩
                        have ea : (⟨g7, q * 4, none⟩ : Addr).add j = ⟨g7, q * 4 + j, none⟩ := by unfold Addr.add; split <;> simp_all
                        rw [ea, cellsAt HGD.out]
                        have hjl : j < (q - q) * 4 := by have := (List.getElem?_eq_some_iff.1 hj).1; omega
                        simp only [List.getElem?_toArray]
                        rw [hcur, List.append_assoc, List.getElem?_append_left (by rw [rowCells_length, ← HN.out]; omega)]
                        have eL : rowCells L = rowCells (L.take q) ++ cs7 := by rw [hcs7, ← rowCells_append, List.take_append_drop]
                        rw [eL, List.getElem?_append_right (by rw [rowCells_length, List.length_take]; omega), ← hj]
                        congr 1
                        rw [rowCells_length, List.length_take, ← HN.out]
                        omega)
                      have HFIT := Lib.hid (show (q + 1) * 4 + cs7.length ≤ cur.length by rw [hcsl, hcl]; omega)
                      have HONE := Lib.hid (show ∀ v ∈ cs7, v.oneCell' = true by rw [hcs7]; exact rowCells_one _)
                      have HCS := Lib.hid hcs7
                      have HCUR := Lib.hid hcur
                      clear hcs7 hcur hcsl hcl
                      go_upto_region 28 with fail
                      go_region_law (refine step_copy_spliceK (by rfl) (.tmp 103) (.tmp 106) 28 28 (by rfl) 64 4 (by omega) Tryz.underlying28 HSZR.out (if cap7 = q + 1 then some ⟨g7, 0, none⟩ else some ⟨g7, (q + 1) * 4, none⟩) (if cap7 = q then some ⟨g7, 0, none⟩ else some ⟨g7, q * 4, none⟩) (q - q) (cap7 - (q + 1)) (q + 1 - q) (cap7 - q) (by go_simp) (by go_simp) g7 ((q + 1) * 4) cur 64 HGD.out cs7 HN1.out HPOS.out HFIT.out HONE.out ?_; intro w8 HG8 hgr8)
                      all_goals
                        have HF8 := Lib.hid (show Fr (fun i => i = g7) w7 w8 from (Fr.of_grown (show w7.grownBy w8 (some g7) from ⟨hgr8.os, hgr8.tape, hgr8.output, hgr8.size, hgr8.block⟩)).mono (fun i _ h => Option.some.inj h))
                        have HH8 := Lib.hid (show w8.heap[g7]? = some (.cells (splice (rowCells L ++ [.slice none 0 0, .int .i64 0, .slice none 0 0, .int .i64 0] ++ R) ((q + 1) * 4) (rowCells (L.drop q))).toArray 64 (0, 0)) by rw [← HCS.out, ← HCUR.out]; exact HG8)
                        obtain ⟨sp, hsp⟩ : ∃ sp, sp = splice cur ((q + 1) * 4) cs7 := ⟨_, rfl⟩
                        have HG9 := Lib.hid (show w8.heap[g7]? = some (.cells sp.toArray 64 (0, 0)) by rw [hsp]; exact HG8)
                        have hspl : (q + 1) * 4 ≤ sp.length := by rw [hsp, length_splice _ _ _ HFIT.out]; have := HFIT.out; omega
                        clear hsp HG8 hgr8
                        obtain ⟨v0, hv0⟩ : ∃ v0, sp[q * 4]? = some v0 := ⟨_, List.getElem?_eq_getElem (by omega)⟩
                        obtain ⟨v1, hv1⟩ : ∃ v1, sp[q * 4 + 1]? = some v1 := ⟨_, List.getElem?_eq_getElem (by omega)⟩
                        obtain ⟨v2', hv2⟩ : ∃ v2, sp[q * 4 + 2]? = some v2 := ⟨_, List.getElem?_eq_getElem (by omega)⟩
                        obtain ⟨v3, hv3⟩ : ∃ v3, sp[q * 4 + 3]? = some v3 := ⟨_, List.getElem?_eq_getElem (by omega)⟩
                        have p0 : w8.cell? ⟨g7, q * 4, none⟩ = some v0 := by rw [cellsAt HG9.out]; simpa using hv0
                        have p1 : w8.cell? ⟨g7, q * 4 + 1, none⟩ = some v1 := by rw [cellsAt HG9.out]; simpa using hv1
                        have p2 : w8.cell? ⟨g7, q * 4 + 2, none⟩ = some v2' := by rw [cellsAt HG9.out]; simpa using hv2
                        have p3 : w8.cell? ⟨g7, q * 4 + 3, none⟩ = some v3 := by rw [cellsAt HG9.out]; simpa using hv3
                        have f0 : w8.frozen? ⟨g7, q * 4, none⟩ = false := frozenAt HG9.out _
                        have f1 : w8.frozen? ⟨g7, q * 4 + 1, none⟩ = false := frozenAt HG9.out _
                        have f2 : w8.frozen? ⟨g7, q * 4 + 2, none⟩ = false := frozenAt HG9.out _
                        have f3 : w8.frozen? ⟨g7, q * 4 + 3, none⟩ = false := frozenAt HG9.out _
                        clear hv0 hv1 hv2 hv3 hspl i1 i2 i3 q1 q2 q3
                        go_upto_region 30 with fail
                        obtain ⟨rn, hrn⟩ : ∃ rn : RowX, rn = { vals := kv, cs := [], f := 0, vA := vA, vc := vcap, hA := none, hc := 0 } := ⟨_, rfl⟩
                        obtain ⟨wy, hwy⟩ : ∃ W : World, W = ((((w8.setCell ⟨g7, q * 4, none⟩ (.slice vA k vcap)).setCell ⟨g7, q * 4 + 1, none⟩ (.int .i64 8)).setCell ⟨g7, q * 4 + 2, none⟩ (.slice none 0 0)).setCell ⟨g7, q * 4 + 3, none⟩ (.int .i64 0)) := ⟨_, rfl⟩
                        rw [← hwy]
                        have hst : wy = st4 w8 g7 q rn := by rw [hwy, hrn]; unfold st4; simp only [HKL2.out, List.length_nil]
                        have HIN := RowW.insert (Ao := Ao) (co := co) (N := q) (q := q) (cap := cap7) (r := rn) HRX.out hBw HN.out (by omega) rfl (by have := HGR7.out; rw [HVO.out] at this; exact this) (by have := HAT7.out; rw [HVO.out] at this; exact this) hg7 HGL7.out hnc7 hcm7 HH8.out HF8.out
                          (by rw [hrn]; show Rd wx wS.heap.size wx.heap.size 1 vA kv.length (strC kv); rw [HKL2.out]; exact (HVR.out.below HBX0.out (Nat.le_refl _)).more hszo hsx)
                          (fun b o e hp hb => by
                            rw [hrn] at e hp
                            have h1 := HVB.out b hb
                            obtain ⟨b', o', e', hL, _, _⟩ := HVR.out.2 (by rw [← HKL2.out]; exact hp)
                            simp only at e
                            rw [e] at e'
                            simp only [Option.some.injEq, Addr.mk.injEq, and_true] at e'
                            omega) (by rw [hrn])
                        rw [← hst] at HIN
                        have HBX := Lib.hid (show Below wS.heap.size wS wy from (HBO.out.trans ((HBQ.out.trans (HBX0.out.mono hsq)).mono hszo)).trans HIN.2)
                        obtain ⟨M, hM⟩ : ∃ M, M = q + 1 := ⟨_, rfl⟩
                        obtain ⟨L2, hL2⟩ : ∃ L2, L2 = L.take q ++ rn :: L.drop q := ⟨_, rfl⟩
                        have HRX3 := Lib.hid HIN.1
                        rw [← hM, ← hL2] at HRX3
                        have HM3 := Lib.hid (show M = L2.length by rw [hM, hL2]; have := HN.out; simp; omega)
                        have HR2 := Lib.hid (show L2[q]? = some rn by
                          rw [hL2, List.getElem?_append_right (by rw [List.length_take]; omega), List.length_take, ← HN.out, Nat.min_eq_left (by omega), Nat.sub_self]; rfl)
                        have HK2 := Lib.hid (show rn.vals = kfL keys l j by rw [hrn]; exact HKJ.out)
                        have HPRE := Lib.hid (show GrPre (kfL keys l) (dW l) (flW l) j (L2.map RowX.gr) by
                          rw [hL2]
                          exact gr_ins HOK.out (by rw [← HN.out]; omega) (fun j' r h1 h2 => by rw [← HKJ.out]; exact HAH.out j' r h1 h2) (by rw [← HKJ.out]; exact HXQ.out) rn HK2.out (by rw [hrn]) (by rw [hrn]))
                        have hMj : M ≤ j + 1 := by omega
                        have hqM : q < M := by omega
                        rw [← hM]
                        clear hwy hrn hst HIN hM hL2 p0 p1 p2 p3 f0 f1 f2 f3 HG9 HH8 HF8 hbZ hbH hbN HXQ HAH HBX0 HRX HRO HVO HGD HN1 HPOS HFIT HONE HCS HCUR
                        obtain ⟨r2, hr2⟩ : ∃ r2, r2 = rn := ⟨_, rfl⟩
                        subst hr2
                        obtain ⟨g, hg⟩ : ∃ z, z = g7 := ⟨_, rfl⟩
                        subst hg
                        obtain ⟨cap, hcap⟩ : ∃ z, z = cap7 := ⟨_, rfl⟩
                        subst hcap
                        obtain ⟨wx, hwx⟩ : ∃ W : World, W = wy := ⟨_, rfl⟩
                        subst hwx
                        have hgs := ((ownsRow_block HRX3.out.1 (i := g) rfl))
                        have HWX := Lib.hid (show Below w.heap.size w wx from HBW.out.trans (HBX.out.mono hsS))
                        obtain ⟨c0, c1, c2, c3⟩ := HSC2.out wx HWX.out
                        have HRC2 := Lib.hid (show ∀ W, Below wx.heap.size wx W → W.cell? ⟨g, q * 4, none⟩ = some (.slice r2.vA r2.vals.length r2.vc) ∧ W.cell? ⟨g, q * 4 + 1, none⟩ = some (.int .i64 8) ∧ W.cell? ⟨g, q * 4 + 2, none⟩ = some (.slice r2.hA r2.cs.length r2.hc) ∧ W.cell? ⟨g, q * 4 + 3, none⟩ = some (.int .i64 r2.f) from fun W hW => by
                          obtain ⟨b, o, r', e, _, hr', q0, q1, q2, q3⟩ := ((HRX3.out.on hW).rd HM3.out).at (show q < L2.length by rw [← HM3.out]; exact hqM)
                          rw [HR2.out] at hr'
                          cases hr'
                          cases e
                          simp only [Nat.zero_add] at q0 q1 q2 q3
                          exact ⟨q0, q1, q2, q3⟩)
                        have HFZ := Lib.hid (show ∀ W, Below wx.heap.size wx W → ∀ i, W.frozen? ⟨g, i, none⟩ = false from fun W hW i => by
                          obtain ⟨g', cap', R', e, _, hh, _⟩ := own_block (HRX3.out.on hW).1 (show 0 < L2.length by rw [← HM3.out]; omega)
                          cases e
                          exact frozenAt hh i)
                        have hbds := row_bds (HPRE.out.2 r2.gr (List.mem_map.2 ⟨r2, List.mem_of_getElem? HR2.out, rfl⟩)) (by omega) (fun i hi => by
                          obtain ⟨s, hs⟩ : ∃ s, l[i]? = some s := ⟨_, List.getElem?_eq_getElem (by rw [HL.out]; omega)⟩
                          have := HF.out _ (List.mem_of_getElem? hs)
                          rw [dW_at hs]
                          unfold fineV
                          simp; omega)
                        have HBD := Lib.hid hbds
                        have HMO := Lib.hid (show ∀ W, Below wx.heap.size wx W → _ from fun W hW => more_any 8 (bkt 8 d) 1 r2.hA r2.hc r2.cs W ((((HRX3.out.on hW).2 r2 (List.mem_of_getElem? HR2.out)).cnts).more (Nat.zero_le _) (Nat.le_refl _)) HBD.out.1 (by omega) (by omega) HBD.out.2.1)
                        have HPL := Lib.hid (fun W => (place_any 8 d W (by omega) (by omega) (by omega) (by omega)).mono (fun _ _ h => And.intro h.1 h.2.symm))
                        have HUP := Lib.hid (show ∀ r' : RowX, r'.vals = r2.vals → r'.cs = moreL (bkt 8 d) 1 r2.cs → r'.f = r2.f + (if sf then 1 else 0) → GrOk (kfL keys l) (dW l) (flW l) (j + 1) ((L2.set q r').map RowX.gr) from fun r' h1 h2 h3 => gr_upd HPRE.out HR2.out HK2.out r' h1 (by rw [dW_at HS.out]; exact h2) (by rw [flW_at HS.out]; exact h3))
                        have HBR := Lib.hid (Below.refl wx.heap.size wx)
                        obtain ⟨r0, r1, r2c, r3⟩ := HRC2.out wx HBR.out
                        have c1d : wx.drew.cell? ⟨bs, os + j * 4 + 1, none⟩ = some (.int .i64 d) := c1
                        have r1d : wx.drew.cell? ⟨g, q * 4 + 1, none⟩ = some (.int .i64 8) := r1
                        have r2d : wx.drew.cell? ⟨g, q * 4 + 2, none⟩ = some (.slice r2.hA r2.cs.length r2.hc) := r2c
                        clear hbds
                        go_region_law
                          (first
                            | (go_simp; go_at_call 29; refine (HPL.out _).mono ?_; rintro e w4 ⟨rfl, rfl⟩; try go_simp)
                            | (go_simp; go_at_call 28; refine (HMO.out _ (by first | exact HBR.out | exact HBR.out.drew)).mono ?_; rintro e w5 ⟨u5, rfl, ⟨A5, c5, rfl, hlc5, hcm5, hA5, hrd5⟩, hbC⟩; have hb5 : Below wx.heap.size wx w5 := below_next (by first | exact HBR.out | exact HBR.out.drew) hbC; obtain ⟨y0, y1, y2, y3⟩ := HRC2.out w5 hb5; have z1 : w5.frozen? ⟨g, q * 4 + 1, none⟩ = false := HFZ.out w5 hb5 _; have z2 : w5.frozen? ⟨g, q * 4 + 2, none⟩ = false := HFZ.out w5 hb5 _; have y1d : w5.drew.cell? ⟨g, q * 4 + 1, none⟩ = some (.int .i64 8) := y1; have y2d : w5.drew.cell? ⟨g, q * 4 + 2, none⟩ = some (.slice r2.hA r2.cs.length r2.hc) := y2; have z1d : w5.drew.frozen? ⟨g, q * 4 + 1, none⟩ = false := z1; have z2d : w5.drew.frozen? ⟨g, q * 4 + 2, none⟩ = false := z2; try go_simp))
                        all_goals
                          obtain ⟨wq, hwq⟩ : ∃ W : World, W = (w5.setCell ⟨g, q * 4 + 1, none⟩ (.int .i64 8)).setCell ⟨g, q * 4 + 1 + 1, none⟩ (.slice A5 (moreL (bkt 8 d) 1 r2.cs).length c5) := ⟨_, rfl⟩
                          obtain ⟨r4, hr4⟩ : ∃ r4 : RowX, r4 = { r2 with cs := moreL (bkt 8 d) 1 r2.cs, hA := A5, hc := c5 } := ⟨_, rfl⟩
                          have HQ := Lib.hid (show RowW wq wS.heap.size (.slice (some ⟨g, 0, none⟩) M cap) (L2.set q r4) by rw [hwq, hr4]; exact RowW.setH (B := wx.heap.size) (HRX3.out.on hb5) HM3.out HR2.out hrd5 HBX.out.size hgs.2)
                          have HBq := Lib.hid (show Below wS.heap.size wS wq by rw [hwq]; exact ((HBX.out.trans (hb5.mono HBX.out.size)).setCell hgs.1 _).setCell hgs.1 _)
                          have HR4 := Lib.hid hr4
                          rw [← hwq]
                          clear hwq hr4 y0 y1 y2 y3 z1 z2 y1d y2d z1d z2d hrd5 hb5 hbC r0 r1 r2c r3 c0 c1 c2 c3 c1d r1d r2d hlc5 hcm5 hA5
                          obtain ⟨c0, c1, c2, c3⟩ := HSC2.out wq (HBW.out.trans (HBq.out.mono hsS))
                          have HM4 := Lib.hid (show M = (L2.set q r4).length by rw [List.length_set]; exact HM3.out)
                          have HQG := Lib.hid (show (L2.set q r4)[q]? = some r4 by rw [List.getElem?_set_self (by rw [← HM3.out]; exact hqM)])
                          obtain ⟨r0, r1, r2c, r3⟩ : wq.cell? ⟨g, q * 4, none⟩ = some (.slice r4.vA r4.vals.length r4.vc) ∧ wq.cell? ⟨g, q * 4 + 1, none⟩ = some (.int .i64 8) ∧ wq.cell? ⟨g, q * 4 + 2, none⟩ = some (.slice r4.hA r4.cs.length r4.hc) ∧ wq.cell? ⟨g, q * 4 + 3, none⟩ = some (.int .i64 r4.f) := by
                            obtain ⟨b, o, r', e, _, hr', q0, q1, q2, q3⟩ := (HQ.out.rd HM4.out).at (show q < (L2.set q r4).length by rw [← HM4.out]; exact hqM)
                            rw [HQG.out] at hr'
                            cases hr'
                            cases e
                            simp only [Nat.zero_add] at q0 q1 q2 q3
                            exact ⟨q0, q1, q2, q3⟩
                          obtain ⟨x3, hx3⟩ : ∃ x3, x3 = r4.f := ⟨_, rfl⟩
                          have hx5 : 0 ≤ x3 ∧ x3 ≤ 20000 := by rw [hx3, HR4.out]; exact HBD.out.2.2
                          rw [← hx3] at r3
                          have HX3 := Lib.hid hx3
                          have z3 : wq.frozen? ⟨g, q * 4 + 3, none⟩ = false := by
                            obtain ⟨g', cap', R', e, _, hh, _⟩ := own_block HQ.out.1 (show 0 < (L2.set q r4).length by rw [← HM4.out]; omega)
                            cases e
                            exact frozenAt hh _
                          clear hx3
                          have HGG := Lib.hid (And.intro hgs.1 hgs.2)
                          clear hgs
                          cases sf with
                          | false =>
                            go_wp2
                            go_roundw
                            case rel => exact ⟨_, L2.set q r4, j + 1, rfl, by go_num, by omega, by rw [← HM4.out]; exact hMj, HQ.out, HUP.out r4 (by rw [HR4.out]) (by rw [HR4.out]) (by rw [HR4.out]; simp), HBq.out⟩
                            case measure => simp [intOf]; omega
                          | true =>
                            obtain ⟨r6, hr6⟩ : ∃ r6 : RowX, r6 = { r4 with f := x3 + 1 } := ⟨_, rfl⟩
                            have HR6 := Lib.hid hr6
                            have HF6 := Lib.hid (show RowW (wq.setCell ⟨g, q * 4 + 3, none⟩ (.int .i64 (x3 + 1))) wS.heap.size (.slice (some ⟨g, 0, none⟩) M cap) (L2.set q r6) by
                              have := RowW.setF HQ.out HM4.out HQG.out (x3 + 1)
                              rw [List.set_set, ← hr6] at this
                              exact this)
                            clear hr6
                            go_wp2
                            go_roundw
                            case rel => exact ⟨_, L2.set q r6, j + 1, rfl, by go_num, by omega, by rw [List.length_set, ← HM3.out]; exact hMj, HF6.out, HUP.out r6 (by rw [HR6.out, HR4.out]) (by rw [HR6.out, HR4.out]) (by rw [HR6.out, HX3.out, HR4.out]; simp), HBq.out.setCell HGG.out.1 _⟩
                            case measure => simp [intOf]; omega
            · obtain rfl : j = n := by omega
              obtain ⟨Ao, co, ho, _, _, _⟩ := ownsRow_shape HRW.out.1
              subst ho
              go_wp2
              go_ret2
              exact ⟨HBWO.out, .inr ⟨HCZ.out, Ao, co, L, rfl, HRW.out.rd rfl, HOK.out⟩⟩
  · have HC := Lib.hid (show codeG n l keys = cc by unfold codeG; rw [if_pos (by rw [← hcc]; exact hc0), hcc])
    have hcn : (cc != 0) = true := by simpa using hc0
    clear hcc
    go_wp2
    go_ret2
    exact ⟨HB1.out, .inl ⟨by rw [HC.out]; exact hc0, by rw [HC.out]; rfl⟩⟩
end Go.Proofs.YtjkoppdddaknlaaGreatDoor
