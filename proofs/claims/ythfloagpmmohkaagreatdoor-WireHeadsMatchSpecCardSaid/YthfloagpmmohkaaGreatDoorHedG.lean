/- Values (both). Printed by wip/gen_head.py. -/
import Derived.Test.YthfloagpmmohkaaGreatDoorHedF
namespace Go.Proofs.YthfloagpmmohkaaGreatDoor
open Go Go.RowKit Go.Proofs

def valsCode (h : List Pr) (name : List UInt8) : Int := if headFault h ≠ 0 then headFault h else if nameOk name then 0 else 8
def valsRes (h : List Pr) (name : List UInt8) : List (List UInt8) := if headFault h = 0 ∧ nameOk name = true then valuesP h name else []
def ValsP (w : World) (h : List Pr) (name : List UInt8) (e : Ending) (w' : World) : Prop := Below w.heap.size w w' ∧ ∃ V, e = .returned (.tuple #[V, .int .i64 (valsCode h name)]) ∧ OffR w' w.heap.size 9 1 V (valsRes h name).length (txs (valsRes h name))
theorem headFault_len {h : List Pr} (e : headFault h = 0) : h.length ≤ 100 := by
  unfold headFault at e
  split at e
  · omega
  · omega
theorem offNil (w : World) (base : Nat) (e : TypeId) : OffR w base e 1 (.slice none 0 0) 0 [] := ⟨rfl, .inl ⟨rfl, rfl⟩⟩
theorem OffR.lower {w : World} {base b2 : Nat} {e : TypeId} {k n : Nat} {v : Value} {xs : List Value} (h : OffR w base e k v n xs) (hb : b2 ≤ base) : OffR w b2 e k v n xs := by
  refine ⟨h.1, ?_⟩
  rcases h.2 with h0 | ⟨g, o, cap, cur, hv, h1, h2⟩
  · exact .inl h0
  · exact .inr ⟨g, o, cap, cur, hv, by omega, h2⟩
set_option maxHeartbeats 2000000 in
set_option maxRecDepth 100000 in
theorem values_any (A : Option Addr) (n c : Nat) (h : List Pr) (name : List UInt8) (w : World) (hr : Rd w 0 w.heap.size 2 A n (prC h)) (hb : PrBd h) (hn : n ≤ 140737488355328) (hnm : name.length ≤ 140737488355328) : Calls Tryz.prog 10 #[.slice A n c, tx name] w (ValsP w h name) := by
  obtain ⟨i0, hi, hz0, hz1, hz2⟩ := info_parts infoCT
  have hlen : h.length = n := by have := hr.1; rw [prC_length] at this; omega
  have HR := Lib.hid hr
  have HB := Lib.hid hb
  have HL := Lib.hid hlen
  have HCK := Lib.hid (checkHead_any A n c h w hr hb hn)
  have HNM := Lib.hid (fun W => nameForm_any name W hnm)
  have HLEN := Lib.hid (fun (e : headFault h = 0) => headFault_len e)
  obtain ⟨z, hz⟩ : ∃ z, z = headFault h := ⟨_, rfl⟩
  rw [← hz] at HCK HLEN
  have HCK := Lib.hid HCK.out
  have HLEN := Lib.hid HLEN.out
  have HZ := Lib.hid hz
  clear hr hb hlen hz
  by_cases hz0 : z = 0
  · have t0 : (z == 0) = true := by simp [hz0]
    have t1 : (z != 0) = false := by simp [hz0]
    have hn100 : n ≤ 100 := by rw [← HL.out]; exact HLEN.out hz0
    have HZ0 := Lib.hid (show headFault h = 0 by rw [← HZ.out]; exact hz0)
    clear hz0
    cases hno : nameOk name with
    | false =>
      rw [hno] at HNM
      have HNM := Lib.hid HNM.out
      have E := Lib.hid (show valsCode h name = 8 by unfold valsCode; rw [if_neg (by rw [HZ0.out]; simp), hno]; rfl)
      have E2 := Lib.hid (show valsRes h name = [] by unfold valsRes; rw [if_neg (fun q => by rw [hno] at q; cases q.2)])
      clear hno
      go_enter Tryz.func10, Tryz.ntmps10
      go_wp2_with fail
      (with_reducible refine (HCK.out).mono ?_)
      rintro e w2 ⟨rfl, hb2⟩
      have HB2 := Lib.hid hb2
      clear hb2
      go_wp2_with fail
      (with_reducible refine (HNM.out _).mono ?_)
      rintro e w3 ⟨rfl, rfl⟩
      go_wp2
      refine bodyPost_ret (v := .tuple #[.slice none 0 0, .int .i64 8]) (by simp [results, Tryz.results10, go_sem]) rfl ?_
      exact ⟨HB2.out, _, by rw [E.out], by rw [E2.out]; exact offNil _ _ _⟩
    | true =>
      rw [hno] at HNM
      have HNM := Lib.hid HNM.out
      have E := Lib.hid (show valsCode h name = 0 by unfold valsCode; rw [if_neg (by rw [HZ0.out]; simp), hno]; rfl)
      have E2 := Lib.hid (show valsRes h name = valuesP h name by unfold valsRes; rw [if_pos ⟨HZ0.out, hno⟩])
      clear hno
      go_enter Tryz.func10, Tryz.ntmps10
      go_wp2_with fail
      (with_reducible refine (HCK.out).mono ?_)
      rintro e w2 ⟨rfl, hb2⟩
      have HB2 := Lib.hid hb2
      clear hb2
      go_wp2_with fail
      (with_reducible refine (HNM.out _).mono ?_)
      rintro e w3 ⟨rfl, rfl⟩
      have HVO := Lib.hid (valuesOf_any A n c h name w2 (HR.out.below HB2.out (Nat.le_refl _)|>.more (Nat.le_refl _) HB2.out.size) HB.out (by omega) hnm)
      go_wp2_with fail
      (with_reducible refine (HVO.out).mono ?_)
      rintro e w4 ⟨hb4, V, rfl, hV⟩
      have HB4 := Lib.hid (HB2.out.trans (hb4.mono HB2.out.size))
      have HV := Lib.hid hV
      have hsz := HB2.out.size
      clear hb4 hV
      go_wp2
      refine bodyPost_ret (v := .tuple #[V, .int .i64 0]) (by simp [results, Tryz.results10, go_sem]) rfl ?_
      exact ⟨HB4.out, _, by rw [E.out], by rw [E2.out]; exact HV.out.lower hsz⟩
  · have t0 : (z == 0) = false := by simp [hz0]
    have t1 : (z != 0) = true := by simp [hz0]
    have E := Lib.hid (show valsCode h name = z by unfold valsCode; rw [← HZ.out, if_pos hz0])
    have E2 := Lib.hid (show valsRes h name = [] by unfold valsRes; rw [← HZ.out, if_neg (fun q => hz0 q.1)])
    clear hz0
    go_enter Tryz.func10, Tryz.ntmps10
    go_wp2_with fail
    (with_reducible refine (HCK.out).mono ?_)
    rintro e w2 ⟨rfl, hb2⟩
    have HB2 := Lib.hid hb2
    clear hb2
    go_wp2
    refine bodyPost_ret (v := .tuple #[.slice none 0 0, .int .i64 z]) (by simp [results, Tryz.results10, go_sem]) rfl ?_
    exact ⟨HB2.out, _, by rw [E.out], by rw [E2.out]; exact offNil _ _ _⟩
set_option maxHeartbeats 2000000 in
set_option maxRecDepth 100000 in
theorem rvalues_any (A : Option Addr) (n c : Nat) (h : List Pr) (name : List UInt8) (w : World) (hr : Rd w 0 w.heap.size 2 A n (prC h)) (hb : PrBd h) (hn : n ≤ 140737488355328) (hnm : name.length ≤ 140737488355328) : Calls Tryz.prog 11 #[.slice A n c, tx name] w (ValsP w h name) := by
  obtain ⟨i0, hi, hz0, hz1, hz2⟩ := info_parts infoCT
  have hlen : h.length = n := by have := hr.1; rw [prC_length] at this; omega
  have HR := Lib.hid hr
  have HB := Lib.hid hb
  have HL := Lib.hid hlen
  have HCK := Lib.hid (rHeadFault_any A n c h w hr hb hn)
  have HNM := Lib.hid (fun W => rToken_any name W hnm)
  have HLEN := Lib.hid (fun (e : headFault h = 0) => headFault_len e)
  obtain ⟨z, hz⟩ : ∃ z, z = headFault h := ⟨_, rfl⟩
  rw [← hz] at HCK HLEN
  have HCK := Lib.hid HCK.out
  have HLEN := Lib.hid HLEN.out
  have HZ := Lib.hid hz
  clear hr hb hlen hz
  by_cases hz0 : z = 0
  · have t0 : (z == 0) = true := by simp [hz0]
    have t1 : (z != 0) = false := by simp [hz0]
    have hn100 : n ≤ 100 := by rw [← HL.out]; exact HLEN.out hz0
    have HZ0 := Lib.hid (show headFault h = 0 by rw [← HZ.out]; exact hz0)
    clear hz0
    cases hno : nameOk name with
    | false =>
      rw [hno] at HNM
      have HNM := Lib.hid HNM.out
      have E := Lib.hid (show valsCode h name = 8 by unfold valsCode; rw [if_neg (by rw [HZ0.out]; simp), hno]; rfl)
      have E2 := Lib.hid (show valsRes h name = [] by unfold valsRes; rw [if_neg (fun q => by rw [hno] at q; cases q.2)])
      clear hno
      go_enter Tryz.func11, Tryz.ntmps11
      go_wp2_with fail
      (with_reducible refine (HCK.out).mono ?_)
      rintro e w2 ⟨rfl, hb2⟩
      have HB2 := Lib.hid hb2
      clear hb2
      go_wp2_with fail
      (with_reducible refine (HNM.out _).mono ?_)
      rintro e w3 ⟨rfl, rfl⟩
      go_wp2
      refine bodyPost_ret (v := .tuple #[.slice none 0 0, .int .i64 8]) (by simp [results, Tryz.results11, go_sem]) rfl ?_
      exact ⟨HB2.out, _, by rw [E.out], by rw [E2.out]; exact offNil _ _ _⟩
    | true =>
      rw [hno] at HNM
      have HNM := Lib.hid HNM.out
      have E := Lib.hid (show valsCode h name = 0 by unfold valsCode; rw [if_neg (by rw [HZ0.out]; simp), hno]; rfl)
      have E2 := Lib.hid (show valsRes h name = valuesP h name by unfold valsRes; rw [if_pos ⟨HZ0.out, hno⟩])
      clear hno
      go_enter Tryz.func11, Tryz.ntmps11
      go_wp2_with fail
      (with_reducible refine (HCK.out).mono ?_)
      rintro e w2 ⟨rfl, hb2⟩
      have HB2 := Lib.hid hb2
      clear hb2
      go_wp2_with fail
      (with_reducible refine (HNM.out _).mono ?_)
      rintro e w3 ⟨rfl, rfl⟩
      obtain ⟨sn, hsn⟩ : ∃ z, z = Cr.sml name := ⟨_, rfl⟩
      have HSN := Lib.hid hsn
      have HSM := Lib.hid (fun (W : World) => rsmall_any name W hnm)
      rw [← hsn] at HSM
      have HSM := Lib.hid HSM.out
      clear hsn
      go_wp2
      go_loopw [7, 8] (fun ov i wr => ∃ k : Nat, k ≤ n ∧ i = .int .i64 k ∧ wr.ownsRow w.heap.size 9 1 ov (valuesP (h.take k) name).length (txs (valuesP (h.take k) name)) ∧ Below w.heap.size w wr) (fun _ i _ => n - (intOf i).toNat)
      case atStart => exact ⟨0, Nat.zero_le _, rfl, ⟨rfl, .inl ⟨rfl, rfl⟩⟩, HB2.out⟩
      case round =>
        obtain ⟨k, hk, rfl, ho, hbw⟩ := hrel
        obtain ⟨A2, k2, hvv, hm1, hm2, hA2⟩ := ownsRow_shape ho
        have hvl := valuesP_len (h.take k) name
        rw [List.length_take, HL.out] at hvl
        obtain ⟨xs, hxs⟩ : ∃ z, z = valuesP (h.take k) name := ⟨_, rfl⟩
        obtain ⟨m, hm⟩ : ∃ z, z = xs.length := ⟨_, rfl⟩
        rw [← hxs, ← hm] at hvv ho hm1 hvl
        rw [hvv] at ho
        have HM := Lib.hid hm
        have HXS := Lib.hid hxs
        have HO := Lib.hid ho
        have HBW0 := Lib.hid hbw
        have hwr := hbw.size
        unfold maxLen at hm2
        clear hm hxs ho
        subst hvv
        by_cases hlt : k < n
        · obtain ⟨bk, o, x, y, rfl, _, hbk, hx, c0, c1⟩ := (HR.out.below hbw (Nat.le_refl _)).atP hlt
          have hbd := HB.out (x, y) (List.mem_of_getElem? hx)
          have HST := Lib.hid (valuesP_step h name k x y hx)
          rw [← HXS.out, ← HSN.out] at HST
          have HST := Lib.hid HST.out
          obtain ⟨sx, hsx⟩ : ∃ z, z = Cr.sml x := ⟨_, rfl⟩
          have HSX := Lib.hid (fun (W : World) => rsmall_any x W hbd.1)
          rw [← hsx] at HSX HST
          have HSX := Lib.hid HSX.out
          have HST := Lib.hid HST.out
          have hlx := hbd.2
          clear hx hbd hbw hsx
          cases hs : (sx == sn) with
          | false =>
            rw [hs] at HST
            have HST := Lib.hid (show valuesP (h.take (k + 1)) name = xs from HST.out)
            go_wp2_with fail
            (with_reducible refine (HSX.out _).mono ?_)
            rintro e w3 ⟨rfl, hb3⟩
            go_wp2_with fail
            (with_reducible refine (HSM.out _).mono ?_)
            rintro e w4 ⟨rfl, hb4⟩
            have hb34 : Below wr.heap.size wr w4 := hb3.trans (hb4.mono hb3.size)
            have HB4 := Lib.hid (HBW0.out.trans (hb34.mono hwr))
            have HO4 := Lib.hid (ownsRow_fr HO.out (Fr.of_below hb34) (fun i hi hm => by have := (ownsRow_block HO.out hi).2; omega))
            clear hb3 hb4 hb34
            go_wp2
            go_roundw
            case rel => exact ⟨k + 1, by omega, by go_num, by rw [HST.out, ← HM.out]; exact HO4.out, HB4.out⟩
            case measure => simp [intOf]; omega
          | true =>
            rw [hs] at HST
            have HST := Lib.hid (show valuesP (h.take (k + 1)) name = xs ++ [y] from HST.out)
            go_wp2_with fail
            (with_reducible refine (HSX.out _).mono ?_)
            rintro e w3 ⟨rfl, hb3⟩
            go_wp2_with fail
            (with_reducible refine (HSM.out _).mono ?_)
            rintro e W ⟨rfl, hb4⟩
            have hb34 : Below wr.heap.size wr W := hb3.trans (hb4.mono hb3.size)
            have HBW := Lib.hid (HBW0.out.trans (hb34.mono hwr))
            have HOW := Lib.hid (ownsRow_fr HO.out (Fr.of_below hb34) (fun i hi hm => by have := (ownsRow_block HO.out hi).2; omega))
            have hcy : W.cell? ⟨bk, o + k * 2 + 1, none⟩ = some (tx y) := (hb34.cell (p := ⟨bk, o + k * 2 + 1, none⟩) (by show bk < _; omega)).trans c1
            have hbwW : w.heap.size ≤ W.heap.size := HBW.out.size
            clear hb3 hb4 hb34 c0 c1
            go_wp2_with (at_builtin; go_loud (refine wpList_append_lies _ rfl _ _ 30 rfl w.heap.size 9 i0 (.string ⟨#[]⟩) 1 16 Tryz.underlying30 hi hz0 hz1 hz2 rfl (by decide) (.slice A2 m k2) m (txs xs) rfl (HOW.out.alloc _) ⟨W.heap.size, 0, none⟩ 1 1 [tx y] rfl rfl ?c0 (by simp [Value.oneCell']) (by decide) ?c3 ?c4 ?c5 (W.heap.size + 1) (by simp) ?_))
            case c0 => have := cell_one_new W (tx y) 9; simpa using this
            case c3 => unfold maxLen; omega
            case c4 => omega
            case c5 => simp; omega
            intro g5 cap5 w5 ho5 hg5 hat5 hlt5
            have hf5 : Below w.heap.size w w5 := HBW.out.trans (((Fr.of_grown hg5).below (B := w.heap.size) (by simp; omega) (fun j hj hm => by have := (ownsRow_block HOW.out hm).1; omega)) |> fun h9 => ((Below.refl w.heap.size W).alloc (by omega) _).trans h9)
            have HF5 := Lib.hid hf5
            have HO5 := Lib.hid (show w5.ownsRow w.heap.size 9 1 (.slice (some ⟨g5, 0, none⟩) (m + 1) cap5) (xs ++ [y]).length (txs (xs ++ [y])) by
              have e1 : (xs ++ [y]).length = m + 1 := by rw [List.length_append, ← HM.out]; rfl
              have e2 : txs (xs ++ [y]) = txs xs ++ [tx y] := by simp [txs]
              rw [e1, e2]
              exact ho5)
            clear ho5 hg5 hat5 hf5
            go_wp2
            go_roundw
            case rel => exact ⟨k + 1, by omega, by go_num, by rw [HST.out]; exact HO5.out, HF5.out⟩
            case measure => simp [intOf]; omega
        · have E3 := Lib.hid (show valuesP h name = xs by rw [HXS.out, List.take_of_length_le (by rw [HL.out]; omega)])
          go_wp2
          refine bodyPost_ret (v := .tuple #[.slice A2 m k2, .int .i64 0]) (by simp [results, Tryz.results11, go_sem]) rfl ?_
          exact ⟨HBW0.out, _, by rw [E.out], by rw [E2.out, E3.out, ← HM.out]; exact OffR.of_own HO.out⟩
  · have t0 : (z == 0) = false := by simp [hz0]
    have t1 : (z != 0) = true := by simp [hz0]
    have E := Lib.hid (show valsCode h name = z by unfold valsCode; rw [← HZ.out, if_pos hz0])
    have E2 := Lib.hid (show valsRes h name = [] by unfold valsRes; rw [← HZ.out, if_neg (fun q => hz0 q.1)])
    clear hz0
    go_enter Tryz.func11, Tryz.ntmps11
    go_wp2_with fail
    (with_reducible refine (HCK.out).mono ?_)
    rintro e w2 ⟨rfl, hb2⟩
    have HB2 := Lib.hid hb2
    clear hb2
    go_wp2
    refine bodyPost_ret (v := .tuple #[.slice none 0 0, .int .i64 z]) (by simp [results, Tryz.results11, go_sem]) rfl ?_
    exact ⟨HB2.out, _, by rw [E.out], by rw [E2.out]; exact offNil _ _ _⟩
end Go.Proofs.YthfloagpmmohkaaGreatDoor
