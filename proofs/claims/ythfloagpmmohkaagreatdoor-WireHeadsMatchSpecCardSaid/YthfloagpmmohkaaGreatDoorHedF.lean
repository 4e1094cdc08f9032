/- the values of a name (both). Printed by wip/gen_head.py. -/
import Derived.Test.YthfloagpmmohkaaGreatDoorHedE
import Derived.Test.YthfloagpmmohkaaGreatDoorCoreN
import Derived.Test.YthfloagpmmohkaaGreatDoorHedC
import Derived.Test.YthfloagpmmohkaaGreatDoorG30
namespace Go.Proofs.YthfloagpmmohkaaGreatDoor
open Go Go.RowKit Go.Proofs

theorem infoCT : (Tryz.prog.info? 9).map (fun i => (i.zero, i.size, i.bytes)) = some (some (.string ⟨#[]⟩), 1, 16) := by kernel_rfl
def txs (xs : List (List UInt8)) : List Value := xs.map tx
def valuesP (h : List Pr) (name : List UInt8) : List (List UInt8) := (h.filter (fun p => Cr.sml p.1 == Cr.sml name)).map (·.2)
theorem valuesP_step (h : List Pr) (name : List UInt8) (k : Nat) (x y : List UInt8) (hx : h[k]? = some (x, y)) : valuesP (h.take (k + 1)) name = if Cr.sml x == Cr.sml name then valuesP (h.take k) name ++ [y] else valuesP (h.take k) name := by
  unfold valuesP
  rw [List.take_add_one, hx, List.filter_append, List.map_append]
  show _ ++ List.map _ (List.filter _ [(x, y)]) = _
  rw [List.filter_cons]
  split
  · rfl
  · simp
theorem valuesP_len (h : List Pr) (name : List UInt8) : (valuesP h name).length ≤ h.length := by
  unfold valuesP
  rw [List.length_map]
  exact List.length_filter_le _ _
set_option maxHeartbeats 4000000 in
set_option maxRecDepth 100000 in
theorem clipTx_any (A : Option Addr) (n c : Nat) (w : World) (hnc : n ≤ c) (hc : c ≤ maxLen) (hA : A = none → n = 0 ∧ c = 0) :
    Calls Tryz.prog 93 #[.slice A n c] w fun e w' => e = .returned (.slice A n n) ∧ w = w' := by
  unfold maxLen at hc
  rcases A with _ | a
  · obtain ⟨rfl, rfl⟩ := hA rfl
    go_enter Tryz.func93, Tryz.ntmps93
    go_wp2
    go_ret
    exact ⟨rfl, rfl⟩
  · go_enter Tryz.func93, Tryz.ntmps93
    go_wp2
    go_ret
    exact ⟨rfl, rfl⟩
set_option maxHeartbeats 2000000 in
set_option maxRecDepth 100000 in
theorem valuesOf_any (A : Option Addr) (n c : Nat) (h : List Pr) (name : List UInt8) (w : World) (hr : Rd w 0 w.heap.size 2 A n (prC h)) (hb : PrBd h) (hn : n ≤ 1000) (hnm : name.length ≤ 140737488355328) : Calls Tryz.prog 44 #[.slice A n c, tx name] w fun e w' => Below w.heap.size w w' ∧ ∃ V, e = .returned V ∧ OffR w' w.heap.size 9 1 V (valuesP h name).length (txs (valuesP h name)) := by
  obtain ⟨i0, hi, hz0, hz1, hz2⟩ := info_parts infoCT
  have hlen : h.length = n := by have := hr.1; rw [prC_length] at this; omega
  have HR := Lib.hid hr
  have HB := Lib.hid hb
  have HL := Lib.hid hlen
  clear hr hb hlen
  go_enter Tryz.func44, Tryz.ntmps44
  go_wp2
  go_loopw [5, 7, 10] (fun ov _ i wr => ∃ k : Nat, k ≤ n ∧ i = .int .i64 k ∧ wr.ownsRow w.heap.size 9 1 ov (valuesP (h.take k) name).length (txs (valuesP (h.take k) name)) ∧ Below w.heap.size w wr) (fun _ _ i _ => n - (intOf i).toNat)
  case atStart => exact ⟨0, Nat.zero_le _, rfl, ⟨rfl, .inl ⟨rfl, rfl⟩⟩, Below.refl _ _⟩
  case round =>
    obtain ⟨k, hk, rfl, ho, hbw⟩ := hrel
    obtain ⟨A2, k2, hvv, hm1, hm2, hA2⟩ := ownsRow_shape ho
    have hvl := valuesP_len (h.take k) name
    rw [List.length_take, HL.out] at hvl
    obtain ⟨xs, hxs⟩ : ∃ z, z = valuesP (h.take k) name := ⟨_, rfl⟩
    obtain ⟨m, hm⟩ : ∃ z, z = xs.length := ⟨_, rfl⟩
    rw [← hxs, ← hm] at hvv ho hm1 hvl
    rw [hvv] at ho
    have HM := Lib.hid hm
    have HXS := Lib.hid hxs
    have HO := Lib.hid ho
    have HBW0 := Lib.hid hbw
    have hwr := hbw.size
    unfold maxLen at hm2
    clear hm hxs ho
    subst hvv
    by_cases hlt : k < n
    · obtain ⟨bk, o, x, y, rfl, _, hbk, hx, c0, c1⟩ := (HR.out.below hbw (Nat.le_refl _)).atP hlt
      have hbd := HB.out (x, y) (List.mem_of_getElem? hx)
      have HST := Lib.hid (valuesP_step h name k x y hx)
      rw [← HXS.out] at HST
      have HAL := Lib.hid (fun W => alike_any x name W hbd.1 hnm)
      have HBA := Lib.hid (fun ob => hbw.alloc hwr ob)
      have HOA := Lib.hid (fun ob => HO.out.alloc ob)
      have hcx : (wr.alloc (.cells #[tx x, tx y] 69)).cell? ⟨wr.heap.size, 1, none⟩ = some (tx y) := by
        rw [cellsAt (show (wr.alloc (.cells #[tx x, tx y] 69)).heap[wr.heap.size]? = some (.cells #[tx x, tx y] 69 (0, 0)) from Array.getElem?_push_size)]
        rfl
      have HCX := Lib.hid hcx
      clear hx hbd hbw hcx
      cases hs : (Cr.sml x == Cr.sml name) with
      | false =>
        rw [hs] at HAL HST
        have HAL := Lib.hid HAL.out
        have HST := Lib.hid (show valuesP (h.take (k + 1)) name = xs from HST.out)
        clear hs
        go_wp2_with fail
        (with_reducible refine (HAL.out _).mono ?_)
        rintro e w3 ⟨rfl, hb3⟩
        have HB3 := Lib.hid ((HBA.out _).trans (hb3.mono (by simp; omega)))
        have HO3 := Lib.hid (ownsRow_fr (HOA.out _) (Fr.of_below hb3) (fun i hi hm => by have := (ownsRow_block HO.out hi).2; simp at hm; omega))
        clear hb3
        go_wp2
        go_roundw
        case rel => exact ⟨k + 1, by omega, by go_num, by rw [HST.out, ← HM.out]; exact HO3.out, HB3.out⟩
        case measure => simp [intOf]; omega
      | true =>
        rw [hs] at HAL HST
        have HAL := Lib.hid HAL.out
        have HST := Lib.hid (show valuesP (h.take (k + 1)) name = xs ++ [y] from HST.out)
        clear hs
        go_wp2_with fail
        (with_reducible refine (HAL.out _).mono ?_)
        rintro e W ⟨rfl, hb3⟩
        have HBW := Lib.hid ((HBA.out _).trans (hb3.mono (by simp; omega)))
        have HOW := Lib.hid (ownsRow_fr (HOA.out _) (Fr.of_below hb3) (fun i hi hm => by have := (ownsRow_block HO.out hi).2; simp at hm; omega))
        have hcy : W.cell? ⟨wr.heap.size, 1, none⟩ = some (tx y) := (hb3.cell (p := ⟨wr.heap.size, 1, none⟩) (by simp)).trans HCX.out
        have hbwW : w.heap.size ≤ W.heap.size := HBW.out.size
        clear hb3
        go_wp2_with (at_builtin; go_loud (refine wpList_append_lies _ rfl _ _ 30 rfl w.heap.size 9 i0 (.string ⟨#[]⟩) 1 16 Tryz.underlying30 hi hz0 hz1 hz2 rfl (by decide) (.slice A2 m k2) m (txs xs) rfl (HOW.out.alloc _) ⟨W.heap.size, 0, none⟩ 1 1 [tx y] rfl rfl ?c0 (by simp [Value.oneCell']) (by decide) ?c3 ?c4 ?c5 (W.heap.size + 1) (by simp) ?_))
        case c0 => have := cell_one_new W (tx y) 9; simpa using this
        case c3 => unfold maxLen; omega
        case c4 => omega
        case c5 => simp; omega
        intro g5 cap5 w5 ho5 hg5 hat5 hlt5
        have hf5 : Below w.heap.size w w5 := HBW.out.trans (((Fr.of_grown hg5).below (B := w.heap.size) (by simp; omega) (fun j hj hm => by have := (ownsRow_block HOW.out hm).1; omega)) |> fun h9 => ((Below.refl w.heap.size W).alloc (by omega) _).trans h9)
        have HF5 := Lib.hid hf5
        have HO5 := Lib.hid (show w5.ownsRow w.heap.size 9 1 (.slice (some ⟨g5, 0, none⟩) (m + 1) cap5) (xs ++ [y]).length (txs (xs ++ [y])) by
          have e1 : (xs ++ [y]).length = m + 1 := by rw [List.length_append, ← HM.out]; rfl
          have e2 : txs (xs ++ [y]) = txs xs ++ [tx y] := by simp [txs]
          rw [e1, e2]
          exact ho5)
        clear ho5 hg5 hat5 hf5
        go_wp2
        go_roundw
        case rel => exact ⟨k + 1, by omega, by go_num, by rw [HST.out]; exact HO5.out, HF5.out⟩
        case measure => simp [intOf]; omega
    · have E := Lib.hid (show valuesP h name = xs by rw [HXS.out, List.take_of_length_le (by rw [HL.out]; omega)])
      obtain ⟨A3, c3, hv3, q1, q2, q3, hoc⟩ := (OffR.of_own HO.out).shape2
      simp only [Value.slice.injEq, true_and] at hv3
      obtain ⟨rfl, rfl⟩ := hv3
      have HCL := Lib.hid (clipTx_any A2 m k2 wr q1 q2 q3)
      have HOC := Lib.hid hoc
      clear hoc q1 q2 q3
      go_wp2_with fail
      (with_reducible refine (HCL.out).mono ?_)
      rintro e w3 ⟨rfl, rfl⟩
      go_wp2
      go_ret
      exact ⟨HBW0.out, _, rfl, by rw [E.out, ← HM.out]; exact HOC.out⟩
end Go.Proofs.YthfloagpmmohkaaGreatDoor
