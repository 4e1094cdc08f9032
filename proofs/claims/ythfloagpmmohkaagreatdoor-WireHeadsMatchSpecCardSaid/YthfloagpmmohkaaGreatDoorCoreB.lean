/- wire's reader of messages: a fixed text, the parts of the first line. Printed by wip/gen_core.py. -/
import Derived.Test.YthfloagpmmohkaaGreatDoorCoreA
import Derived.Test.YthfloagpmmohkaaGreatDoorG3
import Derived.Deep.AppendLies
import Derived.Laws.BytesString
import Derived.Laws.IdiomStrings
import Derived.Lib.SlBytesRow
import Derived.Lib.BufferRead
namespace Go.Proofs.YthfloagpmmohkaaGreatDoor
open Go Go.RowKit Go.Proofs

theorem infoCU : (Tryz.prog.info? 5).map (fun i => (i.zero, i.size, i.bytes)) = some (some (.int .u8 0), 1, 1) := by kernel_rfl
theorem tx_index (l : List UInt8) (i : Nat) (x : UInt8) (hx : l[i]? = some x) (W : World) : (Instr.index 9 (tx l) (.int .i64 (i : Int))).run Tryz.prog W = .ok (.int .u8 (x.toNat : Int)) W := by
  obtain ⟨h1, h2⟩ := List.getElem?_eq_some_iff.1 hx
  have h3 : (0 : Int) ≤ (i : Int) ∧ (i : Int) < (⟨l.toArray⟩ : ByteArray).size := ⟨by omega, by show (i : Int) < (l.toArray.size : Nat); simp; omega⟩
  rw [run_index_string _ _ _ _ _ Tryz.underlying9, dif_pos h3]
  have h4 : (⟨l.toArray⟩ : ByteArray)[(i : Int).toNat]'(by have := h3.2; omega) = x := by
    show l.toArray[(i : Int).toNat]'_ = x
    simp [h2]
  rw [h4]
theorem conv_own {w : World} {base k : Nat} {A : Option Addr} {l : List UInt8} (h : w.ownsRow base 5 1 (.slice A l.length k) l.length (Lib.byteCells l)) : (convert 27 9 (.slice A l.length k)).run Tryz.prog w = .ok (tx l) w := by
  have h0 := h
  rcases h.2 with ⟨hv, hn⟩ | ⟨g, cap, cur, hv, hb, hh, h1, h2, h3, h4⟩
  · simp only [Value.slice.injEq] at hv
    obtain rfl : l = [] := List.eq_nil_of_length_eq_zero hn
    rw [hv.1, hv.2.2]
    exact Lib.run_convert_nil_bytes w 27 9 5 0 Tryz.underlying27 Tryz.underlying5 Tryz.underlying9
  · simp only [Value.slice.injEq] at hv
    obtain ⟨rfl, _, rfl⟩ := hv
    refine run_convert_bytes_back w 27 9 5 ⟨g, 0, none⟩ k l Tryz.underlying27 Tryz.underlying5 Tryz.underlying9 (fun j hj => ?_)
    have := h0.cells (g := g) rfl j (.int .u8 (l[j].toNat : Int)) (by simp [Lib.byteCells, hj])
    exact this
section
variable {T : TypeId} {ex : List Value} {K base : Nat}
theorem box_cell {w : World} {c : Cr} {v : CrV} (hb : w.heap[K]? = some (.cells (crC c v ++ ex).toArray T (0, 0))) (j : Nat) {u : Value} (hj : (crC c v)[j]? = some u) : w.cell? ⟨K, j, none⟩ = some u := by
  have hl : j < 23 := by have := (List.getElem?_eq_some_iff.1 hj).1; rwa [crC_length] at this
  rw [cellsAt hb]
  simp only [List.getElem?_toArray]
  rw [List.getElem?_append_left (by rw [crC_length]; exact hl)]
  exact hj
/-- the box behind an append to the word, to the body -/
theorem CrR.boxW (hT : TyOk T) {w w2 : World} {c : Cr} {v : CrV} (h : CrR T ex w K base c v) {o : Obj} (hg : (w.alloc o).grownBy w2 v.vw.ownBlock) : w2.heap[K]? = some (.cells (crC c v ++ ex).toArray T (0, 0)) ∧ Fr (fun i => some i = v.vw.ownBlock) w w2 := by
  have hf : Fr (fun i => some i = v.vw.ownBlock) w w2 := ((Fr.refl (fun i => some i = v.vw.ownBlock) w).alloc o).trans (Fr.of_grown hg) (fun _ _ h => h)
  exact ⟨(hf.block K h.lt (fun e => by obtain ⟨c0, h1⟩ := own_type h.word e; exact hT.nK h h1 hT.u.symm rfl)).trans h.box, hf⟩
theorem CrR.boxB (hT : TyOk T) {w w2 : World} {c : Cr} {v : CrV} (h : CrR T ex w K base c v) (hbg : c.begun = true) {o : Obj} (hg : (w.alloc o).grownBy w2 v.vb.ownBlock) : w2.heap[K]? = some (.cells (crC c v ++ ex).toArray T (0, 0)) ∧ Fr (fun i => some i = v.vb.ownBlock) w w2 := by
  have hf : Fr (fun i => some i = v.vb.ownBlock) w w2 := ((Fr.refl (fun i => some i = v.vb.ownBlock) w).alloc o).trans (Fr.of_grown hg) (fun _ _ h => h)
  exact ⟨(hf.block K h.lt (fun e => by obtain ⟨c0, h1⟩ := own_type (h.body hbg) e; exact hT.nK h h1 hT.u.symm rfl)).trans h.box, hf⟩
theorem byteCells_snoc (l : List UInt8) (b : UInt8) : Lib.byteCells (l ++ [b]) = Lib.byteCells l ++ [.int .u8 (b.toNat : Int)] := by simp [Lib.byteCells]
theorem u8_ne {b k : UInt8} (h : ¬ b = k) : b.toNat ≠ k.toNat := fun e => h (UInt8.toNat_inj.1 e)
set_option maxHeartbeats 4000000 in
set_option maxRecDepth 100000 in
theorem cFixed_any (hT : TyOk T) (c : Cr) (v : CrV) (b : UInt8) (t : List UInt8) (nx : Int) (w : World) (h : CrR T ex w K base c v) (hl : c.word.length < t.length) (ht : t.length ≤ 1000000) :
    Calls Tryz.prog 161 #[.pointer (some ⟨K, 0, none⟩), .int .u8 (b.toNat : Int), tx t, .int .i64 nx] w (CrP T ex K base (c.fixed b t nx) w) := by
  obtain ⟨i0, hi, hz0, hz1, hz2⟩ := info_parts infoCU
  obtain ⟨A, k, hvw, hnc, hcm, hA⟩ := ownsRow_shape h.word
  have k11 := h.cell 11 (u := v.vw) rfl
  rw [hvw] at k11
  have HH := Lib.hid h
  have HO := h.word
  rw [hvw] at HO
  have hcvw := conv_own HO
  obtain ⟨n, hn⟩ : ∃ n, n = c.word.length := ⟨_, rfl⟩
  rw [← hn] at hvw hnc HO hcvw k11
  have HN := Lib.hid hn
  have HV := Lib.hid hvw
  have HO := Lib.hid HO
  have HWR := Lib.hid (cWrong_any hT c v w h)
  have hbw := h.bw
  have hKlt := h.lt
  unfold maxLen at hcm
  rw [← hn] at hl
  obtain ⟨x, hx⟩ : ∃ x, t[n]? = some x := ⟨_, List.getElem?_eq_getElem hl⟩
  have HX := Lib.hid hx
  have hix := tx_index t n x hx
  obtain ⟨m, hm⟩ : ∃ m, m = t.length := ⟨_, rfl⟩
  rw [← hm] at hl ht
  have HM := Lib.hid hm
  clear h hvw hx hn hm
  by_cases hbx : b = x
  {
    subst hbx
    have HOw := HO
    have HHw := HH
    have HVw := HV
    go_enter Tryz.func161, Tryz.ntmps161
    go_wp2_with (at_builtin; go_loud (refine wpList_append_lies _ rfl _ _ 27 rfl base 5 i0 (.int .u8 0) 1 1 Tryz.underlying27 hi hz0 hz1 hz2 rfl (by decide) (.slice A n k) n (Lib.byteCells c.word) rfl (HOw.out.alloc _) ⟨w.heap.size, 0, none⟩ 1 1 [.int .u8 (b.toNat : Int)] rfl rfl ?c0 (by simp [Value.oneCell']) (by decide) ?c3 ?c4 ?c5 (w.heap.size + 1) (by simp) ?_))
    case c0 => have := cell_one_new w (.int .u8 (b.toNat : Int)) 5; simpa using this
    case c3 => unfold maxLen; omega
    case c4 => omega
    case c5 => have := HHw.out.bw; simp; omega
    intro gw capw waw how hgw hatw hltw
    obtain ⟨hbw, hfw⟩ := HHw.out.boxW hT (by rw [HVw.out]; exact hgw)
    have qww : waw.cell? ⟨K, 11, none⟩ = some (.slice A n k) := (box_cell hbw 11 (u := v.vw) rfl).trans (by rw [HVw.out])
    have yww : waw.frozen? ⟨K, 11, none⟩ = false := frozenAt hbw 11
    have HPw := Lib.hid (HHw.out.putW hT (u := .slice (some ⟨gw, 0, none⟩) (n + 1) capw) hfw (c.word ++ [b]) (by rw [List.length_append, byteCells_snoc, ← HN.out]; exact how) (by rw [HVw.out]; exact hatw.elim (fun e => .inl e.symm) (fun e => .inr (fun q hq => by have hq : q = gw := Option.some.inj hq; omega))))
    clear how hgw hatw hbw hfw hltw HOw
    by_cases hend : n + 1 = m
    {
      have tend : ((n : Int) + 1 == (t.length : Int)) = true := by rw [← HM.out]; simp; omega
      have HG := Lib.hid (cGoOn_any hT _ _ nx _ HPw.out.1)
      have e : c.fixed b t nx = ({ c with word := c.word ++ [b] } : Cr).goOn nx := by unfold Cr.fixed; rw [if_neg (by rw [← HN.out, HX.out]; simp), if_pos (by rw [← HN.out, ← HM.out]; exact hend)]
      have E := Lib.hid e
      clear e hend
      go_wp2_with fail
      (with_reducible refine (HG.out).mono ?_)
      rintro e w' ⟨rfl, h1, h2⟩
      go_wp2
      go_end0
      rw [E.out]
      exact ⟨rfl, h1, HPw.out.2.trans h2⟩
    }
    {
      have tend : ((n : Int) + 1 == (t.length : Int)) = false := by rw [← HM.out]; simp; omega
      have e : c.fixed b t nx = { c with word := c.word ++ [b] } := by unfold Cr.fixed; rw [if_neg (by rw [← HN.out, HX.out]; simp), if_neg (by rw [← HN.out, ← HM.out]; exact hend)]
      have E := Lib.hid e
      clear e hend
      go_wp2
      go_end0
      rw [E.out]
      exact ⟨rfl, ⟨_, HPw.out.1⟩, HPw.out.2⟩
    }
  }
  {
    have hne := u8_ne hbx
    have tb : ((b.toNat : Int) == (x.toNat : Int)) = false := by simp; omega
    have e : c.fixed b t nx = c.wrong := by unfold Cr.fixed; rw [if_pos (by rw [← HN.out, HX.out]; simpa using fun e => hbx e.symm)]
    rw [e]
    clear e hbx
    go_enter Tryz.func161, Tryz.ntmps161
    go_wp2_with fail
    (with_reducible refine (HWR.out).mono ?_)
    rintro e w' ⟨rfl, h1, h2⟩
    go_wp2
    go_end0
    exact ⟨rfl, h1, h2⟩
  }
set_option maxHeartbeats 4000000 in
set_option maxRecDepth 100000 in
theorem cMethod_any (hT : TyOk T) (c : Cr) (v : CrV) (b : UInt8) (w : World) (h : CrR T ex w K base c v) (hl : c.word.length ≤ 1000000000) :
    Calls Tryz.prog 164 #[.pointer (some ⟨K, 0, none⟩), .int .u8 (b.toNat : Int)] w (CrP T ex K base (c.method b) w) := by
  obtain ⟨i0, hi, hz0, hz1, hz2⟩ := info_parts infoCU
  obtain ⟨A, k, hvw, hnc, hcm, hA⟩ := ownsRow_shape h.word
  have k11 := h.cell 11 (u := v.vw) rfl
  rw [hvw] at k11
  have HH := Lib.hid h
  have HO := h.word
  rw [hvw] at HO
  have hcvw := conv_own HO
  obtain ⟨n, hn⟩ : ∃ n, n = c.word.length := ⟨_, rfl⟩
  rw [← hn] at hvw hnc HO hcvw k11
  have HN := Lib.hid hn
  have HV := Lib.hid hvw
  have HO := Lib.hid HO
  have HWR := Lib.hid (cWrong_any hT c v w h)
  have hbw := h.bw
  have hKlt := h.lt
  unfold maxLen at hcm
  rw [← hn] at hl
  clear h hvw hn
  by_cases h0 : b = 32 ∧ c.word ≠ []
  {
    obtain ⟨rfl, hne⟩ := h0
    have hpos : 0 < n := by rw [HN.out]; exact List.length_pos_iff.2 hne
    have e : c.method 32 = ({ c with m := { c.m with meth := c.word } } : Cr).goOn 4 := by unfold Cr.method; rw [if_pos ⟨rfl, hne⟩]
    rw [e]
    clear e hne
    have b5 : w.cell? ⟨K, 5, none⟩ = some (tx c.m.meth) := HH.out.cell 5 rfl
    have z5 := HH.out.frz 5
    have HP := Lib.hid (HH.out.put hT (c' := { c with m := { c.m with meth := c.word } }) 5 (tx c.word) rfl (by omega) rfl (fun hb => ⟨hb, rfl, rfl⟩) rfl)
    have HG := Lib.hid (cGoOn_any hT _ _ 4 _ HP.out.1)
    go_enter Tryz.func164, Tryz.ntmps164
    go_wp2_with fail
    (with_reducible refine (HG.out).mono ?_)
    rintro e w' ⟨rfl, h1, h2⟩
    go_wp2
    go_end0
    exact ⟨rfl, h1, HP.out.2.trans h2⟩
  }
  have HT := Lib.hid (isCapital_any b w)
  by_cases h1 : Cr.isCap b = true ∧ n < 20
  {
    have h00 : ¬ (b.toNat = 32 ∧ 0 < n) := fun ⟨e1, e2⟩ => h0 ⟨UInt8.toNat_inj.1 e1, fun e => by rw [HN.out, e] at e2; simp at e2⟩
    have e : c.method b = { c with word := c.word ++ [b] } := by unfold Cr.method; rw [if_neg h0, if_pos (by rw [← HN.out]; exact h1)]
    rw [e]
    rw [h1.1] at HT
    obtain ⟨_, h1b⟩ := h1
    clear e h0
    by_cases hq : b.toNat = 32
    {
      have tq : ((b.toNat : Int) == 32) = true := by simp; omega
      have hw2 : decide (0 < n) = false := decide_eq_false (by omega)
      have hw3 : decide ((0 : Int) < (n : Int)) = false := decide_eq_false (by omega)
      clear hq h00
      have HOw := HO
      have HHw := HH
      have HVw := HV
      have hlim : n < 20 := by omega
      go_enter Tryz.func164, Tryz.ntmps164
      go_wp2_with fail
      (with_reducible refine (HT.out).mono ?_)
      rintro e w2 ⟨rfl, rfl⟩
      go_wp2_with (at_builtin; go_loud (refine wpList_append_lies _ rfl _ _ 27 rfl base 5 i0 (.int .u8 0) 1 1 Tryz.underlying27 hi hz0 hz1 hz2 rfl (by decide) (.slice A n k) n (Lib.byteCells c.word) rfl (HOw.out.alloc _) ⟨w.heap.size, 0, none⟩ 1 1 [.int .u8 (b.toNat : Int)] rfl rfl ?c0 (by simp [Value.oneCell']) (by decide) ?c3 ?c4 ?c5 (w.heap.size + 1) (by simp) ?_))
      case c0 => have := cell_one_new w (.int .u8 (b.toNat : Int)) 5; simpa using this
      case c3 => unfold maxLen; omega
      case c4 => omega
      case c5 => have := HHw.out.bw; simp; omega
      intro gw capw waw how hgw hatw hltw
      obtain ⟨hbw, hfw⟩ := HHw.out.boxW hT (by rw [HVw.out]; exact hgw)
      have qww : waw.cell? ⟨K, 11, none⟩ = some (.slice A n k) := (box_cell hbw 11 (u := v.vw) rfl).trans (by rw [HVw.out])
      have yww : waw.frozen? ⟨K, 11, none⟩ = false := frozenAt hbw 11
      have HPw := Lib.hid (HHw.out.putW hT (u := .slice (some ⟨gw, 0, none⟩) (n + 1) capw) hfw (c.word ++ [b]) (by rw [List.length_append, byteCells_snoc, ← HN.out]; exact how) (by rw [HVw.out]; exact hatw.elim (fun e => .inl e.symm) (fun e => .inr (fun q hq => by have hq : q = gw := Option.some.inj hq; omega))))
      clear how hgw hatw hbw hfw hltw HOw
      go_wp2
      go_end0
      exact ⟨rfl, ⟨_, HPw.out.1⟩, HPw.out.2⟩
    }
    {
      have tq : ((b.toNat : Int) == 32) = false := by simp; omega
      clear hq h00
      have HOw := HO
      have HHw := HH
      have HVw := HV
      have hlim : n < 20 := by omega
      go_enter Tryz.func164, Tryz.ntmps164
      go_wp2_with fail
      (with_reducible refine (HT.out).mono ?_)
      rintro e w2 ⟨rfl, rfl⟩
      go_wp2_with (at_builtin; go_loud (refine wpList_append_lies _ rfl _ _ 27 rfl base 5 i0 (.int .u8 0) 1 1 Tryz.underlying27 hi hz0 hz1 hz2 rfl (by decide) (.slice A n k) n (Lib.byteCells c.word) rfl (HOw.out.alloc _) ⟨w.heap.size, 0, none⟩ 1 1 [.int .u8 (b.toNat : Int)] rfl rfl ?c0 (by simp [Value.oneCell']) (by decide) ?c3 ?c4 ?c5 (w.heap.size + 1) (by simp) ?_))
      case c0 => have := cell_one_new w (.int .u8 (b.toNat : Int)) 5; simpa using this
      case c3 => unfold maxLen; omega
      case c4 => omega
      case c5 => have := HHw.out.bw; simp; omega
      intro gw capw waw how hgw hatw hltw
      obtain ⟨hbw, hfw⟩ := HHw.out.boxW hT (by rw [HVw.out]; exact hgw)
      have qww : waw.cell? ⟨K, 11, none⟩ = some (.slice A n k) := (box_cell hbw 11 (u := v.vw) rfl).trans (by rw [HVw.out])
      have yww : waw.frozen? ⟨K, 11, none⟩ = false := frozenAt hbw 11
      have HPw := Lib.hid (HHw.out.putW hT (u := .slice (some ⟨gw, 0, none⟩) (n + 1) capw) hfw (c.word ++ [b]) (by rw [List.length_append, byteCells_snoc, ← HN.out]; exact how) (by rw [HVw.out]; exact hatw.elim (fun e => .inl e.symm) (fun e => .inr (fun q hq => by have hq : q = gw := Option.some.inj hq; omega))))
      clear how hgw hatw hbw hfw hltw HOw
      go_wp2
      go_end0
      exact ⟨rfl, ⟨_, HPw.out.1⟩, HPw.out.2⟩
    }
  }
  {
    have h00 : ¬ (b.toNat = 32 ∧ 0 < n) := fun ⟨e1, e2⟩ => h0 ⟨UInt8.toNat_inj.1 e1, fun e => by rw [HN.out, e] at e2; simp at e2⟩
    have e : c.method b = c.wrong := by unfold Cr.method; rw [if_neg h0, if_neg (by rw [← HN.out]; exact h1)]
    rw [e]
    clear e h0
    by_cases hq : b.toNat = 32
    {
      have tq : ((b.toNat : Int) == 32) = true := by simp; omega
      have hw2 : decide (0 < n) = false := decide_eq_false (by omega)
      have hw3 : decide ((0 : Int) < (n : Int)) = false := decide_eq_false (by omega)
      clear hq h00
      cases hc : Cr.isCap b with
      | false =>
        rw [hc] at HT
        clear h1
        go_enter Tryz.func164, Tryz.ntmps164
        go_wp2_with fail
        (with_reducible refine (HT.out).mono ?_)
        rintro e w2 ⟨rfl, rfl⟩
        go_wp2_with fail
        (with_reducible refine (HWR.out).mono ?_)
        rintro e w' ⟨rfl, h1, h2⟩
        go_wp2
        go_end0
        exact ⟨rfl, h1, h2⟩
      | true =>
        have hlim : decide (n < 20) = false := decide_eq_false (fun e => h1 ⟨hc, e⟩)
        have hlim2 : decide ((n : Int) < 20) = false := decide_eq_false (fun e => h1 ⟨hc, by omega⟩)
        rw [hc] at HT
        clear h1
        go_enter Tryz.func164, Tryz.ntmps164
        go_wp2_with fail
        (with_reducible refine (HT.out).mono ?_)
        rintro e w2 ⟨rfl, rfl⟩
        go_wp2_with fail
        (with_reducible refine (HWR.out).mono ?_)
        rintro e w' ⟨rfl, h1, h2⟩
        go_wp2
        go_end0
        exact ⟨rfl, h1, h2⟩
    }
    {
      have tq : ((b.toNat : Int) == 32) = false := by simp; omega
      clear hq h00
      cases hc : Cr.isCap b with
      | false =>
        rw [hc] at HT
        clear h1
        go_enter Tryz.func164, Tryz.ntmps164
        go_wp2_with fail
        (with_reducible refine (HT.out).mono ?_)
        rintro e w2 ⟨rfl, rfl⟩
        go_wp2_with fail
        (with_reducible refine (HWR.out).mono ?_)
        rintro e w' ⟨rfl, h1, h2⟩
        go_wp2
        go_end0
        exact ⟨rfl, h1, h2⟩
      | true =>
        have hlim : decide (n < 20) = false := decide_eq_false (fun e => h1 ⟨hc, e⟩)
        have hlim2 : decide ((n : Int) < 20) = false := decide_eq_false (fun e => h1 ⟨hc, by omega⟩)
        rw [hc] at HT
        clear h1
        go_enter Tryz.func164, Tryz.ntmps164
        go_wp2_with fail
        (with_reducible refine (HT.out).mono ?_)
        rintro e w2 ⟨rfl, rfl⟩
        go_wp2_with fail
        (with_reducible refine (HWR.out).mono ?_)
        rintro e w' ⟨rfl, h1, h2⟩
        go_wp2
        go_end0
        exact ⟨rfl, h1, h2⟩
    }
  }
set_option maxHeartbeats 4000000 in
set_option maxRecDepth 100000 in
theorem cTarget_any (hT : TyOk T) (c : Cr) (v : CrV) (b : UInt8) (w : World) (h : CrR T ex w K base c v) (hl : c.word.length ≤ 1000000000) :
    Calls Tryz.prog 165 #[.pointer (some ⟨K, 0, none⟩), .int .u8 (b.toNat : Int)] w (CrP T ex K base (c.target b) w) := by
  obtain ⟨i0, hi, hz0, hz1, hz2⟩ := info_parts infoCU
  obtain ⟨A, k, hvw, hnc, hcm, hA⟩ := ownsRow_shape h.word
  have k11 := h.cell 11 (u := v.vw) rfl
  rw [hvw] at k11
  have HH := Lib.hid h
  have HO := h.word
  rw [hvw] at HO
  have hcvw := conv_own HO
  obtain ⟨n, hn⟩ : ∃ n, n = c.word.length := ⟨_, rfl⟩
  rw [← hn] at hvw hnc HO hcvw k11
  have HN := Lib.hid hn
  have HV := Lib.hid hvw
  have HO := Lib.hid HO
  have HWR := Lib.hid (cWrong_any hT c v w h)
  have hbw := h.bw
  have hKlt := h.lt
  unfold maxLen at hcm
  rw [← hn] at hl
  clear h hvw hn
  by_cases h0 : b = 32 ∧ c.word ≠ []
  {
    obtain ⟨rfl, hne⟩ := h0
    have hpos : 0 < n := by rw [HN.out]; exact List.length_pos_iff.2 hne
    have e : c.target 32 = ({ c with m := { c.m with targ := c.word } } : Cr).goOn 5 := by unfold Cr.target; rw [if_pos ⟨rfl, hne⟩]
    rw [e]
    clear e hne
    have b6 : w.cell? ⟨K, 6, none⟩ = some (tx c.m.targ) := HH.out.cell 6 rfl
    have z6 := HH.out.frz 6
    have HP := Lib.hid (HH.out.put hT (c' := { c with m := { c.m with targ := c.word } }) 6 (tx c.word) rfl (by omega) rfl (fun hb => ⟨hb, rfl, rfl⟩) rfl)
    have HG := Lib.hid (cGoOn_any hT _ _ 5 _ HP.out.1)
    go_enter Tryz.func165, Tryz.ntmps165
    go_wp2_with fail
    (with_reducible refine (HG.out).mono ?_)
    rintro e w' ⟨rfl, h1, h2⟩
    go_wp2
    go_end0
    exact ⟨rfl, h1, HP.out.2.trans h2⟩
  }
  have HT := Lib.hid (inTarget_any b w)
  by_cases h1 : Cr.inTrg b = true ∧ n < 4000
  {
    have h00 : ¬ (b.toNat = 32 ∧ 0 < n) := fun ⟨e1, e2⟩ => h0 ⟨UInt8.toNat_inj.1 e1, fun e => by rw [HN.out, e] at e2; simp at e2⟩
    have e : c.target b = { c with word := c.word ++ [b] } := by unfold Cr.target; rw [if_neg h0, if_pos (by rw [← HN.out]; exact h1)]
    rw [e]
    rw [h1.1] at HT
    obtain ⟨_, h1b⟩ := h1
    clear e h0
    by_cases hq : b.toNat = 32
    {
      have tq : ((b.toNat : Int) == 32) = true := by simp; omega
      have hw2 : decide (0 < n) = false := decide_eq_false (by omega)
      have hw3 : decide ((0 : Int) < (n : Int)) = false := decide_eq_false (by omega)
      clear hq h00
      have HOw := HO
      have HHw := HH
      have HVw := HV
      have hlim : n < 4000 := by omega
      go_enter Tryz.func165, Tryz.ntmps165
      go_wp2_with fail
      (with_reducible refine (HT.out).mono ?_)
      rintro e w2 ⟨rfl, rfl⟩
      go_wp2_with (at_builtin; go_loud (refine wpList_append_lies _ rfl _ _ 27 rfl base 5 i0 (.int .u8 0) 1 1 Tryz.underlying27 hi hz0 hz1 hz2 rfl (by decide) (.slice A n k) n (Lib.byteCells c.word) rfl (HOw.out.alloc _) ⟨w.heap.size, 0, none⟩ 1 1 [.int .u8 (b.toNat : Int)] rfl rfl ?c0 (by simp [Value.oneCell']) (by decide) ?c3 ?c4 ?c5 (w.heap.size + 1) (by simp) ?_))
      case c0 => have := cell_one_new w (.int .u8 (b.toNat : Int)) 5; simpa using this
      case c3 => unfold maxLen; omega
      case c4 => omega
      case c5 => have := HHw.out.bw; simp; omega
      intro gw capw waw how hgw hatw hltw
      obtain ⟨hbw, hfw⟩ := HHw.out.boxW hT (by rw [HVw.out]; exact hgw)
      have qww : waw.cell? ⟨K, 11, none⟩ = some (.slice A n k) := (box_cell hbw 11 (u := v.vw) rfl).trans (by rw [HVw.out])
      have yww : waw.frozen? ⟨K, 11, none⟩ = false := frozenAt hbw 11
      have HPw := Lib.hid (HHw.out.putW hT (u := .slice (some ⟨gw, 0, none⟩) (n + 1) capw) hfw (c.word ++ [b]) (by rw [List.length_append, byteCells_snoc, ← HN.out]; exact how) (by rw [HVw.out]; exact hatw.elim (fun e => .inl e.symm) (fun e => .inr (fun q hq => by have hq : q = gw := Option.some.inj hq; omega))))
      clear how hgw hatw hbw hfw hltw HOw
      go_wp2
      go_end0
      exact ⟨rfl, ⟨_, HPw.out.1⟩, HPw.out.2⟩
    }
    {
      have tq : ((b.toNat : Int) == 32) = false := by simp; omega
      clear hq h00
      have HOw := HO
      have HHw := HH
      have HVw := HV
      have hlim : n < 4000 := by omega
      go_enter Tryz.func165, Tryz.ntmps165
      go_wp2_with fail
      (with_reducible refine (HT.out).mono ?_)
      rintro e w2 ⟨rfl, rfl⟩
      go_wp2_with (at_builtin; go_loud (refine wpList_append_lies _ rfl _ _ 27 rfl base 5 i0 (.int .u8 0) 1 1 Tryz.underlying27 hi hz0 hz1 hz2 rfl (by decide) (.slice A n k) n (Lib.byteCells c.word) rfl (HOw.out.alloc _) ⟨w.heap.size, 0, none⟩ 1 1 [.int .u8 (b.toNat : Int)] rfl rfl ?c0 (by simp [Value.oneCell']) (by decide) ?c3 ?c4 ?c5 (w.heap.size + 1) (by simp) ?_))
      case c0 => have := cell_one_new w (.int .u8 (b.toNat : Int)) 5; simpa using this
      case c3 => unfold maxLen; omega
      case c4 => omega
      case c5 => have := HHw.out.bw; simp; omega
      intro gw capw waw how hgw hatw hltw
      obtain ⟨hbw, hfw⟩ := HHw.out.boxW hT (by rw [HVw.out]; exact hgw)
      have qww : waw.cell? ⟨K, 11, none⟩ = some (.slice A n k) := (box_cell hbw 11 (u := v.vw) rfl).trans (by rw [HVw.out])
      have yww : waw.frozen? ⟨K, 11, none⟩ = false := frozenAt hbw 11
      have HPw := Lib.hid (HHw.out.putW hT (u := .slice (some ⟨gw, 0, none⟩) (n + 1) capw) hfw (c.word ++ [b]) (by rw [List.length_append, byteCells_snoc, ← HN.out]; exact how) (by rw [HVw.out]; exact hatw.elim (fun e => .inl e.symm) (fun e => .inr (fun q hq => by have hq : q = gw := Option.some.inj hq; omega))))
      clear how hgw hatw hbw hfw hltw HOw
      go_wp2
      go_end0
      exact ⟨rfl, ⟨_, HPw.out.1⟩, HPw.out.2⟩
    }
  }
  {
    have h00 : ¬ (b.toNat = 32 ∧ 0 < n) := fun ⟨e1, e2⟩ => h0 ⟨UInt8.toNat_inj.1 e1, fun e => by rw [HN.out, e] at e2; simp at e2⟩
    have e : c.target b = c.wrong := by unfold Cr.target; rw [if_neg h0, if_neg (by rw [← HN.out]; exact h1)]
    rw [e]
    clear e h0
    by_cases hq : b.toNat = 32
    {
      have tq : ((b.toNat : Int) == 32) = true := by simp; omega
      have hw2 : decide (0 < n) = false := decide_eq_false (by omega)
      have hw3 : decide ((0 : Int) < (n : Int)) = false := decide_eq_false (by omega)
      clear hq h00
      cases hc : Cr.inTrg b with
      | false =>
        rw [hc] at HT
        clear h1
        go_enter Tryz.func165, Tryz.ntmps165
        go_wp2_with fail
        (with_reducible refine (HT.out).mono ?_)
        rintro e w2 ⟨rfl, rfl⟩
        go_wp2_with fail
        (with_reducible refine (HWR.out).mono ?_)
        rintro e w' ⟨rfl, h1, h2⟩
        go_wp2
        go_end0
        exact ⟨rfl, h1, h2⟩
      | true =>
        have hlim : decide (n < 4000) = false := decide_eq_false (fun e => h1 ⟨hc, e⟩)
        have hlim2 : decide ((n : Int) < 4000) = false := decide_eq_false (fun e => h1 ⟨hc, by omega⟩)
        rw [hc] at HT
        clear h1
        go_enter Tryz.func165, Tryz.ntmps165
        go_wp2_with fail
        (with_reducible refine (HT.out).mono ?_)
        rintro e w2 ⟨rfl, rfl⟩
        go_wp2_with fail
        (with_reducible refine (HWR.out).mono ?_)
        rintro e w' ⟨rfl, h1, h2⟩
        go_wp2
        go_end0
        exact ⟨rfl, h1, h2⟩
    }
    {
      have tq : ((b.toNat : Int) == 32) = false := by simp; omega
      clear hq h00
      cases hc : Cr.inTrg b with
      | false =>
        rw [hc] at HT
        clear h1
        go_enter Tryz.func165, Tryz.ntmps165
        go_wp2_with fail
        (with_reducible refine (HT.out).mono ?_)
        rintro e w2 ⟨rfl, rfl⟩
        go_wp2_with fail
        (with_reducible refine (HWR.out).mono ?_)
        rintro e w' ⟨rfl, h1, h2⟩
        go_wp2
        go_end0
        exact ⟨rfl, h1, h2⟩
      | true =>
        have hlim : decide (n < 4000) = false := decide_eq_false (fun e => h1 ⟨hc, e⟩)
        have hlim2 : decide ((n : Int) < 4000) = false := decide_eq_false (fun e => h1 ⟨hc, by omega⟩)
        rw [hc] at HT
        clear h1
        go_enter Tryz.func165, Tryz.ntmps165
        go_wp2_with fail
        (with_reducible refine (HT.out).mono ?_)
        rintro e w2 ⟨rfl, rfl⟩
        go_wp2_with fail
        (with_reducible refine (HWR.out).mono ?_)
        rintro e w' ⟨rfl, h1, h2⟩
        go_wp2
        go_end0
        exact ⟨rfl, h1, h2⟩
    }
  }
end
end Go.Proofs.YthfloagpmmohkaaGreatDoor
