/- wire's reader of messages: fail, wrong, goOn, feed, full, begin. -/
import Derived.Test.YthfloagpmmohkaaGreatDoorCoreP
import Derived.Test.YthfloagpmmohkaaGreatDoorProg
import Derived.Handy
import Derived.WalkSpells
import Derived.WalkLawsBesides
import Derived.Deep.QuietTactic
import Derived.BigQuiet
import Derived.StillTailTactics
import Derived.Deep.MidRow
namespace Go.Proofs.YthfloagpmmohkaaGreatDoor
open Go Go.RowKit Go.Proofs

/-- what a method leaves: the state as the plain function has it -/
def CrP (T : TypeId) (ex : List Value) (K base : Nat) (c : Cr) (w : World) (e : Ending) (w' : World) : Prop :=
  e = .returned (.tuple #[]) ∧ (∃ v, CrR T ex w' K base c v) ∧ CrF K w w'
theorem own_cut {w : World} {base n k : Nat} {e : TypeId} {A : Option Addr} {xs : List Value} (h : w.ownsRow base e 1 (.slice A n k) n xs) : w.ownsRow base e 1 (.slice A 0 k) 0 [] := by
  refine ⟨rfl, ?_⟩
  rcases h.2 with ⟨hv, _⟩ | ⟨g, cap, cur, hv, h1, h2, h3, h4, h5, h6⟩
  · simp only [Value.slice.injEq] at hv
    exact .inl ⟨by rw [hv.1, hv.2.2], rfl⟩
  · simp only [Value.slice.injEq] at hv
    obtain ⟨rfl, _, rfl⟩ := hv
    exact .inr ⟨g, k, cur, rfl, h1, h2, Nat.zero_le _, h4, h5, by simp⟩
theorem own_cutB (A : Option Addr) (n k m : Nat) : (Value.slice A m k).ownBlock = (Value.slice A n k).ownBlock := by cases A <;> rfl
theorem OffR.shape {w : World} {base : Nat} {e : TypeId} {k n : Nat} {v : Value} {xs : List Value} (h : OffR w base e k v n xs) : ∃ A c, v = .slice A n c ∧ n ≤ c ∧ c ≤ maxLen := by
  rcases h.2 with ⟨rfl, rfl⟩ | ⟨g, o, cap, cur, rfl, _, _, h1, h2, _⟩
  · exact ⟨none, 0, rfl, Nat.le_refl _, Nat.zero_le _⟩
  · exact ⟨_, cap, rfl, h1, h2⟩
theorem setCells_cells (K : Nat) (T : TypeId) (ex : List Value) : ∀ (vs pre xs : List Value) (w : World), xs.length = vs.length → w.heap[K]? = some (.cells (pre ++ xs ++ ex).toArray T (0, 0)) →
    (w.setCells K pre.length vs).heap[K]? = some (.cells (pre ++ vs ++ ex).toArray T (0, 0)) ∧ Fr (fun i => i = K) w (w.setCells K pre.length vs)
  | [], pre, xs, w, hl, h => by
    have hx : xs = [] := List.length_eq_zero_iff.1 (by simpa using hl)
    subst hx
    exact ⟨h, Fr.refl _ _⟩
  | u :: vs, pre, [], w, hl, h => by simp at hl
  | u :: vs, pre, x :: xs, w, hl, h => by
    have h1 : (w.setCell ⟨K, pre.length, none⟩ u).heap[K]? = some (.cells ((pre ++ [u]) ++ xs ++ ex).toArray T (0, 0)) := by
      simp only [World.setCell, Array.getElem?_modify, h, if_true, Option.map_some]
      simp
    have h2 := setCells_cells K T ex vs (pre ++ [u]) xs (w.setCell ⟨K, pre.length, none⟩ u) (by simpa using hl) h1
    rw [List.length_append] at h2
    refine ⟨by have := h2.1; rw [List.append_assoc pre [u] vs] at this; exact this, ?_⟩
    exact ((Fr.refl (fun i => i = K) w).setCell (p := ⟨K, pre.length, none⟩) (fun _ => rfl) u).trans h2.2 (fun _ _ h => h)
theorem buildCr (r : Bool) (p : Int) (A D : Option Addr) (n k dn dk : Nat) (W : World) : (Instr.build 92 #[(0, .bool r), (1, .int .i64 p), (14, .slice D dn dk), (5, .slice A n k)]).run Tryz.prog W =
    .ok (.agg #[.bool r, .int .i64 p, .int .i64 0, .bool false, .bool false, .string ⟨#[]⟩, .string ⟨#[]⟩, .int .i64 0, .string ⟨#[]⟩, .slice none 0 0, .string ⟨#[]⟩, .slice A n k, .int .i64 0, .int .i64 0, .int .i64 0, .int .i64 0, .bool false, .bool false, .bool false, .slice none 0 0, .slice D dn dk, .int .i64 0, .int .i64 0]) W := by kernel_rfl
section
variable {T : TypeId} {ex : List Value} {K base : Nat}
set_option maxHeartbeats 1000000 in
set_option maxRecDepth 100000 in
theorem cFail_any (hT : TyOk T) (c : Cr) (v : CrV) (a no : Int) (w : World) (h : CrR T ex w K base c v) :
    Calls Tryz.prog 171 #[.pointer (some ⟨K, 0, none⟩), .int .i64 a, .int .i64 no] w (CrP T ex K base (c.fail a no) w) := by
  have k22 := h.cell 22 (u := .int .i64 c.no) rfl
  have z21 := h.frz 21
  have z22 := h.frz 22
  have HH := Lib.hid h
  have hK := h.lt
  have b21 : w.cell? ⟨K, 21, none⟩ = some (.int .i64 c.fault) := h.cell 21 rfl
  clear h
  by_cases h0 : c.no = 0
  · have t0 : (c.no == 0) = true := by simpa using h0
    go_enter Tryz.func171, Tryz.ntmps171
    go_wp2
    go_end0
    have h1 := HH.out.put hT (c' := { c with fault := a }) 21 (.int .i64 a) rfl (by omega) rfl (fun hb => ⟨hb, rfl, rfl⟩) rfl
    have h2 := h1.1.put hT (c' := { c with fault := a, no := no }) 22 (.int .i64 no) rfl (by omega) rfl (fun hb => ⟨hb, rfl, rfl⟩) rfl
    have e : c.fail a no = { c with fault := a, no := no } := by unfold Cr.fail; rw [if_pos h0]
    rw [e]
    exact ⟨rfl, ⟨_, h2.1⟩, h1.2.trans h2.2⟩
  · have t0 : (c.no == 0) = false := by simpa using h0
    go_enter Tryz.func171, Tryz.ntmps171
    go_wp2
    go_end0
    have e : c.fail a no = c := by unfold Cr.fail; rw [if_neg h0]
    rw [e]
    exact ⟨rfl, ⟨_, HH.out⟩, CrF.refl _ _⟩
set_option maxHeartbeats 1000000 in
set_option maxRecDepth 100000 in
theorem cWrong_any (hT : TyOk T) (c : Cr) (v : CrV) (w : World) (h : CrR T ex w K base c v) :
    Calls Tryz.prog 187 #[.pointer (some ⟨K, 0, none⟩)] w (CrP T ex K base c.wrong w) := by
  have k1 := h.cell 1 (u := .int .i64 c.pos) rfl
  have HF := Lib.hid (cFail_any hT c v c.pos 6 w h)
  clear h
  go_enter Tryz.func187, Tryz.ntmps187
  go_wp2_with fail
  (with_reducible refine HF.out.mono ?_)
  rintro e w' ⟨rfl, h1, h2⟩
  go_wp2
  go_end0
  exact ⟨rfl, h1, h2⟩
set_option maxHeartbeats 1000000 in
set_option maxRecDepth 100000 in
theorem cGoOn_any (hT : TyOk T) (c : Cr) (v : CrV) (p : Int) (w : World) (h : CrR T ex w K base c v) :
    Calls Tryz.prog 188 #[.pointer (some ⟨K, 0, none⟩), .int .i64 p] w (CrP T ex K base (c.goOn p) w) := by
  obtain ⟨A, k, hvw, hnc, hcm, hA⟩ := ownsRow_shape h.word
  have k11 := h.cell 11 (u := v.vw) rfl
  rw [hvw] at k11
  have b2 := h.cell 2 (u := .int .i64 c.place) rfl
  have z2 := h.frz 2
  have z11 := h.frz 11
  have HH := Lib.hid h
  have HV := Lib.hid hvw
  have hlen : c.word.length ≤ 9223372036854775807 := by unfold maxLen at hcm; omega
  clear h hvw
  go_enter Tryz.func188, Tryz.ntmps188
  go_wp2
  go_end0
  have h1 := HH.out.put hT (c' := { c with place := p }) 2 (.int .i64 p) rfl (by omega) rfl (fun hb => ⟨hb, rfl, rfl⟩) rfl
  have ho := h1.1.word
  rw [HV.out] at ho
  have h2 := h1.1.putW hT (u := .slice A 0 k) (Fr.refl _ _) [] (own_cut ho) (.inl (by rw [HV.out]; exact own_cutB _ _ _ _))
  exact ⟨rfl, ⟨_, h2.1⟩, h1.2.trans h2.2⟩
set_option maxHeartbeats 1000000 in
set_option maxRecDepth 100000 in
theorem cFeed_any (hT : TyOk T) (c : Cr) (v : CrV) (b : UInt8) (nx : Int) (w : World) (h : CrR T ex w K base c v) :
    Calls Tryz.prog 166 #[.pointer (some ⟨K, 0, none⟩), .int .u8 (b.toNat : Int), .int .i64 nx] w (CrP T ex K base (c.feed b nx) w) := by
  by_cases h0 : b = 10
  · have e : c.feed b nx = c.goOn nx := by unfold Cr.feed; rw [if_neg (by simpa using h0)]
    rw [e]
    subst h0
    have HF := Lib.hid (cGoOn_any hT c v nx w h)
    clear h e
    go_enter Tryz.func166, Tryz.ntmps166
    go_wp2_with fail
    (with_reducible refine HF.out.mono ?_)
    rintro e w' ⟨rfl, h1, h2⟩
    go_wp2
    go_end0
    exact ⟨rfl, h1, h2⟩
  · have e : c.feed b nx = c.wrong := by unfold Cr.feed; rw [if_pos h0]
    rw [e]
    have hb : b.toNat ≠ 10 := fun h1 => h0 (UInt8.toNat_inj.1 h1)
    have tb : ((b.toNat : Int) == 10) = false := by simp; omega
    have tb2 : ((b.toNat : Int) != 10) = true := by simp; omega
    have HF := Lib.hid (cWrong_any hT c v w h)
    clear h e h0
    go_enter Tryz.func166, Tryz.ntmps166
    go_wp2_with fail
    (with_reducible refine HF.out.mono ?_)
    rintro e w' ⟨rfl, h1, h2⟩
    go_wp2
    go_end0
    exact ⟨rfl, h1, h2⟩
set_option maxHeartbeats 1000000 in
set_option maxRecDepth 100000 in
theorem cFull_any (c : Cr) (v : CrV) (w : World) (h : CrR T ex w K base c v) (hp : -4000000000 ≤ c.pos ∧ c.pos ≤ 4000000000) (hl : -4000000000 ≤ c.line ∧ c.line ≤ 4000000000) :
    Calls Tryz.prog 170 #[.pointer (some ⟨K, 0, none⟩)] w fun e w' => e = .returned (.bool c.full) ∧ CrR T ex w' K base c v ∧ CrF K w w' := by
  have k1 := h.cell 1 (u := .int .i64 c.pos) rfl
  have k12 := h.cell 12 (u := .int .i64 c.line) rfl
  have HH := Lib.hid h
  clear h
  have e : c.full = decide (8000 ≤ c.pos - c.line) := rfl
  rw [e]
  clear e
  go_enter Tryz.func170, Tryz.ntmps170
  go_wp2
  go_big_quiet (fail)
  go_wp2
  go_ret
  exact ⟨rfl, HH.out.drewN _, (CrF.refl K w).drewN _⟩
set_option maxHeartbeats 1000000 in
set_option maxRecDepth 100000 in
theorem cBegin_any (hT : TyOk T) (c : Cr) (v : CrV) (w : World) (h : CrR T ex w K base c v) :
    Calls Tryz.prog 137 #[.pointer (some ⟨K, 0, none⟩)] w fun e w' => e = .returned (.tuple #[]) ∧ (∃ v, CrR T ex w' K base c.begin_ v ∧ v.vb = .slice none 0 0 ∧ v.vh = .slice none 0 0) ∧ CrF K w w' := by
  obtain ⟨A, k, hvw, hnc, hcm, hA⟩ := ownsRow_shape h.word
  have k11 := h.cell 11 (u := v.vw) rfl
  rw [hvw] at k11
  have k0 := h.cell 0 (u := .bool c.req) rfl
  have k1 := h.cell 1 (u := .int .i64 c.pos) rfl
  have k20 := h.cell 20 (u := v.vd) rfl
  obtain ⟨D, dk, hvd, _, _⟩ := h.done.shape
  rw [hvd] at k20
  have HH := Lib.hid h
  have HV := Lib.hid hvw
  have HVD := Lib.hid hvd
  have hbd := buildCr c.req c.pos A D 0 k v.l.length dk
  have hlen : c.word.length ≤ 9223372036854775807 := by unfold maxLen at hcm; omega
  have hz : ∀ j, w.frozen? ⟨K, j, none⟩ = false := fun j => h.frz j
  have hth : w.drew.there K 0 23 := fun j hj => by
    refine ⟨?_, by rw [Nat.zero_add]; exact h.frz j⟩
    have := h.cell j (List.getElem?_eq_getElem (by rw [crC_length]; exact hj))
    rw [Nat.zero_add]
    exact Option.isSome_iff_exists.2 ⟨_, this⟩
  clear h hvw hvd
  go_enter Tryz.func137, Tryz.ntmps137
  go_wp2
  refine wp_region_still_tail 20 (by kernel_rfl) (by kernel_rfl) ?_
  simp only [List.take_succ_cons, List.take_zero, List.drop_succ_cons, List.drop_zero]
  repeat still_step
  refine wpStill_nil ?_
  change wpList _ _ _ _ _ w.drew
  refine wpList_store_mid rfl 92 _ _ rfl K 0 #[.bool c.req, .int .i64 c.pos, .int .i64 0, .bool false, .bool false, .string ⟨#[]⟩, .string ⟨#[]⟩, .int .i64 0, .string ⟨#[]⟩, .slice none 0 0, .string ⟨#[]⟩, .slice A 0 k, .int .i64 0, .int .i64 0, .int .i64 0, .int .i64 0, .bool false, .bool false, .bool false, .slice none 0 0, .slice D v.l.length dk, .int .i64 0, .int .i64 0] rfl rfl hth (by kernel_rfl) (by simp [Value.oneCell']) ?_
  have hst := setCells_cells K T ex (crC { c.begin_ with m := {}, place := 0 } { v with vw := .slice A 0 k, vb := .slice none 0 0, vh := .slice none 0 0 }) [] (crC c v) w.drew rfl HH.out.box
  obtain ⟨W1, hW1⟩ : ∃ W1, W1 = w.drew.setCells K 0 (crC { c.begin_ with m := {}, place := 0 } { v with vw := .slice A 0 k, vb := .slice none 0 0, vh := .slice none 0 0 }) := ⟨_, rfl⟩
  have hs2 := HH.out.drew.anew hT hst.2 HV.out { c.begin_ with m := {}, place := 0 } rfl rfl rfl rfl hst.1
  have eW : w.drew.setCells K 0 (#[.bool c.req, .int .i64 c.pos, .int .i64 0, .bool false, .bool false, .string ⟨#[]⟩, .string ⟨#[]⟩, .int .i64 0, .string ⟨#[]⟩, .slice none 0 0, .string ⟨#[]⟩, .slice A 0 k, .int .i64 0, .int .i64 0, .int .i64 0, .int .i64 0, .bool false, .bool false, .bool false, .slice none 0 0, .slice D v.l.length dk, .int .i64 0, .int .i64 0] : Array Value).toList = W1 := by
    rw [hW1, ← HVD.out]; rfl
  rw [eW]
  have hs3 : CrR T ex W1 K base { c.begin_ with m := {}, place := 0 } { v with vw := .slice A 0 k, vb := .slice none 0 0, vh := .slice none 0 0 } ∧ CrF K w W1 := by rw [hW1]; exact ⟨hs2.1, ((CrF.refl K w).drew).trans hs2.2⟩
  have HS := Lib.hid hs3
  have q0 : W1.cell? ⟨K, 0, none⟩ = some (.bool c.req) := hs3.1.cell 0 rfl
  have q4 : W1.cell? ⟨K, 4, none⟩ = some (.bool false) := hs3.1.cell 4 rfl
  have q2 : W1.cell? ⟨K, 2, none⟩ = some (.int .i64 0) := hs3.1.cell 2 rfl
  have y4 := hs3.1.frz 4
  have y2 := hs3.1.frz 2
  clear hst hW1 hs2 eW hs3 hbd k11 k0 k1 k20 hz hth
  have e1 := hT
  cases hrq : c.req with
  | true =>
    rw [hrq] at q0
    go_wp2
    go_end0
    have h1 := HS.out.1.put hT (c' := { c.begin_ with place := 0 }) 4 (.bool true) (by simp [crC, Cr.begin_, hrq]) (by omega) rfl (fun hb => by cases hb) rfl
    have h2 := h1.1.put hT (c' := c.begin_) 2 (.int .i64 3) (by simp [crC, Cr.begin_, hrq]) (by omega) rfl (fun hb => by cases hb) rfl
    exact ⟨rfl, ⟨_, h2.1, rfl, rfl⟩, HS.out.2.trans (h1.2.trans h2.2)⟩
  | false =>
    rw [hrq] at q0
    go_wp2
    go_end0
    have h1 := HS.out.1.put hT (c' := c.begin_) 4 (.bool false) (by simp [crC, Cr.begin_, hrq]) (by omega) rfl (fun hb => by cases hb) rfl
    exact ⟨rfl, ⟨_, h1.1, rfl, rfl⟩, HS.out.2.trans h1.2⟩
end
end Go.Proofs.YthfloagpmmohkaaGreatDoor
