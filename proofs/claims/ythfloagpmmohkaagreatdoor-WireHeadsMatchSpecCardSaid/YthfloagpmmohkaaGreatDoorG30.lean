import Derived.Test.YthfloagpmmohkaaGreatDoorCoreT
/- wire's reader of messages: a text; what comes of it. -/
namespace Go.Proofs.YthfloagpmmohkaaGreatDoor
open Go Go.RowKit Go.Proofs

section
variable {T : TypeId} {ex : List Value} {K base : Nat}
set_option maxHeartbeats 4000000 in
set_option maxRecDepth 100000 in
theorem cRun_any (hT : TyOk T) (c : Cr) (v : CrV) (l : List UInt8) (w : World) (h : CrR T ex w K base c v) (hi : c.no = 0 → c.Inv) (hpos : c.no = 0 → c.pos + l.length ≤ 4000000) (hl : l.length ≤ 4000000) :
    Calls Tryz.prog 66 #[.pointer (some ⟨K, 0, none⟩), tx l] w (CrP T ex K base (c.run l) w) := by
  have HH := Lib.hid h
  have HI := Lib.hid hi
  have HPO := Lib.hid hpos
  obtain ⟨n, hn⟩ : ∃ n, n = l.length := ⟨_, rfl⟩
  rw [← hn] at hl
  have HN := Lib.hid hn
  clear h hi hpos hn
  go_enter Tryz.func66, Tryz.ntmps66
  go_wp2
  go_loopw [4] (fun i wr => ∃ (k : Nat) (c1 : Cr) (v1 : CrV), k ≤ n ∧ i = .int .i64 k ∧ CrR T ex wr K base c1 v1 ∧ CrF K w wr ∧ c1.run (l.drop k) = c.run l ∧ (c1.no = 0 → c1.Inv ∧ c1.pos + (n - k : Int) ≤ 4000000)) (fun i _ => n - (intOf i).toNat)
  case atStart => exact ⟨0, c, v, Nat.zero_le _, rfl, HH.out, CrF.refl K w, rfl, fun e => ⟨HI.out e, by have := HPO.out e; rw [← HN.out] at this; simpa using this⟩⟩
  case round =>
    obtain ⟨k, c1, v1, hk, rfl, hr1, hf1, he1, hi1⟩ := hrel
    have HR := Lib.hid hr1
    have HF := Lib.hid hf1
    have HE := Lib.hid he1
    have HI1 := Lib.hid hi1
    have k22 := hr1.cell 22 (u := .int .i64 c1.no) rfl
    obtain ⟨z, hz⟩ : ∃ z, z = c1.no := ⟨_, rfl⟩
    rw [← hz] at k22
    have HZ := Lib.hid hz
    have hbw := hr1.bw
    have hKlt := hr1.lt
    clear hr1 hf1 he1 hi1 hz
    by_cases hlt : k < n
    · have d1 : decide ((k : Int) < (l.length : Int)) = true := decide_eq_true (by rw [← HN.out]; omega)
      have g1 : decide (k < l.length) = true := decide_eq_true (by rw [← HN.out]; omega)
      by_cases hz0 : z = 0
      · have t0 : (z == 0) = true := by simp [hz0]
        obtain ⟨x, hx⟩ : ∃ x, l[k]? = some x := ⟨_, List.getElem?_eq_getElem (by rw [← HN.out]; exact hlt)⟩
        have hix := tx_index l k x hx
        have hin := HI1.out (by rw [← HZ.out]; exact hz0)
        have HTK := Lib.hid (cTake_any hT c1 v1 x wr HR.out hin.1 (by rw [← HZ.out]; exact hz0) (by have := hin.2; omega))
        have HTE := Lib.hid (show c1.run (l.drop k) = (c1.take x).run (l.drop (k + 1)) by
          have e : l.drop k = x :: l.drop (k + 1) := by
            obtain ⟨h1, h2⟩ := List.getElem?_eq_some_iff.1 hx
            rw [List.drop_eq_getElem_cons h1, h2]
          rw [e]
          show (if c1.no = 0 then (c1.take x).run (l.drop (k + 1)) else c1) = _
          rw [if_pos (by rw [← HZ.out]; exact hz0)])
        have HIN := Lib.hid (show (c1.take x).no = 0 → (c1.take x).Inv ∧ (c1.take x).pos + (n - (k + 1 : Nat) : Int) ≤ 4000000 from fun e => by
          obtain ⟨a1, a2⟩ := Cr.take_inv hin.1 (by rw [← HZ.out]; exact hz0) e
          exact ⟨a1, by rw [a2]; have := hin.2; omega⟩)
        clear hx hz0 hin
        go_wp2_with fail
        (with_reducible refine (HTK.out).mono ?_)
        rintro e w2 ⟨rfl, ⟨v2, hr2⟩, hf2⟩
        have HR2 := Lib.hid hr2
        have HF2 := Lib.hid hf2
        clear hr2 hf2
        go_wp2
        go_roundw
        case rel => exact ⟨k + 1, _, v2, by omega, by go_num, HR2.out, HF.out.trans HF2.out, HTE.out.symm.trans HE.out, HIN.out⟩
        case measure => simp [intOf]; omega
      · have t0 : (z == 0) = false := by simp [hz0]
        have E := Lib.hid (show c.run l = c1 by rw [← HE.out]; exact Cr.run_bad _ _ (by rw [← HZ.out]; exact hz0))
        clear hz0
        go_wp2
        go_end0
        rw [E.out]
        exact ⟨rfl, ⟨_, HR.out⟩, HF.out⟩
    · have d1 : decide ((k : Int) < (l.length : Int)) = false := decide_eq_false (by rw [← HN.out]; omega)
      have g1 : decide (k < l.length) = false := decide_eq_false (by rw [← HN.out]; omega)
      have E := Lib.hid (show c.run l = c1 by rw [← HE.out, List.drop_of_length_le (by rw [← HN.out]; omega)]; rfl)
      clear hlt
      go_wp2
      go_end0
      rw [E.out]
      exact ⟨rfl, ⟨_, HR.out⟩, HF.out⟩
end
/-- the error of a reader -/
def Cr.res (c : Cr) : Int × Int := if c.no = 0 ∧ c.begun = true then (c.pos, 16) else (c.fault, c.no)
section
variable {T : TypeId} {ex : List Value} {K base : Nat}
set_option maxHeartbeats 4000000 in
set_option maxRecDepth 100000 in
theorem cResult_any (c : Cr) (v : CrV) (w : World) (h : CrR T ex w K base c v) :
    Calls Tryz.prog 67 #[.pointer (some ⟨K, 0, none⟩)] w fun e w' => e = .returned (.tuple #[.int .i64 c.res.1, .int .i64 c.res.2]) ∧ ∃ m, w' = w.drewN m := by
  have HH := Lib.hid h
  have k22 := h.cell 22 (u := .int .i64 c.no) rfl
  have k21 := h.cell 21 (u := .int .i64 c.fault) rfl
  have k1 := h.cell 1 (u := .int .i64 c.pos) rfl
  have k3 := h.cell 3 (u := .bool c.begun) rfl
  obtain ⟨z, hz⟩ : ∃ z, z = c.no := ⟨_, rfl⟩
  rw [← hz] at k22
  have HZ := Lib.hid hz
  have hbw := h.bw
  have hKlt := h.lt
  clear h hz
  by_cases hz0 : z = 0
  · have t0 : (z == 0) = true := by simp [hz0]
    cases hb : c.begun with
    | true =>
      have E := Lib.hid (show c.res = (c.pos, 16) by unfold Cr.res; rw [if_pos ⟨by rw [← HZ.out]; exact hz0, hb⟩])
      rw [hb] at k3
      clear hz0
      go_enter Tryz.func67, Tryz.ntmps67
      go_wp2
      refine bodyPost_ret (v := .tuple #[.int .i64 c.pos, .int .i64 16]) (by simp [results, Tryz.results67, go_sem]) rfl ?_
      rw [E.out]
      exact ⟨rfl, 0, rfl⟩
    | false =>
      have E := Lib.hid (show c.res = (c.fault, z) by unfold Cr.res; rw [if_neg (fun q => by rw [hb] at q; cases q.2), HZ.out])
      rw [hb] at k3
      clear hz0
      go_enter Tryz.func67, Tryz.ntmps67
      go_wp2
      go_big_quiet (fail)
      go_wp2
      refine bodyPost_ret (v := .tuple #[.int .i64 c.fault, .int .i64 z]) (by simp [results, Tryz.results67, go_sem]) rfl ?_
      rw [E.out]
      exact ⟨rfl, _, rfl⟩
  · have t0 : (z == 0) = false := by simp [hz0]
    have E := Lib.hid (show c.res = (c.fault, z) by unfold Cr.res; rw [if_neg (fun q => hz0 (by rw [HZ.out]; exact q.1)), HZ.out])
    clear hz0
    go_enter Tryz.func67, Tryz.ntmps67
    go_wp2
    go_big_quiet (fail)
    go_wp2
    refine bodyPost_ret (v := .tuple #[.int .i64 c.fault, .int .i64 z]) (by simp [results, Tryz.results67, go_sem]) rfl ?_
    rw [E.out]
    exact ⟨rfl, _, rfl⟩
end
end Go.Proofs.YthfloagpmmohkaaGreatDoor

/- wire.Read. -/
namespace Go.Proofs.YthfloagpmmohkaaGreatDoor
open Go Go.RowKit Go.Proofs

theorem tyOkC : TyOk 92 := ⟨by decide, by decide, by decide⟩
theorem buildC0 (r : Bool) (W : World) : (Instr.build 92 #[(0, .bool r)]).run Tryz.prog W =
    .ok (.agg #[.bool r, .int .i64 0, .int .i64 0, .bool false, .bool false, .string ⟨#[]⟩, .string ⟨#[]⟩, .int .i64 0, .string ⟨#[]⟩, .slice none 0 0, .string ⟨#[]⟩, .slice none 0 0, .int .i64 0, .int .i64 0, .int .i64 0, .int .i64 0, .bool false, .bool false, .bool false, .slice none 0 0, .slice none 0 0, .int .i64 0, .int .i64 0]) W := by kernel_rfl
set_option maxHeartbeats 4000000 in
set_option maxRecDepth 100000 in
theorem clipMsg_any (A : Option Addr) (n c : Nat) (w : World) (hnc : n ≤ c) (hc : c ≤ maxLen) (hA : A = none → n = 0 ∧ c = 0) :
    Calls Tryz.prog 68 #[.slice A n c] w fun e w' => e = .returned (.slice A n n) ∧ w = w' := by
  unfold maxLen at hc
  rcases A with _ | a
  · obtain ⟨rfl, rfl⟩ := hA rfl
    go_enter Tryz.func68, Tryz.ntmps68
    go_wp2
    go_ret
    exact ⟨rfl, rfl⟩
  · go_enter Tryz.func68, Tryz.ntmps68
    go_wp2
    go_ret
    exact ⟨rfl, rfl⟩
theorem OffR.shape2 {w : World} {base : Nat} {e : TypeId} {k n : Nat} {v : Value} {xs : List Value} (h : OffR w base e k v n xs) : ∃ A c, v = .slice A n c ∧ n ≤ c ∧ c ≤ maxLen ∧ (A = none → n = 0 ∧ c = 0) ∧ OffR w base e k (.slice A n n) n xs := by
  rcases h.2 with ⟨rfl, h0⟩ | ⟨g, o, cap, cur, rfl, hb, hh, h1, h2, h3, h4⟩
  · subst h0
    exact ⟨none, 0, rfl, by omega, by unfold maxLen; omega, fun _ => ⟨rfl, rfl⟩, h⟩
  · refine ⟨some ⟨g, o, none⟩, cap, rfl, h1, h2, fun e => (by cases e), h.1, .inr ⟨g, o, n, cur, rfl, hb, hh, Nat.le_refl _, by omega, ?_, h4⟩⟩
    have := Nat.mul_le_mul_right k h1
    omega
/-- a row of messages -/
def MsR (w : World) (base : Nat) (V : Value) (l : List Msg) : Prop := ∃ xs : List MsgX, xs.map (·.m) = l ∧ OffR w base 38 7 V l.length (msgsC xs) ∧ ∀ x ∈ xs, HdR w x.hA x.m.head
/-- what Read makes of a text -/
def RdE (s : List UInt8) (r : Bool) (V : Value) : Ending :=
  if 4000000 < s.length then .returned (.tuple #[.slice none 0 0, .int .i64 0, .int .i64 3])
  else if (({ req := r } : Cr).run s).res.2 = 0 then .returned (.tuple #[V, .int .i64 0, .int .i64 0])
  else .returned (.tuple #[.slice none 0 0, .int .i64 (({ req := r } : Cr).run s).res.1, .int .i64 (({ req := r } : Cr).run s).res.2])
def RdPost (w : World) (s : List UInt8) (r : Bool) (e : Ending) (w' : World) : Prop :=
  Below w.heap.size w w' ∧ ∃ V, e = RdE s r V ∧ (s.length ≤ 4000000 → (({ req := r } : Cr).run s).res.2 = 0 → MsR w' (w.heap.size + 1) V (({ req := r } : Cr).run s).done)
theorem crNew (T : TypeId) (ex : List Value) (r : Bool) (w : World) : CrR T ex (w.alloc (.cells (crC { req := r } ⟨.slice none 0 0, .slice none 0 0, .slice none 0 0, .slice none 0 0, []⟩ ++ ex).toArray T (0, 0))) w.heap.size (w.heap.size + 1) { req := r } ⟨.slice none 0 0, .slice none 0 0, .slice none 0 0, .slice none 0 0, []⟩ :=
  ⟨by omega, by simp, (by show (w.heap.push _)[w.heap.size]? = _; exact Array.getElem?_push_size), ⟨rfl, .inl ⟨rfl, rfl⟩⟩, fun e => (by cases e), fun e => (by cases e), ⟨rfl, .inl ⟨rfl, rfl⟩⟩, rfl, fun x hx => (by cases hx), fun e => (by cases e), fun e => (by cases e)⟩
theorem crF_below (T : TypeId) (ex : List Value) (r : Bool) (w W : World) (h : CrF w.heap.size (w.alloc (.cells (crC { req := r } ⟨.slice none 0 0, .slice none 0 0, .slice none 0 0, .slice none 0 0, []⟩ ++ ex).toArray T (0, 0))) W) : Below w.heap.size w W := by
  refine ((Below.refl w.heap.size w).alloc (Nat.le_refl _) _).trans (h.toFr.below (by simp) (fun j hj hm => ?_))
  rcases hm with e | e
  · omega
  · rcases (crNew T ex r w).own_iff.1 e with e | e | e | e <;> cases e
set_option maxHeartbeats 4000000 in
set_option maxRecDepth 100000 in
theorem read_any (s : List UInt8) (r : Bool) (w : World) (hs : s.length ≤ 140737488355328) :
    Calls Tryz.prog 21 #[tx s, .bool r] w (RdPost w s r) := by
  have hbd := buildC0 r
  by_cases hl : 4000000 < s.length
  · have g1 : decide (4000000 < s.length) = true := decide_eq_true hl
    have g2 : decide ((4000000 : Int) < (s.length : Int)) = true := decide_eq_true (by omega)
    have E := Lib.hid (show RdE s r (.slice none 0 0) = .returned (.tuple #[.slice none 0 0, .int .i64 0, .int .i64 3]) from if_pos hl)
    have HL := Lib.hid hl
    clear hl
    go_enter Tryz.func21, Tryz.ntmps21
    go_wp2
    refine bodyPost_ret (v := .tuple #[.slice none 0 0, .int .i64 0, .int .i64 3]) (by simp [results, Tryz.results21, go_sem]) rfl ?_
    exact ⟨Below.refl _ _, .slice none 0 0, E.out.symm, fun q => by have := HL.out; omega⟩
  · have g1 : decide (4000000 < s.length) = false := decide_eq_false hl
    have g2 : decide ((4000000 : Int) < (s.length : Int)) = false := decide_eq_false (by omega)
    have HL := Lib.hid hl
    have hl4 : s.length ≤ 4000000 := by omega
    clear hl
    have HRU := Lib.hid (show Calls Tryz.prog 66 #[.pointer (some ⟨w.heap.size, 0, none⟩), tx s] (w.alloc (.cells #[.bool r, .int .i64 0, .int .i64 0, .bool false, .bool false, .string ⟨#[]⟩, .string ⟨#[]⟩, .int .i64 0, .string ⟨#[]⟩, .slice none 0 0, .string ⟨#[]⟩, .slice none 0 0, .int .i64 0, .int .i64 0, .int .i64 0, .int .i64 0, .bool false, .bool false, .bool false, .slice none 0 0, .slice none 0 0, .int .i64 0, .int .i64 0] 92)) (CrP 92 [] w.heap.size (w.heap.size + 1) (({ req := r } : Cr).run s) (w.alloc (.cells #[.bool r, .int .i64 0, .int .i64 0, .bool false, .bool false, .string ⟨#[]⟩, .string ⟨#[]⟩, .int .i64 0, .string ⟨#[]⟩, .slice none 0 0, .string ⟨#[]⟩, .slice none 0 0, .int .i64 0, .int .i64 0, .int .i64 0, .int .i64 0, .bool false, .bool false, .bool false, .slice none 0 0, .slice none 0 0, .int .i64 0, .int .i64 0] 92))) from
      cRun_any tyOkC { req := r } _ s _ (crNew 92 [] r w) (fun _ => Cr.new_inv r) (fun _ => by show (0 : Int) + _ ≤ _; omega) hl4)
    have HB0 := Lib.hid (fun W (hW : CrF w.heap.size (w.alloc (.cells #[.bool r, .int .i64 0, .int .i64 0, .bool false, .bool false, .string ⟨#[]⟩, .string ⟨#[]⟩, .int .i64 0, .string ⟨#[]⟩, .slice none 0 0, .string ⟨#[]⟩, .slice none 0 0, .int .i64 0, .int .i64 0, .int .i64 0, .int .i64 0, .bool false, .bool false, .bool false, .slice none 0 0, .slice none 0 0, .int .i64 0, .int .i64 0] 92)) W) => crF_below 92 [] r w W hW)
    have HE := Lib.hid (show ∀ V, RdE s r V = (if (({ req := r } : Cr).run s).res.2 = 0 then .returned (.tuple #[V, .int .i64 0, .int .i64 0])
  else .returned (.tuple #[.slice none 0 0, .int .i64 (({ req := r } : Cr).run s).res.1, .int .i64 (({ req := r } : Cr).run s).res.2])) from fun V => if_neg HL.out)
    have HPO := Lib.hid (show RdPost w s r = fun e w' => Below w.heap.size w w' ∧ ∃ V, e = RdE s r V ∧ (s.length ≤ 4000000 → (({ req := r } : Cr).run s).res.2 = 0 → MsR w' (w.heap.size + 1) V (({ req := r } : Cr).run s).done) from rfl)
    clear hl4
    go_enter Tryz.func21, Tryz.ntmps21
    go_wp2_with fail
    (with_reducible refine (HRU.out).mono ?_)
    rintro e w2 ⟨rfl, ⟨v2, hr2⟩, hf2⟩
    have HF2 := Lib.hid (HB0.out w2 hf2)
    obtain ⟨c2, hc2⟩ : ∃ x, x = ({ req := r } : Cr).run s := ⟨_, rfl⟩
    rw [← hc2] at hr2
    have HC2 := Lib.hid hc2
    have HR2 := Lib.hid hr2
    have HRE := Lib.hid (cResult_any c2 v2 w2 hr2)
    clear hr2 hf2 hc2
    go_wp2_with fail
    (with_reducible refine (HRE.out).mono ?_)
    rintro e w3 ⟨rfl, m, rfl⟩
    obtain ⟨A, k, hvd, hnk, hk, hA, hOR⟩ := HR2.out.done.shape2
    have k20 : (w2.drewN m).cell? ⟨w.heap.size, 20, none⟩ = some (.slice A v2.l.length k) := by rw [← hvd]; exact (HR2.out.drewN m).cell 20 rfl
    have HCL := Lib.hid (clipMsg_any A v2.l.length k (w2.drewN m) hnk hk hA)
    have HOR := Lib.hid hOR
    clear hvd hnk hk hA hOR
    obtain ⟨z, hz⟩ : ∃ z, z = c2.res.2 := ⟨_, rfl⟩
    rw [← hz]
    have HZ := Lib.hid hz
    clear hz
    by_cases hz0 : z = 0
    · have t0 : (z == 0) = true := by simp [hz0]
      have t1 : (z != 0) = false := by simp [hz0]
      have HZ0 := Lib.hid hz0
      clear hz0
      go_wp2_with fail
      (with_reducible refine (HCL.out).mono ?_)
      rintro e w4 ⟨rfl, rfl⟩
      go_wp2
      refine bodyPost_ret (v := .tuple #[.slice A v2.l.length v2.l.length, .int .i64 0, .int .i64 0]) (by simp [results, Tryz.results21, go_sem]) rfl ?_
      refine ⟨HF2.out.trans ⟨rfl, rfl, rfl, Nat.le_refl _, fun _ _ => rfl⟩, .slice A v2.l.length v2.l.length, ?_, fun _ _ => ⟨v2.l, by rw [← HC2.out]; exact HR2.out.msgs, ?_, HR2.out.heads⟩⟩
      · rw [HE.out, ← HC2.out, if_pos (by rw [← HZ.out]; exact HZ0.out)]
      · have e1 : c2.done.length = v2.l.length := by rw [← HR2.out.msgs]; simp
        rw [← HC2.out, e1]
        exact HOR.out
    · have t0 : (z == 0) = false := by simp [hz0]
      have t1 : (z != 0) = true := by simp [hz0]
      have HZ0 := Lib.hid hz0
      clear hz0
      go_wp2
      refine bodyPost_ret (v := .tuple #[.slice none 0 0, .int .i64 c2.res.1, .int .i64 z]) (by simp [results, Tryz.results21, go_sem]) rfl ?_
      refine ⟨HF2.out.trans ⟨rfl, rfl, rfl, Nat.le_refl _, fun _ _ => rfl⟩, .slice none 0 0, ?_, fun _ q => absurd (by rw [HZ.out, HC2.out]; exact q) HZ0.out⟩
      rw [HE.out, ← HC2.out, if_neg (by rw [← HZ.out]; exact HZ0.out), ← HZ.out]
end Go.Proofs.YthfloagpmmohkaaGreatDoor
