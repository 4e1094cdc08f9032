/- slices.Clone at counts; copyOf. -/
import Derived.Test.YtgmbgclhljobaaaDoorRPut
import Derived.Test.YtgmbgclhljobaaaDoorAppRd
namespace Go.Proofs.YtgmbgclhljobaaaDoor
open Go Go.RowKit Go.Proofs Go.Maps

theorem eqNil (A : Option Addr) (n c : Nat) (w : World) : (binOp .eql 22 (.slice A n c) (.slice none 0 0)).run Tryd.prog w = .ok (.bool A.isNone) w := by
  have h := run_equal_slice_nil (P := Tryd.prog) w 22 63 A n c Tryd.underlying22
  simp [binOp, h]
theorem cells2_one (cs : List (Int × Int)) : ∀ u ∈ cells2 cs, u.oneCell' = true := by
  intro u hu
  simp only [cells2, List.mem_flatMap] at hu
  obtain ⟨c, _, hc⟩ := hu
  simp at hc
  rcases hc with rfl | rfl <;> rfl
set_option maxRecDepth 100000 in
set_option maxHeartbeats 1000000 in
theorem clone_count (A : Option Addr) (c : Nat) (cs : List (Int × Int)) (w : World) (hr : Rd w 0 w.heap.size 2 A cs.length (cells2 cs)) (hn : cs.length ≤ 1000000) :
    Calls Tryd.prog 83 #[.slice A cs.length c] w fun e w' => ∃ A' c', e = .returned (.slice A' cs.length c') ∧ Rd w' w.heap.size w'.heap.size 2 A' cs.length (cells2 cs) ∧ cs.length ≤ c' ∧ c' ≤ maxLen ∧ (A' = none → cs.length = 0 ∧ c' = 0) ∧ Below w.heap.size w w' := by
  obtain ⟨i0, hi, hz0, hz1, hz2⟩ := info_parts Tryd.infoC
  cases A with
  | none =>
    have h0 : cs.length = 0 := by
      rcases Nat.eq_zero_or_pos cs.length with h | h
      · exact h
      · obtain ⟨_, _, e, _⟩ := hr.2 h; cases e
    obtain rfl : cs = [] := List.length_eq_zero_iff.1 h0
    clear hr hn h0
    have hnil := eqNil none 0 c
    go_enter Tryd.func83, Tryd.ntmps83
    go_wp2
    go_ret
    exact ⟨none, 0, rfl, Rd.nil, Nat.le_refl _, Nat.zero_le _, fun _ => by simp, Below.refl _ _⟩
  | some a =>
    have hown : (w.alloc (.cells #[] 63)).ownsRow w.heap.size 63 2 (.slice (some ⟨w.heap.size, 0, none⟩) 0 0) 0 [] :=
      ⟨rfl, .inr ⟨w.heap.size, 0, #[], rfl, Nat.le_refl _, alloc_at _ _ _ rfl, Nat.le_refl _, Nat.zero_le _, rfl, rfl⟩⟩
    have HO := Lib.hid hown
    have HR := Lib.hid (hr.alloc (Nat.le_refl _) (.cells #[] 63))
    clear hown hr
    have hnil := eqNil (some a) cs.length c
    go_enter Tryd.func83, Tryd.ntmps83
    go_wp2_with (at_builtin; refine wpList_append_rd rfl (.tmp 5) (.tmp 6) 22 rfl w.heap.size 63 i0 _ 2 16 Tryd.underlying22 hi hz0 hz1 hz2 rfl (by decide) (.slice (some ⟨w.heap.size, 0, none⟩) 0 0) 0 [] rfl HO.out (some a) cs.length c 0 w.heap.size (cells2 cs) rfl (fun h => by cases h) HR.out (cells2_one cs) ?c3 ?c4 ?c5 ?_)
    case c3 => unfold maxLen; omega
    case c4 => omega
    case c5 => simp
    intro v' w' hown' hgrow
    obtain ⟨A', cap, rfl, h1, h2, h3⟩ := ownsRow_shape hown'
    have hrd := Rd.of_own hown'
    have hb : Below w.heap.size w w' := (((Below.refl _ w).alloc (Nat.le_refl _) _).grown hgrow (by simp) (fun k e => by cases e; simp))
    try simp only [Nat.zero_add, List.nil_append] at hrd
    try simp only [Nat.zero_add] at h1
    try simp only [Nat.zero_add] at h3
    try simp only [Nat.zero_add]
    have HRD := Lib.hid hrd
    have HB := Lib.hid hb
    have H3 := Lib.hid h3
    clear hown' hgrow hrd hb h3
    go_wp2
    go_ret
    exact ⟨A', cap, rfl, HRD.out, h1, h2, H3.out, HB.out⟩

set_option maxRecDepth 100000 in
set_option maxHeartbeats 1000000 in
theorem copyOf_any (b : Int) (A : Option Addr) (c : Nat) (cs : List (Int × Int)) (w : World) (hr : Rd w 0 w.heap.size 2 A cs.length (cells2 cs)) (hn : cs.length ≤ 1000000) :
    Calls Tryd.prog 72 #[.agg #[.int .i64 b, .slice A cs.length c]] w fun e w' => ∃ A', e = .returned (.agg #[.int .i64 b, .slice A' cs.length cs.length]) ∧ Rd w' (w.heap.size + 1 + 1) w'.heap.size 2 A' cs.length (cells2 cs) ∧ Below w.heap.size w w' := by
  obtain ⟨W0, hW0⟩ : ∃ W0, W0 = (w.alloc (.cells #[Value.int .i64 b, Value.slice A cs.length c] 24)).alloc (.cells #[Value.int .i64 0, Value.slice none 0 0] 24) := ⟨_, rfl⟩
  have HST0 := Lib.hid (show St w W0 [(w.heap.size, .cells #[Value.int .i64 b, Value.slice A cs.length c] 24 (0, 0)), (w.heap.size + 1, .cells #[Value.int .i64 0, Value.slice none 0 0] 24 (0, 0))] by rw [hW0]; exact ((St.start w).alloc _ _ rfl).alloc _ _ (by simp))
  have hs0 : W0.heap.size = w.heap.size + 1 + 1 := by rw [hW0]; simp
  have HCL := Lib.hid (clone_count A c cs W0 (hr.old HST0.out.below) hn)
  clear hr
  go_enter Tryd.func72, Tryd.ntmps72
  go_wp2_with fail
  rw [← hW0]
  have HS0 := Lib.hid hs0
  clear hW0 hs0
  refine HCL.out.mono ?_
  rintro e w1 ⟨A', c', rfl, hrd, h1, h2, h3, hb1⟩
  have HST1 := Lib.hid (HST0.out.call hb1)
  have HRD := Lib.hid hrd
  have HCP := Lib.hid (clip_count A' cs.length c' w1 h1 h2 h3)
  have hs1 := hb1.size
  clear HCL hrd h3 hb1
  go_wp2_with fail
  refine HCP.out.mono ?_
  rintro e w2 ⟨rfl, rfl⟩
  clear HCP
  obtain ⟨k00, k01, z00, z01, l0⟩ := HST1.out.two 0 rfl
  obtain ⟨k10, k11, z10, z11, l1⟩ := HST1.out.two 1 rfl
  go_wp2
  refine bodyPost_ret (v := .agg #[.int .i64 b, .slice A' cs.length cs.length]) (by simp [results, Tryd.results72, go_sem, k10, k11]) rfl ⟨A', rfl, ?_, ?_⟩
  · have hs := HS0.out
    refine (HRD.out.fr (may := fun i => i = w.heap.size ∨ i = w.heap.size + 1) (w' := _) ?_ (Nat.le_refl _) (fun i hi _ h => by omega)).more (by omega) (by simp [World.setCell])
    repeat (first | exact Fr.refl _ _ | (refine Fr.setCell ?_ (fun _ => by simp) _))
  · repeat (first | exact HST1.out.below | (refine Below.setCell ?_ (by dsimp only; omega) _))
end Go.Proofs.YtgmbgclhljobaaaDoor
