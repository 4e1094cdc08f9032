/- Package load: Spans: the closure, the sort, Clip. -/
import Derived.Test.YtajokainammahaaSpCmp
import Derived.Shelf.SlSortCmp.WholeK
import Derived.Shelf.SlSortCmp.NoneTotal
namespace Go.Proofs.Ytajokainammahaa
open Go Go.RowKit Go.Proofs Go.Sort

theorem grow_two (W : World) (os os' : Array Obj) (q : Nat) : grow ((grow W os).drewN q) os' = grow (W.drewN q) (os ++ os') := by
  simp [grow, World.drewN, Array.append_assoc]
theorem cell_new_drew (w : World) (cs : Array Value) (t : TypeId) {j : Nat} {u : Value} (h : cs[j]? = some u) : (w.alloc (.cells cs t)).drew.cell? ⟨w.heap.size, j, none⟩ = some u := by
  show (w.alloc (.cells cs t)).cell? _ = _
  rw [cellsAt (alloc_at _ _ _ rfl)]; exact h
/-- a world with draws and new blocks behind -/
def GrS (W X : World) : Prop := ∃ q os', X = grow (W.drewN q) os'
theorem GrS.drew0 (W : World) : GrS W W.drew := ⟨1, #[], by rw [grow_empty]; rfl⟩
theorem GrS.drew1 (W : World) (o : Obj) : GrS W (W.alloc o).drew := ⟨1, #[o], by rw [alloc_eq_grow]; rfl⟩
theorem GrS.alloc {W X : World} (h : GrS W X) (o : Obj) : GrS W (X.alloc o) := by
  obtain ⟨q, os, rfl⟩ := h
  exact ⟨q, os ++ #[o], by rw [alloc_eq_grow, grow_grow]⟩
theorem GrS.below {W X : World} (h : GrS W X) : Below W.heap.size W X := by
  obtain ⟨q, os, rfl⟩ := h
  refine ⟨rfl, rfl, rfl, by simp [grow, World.drewN], fun i hi => ?_⟩
  show (W.heap ++ os)[i]? = W.heap[i]?
  rw [Array.getElem?_append_left hi]
set_option maxHeartbeats 1000000 in
set_option maxRecDepth 100000 in
theorem spanCmp_any (x y : Int × Int × Int) (W : World) : Calls Try.prog 27 #[.agg #[.int .i64 x.1, .int .i64 x.2.1, .int .i64 x.2.2], .agg #[.int .i64 y.1, .int .i64 y.2.1, .int .i64 y.2.2]] W fun e w' => e = .returned (.int .i64 (cmpSp x y)) ∧ ∃ q os', w' = grow (W.drewN q) os' := by
  obtain ⟨a, b, c⟩ := x
  obtain ⟨a', b', c'⟩ := y
  have HC1 := Lib.hid (fun W' => Try.cmp_Compare_int b b' W')
  have HC2 := Lib.hid (fun W' => Try.cmp_Compare_int a a' W')
  have HE := Lib.hid (show cmpSp (a, b, c) (a', b', c') = if Lib.compareInt b b' ≠ 0 then Lib.compareInt b b' else Lib.compareInt a a' from rfl)
  have HOR := Lib.hid (fun W' bl o hx hy => cmpOr_any bl o (Lib.compareInt b b') (Lib.compareInt a a') W' hx hy)
  obtain ⟨r1, hr1⟩ : ∃ r, r = Lib.compareInt b b' := ⟨_, rfl⟩
  obtain ⟨r2, hr2⟩ : ∃ r, r = Lib.compareInt a a' := ⟨_, rfl⟩
  obtain ⟨rv, hrv⟩ : ∃ rv, rv = if r1 ≠ 0 then r1 else r2 := ⟨_, rfl⟩
  rw [← hr1, ← hr2] at HE HOR
  rw [← hrv] at HE
  simp only [← hrv] at HOR
  clear hrv
  rw [← hr1] at HC1
  rw [← hr2] at HC2
  obtain ⟨W0, hW0⟩ : ∃ W0, W0 = (W.alloc (.cells #[.int .i64 a, .int .i64 b, .int .i64 c] 44)).alloc (.cells #[.int .i64 a', .int .i64 b', .int .i64 c'] 44) := ⟨_, rfl⟩
  have hg0 : ∃ os, W0 = grow W os := by rw [hW0, alloc_eq_grow, alloc_eq_grow, grow_grow]; exact ⟨_, rfl⟩
  have HST0 := Lib.hid (show St W W0 [(W.heap.size, .cells #[.int .i64 a, .int .i64 b, .int .i64 c] 44 (0, 0)), (W.heap.size + 1, .cells #[.int .i64 a', .int .i64 b', .int .i64 c'] 44 (0, 0))] by rw [hW0]; exact ((St.start W).alloc _ _ rfl).alloc _ _ (by simp))
  have HG0 := Lib.hid hg0
  clear hr1 hr2 hg0
  go_enter Try.func27, Try.ntmps27
  go_wp2_with fail
  rw [← hW0]
  clear hW0
  have HKS := Lib.hid (show ∀ X, GrS W0 X → GrS W0 X ∧ X.cell? ⟨W.heap.size, 0, none⟩ = some (.int .i64 a) ∧ X.cell? ⟨W.heap.size, 1, none⟩ = some (.int .i64 b) ∧ X.cell? ⟨W.heap.size + 1, 0, none⟩ = some (.int .i64 a') ∧ X.cell? ⟨W.heap.size + 1, 1, none⟩ = some (.int .i64 b') from fun X hX =>
    ⟨hX, (HST0.out.call hX.below).cell 0 0 rfl rfl, (HST0.out.call hX.below).cell 0 1 rfl rfl, (HST0.out.call hX.below).cell 1 0 rfl rfl, (HST0.out.call hX.below).cell 1 1 rfl rfl⟩)
  go_region_held3 (fun X => GrS W0 X ∧ X.cell? ⟨W.heap.size, 0, none⟩ = some (.int .i64 a) ∧ X.cell? ⟨W.heap.size, 1, none⟩ = some (.int .i64 b) ∧ X.cell? ⟨W.heap.size + 1, 0, none⟩ = some (.int .i64 a') ∧ X.cell? ⟨W.heap.size + 1, 1, none⟩ = some (.int .i64 b'))
    (first
      | exact HKS.out _ (GrS.drew0 W0)
      | assumption
      | exact HKS.out _ (GrS.drew1 W0 _)
      | (go_split_ands; refine HKS.out _ ?_; assumption)
      | (go_split_ands; refine HKS.out _ (GrS.alloc ?_ _); assumption))
    (first
      | (go_at_call 29; (with_reducible refine (HC1.out _).mono ?_); rintro e wA ⟨rfl, rfl⟩)
      | (go_at_call 29; (with_reducible refine (HC2.out _).mono ?_); rintro e wB ⟨rfl, rfl⟩)
      | (go_at_call 28; refine (HOR.out _ _ _ ?_ ?_).mono ?_; exact cell_new_drew _ _ _ rfl; exact cell_new_drew _ _ _ rfl; rintro e wC ⟨rfl, rfl⟩))
  all_goals go_split_ands
  all_goals go_wp2
  all_goals go_ret
  all_goals refine ⟨by rw [HE.out]; rfl, ?_⟩
  all_goals obtain ⟨os, hos⟩ := HG0.out
  all_goals obtain ⟨q2, os2, hX⟩ := ‹GrS W0 _›
  all_goals exact ⟨q2, os ++ os2, by rw [hX, hos, grow_two]⟩
theorem lt_cmpSp (x y : Int × Int × Int) : ltOf cmpSp x y = decide (x.2.1 < y.2.1 ∨ (x.2.1 = y.2.1 ∧ x.1 < y.1)) := by
  unfold ltOf cmpSp Lib.compareInt
  rcases Int.lt_trichotomy x.2.1 y.2.1 with h | h | h
  · simp [h]
  · rw [h]
    rcases Int.lt_trichotomy x.1 y.1 with h2 | h2 | h2
    · simp [h2]
    · simp [h2]
    · have : ¬ x.1 < y.1 := by omega
      simp [h2, this]
  · have h1 : ¬ x.2.1 < y.2.1 := by omega
    have h2 : ¬ x.2.1 = y.2.1 := by omega
    simp [h, h1, h2]
theorem swoSp : SWO (ltOf cmpSp) where
  irrefl x := by rw [lt_cmpSp]; simp
  trans x y z h1 h2 := by rw [lt_cmpSp] at *; simp at *; omega
  ntrans x y z h1 h2 := by rw [lt_cmpSp] at *; simp at *; omega
/-- no later one is less than an earlier one -/
def Srt (l : List (Int × Int × Int)) : Prop := ∀ (i j : Nat) a b, i < j → l[i]? = some a → l[j]? = some b → ¬ (b.2.1 < a.2.1 ∨ (b.2.1 = a.2.1 ∧ b.1 < a.1))
set_option maxHeartbeats 1000000 in
set_option maxRecDepth 100000 in
theorem spanSort_any {w : World} {base g n cap : Nat} {l : List (Int × Int × Int)} (h : w.ownsRow base 44 3 (.slice (some ⟨g, 0, none⟩) n cap) n (cells3 l)) (hn : n ≤ 1000000000000) :
    Calls Try.prog 26 #[.slice (some ⟨g, 0, none⟩) n cap, .func (.func 27) #[] #[]] w fun e w' => e = .returned (.tuple #[]) ∧ ∃ l', l'.Perm l ∧ Srt l' ∧ w'.ownsRow base 44 3 (.slice (some ⟨g, 0, none⟩) n cap) n (cells3 l') ∧ Fr (fun i => i = g) w w' := by
  have eg : ∀ args w, (callFunc 27 args).run Try.prog w = .ok (.enter 27 args) w := enters_of Try.func27 (by kernel_rfl) rfl
  have hln : l.length = n := by have := h.1; rw [cells3_length] at this; omega
  have hg : g < w.heap.size := by
    rcases h.2 with ⟨h0, _⟩ | ⟨g', cap', cur, hv, hb, hh, _⟩
    · cases h0
    · cases hv; exact heap_lt hh
  have hcon := AnyQ.slices_SortFunc Try.sortSpan 3 Try.isAgg44 Try.sizeOf44 encSp (fun _ => rfl) (fun x v hv => by simp [encSp] at hv; rcases hv with rfl | rfl | rfl <;> rfl) cmpSp swoSp 27 #[] g 0 cap l.toArray w eg (fun _ _ _ _ x y => spanCmp_any x y _) (holds_own h) hg (by simp; omega)
  rw [show l.toArray.size = n by simpa using hln] at hcon
  refine Calls.mono hcon ?_
  rintro e w' ⟨he, d', q, os, hp, hs, rfl⟩
  obtain ⟨p1, p2, p3⟩ := hp
  have hsz : d'.size = l.length := by simpa using p1
  refine ⟨he, d'.toList, ?_, ?_, ?_, ?_⟩
  · rw [← hln, ← hsz] at p3
    have e1 : d'.extract 0 d'.size = d' := by simp
    have e2 : l.toArray.extract 0 d'.size = l.toArray := by rw [hsz]; simp
    rw [e1, e2] at p3
    simpa using p3
  · intro i j a b hij ha hb
    have hjl : j < d'.size := by have := (List.getElem?_eq_some_iff.1 hb).1; simpa using this
    have := hs i j (Nat.zero_le _) hij (by omega)
    rw [lt_cmpSp] at this
    have ea : d'[i]! = a := by rw [getElem!_pos d' i (by omega)]; have := (List.getElem?_eq_some_iff.1 ha).2; simpa using this
    have eb : d'[j]! = b := by rw [getElem!_pos d' j hjl]; have := (List.getElem?_eq_some_iff.1 hb).2; simpa using this
    rw [ea, eb] at this
    simpa using this
  · have := own_sorted h (l' := d'.toList) (by simpa using hsz) q os
    simpa [sortWorldK] using this
  · exact fr_sorted w q g _ os
theorem spanSortV_any {w : World} {base n : Nat} {v : Value} {l : List (Int × Int × Int)} (h : w.ownsRow base 44 3 v n (cells3 l)) (hn : n ≤ 1000000000000) :
    Calls Try.prog 26 #[v, .func (.func 27) #[] #[]] w fun e w' => e = .returned (.tuple #[]) ∧ ∃ l', l'.Perm l ∧ Srt l' ∧ w'.ownsRow base 44 3 v n (cells3 l') ∧ Fr (fun i => some i = v.ownBlock) w w' := by
  have hln : l.length = n := by have := h.1; rw [cells3_length] at this; omega
  rcases Nat.eq_zero_or_pos n with rfl | hp
  · obtain ⟨A, cap, rfl, _, _, _⟩ := ownsRow_shape h
    obtain rfl : l = [] := List.eq_nil_of_length_eq_zero hln
    refine Calls.mono (AnyF.slices_SortFunc_none Try.sortSpan A cap (.func (.func 27) #[] #[]) w) ?_
    rintro e w' ⟨he, rfl⟩
    exact ⟨he, [], List.Perm.refl _, fun i j a b _ ha => by simp at ha, h, Fr.refl _ _⟩
  · obtain ⟨g, cap, rfl, _, _, _, _⟩ := ownsRow_some h hp
    refine Calls.mono (spanSort_any h hn) ?_
    rintro e w' ⟨he, l', h1, h2, h3, h4⟩
    exact ⟨he, l', h1, h2, h3, h4.mono (fun i _ hi => by subst hi; rfl)⟩
set_option maxHeartbeats 1000000 in
set_option maxRecDepth 100000 in
theorem clipS_any (A : Option Addr) (n c : Nat) (w : World) (hc : n ≤ c) (hcm : c ≤ maxLen) (hA : A = none → n = 0 ∧ c = 0) :
    Calls Try.prog 30 #[.slice A n c] w fun e w' => e = .returned (.slice A n n) ∧ w = w' := by
  cases A with
  | none =>
    obtain ⟨rfl, rfl⟩ := hA rfl
    go_enter Try.func30, Try.ntmps30
    go_wp2
    go_ret
    exact ⟨rfl, rfl⟩
  | some a =>
    obtain ⟨b, o, sp⟩ := a
    go_enter Try.func30, Try.ntmps30
    go_wp2
    go_ret
    exact ⟨rfl, rfl⟩
end Go.Proofs.Ytajokainammahaa
