import Derived.Test.YtepfmoaihhonlaaGreatDoorGFit
import Derived.BigRegion
import Derived.Deep.AppendLies
import Derived.Test.YtepfmoaihhonlaaGreatDoorGRb
import Derived.Test.YtepfmoaihhonlaaGreatDoorGrowLay
import Derived.Shelf.Spec.SlicesGrow
/- Package dynamometerref7: checked, Stretch, Times, Reverse, Chain. Printed by gen_r7edit.py. -/
namespace Go.Proofs.YtepfmoaihhonlaaGreatDoor
open Go Go.RowKit Go.Proofs

/-- longer, greater, turned -/
def strS (k : Int) (s : Int × Int × Int) : Int × Int × Int := (k * s.1, s.2.1, s.2.2)
def timS (k : Int) (s : Int × Int × Int) : Int × Int × Int := (s.1, k * s.2.1, k * s.2.2)
def swpS (s : Int × Int × Int) : Int × Int × Int := (s.1, s.2.2, s.2.1)
/-- the code, and the line, of a line that was changed -/
def chgC (k : Int) (l l' : List (Int × Int × Int)) : Int := if codeS l ≠ 0 then codeS l else if k < 1 ∨ 1000 < k then 9 else codeS l'
def chgL (k : Int) (l l' : List (Int × Int × Int)) : List (Int × Int × Int) := if chgC k l l' = 0 then l' else []
theorem chg_bad {k : Int} {l l' : List (Int × Int × Int)} (h : codeS l ≠ 0) : chgC k l l' = codeS l ∧ chgL k l l' = [] := by
  have e : chgC k l l' = codeS l := by unfold chgC; rw [if_pos h]
  exact ⟨e, by unfold chgL; rw [e, if_neg h]⟩
theorem chg_rng {k : Int} {l l' : List (Int × Int × Int)} (h : codeS l = 0) (hk : k < 1 ∨ 1000 < k) : chgC k l l' = 9 ∧ chgL k l l' = [] := by
  have e : chgC k l l' = 9 := by unfold chgC; rw [if_neg (by omega), if_pos hk]
  exact ⟨e, by unfold chgL; rw [e, if_neg (by omega)]⟩
theorem chg_ok {k : Int} {l l' : List (Int × Int × Int)} (h : codeS l = 0) (hk : ¬ (k < 1 ∨ 1000 < k)) : chgC k l l' = codeS l' ∧ chgL k l l' = if codeS l' = 0 then l' else [] := by
  have e : chgC k l l' = codeS l' := by unfold chgC; rw [if_neg (by omega), if_neg hk]
  exact ⟨e, by unfold chgL; rw [e]⟩
theorem map_snoc {g : Int × Int × Int → Int × Int × Int} {l : List (Int × Int × Int)} {i : Nat} {s : Int × Int × Int} (h : l[i]? = some s) : (l.take (i + 1)).map g = (l.take i).map g ++ [g s] := by
  rw [List.take_add_one, h]; simp

/-- turned round -/
def revL (l : List (Int × Int × Int)) : List (Int × Int × Int) := if codeS l = 0 then (l.map swpS).reverse else []
theorem rev_step {l : List (Int × Int × Int)} {j : Nat} {s : Int × Int × Int} (h : l[j]? = some s) : ((l.drop j).map swpS).reverse = ((l.drop (j + 1)).map swpS).reverse ++ [swpS s] := by
  have hj := (List.getElem?_eq_some_iff.1 h).1
  rw [List.drop_eq_getElem_cons hj]
  have e : l[j] = s := by rw [List.getElem?_eq_getElem hj] at h; exact Option.some.inj h
  rw [e]; simp

end Go.Proofs.YtepfmoaihhonlaaGreatDoor

/- Package dynamometerref7: Chain. Printed by gen_r7edit.py. -/
namespace Go.Proofs.YtepfmoaihhonlaaGreatDoor
open Go Go.RowKit Go.Proofs

/-- one behind the other -/
def chnC (a b : List (Int × Int × Int)) : Int := if codeS a ≠ 0 then codeS a else if codeS b ≠ 0 then codeS b else codeS (a ++ b)
def chnL (a b : List (Int × Int × Int)) : List (Int × Int × Int) := if chnC a b = 0 then a ++ b else []
theorem cells3_append (a b : List (Int × Int × Int)) : cells3 (a ++ b) = cells3 a ++ cells3 b := by
  induction a with
  | nil => rfl
  | cons s a ih => simp [cells3, ih]
theorem cells3_one (a : List (Int × Int × Int)) : ∀ u ∈ cells3 a, u.oneCell' = true := by
  induction a with
  | nil => intro u hu; cases hu
  | cons s a ih =>
    intro u hu
    simp only [cells3, List.mem_cons] at hu
    rcases hu with rfl | rfl | rfl | hu
    · rfl
    · rfl
    · rfl
    · exact ih u hu

end Go.Proofs.YtepfmoaihhonlaaGreatDoor

/- A row of stages of the call's own, written element by element; slices.Clone at stages. -/
namespace Go.Proofs.YtepfmoaihhonlaaGreatDoor
open Go Go.RowKit Go.Proofs Go.Maps

/-- block g begins with these stages -/
def RowS (w : World) (g : Nat) (l : List (Int × Int × Int)) : Prop := ∃ cur, w.heap[g]? = some (.cells cur 86 (0, 0)) ∧ l.length * 3 ≤ cur.size ∧ cur.toList.take (l.length * 3) = cells3 l
theorem RowS.get {w : World} {g : Nat} {l : List (Int × Int × Int)} (h : RowS w g l) {j : Nat} {u : Value} (hj : (cells3 l)[j]? = some u) : w.cell? ⟨g, j, none⟩ = some u := by
  obtain ⟨cur, h1, h2, h3⟩ := h
  have hl := (List.getElem?_eq_some_iff.1 hj).1
  rw [cells3_length] at hl
  rw [cellsAt h1, ← Array.getElem?_toList]
  rw [← h3, List.getElem?_take_of_lt hl] at hj
  exact hj
theorem RowS.at {w : World} {g i : Nat} {l : List (Int × Int × Int)} (h : RowS w g l) {s : Int × Int × Int} (hs : l[i]? = some s) : w.cell? ⟨g, i * 3, none⟩ = some (.int .i64 s.1) ∧ w.cell? ⟨g, i * 3 + 1, none⟩ = some (.int .i64 s.2.1) ∧ w.cell? ⟨g, i * 3 + 2, none⟩ = some (.int .i64 s.2.2) := by
  obtain ⟨g1, g2, g3⟩ := cells3_get hs
  exact ⟨h.get g1, h.get g2, h.get g3⟩
theorem RowS.frozen {w : World} {g : Nat} {l : List (Int × Int × Int)} (h : RowS w g l) (j : Nat) : w.frozen? ⟨g, j, none⟩ = false := by
  obtain ⟨cur, h1, _⟩ := h
  exact frozenAt h1 j
theorem RowS.lt {w : World} {g : Nat} {l : List (Int × Int × Int)} (h : RowS w g l) : g < w.heap.size := by
  obtain ⟨cur, h1, _⟩ := h
  exact heap_lt h1
theorem RowS.on {w w' : World} {g : Nat} {l : List (Int × Int × Int)} (h : RowS w g l) (hb : Below w.heap.size w w') : RowS w' g l := by
  obtain ⟨cur, h1, h2⟩ := h
  exact ⟨cur, (hb.block g (heap_lt h1)).trans h1, h2⟩
theorem RowS.rd {w : World} {g : Nat} {l : List (Int × Int × Int)} (h : RowS w g l) : Rd w 0 w.heap.size 3 (some ⟨g, 0, none⟩) l.length (cells3 l) :=
  ⟨cells3_length l, fun _ => ⟨g, 0, rfl, Nat.zero_le _, h.lt, fun j u hj => by rw [Nat.zero_add]; exact h.get hj⟩⟩
theorem cells3_set : ∀ (l : List (Int × Int × Int)) (i : Nat) (s : Int × Int × Int), i < l.length → cells3 (l.set i s) = (((cells3 l).set (i * 3) (.int .i64 s.1)).set (i * 3 + 1) (.int .i64 s.2.1)).set (i * 3 + 2) (.int .i64 s.2.2)
  | [], _, _, h => by simp at h
  | x :: r, 0, s, _ => by simp [cells3]
  | x :: r, i + 1, s, h => by
    have ih := cells3_set r i s (by simpa using h)
    have e1 : (i + 1) * 3 = i * 3 + 1 + 1 + 1 := by omega
    simp only [List.set_cons_succ, cells3, e1, ih]
theorem set_take {xs : List Value} {n i : Nat} (u : Value) : (xs.set i u).take n = (xs.take n).set i u := by
  rw [List.take_set]
theorem RowS.set {w : World} {g i : Nat} {l : List (Int × Int × Int)} (h : RowS w g l) (hi : i < l.length) (s : Int × Int × Int) :
    RowS (((w.setCell ⟨g, i * 3, none⟩ (.int .i64 s.1)).setCell ⟨g, i * 3 + 1, none⟩ (.int .i64 s.2.1)).setCell ⟨g, i * 3 + 2, none⟩ (.int .i64 s.2.2)) g (l.set i s) := by
  obtain ⟨cur, h1, h2, h3⟩ := h
  refine ⟨((cur.setIfInBounds (i * 3) (.int .i64 s.1)).setIfInBounds (i * 3 + 1) (.int .i64 s.2.1)).setIfInBounds (i * 3 + 2) (.int .i64 s.2.2), ?_, by simpa using h2, ?_⟩
  · simp [World.setCell, Array.getElem?_modify, h1]
  · simp only [Array.toList_setIfInBounds, List.length_set]
    rw [set_take, set_take, set_take, h3, cells3_set l i s hi]
theorem RowS.of_own {w : World} {base g c : Nat} {l : List (Int × Int × Int)} (h : w.ownsRow base 86 3 (.slice (some ⟨g, 0, none⟩) l.length c) l.length (cells3 l)) : RowS w g l ∧ base ≤ g ∧ l.length ≤ c := by
  rcases h.2 with ⟨hv, _⟩ | ⟨g', cap, cur, hv, hb, hh, h1, h2, h3, h4⟩
  · cases hv
  · simp only [Value.slice.injEq, Option.some.injEq, Addr.mk.injEq] at hv
    obtain ⟨⟨rfl, _⟩, _, rfl⟩ := hv
    exact ⟨⟨cur, hh, by rw [h3]; exact Nat.mul_le_mul_right _ h1, h4⟩, hb, h1⟩

theorem eqNilS (A : Option Addr) (n c : Nat) (w : World) : (binOp .eql 22 (.slice A n c) (.slice none 0 0)).run Tryz.prog w = .ok (.bool A.isNone) w := by
  have h := run_equal_slice_nil (P := Tryz.prog) w 22 86 A n c Tryz.underlying22
  simp [binOp, h]
set_option maxRecDepth 100000 in
set_option maxHeartbeats 1000000 in
theorem cloneStg_any (A : Option Addr) (c : Nat) (l : List (Int × Int × Int)) (w : World) (hr : Rd w 0 w.heap.size 3 A l.length (cells3 l)) (hn : l.length ≤ 1000000) (hn0 : 0 < l.length) :
    Calls Tryz.prog 148 #[.slice A l.length c] w fun e w' => ∃ g c', e = .returned (.slice (some ⟨g, 0, none⟩) l.length c') ∧ RowS w' g l ∧ w.heap.size ≤ g ∧ l.length ≤ c' ∧ Below w.heap.size w w' := by
  obtain ⟨i0, hi, hz0, hz1, hz2⟩ := info_parts infoStg
  obtain ⟨bk, o, _, _, _, e1, _⟩ := hr.at3 hn0
  subst e1
  have hown : (w.alloc (.cells #[] 86)).ownsRow w.heap.size 86 3 (.slice (some ⟨w.heap.size, 0, none⟩) 0 0) 0 [] :=
    ⟨rfl, .inr ⟨w.heap.size, 0, #[], rfl, Nat.le_refl _, alloc_at _ _ _ rfl, Nat.le_refl _, Nat.zero_le _, rfl, rfl⟩⟩
  have HO := Lib.hid hown
  have HR := Lib.hid (hr.alloc (Nat.le_refl _) (.cells #[] 86))
  clear hown hr
  have hnil := eqNilS (some ⟨bk, o, none⟩) l.length c
  go_enter Tryz.func148, Tryz.ntmps148
  go_wp2_with (at_builtin; refine wpList_append_rd rfl (.tmp 5) (.tmp 6) 22 rfl w.heap.size 86 i0 _ 3 24 Tryz.underlying22 hi hz0 hz1 hz2 rfl (by decide) (.slice (some ⟨w.heap.size, 0, none⟩) 0 0) 0 [] rfl HO.out (some ⟨bk, o, none⟩) l.length c 0 w.heap.size (cells3 l) rfl (fun h => by cases h) HR.out (cells3_one l) ?c3 ?c4 ?c5 ?_)
  case c3 => unfold maxLen; omega
  case c4 => omega
  case c5 => simp
  intro v' w' hown' hgrow
  try simp only [Nat.zero_add, List.nil_append] at hown'
  have hb : Below w.heap.size w w' := (((Below.refl _ w).alloc (Nat.le_refl _) _).grown hgrow (by simp) (fun k e => by cases e; simp))
  obtain ⟨g, cap, rfl, _, _, _, _⟩ := ownsRow_some hown' hn0
  obtain ⟨hrow, hgb, hcap⟩ := RowS.of_own hown'
  have HROW := Lib.hid hrow
  have HB := Lib.hid hb
  clear hown' hgrow hrow hb
  go_wp2
  go_ret
  exact ⟨g, cap, rfl, HROW.out, hgb, hcap, HB.out⟩
end Go.Proofs.YtepfmoaihhonlaaGreatDoor

/- Package load: changed, at its three closures. Printed by gen_edit.py. -/
namespace Go.Proofs.YtepfmoaihhonlaaGreatDoor
open Go Go.RowKit Go.Proofs

set_option maxHeartbeats 1000000 in
set_option maxRecDepth 100000 in
theorem checkedRow_any (g c : Nat) (L : List (Int × Int × Int)) (w : World) (hr : RowS w g L) (hl : L.length ≤ 9223372036854775807) (hc : L.length ≤ c) :
    Calls Tryz.prog 71 #[.slice (some ⟨g, 0, none⟩) L.length c] w fun e w' => ∃ A' c', e = .returned (.tuple #[.slice A' (if codeS L = 0 then L else []).length c', .int .i64 (codeS L)]) ∧ Rd w' 0 w'.heap.size 3 A' (if codeS L = 0 then L else []).length (cells3 (if codeS L = 0 then L else [])) ∧ Below w.heap.size w w' ∧ (codeS L = 0 → A' = some ⟨g, 0, none⟩) := by
  have HCK := Lib.hid (loadCheck_any (some ⟨g, 0, none⟩) c L w hr.rd hl)
  have HR := Lib.hid hr
  have HCL := Lib.hid (fun W => clipStg_any (some ⟨g, 0, none⟩) L.length c W hc)
  obtain ⟨cc, hcc⟩ : ∃ cc, cc = codeS L := ⟨_, rfl⟩
  rw [← hcc] at HCK ⊢
  clear hr hcc
  by_cases hz : cc = 0
  · rw [if_pos hz]
    subst hz
    go_enter Tryz.func71, Tryz.ntmps71
    go_wp2_with fail
    refine HCK.out.mono ?_
    rintro e w1 ⟨rfl, hb1⟩
    have HB1 := Lib.hid hb1
    clear hb1
    go_wp2_with fail
    refine (HCL.out _).mono ?_
    rintro e w2 ⟨rfl, rfl⟩
    go_wp2
    go_ret2
    exact ⟨some ⟨g, 0, none⟩, L.length, rfl, (HR.out.on HB1.out).rd, HB1.out, fun _ => rfl⟩
  · have tz : (cc != 0) = true := by simpa using hz
    rw [if_neg hz]
    go_enter Tryz.func71, Tryz.ntmps71
    go_wp2_with fail
    refine HCK.out.mono ?_
    rintro e w1 ⟨rfl, hb1⟩
    go_wp2
    go_ret2
    exact ⟨none, 0, rfl, Rd.nil, hb1, fun h => absurd h hz⟩
theorem mix_set {g : Int × Int × Int → Int × Int × Int} {l : List (Int × Int × Int)} {i : Nat} {s : Int × Int × Int} (h : l[i]? = some s) : ((l.take i).map g ++ l.drop i).set i (g s) = (l.take (i + 1)).map g ++ l.drop (i + 1) := by
  have hi := (List.getElem?_eq_some_iff.1 h).1
  have e : l[i] = s := by rw [List.getElem?_eq_getElem hi] at h; exact Option.some.inj h
  have hl : ((l.take i).map g).length = i := by simp; omega
  rw [List.set_append_right _ _ (by omega), hl, Nat.sub_self, show l.drop i = s :: l.drop (i + 1) from by rw [List.drop_eq_getElem_cons hi, e], map_snoc h]
  simp
theorem mix_get {g : Int × Int × Int → Int × Int × Int} {l : List (Int × Int × Int)} {i : Nat} {s : Int × Int × Int} (h : l[i]? = some s) : ((l.take i).map g ++ l.drop i)[i]? = some s := by
  have hi := (List.getElem?_eq_some_iff.1 h).1
  have hl : ((l.take i).map g).length = i := by simp; omega
  rw [List.getElem?_append_right (by omega), hl, Nat.sub_self, List.getElem?_drop]
  exact h
theorem mix_length {g : Int × Int × Int → Int × Int × Int} {l : List (Int × Int × Int)} {i : Nat} : ((l.take i).map g ++ l.drop i).length = l.length := by
  simp; omega

set_option maxHeartbeats 1000000 in
set_option maxRecDepth 100000 in
theorem str_cl (F x y k : Int) (B : Nat) (w : World) (hB : w.cell? ⟨B, 0, none⟩ = some (.int .i64 k)) (hk : ¬ (k < 1 ∨ 1000 < k)) (hS : OkS (F, x, y)) :
    Calls Tryz.prog 81 #[.agg #[.int .i64 F, .int .i64 x, .int .i64 y], .pointer (some ⟨B, 0, none⟩)] w fun e w' => e = .returned (.agg #[.int .i64 (F * k), .int .i64 x, .int .i64 y]) ∧ Below w.heap.size w w' := by
  obtain ⟨m1, m2, m3, m4, m5, m6⟩ := hS
  simp only at m1 m2 m3 m4 m5 m6
  have hBl := World.block_lt_of_cell? w _ hB
  obtain ⟨kf, hkf⟩ : ∃ z, z = F * k := ⟨_, rfl⟩
  have hkf0 : 0 ≤ kf := by rw [hkf]; exact Int.mul_nonneg (by omega) (by omega)
  have hkf1 : kf ≤ 100000000000000 := by
    have h1 : F * k ≤ F * 1000 := Int.mul_le_mul_of_nonneg_left (by omega) (by omega)
    omega
  have hkfm : F * k = kf := hkf.symm
  have hkfw : wrap64 kf = kf := IntWalk.wrap64_in _ (by omega)
  have hkfu : IntKind.i64.wrap kf = kf := IntWalk.i64_in _ (by omega)
  have hkfv : IntKind.i64.wrap (F * k) = kf := by rw [hkfm]; exact IntWalk.i64_in _ (by omega)
  rw [hkfm]
  clear hkf
  go_enter Tryz.func81, Tryz.ntmps81
  go_wp2
  refine bodyPost_ret (v := .agg #[.int .i64 kf, .int .i64 x, .int .i64 y]) (by simp [results, Tryz.results81, go_sem]) rfl ⟨rfl, ((Below.refl _ w).alloc (Nat.le_refl _) _).alloc (by simp) _⟩

set_option maxHeartbeats 1000000 in
set_option maxRecDepth 100000 in
theorem tim_cl (F x y k : Int) (B : Nat) (w : World) (hB : w.cell? ⟨B, 0, none⟩ = some (.int .i64 k)) (hk : ¬ (k < 1 ∨ 1000 < k)) (hS : OkS (F, x, y)) :
    Calls Tryz.prog 83 #[.agg #[.int .i64 F, .int .i64 x, .int .i64 y], .pointer (some ⟨B, 0, none⟩)] w fun e w' => e = .returned (.agg #[.int .i64 F, .int .i64 (x * k), .int .i64 (y * k)]) ∧ Below w.heap.size w w' := by
  obtain ⟨m1, m2, m3, m4, m5, m6⟩ := hS
  simp only at m1 m2 m3 m4 m5 m6
  have hBl := World.block_lt_of_cell? w _ hB
  obtain ⟨kx, hkx⟩ : ∃ z, z = x * k := ⟨_, rfl⟩
  have hkx0 : 0 ≤ kx := by rw [hkx]; exact Int.mul_nonneg (by omega) (by omega)
  have hkx1 : kx ≤ 1000000000000 := by
    have h1 : x * k ≤ x * 1000 := Int.mul_le_mul_of_nonneg_left (by omega) (by omega)
    omega
  have hkxm : x * k = kx := hkx.symm
  have hkxw : wrap64 kx = kx := IntWalk.wrap64_in _ (by omega)
  have hkxu : IntKind.i64.wrap kx = kx := IntWalk.i64_in _ (by omega)
  have hkxv : IntKind.i64.wrap (x * k) = kx := by rw [hkxm]; exact IntWalk.i64_in _ (by omega)
  rw [hkxm]
  clear hkx
  obtain ⟨ky, hky⟩ : ∃ z, z = y * k := ⟨_, rfl⟩
  have hky0 : 0 ≤ ky := by rw [hky]; exact Int.mul_nonneg (by omega) (by omega)
  have hky1 : ky ≤ 1000000000000 := by
    have h1 : y * k ≤ y * 1000 := Int.mul_le_mul_of_nonneg_left (by omega) (by omega)
    omega
  have hkym : y * k = ky := hky.symm
  have hkyw : wrap64 ky = ky := IntWalk.wrap64_in _ (by omega)
  have hkyu : IntKind.i64.wrap ky = ky := IntWalk.i64_in _ (by omega)
  have hkyv : IntKind.i64.wrap (y * k) = ky := by rw [hkym]; exact IntWalk.i64_in _ (by omega)
  rw [hkym]
  clear hky
  go_enter Tryz.func83, Tryz.ntmps83
  go_wp2
  refine bodyPost_ret (v := .agg #[.int .i64 F, .int .i64 kx, .int .i64 ky]) (by simp [results, Tryz.results83, go_sem]) rfl ⟨rfl, ((Below.refl _ w).alloc (Nat.le_refl _) _).alloc (by simp) _⟩

set_option maxHeartbeats 1000000 in
set_option maxRecDepth 100000 in
theorem rev_cl (F x y : Int) (w : World) (hS : OkS (F, x, y)) :
    Calls Tryz.prog 84 #[.agg #[.int .i64 F, .int .i64 x, .int .i64 y]] w fun e w' => e = .returned (.agg #[.int .i64 F, .int .i64 y, .int .i64 x]) ∧ Below w.heap.size w w' := by
  obtain ⟨m1, m2, m3, m4, m5, m6⟩ := hS
  simp only at m1 m2 m3 m4 m5 m6
  go_enter Tryz.func84, Tryz.ntmps84
  go_wp2
  refine bodyPost_ret (v := .agg #[.int .i64 F, .int .i64 y, .int .i64 x]) (by simp [results, Tryz.results84, go_sem]) rfl ⟨rfl, ((Below.refl _ w).alloc (Nat.le_refl _) _).alloc (by simp) _⟩

set_option maxHeartbeats 4000000 in
set_option maxRecDepth 100000 in
theorem changed_str (A : Option Addr) (c : Nat) (l : List (Int × Int × Int)) (k : Int) (B : Nat) (w : World) (hr : Rd w 0 w.heap.size 3 A l.length (cells3 l)) (hl : l.length ≤ 9223372036854775807) (hB : w.cell? ⟨B, 0, none⟩ = some (.int .i64 k)) :
    Calls Tryz.prog 80 #[.slice A l.length c, .int .i64 k, .func (.func 81) #[] #[.pointer (some ⟨B, 0, none⟩)]] w fun e w' => ∃ A' c', e = .returned (.tuple #[.slice A' (chgL k l (l.map (strS k))).length c', .int .i64 (chgC k l (l.map (strS k)))]) ∧ Rd w' 0 w'.heap.size 3 A' (chgL k l (l.map (strS k))).length (cells3 (chgL k l (l.map (strS k)))) ∧ Below w.heap.size w w' := by
  have HCK := Lib.hid (loadCheck_any A c l w hr hl)
  have HR := Lib.hid hr
  have hBl := World.block_lt_of_cell? w _ hB
  clear hr
  rcases Classical.em (codeS l = 0) with hc | hc
  rotate_left
  · have hg := chg_bad (k := k) (l' := l.map (strS k)) hc
    have HGC := Lib.hid hg.1
    have HGL := Lib.hid hg.2
    obtain ⟨cc, hcc⟩ : ∃ cc, cc = codeS l := ⟨_, rfl⟩
    rw [← hcc] at HCK HGC hc
    have t1 : (cc != 0) = true := by simpa using hc
    clear hcc hg
    go_enter Tryz.func80, Tryz.ntmps80
    go_wp2_with fail
    refine HCK.out.mono ?_
    rintro e w1 ⟨rfl, hb1⟩
    go_wp2
    go_ret2
    exact ⟨none, 0, by rw [HGC.out, HGL.out]; rfl, by rw [HGL.out]; exact Rd.nil, hb1⟩
  have hok := codeS_ok hc
  have hn := hok.le
  have hn0 := hok.ne
  have HOK := Lib.hid hok.ok
  rw [hc] at HCK
  by_cases hk : k < 1 ∨ 1000 < k
  · have hg := chg_rng (l' := l.map (strS k)) hc hk
    have HGC := Lib.hid hg.1
    have HGL := Lib.hid hg.2
    clear hok hc hg
    by_cases hk1 : k < 1
    · have t1 : decide (k < 1) = true := by simpa using hk1
      go_enter Tryz.func80, Tryz.ntmps80
      go_wp2_with fail
      refine HCK.out.mono ?_
      rintro e w1 ⟨rfl, hb1⟩
      go_wp2
      go_ret2
      exact ⟨none, 0, by rw [HGC.out, HGL.out]; rfl, by rw [HGL.out]; exact Rd.nil, hb1⟩
    · have t1 : decide (k < 1) = false := by simpa using hk1
      have t2 : decide (1000 < k) = true := by simp; omega
      go_enter Tryz.func80, Tryz.ntmps80
      go_wp2_with fail
      refine HCK.out.mono ?_
      rintro e w1 ⟨rfl, hb1⟩
      go_wp2
      go_ret2
      exact ⟨none, 0, by rw [HGC.out, HGL.out]; rfl, by rw [HGL.out]; exact Rd.nil, hb1⟩
  · have t1 : decide (k < 1) = false := by simp; omega
    have t2 : decide (1000 < k) = false := by simp; omega
    have hg := chg_ok (k := k) (l' := l.map (strS k)) hc hk
    have HGC := Lib.hid hg.1
    have HGL := Lib.hid hg.2
    have HBB := Lib.hid (fun W (hW : Below w.heap.size w W) => (hW.cell (p := ⟨B, 0, none⟩) hBl).trans hB)
    have HCL := Lib.hid (fun (W : World) (s : Int × Int × Int) (hW : Below w.heap.size w W) (hS : OkS s) => str_cl s.1 s.2.1 s.2.2 k B W (((HBB.out W hW))) hk hS)
    have HCN := Lib.hid (fun W (hW : Below w.heap.size w W) => cloneStg_any A c l W (HR.out.old hW) (by omega) hn0)
    clear hok hc hg
    go_enter Tryz.func80, Tryz.ntmps80
    go_wp2_with fail
    refine HCK.out.mono ?_
    rintro e w1 ⟨rfl, hb1⟩
    have HB1 := Lib.hid hb1
    clear hb1
    go_wp2_with fail
    refine (HCN.out _ HB1.out).mono ?_
    rintro e w2 ⟨g, c2, rfl, hrow, hg1, hc2, hb2⟩
    have HROW := Lib.hid hrow
    have HB2 := Lib.hid hb2
    clear hrow hb2
    go_wp2_with fail
    go_loopw [10, 11, 27] (fun _ _ iv wr => ∃ i : Nat, iv = .int .i64 i ∧ i ≤ l.length ∧ RowS wr g ((l.take i).map (strS k) ++ l.drop i) ∧ Below w1.heap.size w1 wr) (fun _ _ iv _ => l.length - (intOf iv).toNat)
    case atStart => exact ⟨0, rfl, Nat.zero_le _, by simpa using HROW.out, HB2.out⟩
    case round =>
      obtain ⟨i, rfl, hi, hrw, hbw⟩ := hrel
      have HBW := Lib.hid hbw
      have HRW := Lib.hid hrw
      have hgl := hrw.lt
      by_cases hlt : i < l.length
      · obtain ⟨s, hs⟩ : ∃ s, l[i]? = some s := ⟨l[i]'(by omega), List.getElem?_eq_getElem (by omega)⟩
        have HSO := Lib.hid (HOK.out s (List.mem_of_getElem? hs))
        obtain ⟨k0, k1, k2⟩ := hrw.at (mix_get hs)
        have HMS := Lib.hid (mix_set (g := (strS k)) hs)
        have hml := mix_length (g := (strS k)) (l := l) (i := i)
        obtain ⟨W1, hW1⟩ : ∃ W1, W1 = wr.alloc (.cells #[.int .i64 s.1, .int .i64 s.2.1, .int .i64 s.2.2] 86) := ⟨_, rfl⟩
        have HBX := Lib.hid (show Below wr.heap.size wr W1 by rw [hW1]; exact (Below.refl _ _).alloc (Nat.le_refl _) _)
        have hat : W1.heap[wr.heap.size]? = some (.cells #[.int .i64 s.1, .int .i64 s.2.1, .int .i64 s.2.2] 86 (0, 0)) := by rw [hW1]; exact alloc_at _ _ _ rfl
        have j0 : W1.cell? ⟨wr.heap.size, 0, none⟩ = some (.int .i64 s.1) := by rw [cellsAt hat]; rfl
        have j1 : W1.cell? ⟨wr.heap.size, 1, none⟩ = some (.int .i64 s.2.1) := by rw [cellsAt hat]; rfl
        have j2 : W1.cell? ⟨wr.heap.size, 2, none⟩ = some (.int .i64 s.2.2) := by rw [cellsAt hat]; rfl
        have HCC := Lib.hid (HCL.out W1 s (below_next HB1.out (HBW.out.trans (HBX.out.mono HBW.out.size))) HSO.out)
        have hii1 : (i : Int) < (l.length : Int) := by omega
        have hii2 : (0 : Int) ≤ (i : Int) := by omega
        have HGT := Lib.hid (mix_get (g := (strS k)) hs)
        have HMV := Lib.hid (show (strS k) s = ((s.1 * k), s.2.1, s.2.2) from by unfold strS; rw [Int.mul_comm])
        clear hrw hbw hs hat
        go_upto_region 10 with fail
        rw [← hW1]
        clear hW1
        go_wp2_with fail
        (with_reducible refine HCC.out.mono ?_)
        rintro e w5 ⟨rfl, hb5⟩
        have hb15 : Below wr.heap.size wr w5 := below_next HBX.out hb5
        have hr5 := HRW.out.on hb15
        obtain ⟨y0, y1, y2⟩ := hr5.at HGT.out
        have z0 := hr5.frozen (i * 3)
        have z1 := hr5.frozen (i * 3 + 1)
        have z2 := hr5.frozen (i * 3 + 2)
        have hg5 := hr5.lt
        have HR5 := Lib.hid (hr5.set (by rw [hml]; exact hlt) ((s.1 * k), s.2.1, s.2.2))
        have HB5 := Lib.hid (HBW.out.trans (hb15.mono HBW.out.size))
        clear hb5 hb15 hr5 k0 k1 k2 j0 j1 j2
        go_wp2
        go_roundw
        case rel => exact ⟨i + 1, by go_num, by omega, by rw [← HMS.out, HMV.out]; exact HR5.out, ((HB5.out.setCell (p := ⟨g, i * 3, none⟩) hg1 _).setCell (p := ⟨g, i * 3 + 1, none⟩) hg1 _).setCell (p := ⟨g, i * 3 + 2, none⟩) hg1 _⟩
        case measure => simp [intOf]; omega
      · obtain rfl : i = l.length := by omega
        rw [List.take_of_length_le (Nat.le_refl _), List.drop_length, List.append_nil] at hrw
        have hlen : (l.map (strS k)).length = l.length := List.length_map _
        have hrd := hrw.rd
        have HCH := Lib.hid (checked_any (some ⟨g, 0, none⟩) c2 (l.map (strS k)) wr hrd (by rw [hlen]; omega) (by rw [hlen]; exact hc2))
        rw [hlen, ← HGL.out, ← HGC.out] at HCH
        have HBE := Lib.hid (HB1.out.trans (hbw.mono HB1.out.size))
        clear hrw hbw hrd hlen
        go_wp2_with fail
        (with_reducible refine HCH.out.mono ?_)
        rintro e w8 ⟨A8, c8, rfl, hr8, hb8⟩
        have HR8 := Lib.hid hr8
        have HB8 := Lib.hid (below_next HBE.out hb8)
        clear hr8 hb8
        go_wp2
        go_ret2
        exact ⟨A8, c8, rfl, HR8.out, HB8.out⟩

set_option maxHeartbeats 4000000 in
set_option maxRecDepth 100000 in
theorem changed_tim (A : Option Addr) (c : Nat) (l : List (Int × Int × Int)) (k : Int) (B : Nat) (w : World) (hr : Rd w 0 w.heap.size 3 A l.length (cells3 l)) (hl : l.length ≤ 9223372036854775807) (hB : w.cell? ⟨B, 0, none⟩ = some (.int .i64 k)) :
    Calls Tryz.prog 80 #[.slice A l.length c, .int .i64 k, .func (.func 83) #[] #[.pointer (some ⟨B, 0, none⟩)]] w fun e w' => ∃ A' c', e = .returned (.tuple #[.slice A' (chgL k l (l.map (timS k))).length c', .int .i64 (chgC k l (l.map (timS k)))]) ∧ Rd w' 0 w'.heap.size 3 A' (chgL k l (l.map (timS k))).length (cells3 (chgL k l (l.map (timS k)))) ∧ Below w.heap.size w w' := by
  have HCK := Lib.hid (loadCheck_any A c l w hr hl)
  have HR := Lib.hid hr
  have hBl := World.block_lt_of_cell? w _ hB
  clear hr
  rcases Classical.em (codeS l = 0) with hc | hc
  rotate_left
  · have hg := chg_bad (k := k) (l' := l.map (timS k)) hc
    have HGC := Lib.hid hg.1
    have HGL := Lib.hid hg.2
    obtain ⟨cc, hcc⟩ : ∃ cc, cc = codeS l := ⟨_, rfl⟩
    rw [← hcc] at HCK HGC hc
    have t1 : (cc != 0) = true := by simpa using hc
    clear hcc hg
    go_enter Tryz.func80, Tryz.ntmps80
    go_wp2_with fail
    refine HCK.out.mono ?_
    rintro e w1 ⟨rfl, hb1⟩
    go_wp2
    go_ret2
    exact ⟨none, 0, by rw [HGC.out, HGL.out]; rfl, by rw [HGL.out]; exact Rd.nil, hb1⟩
  have hok := codeS_ok hc
  have hn := hok.le
  have hn0 := hok.ne
  have HOK := Lib.hid hok.ok
  rw [hc] at HCK
  by_cases hk : k < 1 ∨ 1000 < k
  · have hg := chg_rng (l' := l.map (timS k)) hc hk
    have HGC := Lib.hid hg.1
    have HGL := Lib.hid hg.2
    clear hok hc hg
    by_cases hk1 : k < 1
    · have t1 : decide (k < 1) = true := by simpa using hk1
      go_enter Tryz.func80, Tryz.ntmps80
      go_wp2_with fail
      refine HCK.out.mono ?_
      rintro e w1 ⟨rfl, hb1⟩
      go_wp2
      go_ret2
      exact ⟨none, 0, by rw [HGC.out, HGL.out]; rfl, by rw [HGL.out]; exact Rd.nil, hb1⟩
    · have t1 : decide (k < 1) = false := by simpa using hk1
      have t2 : decide (1000 < k) = true := by simp; omega
      go_enter Tryz.func80, Tryz.ntmps80
      go_wp2_with fail
      refine HCK.out.mono ?_
      rintro e w1 ⟨rfl, hb1⟩
      go_wp2
      go_ret2
      exact ⟨none, 0, by rw [HGC.out, HGL.out]; rfl, by rw [HGL.out]; exact Rd.nil, hb1⟩
  · have t1 : decide (k < 1) = false := by simp; omega
    have t2 : decide (1000 < k) = false := by simp; omega
    have hg := chg_ok (k := k) (l' := l.map (timS k)) hc hk
    have HGC := Lib.hid hg.1
    have HGL := Lib.hid hg.2
    have HBB := Lib.hid (fun W (hW : Below w.heap.size w W) => (hW.cell (p := ⟨B, 0, none⟩) hBl).trans hB)
    have HCL := Lib.hid (fun (W : World) (s : Int × Int × Int) (hW : Below w.heap.size w W) (hS : OkS s) => tim_cl s.1 s.2.1 s.2.2 k B W (((HBB.out W hW))) hk hS)
    have HCN := Lib.hid (fun W (hW : Below w.heap.size w W) => cloneStg_any A c l W (HR.out.old hW) (by omega) hn0)
    clear hok hc hg
    go_enter Tryz.func80, Tryz.ntmps80
    go_wp2_with fail
    refine HCK.out.mono ?_
    rintro e w1 ⟨rfl, hb1⟩
    have HB1 := Lib.hid hb1
    clear hb1
    go_wp2_with fail
    refine (HCN.out _ HB1.out).mono ?_
    rintro e w2 ⟨g, c2, rfl, hrow, hg1, hc2, hb2⟩
    have HROW := Lib.hid hrow
    have HB2 := Lib.hid hb2
    clear hrow hb2
    go_wp2_with fail
    go_loopw [10, 11, 27] (fun _ _ iv wr => ∃ i : Nat, iv = .int .i64 i ∧ i ≤ l.length ∧ RowS wr g ((l.take i).map (timS k) ++ l.drop i) ∧ Below w1.heap.size w1 wr) (fun _ _ iv _ => l.length - (intOf iv).toNat)
    case atStart => exact ⟨0, rfl, Nat.zero_le _, by simpa using HROW.out, HB2.out⟩
    case round =>
      obtain ⟨i, rfl, hi, hrw, hbw⟩ := hrel
      have HBW := Lib.hid hbw
      have HRW := Lib.hid hrw
      have hgl := hrw.lt
      by_cases hlt : i < l.length
      · obtain ⟨s, hs⟩ : ∃ s, l[i]? = some s := ⟨l[i]'(by omega), List.getElem?_eq_getElem (by omega)⟩
        have HSO := Lib.hid (HOK.out s (List.mem_of_getElem? hs))
        obtain ⟨k0, k1, k2⟩ := hrw.at (mix_get hs)
        have HMS := Lib.hid (mix_set (g := (timS k)) hs)
        have hml := mix_length (g := (timS k)) (l := l) (i := i)
        obtain ⟨W1, hW1⟩ : ∃ W1, W1 = wr.alloc (.cells #[.int .i64 s.1, .int .i64 s.2.1, .int .i64 s.2.2] 86) := ⟨_, rfl⟩
        have HBX := Lib.hid (show Below wr.heap.size wr W1 by rw [hW1]; exact (Below.refl _ _).alloc (Nat.le_refl _) _)
        have hat : W1.heap[wr.heap.size]? = some (.cells #[.int .i64 s.1, .int .i64 s.2.1, .int .i64 s.2.2] 86 (0, 0)) := by rw [hW1]; exact alloc_at _ _ _ rfl
        have j0 : W1.cell? ⟨wr.heap.size, 0, none⟩ = some (.int .i64 s.1) := by rw [cellsAt hat]; rfl
        have j1 : W1.cell? ⟨wr.heap.size, 1, none⟩ = some (.int .i64 s.2.1) := by rw [cellsAt hat]; rfl
        have j2 : W1.cell? ⟨wr.heap.size, 2, none⟩ = some (.int .i64 s.2.2) := by rw [cellsAt hat]; rfl
        have HCC := Lib.hid (HCL.out W1 s (below_next HB1.out (HBW.out.trans (HBX.out.mono HBW.out.size))) HSO.out)
        have hii1 : (i : Int) < (l.length : Int) := by omega
        have hii2 : (0 : Int) ≤ (i : Int) := by omega
        have HGT := Lib.hid (mix_get (g := (timS k)) hs)
        have HMV := Lib.hid (show (timS k) s = (s.1, (s.2.1 * k), (s.2.2 * k)) from by unfold timS; rw [Int.mul_comm k, Int.mul_comm k])
        clear hrw hbw hs hat
        go_upto_region 10 with fail
        rw [← hW1]
        clear hW1
        go_wp2_with fail
        (with_reducible refine HCC.out.mono ?_)
        rintro e w5 ⟨rfl, hb5⟩
        have hb15 : Below wr.heap.size wr w5 := below_next HBX.out hb5
        have hr5 := HRW.out.on hb15
        obtain ⟨y0, y1, y2⟩ := hr5.at HGT.out
        have z0 := hr5.frozen (i * 3)
        have z1 := hr5.frozen (i * 3 + 1)
        have z2 := hr5.frozen (i * 3 + 2)
        have hg5 := hr5.lt
        have HR5 := Lib.hid (hr5.set (by rw [hml]; exact hlt) (s.1, (s.2.1 * k), (s.2.2 * k)))
        have HB5 := Lib.hid (HBW.out.trans (hb15.mono HBW.out.size))
        clear hb5 hb15 hr5 k0 k1 k2 j0 j1 j2
        go_wp2
        go_roundw
        case rel => exact ⟨i + 1, by go_num, by omega, by rw [← HMS.out, HMV.out]; exact HR5.out, ((HB5.out.setCell (p := ⟨g, i * 3, none⟩) hg1 _).setCell (p := ⟨g, i * 3 + 1, none⟩) hg1 _).setCell (p := ⟨g, i * 3 + 2, none⟩) hg1 _⟩
        case measure => simp [intOf]; omega
      · obtain rfl : i = l.length := by omega
        rw [List.take_of_length_le (Nat.le_refl _), List.drop_length, List.append_nil] at hrw
        have hlen : (l.map (timS k)).length = l.length := List.length_map _
        have hrd := hrw.rd
        have HCH := Lib.hid (checked_any (some ⟨g, 0, none⟩) c2 (l.map (timS k)) wr hrd (by rw [hlen]; omega) (by rw [hlen]; exact hc2))
        rw [hlen, ← HGL.out, ← HGC.out] at HCH
        have HBE := Lib.hid (HB1.out.trans (hbw.mono HB1.out.size))
        clear hrw hbw hrd hlen
        go_wp2_with fail
        (with_reducible refine HCH.out.mono ?_)
        rintro e w8 ⟨A8, c8, rfl, hr8, hb8⟩
        have HR8 := Lib.hid hr8
        have HB8 := Lib.hid (below_next HBE.out hb8)
        clear hr8 hb8
        go_wp2
        go_ret2
        exact ⟨A8, c8, rfl, HR8.out, HB8.out⟩

set_option maxHeartbeats 4000000 in
set_option maxRecDepth 100000 in
theorem changed_rev (A : Option Addr) (c : Nat) (l : List (Int × Int × Int)) (w : World) (hr : Rd w 0 w.heap.size 3 A l.length (cells3 l)) (hl : l.length ≤ 9223372036854775807) :
    Calls Tryz.prog 80 #[.slice A l.length c, .int .i64 1, .func (.func 84) #[] #[]] w fun e w' => ∃ A' c', e = .returned (.tuple #[.slice A' (chgL 1 l (l.map swpS)).length c', .int .i64 (chgC 1 l (l.map swpS))]) ∧ Rd w' 0 w'.heap.size 3 A' (chgL 1 l (l.map swpS)).length (cells3 (chgL 1 l (l.map swpS))) ∧ Below w.heap.size w w' ∧ (chgC 1 l (l.map swpS) = 0 → ∃ g, A' = some ⟨g, 0, none⟩ ∧ w.heap.size ≤ g ∧ RowS w' g (l.map swpS)) := by
  have HCK := Lib.hid (loadCheck_any A c l w hr hl)
  have HR := Lib.hid hr
  clear hr
  rcases Classical.em (codeS l = 0) with hc | hc
  rotate_left
  · have hg := chg_bad (k := 1) (l' := l.map swpS) hc
    have HGC := Lib.hid hg.1
    have HGL := Lib.hid hg.2
    obtain ⟨cc, hcc⟩ : ∃ cc, cc = codeS l := ⟨_, rfl⟩
    rw [← hcc] at HCK HGC hc
    have t1 : (cc != 0) = true := by simpa using hc
    clear hcc hg
    go_enter Tryz.func80, Tryz.ntmps80
    go_wp2_with fail
    refine HCK.out.mono ?_
    rintro e w1 ⟨rfl, hb1⟩
    go_wp2
    go_ret2
    exact ⟨none, 0, by rw [HGC.out, HGL.out]; rfl, by rw [HGL.out]; exact Rd.nil, hb1, fun h => absurd (HGC.out.symm.trans h) hc⟩
  have hok := codeS_ok hc
  have hn := hok.le
  have hn0 := hok.ne
  have HOK := Lib.hid hok.ok
  rw [hc] at HCK
  · have hk : ¬ ((1 : Int) < 1 ∨ 1000 < (1 : Int)) := by omega
    have hg := chg_ok (k := 1) (l' := l.map swpS) hc hk
    have HGC := Lib.hid hg.1
    have HGL := Lib.hid hg.2
    have HCL := Lib.hid (fun (W : World) (s : Int × Int × Int) (hW : Below w.heap.size w W) (hS : OkS s) => rev_cl s.1 s.2.1 s.2.2 W hS)
    have HCN := Lib.hid (fun W (hW : Below w.heap.size w W) => cloneStg_any A c l W (HR.out.old hW) (by omega) hn0)
    clear hok hc hg
    go_enter Tryz.func80, Tryz.ntmps80
    go_wp2_with fail
    refine HCK.out.mono ?_
    rintro e w1 ⟨rfl, hb1⟩
    have HB1 := Lib.hid hb1
    clear hb1
    go_wp2_with fail
    refine (HCN.out _ HB1.out).mono ?_
    rintro e w2 ⟨g, c2, rfl, hrow, hg1, hc2, hb2⟩
    have HROW := Lib.hid hrow
    have HB2 := Lib.hid hb2
    clear hrow hb2
    go_wp2_with fail
    go_loopw [10, 11, 27] (fun _ _ iv wr => ∃ i : Nat, iv = .int .i64 i ∧ i ≤ l.length ∧ RowS wr g ((l.take i).map swpS ++ l.drop i) ∧ Below w1.heap.size w1 wr) (fun _ _ iv _ => l.length - (intOf iv).toNat)
    case atStart => exact ⟨0, rfl, Nat.zero_le _, by simpa using HROW.out, HB2.out⟩
    case round =>
      obtain ⟨i, rfl, hi, hrw, hbw⟩ := hrel
      have HBW := Lib.hid hbw
      have HRW := Lib.hid hrw
      have hgl := hrw.lt
      by_cases hlt : i < l.length
      · obtain ⟨s, hs⟩ : ∃ s, l[i]? = some s := ⟨l[i]'(by omega), List.getElem?_eq_getElem (by omega)⟩
        have HSO := Lib.hid (HOK.out s (List.mem_of_getElem? hs))
        obtain ⟨k0, k1, k2⟩ := hrw.at (mix_get hs)
        have HMS := Lib.hid (mix_set (g := swpS) hs)
        have hml := mix_length (g := swpS) (l := l) (i := i)
        obtain ⟨W1, hW1⟩ : ∃ W1, W1 = wr.alloc (.cells #[.int .i64 s.1, .int .i64 s.2.1, .int .i64 s.2.2] 86) := ⟨_, rfl⟩
        have HBX := Lib.hid (show Below wr.heap.size wr W1 by rw [hW1]; exact (Below.refl _ _).alloc (Nat.le_refl _) _)
        have hat : W1.heap[wr.heap.size]? = some (.cells #[.int .i64 s.1, .int .i64 s.2.1, .int .i64 s.2.2] 86 (0, 0)) := by rw [hW1]; exact alloc_at _ _ _ rfl
        have j0 : W1.cell? ⟨wr.heap.size, 0, none⟩ = some (.int .i64 s.1) := by rw [cellsAt hat]; rfl
        have j1 : W1.cell? ⟨wr.heap.size, 1, none⟩ = some (.int .i64 s.2.1) := by rw [cellsAt hat]; rfl
        have j2 : W1.cell? ⟨wr.heap.size, 2, none⟩ = some (.int .i64 s.2.2) := by rw [cellsAt hat]; rfl
        have HCC := Lib.hid (HCL.out W1 s (below_next HB1.out (HBW.out.trans (HBX.out.mono HBW.out.size))) HSO.out)
        have hii1 : (i : Int) < (l.length : Int) := by omega
        have hii2 : (0 : Int) ≤ (i : Int) := by omega
        have HGT := Lib.hid (mix_get (g := swpS) hs)
        have HMV := Lib.hid (show swpS s = (s.1, s.2.2, s.2.1) from rfl)
        clear hrw hbw hs hat
        go_upto_region 10 with fail
        rw [← hW1]
        clear hW1
        go_wp2_with fail
        (with_reducible refine HCC.out.mono ?_)
        rintro e w5 ⟨rfl, hb5⟩
        have hb15 : Below wr.heap.size wr w5 := below_next HBX.out hb5
        have hr5 := HRW.out.on hb15
        obtain ⟨y0, y1, y2⟩ := hr5.at HGT.out
        have z0 := hr5.frozen (i * 3)
        have z1 := hr5.frozen (i * 3 + 1)
        have z2 := hr5.frozen (i * 3 + 2)
        have hg5 := hr5.lt
        have HR5 := Lib.hid (hr5.set (by rw [hml]; exact hlt) (s.1, s.2.2, s.2.1))
        have HB5 := Lib.hid (HBW.out.trans (hb15.mono HBW.out.size))
        clear hb5 hb15 hr5 k0 k1 k2 j0 j1 j2
        go_wp2
        go_roundw
        case rel => exact ⟨i + 1, by go_num, by omega, by rw [← HMS.out, HMV.out]; exact HR5.out, ((HB5.out.setCell (p := ⟨g, i * 3, none⟩) hg1 _).setCell (p := ⟨g, i * 3 + 1, none⟩) hg1 _).setCell (p := ⟨g, i * 3 + 2, none⟩) hg1 _⟩
        case measure => simp [intOf]; omega
      · obtain rfl : i = l.length := by omega
        rw [List.take_of_length_le (Nat.le_refl _), List.drop_length, List.append_nil] at hrw
        have hlen : (l.map swpS).length = l.length := List.length_map _
        have hrd := hrw.rd
        have HCH := Lib.hid (checkedRow_any g c2 (l.map swpS) wr hrw (by rw [hlen]; omega) (by rw [hlen]; exact hc2))
        rw [hlen, ← HGL.out, ← HGC.out] at HCH
        have HRWL := Lib.hid hrw
        have HG1 := Lib.hid (Nat.le_trans HB1.out.size hg1)
        have HBE := Lib.hid (HB1.out.trans (hbw.mono HB1.out.size))
        clear hrw hbw hrd hlen
        go_wp2_with fail
        (with_reducible refine HCH.out.mono ?_)
        rintro e w8 ⟨A8, c8, rfl, hr8, hb8, hg8⟩
        have HG8 := Lib.hid hg8
        have HR9 := Lib.hid (HRWL.out.on hb8)
        clear hg8
        have HR8 := Lib.hid hr8
        have HB8 := Lib.hid (below_next HBE.out hb8)
        clear hr8 hb8
        go_wp2
        go_ret2
        exact ⟨A8, c8, rfl, HR8.out, HB8.out, fun h => ⟨g, HG8.out h, HG1.out, HR9.out⟩⟩
end Go.Proofs.YtepfmoaihhonlaaGreatDoor

/- Package load: Stretch, Times. -/
namespace Go.Proofs.YtepfmoaihhonlaaGreatDoor
open Go Go.RowKit Go.Proofs

set_option maxHeartbeats 1000000 in
set_option maxRecDepth 100000 in
theorem stretch_any (A : Option Addr) (c : Nat) (l : List (Int × Int × Int)) (k : Int) (w : World) (hr : Rd w 0 w.heap.size 3 A l.length (cells3 l)) (hl : l.length ≤ 9223372036854775807) :
    Calls Tryz.prog 24 #[.slice A l.length c, .int .i64 k] w fun e w' => ∃ A' c', e = .returned (.tuple #[.slice A' (chgL k l (l.map (strS k))).length c', .int .i64 (chgC k l (l.map (strS k)))]) ∧ Rd w' 0 w'.heap.size 3 A' (chgL k l (l.map (strS k))).length (cells3 (chgL k l (l.map (strS k)))) ∧ Below w.heap.size w w' := by
  obtain ⟨W0, hW0⟩ : ∃ W0, W0 = w.alloc (.cells #[.int .i64 k] 3) := ⟨_, rfl⟩
  have hb0 : Below w.heap.size w W0 := by rw [hW0]; exact (Below.refl _ w).alloc (Nat.le_refl _) _
  have hx0 : W0.heap[w.heap.size]? = some (.cells #[.int .i64 k] 3 (0, 0)) := by rw [hW0]; exact alloc_at _ _ _ rfl
  have k1 : W0.cell? ⟨w.heap.size, 0, none⟩ = some (.int .i64 k) := by rw [cellsAt hx0]; rfl
  have HC := Lib.hid (changed_str A c l k w.heap.size W0 (hr.old hb0) hl k1)
  have HB0 := Lib.hid hb0
  clear hr hb0 hx0
  go_enter Tryz.func24, Tryz.ntmps24
  go_upto_region 1 with fail
  rw [← hW0]
  clear hW0
  go_wp2_with fail
  refine HC.out.mono ?_
  rintro e w1 ⟨A1, c1, rfl, hr1, hb1⟩
  have HR1 := Lib.hid hr1
  have HB1 := Lib.hid (below_next HB0.out hb1)
  clear hr1 hb1
  go_wp2
  go_ret2
  exact ⟨A1, c1, rfl, HR1.out, HB1.out⟩
set_option maxHeartbeats 1000000 in
set_option maxRecDepth 100000 in
theorem timesPub_any (A : Option Addr) (c : Nat) (l : List (Int × Int × Int)) (k : Int) (w : World) (hr : Rd w 0 w.heap.size 3 A l.length (cells3 l)) (hl : l.length ≤ 9223372036854775807) :
    Calls Tryz.prog 27 #[.slice A l.length c, .int .i64 k] w fun e w' => ∃ A' c', e = .returned (.tuple #[.slice A' (chgL k l (l.map (timS k))).length c', .int .i64 (chgC k l (l.map (timS k)))]) ∧ Rd w' 0 w'.heap.size 3 A' (chgL k l (l.map (timS k))).length (cells3 (chgL k l (l.map (timS k)))) ∧ Below w.heap.size w w' := by
  obtain ⟨W0, hW0⟩ : ∃ W0, W0 = w.alloc (.cells #[.int .i64 k] 3) := ⟨_, rfl⟩
  have hb0 : Below w.heap.size w W0 := by rw [hW0]; exact (Below.refl _ w).alloc (Nat.le_refl _) _
  have hx0 : W0.heap[w.heap.size]? = some (.cells #[.int .i64 k] 3 (0, 0)) := by rw [hW0]; exact alloc_at _ _ _ rfl
  have k1 : W0.cell? ⟨w.heap.size, 0, none⟩ = some (.int .i64 k) := by rw [cellsAt hx0]; rfl
  have HC := Lib.hid (changed_tim A c l k w.heap.size W0 (hr.old hb0) hl k1)
  have HB0 := Lib.hid hb0
  clear hr hb0 hx0
  go_enter Tryz.func27, Tryz.ntmps27
  go_upto_region 1 with fail
  rw [← hW0]
  clear hW0
  go_wp2_with fail
  refine HC.out.mono ?_
  rintro e w1 ⟨A1, c1, rfl, hr1, hb1⟩
  have HR1 := Lib.hid hr1
  have HB1 := Lib.hid (below_next HB0.out hb1)
  clear hr1 hb1
  go_wp2
  go_ret2
  exact ⟨A1, c1, rfl, HR1.out, HB1.out⟩
end Go.Proofs.YtepfmoaihhonlaaGreatDoor

/- slices.Reverse at stages; load.Reverse. -/
namespace Go.Proofs.YtepfmoaihhonlaaGreatDoor
open Go Go.RowKit Go.Proofs

theorem swp_code {l : List (Int × Int × Int)} (h : codeS l = 0) : codeS (l.map swpS) = 0 := by
  have hok := codeS_ok h
  refine OkL.code ⟨by rw [List.length_map]; exact hok.ne, by rw [List.length_map]; exact hok.le, fun s hs => ?_, ?_⟩
  · obtain ⟨q, hq, rfl⟩ := List.mem_map.1 hs
    have := hok.ok q hq
    unfold OkS at *
    simp only [swpS]; omega
  · have e : lenS (l.map swpS) = lenS l := by unfold lenS; rw [List.map_map]; rfl
    rw [e]; exact hok.sum
/-- m elements of each end exchanged -/
def Half (L R : List (Int × Int × Int)) (m : Nat) : Prop := R.length = L.length ∧ ∀ p, p < L.length → R[p]? = if p < m ∨ L.length ≤ p + m then L[L.length - 1 - p]? else L[p]?
theorem half_zero (L : List (Int × Int × Int)) : Half L L 0 := ⟨rfl, fun p hp => by rw [if_neg (by omega)]⟩
theorem half_step {L R : List (Int × Int × Int)} {m : Nat} (h : Half L R m) (hm : m + (m + 1) < L.length) {a b : Int × Int × Int} (ha : R[m]? = some a) (hb : R[L.length - 1 - m]? = some b) :
    Half L ((R.set m b).set (L.length - 1 - m) a) (m + 1) ∧ (R.set m b).set (L.length - 1 - m) a = (R.set (L.length - 1 - m) a).set m b := by
  obtain ⟨h1, h2⟩ := h
  refine ⟨⟨by simp [h1], fun p hp => ?_⟩, List.set_comm _ _ (by omega)⟩
  have e1 := h2 m (by omega)
  rw [if_neg (by omega), ha] at e1
  have e2 := h2 (L.length - 1 - m) (by omega)
  rw [if_neg (by omega), hb] at e2
  by_cases p1 : p = L.length - 1 - m
  · subst p1
    rw [List.getElem?_set_self (by simp; omega), if_pos (by omega), show L.length - 1 - (L.length - 1 - m) = m by omega, e1]
  · rw [List.getElem?_set_ne (by omega)]
    by_cases p2 : p = m
    · subst p2
      rw [List.getElem?_set_self (by omega), if_pos (by omega), e2]
    · rw [List.getElem?_set_ne (by omega), h2 p hp]
      by_cases p3 : p < m ∨ L.length ≤ p + m
      · rw [if_pos p3, if_pos (by omega)]
      · rw [if_neg p3, if_neg (by omega)]
theorem half_end {L R : List (Int × Int × Int)} {m : Nat} (h : Half L R m) (hm : L.length ≤ m + (m + 1)) : R = L.reverse := by
  obtain ⟨h1, h2⟩ := h
  apply List.ext_getElem?
  intro p
  by_cases hp : p < L.length
  · rw [h2 p hp, List.getElem?_reverse hp]
    by_cases p3 : p < m ∨ L.length ≤ p + m
    · rw [if_pos p3]
    · rw [if_neg p3]
      congr 1; omega
  · rw [List.getElem?_eq_none (by omega), List.getElem?_eq_none (by simp; omega)]

set_option maxHeartbeats 2000000 in
set_option maxRecDepth 100000 in
theorem revStg_any (g c : Nat) (L : List (Int × Int × Int)) (w : World) (hr : RowS w g L) (hn : L.length ≤ 1000000) :
    Calls Tryz.prog 85 #[.slice (some ⟨g, 0, none⟩) L.length c] w fun e w' => e = .returned (.tuple #[]) ∧ RowS w' g L.reverse ∧ Fr (fun i => i = g) w w' := by
  have HR := Lib.hid hr
  clear hr
  go_enter Tryz.func85, Tryz.ntmps85
  go_wp2_with fail
  go_loopw [2, 3] (fun iv jv wr => ∃ (m : Nat) (R : List (Int × Int × Int)), iv = .int .i64 m ∧ jv = .int .i64 ((L.length : Int) - 1 - m) ∧ m ≤ L.length ∧ Half L R m ∧ RowS wr g R ∧ Fr (fun i => i = g) w wr) (fun iv _ _ => L.length - (intOf iv).toNat)
  case atStart => exact ⟨0, L, rfl, by simp, Nat.zero_le _, half_zero L, HR.out, Fr.refl _ _⟩
  case round =>
    obtain ⟨m, R, rfl, rfl, hm, hh, hrow, hfr⟩ := hrel
    have HH := Lib.hid hh
    have HRW := Lib.hid hrow
    have HFR := Lib.hid hfr
    by_cases hlt : m + (m + 1) < L.length
    · obtain ⟨n, hne⟩ : ∃ n, n = L.length - 1 - m := ⟨_, rfl⟩
      have hnI : (L.length : Int) - 1 - m = (n : Int) := by omega
      rw [hnI]
      have HNI := Lib.hid hnI
      have hRl := hh.1
      obtain ⟨a, ha⟩ : ∃ a, R[m]? = some a := ⟨R[m]'(by omega), List.getElem?_eq_getElem (by omega)⟩
      obtain ⟨b, hb⟩ : ∃ b, R[n]? = some b := ⟨R[n]'(by omega), List.getElem?_eq_getElem (by omega)⟩
      have hst := half_step hh hlt ha (by rw [← hne]; exact hb)
      rw [← hne] at hst
      obtain ⟨a0, a1, a2⟩ := hrow.at ha
      obtain ⟨b0, b1, b2⟩ := hrow.at hb
      have z0 := hrow.frozen (m * 3)
      have z1 := hrow.frozen (m * 3 + 1)
      have z2 := hrow.frozen (m * 3 + 2)
      have y0 := hrow.frozen (n * 3)
      have y1 := hrow.frozen (n * 3 + 1)
      have y2 := hrow.frozen (n * 3 + 2)
      have tt : decide ((m : Int) < (n : Int)) = true := by simp; omega
      have i1 : (m : Int) < (L.length : Int) := by omega
      have i2 : (0 : Int) ≤ (m : Int) := by omega
      have i3 : (n : Int) < (L.length : Int) := by omega
      have i4 : (0 : Int) ≤ (n : Int) := by omega
      have hmn : m < n := by omega
      have HS1 := Lib.hid (show RowS (((((((wr.setCell ⟨g, m * 3, none⟩ (.int .i64 b.1)).setCell ⟨g, m * 3 + 1, none⟩ (.int .i64 b.2.1)).setCell ⟨g, m * 3 + 2, none⟩ (.int .i64 b.2.2)).setCell ⟨g, n * 3, none⟩ (.int .i64 a.1)).setCell ⟨g, n * 3 + 1, none⟩ (.int .i64 a.2.1)).setCell ⟨g, n * 3 + 2, none⟩ (.int .i64 a.2.2))) g ((R.set m b).set n a) from (HRW.out.set (by omega) b).set (by simp; omega) a)
      have HHN := Lib.hid hst
      clear hrow hfr hh ha hb hst hne hnI
      go_upto_region 3 with fail
      go_region
      obtain ⟨W5, hW5⟩ : ∃ W5, W5 = ((((((wr.setCell ⟨g, m * 3, none⟩ (.int .i64 b.1)).setCell ⟨g, m * 3 + 1, none⟩ (.int .i64 b.2.1)).setCell ⟨g, m * 3 + 2, none⟩ (.int .i64 b.2.2)).setCell ⟨g, n * 3, none⟩ (.int .i64 a.1)).setCell ⟨g, n * 3 + 1, none⟩ (.int .i64 a.2.1)).setCell ⟨g, n * 3 + 2, none⟩ (.int .i64 a.2.2)).drew := ⟨_, rfl⟩
      have HR5 := Lib.hid (show RowS W5 g ((R.set m b).set n a) by rw [hW5]; exact HS1.out.on (Below.refl _ _).drew)
      have HF5 := Lib.hid (show Fr (fun i => i = g) w W5 by rw [hW5]; exact Fr.drew ((((((HFR.out.setCell (fun _ => rfl) _).setCell (fun _ => rfl) _).setCell (fun _ => rfl) _).setCell (fun _ => rfl) _).setCell (fun _ => rfl) _).setCell (fun _ => rfl) _))
      rw [← hW5]
      clear hW5 a0 a1 a2 b0 b1 b2 z0 z1 z2 y0 y1 y2
      go_wp2
      go_roundw
      case rel => exact ⟨m + 1, _, by go_num, by (have h := HNI.out; rw [show ((L.length : Int) - 1 - ((m + 1 : Nat) : Int)) = (n : Int) - 1 by omega]), by omega, HHN.out.1, HR5.out, HF5.out⟩
      case measure => simp [intOf]; omega
    · have tt : decide ((m : Int) < (L.length : Int) - 1 - m) = false := by simp; omega
      have HE := Lib.hid (half_end hh (by omega))
      clear hrow hfr hh
      go_wp2
      go_end0
      exact ⟨rfl, by rw [← HE.out]; exact HRW.out, HFR.out⟩

set_option maxHeartbeats 1000000 in
set_option maxRecDepth 100000 in
theorem reversePub_any (A : Option Addr) (c : Nat) (l : List (Int × Int × Int)) (w : World) (hr : Rd w 0 w.heap.size 3 A l.length (cells3 l)) (hl : l.length ≤ 9223372036854775807) :
    Calls Tryz.prog 28 #[.slice A l.length c] w fun e w' => ∃ A' c', e = .returned (.tuple #[.slice A' (revL l).length c', .int .i64 (codeS l)]) ∧ Rd w' 0 w'.heap.size 3 A' (revL l).length (cells3 (revL l)) ∧ Below w.heap.size w w' := by
  have HC := Lib.hid (changed_rev A c l w hr hl)
  clear hr
  have hgc : chgC 1 l (l.map swpS) = codeS l := by
    unfold chgC
    by_cases h : codeS l = 0
    · rw [if_neg (by omega), if_neg (by omega), swp_code h, h]
    · rw [if_pos h]
  rw [hgc] at HC
  have HGL := Lib.hid (show chgL 1 l (l.map swpS) = if codeS l = 0 then l.map swpS else [] by unfold chgL; rw [hgc])
  have HRL := Lib.hid (revL.eq_1 l)
  have hle : codeS l = 0 → l.length ≤ 50 := fun h => (codeS_ok h).le
  obtain ⟨cc, hcc⟩ : ∃ cc, cc = codeS l := ⟨_, rfl⟩
  rw [← hcc] at HC HGL HRL hle ⊢
  clear hcc hgc
  by_cases hz : cc = 0
  · subst hz
    have HG := Lib.hid (show chgL 1 l (l.map swpS) = l.map swpS by rw [HGL.out, if_pos rfl])
    have HR := Lib.hid (show revL l = (l.map swpS).reverse by rw [HRL.out, if_pos rfl])
    have hl50 := hle rfl
    have HLN := Lib.hid (show (revL l).length = l.length by rw [HR.out]; simp)
    rw [HG.out, List.length_map] at HC
    clear hle
    go_enter Tryz.func28, Tryz.ntmps28
    go_wp2_with fail
    refine HC.out.mono ?_
    rintro e w1 ⟨A1, c1, rfl, hr1, hb1, hg1⟩
    obtain ⟨g, rfl, hgb, hrow⟩ := hg1 (by trivial)
    have HV := Lib.hid (revStg_any g c1 (l.map swpS) w1 hrow (by rw [List.length_map]; omega))
    rw [List.length_map] at HV
    have HB1 := Lib.hid hb1
    have HGB := Lib.hid hgb
    clear hr1 hb1 hg1 hrow hgb
    go_wp2_with fail
    refine HV.out.mono ?_
    rintro e w2 ⟨rfl, hr2, hf2⟩
    have HR2 := Lib.hid hr2
    have HB2 := Lib.hid (HB1.out.trans (hf2.below (B := w.heap.size) HB1.out.size (fun i hi hm => by have := HGB.out; omega)))
    clear hr2 hf2
    go_wp2
    go_ret2
    refine ⟨some ⟨g, 0, none⟩, c1, by rw [HLN.out]; rfl, ?_, HB2.out⟩
    have := HR2.out.rd
    rw [HR.out]
    exact this
  · have HG := Lib.hid (show chgL 1 l (l.map swpS) = [] by rw [HGL.out, if_neg hz])
    have HR := Lib.hid (show revL l = [] by rw [HRL.out, if_neg hz])
    have tz : (cc != 0) = true := by simpa using hz
    clear hle
    go_enter Tryz.func28, Tryz.ntmps28
    go_wp2_with fail
    refine HC.out.mono ?_
    rintro e w1 ⟨A1, c1, rfl, hr1, hb1, hg1⟩
    go_wp2
    go_ret2
    exact ⟨none, 0, by rw [HR.out]; rfl, by rw [HR.out]; exact Rd.nil, hb1⟩
end Go.Proofs.YtepfmoaihhonlaaGreatDoor

/- slices.Grow, slices.Concat at stages; load.Chain. -/
namespace Go.Proofs.YtepfmoaihhonlaaGreatDoor
open Go Go.RowKit Go.Proofs

theorem growStg_any (n : Nat) (w : World) (h0 : 0 < n) (h1 : n ≤ 1000) :
    Calls Tryz.prog 143 #[.slice none 0 0, .int .i64 n] w fun e w' => ∃ cap, e = .returned (.slice (some ⟨w.heap.size, 0, none⟩) 0 cap) ∧ w'.ownsRow w.heap.size 86 3 (.slice (some ⟨w.heap.size, 0, none⟩) 0 cap) 0 [] ∧ Below w.heap.size w w' := by
  obtain ⟨i0, hi0, hz0, hz1, hz2⟩ := info_parts infoStg
  have key := Any8.slices_Grow_grow Tryz.growStage i0 (.agg #[.int .i64 0, .int .i64 0, .int .i64 0]) hi0 hz0 (by rw [hz1]; omega) none 0 0 n [] w (Nat.le_refl _) (by omega) (by rw [hz2]; omega) (by omega) (by simp) (fun _ => rfl) (fun a h => by cases h)
  refine key.mono fun e w' ⟨he, hw⟩ => ?_
  subst hw
  refine ⟨_, he, ⟨rfl, .inr ⟨w.heap.size, _, _, rfl, Nat.le_refl _, alloc_at w.drew _ _ rfl, Nat.zero_le _, grownCap_le_maxLen _ _ _ _ (by unfold maxLen; omega), ?_, rfl⟩⟩, ((Below.refl _ w).drew.alloc (Nat.le_refl _) _)⟩
  have hg := grownCap_ge w (0 + n) 0 (Tryz.growStage_ren.t 25)
  have e3 : (Value.agg #[Value.int IntKind.i64 0, Value.int IntKind.i64 0, Value.int IntKind.i64 0]).cells.size = 3 := rfl
  simp only [Array.size_append, size_zeroCells, e3]
  generalize grownCap w (0 + n) 0 (Tryz.growStage_ren.t 25) = G at *
  simp
  omega

set_option maxHeartbeats 2000000 in
set_option maxRecDepth 100000 in
theorem concatStg_any (P : Nat) (A B : Option Addr) (c d : Nat) (a b : List (Int × Int × Int)) (T : TypeId) (w : World) (hP : w.heap[P]? = some (.cells #[.slice A a.length c, .slice B b.length d] T (0, 0))) (ha : Rd w 0 w.heap.size 3 A a.length (cells3 a)) (hb : Rd w 0 w.heap.size 3 B b.length (cells3 b)) (ha0 : 0 < a.length) (ha1 : a.length ≤ 50) (hb0 : 0 < b.length) (hb1 : b.length ≤ 50) :
    Calls Tryz.prog 72 #[.slice (some ⟨P, 0, none⟩) 2 2] w fun e w' => ∃ v', e = .returned v' ∧ w'.ownsRow w.heap.size 86 3 v' (a ++ b).length (cells3 (a ++ b)) ∧ Below w.heap.size w w' := by
  obtain ⟨ii, hii, hiz0, hiz1, hiz2⟩ := info_parts infoStg
  obtain ⟨b1, p1, _, _, _, e1, _⟩ := ha.at3 ha0
  obtain ⟨b2, p2, _, _, _, e2, _⟩ := hb.at3 hb0
  subst e1
  subst e2
  have q0 : w.cell? ⟨P, 0, none⟩ = some (.slice (some ⟨b1, p1, none⟩) a.length c) := by rw [cellsAt hP]; rfl
  have q1 : w.cell? ⟨P, 1, none⟩ = some (.slice (some ⟨b2, p2, none⟩) b.length d) := by rw [cellsAt hP]; rfl
  have hPl := heap_lt hP
  have hG := growStg_any (a.length + b.length) w (by omega) (by omega)
  rw [Int.natCast_add] at hG
  have HG := Lib.hid hG
  clear hG
  have HA := Lib.hid ha
  have HB := Lib.hid hb
  clear ha hb hP
  go_enter Tryz.func72, Tryz.ntmps72
  go_wp2_with fail
  go_loopw [3, 5, 11] (fun sv _ iv wr => wr = w ∧ ((iv = .int .i64 0 ∧ sv = .int .i64 0) ∨ (iv = .int .i64 1 ∧ sv = .int .i64 (a.length : Nat)) ∨ (iv = .int .i64 2 ∧ sv = .int .i64 ((a.length + b.length : Nat) : Int)))) (fun _ _ iv _ => 2 - (intOf iv).toNat)
  case atStart => exact ⟨by trivial, .inl ⟨rfl, rfl⟩⟩
  case round =>
    obtain ⟨rfl, h⟩ := hrel
    rcases h with ⟨rfl, rfl⟩ | ⟨rfl, rfl⟩ | ⟨rfl, rfl⟩
    · have n1 : ¬ (a.length : Int) < 0 := by omega
      go_wp2
      go_roundw
      case rel => exact ⟨by trivial, .inr (.inl ⟨by go_num, by go_num⟩)⟩
      case measure => simp [intOf]
    · have n1 : ¬ ((a.length : Int) + b.length) < 0 := by omega
      go_wp2
      go_roundw
      case rel => exact ⟨by trivial, .inr (.inr ⟨by go_num, by go_num⟩)⟩
      case measure => simp [intOf]
    · go_wp2_with fail
      (with_reducible refine HG.out.mono ?_)
      rintro e w2 ⟨cap, rfl, hown, hb2⟩
      have HO2 := Lib.hid hown
      have HB2 := Lib.hid hb2
      clear hown hb2
      obtain ⟨w, hw⟩ : ∃ z : World, z = wr := ⟨_, rfl⟩
      subst hw
      go_wp2_with fail
      go_loopw [6, 8, 27] (fun ov _ iv wr => Below w.heap.size w wr ∧ ((iv = .int .i64 0 ∧ wr.ownsRow w.heap.size 86 3 ov 0 []) ∨ (iv = .int .i64 1 ∧ wr.ownsRow w.heap.size 86 3 ov a.length (cells3 a)) ∨ (iv = .int .i64 2 ∧ wr.ownsRow w.heap.size 86 3 ov (a.length + b.length) (cells3 a ++ cells3 b)))) (fun _ _ iv _ => 2 - (intOf iv).toNat)
      case atStart => exact ⟨HB2.out, .inl ⟨rfl, HO2.out⟩⟩
      case round =>
        obtain ⟨hbw, h⟩ := hrel
        rcases h with ⟨rfl, hown⟩ | ⟨rfl, hown⟩ | ⟨rfl, hown⟩
        · have q := (hbw.cell (p := ⟨P, 0, none⟩) hPl).trans q0
          have HOW := Lib.hid hown
          have HBW := Lib.hid hbw
          have hsz := hbw.size
          clear hown hbw
          go_wp2_with (at_builtin; refine wpList_append_rd rfl (.tmp 31) (.tmp 32) 22 rfl w.heap.size 86 ii _ 3 24 Tryz.underlying22 hii hiz0 hiz1 hiz2 rfl (by decide) _ 0 [] rfl HOW.out (some ⟨b1, p1, none⟩) a.length c 0 w.heap.size (cells3 a) rfl (fun h => by cases h) (HA.out.below HBW.out (Nat.le_refl _)) (cells3_one a) ?c3 ?c4 ?c5 ?_)
          case c3 => unfold maxLen; omega
          case c4 => omega
          case c5 => exact hsz
          intro v4 w4 hown4 hgr4
          have HB4 := Lib.hid (show Below w.heap.size w w4 from HBW.out.trans ((Fr.of_grown hgr4).below (B := w.heap.size) hsz (fun j hj hm => by have := (ownsRow_block HOW.out hm).1; omega)))
          try rw [Nat.zero_add, List.nil_append] at hown4
          have HO4 := Lib.hid hown4
          clear hown4 hgr4
          go_wp2
          go_roundw
          case rel => exact ⟨HB4.out, .inr (.inl ⟨by go_num, HO4.out⟩)⟩
          case measure => simp [intOf]
        · have q := (hbw.cell (p := ⟨P, 1, none⟩) hPl).trans q1
          have HOW := Lib.hid hown
          have HBW := Lib.hid hbw
          have hsz := hbw.size
          clear hown hbw
          go_wp2_with (at_builtin; refine wpList_append_rd rfl (.tmp 31) (.tmp 32) 22 rfl w.heap.size 86 ii _ 3 24 Tryz.underlying22 hii hiz0 hiz1 hiz2 rfl (by decide) _ a.length (cells3 a) rfl HOW.out (some ⟨b2, p2, none⟩) b.length d 0 w.heap.size (cells3 b) rfl (fun h => by cases h) (HB.out.below HBW.out (Nat.le_refl _)) (cells3_one b) ?c3 ?c4 ?c5 ?_)
          case c3 => unfold maxLen; omega
          case c4 => omega
          case c5 => exact hsz
          intro v4 w4 hown4 hgr4
          have HB4 := Lib.hid (show Below w.heap.size w w4 from HBW.out.trans ((Fr.of_grown hgr4).below (B := w.heap.size) hsz (fun j hj hm => by have := (ownsRow_block HOW.out hm).1; omega)))
          try rw [Nat.zero_add, List.nil_append] at hown4
          have HO4 := Lib.hid hown4
          clear hown4 hgr4
          go_wp2
          go_roundw
          case rel => exact ⟨HB4.out, .inr (.inr ⟨by go_num, HO4.out⟩)⟩
          case measure => simp [intOf]
        · have HOW := Lib.hid hown
          have HBW := Lib.hid hbw
          clear hown hbw
          go_wp2
          go_ret
          exact ⟨_, rfl, by rw [cells3_append, List.length_append]; exact HOW.out, HBW.out⟩
end Go.Proofs.YtepfmoaihhonlaaGreatDoor

/- Package load: Chain. Printed by gen_chain.py. -/
namespace Go.Proofs.YtepfmoaihhonlaaGreatDoor
open Go Go.RowKit Go.Proofs

set_option maxHeartbeats 2000000 in
set_option maxRecDepth 100000 in
theorem chainPub_any (A B : Option Addr) (c d : Nat) (a b : List (Int × Int × Int)) (w : World) (ha : Rd w 0 w.heap.size 3 A a.length (cells3 a)) (hb : Rd w 0 w.heap.size 3 B b.length (cells3 b)) (hal : a.length ≤ 9223372036854775807) (hbl : b.length ≤ 9223372036854775807) :
    Calls Tryz.prog 21 #[.slice A a.length c, .slice B b.length d] w fun e w' => ∃ A' c', e = .returned (.tuple #[.slice A' (chnL a b).length c', .int .i64 (chnC a b)]) ∧ Rd w' 0 w'.heap.size 3 A' (chnL a b).length (cells3 (chnL a b)) ∧ Below w.heap.size w w' := by
  have HC1 := Lib.hid (fun W (h : Below w.heap.size w W) => loadCheck_any A c a W (ha.old h) hal)
  have HC2 := Lib.hid (fun W (h : Below w.heap.size w W) => loadCheck_any B d b W (hb.old h) hbl)
  have HA := Lib.hid ha
  have HB := Lib.hid hb
  obtain ⟨W0, hW0⟩ : ∃ W0, W0 = w.alloc (.cells #[.slice A a.length c, .slice B b.length d] 22) := ⟨_, rfl⟩
  have hx0 : W0.heap[w.heap.size]? = some (.cells #[.slice A a.length c, .slice B b.length d] 22 (0, 0)) := by rw [hW0]; exact alloc_at _ _ _ rfl
  have q0 : W0.cell? ⟨w.heap.size, 0, none⟩ = some (.slice A a.length c) := by rw [cellsAt hx0]; rfl
  have q1 : W0.cell? ⟨w.heap.size, 1, none⟩ = some (.slice B b.length d) := by rw [cellsAt hx0]; rfl
  have HB0 := Lib.hid (show Below w.heap.size w W0 by rw [hW0]; exact (Below.refl _ w).alloc (Nat.le_refl _) _)
  have HS0 := Lib.hid (heap_lt hx0)
  clear ha hb hx0
  go_enter Tryz.func21, Tryz.ntmps21
  go_upto_region 2 with fail
  rw [← hW0]
  clear hW0
  go_loopw [7, 8, 13] (fun _ _ iv wr => Below W0.heap.size W0 wr ∧ (iv = .int .i64 0 ∨ (iv = .int .i64 1 ∧ codeS a = 0) ∨ (iv = .int .i64 2 ∧ codeS a = 0 ∧ codeS b = 0))) (fun _ _ iv _ => 2 - (intOf iv).toNat)
  case atStart => exact ⟨Below.refl _ _, .inl rfl⟩
  case round =>
    obtain ⟨hbw, h⟩ := hrel
    rcases h with rfl | ⟨rfl, hca⟩ | ⟨rfl, hca, hcb⟩
    · have q := (hbw.cell (p := ⟨w.heap.size, 0, none⟩) (by have := HS0.out; dsimp only; omega)).trans q0
      have HBW := Lib.hid hbw
      have HK := Lib.hid (HC1.out wr (below_next HB0.out hbw))
      clear hbw
      by_cases hz : codeS a = 0
      · rw [hz] at HK
        go_wp2_with fail
        refine HK.out.mono ?_
        rintro e w3 ⟨rfl, hb3⟩
        have HB3 := Lib.hid (below_next HBW.out hb3)
        clear hb3
        go_wp2
        go_roundw
        case rel => exact ⟨HB3.out, .inr (.inl ⟨by go_num, hz⟩)⟩
        case measure => simp [intOf]
      · have HGC := Lib.hid (show chnC a b = codeS a by unfold chnC; rw [if_pos hz])
        have HGL := Lib.hid (show chnL a b = [] by unfold chnL; rw [HGC.out, if_neg hz])
        obtain ⟨cc, hcc⟩ : ∃ cc, cc = codeS a := ⟨_, rfl⟩
        rw [← hcc] at HK HGC hz
        have tz : (cc != 0) = true := by simpa using hz
        clear hcc
        go_wp2_with fail
        refine HK.out.mono ?_
        rintro e w3 ⟨rfl, hb3⟩
        have HB3 := Lib.hid (below_next HB0.out (below_next HBW.out hb3))
        clear hb3
        go_wp2
        go_ret2
        exact ⟨none, 0, by rw [HGC.out, HGL.out]; rfl, by rw [HGL.out]; exact Rd.nil, HB3.out⟩
    · have q := (hbw.cell (p := ⟨w.heap.size, 1, none⟩) (by have := HS0.out; dsimp only; omega)).trans q1
      have HBW := Lib.hid hbw
      have HK := Lib.hid (HC2.out wr (below_next HB0.out hbw))
      clear hbw
      by_cases hz : codeS b = 0
      · rw [hz] at HK
        go_wp2_with fail
        refine HK.out.mono ?_
        rintro e w3 ⟨rfl, hb3⟩
        have HB3 := Lib.hid (below_next HBW.out hb3)
        clear hb3
        go_wp2
        go_roundw
        case rel => exact ⟨HB3.out, .inr (.inr ⟨by go_num, hca, hz⟩)⟩
        case measure => simp [intOf]
      · have HGC := Lib.hid (show chnC a b = codeS b by unfold chnC; rw [if_neg (fun h => h hca), if_pos hz])
        have HGL := Lib.hid (show chnL a b = [] by unfold chnL; rw [HGC.out, if_neg hz])
        obtain ⟨cc, hcc⟩ : ∃ cc, cc = codeS b := ⟨_, rfl⟩
        rw [← hcc] at HK HGC hz
        have tz : (cc != 0) = true := by simpa using hz
        clear hcc
        go_wp2_with fail
        refine HK.out.mono ?_
        rintro e w3 ⟨rfl, hb3⟩
        have HB3 := Lib.hid (below_next HB0.out (below_next HBW.out hb3))
        clear hb3
        go_wp2
        go_ret2
        exact ⟨none, 0, by rw [HGC.out, HGL.out]; rfl, by rw [HGL.out]; exact Rd.nil, HB3.out⟩
    · have o1 := codeS_ok hca
      have o2 := codeS_ok hcb
      have n1 := o1.le
      have n2 := o2.le
      have m1 := o1.ne
      have m2 := o2.ne
      have HGC := Lib.hid (show chnC a b = codeS (a ++ b) by unfold chnC; rw [if_neg (by omega), if_neg (by omega)])
      have HGL := Lib.hid (show chnL a b = if codeS (a ++ b) = 0 then a ++ b else [] by unfold chnL; rw [HGC.out])
      have hwr : Below w.heap.size w wr := below_next HB0.out hbw
      have hal2 : Below wr.heap.size wr (wr.alloc (.cells #[.slice A a.length c, .slice B b.length d] 22)) := (Below.refl _ wr).alloc (Nat.le_refl _) _
      have HBR := Lib.hid (below_next hwr hal2)
      have HCO := Lib.hid (concatStg_any wr.heap.size A B c d a b 22 (wr.alloc (.cells #[.slice A a.length c, .slice B b.length d] 22)) (alloc_at _ _ _ rfl) (HA.out.old HBR.out) (HB.out.old HBR.out) m1 n1 m2 n2)
      clear hbw o1 o2 hca hcb hwr hal2
      go_wp2_with fail
      (with_reducible refine HCO.out.mono ?_)
      rintro e w4 ⟨v4, rfl, hown, hb4⟩
      obtain ⟨Ao, co, rfl, hco, _, _⟩ := ownsRow_shape hown
      have hrd := (Rd.of_own hown).more (Nat.zero_le _) (Nat.le_refl _)
      have HCH := Lib.hid (checked_any Ao co (a ++ b) w4 hrd (by rw [List.length_append]; omega) hco)
      rw [← HGL.out, ← HGC.out] at HCH
      have hab : (a ++ b).length = a.length + b.length := List.length_append
      rw [hab] at HCH
      have HBE := Lib.hid (below_next HBR.out hb4)
      clear hown hrd hb4
      go_wp2_with fail
      (with_reducible refine HCH.out.mono ?_)
      rintro e w8 ⟨A8, c8, rfl, hr8, hb8⟩
      have HR8 := Lib.hid hr8
      have HB8 := Lib.hid (below_next HBE.out hb8)
      clear hr8 hb8
      go_wp2
      go_ret2
      exact ⟨A8, c8, rfl, HR8.out, HB8.out⟩
end Go.Proofs.YtepfmoaihhonlaaGreatDoor
