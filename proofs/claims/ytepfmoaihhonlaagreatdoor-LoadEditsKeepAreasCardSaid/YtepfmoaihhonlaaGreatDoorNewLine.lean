/- Package load: newLine. -/
import Derived.Test.YtepfmoaihhonlaaGreatDoorLine
import Derived.Deep.AppendLies
import Derived.Deep.RegionLaw
import Derived.Test.YtepfmoaihhonlaaGreatDoorGFrac
namespace Go.Proofs.YtepfmoaihhonlaaGreatDoor
open Go Go.RowKit Go.Proofs

theorem infoI3 : (Tryz.prog.info? 3).map (fun i => (i.zero, i.size, i.bytes)) = some (some (.int .i64 0), 1, 8) := by kernel_rfl
theorem infoN3 : (Tryz.prog.info? 93).map (fun i => (i.zero, i.size, i.bytes)) = some (some (.slice none 0 0), 1, 24) := by kernel_rfl
def begins (l : List (Int × Int × Int)) (k : Nat) : List Int := (List.range k).map fun i => lenS (l.take i)
def aheads (l : List (Int × Int × Int)) (k : Nat) : List Nat := (List.range k).map fun i => sumP ((stgs l).take i)
theorem begins_snoc (l : List (Int × Int × Int)) (k : Nat) : begins l (k + 1) = begins l k ++ [lenS (l.take k)] := by simp [begins, List.range_succ]
theorem aheads_snoc (l : List (Int × Int × Int)) (k : Nat) : aheads l (k + 1) = aheads l k ++ [sumP ((stgs l).take k)] := by simp [aheads, List.range_succ]
theorem begins_length (l : List (Int × Int × Int)) (k : Nat) : (begins l k).length = k := by simp [begins]
theorem aheads_length (l : List (Int × Int × Int)) (k : Nat) : (aheads l k).length = k := by simp [aheads]
theorem sumP_take {l : List (Int × Int × Int)} {k : Nat} {F x y : Int} (h : l[k]? = some (F, x, y)) (hok : OkS (F, x, y)) : sumP ((stgs l).take (k + 1)) = sumP ((stgs l).take k) + prodN [x + y, F] := by
  have h1 : (stgs l)[k]? = some (toStg (F, x, y)) := by unfold stgs; rw [List.getElem?_map, h]; rfl
  unfold OkS at hok
  simp only at hok
  rw [List.take_add_one, h1]
  simp only [sumP, List.map_append, List.sum_append, Option.toList_some, List.map_cons, List.map_nil, List.sum_cons, List.sum_nil, Stg.parts, toStg, prodN, Nat.mul_one, Nat.add_zero]
  congr 2
  omega
theorem sumP_le {l : List (Int × Int × Int)} (hok : ∀ s ∈ l, OkS s) : sumP (stgs l) ≤ l.length * 200000000000000000000 := by
  induction l with
  | nil => simp [sumP, stgs]
  | cons s l ih =>
    have h1 := ih (fun x hx => hok x (by simp [hx]))
    have h2 := hok s (by simp)
    unfold OkS at h2
    have h3 : (toStg s).parts ≤ 2000000000 * 100000000000 := by
      unfold Stg.parts toStg
      exact Nat.mul_le_mul (by simp only; omega) (by simp only; omega)
    have e : sumP (stgs (s :: l)) = (toStg s).parts + sumP (stgs l) := by simp [sumP, stgs]
    rw [e, List.length_cons]; omega

set_option maxHeartbeats 4000000 in
set_option maxRecDepth 100000 in
theorem newLine_any (A : Option Addr) (c : Nat) (l : List (Int × Int × Int)) (w : World) (hr : Rd w 0 w.heap.size 3 A l.length (cells3 l)) (hl : OkL l) :
    Calls Tryz.prog 67 #[.slice A l.length c] w fun e w' => ∃ P, e = .returned (.pointer (some ⟨P, 0, none⟩)) ∧ w.heap.size ≤ P ∧ LineR w' P A c l ∧ Below w.heap.size w w' := by
  obtain ⟨ii, hii, hiz0, hiz1, hiz2⟩ := info_parts infoI3
  obtain ⟨ni, hni, hnz0, hnz1, hnz2⟩ := info_parts infoN3
  have HR := Lib.hid hr
  have HOK := Lib.hid hl.ok
  have hne := hl.ne
  have hle := hl.le
  have hsum := hl.sum
  clear hr hl
  obtain ⟨W0, hW0⟩ : ∃ W0, W0 = (w.alloc (.cells #[.slice none 0 0] 93)).alloc (.cells #[.slice A l.length c, .slice none 0 0, .slice (some ⟨w.heap.size, 0, none⟩) 1 1] 176) := ⟨_, rfl⟩
  obtain ⟨P, hP⟩ : ∃ P, P = w.heap.size + 1 := ⟨_, rfl⟩
  have HNL0 := Lib.hid (show NL w W0 P (.slice A l.length c) (.slice none 0 0) (.slice (some ⟨w.heap.size, 0, none⟩) 1 1) (begins l 0) [.slice none 0 0] (aheads l 1) from by
    have hblk : W0.heap[w.heap.size]? = some (.cells #[.slice none 0 0] 93 (0, 0)) := by
      rw [hW0, Below.heap_alloc _ _ _ (by simp)]; exact alloc_at w _ _ rfl
    refine ⟨?_, by omega, ?_, ⟨by simp [begins, ints], .inl ⟨rfl, rfl⟩⟩, ⟨by simp, .inr ⟨w.heap.size, 1, _, rfl, Nat.le_refl _, hblk, by simp, by unfold maxLen; omega, by simp, by simp⟩⟩, ?_, ?_, ?_, by simp [aheads], ?_⟩
    · rw [hW0]; exact ((Below.refl _ w).alloc (Nat.le_refl _) _).alloc (by simp) _
    · rw [hW0, hP]; exact alloc_at _ _ _ (by simp)
    · intro e; cases e
    · intro e
      have : P = w.heap.size := by simpa [Value.ownBlock] using e
      omega
    · intro b hb; cases hb
    · intro i x hx
      have hi : i = 0 := by have := (List.getElem?_eq_some_iff.1 hx).1; simp [aheads] at this; omega
      subst hi
      have : x = 0 := by simp [aheads, sumP] at hx; exact hx.symm
      subst this
      exact ⟨none, 0, [], rfl, natr_nil _, fun b o e _ => by cases e⟩)
  have hW0s : W0.heap.size = w.heap.size + 2 := by rw [hW0]; simp
  have HW0S := Lib.hid hW0s
  clear hW0s
  go_enter Tryz.func67, Tryz.ntmps67
  go_wp2_with fail
  rw [← hW0, ← hP]
  clear hW0
  have HPE := Lib.hid hP
  clear hP
  go_loopw [4, 5, 6, 13] (fun at_ _ _ i wr => ∃ (k : Nat) (v1 v2 : Value) (vals : List Value), k ≤ l.length ∧ i = .int .i64 k ∧ at_ = .int .i64 (lenS (l.take k)) ∧ NL w wr P (.slice A l.length c) v1 v2 (begins l k) vals (aheads l (k + 1))) (fun _ _ _ i _ => l.length - (intOf i).toNat)
  case atStart => exact ⟨0, _, _, _, Nat.zero_le _, rfl, by simp [lenS], HNL0.out⟩
  case round =>
    obtain ⟨k, v1, v2, vals, hk, rfl, rfl, hN⟩ := hrel
    have HN := Lib.hid hN
    have hPl := heap_lt hN.box
    have hsz := hN.below.size
    by_cases hlt : k < l.length
    · obtain ⟨bk, o, F, x, y, rfl, _, hbk, hx, c0, c1, c2⟩ := (HR.out.below hN.below (Nat.le_refl _)).at3 hlt
      have hok := HOK.out _ (List.mem_of_getElem? hx)
      have HSP := Lib.hid (sumP_take hx hok)
      have HLT := Lib.hid (lenS_take hx)
      unfold OkS at hok
      simp only at hok
      obtain ⟨m1, m2, m3, m4, m5, m6⟩ := hok
      have hb1 := lenS_bd (l := l.take k) (fun s hs => HOK.out s (List.mem_of_mem_take hs))
      have hlk : (l.take k).length = k := by simp; omega
      rw [hlk] at hb1
      obtain ⟨at0, hat0⟩ : ∃ z, z = lenS (l.take k) := ⟨_, rfl⟩
      rw [← hat0] at hb1 HLT ⊢
      have HAT := Lib.hid hat0
      obtain ⟨W1, hW1⟩ : ∃ W1, W1 = (wr.alloc (.cells #[.int .i64 F, .int .i64 x, .int .i64 y] 86)).alloc (.cells #[.int .i64 at0] 3) := ⟨_, rfl⟩
      have hbW1 : Below wr.heap.size wr W1 := by rw [hW1]; exact ((Below.refl _ wr).alloc (Nat.le_refl _) _).alloc (by simp) _
      have hsW1 : W1.heap.size = wr.heap.size + 2 := by rw [hW1]; simp
      have HN1 := Lib.hid (hN.call hbW1)
      have hnews : W1.heap[wr.heap.size + 1]? = some (.cells #[.int .i64 at0] 3 (0, 0)) := by rw [hW1]; exact alloc_at _ _ _ (by simp)
      have hbox1 : W1.heap[wr.heap.size]? = some (.cells #[.int .i64 F, .int .i64 x, .int .i64 y] 86 (0, 0)) := by
        rw [hW1, Below.heap_alloc _ _ _ (by simp)]; exact alloc_at _ _ _ rfl
      have kP1 : wr.cell? ⟨P, 1, none⟩ = some v1 := by rw [cellsAt hN.box]; rfl
      clear hlk hat0 hx
      go_wp2_with (at_builtin; refine wpList_append_lies _ rfl (.tmp 22) (.tmp 24) 36 rfl w.heap.size 3 ii _ 1 8 Tryz.underlying36 hii hiz0 hiz1 hiz2 rfl (by decide) v1 k (ints (begins l k)) rfl ?a0 ⟨wr.heap.size + 1, 0, none⟩ 1 1 [.int .i64 at0] rfl rfl ?a1 (by simp [Value.oneCell']) (by decide) ?a2 ?a3 ?a4 (wr.heap.size + 2) ?a5 ?_)
      case a0 => rw [← hW1]; have := HN1.out.own1; rwa [begins_length] at this
      case a2 => unfold maxLen; omega
      case a3 => omega
      case a4 => omega
      intro g cap w2 hown hgr hat hlt2
      rw [← hW1] at hgr
      have hN3 : NL w (w2.setCell ⟨P, 1, none⟩ (.slice (some ⟨g, 0, none⟩) (k + 1) cap)) P (.slice (some ⟨bk, o, none⟩) l.length c) (.slice (some ⟨g, 0, none⟩) (k + 1) cap) v2 (begins l (k + 1)) vals (aheads l (k + 1)) := by
        have := NL.app1 (g := g) (cap := cap) (z := at0) HN1.out (by rw [begins_length]; exact hown) hgr (by rw [hsW1]; exact hat)
        rw [begins_length, HAT.out, ← begins_snoc] at this
        exact this
      have HN3 := Lib.hid hN3
      have hPn : P ≠ wr.heap.size := by omega
      have hbox2 : w2.heap[wr.heap.size]? = some (.cells #[.int .i64 F, .int .i64 x, .int .i64 y] 86 (0, 0)) := by
        rw [hgr.block _ (by omega) (fun e => by have := (ownsRow_block hN.own1 e).2; omega)]; exact hbox1
      have hboxP : w2.heap[P]? = some (.cells #[.slice (some ⟨bk, o, none⟩) l.length c, v1, v2] 176 (0, 0)) := by
        rw [hgr.block _ (by omega) (fun e => HN1.out.p1 e)]; exact HN1.out.box
      have k2P1 : w2.cell? ⟨P, 1, none⟩ = some v1 := by rw [cellsAt hboxP]; rfl
      have z2P1 : w2.frozen? ⟨P, 1, none⟩ = false := frozenAt hboxP 1
      have k2B0 : w2.cell? ⟨wr.heap.size, 0, none⟩ = some (.int .i64 F) := by rw [cellsAt hbox2]; rfl
      have HB2 := Lib.hid hbox2
      clear hown hgr hat hW1 hbW1 hsW1 hnews hbox1 hboxP hbox2 kP1 c0 c1 c2 hN3
      go_wp2_with fail
      obtain ⟨W3, hW3⟩ : ∃ W3, W3 = w2.setCell ⟨P, 1, none⟩ (.slice (some ⟨g, 0, none⟩) (k + 1) cap) := ⟨_, rfl⟩
      rw [← hW3] at HN3 ⊢
      have hbx : W3.heap[wr.heap.size]? = some (.cells #[.int .i64 F, .int .i64 x, .int .i64 y] 86 (0, 0)) := by
        rw [hW3, Below.heap_setCell _ _ _ _ (by show wr.heap.size ≠ P; omega)]; exact HB2.out
      have hvl : vals.length = k + 1 := by rw [HN3.out.len, aheads_length]
      have HVL := Lib.hid hvl
      obtain ⟨g2, cap2, hv2, hg2b, hg2l, _, _⟩ := ownsRow_some HN3.out.own2 (by omega)
      rw [hvl] at hv2
      subst hv2
      obtain ⟨A3, c3, l3, hval3, hn3, _⟩ := HN3.out.nat k (sumP ((stgs l).take k)) (by rw [aheads_snoc, List.getElem?_append_right (by rw [aheads_length]; exact Nat.le_refl _), aheads_length]; simp)
      have hcell3 : W3.cell? ⟨g2, k, none⟩ = some (.slice A3 l3.length c3) := by
        obtain ⟨b', o', e', _, _, hc'⟩ := (Rd.of_own (A := some ⟨g2, 0, none⟩) (c := cap2) (by have := HN3.out.own2; rw [hvl] at this; exact this)).2 (by omega)
        simp only [Option.some.injEq, Addr.mk.injEq, and_true] at e'
        obtain ⟨rfl, rfl⟩ := e'
        have := hc' k _ hval3
        simpa using this
      have hl3 : l3.length ≤ 3 := len_of_lt hn3.norm hn3.val (by
        have h1 := sumP_le (l := l.take k) (fun s hs => HOK.out s (List.mem_of_mem_take hs))
        have h2 : stgs (l.take k) = (stgs l).take k := by simp [stgs]
        rw [h2] at h1
        have h3 : (l.take k).length ≤ 50 := by simp; omega
        have h4 := Nat.mul_le_mul_right 200000000000000000000 h3
        have h5 : W64 ^ 3 = 6277101735386680763835789423207666416102355444464034512896 := by unfold W64; rfl
        rw [h5]; omega)
      have HN3R := Lib.hid hn3
      have hPl3 := heap_lt HN3.out.box
      have HFACT := Lib.hid (show ∀ X, Below W3.heap.size W3 X → X.cell? ⟨P, 2, none⟩ = some (.slice (some ⟨g2, 0, none⟩) (k + 1) cap2) ∧ X.frozen? ⟨P, 2, none⟩ = false ∧ X.cell? ⟨g2, k, none⟩ = some (.slice A3 l3.length c3) ∧ X.cell? ⟨wr.heap.size, 0, none⟩ = some (.int .i64 F) ∧ X.cell? ⟨wr.heap.size, 1, none⟩ = some (.int .i64 x) ∧ X.cell? ⟨wr.heap.size, 2, none⟩ = some (.int .i64 y) ∧ P < X.heap.size ∧ g2 < X.heap.size ∧ wr.heap.size < X.heap.size from fun X hX => by
        have b1 := (HN3.out.call hX).box
        have b2 := (hX.block _ (heap_lt hbx)).trans hbx
        exact ⟨by rw [cellsAt b1]; rfl, frozenAt b1 2, (hX.cell hg2l).trans hcell3, by rw [cellsAt b2]; rfl, by rw [cellsAt b2]; rfl, by rw [cellsAt b2]; rfl, heap_lt b1, Nat.lt_of_lt_of_le hg2l hX.size, heap_lt b2⟩)
      have HPR := Lib.hid (show ∀ W : World, W.heap[W3.heap.size]? = some (.cells #[.int .i64 (x + y), .int .i64 F] 3 (0, 0)) → Calls Tryz.prog 60 #[.slice (some ⟨W3.heap.size, 0, none⟩) 2 2] W (NatPost (prodN [x + y, F]) W) from fun W hW =>
        product_any (some ⟨W3.heap.size, 0, none⟩) 2 [x + y, F] W ⟨by simp [ints], fun _ => ⟨W3.heap.size, 0, rfl, Nat.zero_le _, heap_lt hW, fun j u hj => by rw [cellsAt hW, Nat.zero_add]; simpa [ints] using hj⟩⟩ (by simp) (by intro z hz; simp at hz; omega))
      have HAD := Lib.hid (show ∀ (W : World) A4 c4 l4, Below W3.heap.size W3 W → NatR W A4 c4 l4 (prodN [x + y, F]) → Calls Tryz.prog 61 #[.slice A3 l3.length c3, .slice A4 l4.length c4] W (NatNew (sumP ((stgs l).take k) + prodN [x + y, F]) W) from fun W A4 c4 l4 hb h4 =>
        natAddN_any A3 A4 c3 c4 l3 l4 _ _ W (HN3R.out.on hb) h4 (by omega) (by
          have := len_of_lt (n := 3) h4.norm h4.val (by
            have h1 := prodN_le (zs := [x + y, F]) (by intro z hz; simp at hz; omega)
            have h2 : W64 ^ [x + y, F].length < W64 ^ 3 := Nat.pow_lt_pow_right W64_pos (by simp)
            omega)
          omega))
      obtain ⟨f1, f2, f3, f4, f5, f6, f7, f8, f9⟩ := HFACT.out W3 (Below.refl _ W3)
      have hPg2 : P ≠ g2 := fun e => HN3.out.p2 (by rw [e]; rfl)
      have hki : (k : Int) < (k : Int) + 1 := by omega
      have hki0 : (0 : Int) ≤ (k : Int) := by omega
      have hwxy : IntKind.i64.wrap (x + y) = x + y := by simp [IntKind.wrap, IntKind.bits, IntKind.signed]; omega
      clear hW3 hN hn3 hval3 hcell3 hvl hbx hPl3 k2P1 z2P1 k2B0
      have HO2 := Lib.hid (show ∀ X, Below W3.heap.size W3 X → X.ownsRow w.heap.size 93 1 (.slice (some ⟨g2, 0, none⟩) (k + 1) cap2) (k + 1) vals from fun X hX => by have := (HN3.out.call hX).own2; rwa [HVL.out] at this)
      have HKS := Lib.hid (show ∀ X, Below W3.heap.size W3 X → (fun X => Below W3.heap.size W3 X ∧ X.cell? ⟨P, 2, none⟩ = some (.slice (some ⟨g2, 0, none⟩) (k + 1) cap2) ∧ X.cell? ⟨g2, k, none⟩ = some (.slice A3 l3.length c3) ∧ X.cell? ⟨wr.heap.size, 0, none⟩ = some (.int .i64 F) ∧ X.cell? ⟨wr.heap.size, 1, none⟩ = some (.int .i64 x) ∧ X.cell? ⟨wr.heap.size, 2, none⟩ = some (.int .i64 y)) X from fun X hX => by
        obtain ⟨p1, p2, p3, p4, p5, p6, p7, p8, p9⟩ := HFACT.out X hX
        exact ⟨hX, p1, p3, p4, p5, p6⟩)
      refine wp_region_last (init := #[_, _, _, _, _, _, _, _, _, _, _, _, _, _, _, _, _, _, _, _, _, _, _, _, _, _]) (last := _) rfl (by kernel_rfl) (by kernel_rfl) (by kernel_rfl) ?_
      show wpAny _ _ _ _ 26 (Array.replicate 26 false) _ _
      refine wpAny_last (init := #[_, _, _, _, _, _, _, _, _, _, _, _, _, _, _, _, _, _, _, _, _, _, _, _, _]) (last := _) (listed := #[false, false, false, false, false, false, false, false, false, false, false, false, false, false, false, false, false, false, false, false, false, false, false, false, false]) (fuel := 25) [] rfl rfl (by kernel_rfl) (by kernel_rfl) rfl (by kernel_rfl) rfl ?_
      refine wpAny_last (init := #[_, _, _, _, _, _, _, _, _, _, _, _, _, _, _, _, _, _, _, _, _, _, _, _]) (last := _) (listed := #[false, false, false, false, false, false, false, false, false, false, false, false, false, false, false, false, false, false, false, false, false, false, false, false]) (fuel := 24) [] rfl rfl (by kernel_rfl) (by kernel_rfl) rfl (by kernel_rfl) rfl ?_
      refine wpAny_take (i := 0) (v := ?_) rfl (by kernel_rfl) (by kernel_rfl) (by kernel_rfl) (fun _ _ _ h => h) (Or.inl ⟨by rfl, ?_⟩) ?_
      rotate_left
      · intro W; go_simp; try (with_reducible rfl)
      (try simp only [List.getElem_toArray, List.getElem_cons_zero, Act.put, List.setIfInBounds_toArray, List.set_cons_zero, List.set_cons_succ])
      refine wpAny_last (init := #[_, _, _, _, _, _, _, _, _, _, _, _, _, _, _, _, _, _, _, _, _, _, _]) (last := _) (listed := #[true, false, false, false, false, false, false, false, false, false, false, false, false, false, false, false, false, false, false, false, false, false, false]) (fuel := 22) [0] rfl rfl (by kernel_rfl) (by kernel_rfl) rfl (by kernel_rfl) rfl ?_
      refine wpAny_of_held (S := (fun X => Below W3.heap.size W3 X ∧ X.cell? ⟨P, 2, none⟩ = some (.slice (some ⟨g2, 0, none⟩) (k + 1) cap2) ∧ X.cell? ⟨g2, k, none⟩ = some (.slice A3 l3.length c3) ∧ X.cell? ⟨wr.heap.size, 0, none⟩ = some (.int .i64 F) ∧ X.cell? ⟨wr.heap.size, 1, none⟩ = some (.int .i64 x) ∧ X.cell? ⟨wr.heap.size, 2, none⟩ = some (.int .i64 y))) _ _ _ _ ?_
      have HS0 := HKS.out _ (Below.refl _ W3).drew
      refine wpAnyH_take (i := 1) (v := ?_) rfl (by kernel_rfl) (by kernel_rfl) (by kernel_rfl) (fun _ _ _ h => h) (Or.inl ⟨by rfl, ?_⟩) HS0 ?_
      rotate_left
      · intro W hW; (try dsimp only at hW); go_simp; try (with_reducible rfl)
      (try simp only [List.getElem_toArray, List.getElem_cons_succ, List.getElem_cons_zero, Act.put, List.setIfInBounds_toArray, List.set_cons_zero, List.set_cons_succ])
      refine wpAnyH_take (i := 2) (v := ?_) rfl (by kernel_rfl) (by kernel_rfl) (by kernel_rfl) (fun _ _ _ h => h) (Or.inl ⟨by rfl, ?_⟩) HS0 ?_
      rotate_left
      · intro W hW; (try dsimp only at hW); go_simp; try (with_reducible rfl)
      (try simp only [List.getElem_toArray, List.getElem_cons_succ, List.getElem_cons_zero, Act.put, List.setIfInBounds_toArray, List.set_cons_zero, List.set_cons_succ])
      refine wpAnyH_take (i := 3) (v := ?_) rfl (by kernel_rfl) (by kernel_rfl) (by kernel_rfl) (fun _ _ _ h => h) (Or.inl ⟨by rfl, ?_⟩) HS0 ?_
      rotate_left
      · intro W hW; (try dsimp only at hW); go_simp; try (with_reducible rfl)
      (try simp only [List.getElem_toArray, List.getElem_cons_succ, List.getElem_cons_zero, Act.put, List.setIfInBounds_toArray, List.set_cons_zero, List.set_cons_succ])
      refine wpAnyH_take (i := 4) (v := ?_) rfl (by kernel_rfl) (by kernel_rfl) (by kernel_rfl) (fun _ _ _ h => h) (Or.inl ⟨by rfl, ?_⟩) HS0 ?_
      rotate_left
      · intro W hW; (try dsimp only at hW); go_simp; try (with_reducible rfl)
      (try simp only [List.getElem_toArray, List.getElem_cons_succ, List.getElem_cons_zero, Act.put, List.setIfInBounds_toArray, List.set_cons_zero, List.set_cons_succ])
      refine wpAnyH_take (i := 5) (v := ?_) rfl (by kernel_rfl) (by kernel_rfl) (by kernel_rfl) (fun _ _ _ h => h) (Or.inl ⟨by rfl, ?_⟩) HS0 ?_
      rotate_left
      · intro W hW; (try dsimp only at hW); go_simp; try (with_reducible rfl)
      (try simp only [List.getElem_toArray, List.getElem_cons_succ, List.getElem_cons_zero, Act.put, List.setIfInBounds_toArray, List.set_cons_zero, List.set_cons_succ])
      refine wpAnyH_take (i := 6) (v := ?_) rfl (by kernel_rfl) (by kernel_rfl) (by kernel_rfl) (fun _ _ _ h => h) (Or.inl ⟨by rfl, ?_⟩) HS0 ?_
      rotate_left
      · intro W hW; (try dsimp only at hW); go_simp; try (with_reducible rfl)
      (try simp only [List.getElem_toArray, List.getElem_cons_succ, List.getElem_cons_zero, Act.put, List.setIfInBounds_toArray, List.set_cons_zero, List.set_cons_succ])
      refine wpAnyH_take (i := 7) (v := ?_) rfl (by kernel_rfl) (by kernel_rfl) (by kernel_rfl) (fun _ _ _ h => h) (Or.inl ⟨by rfl, ?_⟩) HS0 ?_
      rotate_left
      · intro W hW; (try dsimp only at hW); go_simp; try (with_reducible rfl)
      (try simp only [List.getElem_toArray, List.getElem_cons_succ, List.getElem_cons_zero, Act.put, List.setIfInBounds_toArray, List.set_cons_zero, List.set_cons_succ])
      refine wpAnyH_take (i := 8) (v := ?_) rfl (by kernel_rfl) (by kernel_rfl) (by kernel_rfl) (fun _ _ _ h => h) (Or.inl ⟨by rfl, ?_⟩) HS0 ?_
      rotate_left
      · intro W hW; (try dsimp only at hW); go_simp; try (with_reducible rfl)
      (try simp only [List.getElem_toArray, List.getElem_cons_succ, List.getElem_cons_zero, Act.put, List.setIfInBounds_toArray, List.set_cons_zero, List.set_cons_succ])
      refine wpAnyH_take (i := 9) (v := ?_) rfl (by kernel_rfl) (by kernel_rfl) (by kernel_rfl) (fun _ _ _ h => h) (Or.inl ⟨by rfl, ?_⟩) HS0 ?_
      rotate_left
      · intro W hW; (try dsimp only at hW); go_simp; try (with_reducible rfl)
      (try simp only [List.getElem_toArray, List.getElem_cons_succ, List.getElem_cons_zero, Act.put, List.setIfInBounds_toArray, List.set_cons_zero, List.set_cons_succ])
      refine wpAnyH_take (i := 10) (v := ?_) rfl (by kernel_rfl) (by kernel_rfl) (by kernel_rfl) (fun _ _ _ h => h) (Or.inl ⟨by rfl, ?_⟩) HS0 ?_
      rotate_left
      · intro W hW; (try dsimp only at hW); go_simp; try (with_reducible rfl)
      (try simp only [List.getElem_toArray, List.getElem_cons_succ, List.getElem_cons_zero, Act.put, List.setIfInBounds_toArray, List.set_cons_zero, List.set_cons_succ])
      refine wpAnyH_take (i := 11) (v := ?_) rfl (by kernel_rfl) (by kernel_rfl) (by kernel_rfl) (fun _ _ _ h => h) (Or.inl ⟨by rfl, ?_⟩) HS0 ?_
      rotate_left
      · intro W hW; (try dsimp only at hW); go_simp; try (with_reducible rfl)
      (try simp only [List.getElem_toArray, List.getElem_cons_succ, List.getElem_cons_zero, Act.put, List.setIfInBounds_toArray, List.set_cons_zero, List.set_cons_succ])
      refine wpAnyH_take (i := 12) (v := ?_) rfl (by kernel_rfl) (by kernel_rfl) (by kernel_rfl) (fun _ _ _ h => h) (Or.inl ⟨by rfl, ?_⟩) HS0 ?_
      rotate_left
      · intro W hW; (try dsimp only at hW); go_simp; try (with_reducible rfl)
      (try simp only [List.getElem_toArray, List.getElem_cons_succ, List.getElem_cons_zero, Act.put, List.setIfInBounds_toArray, List.set_cons_zero, List.set_cons_succ])
      refine wpAnyH_take (i := 13) (v := ?_) rfl (by kernel_rfl) (by kernel_rfl) (by kernel_rfl) (fun _ _ _ h => h) (Or.inl ⟨by rfl, ?_⟩) HS0 ?_
      rotate_left
      · intro W hW; (try dsimp only at hW); go_simp; try (with_reducible rfl)
      (try simp only [List.getElem_toArray, List.getElem_cons_succ, List.getElem_cons_zero, Act.put, List.setIfInBounds_toArray, List.set_cons_zero, List.set_cons_succ])
      refine wpAnyH_take (i := 14) (v := ?_) rfl (by kernel_rfl) (by kernel_rfl) (by kernel_rfl) (fun _ _ _ h => h) (Or.inl ⟨by rfl, ?_⟩) HS0 ?_
      rotate_left
      · intro W hW; (try dsimp only at hW); go_simp; try (with_reducible rfl)
      (try simp only [List.getElem_toArray, List.getElem_cons_succ, List.getElem_cons_zero, Act.put, List.setIfInBounds_toArray, List.set_cons_zero, List.set_cons_succ])
      refine wpAnyH_take (i := 15) (v := ?_) rfl (by kernel_rfl) (by kernel_rfl) (by kernel_rfl) (fun _ _ _ h => h) (Or.inl ⟨by rfl, ?_⟩) HS0 ?_
      rotate_left
      · intro W hW; (try dsimp only at hW); go_simp; try (with_reducible rfl)
      (try simp only [List.getElem_toArray, List.getElem_cons_succ, List.getElem_cons_zero, Act.put, List.setIfInBounds_toArray, List.set_cons_zero, List.set_cons_succ])
      refine wpAnyH_take (i := 16) (v := ?_) rfl (by kernel_rfl) (by kernel_rfl) (by kernel_rfl) (fun _ _ _ h => h) (Or.inl ⟨by rfl, ?_⟩) HS0 ?_
      rotate_left
      · intro W hW; (try dsimp only at hW); go_simp; try (with_reducible rfl)
      (try simp only [List.getElem_toArray, List.getElem_cons_succ, List.getElem_cons_zero, Act.put, List.setIfInBounds_toArray, List.set_cons_zero, List.set_cons_succ])
      refine wpAnyH_take (i := 17) (v := ?_) rfl (by kernel_rfl) (by kernel_rfl) (by kernel_rfl) (fun _ _ _ h => h) (Or.inl ⟨by rfl, ?_⟩) HS0 ?_
      rotate_left
      · intro W hW; (try dsimp only at hW); go_simp; try (with_reducible rfl)
      (try simp only [List.getElem_toArray, List.getElem_cons_succ, List.getElem_cons_zero, Act.put, List.setIfInBounds_toArray, List.set_cons_zero, List.set_cons_succ])
      refine wpAnyH_take (i := 18) (v := ?_) rfl (by kernel_rfl) (by kernel_rfl) (by kernel_rfl) (fun _ _ _ h => h) (Or.inl ⟨by rfl, ?_⟩) HS0 ?_
      rotate_left
      · intro W hW; (try dsimp only at hW); go_simp; try (with_reducible rfl)
      (try simp only [List.getElem_toArray, List.getElem_cons_succ, List.getElem_cons_zero, Act.put, List.setIfInBounds_toArray, List.set_cons_zero, List.set_cons_succ])
      refine run_one (i := 19) (by kernel_rfl) rfl rfl ?_
      intro K hK
      go_simp
      have hbA : Below W3.heap.size W3 (W3.alloc (.cells #[.int .i64 (x + y), .int .i64 F] 3)).drew := ((Below.refl _ W3).alloc (Nat.le_refl _) _).drew
      refine hK.out _ _ (HKS.out _ hbA) ?_
      clear hK K HS0
      intro HS0
      refine run_one (i := 20) (by kernel_rfl) rfl rfl ?_
      intro K hK
      go_simp
      refine (HPR.out (W3.alloc (.cells #[.int .i64 (x + y), .int .i64 F] 3)).drew (alloc_at W3 _ _ rfl)).mono ?_
      rintro e w4 ⟨A4, c4, l4, rfl, hn4, hb4⟩
      have hb4' : Below W3.heap.size W3 w4 := below_next hbA hb4
      refine hK.out _ _ (HKS.out _ hb4') ?_
      clear hK K HS0
      intro HS0
      refine run_one (i := 21) (by kernel_rfl) rfl rfl ?_
      intro K hK
      go_simp
      refine (HAD.out w4 A4 c4 l4 hb4' hn4).mono ?_
      rintro e w5 ⟨A5, c5, l5, rfl, hn5, hb5, hnew5⟩
      have hb5' : Below W3.heap.size W3 w5 := below_next hb4' hb5
      refine hK.out _ _ (HKS.out _ hb5') ?_
      clear hK K HS0
      intro HS0
      refine run_one (i := 22) (by kernel_rfl) rfl rfl ?_
      intro K hK
      go_simp
      have hb6 : Below w5.heap.size w5 (w5.alloc (.cells #[.slice A5 l5.length c5] 93)) := (Below.refl _ w5).alloc (Nat.le_refl _) _
      have hb6' : Below W3.heap.size W3 (w5.alloc (.cells #[.slice A5 l5.length c5] 93)) := below_next hb5' hb6
      refine hK.out _ _ (HKS.out _ hb6') ?_
      clear hK K HS0
      intro HS0
      refine wpAnyH_done (by kernel_rfl) ?_ _
      refine wp_append_lies _ _ _ _ (by rfl) w.heap.size 93 ni _ 1 24 Tryz.underlying174 hni hnz0 hnz1 hnz2 rfl (by omega) (.slice (some ⟨g2, 0, none⟩) (k + 1) cap2) (k + 1) vals (by rfl) (HO2.out _ hb6') ⟨w5.heap.size, 0, none⟩ 1 1 [.slice A5 l5.length c5] (by rfl) (by rfl) (World.news_of_block (cs := #[.slice A5 l5.length c5]) (t := 93) (fr := (0, 0)) (heap_alloc_new w5 _)) (by simp [Value.oneCell']) (by omega) (by unfold maxLen; omega) (by omega) (by have := hb6'.size; omega) (w5.heap.size + 1) (by simp) ?_
      intro g3 cap3 w6 hown6 hgr6 hat6 hlt6
      have hXs : (w5.alloc (.cells #[.slice A5 l5.length c5] 93)).heap.size = w5.heap.size + 1 := by simp
      have hN6 := NL.app2 (g := g3) (cap := cap3) (HN3.out.call hb6') (hn5.on hb6) (fun b o e hl => by
        have h1 := hnew5 b o e
        have h2 := hb4'.size
        refine ⟨by omega, fun e2 => ?_, fun e2 => ?_⟩
        · have := (ownsRow_block HN3.out.own1 e2).2; omega
        · have := (ownsRow_block HN3.out.own2 e2).2; omega) (by rw [HVL.out]; exact hown6) hgr6 (by rw [hXs]; exact hat6)
      rw [HVL.out, ← HSP.out, ← aheads_snoc] at hN6
      have HN6 := Lib.hid hN6
      have s1 : w6.cell? ⟨P, 2, none⟩ = some (.slice (some ⟨g2, 0, none⟩) (k + 1) cap2) := (hgr6.cell_far _ (by rw [hXs]; have := hb5'.size; show P < _; omega) (fun h => hPg2 (by simpa [Value.ownBlock] using h))).trans (HKS.out _ hb6').2.1
      have s2 : w6.frozen? ⟨P, 2, none⟩ = false := (hgr6.frozen_far _ (by rw [hXs]; have := hb5'.size; show P < _; omega) (fun h => hPg2 (by simpa [Value.ownBlock] using h))).trans (frozenAt (HN3.out.call hb6').box 2)
      clear hN6 hown6 hgr6 hat6 hlt6 hn5 hnew5 hn4 hb4 hb5 HS0
      simp only [LastQ]
      go_simp
      go_wp2
      go_roundw
      case rel => exact ⟨k + 1, _, _, _, by omega, by go_num, by rw [HLT.out], HN6.out⟩
      case measure => simp [intOf]; omega
    · obtain rfl : k = l.length := by omega
      have hlen : vals.length = l.length + 1 := by rw [hN.len, aheads_length]
      obtain ⟨A1, c1, rfl, _, _, _⟩ := ownsRow_shape hN.own1
      obtain ⟨g2, c2, rfl, _, hg2, _, _⟩ := ownsRow_some hN.own2 (by omega)
      rw [begins_length] at *
      have hrd1 := Rd.of_own (by have := hN.own1; rwa [begins_length] at this)
      have hrd2 := Rd.of_own (k := 1) hN.own2
      have HLR := Lib.hid (show LineR wr P A c l from by
        refine ⟨heap_lt hN.box, ⟨_, _, A1, c1, some ⟨g2, 0, none⟩, c2, rfl, rfl, by rw [← hlen]; exact hN.box, hrd1.more (Nat.zero_le _) (Nat.le_refl _), g2, 0, rfl, hg2, fun i hi => ?_⟩, HR.out.old hN.below⟩
        obtain ⟨A3, c3, l3, q1, q2, _⟩ := hN.nat i (sumP ((stgs l).take i)) (by unfold aheads; rw [List.getElem?_map, List.getElem?_range (by omega)]; rfl)
        obtain ⟨b', o', e', _, _, hc'⟩ := hrd2.2 (by omega)
        simp only [Option.some.injEq, Addr.mk.injEq, and_true] at e'
        obtain ⟨rfl, rfl⟩ := e'
        exact ⟨A3, c3, l3, hc' i _ q1, q2⟩)
      have HBL := Lib.hid hN.below
      have hPw := hN.hP
      clear hN hrd1 hrd2
      go_wp2
      go_ret
      exact ⟨P, rfl, hPw, HLR.out, HBL.out⟩
end Go.Proofs.YtepfmoaihhonlaaGreatDoor
