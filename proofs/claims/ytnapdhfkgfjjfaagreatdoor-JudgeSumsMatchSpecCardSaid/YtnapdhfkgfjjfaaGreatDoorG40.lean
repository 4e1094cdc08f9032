import Derived.Test.YtnapdhfkgfjjfaaGreatDoorR10Rks
import Derived.Test.YtnapdhfkgfjjfaaGreatDoorG39
import Derived.Test.YtnapdhfkgfjjfaaGreatDoorG33
import Derived.Test.YtnapdhfkgfjjfaaGreatDoorG25
import Derived.Test.YtnapdhfkgfjjfaaGreatDoorNatDivK
/- Package dynamometerref10: Sums. -/
namespace Go.Proofs.YtnapdhfkgfjjfaaGreatDoor
open Go Go.RowKit Go.Proofs

set_option maxHeartbeats 8000000 in
set_option maxRecDepth 100000 in
theorem rSums_any (A B : Option Addr) (c d : Nat) (a b : List Int) (w : World) (hr1 : Rd w 0 w.heap.size 1 A a.length (ints a)) (hr2 : Rd w 0 w.heap.size 1 B b.length (ints b)) (hm1 : a.length ≤ 4000000000000000000) (hm2 : b.length ≤ 4000000000000000000) :
    Calls Tryz.prog 12 #[.slice A a.length c, .slice B b.length d] w (smP a b w) := by
  obtain ⟨i0, hi0, hz0, hz1, hz2⟩ := info_parts infoIn
  unfold smP
  have HR1 := Lib.hid hr1
  have HR2 := Lib.hid hr2
  have HCK := Lib.hid (fun W (hW : Below w.heap.size w W) => rSmpF_any A B c d a b 24 W (hr1.old hW) (hr2.old hW) (by omega) (by omega))
  have hok := smC_ok (a := a) (b := b) (m := 24)
  have hokz := okZ_of (a := a) (b := b) (m := 24)
  obtain ⟨C, hC⟩ : ∃ C, C = smC a b 24 := ⟨_, rfl⟩
  rw [← hC] at HCK hok hokz ⊢
  obtain ⟨W0, hW0⟩ : ∃ W0, W0 = w.alloc (.cells #[.int .i64 0, .int .i64 0, .int .i64 0, .int .i64 0] 24) := ⟨_, rfl⟩
  have HST0 := Lib.hid (show St w W0 [(w.heap.size, .cells #[.int .i64 0, .int .i64 0, .int .i64 0, .int .i64 0] 24 (0, 0))] by rw [hW0]; exact (St.start w).alloc _ _ rfl)
  clear hC
  by_cases hz : C = 0
  · obtain ⟨hN0, hM0, hNM⟩ := hok hz
    have HC0 := Lib.hid hz
    have t1 : (C != 0) = false := by rw [hz]; rfl
    have hoz := hokz hz
    obtain ⟨b1, o1, rfl, _⟩ := hr1.2 (by omega)
    obtain ⟨b2, o2, rfl, _⟩ := hr2.2 (by omega)
    have hab : ∀ x ∈ a ++ b, -1000000 ≤ x ∧ x ≤ 1000000 := fun x hx => okZ_mem hoz hx
    have HXA := Lib.hid (show ∀ x ∈ a, -1000000 ≤ x ∧ x ≤ 1000000 from fun x hx => hab x (by simp [hx]))
    have HTB := Lib.hid (take_bd HXA.out)
    have HTS := Lib.hid (fun k x (h : a[k]? = some x) => take_sum h)
    obtain ⟨all, hall⟩ : ∃ l, l = a ++ b := ⟨_, rfl⟩
    have hal : all.length = a.length + b.length := by rw [hall]; simp
    rw [← hall] at hab ⊢
    have HALL := Lib.hid hall
    have hM : a.length + b.length ≤ 40 := by omega
    have HAL := Lib.hid hal
    have HWY := Lib.hid (fun g cap W (h : Rd W 0 W.heap.size 1 (some ⟨g, 0, none⟩) all.length (ints all)) => rWays_any (some ⟨g, 0, none⟩) cap a.length all 1000000 W h (by omega) (by omega) (by omega) (by omega) hab)
    have HWF := Lib.hid (fun j i x => wTab_wfM (W := all) (M := 1000000) (by omega) (by omega) hab (by omega) j i x)
    have hl2 := chs_length_le all a.length
    have hl3 := two_pow (j := all.length) (by omega)
    have HTL := Lib.hid (show (chs all a.length).length ≤ 1099511627776 by omega)
    rw [hal] at HWY
    obtain ⟨V, hV⟩ : ∃ V, V = a.sum := ⟨_, rfl⟩
    rw [← hV]
    have HV := Lib.hid (show V = (a.take a.length).sum by rw [List.take_length, hV])
    have HVB := Lib.hid (show -100000000 ≤ V ∧ V ≤ 100000000 by rw [HV.out]; have := HTB.out a.length (Nat.le_refl _); omega)
    have hN : a.length ≤ 39 := by omega
    clear hr1 hr2 hz hok hokz hall hal hoz hNM hab hl2 hl3 hV
    go_enter Tryz.func12, Tryz.ntmps12
    go_wp2_with fail
    rw [← hW0]
    clear hW0
    (with_reducible refine (HCK.out W0 HST0.out.below).mono ?_)
    rintro e w1 ⟨rfl, hb1⟩
    have HB1 := Lib.hid (below_next HST0.out.below hb1)
    have HB10 := Lib.hid hb1
    have hs1 : w.heap.size ≤ w1.heap.size := HB1.out.size
    have HNIL := Lib.hid (show w1.ownsRow w1.heap.size 3 1 (.slice none 0 0) 0 [] from ⟨rfl, .inl ⟨rfl, rfl⟩⟩)
    clear hb1
    go_wp2
    go_loopw [7, 8] (fun sv kv wr => ∃ k : Nat, kv = .int .i64 (k : Nat) ∧ k ≤ a.length ∧ sv = .int .i64 (a.take k).sum ∧ wr = w1) (fun _ kv _ => a.length - (intOf kv).toNat)
    case atStart => exact ⟨0, rfl, Nat.zero_le _, rfl, rfl⟩
    case round =>
      obtain ⟨k, rfl, hk, rfl, rfl⟩ := hrel
      obtain ⟨g0, g1⟩ := HTB.out k hk
      obtain ⟨S, hS⟩ : ∃ S, S = (a.take k).sum := ⟨_, rfl⟩
      rw [← hS] at g0 g1 ⊢
      have HS := Lib.hid hS
      clear hS
      by_cases hlt : k < a.length
      · obtain ⟨b', o', u, e', hbB, hu, hc⟩ := (HR1.out.old HB1.out).at1 hlt
        cases e'
        obtain ⟨x, hx, rfl⟩ := ints_get hu
        have hxb := HXA.out x (List.mem_of_getElem? hx)
        have hx0 := hxb.1
        have hx1 := hxb.2
        have q1 : IntKind.i64.wrap (S + x) = S + x := IntWalk.i64_in _ (by omega)
        have HN := Lib.hid (show (a.take (k + 1)).sum = S + x by rw [HTS.out k x hx, HS.out])
        clear hxb hu hx
        go_wp2
        go_roundw
        case rel => exact ⟨k + 1, by go_num, by omega, by rw [HN.out], trivial⟩
        case measure => simp [intOf]; omega
      · obtain rfl : k = a.length := by omega
        have HSV := Lib.hid (show S = V by rw [HV.out, HS.out])
        clear g0 g1 hlt
        go_wp2_with (at_builtin; refine wpList_append_rd rfl (.const (.slice none 0 0)) (.tmp 29) 22 rfl wr.heap.size 3 i0 _ 1 8 Tryz.underlying22 hi0 hz0 hz1 hz2 rfl (by decide) _ 0 [] rfl HNIL.out (some ⟨b1, o1, none⟩) a.length c 0 w.heap.size (ints a) rfl (fun h => by cases h) (HR1.out.below HB1.out (Nat.le_refl _)) (ints_one a) ?c3 ?c4 ?c5 ?_)
        case c3 => unfold maxLen; omega
        case c4 => omega
        case c5 => exact Nat.le_refl _
        intro v1 w2 hown1 hgr1
        have HO1 := Lib.hid hown1
        have HB21 := Lib.hid (show Below wr.heap.size wr w2 from (Fr.of_grown hgr1).below (Nat.le_refl _) (fun i hi hm => by simp [Value.ownBlock] at hm))
        have hs2 : wr.heap.size ≤ w2.heap.size := HB21.out.size
        clear hown1 hgr1
        go_wp2_with (at_builtin; refine wpList_append_rd rfl (.tmp 30) (.tmp 31) 22 rfl wr.heap.size 3 i0 _ 1 8 Tryz.underlying22 hi0 hz0 hz1 hz2 rfl (by decide) _ a.length (ints a) rfl HO1.out (some ⟨b2, o2, none⟩) b.length d 0 w.heap.size (ints b) rfl (fun h => by cases h) (HR2.out.below (below_next HB1.out HB21.out) (Nat.le_refl _)) (ints_one b) ?c3 ?c4 ?c5 ?_)
        case c3 => unfold maxLen; omega
        case c4 => omega
        case c5 => exact hs2
        intro v2 w3 hown2 hgr2
        rw [← ints_app, ← HALL.out] at hown2
        obtain ⟨g, cap, rfl, hgb, hgl, _⟩ := ownsRow_some hown2 (by omega)
        have HB3 := Lib.hid (show Below wr.heap.size wr w3 from HB21.out.trans ((Fr.of_grown hgr2).below hs2 (fun i hi hm => by have := (ownsRow_block HO1.out hm).1; omega)))
        have HBW3 := Lib.hid (below_next HB1.out HB3.out)
        have hrd : Rd w3 0 w3.heap.size 1 (some ⟨g, 0, none⟩) all.length (ints all) := by
          rw [HAL.out]
          exact (Rd.of_own hown2).more (Nat.zero_le _) (Nat.le_refl _)
        rw [HAL.out] at hrd
        have HW1 := Lib.hid (HWY.out g cap w3 hrd)
        clear hown2 hgr2 hrd
        go_wp2_with fail
        (with_reducible refine (HW1.out).mono ?_)
        rintro e w5 ⟨m, rfl, hmb, hmz, hb5⟩
        have HRK := Lib.hid (rRanked_any S m _ _ _ w5 hmz (fun x hx => HWF.out (a.length + b.length) a.length x (by unfold wTab; rw [List.take_of_length_le (by rw [HAL.out]; omega)]; exact hx)) (by have := HTL.out; omega))
        have HB5 := Lib.hid (below_next HBW3.out hb5)
        have HB50 := Lib.hid (below_next (below_next HB10.out HB3.out) hb5)
        clear hmz hb5
        go_wp2_with fail
        (with_reducible refine (HRK.out).mono ?_)
        rintro e w6 ⟨rfl, hb6⟩
        rw [HSV.out]
        have HBY := Lib.hid (below_next HB5.out hb6)
        have hst := HST0.out.call (show Below W0.heap.size W0 w6 from below_next HB50.out hb6)
        obtain ⟨L1, hL1⟩ : ∃ z, z = cntLe V (chs all a.length) := ⟨_, rfl⟩
        obtain ⟨L2, hL2⟩ : ∃ z, z = cntGe V (chs all a.length) := ⟨_, rfl⟩
        obtain ⟨L3, hL3⟩ : ∃ z, z = (chs all a.length).length := ⟨_, rfl⟩
        rw [← hL1, ← hL2, ← hL3]
        have HLL := Lib.hid (And.intro hL1 (And.intro hL2 hL3))
        have b0 : w6.cell? ⟨w.heap.size, 0, none⟩ = some (.int .i64 0) := hst.cell 0 0 rfl rfl
        have b1 : w6.cell? ⟨w.heap.size, 1, none⟩ = some (.int .i64 0) := hst.cell 0 1 rfl rfl
        have b2 : w6.cell? ⟨w.heap.size, 2, none⟩ = some (.int .i64 0) := hst.cell 0 2 rfl rfl
        have b3 : w6.cell? ⟨w.heap.size, 3, none⟩ = some (.int .i64 0) := hst.cell 0 3 rfl rfl
        have z0 := hst.frozen 0 0 rfl
        have z1 := hst.frozen 0 1 rfl
        have z2 := hst.frozen 0 2 rfl
        have z3 := hst.frozen 0 3 rfl
        have hlt := hst.lt 0 rfl
        have HBF := Lib.hid (fun x y u v => ((((HBY.out.setCell (p := ⟨w.heap.size, 0, none⟩) (Nat.le_refl _) x).setCell (p := ⟨w.heap.size, 1, none⟩) (Nat.le_refl _) y).setCell (p := ⟨w.heap.size, 2, none⟩) (Nat.le_refl _) u).setCell (p := ⟨w.heap.size, 3, none⟩) (Nat.le_refl _) v))
        clear hst hb6 hL1 hL2 hL3
        go_wp2
        refine bodyPost_ret (v := .tuple #[.agg #[.int .i64 V, .int .i64 (L1 : Nat), .int .i64 (L2 : Nat), .int .i64 (L3 : Nat)], .int .i64 0]) (by simp [results, Tryz.results12, go_sem, b0, b1, b2, b3, hlt]) rfl (.inr ⟨HC0.out, by rw [HLL.out.1, HLL.out.2.1, HLL.out.2.2], HBF.out _ _ _ _⟩)
  · have HNE := Lib.hid hz
    have t1 : (C != 0) = true := by rw [bne_iff_ne]; exact hz
    clear hz hok hokz hr1 hr2
    go_enter Tryz.func12, Tryz.ntmps12
    go_wp2_with fail
    rw [← hW0]
    clear hW0
    (with_reducible refine (HCK.out W0 HST0.out.below).mono ?_)
    rintro e w1 ⟨rfl, hb1⟩
    have hst1 := HST0.out.call hb1
    have k0 : w1.cell? ⟨w.heap.size, 0, none⟩ = some (.int .i64 0) := hst1.cell 0 0 rfl rfl
    have k1 : w1.cell? ⟨w.heap.size, 1, none⟩ = some (.int .i64 0) := hst1.cell 0 1 rfl rfl
    have k2 : w1.cell? ⟨w.heap.size, 2, none⟩ = some (.int .i64 0) := hst1.cell 0 2 rfl rfl
    have k3 : w1.cell? ⟨w.heap.size, 3, none⟩ = some (.int .i64 0) := hst1.cell 0 3 rfl rfl
    have z0 := hst1.frozen 0 0 rfl
    have z1 := hst1.frozen 0 1 rfl
    have z2 := hst1.frozen 0 2 rfl
    have z3 := hst1.frozen 0 3 rfl
    have hlt := hst1.lt 0 rfl
    have HBF := Lib.hid (fun x y u v => ((((below_next HST0.out.below hb1).setCell (p := ⟨w.heap.size, 0, none⟩) (Nat.le_refl _) x).setCell (p := ⟨w.heap.size, 1, none⟩) (Nat.le_refl _) y).setCell (p := ⟨w.heap.size, 2, none⟩) (Nat.le_refl _) u).setCell (p := ⟨w.heap.size, 3, none⟩) (Nat.le_refl _) v)
    clear hb1 hst1
    go_wp2
    refine bodyPost_ret (v := .tuple #[.agg #[.int .i64 0, .int .i64 0, .int .i64 0, .int .i64 0], .int .i64 C]) (by simp [results, Tryz.results12, go_sem, k0, k1, k2, k3]) rfl (.inl ⟨HNE.out, rfl, HBF.out _ _ _ _⟩)
end Go.Proofs.YtnapdhfkgfjjfaaGreatDoor

/- A map of integers has no more entries than there are keys in its range. -/
namespace Go.Proofs.YtnapdhfkgfjjfaaGreatDoor
open Go Go.RowKit Go.Proofs

theorem nd_len : ∀ (N : Nat) (l : List Int), l.Nodup → (∀ x ∈ l, 0 ≤ x ∧ x < (N : Int)) → l.length ≤ N
  | 0, l, _, h => by
    cases l with
    | nil => exact Nat.le_refl _
    | cons x l => have := h x (by simp); omega
  | N + 1, l, hn, h => by
    have ih := nd_len N (l.filter (fun x => x != (N : Int))) (hn.filter _) (fun x hx => by
      rw [List.mem_filter] at hx
      have h1 := h x hx.1
      have h2 : x ≠ (N : Int) := by simpa using hx.2
      omega)
    have hc : l.count (N : Int) ≤ 1 := List.nodup_iff_count.1 hn _
    have e := List.length_eq_countP_add_countP (fun x => x != (N : Int)) (l := l)
    rw [List.countP_eq_length_filter] at e
    have e2 : List.countP (fun x => decide (¬(x != (N : Int)) = true)) l = l.count (N : Int) := by
      unfold List.count
      refine List.countP_congr fun x _ => ?_
      simp
    rw [e2] at e
    omega
/-- the number in a key -/
def litI : Lit → Int
  | .int _ x => x
  | _ => 0
theorem MapZ.small {w : World} {m n N : Nat} {B : Int} {f : Int → Int} (h : MapZ w m n B f) (hB : 2 * B + 1 ≤ (N : Int)) : MapZ w m N B f := by
  obtain ⟨D, ⟨es, clock, hb, F, hs, hD⟩, h2, h3⟩ := h
  have hkey : ∀ p ∈ es.toList.map (WideElems.rg Tryz.prog 3 (plainElem (H := Unit) Tryz.prog 3)), ∃ x, p.1 = .int .i64 x ∧ -B ≤ x ∧ x ≤ B := by
    intro p hp
    obtain ⟨x, hx, rfl⟩ := List.mem_map.1 hp
    obtain ⟨y, hy⟩ := F.reads x hx
    obtain ⟨z, _, hz, _⟩ := Maps.keyOf_int_inv Tryz.underlying3 (WideElems.rd_key hy)
    rw [WideElems.rg_of hy]
    refine ⟨z, hz, h3 z ?_⟩
    rw [hD, Maps.has_eq, List.any_eq_true]
    refine ⟨y, Go.mem_sorted.2 (List.mem_map.2 ⟨x, hx, WideElems.rg_of hy⟩), ?_⟩
    rw [hz]
    exact WideAt.sameKey_self trivial
  refine ⟨D, ⟨es, clock, hb, F, ?_, hD⟩, h2, h3⟩
  have hap := Maps.fit_apart lawZ F
  have hnd : ((es.toList.map (WideElems.rg Tryz.prog 3 (plainElem (H := Unit) Tryz.prog 3))).map (fun p => litI p.1 + B)).Nodup := by
    rw [List.Nodup, List.pairwise_map]
    refine List.Pairwise.imp_of_mem ?_ hap
    intro p q hp hq hne he
    obtain ⟨x, hx, _⟩ := hkey p hp
    obtain ⟨y, hy, _⟩ := hkey q hq
    rw [hx, hy] at he hne
    have : x = y := by simpa [litI] using he
    exact hne (by rw [this])
  have := nd_len N _ hnd (fun z hz => by
    obtain ⟨p, hp, rfl⟩ := List.mem_map.1 hz
    obtain ⟨x, hx, h0, h1⟩ := hkey p hp
    rw [hx]
    show 0 ≤ x + B ∧ x + B < _
    omega)
  simpa using this
end Go.Proofs.YtnapdhfkgfjjfaaGreatDoor

/- The signs of pairs: plain. -/
namespace Go.Proofs.YtnapdhfkgfjjfaaGreatDoor

/-- the sums of all sets of d ones -/
def tS : Nat → List Int
  | 0 => [0]
  | d + 1 => tS d ++ (tS d).map (1 + ·)
theorem tS_zero (x : Int) : cN (tS 0) x = if x = 0 then 1 else 0 := cN_one x
theorem tS_succ (d : Nat) (x : Int) : cN (tS (d + 1)) x = cN (tS d) x + cN (tS d) (x - 1) := by
  unfold cN
  rw [show tS (d + 1) = tS d ++ (tS d).map (1 + ·) from rfl, List.count_append, count_add]
  omega
theorem tS_len : ∀ d, (tS d).length = 2 ^ d
  | 0 => rfl
  | d + 1 => by rw [show tS (d + 1) = tS d ++ (tS d).map (1 + ·) from rfl, List.length_append, List.length_map, tS_len d, Nat.pow_succ]; omega
theorem tS_in : ∀ d, ∀ x ∈ tS d, 0 ≤ x ∧ x ≤ (d : Int)
  | 0, x, h => by
    have : x = 0 := by simpa [tS] using h
    omega
  | d + 1, x, h => by
    rw [show tS (d + 1) = tS d ++ (tS d).map (1 + ·) from rfl, List.mem_append] at h
    rcases h with h | h
    · have := tS_in d x h; omega
    · obtain ⟨y, hy, rfl⟩ := List.mem_map.1 h
      have := tS_in d y hy; omega
theorem tS_le : ∀ (d j : Nat), cntLe ((j : Int) - 1) (tS d) = bwS 1 1 d j
  | d, 0 => by
    have : cntLe (((0 : Nat) : Int) - 1) (tS d) = 0 := by
      unfold cntLe
      rw [List.countP_eq_zero]
      intro x hx
      have := tS_in d x hx
      simp; omega
    rw [this]; rfl
  | 0, j + 1 => by
    have h1 : cntLe (((j + 1 : Nat) : Int) - 1) (tS 0) = 1 := by
      unfold cntLe tS
      rw [List.countP_cons, List.countP_nil]
      have : decide ((0 : Int) ≤ ((j + 1 : Nat) : Int) - 1) = true := decide_eq_true (by omega)
      rw [this]; rfl
    have h2 := bwS_over 1 1 0 j
    have h3 := bwS_all 1 1 0
    rw [h1, show j + 1 = 0 + 1 + j by omega, h2, h3]
  | d + 1, j + 1 => by
    have i1 := tS_le d (j + 1)
    have i2 := tS_le d j
    rw [bwS_succ, ← i1, ← i2, Nat.mul_one, Nat.mul_one]
    have e : cntLe (((j + 1 : Nat) : Int) - 1) (tS (d + 1)) = cntLe (((j + 1 : Nat) : Int) - 1) (tS d) + cntLe (((j + 1 : Nat) : Int) - 1) ((tS d).map (1 + ·)) := by
      unfold cntLe
      rw [show tS (d + 1) = tS d ++ (tS d).map (1 + ·) from rfl, List.countP_append]
    rw [e, cntLe_shift, show ((j + 1 : Nat) : Int) - 1 - 1 = (j : Int) - 1 by omega]
theorem tS_lo (d V : Nat) : cntLe (V : Int) (tS d) = bwS 1 1 d (V + 1) := by
  rw [← tS_le, show ((V + 1 : Nat) : Int) - 1 = (V : Int) by omega]
theorem cnt_split (v : Int) : ∀ l : List Int, cntLe (v - 1) l + cntGe v l = l.length
  | [] => rfl
  | x :: l => by
    have ih := cnt_split v l
    unfold cntLe cntGe at *
    rw [List.countP_cons, List.countP_cons, List.length_cons]
    by_cases h : v ≤ x
    · have h1 : decide (x ≤ v - 1) = false := decide_eq_false (by omega)
      have h2 : decide (v ≤ x) = true := decide_eq_true h
      simp only [h1, h2]; simp; omega
    · have h1 : decide (x ≤ v - 1) = true := decide_eq_true (by omega)
      have h2 : decide (v ≤ x) = false := decide_eq_false h
      simp only [h1, h2]; simp; omega
theorem tS_hi (d V : Nat) : cntGe (V : Int) (tS d) + bwS 1 1 d V = 2 ^ d := by
  have h := cnt_split (V : Int) (tS d)
  rw [tS_le, tS_len] at h
  omega
/-- sums of all, of those up to V and of those from V on, among the first j -/
def sgLo (d V j : Nat) : Nat := bwS 1 1 d (min j (V + 1))
def sgHi (d V j : Nat) : Nat := bwS 1 1 d j - bwS 1 1 d (min j V)
theorem bwS_next (d j : Nat) : bwS 1 1 d (j + 1) = bwS 1 1 d j + bw 1 1 d j := rfl
theorem bwS_up (d i : Nat) : ∀ j, bwS 1 1 d i ≤ bwS 1 1 d (i + j)
  | 0 => Nat.le_refl _
  | j + 1 => by have := bwS_up d i j; rw [show i + (j + 1) = i + j + 1 by omega, bwS_next]; omega
theorem bwS_bd {d j : Nat} (hj : j ≤ d + 1) : bwS 1 1 d j ≤ 2 ^ d := by
  have h1 := bwS_all 1 1 d
  have h2 := bwS_up d j (d + 1 - j)
  rw [show j + (d + 1 - j) = d + 1 by omega, h1] at h2
  exact h2
theorem sgLo_zero (d V : Nat) : sgLo d V 0 = 0 := by unfold sgLo; rw [Nat.zero_min]; rfl
theorem sgHi_zero (d V : Nat) : sgHi d V 0 = 0 := by unfold sgHi; rw [Nat.zero_min, Nat.sub_self]
theorem sgLo_next (d V j : Nat) : sgLo d V (j + 1) = sgLo d V j + (if j ≤ V then bw 1 1 d j else 0) := by
  unfold sgLo
  by_cases h : j ≤ V
  · rw [if_pos h, Nat.min_eq_left (by omega), Nat.min_eq_left (by omega), bwS_next]
  · rw [if_neg h, Nat.min_eq_right (by omega), Nat.min_eq_right (by omega)]; rfl
theorem sgHi_next (d V j : Nat) : sgHi d V (j + 1) = sgHi d V j + (if V ≤ j then bw 1 1 d j else 0) := by
  unfold sgHi
  by_cases h : V ≤ j
  · have h1 := bwS_up d V (j - V)
    rw [show V + (j - V) = j by omega] at h1
    rw [if_pos h, Nat.min_eq_right (by omega), Nat.min_eq_right h, bwS_next]; omega
  · rw [if_neg h, Nat.min_eq_left (by omega), Nat.min_eq_left (by omega), Nat.sub_self, Nat.sub_self]
theorem sgLo_all {d V : Nat} (h : V ≤ d) : sgLo d V (d + 1) = cntLe (V : Int) (tS d) := by
  unfold sgLo
  rw [tS_lo, Nat.min_eq_right (by omega)]
theorem sgHi_all {d V : Nat} (h : V ≤ d) : sgHi d V (d + 1) = cntGe (V : Int) (tS d) := by
  have h1 := tS_hi d V
  have h2 := bwS_all 1 1 d
  unfold sgHi
  rw [Nat.min_eq_right (by omega), h2]
  show 2 ^ d - _ = _
  omega
theorem sgAll_all (d : Nat) : bwS 1 1 d (d + 1) = (tS d).length := by rw [tS_len]; exact bwS_all 1 1 d
theorem sg_bd {d V j : Nat} (hj : j ≤ d + 1) : sgLo d V j ≤ 2 ^ d ∧ sgHi d V j ≤ 2 ^ d ∧ bwS 1 1 d j ≤ 2 ^ d := by
  have h1 := bwS_bd hj
  have h2 := bwS_bd (d := d) (j := min j (V + 1)) (Nat.le_trans (Nat.min_le_left _ _) hj)
  unfold sgLo sgHi
  omega
/-- pairs that differ, and pairs of which the second is greater, among the first k -/
def sgD (a b : List Int) (k : Nat) : Nat := ((a.zip b).take k).countP (fun p => p.1 != p.2)
def sgV (a b : List Int) (k : Nat) : Nat := ((a.zip b).take k).countP (fun p => decide (p.1 < p.2))
theorem zip_at {a b : List Int} {k : Nat} {x y : Int} (h1 : a[k]? = some x) (h2 : b[k]? = some y) : (a.zip b)[k]? = some (x, y) := by
  rw [List.getElem?_zip_eq_some]; exact ⟨h1, h2⟩
theorem sgD_next {a b : List Int} {k : Nat} {x y : Int} (h1 : a[k]? = some x) (h2 : b[k]? = some y) : sgD a b (k + 1) = sgD a b k + (if x = y then 0 else 1) := by
  unfold sgD
  rw [List.take_add_one, zip_at h1 h2, List.countP_append]
  by_cases h : x = y
  · subst h; simp
  · rw [if_neg h]
    have : (x != y) = true := by simpa using h
    simp [this]
theorem sgV_next {a b : List Int} {k : Nat} {x y : Int} (h1 : a[k]? = some x) (h2 : b[k]? = some y) : sgV a b (k + 1) = sgV a b k + (if x < y then 1 else 0) := by
  unfold sgV
  rw [List.take_add_one, zip_at h1 h2, List.countP_append]
  by_cases h : x < y
  · rw [if_pos h]; simp [h]
  · rw [if_neg h]; simp [h]
theorem sgD_zero (a b : List Int) : sgD a b 0 = 0 := rfl
theorem sgV_zero (a b : List Int) : sgV a b 0 = 0 := rfl
theorem sg_le (a b : List Int) (k : Nat) : sgV a b k ≤ sgD a b k ∧ sgD a b k ≤ k := by
  unfold sgV sgD
  refine ⟨List.countP_mono_left fun p _ h => ?_, ?_⟩
  · have : p.1 < p.2 := by simpa using h
    simp; omega
  · refine Nat.le_trans List.countP_le_length ?_
    rw [List.length_take]; omega
/-- the table of the next step while the entries of this one are gone through -/
def gS (f : Int → Int) (done : Int → Bool) (x : Int) : Int := (if done x = true then f x else 0) + if done (x - 1) = true then f (x - 1) else 0
theorem gS_start (f : Int → Int) : gS f (fun _ => false) = fun _ => 0 := by funext x; unfold gS; simp
theorem gS_one (f : Int → Int) (done : Int → Bool) (y : Int) (h : done y = false) (x : Int) : (if x = y then gS f done y + f y else gS f done x) = (if (done x || x == y) = true then f x else 0) + if done (x - 1) = true then f (x - 1) else 0 := by
  by_cases hx : x = y
  · subst hx
    rw [if_pos rfl]
    unfold gS
    rw [h]; simp; omega
  · rw [if_neg hx]
    unfold gS
    have : (x == y) = false := by simpa using hx
    simp [this]
theorem gS_two (f : Int → Int) (done : Int → Bool) (y : Int) (h : done y = false) (x : Int) :
    (if x = y + 1 then (if y + 1 = y then gS f done y + f y else gS f done (y + 1)) + f y else if x = y then gS f done y + f y else gS f done x) = gS f (fun z => done z || z == y) x := by
  rw [gS_one f done y h x, gS_one f done y h (y + 1)]
  unfold gS
  by_cases hx : x = y + 1
  · subst hx
    rw [if_pos rfl, show y + 1 - 1 = y by omega, h]
    simp
  · rw [if_neg hx]
    have : (x - 1 == y) = false := by simp; omega
    simp only [this, Bool.or_false]
theorem gS_all (f : Int → Int) (done : Int → Bool) (x : Int) (h1 : f x ≠ 0 → done x = true) (h2 : f (x - 1) ≠ 0 → done (x - 1) = true) : gS f done x = f x + f (x - 1) := by
  unfold gS
  have e1 : (if done x = true then f x else 0) = f x := by
    by_cases hf : f x = 0
    · rw [hf]; simp
    · rw [if_pos (h1 hf)]
  have e2 : (if done (x - 1) = true then f (x - 1) else 0) = f (x - 1) := by
    by_cases hf : f (x - 1) = 0
    · rw [hf]; simp
    · rw [if_pos (h2 hf)]
  rw [e1, e2]
theorem gS_bd {f : Int → Int} {done : Int → Bool} {B : Int} (h : ∀ x, 0 ≤ f x ∧ f x ≤ B) (x : Int) : 0 ≤ gS f done x ∧ gS f done x ≤ 2 * B := by
  have h1 := h x
  have h2 := h (x - 1)
  unfold gS
  split <;> split <;> omega
theorem tS_bd (d : Nat) (x : Int) : 0 ≤ cN (tS d) x ∧ cN (tS d) x ≤ ((2 ^ d : Nat) : Int) := by
  have h1 : (tS d).count x ≤ (tS d).length := List.count_le_length
  rw [tS_len] at h1
  unfold cN
  omega
theorem tS_nz {d : Nat} {x : Int} (h : cN (tS d) x ≠ 0) : 0 ≤ x ∧ x ≤ (d : Int) := by
  refine tS_in d x (List.count_pos_iff.1 (Nat.pos_of_ne_zero fun hc => h ?_))
  unfold cN; rw [hc]; rfl
end Go.Proofs.YtnapdhfkgfjjfaaGreatDoor

/- nat.Int. -/
namespace Go.Proofs.YtnapdhfkgfjjfaaGreatDoor
open Go Go.RowKit Go.Proofs

set_option maxHeartbeats 1000000 in
set_option maxRecDepth 100000 in
theorem natIntV_any (A : Option Addr) (c : Nat) (l : List Nat) (x : Nat) (w : World) (h : NatR w A c l x) (hs : l.length ≤ 1000000) (hx : x < 9223372036854775808) :
    Calls Tryz.prog 40 #[.slice A l.length c] w fun e w' => e = .returned (.tuple #[.int .i64 (x : Int), .bool true]) ∧ w = w' := by
  match l, h, hs with
  | [], h, _ =>
    have HX := Lib.hid (show x = 0 by have := h.val; simp [val] at this; exact this.symm)
    clear h
    go_enter Tryz.func40, Tryz.ntmps40
    go_wp2
    go_ret2
    exact ⟨by rw [HX.out]; rfl, rfl⟩
  | [d], h, _ =>
    obtain rfl : x = d := by have := h.val; simp [val] at this; exact this.symm
    obtain ⟨b, o, u, rfl, hb, hu, qd⟩ := h.rd.at1 (show 0 < [x].length by simp)
    obtain ⟨d', hd', rfl⟩ := u64s_get hu
    obtain rfl : x = d' := by simpa using hd'
    rw [Nat.add_zero] at qd
    have t1 : decide (9223372036854775808 ≤ (x : Int)) = false := by simp; omega
    clear h hu hd'
    go_enter Tryz.func40, Tryz.ntmps40
    go_wp2
    go_ret2
    exact ⟨rfl, rfl⟩
  | a :: b :: r, h, _ =>
    exfalso
    have h1 := val_ge W64_pos h.norm (by simp)
    rw [h.val] at h1
    have h2 : W64 ^ 1 ≤ W64 ^ ((a :: b :: r).length - 1) := Nat.pow_le_pow_right (by unfold W64; omega) (by simp)
    rw [Nat.pow_one] at h2
    unfold W64 at h1 h2
    omega
end Go.Proofs.YtnapdhfkgfjjfaaGreatDoor
