import Derived.Test.YtnapdhfkgfjjfaaGreatDoorG41
import Derived.Test.YtnapdhfkgfjjfaaGreatDoorJRnkW
import Derived.Test.YtnapdhfkgfjjfaaGreatDoorRows
import Derived.WalkKit
import Derived.ProofKit
import Derived.OpenShut
import Derived.JoinedCond
import Derived.Deep.SlicePairs
import Derived.Deep.Strs
import Derived.Lib.SmallJoins
import Derived.SizedLaws
import Derived.Test.YtnapdhfkgfjjfaaGreatDoorCards
import Derived.Test.YtnapdhfkgfjjfaaGreatDoorTie
import Derived.Test.YtnapdhfkgfjjfaaGreatDoorG30
import Derived.Lay
import Derived.Deep.DeepHandedRow
import Derived.Lib.LaidTab
/- JudgeRanksAreSymmetric: the law's walk. -/
namespace Go.Proofs.YtnapdhfkgfjjfaaGreatDoor
open Go Go.RowKit Go.Proofs

theorem okZ_swap (a b : List Int) : okZ (a ++ b) = okZ (b ++ a) := by unfold okZ; rw [List.all_append, List.all_append, Bool.and_comm]
theorem smC_symm (a b : List Int) (m : Int) : smC a b m = smC b a m := by
  unfold smC
  rw [okZ_swap a b]
  have h1 : (a.length = 0 ∨ b.length = 0) ↔ (b.length = 0 ∨ a.length = 0) := Or.comm
  by_cases h : a.length = 0 ∨ b.length = 0
  · rw [if_pos h, if_pos (h1.1 h)]
  · rw [if_neg h, if_neg (fun hc => h (h1.2 hc)), Int.add_comm]
theorem rkS_eq (a b : List Int) : rkS a b = (a.map (scr (a ++ b))).sum := by unfold rkS vSum; rw [List.take_length]
theorem scrs_two (a b : List Int) : scrs (a ++ b) = a.map (scr (a ++ b)) ++ b.map (scr (a ++ b)) := by unfold scrs; rw [List.map_append]
theorem scr_comm (a b : List Int) : scr (b ++ a) = scr (a ++ b) := funext fun x => scr_perm List.perm_append_comm x
theorem rkS_both (a b : List Int) : rkS a b + rkS b a = (scrs (a ++ b)).sum := by
  rw [rkS_eq, rkS_eq, scr_comm a b, scrs_two, List.sum_append]
theorem rkS_val (a b : List Int) : rkS a b - (a.length : Int) * (a.length : Int) + (rkS b a - (b.length : Int) * (b.length : Int)) = 2 * (a.length : Int) * (b.length : Int) := by
  have h1 := rkS_both a b
  rw [scr_all] at h1
  have h2 : ((a ++ b).length : Int) = (a.length : Int) + (b.length : Int) := by simp
  rw [h2] at h1
  have h3 : ((a.length : Int) + (b.length : Int)) * ((a.length : Int) + (b.length : Int)) = (a.length : Int) * (a.length : Int) + 2 * (a.length : Int) * (b.length : Int) + (b.length : Int) * (b.length : Int) := by grind
  omega
theorem rkT_perm (a b : List Int) : (rkT b a).Perm ((rkT a b).map (fun s => (rkS a b + rkS b a) - s)) := by
  have h1 : (scrs (b ++ a)).Perm (scrs (a ++ b)) := scrs_perm List.perm_append_comm
  have h2 := chs_rest (scrs (a ++ b)) a.length b.length (by unfold scrs; simp)
  unfold rkT
  rw [rkS_both]
  exact (chs_perm h1 b.length).trans h2
theorem cntGe_rest (T v : Int) (l : List Int) : cntGe v (l.map (fun s => T - s)) = cntLe (T - v) l := by
  unfold cntLe cntGe
  rw [List.countP_map]
  refine List.countP_congr fun x _ => ?_
  simp only [Function.comp_def, decide_eq_true_eq]
  omega
theorem rk_low (a b : List Int) : cntLe (rkS a b) (rkT a b) = cntGe (rkS b a) (rkT b a) := by
  rw [cntGe_perm (rkT_perm a b), cntGe_rest]
  congr 1
  omega
theorem rk_high (a b : List Int) : cntGe (rkS a b) (rkT a b) = cntLe (rkS b a) (rkT b a) := by
  rw [cntLe_perm (rkT_perm a b), cntLe_rest]
  congr 1
  omega
theorem rk_all (a b : List Int) : (rkT a b).length = (rkT b a).length := by rw [(rkT_perm a b).length_eq, List.length_map]
theorem rk_more (a b : List Int) : (rkT a b).length < cntLe (rkS a b) (rkT a b) + cntGe (rkS a b) (rkT a b) := by
  refine cnt_more ?_
  have h := chs_prefix (a.map (scr (a ++ b))) (b.map (scr (a ++ b)))
  rw [← scrs_two, List.length_map] at h
  unfold rkT
  rw [rkS_eq]
  exact h
theorem rk_len (a b : List Int) (h : a.length + b.length ≤ 40) : (rkT a b).length ≤ 1099511627776 := by
  have h1 := chs_length_le (scrs (a ++ b)) a.length
  have h2 := two_pow (j := (scrs (a ++ b)).length) (by rw [scrs_len]; simp; omega)
  unfold rkT
  omega
theorem rk_cnt (a b : List Int) (h : a.length + b.length ≤ 40) : cntLe (rkS a b) (rkT a b) ≤ 1099511627776 ∧ cntGe (rkS a b) (rkT a b) ≤ 1099511627776 := by
  have h0 := rk_len a b h
  have h1 : cntLe (rkS a b) (rkT a b) ≤ (rkT a b).length := List.countP_le_length
  have h2 : cntGe (rkS a b) (rkT a b) ≤ (rkT a b).length := List.countP_le_length
  omega
theorem rkS_bd (a b : List Int) (h : a.length + b.length ≤ 40) : 0 ≤ rkS a b ∧ rkS a b ≤ 3200 := by
  have := vSum_bd (a ++ b) a a.length (by simp; omega)
  unfold rkS
  omega
set_option maxHeartbeats 8000000 in
set_option maxRecDepth 100000 in
theorem lawSym_any (A B : Option Addr) (c d : Nat) (a b : List Int) (w : World) (htab : Tab w.heap.size w) (hr1 : Rd w 0 w.heap.size 1 A a.length (ints a)) (hr2 : Rd w 0 w.heap.size 1 B b.length (ints b)) (hc1 : a.length ≤ c) (hc2 : b.length ≤ d) (hm1 : a.length ≤ 4000000000000000000) (hm2 : b.length ≤ 4000000000000000000) :
    Calls Tryz.prog 3 #[.slice A a.length c, .slice B b.length d] w fun e w' => e = .returned (.bool true) ∧ Below w.heap.size w w' := by
  have HH := Lib.hid (fun W (hW : Below w.heap.size w W) => halves_any W ((htab.on hW).mono hW.size))
  have HJ1 := Lib.hid (fun W (hW : Below w.heap.size w W) => jRanks_any A B c d a b W (hr1.old hW) (hr2.old hW) hc1 hc2 hm1 hm2)
  have HJ2 := Lib.hid (fun W (hW : Below w.heap.size w W) => jRanks_any B A d c b a W (hr2.old hW) (hr1.old hW) hc2 hc1 hm2 hm1)
  unfold rkP at HJ1 HJ2
  rw [smC_symm b a] at HJ2
  have hok := smC_ok (a := a) (b := b) (m := 40)
  obtain ⟨C, hC⟩ : ∃ C, C = smC a b 40 := ⟨_, rfl⟩
  rw [← hC] at HJ1 HJ2 hok
  clear htab hr1 hr2 hC
  by_cases hz : C = 0
  · obtain ⟨hN0, hM0, hNM⟩ := hok hz
    have hs := rkS_bd a b (by omega)
    have hs2 := rkS_bd b a (by omega)
    have hv := rkS_val a b
    have g1 := rk_low a b
    have g2 := rk_high a b
    have g3 := rk_all a b
    have g4 := rk_more a b
    have g5 := rk_len a b (by omega)
    have g6 := rk_cnt a b (by omega)
    have hnn : (a.length : Int) * (a.length : Int) ≤ 1600 := by
      have h1 : (a.length : Int) ≤ 40 := by omega
      have := Int.mul_le_mul h1 h1 (by omega) (by omega)
      omega
    have hnn2 : (b.length : Int) * (b.length : Int) ≤ 1600 := by
      have h1 : (b.length : Int) ≤ 40 := by omega
      have := Int.mul_le_mul h1 h1 (by omega) (by omega)
      omega
    have hn0 : 0 ≤ (a.length : Int) * (a.length : Int) := Int.mul_nonneg (by omega) (by omega)
    have hn1 : 0 ≤ (b.length : Int) * (b.length : Int) := Int.mul_nonneg (by omega) (by omega)
    have hab : 2 * (a.length : Int) * (b.length : Int) ≤ 6400 := by omega
    have hab0 : 0 ≤ 2 * (a.length : Int) * (b.length : Int) := Int.mul_nonneg (by omega) (by omega)
    unfold rkR at HJ1 HJ2
    rw [← g1, ← g2, ← g3] at HJ2
    obtain ⟨V1, hV1⟩ : ∃ V, V = rkS a b - (a.length : Int) * (a.length : Int) := ⟨_, rfl⟩
    obtain ⟨V2, hV2⟩ : ∃ V, V = rkS b a - (b.length : Int) * (b.length : Int) := ⟨_, rfl⟩
    obtain ⟨Lo, hLo⟩ : ∃ V, V = cntLe (rkS a b) (rkT a b) := ⟨_, rfl⟩
    obtain ⟨Hi, hHi⟩ : ∃ V, V = cntGe (rkS a b) (rkT a b) := ⟨_, rfl⟩
    obtain ⟨Al, hAl⟩ : ∃ V, V = (rkT a b).length := ⟨_, rfl⟩
    rw [← hV1, ← hLo, ← hHi, ← hAl] at HJ1
    rw [← hV2, ← hLo, ← hHi, ← hAl] at HJ2
    rw [← hV1, ← hV2] at hv
    rw [← hLo, ← hHi, ← hAl] at g4
    rw [← hAl] at g5
    rw [← hLo, ← hHi] at g6
    have q1 : -1600 ≤ V1 := by omega
    have q2 : V1 ≤ 3200 := by omega
    have q3 : -1600 ≤ V2 := by omega
    have q4 : V2 ≤ 3200 := by omega
    have q5 : Lo ≤ 1099511627776 := g6.1
    have q6 : Hi ≤ 1099511627776 := g6.2
    have t5 : decide ((Al : Int) < (Lo : Int) + (Hi : Int)) = true := decide_eq_true (by omega)
    have ha40 : (a.length : Int) ≤ 40 := by omega
    have hb40 : (b.length : Int) ≤ 40 := by omega
    clear hok hN0 hM0 hNM hs hs2 g1 g2 g3 g4 g6 hnn hnn2 hn0 hn1 hV1 hV2 hLo hHi hAl
    obtain ⟨K, hK⟩ : ∃ K, K = 2 * (a.length : Int) * (b.length : Int) := ⟨_, rfl⟩
    rw [← hK] at hv hab hab0
    have HK := Lib.hid hK
    have hK' := hK.symm
    clear hK
    go_enter Tryz.func3, Tryz.ntmps3
    go_wp2_with fail
    (with_reducible refine (HJ1.out _ (Below.refl _ _)).mono ?_)
    rintro e w1 (⟨hne, _⟩ | ⟨_, rfl, hb1⟩)
    · exact absurd hz hne
    obtain ⟨W2, hW2⟩ : ∃ W2, W2 = w1.alloc (.cells #[.int .i64 V1, .int .i64 (Lo : Nat), .int .i64 (Hi : Nat), .int .i64 (Al : Nat)] 24) := ⟨_, rfl⟩
    have hb12 : Below w1.heap.size w1 W2 := by rw [hW2]; exact (Below.refl _ w1).alloc (Nat.le_refl _) _
    have HX1 := Lib.hid (show W2.heap[w1.heap.size]? = some (.cells #[.int .i64 V1, .int .i64 (Lo : Nat), .int .i64 (Hi : Nat), .int .i64 (Al : Nat)] 24 (0, 0)) by rw [hW2]; exact alloc_at _ _ _ rfl)
    have HB2 := Lib.hid (below_next hb1 hb12)
    clear hb1 hb12
    go_wp2_with fail
    rw [← hW2]
    clear hW2
    (with_reducible refine (HJ2.out _ HB2.out).mono ?_)
    rintro e w3 (⟨hne, _⟩ | ⟨_, rfl, hb3⟩)
    · exact absurd hz hne
    obtain ⟨W4, hW4⟩ : ∃ W4, W4 = w3.alloc (.cells #[.int .i64 V2, .int .i64 (Hi : Nat), .int .i64 (Lo : Nat), .int .i64 (Al : Nat)] 24) := ⟨_, rfl⟩
    have hb34 : Below w3.heap.size w3 W4 := by rw [hW4]; exact (Below.refl _ w3).alloc (Nat.le_refl _) _
    have e1 := ((below_next hb3 hb34).block _ (heap_lt HX1.out)).trans HX1.out
    have e2 : W4.heap[w3.heap.size]? = some (.cells #[.int .i64 V2, .int .i64 (Hi : Nat), .int .i64 (Lo : Nat), .int .i64 (Al : Nat)] 24 (0, 0)) := by rw [hW4]; exact alloc_at _ _ _ rfl
    have HB4 := Lib.hid (below_next HB2.out (below_next hb3 hb34))
    have k0 : W4.cell? ⟨w1.heap.size, 0, none⟩ = some (.int .i64 V1) := by rw [cellsAt e1]; rfl
    have k1 : W4.cell? ⟨w1.heap.size, 1, none⟩ = some (.int .i64 (Lo : Nat)) := by rw [cellsAt e1]; rfl
    have k2 : W4.cell? ⟨w1.heap.size, 2, none⟩ = some (.int .i64 (Hi : Nat)) := by rw [cellsAt e1]; rfl
    have k3 : W4.cell? ⟨w1.heap.size, 3, none⟩ = some (.int .i64 (Al : Nat)) := by rw [cellsAt e1]; rfl
    have j0 : W4.cell? ⟨w3.heap.size, 0, none⟩ = some (.int .i64 V2) := by rw [cellsAt e2]; rfl
    have j1 : W4.cell? ⟨w3.heap.size, 1, none⟩ = some (.int .i64 (Hi : Nat)) := by rw [cellsAt e2]; rfl
    have j2 : W4.cell? ⟨w3.heap.size, 2, none⟩ = some (.int .i64 (Lo : Nat)) := by rw [cellsAt e2]; rfl
    have j3 : W4.cell? ⟨w3.heap.size, 3, none⟩ = some (.int .i64 (Al : Nat)) := by rw [cellsAt e2]; rfl
    rw [hW4] at k0 k1 k2 k3 j0 j1 j2 j3
    have HHH := Lib.hid (show Calls Tryz.prog 10 #[] W4 _ from HH.out W4 HB4.out)
    have tz : (C != 0) = false := by rw [hz]; rfl
    clear hb3 hb34 e1 e2
    go_wp2_with fail
    rw [← hW4]
    clear hW4 k0 k1 k2 k3 j0 j1 j2 j3
    (with_reducible refine (HHH.out).mono ?_)
    rintro e w5 ⟨rfl, hb5⟩
    have HB5 := Lib.hid (below_next HB4.out hb5)
    clear hb5
    go_wp2
    go_ret
    exact ⟨by rfl, HB5.out⟩
  · have t1 : (C != 0) = true := by rw [bne_iff_ne]; exact hz
    have HNE := Lib.hid hz
    clear hz hok
    go_enter Tryz.func3, Tryz.ntmps3
    go_wp2_with fail
    (with_reducible refine (HJ1.out _ (Below.refl _ _)).mono ?_)
    rintro e w1 (⟨_, rfl, hb1⟩ | ⟨hne, _⟩)
    · unfold rkZ
      have HB1 := Lib.hid (fun o => (show Below w.heap.size w (w1.alloc o) from hb1.alloc hb1.size o))
      clear hb1
      go_wp2_with fail
      (with_reducible refine (HJ2.out _ (HB1.out _)).mono ?_)
      rintro e w3 (⟨_, rfl, hb3⟩ | ⟨hne, _⟩)
      · unfold rkZ
        have HB3 := Lib.hid (fun o => (show Below w.heap.size w (w3.alloc o) from (below_next (HB1.out _) hb3).alloc (below_next (HB1.out _) hb3).size o))
        clear hb3
        go_wp2_with fail
        (with_reducible refine (HH.out _ (HB3.out _)).mono ?_)
        rintro e w5 ⟨rfl, hb5⟩
        have HB5 := Lib.hid (below_next (HB3.out _) hb5)
        clear hb5
        go_wp2
        go_ret
        exact ⟨by rfl, HB5.out⟩
      · exact absurd hne HNE.out
    · exact absurd hne HNE.out
end Go.Proofs.YtnapdhfkgfjjfaaGreatDoor

/- The last step of every law: what was read before the call reads the same behind it, because nothing that was there has turned. -/
namespace Go.Proofs.YtnapdhfkgfjjfaaGreatDoor
open Go Go.ChangeShapes Go.WideShapes Go.ChangeAt Go.RowKit

theorem own : ownKnob Tryz.prog.godebug = none := by kernel_rfl
theorem laidOut : laidOutB Tryz.prog = true := by kernel_rfl

theorem trodAll_below {H : Type} {enc : TypeId × Value → H} {P : Program} (hl : laidOutB P = true) {W W' : World} (hb : Below W.heap.size W W') :
    ∀ (ts : List TypeId) (vs : List Value) (ds : List (DataW H)) (ps : List MemPlace), (∀ t ∈ ts, P.readableRec t = true ∧ t < P.types.size) → (∀ x ∈ ps, x.block < W.heap.size) →
    DataW.TrodAll enc P W 0 (fun _ => true) true ts vs ds ps → DataW.TrodAll enc P W' 0 (fun b => decide (b < W.heap.size)) true ts vs ds ps := by
  intro ts
  induction ts with
  | nil =>
    intro vs ds ps _ _ h
    obtain ⟨rfl, rfl, rfl⟩ := trodAll_nil h
    exact trodAll_mk0
  | cons t ts ih =>
    intro vs ds ps ht hp h
    obtain ⟨v, vs', d, ds', p, q, rfl, rfl, rfl, h1, h2⟩ := trodAll_cons h
    have ht1 := ht t (by simp)
    exact trodAll_cons_mk (Below.trod hl ht1.1 ht1.2 h1 hb (fun x hx => hp x (by simp [hx]))) (ih vs' ds' q (fun t' h' => ht t' (by simp [h'])) (fun x hx => hp x (by simp [hx])) h2)

/-- a law's post, out of 'nothing that was there has turned' -/
theorem law_post {H : Type} {enc : TypeId × Value → H} {P : Program} (hl : laidOutB P = true) {f : Func} {s : ChangeSpec} {W W' : World} {args : Array Value} {ds gs : List (DataW H)} {before : List MemPlace} {tb : TypeId}
    (hW : DataW.Whole enc P f.params.toList s.vars false W args.toList ds gs before) (hv : s.vars = []) (hfn : s.fn H (ds ++ gs) = { results := [.lit (.bool true)], args := ds })
    (hts : ∀ t ∈ f.params.toList, P.readableRec t = true ∧ t < P.types.size) (hres : f.resultTypes = #[tb]) (htb : P.underlying tb = some .bool) (hb : Below W.heap.size W W') :
    s.post enc P f false true false false W args (.bool true) W' := by
  have hlt : ∀ p ∈ before, p.block < W.heap.size := fun p hp => hW.lt p hp
  obtain ⟨p, q, hA, hV, rfl, hfz, hnd⟩ := id hW
  have hV0 := hV
  rw [hv] at hV
  obtain ⟨rfl, rfl⟩ := trodVars_none hV
  refine ⟨ds, [], p ++ [], [], p, [], hW, ?_, ?_, ?_, hb.frame _, fun h => by cases h⟩
  · rw [hfn, hres]
    exact trodAll_mk1 (shut_bool htb true)
  · rw [hfn]
    exact trodAll_below hl hb _ _ _ _ hts (fun x hx => hlt x (by simp [hx])) hA
  · rw [hfn, hv]
    rfl
end Go.Proofs.YtnapdhfkgfjjfaaGreatDoor

/- A slice of integers that is an argument of a law, opened; with its capacity. -/
namespace Go.Proofs.YtnapdhfkgfjjfaaGreatDoor
open Go Go.ChangeShapes Go.WideShapes Go.ChangeAt Go.RowKit Go.Deep Go.Joins

theorem cellsI2 : Tryz.prog.cellsOf 3 = 1 := by kernel_rfl
theorem i64_of2 {n : Int} (h : (Lit.int IntKind.i64 n).wf = true) : -9223372036854775808 ≤ n ∧ n ≤ 9223372036854775807 := by
  simp [Lit.wf, IntKind.min, IntKind.max, IntKind.signed, IntKind.bits] at h
  exact ⟨by omega, by omega⟩
theorem spot_none2 {w : World} {a : Addr} {v : Value} (h : w.cell? a = some v) : a.spot = none := by
  unfold World.cell? at h
  split at h
  · split at h
    · cases h
    · rename_i hs; simpa using hs
  · cases h
theorem add_at2 (a : Addr) (h : a.spot = none) (i : Nat) : a.add i = ⟨a.block, a.off + i, none⟩ := by
  unfold Addr.add
  split
  · rename_i e; subst e; cases a; simp_all
  · rfl
section
variable {H : Type} {enc : TypeId × Value → H} {W : World} {base : Nat}
end
end Go.Proofs.YtnapdhfkgfjjfaaGreatDoor

/- A slice of integers that is an argument of a law, opened; with its capacity, and no great length. -/
namespace Go.Proofs.YtnapdhfkgfjjfaaGreatDoor
open Go Go.ChangeShapes Go.WideShapes Go.ChangeAt Go.RowKit Go.Deep Go.Joins

theorem bytesI3 : Tryz.prog.bytesOf 3 = 8 := by kernel_rfl
section
variable {H : Type} {enc : TypeId × Value → H} {W : World} {base : Nat}
set_option maxRecDepth 100000 in
theorem open_sl3 {v : Value} {d : DataW H} {p : List MemPlace} (hv : Value.okWide Tryz.prog W .any base 22 v) (h : DataW.Trod enc Tryz.prog W 0 (fun _ => true) true 22 v d p) (hs : ∀ x ∈ d.weights Tryz.prog 22, x ≤ reachBytes) :
    ∃ A n c zs, v = .slice A n c ∧ Rd W 0 W.heap.size 1 A n (ints zs) ∧ n ≤ 4000000000000000000 ∧ n ≤ c ∧ (∀ z ∈ zs, -9223372036854775808 ≤ z ∧ z ≤ 9223372036854775807) ∧ (A = none → n = 0 ∧ c = 0) := by
  obtain ⟨a0, len, cap, rfl⟩ := okWide_slice Tryz.underlying22 hv
  obtain ⟨fuel, hf⟩ := h
  rcases open_ints Tryz.underlying22 Tryz.underlying3 cellsI2 hf with ⟨hcs, hx⟩ | ⟨a, len', cap', zs, hcs, _, hl, hm, hz, hx, hcell, hwz⟩
  · have hcs : [Value.slice a0 len cap] = [Value.slice none 0 0] := hcs
    simp at hcs
    obtain ⟨rfl, rfl, rfl⟩ := hcs
    exact ⟨none, 0, 0, [], rfl, Rd.nil, by omega, Nat.le_refl _, (fun _ h => by cases h), fun _ => ⟨rfl, rfl⟩⟩
  · have hcs : [Value.slice a0 len cap] = [Value.slice (some a) len' cap'] := hcs
    simp at hcs
    obtain ⟨rfl, rfl, rfl⟩ := hcs
    simp only [if_true] at hz
    obtain ⟨rfl, rfl⟩ : d = _ ∧ p = _ := by simpa using hx
    have hw := hs _ (by simp only [DataW.weights, Tryz.underlying22, bytesI3]; exact List.mem_cons_self ..)
    simp only [lits, List.length_map, List.length_take, List.length_drop] at hw
    unfold reachBytes at hw
    refine ⟨some a, len, cap, zs.take len, rfl, ⟨by simp [ints]; omega, fun hp => ?_⟩, by omega, by omega, fun z hz' => i64_of2 (hwz z (List.mem_of_mem_take hz')), (fun h => by cases h)⟩
    have h0 := hcell 0 (by omega)
    have hsp := spot_none2 (a := a) (by simpa [Addr.add] using h0)
    have hlt := World.block_lt_of_cell? W _ h0
    rw [add_at2 a hsp] at hlt
    refine ⟨a.block, a.off, by cases a; simp_all, Nat.zero_le _, hlt, fun j u hj => ?_⟩
    have hj' : j < len := by
      have := (List.getElem?_eq_some_iff.1 hj).1
      simp [ints] at this; omega
    have hc := hcell j (by omega)
    rw [add_at2 a hsp] at hc
    rw [hc]
    simp only [ints, List.getElem?_map, List.getElem?_take_of_lt hj', Option.map_eq_some_iff] at hj
    obtain ⟨z, hz1, rfl⟩ := hj
    rw [List.getD_eq_getElem?_getD, hz1]; rfl

set_option maxRecDepth 100000 in
theorem open_ints3 {v : Value} {d : DataW H} {p : List MemPlace} (hv : Value.okWide Tryz.prog W .any base 22 v) (h : DataW.Trod enc Tryz.prog W 0 (fun _ => true) true 22 v d p) (hs : ∀ x ∈ d.weights Tryz.prog 22, x ≤ reachBytes) :
    ∃ A c zs, v = .slice A zs.length c ∧ Rd W 0 W.heap.size 1 A zs.length (ints zs) ∧ zs.length ≤ c ∧ zs.length ≤ 4000000000000000000 := by
  obtain ⟨A, n, c, zs, rfl, hr, hn, hc, hz, _⟩ := open_sl3 hv h hs
  obtain rfl : n = zs.length := by have := hr.1; rw [ints_length] at this; omega
  exact ⟨A, c, zs, rfl, hr, hc, hn⟩
end
end Go.Proofs.YtnapdhfkgfjjfaaGreatDoor

/- What every law behind the door shares: the table that its row lists, a world for the witness, and the card out of the row's statement. -/
namespace Go.Proofs.YtnapdhfkgfjjfaaGreatDoor
open Go Go.ChangeShapes Go.WideShapes Go.ChangeAt Go.RowKit

theorem gPow : Tryz.prog.globalNamed "internal/strconv.uint64pow10" = some 2 := by kernel_rfl
theorem gPowType : (Tryz.prog.globals[2]?).map (·.type) = some 201 := by kernel_rfl
theorem cellsPow : Tryz.prog.cellsOf 201 = 20 := by kernel_rfl
theorem cellsU : Tryz.prog.cellsOf 110 = 1 := by kernel_rfl

/-- the list of the rows of this seat -/
abbrev laid3 : List (String × DataW Unit) := [("math/bits.deBruijn32tab", Rows.laid_math_bits_deBruijn32tab), ("math/bits.deBruijn64tab", Rows.laid_math_bits_deBruijn64tab), ("internal/strconv.uint64pow10", Rows.laid_internal_strconv_uint64pow10), ("unicode/utf8.acceptRanges", Rows.laid_unicode_utf8_acceptRanges), ("strconv.ErrRange", Rows.laid_strconv_ErrRange), ("strconv.ErrSyntax", Rows.laid_strconv_ErrSyntax), ("unicode/utf8.first", Rows.laid_unicode_utf8_first)]

theorem table {W : World} (h0 : laidMetH Tryz.prog laid3 W) : Tab W.heap.size W := by
  have h : laidMet Tryz.prog laid3 W := h0
  refine Lib.tabBelow_of_tabIs ?_
  obtain ⟨ps, ⟨g1, t1, cs1, fu1, p1, q1, _, _, _, _, ⟨g2, t2, cs2, fu2, p2, q2, _, _, _, _, ⟨g', t', cs, fuel, p, q, hg', ht', hvar, hd, _, _⟩, _⟩, _⟩, _⟩ := h
  obtain rfl := Option.some.inj (gPow.symm.trans hg')
  obtain rfl := Option.some.inj (gPowType.symm.trans ht')
  unfold Lib.TabIs
  rw [hvar, ← Lib.cells_of_tab Tryz.underlying201 Tryz.underlying110 cellsU cellsPow hd]

/-- A WORLD FOR THE WITNESS: the settled one, the listed variables holding what their initialisers lay. -/
noncomputable def laidWorld (os : Os) : World := World.laidAll Tryz.prog os laid3
theorem laid_met (os : Os) (args : Array Value) : laidMet Tryz.prog laid3 ((laidWorld os).forCall (fun _ _ => 0) ⟨#[], args, []⟩).memory :=
  laidMet_laidAll args (by kernel_rfl) (by kernel_rfl)
end Go.Proofs.YtnapdhfkgfjjfaaGreatDoor
