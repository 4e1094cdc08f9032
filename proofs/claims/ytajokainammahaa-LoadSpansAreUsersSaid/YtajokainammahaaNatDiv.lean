/- Package nat: DivMod. -/
import Derived.Test.YtajokainammahaaNatShr
import Derived.Laws.IdiomCopy
namespace Go.Proofs.Ytajokainammahaa
open Go Go.RowKit Go.Proofs

/-- what a function returns that makes two numbers -/
def Nat2Post (x y : Nat) (w : World) (e : Ending) (w' : World) : Prop := ∃ A c l A' c' l', e = .returned (.tuple #[.slice A l.length c, .slice A' l'.length c']) ∧ NatR w' A c l x ∧ NatR w' A' c' l' y ∧ Below w.heap.size w w'
theorem cmpN_neg {x y : Nat} (h : x < y) : cmpN x y = -1 := (cmpN_lt h).symm
theorem cmpN_nonneg {x y : Nat} (h : y ≤ x) : 0 ≤ cmpN x y := by unfold cmpN; rw [if_neg (by omega)]; split <;> omega

set_option maxHeartbeats 2000000 in
set_option maxRecDepth 100000 in
theorem natDivMod_less (A1 A2 : Option Addr) (c1 c2 : Nat) (l1 l2 : List Nat) (x y : Nat) (w : World) (h1 : NatR w A1 c1 l1 x) (h2 : NatR w A2 c2 l2 y) (hs : l1.length ≤ 1000000) (hs2 : l2.length ≤ 1000000) (hxy : x < y) :
    Calls Try.prog 35 #[.slice A1 l1.length c1, .slice A2 l2.length c2] w (Nat2Post (x / y) (x % y) w) := by
  have HC := Lib.hid (natCmp_any A1 A2 c1 c2 l1 l2 x y w h1 h2 hs hs2)
  rw [cmpN_neg hxy] at HC
  have HN1 := Lib.hid h1
  clear h1 h2
  go_enter Try.func35, Try.ntmps35
  go_wp2_with fail
  refine HC.out.mono ?_
  rintro e w' ⟨rfl, q, rfl⟩
  go_wp2
  go_ret2
  refine ⟨none, 0, [], A1, c1, l1, rfl, ?_, ?_, below_drewN (Below.refl _ _) q⟩
  · rw [Nat.div_eq_of_lt hxy]; exact natr_nil _
  · rw [Nat.mod_eq_of_lt hxy]; exact HN1.out.on (below_drewN (Below.refl _ _) q)

theorem norm_one {r : Nat} (hr : r < W64) (w : World) : NatR (w.alloc (.cells #[.int .u64 (r : Int)] 96)) (some ⟨w.heap.size, 0, none⟩) 1 (trim [r]) r := by
  have hb : Blk (w.alloc (.cells #[.int .u64 (r : Int)] 96)) w.heap.size [r] := alloc_at w _ _ rfl
  have := natr_cut (c := 1) hb.rd (by intro d hd; simp at hd; subst hd; exact hr) (by simp) (by unfold maxLen; omega) (fun h => by cases h)
  have e : val W64 [r] = r := by simp [val]
  rwa [e] at this

set_option maxHeartbeats 2000000 in
set_option maxRecDepth 100000 in
theorem natDivMod_word (A1 A2 : Option Addr) (c1 c2 : Nat) (l1 : List Nat) (d x : Nat) (w : World) (h1 : NatR w A1 c1 l1 x) (h2 : NatR w A2 c2 [d] d) (hs : l1.length ≤ 1000000) (hxy : d ≤ x) (hd0 : 0 < d) :
    Calls Try.prog 35 #[.slice A1 l1.length c1, .slice A2 1 c2] w (Nat2Post (x / d) (x % d) w) := by
  have HC := Lib.hid (natCmp_any A1 A2 c1 c2 l1 [d] x d w h1 h2 hs (by simp))
  have t1 := cmpN_nonneg hxy
  have HN1 := Lib.hid h1
  have hdW : d < 18446744073709551616 := h2.norm.1 d (by simp)
  obtain ⟨b, o, u, rfl, hb, hu, qd⟩ := h2.rd.at1 (show 0 < [d].length by simp)
  obtain ⟨d', hd', rfl⟩ := u64s_get hu
  obtain rfl : d = d' := by simpa using hd'
  rw [Nat.add_zero] at qd
  have HS := Lib.hid (fun q => natSmall_any A1 c1 l1 x d (w.drewN q) (HN1.out.on (below_drewN (Below.refl _ _) q)) hs hd0 hdW)
  have hrW : x % d < W64 := by have := Nat.mod_lt x hd0; unfold W64; omega
  clear h1 h2 hu hd'
  go_enter Try.func35, Try.ntmps35
  go_wp2_with fail
  refine HC.out.mono ?_
  rintro e w' ⟨rfl, q, rfl⟩
  obtain ⟨cm, hcm⟩ : ∃ cm, cm = cmpN x d := ⟨_, rfl⟩
  rw [← hcm] at t1 ⊢
  clear hcm
  have t2 : decide (cm < 0) = false := by simp; omega
  go_wp2_with fail
  refine (HS.out q).mono ?_
  rintro e w1 ⟨A, c, l, rfl, hn, hb1⟩
  have HNQ := Lib.hid hn
  have HB1 := Lib.hid hb1
  obtain ⟨r, hr⟩ : ∃ r, r = x % d := ⟨_, rfl⟩
  rw [← hr] at hrW ⊢
  have HR := Lib.hid hr
  have hblk : Blk (w1.alloc (.cells #[.int .u64 (r : Int)] 96)) w1.heap.size [r] := alloc_at w1 _ _ rfl
  have HCUT := Lib.hid (cut_any (some ⟨w1.heap.size, 0, none⟩) 1 [r] (w1.alloc (.cells #[.int .u64 (r : Int)] 96)) hblk.rd (by simp) (by unfold maxLen; omega) (fun h => by cases h))
  have HNR := Lib.hid (norm_one hrW w1)
  have HB2 := Lib.hid (show Below w1.heap.size w1 (w1.alloc (.cells #[.int .u64 (r : Int)] 96)) from (Below.refl _ w1).alloc (Nat.le_refl _) _)
  clear hn hb1 hr hblk
  go_wp2_with fail
  refine HCUT.out.mono ?_
  rintro e w' ⟨rfl, rfl⟩
  go_wp2
  go_ret2
  refine ⟨_, _, _, _, _, _, rfl, HNQ.out.on HB2.out, by rw [← HR.out]; exact HNR.out, ?_⟩
  exact below_next (below_drewN (Below.refl _ w) q) (below_next HB1.out HB2.out)
end Go.Proofs.Ytajokainammahaa
