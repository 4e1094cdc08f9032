import Derived.Test.YtpmnhdgajkickaaGreatDoorFracPlus
import Derived.Test.YtpmnhdgajkickaaGreatDoorB8
import Derived.Test.YtpmnhdgajkickaaGreatDoorB0
import Derived.WalkSpells
import Derived.WalkLawsBesides
import Derived.Deep.QuietTactic
import Derived.BigQuiet
import Derived.Handy
import Derived.Test.YtpmnhdgajkickaaGreatDoorB1
import Derived.Test.YtpmnhdgajkickaaGreatDoorB11
import Derived.Deep.RegionHeld3
/- How large the parts of fractions can be: plain. -/
namespace Go.Proofs.YtpmnhdgajkickaaGreatDoor

theorem mk_le (b : Bool) (n : Nat) {d : Nat} (hd : 0 < d) : frN (mkRat (sg b n) d) ≤ n ∧ (mkRat (sg b n) d).den ≤ d := by
  rcases Nat.eq_zero_or_pos n with rfl | h
  · rw [low_zero]; exact ⟨Nat.le_refl _, hd⟩
  · obtain ⟨_, h2, h3⟩ := low_pos (b := b) h hd
    rw [h2, h3]
    exact ⟨Nat.div_le_self _ _, Nat.div_le_self _ _⟩
theorem sz_mono {n m : Nat} {a : Rat} (h : Sz n a) (hnm : n ≤ m) : Sz m a := by
  have : T4 ^ n ≤ T4 ^ m := Nat.pow_le_pow_right (by unfold T4; omega) hnm
  exact ⟨Nat.lt_of_lt_of_le h.1 this, Nat.lt_of_lt_of_le h.2 this⟩
theorem sz_mul {n m : Nat} {a b : Rat} (ha : Sz n a) (hb : Sz m b) : Sz (n + m) (a * b) := by
  have h := mk_le (frS a != frS b) (frN a * frN b) (Nat.mul_pos a.den_pos b.den_pos)
  rw [times_eq] at h
  refine ⟨?_, ?_⟩
  · exact Nat.lt_of_le_of_lt h.1 (by rw [Nat.pow_add]; exact Nat.mul_lt_mul'' ha.1 hb.1)
  · exact Nat.lt_of_le_of_lt h.2 (by rw [Nat.pow_add]; exact Nat.mul_lt_mul'' ha.2 hb.2)
theorem sz_add {n m : Nat} {a b : Rat} (ha : Sz n a) (hb : Sz m b) : Sz (n + m + 1) (a + b) := by
  have hx : frN a * b.den < T4 ^ (n + m) := by rw [Nat.pow_add]; exact Nat.mul_lt_mul'' ha.1 hb.2
  have hy : frN b * a.den < T4 ^ (n + m) := by rw [Nat.pow_add, Nat.mul_comm]; exact Nat.mul_lt_mul'' ha.2 hb.1
  have hd : a.den * b.den < T4 ^ (n + m) := by rw [Nat.pow_add]; exact Nat.mul_lt_mul'' ha.2 hb.2
  have hp := Nat.mul_pos a.den_pos b.den_pos
  have e : T4 ^ (n + m + 1) = T4 ^ (n + m) * 10000 := Nat.pow_succ T4 (n + m)
  have key : frN (a + b) ≤ frN a * b.den + frN b * a.den ∧ (a + b).den ≤ a.den * b.den := by
    by_cases hs : frS a = frS b
    · have h := mk_le (frS a) (frN a * b.den + frN b * a.den) hp
      rw [plus_same hs] at h; exact h
    · rcases Nat.le_total (frN b * a.den) (frN a * b.den) with hc | hc
      · have h := mk_le (frS a) (frN a * b.den - frN b * a.den) hp
        rw [plus_ge hs hc] at h; exact ⟨by omega, h.2⟩
      · have h := mk_le (frS b) (frN b * a.den - frN a * b.den) hp
        rw [plus_lt hs hc] at h; exact ⟨by omega, h.2⟩
  exact ⟨by rw [e]; omega, by rw [e]; omega⟩
theorem sz_sub {n m : Nat} {a b : Rat} (ha : Sz n a) (hb : Sz m b) : Sz (n + m + 1) (a - b) := by
  rw [Rat.sub_eq_add_neg]; exact sz_add ha (sz_neg hb)
theorem sz_part {n : Nat} {z : Int} {d : Nat} (hd : 0 < d) (h1 : z.natAbs < T4 ^ n) (h2 : d < T4 ^ n) : Sz n (mkRat z d) := by
  have h := mk_le (decide (z < 0)) z.natAbs hd
  rw [sg_self] at h
  exact ⟨Nat.lt_of_le_of_lt h.1 h1, Nat.lt_of_le_of_lt h.2 h2⟩
theorem sz_int {n : Nat} {z : Int} (hn : 1 ≤ n) (h1 : z.natAbs < T4 ^ n) : Sz n (z : Rat) := by
  refine ⟨h1, ?_⟩
  have : T4 ^ 1 ≤ T4 ^ n := Nat.pow_le_pow_right (by unfold T4; omega) hn
  rw [Nat.pow_one] at this
  show 1 < _
  unfold T4 at *; omega
/-- the area of a part of a stage, as the reference adds it up -/
def stA (s : Int × Int × Int) (long : Int) : Rat := (((s.2.1 : Int) : Rat) + (((s.2.1 : Int) : Rat) + (((s.2.2 - s.2.1 : Int)) : Rat) * mkRat long s.1.toNat)) * mkRat 1 2 * mkRat long 1000000000
/-- the sum of the first ones up to a time -/
def accR (l : List (Int × Int × Int)) (t : Int) : Nat → Rat
  | 0 => 0
  | k + 1 => accR l t k + (match l[k]? with | some s => stA s (min s.1 (t - ((l.take k).map (·.1)).sum)) | none => 0)
end Go.Proofs.YtpmnhdgajkickaaGreatDoor

/- ref0.Digits: the number with these digits. -/
namespace Go.Proofs.YtpmnhdgajkickaaGreatDoor
open Go Go.RowKit Go.Proofs

/-- j chunks of four digits are read -/
def DgR (w wr : World) (L : List UInt8) (j : Nat) (v : Value) : Prop :=
  ∃ o, o.length = j ∧ (∀ d ∈ o, d < T4) ∧ val T4 o = dgV (L.drop (L.length - 4 * j)) ∧ wr.ownsRow w.heap.size 3 1 v o.length (d4s o) ∧ Below w.heap.size w wr
theorem T4_10 (j : Nat) : T4 ^ j = 10 ^ (4 * j) := by rw [Nat.pow_mul]; unfold T4; rfl
theorem dg_step {L : List UInt8} (hd : ∀ c ∈ L, 48 ≤ c.toNat ∧ c.toNat ≤ 57) {j : Nat} (hj : 4 * j < L.length) {o : List Nat} (h1 : o.length = j) (h3 : val T4 o = dgV (L.drop (L.length - 4 * j))) {n : Nat}
    (hn : n = dgV ((L.drop (L.length - 4 * (j + 1))).take (L.length - 4 * j - (L.length - 4 * (j + 1))))) : n < T4 ∧ val T4 (o ++ [n]) = dgV (L.drop (L.length - 4 * (j + 1))) := by
  constructor
  · have h := dgV_piece hd (L.length - 4 * (j + 1)) (L.length - 4 * j - (L.length - 4 * (j + 1)))
    rw [← hn] at h
    refine Nat.lt_of_lt_of_le h ?_
    have : (10 : Nat) ^ (L.length - 4 * j - (L.length - 4 * (j + 1))) ≤ 10 ^ 4 := Nat.pow_le_pow_right (by omega) (by omega)
    unfold T4; omega
  · rw [dgV_chunk (s := L.length - 4 * (j + 1)) (e := L.length - 4 * j) (by omega) (by omega), ← hn, val_snoc, h1, h3, T4_10, show L.length - (L.length - 4 * j) = 4 * j by omega, Nat.mul_comm n]
    exact Nat.add_comm _ _

set_option maxHeartbeats 4000000 in
set_option maxRecDepth 100000 in
theorem rDigits_s (S : ByteArray) (L : List UInt8) (w : World) (hSL : S.data.toList = L) (hL : S.size ≤ 1000000) (hd : ∀ c ∈ L, 48 ≤ c.toNat ∧ c.toNat ≤ 57) :
    Calls Tryz.prog 53 #[.string S] w (RNatPost (dgV L) w) := by
  obtain ⟨i0, hi0, hz0, hz1, hz2⟩ := info_parts Tryz.infoI4
  have hsz1 : L.length ≤ S.size := Nat.le_of_eq (by subst hSL; exact Array.length_toList)
  have hsz2 : S.size ≤ L.length := Nat.le_of_eq (by subst hSL; exact Array.length_toList.symm)
  have HB := Lib.hid (show ∀ (i : Nat) (h : i < S.size), ∃ h' : i < L.length, L[i] = S[i] from fun i h => by subst hSL; exact ⟨by omega, rfl⟩)
  clear hSL
  have HD := Lib.hid hd
  clear hd
  go_enter Tryz.func53, Tryz.ntmps53
  go_wp2
  go_loopw [3, 4] (fun v ev wr => ∃ (j : Nat) (z : Int), 4 * j ≤ L.length + 3 ∧ ev = .int .i64 z ∧ z ≤ (L.length : Int) - 4 * j ∧ (L.length : Int) - 4 * j ≤ z ∧ DgR w wr L j v) (fun _ ev _ => (intOf ev).toNat)
  case atStart => exact ⟨0, S.size, by omega, rfl, by omega, by omega, [], rfl, fun _ h => by simp at h, by simp [val, dgV], ⟨by simp [d4s], .inl ⟨rfl, rfl⟩⟩, Below.refl _ _⟩
  case round =>
    obtain ⟨j, z, hj, rfl, hz1', hz2', o, ho1, ho2, ho3, hown, hbw⟩ := hrel
    have HOW := Lib.hid hown
    have HBW := Lib.hid hbw
    have hsz' := hbw.size
    have H1 := Lib.hid ho1
    have H2 := Lib.hid ho2
    have H3 := Lib.hid ho3
    have ho1' : o.length ≤ j := by omega
    have ho1'' : j ≤ o.length := by omega
    clear hown hbw ho1 ho2 ho3
    by_cases hlt : 4 * j < L.length
    · obtain ⟨E, rfl⟩ : ∃ E : Nat, z = E := ⟨z.toNat, by omega⟩
      have hEL : E ≤ L.length - 4 * j := by omega
      have hEL' : L.length - 4 * j ≤ E := by omega
      obtain ⟨s, hs⟩ : ∃ s : Nat, s = L.length - 4 * (j + 1) := ⟨_, rfl⟩
      have hs1 : s ≤ L.length - 4 * (j + 1) := by omega
      have hs2 : L.length - 4 * (j + 1) ≤ s := by omega
      have HS := Lib.hid hs
      clear hs
      have t1 : decide ((0 : Int) < (E : Int)) = true := by simp; omega
      have t2 : decide (0 < E) = true := by simp; omega
      have hmx : max (0 : Int) ((E : Int) - 4) = (s : Int) := by omega
      go_wp2_with fail
      go_loop [5, 6] (fun nv iv => ∃ i : Nat, s ≤ i ∧ i ≤ E ∧ iv = .int .i64 (i : Int) ∧ nv = .int .i64 ((dgV ((L.drop s).take (i - s)) : Nat) : Int)) (fun _ iv => E - (intOf iv).toNat)
      case atStart => exact ⟨s, Nat.le_refl _, by omega, rfl, by rw [Nat.sub_self, List.take_zero]; rfl⟩
      case round =>
        obtain ⟨i, hi1, hi2, rfl, rfl⟩ := hrel
        by_cases hiE : i < E
        · have hiL : i < L.length := by omega
          have hiS : i < S.size := by omega
          obtain ⟨_, hbe⟩ := HB.out i hiS
          have hb := HD.out L[i] (List.getElem_mem hiL)
          rw [hbe] at hb
          have hb1 : (48 : Int) ≤ (S[i].toNat : Int) := by omega
          have hb2 : (S[i].toNat : Int) ≤ 57 := by omega
          have hp := dgV_piece (fun c hc => HD.out c hc) s (i - s)
          have hp4 : (10 : Nat) ^ (i - s) ≤ 10 ^ 4 := Nat.pow_le_pow_right (by omega) (by omega)
          have HN := Lib.hid (dgV_next (L := L) hi1 hiL)
          rw [hbe] at HN
          obtain ⟨n, hn⟩ : ∃ n, n = dgV ((L.drop s).take (i - s)) := ⟨_, rfl⟩
          rw [← hn] at hp HN ⊢
          have hn4 : n ≤ 9999 := by omega
          clear hp hp4 hn hb hbe
          go_wp2
          go_round
          case rel => exact ⟨i + 1, by omega, by omega, by go_num, by rw [HN.out]; go_num⟩
          case measure => simp [intOf]; omega
        · obtain rfl : i = E := by omega
          obtain ⟨n, hn⟩ : ∃ n, n = dgV ((L.drop s).take (i - s)) := ⟨_, rfl⟩
          have hst := dg_step (fun c hc => HD.out c hc) hlt H1.out H3.out (n := n) (by rw [← HS.out, show L.length - 4 * j = i by omega]; exact hn)
          rw [← hn]
          have HST := Lib.hid hst
          clear hst hn
          go_wp2_with (at_builtin; refine wpList_append_own _ rfl (.tmp 29) (.tmp 31) 33 rfl w.heap.size 3 i0 _ 1 8 Tryz.underlying33 hi0 hz0 hz1 hz2 rfl (by decide) _ _ _ rfl (HOW.out.alloc _) ⟨wr.heap.size, 0, none⟩ 1 1 [.int .i64 (n : Int)] rfl rfl (cell_one_new _ _ _) (by simp [Value.oneCell']) ?c3 ?c4 ?c5 ?_)
          case c3 => unfold maxLen; omega
          case c4 => omega
          case c5 => first | omega | exact hsz' | (simp; omega)
          intro v' w2 hown' hgrow _
          have hnew : DgR w w2 L (j + 1) v' := by
            refine ⟨o ++ [n], by rw [List.length_append, H1.out]; rfl, ?_, HST.out.2, ?_, ?_⟩
            · intro d hd
              rcases List.mem_append.1 hd with h | h
              · exact H2.out d h
              · obtain rfl := List.mem_singleton.1 h
                exact HST.out.1
            · simpa [d4s] using hown'
            · exact (HBW.out.alloc hsz' _).grown hgrow (by simp; omega) (fun j hj => (ownsRow_block HOW.out hj.symm).1)
          have HNW := Lib.hid hnew
          clear hown' hgrow hnew
          go_wp2
          go_roundw
          case rel => exact ⟨j + 1, (i : Int) - 4, by omega, by first | rfl | go_num, by omega, by omega, HNW.out⟩
          case measure => simp [intOf]; omega
    · obtain ⟨A', cap', rfl, hnc, hcm, hA'⟩ := ownsRow_shape HOW.out
      have HV := Lib.hid (show val T4 o = dgV L by rw [H3.out, show L.length - 4 * j = 0 by omega]; rfl)
      have hrd := (Rd.of_own HOW.out).more (Nat.zero_le _) (Nat.le_refl _)
      have HT := Lib.hid (trimmed_any A' cap' o wr hrd hnc hcm hA')
      have HR := Lib.hid (rnatr_trim hrd H2.out (by unfold maxLen at *; omega) (fun h => (hA' h).1))
      clear hrd hA'
      have t1 : decide ((0 : Int) < z) = false := by simp; omega
      go_wp2_with fail
      (with_reducible refine HT.out.mono ?_)
      rintro e w' ⟨rfl, rfl⟩
      go_wp2
      go_ret
      exact ⟨A', (trim o).length, trim o, rfl, by rw [← HV.out]; exact HR.out, HBW.out⟩
theorem rDigits_any (L : List UInt8) (w : World) (hL : L.length ≤ 1000000) (hd : ∀ c ∈ L, 48 ≤ c.toNat ∧ c.toNat ≤ 57) :
    Calls Tryz.prog 53 #[.string ⟨L.toArray⟩] w (RNatPost (dgV L) w) :=
  rDigits_s ⟨L.toArray⟩ L w rfl (by simpa [ByteArray.size] using hL) hd
end Go.Proofs.YtpmnhdgajkickaaGreatDoor

/- ref0.FromRatio. Printed by gen_fromr.py. -/
namespace Go.Proofs.YtpmnhdgajkickaaGreatDoor
open Go Go.RowKit Go.Proofs

theorem dgt_len {w : World} {A : Option Addr} {c : Nat} {l : List Nat} {L : List UInt8} (h : RNatR w A c l (dgV L)) (hd : ∀ c ∈ L, 48 ≤ c.toNat ∧ c.toNat ≤ 57) : l.length ≤ L.length := by
  refine h.len ?_
  have h1 := dgV_lt hd
  have h2 : (10 : Nat) ^ L.length ≤ T4 ^ L.length := Nat.pow_le_pow_left (by unfold T4; omega) _
  omega
set_option maxHeartbeats 4000000 in
set_option maxRecDepth 100000 in
theorem rFromRat_s (Sa Sb : ByteArray) (a b : List UInt8) (w : World) (hSa : Sa.data.toList = a) (hSb : Sb.data.toList = b) (ha : a.length ≤ 100000) (hb : b.length ≤ 100000) (hpa : 0 < a.length) (hda : ∀ c ∈ a, 48 ≤ c.toNat ∧ c.toNat ≤ 57) (hdb : ∀ c ∈ b, 48 ≤ c.toNat ∧ c.toNat ≤ 57) (hy : 0 < dgV b) :
    Calls Tryz.prog 14 #[.agg #[.string Sa, .string Sb]] w (FracPost (mkRat (dgV a : Nat) (dgV b)) w) := by
  obtain ⟨W0, hW0⟩ : ∃ W0, W0 = (w.alloc (.cells #[.string Sa, .string Sb] 23)).alloc (.cells #[.bool false, .slice none 0 0, .slice none 0 0] 35) := ⟨_, rfl⟩
  have HST0 := Lib.hid (show St w W0 [(w.heap.size, .cells #[.string Sa, .string Sb] 23 (0, 0)), (w.heap.size + 1, .cells #[.bool false, .slice none 0 0, .slice none 0 0] 35 (0, 0))] by rw [hW0]; exact ((St.start w).alloc _ _ rfl).alloc _ _ (by simp))
  have hs0 : W0.heap.size = w.heap.size + 2 := by rw [hW0]; simp
  have HX0 := Lib.hid (show FBox W0 (w.heap.size + 1) from HST0.out.at 1 rfl)
  have hza : Sa.size = a.length := by subst hSa; exact Array.length_toList.symm
  have hzb : Sb.size = b.length := by subst hSb; exact Array.length_toList.symm
  have HD1 := Lib.hid (fun W => rDigits_s Sa a W hSa (by omega) hda)
  have HD2 := Lib.hid (fun W => rDigits_s Sb b W hSb (by omega) hdb)
  have HL := Lib.hid (fun W A5 c5 l5 A6 c6 l6 (h5 : RNatR W A5 c5 l5 (dgV a)) (h6 : RNatR W A6 c6 l6 (dgV b)) => rLowest_any false A5 A6 c5 c6 l5 l6 _ _ W h5 h6 (by have := dgt_len h5 hda; omega) (by have := dgt_len h6 hdb; omega) hy)
  rw [show sg false (dgV a) = ((dgV a : Nat) : Int) from rfl] at HL
  obtain ⟨q, hq⟩ : ∃ q, q = mkRat (dgV a : Nat) (dgV b) := ⟨_, rfl⟩
  rw [← hq] at HL ⊢
  have hp0 : 0 < Sa.size := by omega
  have hc : 48 ≤ Sa[0].toNat := (hda Sa[0] (by subst hSa; exact List.getElem_mem (l := Sa.data.toList) (n := 0) (by simpa using hp0))).1
  have t1 : ((Sa[0].toNat : Int) == 45) = false := by rw [beq_eq_false_iff_ne]; omega
  have t2 : (Sa[0].toNat == 45) = false := by rw [beq_eq_false_iff_ne]; omega
  have t3 : decide ((0 : Int) < (Sa.size : Int)) = true := decide_eq_true (by omega)
  have t4 : decide (0 < Sa.size) = true := decide_eq_true hp0
  have g0 : W0.cell? ⟨w.heap.size, 0, none⟩ = some (.string Sa) := HST0.out.cell 0 0 rfl rfl
  have g1 : W0.cell? ⟨w.heap.size, 1, none⟩ = some (.string Sb) := HST0.out.cell 0 1 rfl rfl
  clear hda hdb hy hq hc hza hzb hSa hSb hpa
  go_enter Tryz.func14, Tryz.ntmps14
  go_wp2_with fail
  rw [← hW0]
  clear hW0
  go_wp2_with fail
  clear g0 g1
  have HKS := Lib.hid (show ∀ X, Below W0.heap.size W0 X → (fun X => Below W0.heap.size W0 X ∧ X.cell? ⟨w.heap.size, 1, none⟩ = some (.string Sb)) X from fun X hX => ⟨hX, (HST0.out.call hX).cell 0 1 rfl rfl⟩)
  refine wp_region_last (init := #[_, _, _, _, _, _, _]) (last := _) rfl (by kernel_rfl) (by kernel_rfl) (by kernel_rfl) ?_
  show wpAny _ _ _ _ 7 (Array.replicate 7 false) _ _
  refine wpAny_of_held (S := (fun X => Below W0.heap.size W0 X ∧ X.cell? ⟨w.heap.size, 1, none⟩ = some (.string Sb))) _ _ _ _ ?_
  have HS0 := HKS.out _ (Below.refl _ W0).drew
  refine wpAnyH_take (i := 0) (v := ?_) rfl (by kernel_rfl) (by kernel_rfl) (by kernel_rfl) (fun _ _ _ h => h) (Or.inl ⟨by rfl, ?_⟩) HS0 ?_
  rotate_left
  · intro W hW; (try dsimp only at hW); go_simp; try (with_reducible rfl)
  (try simp only [List.getElem_toArray, List.getElem_cons_succ, List.getElem_cons_zero, Act.put, List.setIfInBounds_toArray, List.set_cons_zero, List.set_cons_succ])
  refine wpAnyH_take (i := 1) (v := ?_) rfl (by kernel_rfl) (by kernel_rfl) (by kernel_rfl) (fun _ _ _ h => h) (Or.inl ⟨by rfl, ?_⟩) HS0 ?_
  rotate_left
  · intro W hW; (try dsimp only at hW); go_simp; try (with_reducible rfl)
  (try simp only [List.getElem_toArray, List.getElem_cons_succ, List.getElem_cons_zero, Act.put, List.setIfInBounds_toArray, List.set_cons_zero, List.set_cons_succ])
  refine wpAnyH_take (i := 3) (v := ?_) rfl (by kernel_rfl) (by kernel_rfl) (by kernel_rfl) (fun _ _ _ h => h) (Or.inl ⟨by rfl, ?_⟩) HS0 ?_
  rotate_left
  · intro W hW; (try dsimp only at hW); go_simp; try (with_reducible rfl)
  (try simp only [List.getElem_toArray, List.getElem_cons_succ, List.getElem_cons_zero, Act.put, List.setIfInBounds_toArray, List.set_cons_zero, List.set_cons_succ])
  refine wpAnyH_take (i := 4) (v := ?_) rfl (by kernel_rfl) (by kernel_rfl) (by kernel_rfl) (fun _ _ _ h => h) (Or.inl ⟨by rfl, ?_⟩) HS0 ?_
  rotate_left
  · intro W hW; (try dsimp only at hW); go_simp; try (with_reducible rfl)
  (try simp only [List.getElem_toArray, List.getElem_cons_succ, List.getElem_cons_zero, Act.put, List.setIfInBounds_toArray, List.set_cons_zero, List.set_cons_succ])
  refine run_one (i := 2) (by kernel_rfl) rfl rfl ?_
  intro K hK
  go_simp
  refine (HD1.out _).mono ?_
  rintro e w5 ⟨A5, c5, l5, rfl, hn5, hb5⟩
  refine hK.out _ _ (HKS.out _ (below_next HS0.1 hb5)) ?_
  clear hK K
  have HSP := HS0
  clear HS0
  intro HS0
  refine run_one (i := 5) (by kernel_rfl) rfl rfl ?_
  intro K hK
  go_simp
  refine (HD2.out _).mono ?_
  rintro e w6 ⟨A6, c6, l6, rfl, hn6, hb6⟩
  refine hK.out _ _ (HKS.out _ (below_next HS0.1 hb6)) ?_
  clear hK K
  have HSP := HS0
  clear HS0
  intro HS0
  refine run_one (i := 6) (by kernel_rfl) rfl rfl ?_
  intro K hK
  go_simp
  refine (HL.out _ A5 c5 l5 A6 c6 l6 (hn5.on hb6) hn6).mono ?_
  rintro e w7 ⟨v7, rfl, hv7, hb7⟩
  refine hK.out _ _ (HKS.out _ (below_next HS0.1 hb7)) ?_
  clear hK K
  have HSP := HS0
  clear HS0
  intro HS0
  refine wpAnyH_done (by kernel_rfl) ?_ _
  simp only [LastQ]
  have HF := Lib.hid (fun W (hf : Fr (fun i => i = w.heap.size + 1) w7 W) => frac_ret2 (HX0.out.on HS0.1) hv7 (below_next HST0.out.below HS0.1) (by omega) hf)
  obtain ⟨k0, k1, k2, z0, z1, z2, hlt⟩ := (HX0.out.on HS0.1).facts
  obtain ⟨A8, c8, l8, A9, c9, l9, rfl, _, _⟩ := hv7
  clear HS0 hb5 hb6 hb7 hn5 hn6
  go_simp
  go_wp2
  refine bodyPost_ret (v := .agg #[.bool (frS q), .slice A8 l8.length c8, .slice A9 l9.length c9]) (by simp [results, Tryz.results14, go_sem, k0, k1, k2]) rfl ⟨_, rfl, HF.out _ (fr3 _ _ _)⟩
theorem rFromRat_any (a b : List UInt8) (w : World) (ha : a.length ≤ 100000) (hb : b.length ≤ 100000) (hpa : 0 < a.length) (hda : ∀ c ∈ a, 48 ≤ c.toNat ∧ c.toNat ≤ 57) (hdb : ∀ c ∈ b, 48 ≤ c.toNat ∧ c.toNat ≤ 57) (hy : 0 < dgV b) :
    Calls Tryz.prog 14 #[.agg #[.string ⟨a.toArray⟩, .string ⟨b.toArray⟩]] w (FracPost (mkRat (dgV a : Nat) (dgV b)) w) :=
  rFromRat_s ⟨a.toArray⟩ ⟨b.toArray⟩ a b w rfl rfl ha hb hpa hda hdb hy
end Go.Proofs.YtpmnhdgajkickaaGreatDoor

/- Package dynamometerref10: CheckRatio. -/
namespace Go.Proofs.YtpmnhdgajkickaaGreatDoor
open Go Go.RowKit Go.Proofs

theorem cRt_form {a b : List UInt8} (h : dgB (unsg a) = false ∨ dgB b = false ∨ b = [48] ∨ a = [45, 48]) : cRt a b = 2 := by unfold cRt codeRt; rw [if_pos h]
theorem cRt_size {a b : List UInt8} (h : ¬ (dgB (unsg a) = false ∨ dgB b = false ∨ b = [48] ∨ a = [45, 48])) (h2 : 2000 < (unsg a).length ∨ 2000 < b.length) : cRt a b = 3 := by unfold cRt codeRt; rw [if_neg h, if_pos h2]
theorem cRt_gcd {a b : List UInt8} (h : ¬ (dgB (unsg a) = false ∨ dgB b = false ∨ b = [48] ∨ a = [45, 48])) (h2 : ¬ (2000 < (unsg a).length ∨ 2000 < b.length)) (G : Nat) (hG : G = Nat.gcd (dgV (unsg a)) (dgV b)) : cRt a b = if G = 1 then 0 else 2 := by
  unfold cRt codeRt
  rw [if_neg h, if_neg h2, hG]
theorem cmp_one {x : Nat} : (cmpN x 1 != 0) = decide (x ≠ 1) := by
  unfold cmpN
  by_cases h : x = 1
  · subst h; rfl
  · rw [decide_eq_true h]
    split
    · rfl
    · first | rfl | (rw [if_neg h]; rfl) | (split <;> first | rfl | omega)
theorem gcd_len {L M : List UInt8} (hd : ∀ c ∈ L, 48 ≤ c.toNat ∧ c.toNat ≤ 57) (hd2 : ∀ c ∈ M, 48 ≤ c.toNat ∧ c.toNat ≤ 57) : Nat.gcd (dgV L) (dgV M) < 10 ^ (L.length + M.length) := by
  have h1 := dgV_lt hd
  have h2 := dgV_lt hd2
  rw [Nat.pow_add]
  rcases Nat.eq_zero_or_pos (dgV L) with h | h
  · rw [h, Nat.gcd_zero_left]
    exact Nat.lt_of_lt_of_le h2 (Nat.le_mul_of_pos_left _ (Nat.pow_pos (by omega)))
  · exact Nat.lt_of_le_of_lt (Nat.gcd_le_left _ h) (Nat.lt_of_lt_of_le h1 (Nat.le_mul_of_pos_right _ (Nat.pow_pos (by omega))))
set_option maxHeartbeats 4000000 in
set_option maxRecDepth 100000 in
theorem rChk_any (Sa Sb : ByteArray) (a b : List UInt8) (w : World) (hSa : Sa.data.toList = a) (hSb : Sb.data.toList = b) (ha : Sa.size ≤ 9223372036854775800) (hb : Sb.size ≤ 9223372036854775800) :
    Calls Tryz.prog 12 #[.agg #[.string Sa, .string Sb]] w fun e w' => e = .returned (.int .i64 (cRt a b)) ∧ Below w.heap.size w w' := by
  have HU := Lib.hid (fun W => rUnsigned_any Sa a W hSa (by omega))
  obtain ⟨SU, hSU⟩ : ∃ SU : ByteArray, SU = ⟨(unsg a).toArray⟩ := ⟨_, rfl⟩
  rw [← hSU] at HU
  have hU : SU.data.toList = unsg a := by rw [hSU]
  have hua : (unsg a).length ≤ a.length := by unfold unsg; split <;> simp
  have hza := ba_size hSa
  have hzb := ba_size hSb
  have hzu := ba_size hU
  have HB1 := Lib.hid (fun W => rDigitsB_any SU (unsg a) W hU (by omega))
  have HB2 := Lib.hid (fun W => rDigitsB_any Sb b W hSb (by omega))
  obtain ⟨d1, hd1⟩ : ∃ d, d = dgB (unsg a) := ⟨_, rfl⟩
  obtain ⟨d2, hd2⟩ : ∃ d, d = dgB b := ⟨_, rfl⟩
  obtain ⟨e3, he3⟩ : ∃ d, d = (Sb.toList == [48]) := ⟨_, rfl⟩
  obtain ⟨e4, he4⟩ : ∃ d, d = (Sa.toList == [45, 48]) := ⟨_, rfl⟩
  have hf3 : e3 = true ↔ b = [48] := by rw [he3, ByteArray.toList_eq, hSb, beq_iff_eq]
  have hf4 : e4 = true ↔ a = [45, 48] := by rw [he4, ByteArray.toList_eq, hSa, beq_iff_eq]
  rw [← hd1] at HB1
  rw [← hd2] at HB2
  have x3 := he3.symm
  have x4 := he4.symm
  obtain ⟨W0, hW0⟩ : ∃ W0, W0 = w.alloc (.cells #[.string Sa, .string Sb] 23) := ⟨_, rfl⟩
  have HST0 := Lib.hid (show St w W0 [(w.heap.size, .cells #[.string Sa, .string Sb] 23 (0, 0))] by rw [hW0]; exact (St.start w).alloc _ _ rfl)
  have HKS := Lib.hid (show ∀ X, Below W0.heap.size W0 X → (fun X => Below W0.heap.size W0 X ∧ X.cell? ⟨w.heap.size, 0, none⟩ = some (.string Sa) ∧ X.cell? ⟨w.heap.size, 1, none⟩ = some (.string Sb)) X from fun X hX => ⟨hX, (HST0.out.call hX).cell 0 0 rfl rfl, (HST0.out.call hX).cell 0 1 rfl rfl⟩)
  have HBW := Lib.hid (show ∀ X, Below W0.heap.size W0 X → Below w.heap.size w X from fun X hX => below_next HST0.out.below hX)
  have HFM := Lib.hid (fun h => cRt_form (a := a) (b := b) h)
  have HSZ := Lib.hid (fun h => cRt_size (a := a) (b := b) h)
  have HGC := Lib.hid (fun h h2 G hG => cRt_gcd (a := a) (b := b) h h2 G hG)
  obtain ⟨rv, hrv⟩ : ∃ rv, rv = cRt a b := ⟨_, rfl⟩
  rw [← hrv] at HFM HSZ HGC ⊢
  clear hrv
  cases d1 with
  | false =>
    have HR := Lib.hid (HFM.out (.inl hd1.symm))
    clear hd1 hd2 he3 he4 hf3 hf4 x3 x4 HFM HSZ HGC hSU hU hSa hSb
    go_enter Tryz.func12, Tryz.ntmps12
    go_wp2_with fail
    rw [← hW0]
    clear hW0
    obtain ⟨_, f0, f1⟩ := HKS.out W0 (Below.refl _ W0)
    go_wp2_with fail
    (with_reducible refine (HU.out _).mono ?_)
    rintro e w1 ⟨rfl, rfl⟩
    go_wp2_with fail
    (with_reducible refine (HB1.out _).mono ?_)
    rintro e w2 ⟨rfl, hb2⟩
    go_wp2
    go_ret
    exact ⟨by rw [HR.out]; rfl, HBW.out _ hb2⟩
  | true =>
    cases d2 with
    | false =>
      have HR := Lib.hid (HFM.out (.inr (.inl hd2.symm)))
      clear hd1 hd2 he3 he4 hf3 hf4 x3 x4 HFM HSZ HGC hSU hU hSa hSb
      go_enter Tryz.func12, Tryz.ntmps12
      go_wp2_with fail
      rw [← hW0]
      clear hW0
      obtain ⟨_, f0, f1⟩ := HKS.out W0 (Below.refl _ W0)
      go_wp2_with fail
      (with_reducible refine (HU.out _).mono ?_)
      rintro e w1 ⟨rfl, rfl⟩
      go_wp2_with fail
      (with_reducible refine (HB1.out _).mono ?_)
      rintro e w2 ⟨rfl, hb2⟩
      have HB2_ := Lib.hid hb2
      clear f0 f1
      obtain ⟨_, f0, f1⟩ := HKS.out w2 hb2
      go_wp2_with fail
      (with_reducible refine (HB2.out _).mono ?_)
      rintro e w3 ⟨rfl, hb3⟩
      go_wp2
      go_ret
      exact ⟨by rw [HR.out]; rfl, HBW.out _ (below_next HB2_.out hb3)⟩
    | true =>
      by_cases hbad : e3 = true ∨ e4 = true
      · have HR := Lib.hid (HFM.out (.inr (.inr (hbad.imp hf3.1 hf4.1))))
        clear hd1 hd2 he3 he4 hf3 hf4 HFM HSZ HGC hSU hU hSa hSb
        go_enter Tryz.func12, Tryz.ntmps12
        go_wp2_with fail
        rw [← hW0]
        clear hW0
        obtain ⟨_, f0, f1⟩ := HKS.out W0 (Below.refl _ W0)
        go_wp2_with fail
        (with_reducible refine (HU.out _).mono ?_)
        rintro e w1 ⟨rfl, rfl⟩
        go_wp2_with fail
        (with_reducible refine (HB1.out _).mono ?_)
        rintro e w2 ⟨rfl, hb2⟩
        have HB2_ := Lib.hid hb2
        clear f0 f1
        obtain ⟨_, f0, f1⟩ := HKS.out w2 hb2
        go_wp2_with fail
        (with_reducible refine (HB2.out _).mono ?_)
        rintro e w3 ⟨rfl, hb3⟩
        have hb23 := below_next HB2_.out hb3
        clear f0 f1
        obtain ⟨_, f0, f1⟩ := HKS.out w3 hb23
        cases e3 with
        | true =>
          go_wp2
          go_ret
          exact ⟨by rw [HR.out]; rfl, HBW.out _ hb23⟩
        | false =>
          obtain rfl : e4 = true := by simpa using hbad
          go_wp2
          go_ret
          exact ⟨by rw [HR.out]; rfl, HBW.out _ hb23⟩
      · simp only [not_or, Bool.not_eq_true] at hbad
        obtain ⟨rfl, rfl⟩ := hbad
        have hok : ¬ (dgB (unsg a) = false ∨ dgB b = false ∨ b = [48] ∨ a = [45, 48]) := by
          rw [← hd1, ← hd2, ← hf3, ← hf4]; simp
        have HSZ := Lib.hid (HSZ.out hok)
        have HGC := Lib.hid (HGC.out hok)
        have hdu := (dgB_digits hd1.symm).2.1
        have hdb := (dgB_digits hd2.symm).2.1
        have HD1 := Lib.hid (fun W (h : SU.size ≤ 1000000) => rDigits_s SU (unsg a) W hU h hdu)
        have HD2 := Lib.hid (fun W (h : Sb.size ≤ 1000000) => rDigits_s Sb b W hSb h hdb)
        have HG := Lib.hid (fun W A1 A2 c1 c2 l1 l2 (h1 : RNatR W A1 c1 l1 (dgV (unsg a))) (h2 : RNatR W A2 c2 l2 (dgV b)) (h3 : (unsg a).length ≤ 2000) (h4 : b.length ≤ 2000) => rnatGcd_any A1 A2 c1 c2 l1 l2 _ _ W h1 h2 (by have := dgt_len h1 hdu; omega) (by have := dgt_len h2 hdb; omega))
        have HGL := Lib.hid (gcd_len hdu hdb)
        have HO := Lib.hid (fun W => rnatOf_any 1 W (by omega))
        rw [show (1 : Int).toNat = 1 from rfl] at HO
        clear hd1 hd2 he3 he4 hf3 hf4 HFM hSU hU hSa hSb hdu hdb hok
        by_cases hsz : 2000 < (unsg a).length ∨ 2000 < b.length
        · have HR := Lib.hid (HSZ.out hsz)
          rw [← hzu, ← hzb] at hsz
          go_enter Tryz.func12, Tryz.ntmps12
          go_wp2_with fail
          rw [← hW0]
          clear hW0
          obtain ⟨_, f0, f1⟩ := HKS.out W0 (Below.refl _ W0)
          go_wp2_with fail
          (with_reducible refine (HU.out _).mono ?_)
          rintro e w1 ⟨rfl, rfl⟩
          go_wp2_with fail
          (with_reducible refine (HB1.out _).mono ?_)
          rintro e w2 ⟨rfl, hb2⟩
          have HB2_ := Lib.hid hb2
          clear f0 f1
          obtain ⟨_, f0, f1⟩ := HKS.out w2 hb2
          go_wp2_with fail
          (with_reducible refine (HB2.out _).mono ?_)
          rintro e w3 ⟨rfl, hb3⟩
          have hb23 := below_next HB2_.out hb3
          clear f0 f1
          obtain ⟨_, f0, f1⟩ := HKS.out w3 hb23
          by_cases h1 : 2000 < SU.size
          · have t1 : decide ((2000 : Int) < (SU.size : Int)) = true := decide_eq_true (by omega)
            have t2 : decide (2000 < SU.size) = true := decide_eq_true h1
            go_wp2
            go_ret
            exact ⟨by rw [HR.out]; rfl, HBW.out _ hb23⟩
          · have t1 : decide ((2000 : Int) < (SU.size : Int)) = false := decide_eq_false (by omega)
            have t2 : decide (2000 < SU.size) = false := decide_eq_false h1
            have t3 : decide ((2000 : Int) < (Sb.size : Int)) = true := decide_eq_true (by omega)
            have t4 : decide (2000 < Sb.size) = true := decide_eq_true (by omega)
            go_wp2
            go_ret
            exact ⟨by rw [HR.out]; rfl, HBW.out _ hb23⟩
        · obtain ⟨G, hG⟩ : ∃ G, G = Nat.gcd (dgV (unsg a)) (dgV b) := ⟨_, rfl⟩
          have hR := HGC.out hsz G hG
          rw [← hG] at HG HGL
          have HR := Lib.hid hR
          obtain ⟨E, hE0, hE⟩ : ∃ E, 4000 ≤ E ∧ E ≤ 4000 := ⟨4000, Nat.le_refl _, Nat.le_refl _⟩
          have hgl : G < 10 ^ E := Nat.lt_of_lt_of_le HGL.out (Nat.pow_le_pow_right (by omega) (by omega))
          have HGT := Lib.hid (show G < T4 ^ E from Nat.lt_of_lt_of_le hgl (Nat.pow_le_pow_left (by unfold T4; omega) _))
          have HGG := Lib.hid (fun W A1 A2 c1 c2 l1 l2 h1 h2 => HG.out W A1 A2 c1 c2 l1 l2 h1 h2 (by omega) (by omega))
          have HE1 := Lib.hid (fun W => HD1.out W (by omega))
          have HE2 := Lib.hid (fun W => HD2.out W (by omega))
          obtain ⟨cv, hcv⟩ : ∃ cv, cv = cmpN G 1 := ⟨_, rfl⟩
          have HC := Lib.hid (fun W A1 A2 c1 c2 l1 l2 (h1 : RNatR W A1 c1 l1 G) (h2 : RNatR W A2 c2 l2 1) => rnatCmp_any A1 A2 c1 c2 l1 l2 G 1 W h1 h2 (by have := h1.len HGT.out; omega) (by have := h2.len (n := 1) (by unfold T4; omega); omega))
          rw [← hcv] at HC
          obtain ⟨zb, hzq⟩ : ∃ zb, zb = (cv != 0) := ⟨_, rfl⟩
          have t5 := hzq.symm
          have hR2 : rv = if zb = true then 2 else 0 := by
            rw [hR, hzq, hcv, cmp_one]
            by_cases h1 : G = 1 <;> simp [h1]
          have HR := Lib.hid hR2
          have t1 : decide ((2000 : Int) < (SU.size : Int)) = false := decide_eq_false (by omega)
          have t2 : decide (2000 < SU.size) = false := decide_eq_false (by omega)
          have t3 : decide ((2000 : Int) < (Sb.size : Int)) = false := decide_eq_false (by omega)
          have t4 : decide (2000 < Sb.size) = false := decide_eq_false (by omega)
          clear hR hG hgl HGL HG HD1 HD2 HSZ HGC hcv hzq hR2 hsz hzu hzb hza hua
          go_enter Tryz.func12, Tryz.ntmps12
          go_wp2_with fail
          rw [← hW0]
          clear hW0
          obtain ⟨_, f0, f1⟩ := HKS.out W0 (Below.refl _ W0)
          go_wp2_with fail
          (with_reducible refine (HU.out _).mono ?_)
          rintro e w1 ⟨rfl, rfl⟩
          go_wp2_with fail
          (with_reducible refine (HB1.out _).mono ?_)
          rintro e w2 ⟨rfl, hb2⟩
          have HB2_ := Lib.hid hb2
          clear f0 f1
          obtain ⟨_, f0, f1⟩ := HKS.out w2 hb2
          go_wp2_with fail
          (with_reducible refine (HB2.out _).mono ?_)
          rintro e w3 ⟨rfl, hb3⟩
          have HB3_ := Lib.hid (below_next HB2_.out hb3)
          clear f0 f1 hb2 hb3
          have HK3 := Lib.hid (show ∀ X, Below w3.heap.size w3 X → (fun X => Below w3.heap.size w3 X ∧ X.cell? ⟨w.heap.size, 1, none⟩ = some (.string Sb)) X from fun X hX => ⟨hX, (HKS.out X (below_next HB3_.out hX)).2.2⟩)
          obtain ⟨_, f0, f1⟩ := HKS.out w3 HB3_.out
          go_upto_region 6 with fail
          go_region_held3 (fun X => Below w3.heap.size w3 X ∧ X.cell? ⟨w.heap.size, 1, none⟩ = some (.string Sb))
            (first
              | exact HK3.out _ (Below.refl _ w3).drew
              | (go_split_ands; refine HK3.out _ (below_next ?_ hb5); assumption)
              | (go_split_ands; refine HK3.out _ (below_next ?_ hb6); assumption)
              | (go_split_ands; refine HK3.out _ (below_next ?_ hb7); assumption)
              | (go_split_ands; refine HK3.out _ (below_next ?_ hb8); assumption)
              | (go_split_ands; refine HK3.out _ (below_drewN ?_ _); assumption))
            (first
              | (go_at_call 53; (with_reducible refine (HE1.out _).mono ?_); rintro e w5 ⟨A5, c5, l5, rfl, hn5, hb5⟩)
              | (go_at_call 53; (with_reducible refine (HE2.out _).mono ?_); rintro e w6 ⟨A6, c6, l6, rfl, hn6, hb6⟩)
              | (go_at_call 52; (with_reducible refine (HGG.out _ A5 A6 c5 c6 l5 l6 (hn5.on hb6) hn6).mono ?_); rintro e w7 ⟨A7, c7, l7, rfl, hn7, hb7⟩)
              | (go_at_call 54; (with_reducible refine (HO.out _).mono ?_); rintro e w8 ⟨A8, c8, l8, rfl, hn8, hb8⟩)
              | (go_at_call 51; (with_reducible refine (HC.out _ A7 A8 c7 c8 l7 l8 (hn7.on hb8) hn8).mono ?_); rintro e w9 ⟨rfl, q9, rfl⟩))
          have hbl : Below w3.heap.size w3 (w8.drewN q9) := by go_split_ands; assumption
          have HBF := Lib.hid (HBW.out _ (below_next HB3_.out hbl))
          clear hn5 hn6 hn7 hn8 hb5 hb6 hb7 hb8 hbl
          cases zb with
          | true =>
            go_wp2
            go_ret
            exact ⟨by rw [HR.out]; rfl, HBF.out⟩
          | false =>
            go_wp2
            go_ret
            exact ⟨by rw [HR.out]; rfl, HBF.out⟩
end Go.Proofs.YtpmnhdgajkickaaGreatDoor
