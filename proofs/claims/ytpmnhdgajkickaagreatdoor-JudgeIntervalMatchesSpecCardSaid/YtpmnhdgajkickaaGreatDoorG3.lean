import Derived.Test.YtpmnhdgajkickaaGreatDoorG1
import Derived.Test.YtpmnhdgajkickaaGreatDoorG2
import Derived.Test.YtpmnhdgajkickaaGreatDoorProg
import Derived.Lib.IndexBytes
import Derived.WalkSpells
import Derived.WalkLawsBesides
import Derived.Handy
import Derived.Lib.SlTrimSet
import Derived.Lib.Strings
/- Package dynamometerref10: unsigned, digits. -/
namespace Go.Proofs.YtpmnhdgajkickaaGreatDoor
open Go Go.RowKit Go.Proofs

theorem ba_eq {S : ByteArray} {L : List UInt8} (h : S.data.toList = L) : S = ⟨L.toArray⟩ := by subst h; rfl
theorem ba_size {S : ByteArray} {L : List UInt8} (h : S.data.toList = L) : S.size = L.length := by subst h; exact Array.length_toList.symm
theorem ba_first {S : ByteArray} {c : UInt8} {r : List UInt8} (h : S.data.toList = c :: r) (hp : 0 < S.size) : S[0] = c := by
  have e2 : S.data.toList[0]? = some S[0] := List.getElem?_eq_getElem (l := S.data.toList) (i := 0) (by simpa using hp)
  rw [h] at e2
  exact (Option.some.inj e2).symm
set_option maxHeartbeats 1000000 in
set_option maxRecDepth 100000 in
theorem rUnsigned_any (S : ByteArray) (L : List UInt8) (w : World) (hS : S.data.toList = L) (hL : S.size ≤ 9223372036854775807) :
    Calls Tryz.prog 49 #[.string S] w fun e w' => e = .returned (.string ⟨(unsg L).toArray⟩) ∧ w = w' := by
  have hz := ba_size hS
  cases L with
  | nil =>
    have HE := Lib.hid (show (⟨(unsg []).toArray⟩ : ByteArray) = S from (ba_eq hS).symm)
    have t3 : decide ((0 : Int) < (S.size : Int)) = false := decide_eq_false (by have h0 : S.size = 0 := hz; omega)
    have t4 : decide (0 < S.size) = false := decide_eq_false (by have h0 : S.size = 0 := hz; omega)
    clear hS hz
    go_enter Tryz.func49, Tryz.ntmps49
    go_wp2
    go_ret
    exact ⟨by rw [HE.out]; rfl, rfl⟩
  | cons c r =>
    simp only [List.length_cons] at hz
    have hp0 : 0 < S.size := by omega
    have hc := ba_first hS hp0
    have t3 : decide ((0 : Int) < (S.size : Int)) = true := decide_eq_true (by omega)
    have t4 : decide (0 < S.size) = true := decide_eq_true hp0
    by_cases h45 : c = 45
    · have HE := Lib.hid (show (⟨(unsg (c :: r)).toArray⟩ : ByteArray) = S.extract 1 S.size by
        refine (ba_eq ?_).symm
        rw [Lib.extract_to_end, hS, h45]; rfl)
      have t1 : ((S[0].toNat : Int) == 45) = true := by rw [hc, h45]; rfl
      have t2 : (S[0].toNat == 45) = true := by rw [hc, h45]; rfl
      have hsub : (1 : Int) ≤ (S.size : Int) := by omega
      have hsub' : 1 ≤ S.size := by omega
      clear hS hz hc
      go_enter Tryz.func49, Tryz.ntmps49
      go_wp2
      go_ret
      exact ⟨by rw [HE.out]; rfl, rfl⟩
    · have HE := Lib.hid (show (⟨(unsg (c :: r)).toArray⟩ : ByteArray) = S by
        rw [unsg_pos (by simpa [sgB] using h45)]
        exact (ba_eq hS).symm)
      have hne : c.toNat ≠ 45 := fun h => h45 (UInt8.toNat_inj.1 h)
      have t1 : ((S[0].toNat : Int) == 45) = false := by rw [hc, beq_eq_false_iff_ne]; omega
      have t2 : (S[0].toNat == 45) = false := by rw [hc, beq_eq_false_iff_ne]; exact hne
      clear hS hz hc hne
      go_enter Tryz.func49, Tryz.ntmps49
      go_wp2
      go_ret
      exact ⟨by rw [HE.out]; rfl, rfl⟩
theorem dgB_bad {L : List UInt8} {c : UInt8} (hc : c ∈ L) (h : c.toNat < 48 ∨ 57 < c.toNat) : dgB L = false := by
  refine Bool.eq_false_iff.2 fun hd => ?_
  have := (dgB_digits hd).2.1 c hc
  omega
/-- digits, and what stands first -/
theorem dgB_all {L : List UInt8} (h : ∀ c ∈ L, 48 ≤ c.toNat ∧ c.toNat ≤ 57) : dgB L = (!L.isEmpty && (L.head? != some 48 || L == [48])) := by
  unfold dgB
  have : (L.all fun c => decide (48 ≤ c.toNat) && decide (c.toNat ≤ 57)) = true := List.all_eq_true.2 fun c hc => by simpa using h c hc
  rw [this, Bool.and_true]
set_option maxHeartbeats 1000000 in
set_option maxRecDepth 100000 in
theorem rDigitsB_any (S : ByteArray) (L : List UInt8) (w : World) (hS : S.data.toList = L) (hL : S.size ≤ 9223372036854775806) :
    Calls Tryz.prog 50 #[.string S] w fun e w' => e = .returned (.bool (dgB L)) ∧ Below w.heap.size w w' := by
  have hz := ba_size hS
  have HB := Lib.hid (show ∀ (i : Nat) (h : i < S.size), ∃ h' : i < L.length, L[i] = S[i] from fun i h => by subst hS; exact ⟨by simpa using h, rfl⟩)
  have HS := Lib.hid hS
  clear hS
  go_enter Tryz.func50, Tryz.ntmps50
  go_wp2
  go_loopw [3] (fun iv wr => ∃ k : Nat, iv = .int .i64 k ∧ k ≤ S.size ∧ (∀ c ∈ L.take k, 48 ≤ c.toNat ∧ c.toNat ≤ 57) ∧ Below w.heap.size w wr) (fun iv _ => S.size - (intOf iv).toNat)
  case atStart => exact ⟨0, rfl, Nat.zero_le _, fun c hc => by simp at hc, Below.refl _ _⟩
  case round =>
    obtain ⟨k, rfl, hk, hd, hbw⟩ := hrel
    have HD := Lib.hid hd
    have HBW := Lib.hid hbw
    clear hd hbw
    by_cases hlt : k < S.size
    · obtain ⟨h', hc⟩ := HB.out k hlt
      have hltI : (k : Int) < (S.size : Int) := by omega
      have hm : S[k] ∈ L := by rw [← hc]; exact List.getElem_mem _
      have HM := Lib.hid hm
      have HC := Lib.hid (show L.take (k + 1) = L.take k ++ [S[k]] by rw [List.take_add_one, List.getElem?_eq_getElem h', hc]; rfl)
      clear hc h' hm
      rcases Nat.lt_or_ge S[k].toNat 48 with h48 | h48
      · have t1 : decide ((S[k].toNat : Int) < 48) = true := decide_eq_true (by omega)
        have t2 : decide (S[k].toNat < 48) = true := decide_eq_true h48
        go_wp2
        go_ret
        exact ⟨by rw [dgB_bad HM.out (.inl h48)]; rfl, HBW.out⟩
      · rcases Nat.lt_or_ge 57 S[k].toNat with h57 | h57
        · have t1 : decide ((S[k].toNat : Int) < 48) = false := decide_eq_false (by omega)
          have t2 : decide (S[k].toNat < 48) = false := decide_eq_false (by omega)
          have t3 : decide (57 < (S[k].toNat : Int)) = true := decide_eq_true (by omega)
          have t4 : decide (57 < S[k].toNat) = true := decide_eq_true h57
          go_wp2
          go_ret
          exact ⟨by rw [dgB_bad HM.out (.inr h57)]; rfl, HBW.out⟩
        · have t1 : decide ((S[k].toNat : Int) < 48) = false := decide_eq_false (by omega)
          have t2 : decide (S[k].toNat < 48) = false := decide_eq_false (by omega)
          have t3 : decide (57 < (S[k].toNat : Int)) = false := decide_eq_false (by omega)
          have t4 : decide (57 < S[k].toNat) = false := decide_eq_false (by omega)
          have HN := Lib.hid (show ∀ c ∈ L.take (k + 1), 48 ≤ c.toNat ∧ c.toNat ≤ 57 from fun c hc => by
            rw [HC.out, List.mem_append, List.mem_singleton] at hc
            rcases hc with hc | rfl
            · exact HD.out c hc
            · exact ⟨h48, h57⟩)
          go_wp2
          go_roundw
          case rel => exact ⟨k + 1, by go_num, by omega, HN.out, HBW.out⟩
          case measure => simp [intOf]; omega
    · obtain rfl : k = S.size := by omega
      have hall := HD.out
      rw [hz, List.take_length] at hall
      have HE := Lib.hid (dgB_all hall)
      clear hall
      cases L with
      | nil =>
        have e0 : S.toList.isEmpty = true := by rw [ByteArray.toList_eq, HS.out]; rfl
        go_wp2
        go_ret
        exact ⟨by rw [HE.out]; rfl, HBW.out⟩
      | cons c r =>
        have hp0 : 0 < S.size := by have := ba_size HS.out; simp at this; omega
        have hc := ba_first HS.out hp0
        have e0 : S.toList.isEmpty = false := by rw [ByteArray.toList_eq, HS.out]; rfl
        by_cases h48 : c = 48
        · subst h48
          obtain ⟨zb, hzb⟩ : ∃ zb, zb = (S.toList == [48]) := ⟨_, rfl⟩
          have hv : (!(List.isEmpty ((48 : UInt8) :: r)) && (List.head? ((48 : UInt8) :: r) != some 48 || ((48 : UInt8) :: r) == [48])) = zb := by
            rw [hzb, ByteArray.toList_eq, HS.out]; rfl
          rw [hv] at HE
          have e1 := hzb.symm
          clear hzb hv
          go_wp2
          go_ret
          exact ⟨by rw [HE.out]; rfl, HBW.out⟩
        · have hne : c.toNat ≠ 48 := fun h => h48 (UInt8.toNat_inj.1 h)
          have hv : (!(List.isEmpty (c :: r)) && (List.head? (c :: r) != some 48 || (c :: r) == [48])) = true := by
            simp [h48]
          rw [hv] at HE
          have t1 : ((c.toNat : Int) != 48) = true := by rw [bne_iff_ne]; omega
          have t2 : (c.toNat != 48) = true := by rw [bne_iff_ne]; omega
          have t3 : ((c.toNat : Int) == 48) = false := by rw [beq_eq_false_iff_ne]; omega
          have t4 : (c.toNat == 48) = false := by rw [beq_eq_false_iff_ne]; omega
          clear hv
          go_wp2
          go_ret
          exact ⟨by rw [HE.out]; rfl, HBW.out⟩
end Go.Proofs.YtpmnhdgajkickaaGreatDoor

/- Texts of digits: trimmed, prefixed. Plain. -/
namespace Go.Proofs.YtpmnhdgajkickaaGreatDoor
open Go

/-- the ten digits -/
def tenD : List UInt8 := [48, 49, 50, 51, 52, 53, 54, 55, 56, 57]
set_option maxRecDepth 100000 in
theorem tenD_mem (c : UInt8) : tenD.contains c = (decide (48 ≤ c.toNat) && decide (c.toNat ≤ 57)) := by
  have key : ∀ k : Fin 256, tenD.contains (UInt8.ofNat k.val) = (decide (48 ≤ (UInt8.ofNat k.val).toNat) && decide ((UInt8.ofNat k.val).toNat ≤ 57)) := by decide
  have h := key ⟨c.toNat, c.toNat_lt⟩
  simpa using h
theorem trimS_nil (l cs : List UInt8) : (Lib.trimS l cs).isEmpty = l.all (fun c => cs.contains c) := by
  have dw : ∀ l : List UInt8, (l.dropWhile (fun c => cs.contains c)).isEmpty = l.all (fun c => cs.contains c) := by
    intro l
    induction l with
    | nil => rfl
    | cons a r ih =>
      rw [List.dropWhile_cons, List.all_cons]
      cases h : cs.contains a with
      | true => simpa using ih
      | false => simp
  have dl : ∀ l : List UInt8, l.dropWhile (fun c => cs.contains c) = [] ↔ l.all (fun c => cs.contains c) = true := by
    intro l
    rw [← dw l]; simp
  rw [Bool.eq_iff_iff]
  unfold Lib.trimS Lib.trimLeftS Lib.trimRightS
  rw [List.isEmpty_iff, dl]
  simp only [List.all_reverse]
  constructor
  · intro h
    rw [List.all_eq_true] at h ⊢
    intro c hc
    refine Classical.byContradiction fun hn => ?_
    have hne : l.reverse.dropWhile (fun c => cs.contains c) ≠ [] := by
      intro h0
      rw [dl] at h0
      exact hn (List.all_eq_true.1 h0 c (by simpa using hc))
    have hh := List.head_dropWhile_not (p := fun c => cs.contains c) hne
    have := h _ (List.head_mem hne)
    rw [hh] at this
    cases this
  · intro h
    rw [List.all_eq_true] at h ⊢
    intro c hc
    exact h c (by have := (List.dropWhile_sublist (fun c => cs.contains c) (l := l.reverse)).subset hc; simpa using this)
theorem trim_digits (l : List UInt8) : (Lib.trimS l tenD).isEmpty = l.all (fun c => decide (48 ≤ c.toNat) && decide (c.toNat ≤ 57)) := by
  rw [trimS_nil]
  congr 1
  funext c
  exact tenD_mem c
theorem cut_minus (a : List UInt8) : Lib.hasPrefix a [45] = sgB a ∧ Lib.trimPrefix a [45] = unsg a := by
  have h : Lib.hasPrefix a [45] = sgB a := by
    cases a with
    | nil => rfl
    | cons c r =>
      show (45 == c && true) = (some c == some 45)
      rw [Bool.and_true, Bool.eq_iff_iff, beq_iff_eq, beq_iff_eq]
      exact ⟨fun h => by rw [h], fun h => (Option.some.inj h).symm⟩
  exact ⟨h, by unfold Lib.trimPrefix unsg; rw [h]; rfl⟩
end Go.Proofs.YtpmnhdgajkickaaGreatDoor
