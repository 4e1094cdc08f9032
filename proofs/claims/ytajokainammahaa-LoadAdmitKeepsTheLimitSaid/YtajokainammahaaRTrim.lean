/- Package dynamometerref0: trimmed. -/
import Derived.Test.YtajokainammahaaRNat
namespace Go.Proofs.Ytajokainammahaa
open Go Go.RowKit Go.Proofs

theorem trimmed_none (w : World) : Calls Try.prog 22 #[.slice none 0 0] w fun e w' => e = .returned (.slice none 0 0) ∧ w = w' := by
  go_enter Try.func22, Try.ntmps22
  go_wp2
  refine wp_loop_rounds 1 ?_
  rw [rounds_succ]
  go_wp2
  go_ret
  exact ⟨rfl, rfl⟩
set_option maxHeartbeats 1000000 in
set_option maxRecDepth 100000 in
theorem trimmed_some (ad : Addr) (c : Nat) (l : List Nat) (w : World) (hr : Rd w 0 w.heap.size 1 (some ad) l.length (d4s l)) (hc : l.length ≤ c) (hcm : c ≤ maxLen) :
    Calls Try.prog 22 #[.slice (some ad) l.length c] w fun e w' => e = .returned (.slice (some ad) (trim l).length (trim l).length) ∧ w = w' := by
  have HR := Lib.hid hr
  unfold maxLen at hcm
  clear hr
  go_enter Try.func22, Try.ntmps22
  go_wp2
  go_loop [3] (fun v => ∃ n : Nat, n ≤ l.length ∧ v = .int .i64 n ∧ ∀ i, n ≤ i → i < l.length → l[i]? = some 0) (fun v => (intOf v).toNat)
  case atStart => exact ⟨l.length, Nat.le_refl _, rfl, fun i h1 h2 => by omega⟩
  case round =>
    obtain ⟨n, hn, rfl, hz⟩ := hrel
    have HZ := Lib.hid hz
    clear hz
    have hn0 : (0 : Int) ≤ (n : Int) := by omega
    cases n with
    | zero =>
      have HT := Lib.hid (show 0 = (trim l).length by rw [trim_take l 0 hn HZ.out (.inl rfl)]; simp)
      go_wp2
      go_ret
      exact ⟨congrArg (fun z => Ending.returned (.slice (some ad) z z)) HT.out, rfl⟩
    | succ n =>
      obtain ⟨b, o, u, hA, hb, hu, hcell⟩ := HR.out.at1 (show n < l.length by omega)
      obtain ⟨d, hd, rfl⟩ := d4s_get hu
      obtain rfl : ad = ⟨b, o, none⟩ := by injection hA
      have HD := Lib.hid hd
      clear hu hd hA
      by_cases h0 : d = 0
      · subst h0
        have HN := Lib.hid (show ∀ i, n ≤ i → i < l.length → l[i]? = some 0 from fun i h1 h2 => by
          rcases Nat.eq_or_lt_of_le h1 with e | e
          · rw [← e]; exact HD.out
          · exact HZ.out i e h2)
        go_wp2
        go_round
        case rel => exact ⟨n, by omega, by go_num, HN.out⟩
        case measure => simp [intOf]
      · have h0' : ((d : Int) == 0) = false := by simpa using h0
        have HT := Lib.hid (show n + 1 = (trim l).length by
          rw [trim_take l (n + 1) hn HZ.out (.inr (by rw [Nat.add_sub_cancel, HD.out]; simpa using h0))]; simp; omega)
        go_wp2
        go_ret
        exact ⟨congrArg (fun z => Ending.returned (.slice (some ⟨b, o, none⟩) z z)) HT.out, rfl⟩
theorem trimmed_any (A : Option Addr) (c : Nat) (l : List Nat) (w : World) (hr : Rd w 0 w.heap.size 1 A l.length (d4s l)) (hc : l.length ≤ c) (hcm : c ≤ maxLen) (hA : A = none → l.length = 0 ∧ c = 0) :
    Calls Try.prog 22 #[.slice A l.length c] w fun e w' => e = .returned (.slice A (trim l).length (trim l).length) ∧ w = w' := by
  cases A with
  | none =>
    obtain ⟨h1, rfl⟩ := hA rfl
    obtain rfl : l = [] := List.eq_nil_of_length_eq_zero h1
    exact trimmed_none w
  | some ad => exact trimmed_some ad c l w hr hc hcm
theorem rnatr_trim {w : World} {A : Option Addr} {l : List Nat} (hr : Rd w 0 w.heap.size 1 A l.length (d4s l)) (hd : ∀ d ∈ l, d < T4) (hcm : l.length ≤ maxLen) (hA : A = none → l.length = 0) : RNatR w A (trim l).length (trim l) (val T4 l) := by
  have hl := trim_length l
  refine ⟨?_, trim_norm hd, trim_val _ _, Nat.le_refl _, by omega, fun h => ⟨by have := hA h; omega, by have := hA h; omega⟩⟩
  have := hr.take4 (trim l).length hl
  rwa [← trim_pre] at this
end Go.Proofs.Ytajokainammahaa
