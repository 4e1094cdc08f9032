/- What Bytes writes is read back: plain. -/
import Derived.Test.YtgmbgclhljobaaaDoorRFb
import Derived.Test.YtgmbgclhljobaaaDoorTell
namespace Go.Proofs.YtgmbgclhljobaaaDoor
open Go Go.RowKit Go.Proofs Go.Maps

theorem ofNat_small {n : Nat} (h : n < 256) : (UInt8.ofNat n).toNat = n := by simp; omega
theorem rd_vbF : ∀ (f i acc n : Nat) (rest : List UInt8), 1 ≤ f → n < 128 ^ f → i ≤ 8 → n < 128 ^ (9 - i) → (i = 0 ∨ 0 < n) → rdN i acc (vbF f n ++ rest) = (0, acc + n * 128 ^ i, rest)
  | 0, _, _, _, _, h, _, _, _, _ => by omega
  | f + 1, i, acc, n, rest, _, hf, hi, hn, hz => by
    unfold vbF
    by_cases h1 : n < 128
    · rw [if_pos h1]
      show rdN i acc (UInt8.ofNat n :: rest) = _
      unfold rdN
      rw [ofNat_small (by omega), if_pos h1, if_neg (by omega)]
    · rw [if_neg h1]
      show rdN i acc (UInt8.ofNat (128 + n % 128) :: (vbF f (n / 128) ++ rest)) = _
      unfold rdN
      have hi8 : i ≠ 8 := by
        intro h
        subst h
        simp at hn; omega
      rw [ofNat_small (by omega), if_neg (by omega), if_neg hi8]
      have hf1 : 1 ≤ f := by
        rcases Nat.eq_zero_or_pos f with h | h
        · subst h; simp at hf; omega
        · exact h
      have hp : 128 ^ (9 - i) = 128 ^ (9 - (i + 1)) * 128 := by
        rw [← Nat.pow_succ]; congr 1; omega
      rw [rd_vbF f (i + 1) _ (n / 128) rest hf1 (by rw [Nat.pow_succ] at hf; omega) (by omega) (by rw [hp] at hn; omega) (.inr (by omega))]
      have e : acc + (128 + n % 128 - 128) * 128 ^ i + n / 128 * 128 ^ (i + 1) = acc + n * 128 ^ i := by
        rw [Nat.pow_succ, Nat.add_sub_cancel_left]
        have h2 : n / 128 * (128 ^ i * 128) = (n / 128 * 128) * 128 ^ i := by rw [Nat.mul_comm (128 ^ i) 128, Nat.mul_assoc]
        rw [h2, Nat.add_assoc, ← Nat.add_mul]
        congr 2; omega
      rw [e]
theorem rd_vb (n : Nat) (rest : List UInt8) (h : n ≤ 9223372036854775807) : rdN 0 0 (vb n ++ rest) = (0, n, rest) := by
  unfold vb
  rw [rd_vbF 10 0 0 n rest (by omega) (by omega) (by omega) (by omega) (.inl rfl)]
  simp
theorem vb_pos (n : Nat) : 1 ≤ (vb n).length := by
  unfold vb vbF
  split <;> simp
def encB : Int → List (Int × Int) → List UInt8
  | _, [] => []
  | last, (x, n) :: r => vb (x - last).toNat ++ (vb n.toNat ++ encB x r)
theorem encSt_B : ∀ (cs : List (Int × Int)) (last : Int) (pre : List UInt8), (cs.foldl encStep (last, pre)).2 = pre ++ encB last cs
  | [], _, pre => by simp [encB]
  | (x, n) :: r, last, pre => by
    rw [List.foldl_cons]
    show (r.foldl encStep (x, pre ++ (vb (x - last).toNat ++ vb n.toNat))).2 = _
    rw [encSt_B r x _]
    simp [encB]
theorem encB_length : ∀ (cs : List (Int × Int)) (last : Int), cs.length ≤ (encB last cs).length
  | [], _ => by simp
  | (x, n) :: r, last => by
    have h1 := encB_length r x
    have h2 := vb_pos (x - last).toNat
    simp only [encB, List.length_cons, List.length_append]; omega
theorem prs_back : ∀ (cs : List (Int × Int)) (f : Nat) (last : Int), cs.length ≤ f → 0 ≤ last → last ≤ 100000 → (∀ c ∈ cs, (0 ≤ c.1 ∧ c.1 ≤ 100000) ∧ 0 ≤ c.2 ∧ c.2 ≤ 9223372036854775807) → (∀ c ∈ cs, last ≤ c.1) → cs.Pairwise (fun a b => a.1 < b.1) → prs uP f (cs.length : Int) last (encB last cs) = (0, cs, [])
  | [], f, last, _, _, _, _, _, _ => by rw [prs_end (by simp)]; rfl
  | (x, n) :: r, 0, last, h, _, _, _, _, _ => by simp at h
  | (x, n) :: r, f + 1, last, h, h0, h1, hb, hl, hs => by
    have hx := hb (x, n) (by simp)
    have hlx := hl (x, n) (by simp)
    simp only at hx hlx
    rw [List.pairwise_cons] at hs
    have e1 : rdN 0 0 (encB last ((x, n) :: r)) = (0, (x - last).toNat, vb n.toNat ++ encB x r) := rd_vb _ _ (by omega)
    have e2 : rdN 0 0 (vb n.toNat ++ encB x r) = (0, n.toNat, encB x r) := rd_vb _ _ (by omega)
    have e3 : uP last ((x - last).toNat : Int) = x := by unfold uP; omega
    have ih := prs_back r f x (by simp at h; omega) hx.1.1 hx.1.2 (fun c hc => hb c (by simp [hc])) (fun c hc => by have := hs.1 c hc; omega) hs.2
    have e4 : (((x, n) :: r).length : Int) - 1 = (r.length : Int) := by simp
    unfold prs
    rw [if_neg (by simp <;> omega), e1]
    simp only [e2, e3, e4, ih]
    simp
    omega
theorem back {b : Int} {cs : List (Int × Int)} (hg : Good b cs) : codeF uP (encH b cs) = 0 ∧ listF uP (encH b cs) = cs ∧ bitsF (encH b cs) = b := by
  obtain ⟨hb, hb', hlen, hcs, hso, _⟩ := id hg
  have hmx := maxB_bd b hb hb'
  have e0 : ((UInt8.ofNat b.toNat).toNat : Int) = b := by rw [ofNat_small (by omega)]; omega
  have e1 : rdN 0 0 (vb cs.length ++ (encSt cs).2) = (0, cs.length, (encSt cs).2) := rd_vb _ _ (by omega)
  have e2 : (encSt cs).2 = encB 0 cs := by have := encSt_B cs 0 []; simpa [encSt] using this
  have e3 : prsL uP (vb cs.length ++ (encSt cs).2) = (0, cs, []) := by
    unfold prsL
    rw [e1]
    simp only
    rw [e2]
    refine prs_back cs _ 0 ?_ (by omega) (by omega) (fun c hc => by have := hcs c hc; omega) (fun c hc => by have := hcs c hc; omega) hso
    have := encB_length cs 0
    simp only [List.length_append]; omega
  refine ⟨?_, ?_, e0⟩
  · unfold encH
    rw [codeF_cons, if_neg (by rw [e1]; simp), if_neg (by rw [e3]; simp), if_neg (by rw [e3]; simp), e3, e0]
    exact hg.code
  · show (prsL uP (vb cs.length ++ (encSt cs).2)).2.1 = cs
    rw [e3]
theorem encH_length {b : Int} {cs : List (Int × Int)} (hg : Good b cs) : (encH b cs).length ≤ 200000 := by
  have h1 := vb_length cs.length
  have h2 := encSt_length cs cs.length
  rw [List.take_length] at h2
  have h3 := hg.2.2.1
  unfold encH
  simp only [List.length_cons, List.length_append]; omega
end Go.Proofs.YtgmbgclhljobaaaDoor
