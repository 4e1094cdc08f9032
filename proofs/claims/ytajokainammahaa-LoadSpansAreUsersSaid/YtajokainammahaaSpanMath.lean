/- Spans, in plain Lean: the stack of users, and the law that as many spans are open as there are users. -/
import Derived.Test.YtajokainammahaaUsrMath
namespace Go.Proofs.Ytajokainammahaa

def pushS (T : Int) : Nat → List Int → List Int
  | 0, bg => bg
  | k + 1, bg => pushS T k (bg ++ [T])
abbrev Stk := List Int × List (Int × Int × Int)
def popS (T : Int) : Nat → Stk → Stk
  | 0, st => st
  | k + 1, st => popS T k (st.1.dropLast, st.2 ++ [((st.1.length : Int) - 1, st.1.getLast?.getD 0, T)])
def chS (st : Stk) (c : Int × Int) : Stk := popS c.1 ((pushS c.1 (c.2.toNat - st.1.length) st.1).length - c.2.toNat) (pushS c.1 (c.2.toNat - st.1.length) st.1, st.2)
def spS (cs : List (Int × Int)) : Stk := cs.foldl chS ([], [])
theorem spS_take {cs : List (Int × Int)} {i : Nat} {c : Int × Int} (h : cs[i]? = some c) : spS (cs.take (i + 1)) = chS (spS (cs.take i)) c := by
  unfold spS; rw [List.take_add_one, h]; simp [List.foldl_append]
/-- how many are open at a time -/
def cntO (out : List (Int × Int × Int)) (T : Int) : Nat := (out.filter fun s => decide (s.2.1 ≤ T ∧ T < s.2.2)).length
def cntB (bg : List Int) (T : Int) : Nat := (bg.filter fun b => decide (b ≤ T)).length
theorem cntO_snoc (out : List (Int × Int × Int)) (s : Int × Int × Int) (T : Int) : cntO (out ++ [s]) T = cntO out T + if s.2.1 ≤ T ∧ T < s.2.2 then 1 else 0 := by
  unfold cntO
  rw [List.filter_append, List.length_append]
  congr 1
  by_cases h : s.2.1 ≤ T ∧ T < s.2.2
  · rw [if_pos h, List.filter_cons_of_pos (by simpa using h)]; rfl
  · rw [if_neg h, List.filter_cons_of_neg (by simpa using h)]; rfl
theorem cntB_snoc (bg : List Int) (b T : Int) : cntB (bg ++ [b]) T = cntB bg T + if b ≤ T then 1 else 0 := by
  unfold cntB
  rw [List.filter_append, List.length_append]
  congr 1
  by_cases h : b ≤ T
  · rw [if_pos h, List.filter_cons_of_pos (by simpa using h)]; rfl
  · rw [if_neg h, List.filter_cons_of_neg (by simpa using h)]; rfl
theorem cntO_perm {a b : List (Int × Int × Int)} (h : a.Perm b) (T : Int) : cntO a T = cntO b T := (h.filter _).length_eq
structure MInv (P : List (Int × Int)) (T : Int) (st : Stk) : Prop where
  cnt : ∀ c ∈ P, c.1 < T ∧ (cntO st.2 c.1 : Int) + cntB st.1 c.1 = c.2
  bg : ∀ b ∈ st.1, b ≤ T
  out : ∀ s ∈ st.2, s.2.2 ≤ T
theorem push_inv {P : List (Int × Int)} {T : Int} {out : List (Int × Int × Int)} : ∀ (k : Nat) (bg : List Int), MInv P T (bg, out) → MInv P T (pushS T k bg, out) ∧ (pushS T k bg).length = bg.length + k
  | 0, bg, h => ⟨h, rfl⟩
  | k + 1, bg, h => by
    have h' : MInv P T (bg ++ [T], out) := by
      refine ⟨fun c hc => ?_, fun b hb => ?_, h.out⟩
      · have := h.cnt c hc
        simp only [cntB_snoc] at *
        rw [if_neg (by omega)]; omega
      · rcases List.mem_append.1 hb with h1 | h1
        · exact h.bg b h1
        · simp at h1; omega
    have ih := push_inv k _ h'
    refine ⟨ih.1, ?_⟩
    show (pushS T k (bg ++ [T])).length = _
    rw [ih.2]; simp; omega
theorem pop_inv {P : List (Int × Int)} {T : Int} : ∀ (k : Nat) (st : Stk), k ≤ st.1.length → MInv P T st → MInv P T (popS T k st) ∧ (popS T k st).1.length = st.1.length - k
  | 0, st, _, h => ⟨h, rfl⟩
  | k + 1, (bg, out), hk, h => by
    simp only at hk
    obtain ⟨b, hb⟩ : ∃ b, bg.getLast? = some b := by
      cases e : bg.getLast? with
      | some b => exact ⟨b, rfl⟩
      | none => rw [List.getLast?_eq_none_iff] at e; subst e; simp at hk
    have hsp : bg = bg.dropLast ++ [b] := by
      obtain ⟨hne, hl⟩ := List.getLast?_eq_some_iff.1 hb
      rw [hl]; simp
    have h' : MInv P T (bg.dropLast, out ++ [((bg.length : Int) - 1, bg.getLast?.getD 0, T)]) := by
      refine ⟨fun c hc => ?_, fun x hx => ?_, fun s hs => ?_⟩
      · obtain ⟨h1, h2⟩ := h.cnt c hc
        refine ⟨h1, ?_⟩
        simp only at h2 ⊢
        rw [cntO_snoc]
        rw [hsp, cntB_snoc] at h2
        simp only [hb, Option.getD_some]
        by_cases hbc : b ≤ c.1
        · rw [if_pos ⟨hbc, h1⟩]; rw [if_pos hbc] at h2; omega
        · rw [if_neg (fun h => hbc h.1)]; rw [if_neg hbc] at h2; omega
      · exact h.bg x (List.dropLast_subset _ hx)
      · rcases List.mem_append.1 hs with h1 | h1
        · exact h.out s h1
        · simp at h1; subst h1; simp
    have ih := pop_inv k (bg.dropLast, out ++ [((bg.length : Int) - 1, bg.getLast?.getD 0, T)]) (by simp; omega) h'
    refine ⟨ih.1, ?_⟩
    show (popS T k (bg.dropLast, _)).1.length = _
    rw [ih.2]; simp; omega
theorem MInv.later {P : List (Int × Int)} {T T' : Int} {st : Stk} (h : MInv P T st) (hT : T ≤ T') : MInv P T' st :=
  ⟨fun c hc => ⟨by have := (h.cnt c hc).1; omega, (h.cnt c hc).2⟩, fun b hb => by have := h.bg b hb; omega, fun s hs => by have := h.out s hs; omega⟩
theorem ch_inv {P : List (Int × Int)} {T : Int} {st : Stk} {c : Int × Int} (h : MInv P T st) (hT : T ≤ c.1) (hu : 0 ≤ c.2) : MInv (P ++ [c]) (c.1 + 1) (chS st c) ∧ ((chS st c).1.length : Int) = c.2 := by
  have h1 := push_inv (c.2.toNat - st.1.length) st.1 (out := st.2) (h.later hT)
  have h2 := pop_inv ((pushS c.1 (c.2.toNat - st.1.length) st.1).length - c.2.toNat) _ (by simp) h1.1
  have e : ((chS st c).1.length : Int) = c.2 := by
    unfold chS; rw [h2.2]; simp only [h1.2]; omega
  refine ⟨⟨fun d hd => ?_, fun b hb => by have := h2.1.bg b hb; omega, fun s hs => by have := h2.1.out s hs; omega⟩, e⟩
  rcases List.mem_append.1 hd with h3 | h3
  · have := h2.1.cnt d h3
    exact ⟨by omega, this.2⟩
  · simp only [List.mem_singleton] at h3
    subst h3
    refine ⟨by omega, ?_⟩
    have e1 : cntO (chS st d).2 d.1 = 0 := by
      unfold cntO
      rw [List.length_eq_zero_iff, List.filter_eq_nil_iff]
      intro s hs
      have := h2.1.out s hs
      simp; omega
    have e2 : cntB (chS st d).1 d.1 = (chS st d).1.length := by
      unfold cntB
      rw [List.filter_eq_self.2]
      intro b hb
      have := h2.1.bg b hb
      simpa using this
    rw [e1, e2]; omega
theorem sp_inv {cs : List (Int × Int)} {hi : Int} (h : Asc cs hi) : ∀ k, k ≤ cs.length → ∃ T, MInv (cs.take k) T (spS (cs.take k)) ∧ (∀ a ∈ cs.drop k, T ≤ a.1) ∧ ((spS (cs.take k)).1.length : Int) = nowC (cs.take k)
  | 0, _ => ⟨0, ⟨fun c hc => by simp at hc, fun b hb => by simp [spS] at hb, fun s hs => by simp [spS] at hs⟩, fun a ha => (h.bd a (by simpa using ha)).1, rfl⟩
  | k + 1, hk => by
    obtain ⟨T, h1, h2, _⟩ := sp_inv h k (by omega)
    obtain ⟨c, hc⟩ : ∃ c, cs[k]? = some c := ⟨cs[k], List.getElem?_eq_getElem (by omega)⟩
    have hm : c ∈ cs.drop k := by
      rw [List.mem_iff_getElem?]; exact ⟨0, by simpa using hc⟩
    have h3 := ch_inv h1 (h2 c hm) (h.bd c (List.mem_of_getElem? hc)).2.1
    rw [spS_take hc, List.take_add_one, hc]
    refine ⟨c.1 + 1, h3.1, fun a ha => ?_, ?_⟩
    · obtain ⟨j, hj⟩ := List.mem_iff_getElem?.1 ha
      rw [List.getElem?_drop] at hj
      have := h.inc k (k + 1 + j) c a (by omega) hc hj
      omega
    · rw [h3.2]; simp [nowC]
/-- THE LAW: at the time of each change as many spans are open as there are users -/
theorem span_law {cs : List (Int × Int)} {hi : Int} (h : Asc cs hi) (h0 : nowC cs = 0) : ∀ c ∈ cs, (cntO (spS cs).2 c.1 : Int) = c.2 := by
  obtain ⟨T, h1, _, h3⟩ := sp_inv h cs.length (Nat.le_refl _)
  rw [List.take_length] at h1 h3
  have hnil : (spS cs).1 = [] := by
    rw [h0] at h3
    exact List.eq_nil_of_length_eq_zero (by omega)
  intro c hc
  have := (h1.cnt c hc).2
  rw [hnil] at this
  simpa [cntB] using this
end Go.Proofs.Ytajokainammahaa
