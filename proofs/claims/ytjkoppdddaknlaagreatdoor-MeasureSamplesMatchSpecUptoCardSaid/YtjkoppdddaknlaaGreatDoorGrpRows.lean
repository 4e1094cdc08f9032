/- Group: from the sorted order to the rows; Clip. -/
import Derived.Test.YtjkoppdddaknlaaGreatDoorG36
import Derived.Test.YtjkoppdddaknlaaGreatDoorRGrp
namespace Go.Proofs.YtjkoppdddaknlaaGreatDoor
open Go Go.RowKit Go.Proofs

/-- five texts: those given, then empty ones -/
def padV (vs : List ByteArray) : List ByteArray := vs ++ List.replicate (5 - vs.length) ⟨#[]⟩
theorem padV_length {vs : List ByteArray} (h : vs.length ≤ 5) : (padV vs).length = 5 := by unfold padV; simp; omega
def padL (keys : List ByteArray) (l : List Smp) (j : Nat) : List ByteArray := padV (kfL keys l j)
theorem kfL_length (keys : List ByteArray) (l : List Smp) (j : Nat) : (kfL keys l j).length = keys.length := by unfold kfL; rw [List.length_map]
theorem padV_take {vs : List ByteArray} {m : Nat} (h : vs.length = m) : (padV vs).take m = vs := by unfold padV; rw [← h]; simp
theorem padV_inj {u v : List ByteArray} (h : u.length = v.length) (e : padV u = padV v) : u = v := by
  have h1 := padV_take (vs := u) (m := v.length) h
  rw [e, padV_take rfl] at h1
  exact h1.symm
theorem padV_lt {u v : List ByteArray} (h : u.length = v.length) : ky (padV u) < ky (padV v) ↔ ky u < ky v := by
  unfold padV ky
  rw [List.map_append, List.map_append, h]
  exact ky_tail (by simpa using h)
theorem keyCells_of {S : List (List ByteArray)} (h : ∀ s ∈ S, s.length = 5) : keyCells S = (S.map ofL).flatMap encK := by
  induction S with
  | nil => rfl
  | cons s S ih =>
    have := ih (fun x hx => h x (List.mem_cons_of_mem _ hx))
    unfold keyCells at *
    rw [List.flatMap_cons, List.map_cons, List.flatMap_cons, this]
    unfold encK
    rw [toL_ofL (h s (List.mem_cons_self ..))]
section
variable {keys : List ByteArray} {l : List Smp} {n : Nat}
theorem pad_eq {i j : Nat} : padL keys l i = padL keys l j ↔ kfL keys l i = kfL keys l j :=
  ⟨fun h => padV_inj (by rw [kfL_length, kfL_length]) h, fun h => by unfold padL; rw [h]⟩
theorem ofK_pad {α : Type} (d : Nat → α) (i : Nat) : ofK (fun j => ky (padL keys l j)) d n (ky (padL keys l i)) = ofK (fun j => ky (kfL keys l j)) d n (ky (kfL keys l i)) := by
  unfold ofK
  congr 1
  apply List.filter_congr
  intro j _
  have : ky (padL keys l j) = ky (padL keys l i) ↔ ky (kfL keys l j) = ky (kfL keys l i) :=
    ⟨fun h => by rw [pad_eq.1 (ky_inj h)], fun h => by rw [pad_eq.2 (ky_inj h)]⟩
  simp only [this]
theorem grp_rows {T : List K5} {S : List (List ByteArray)} {R : List RowX} (hp : T.Perm (S.map ofL)) (hS5 : ∀ s ∈ S, s.length = 5) (hnd : S.Nodup) (hmem : ∀ x, x ∈ S ↔ ∃ i, i < n ∧ padL keys l i = x) (hs : SrtK T) (hRl : R.length = T.length)
    (hR : ∀ (i : Nat) (r : RowX) (x : K5), R[i]? = some r → T[i]? = some x → r.vals = (toL x).take keys.length ∧ IsHist (cntB 8 (tkK (padL keys l) (dW l) n (toL x))) r.cs ∧ r.f = flK (padL keys l) (flW l) n (toL x)) :
    GrOk (kfL keys l) (dW l) (flW l) n (R.map RowX.gr) := by
  have hTm : ∀ x, x ∈ T → ∃ i, i < n ∧ padL keys l i = toL x := fun x hx => by
    obtain ⟨s, hs1, rfl⟩ := List.mem_map.1 (hp.mem_iff.1 hx)
    rw [toL_ofL (hS5 s hs1)]
    exact (hmem s).1 hs1
  have hrow : ∀ (i : Nat) (r : RowX) (x : K5), R[i]? = some r → T[i]? = some x → ∃ i0, i0 < n ∧ padL keys l i0 = toL x ∧ r.vals = kfL keys l i0 := fun i r x h1 h2 => by
    obtain ⟨i0, hi, he⟩ := hTm x (List.mem_of_getElem? h2)
    refine ⟨i0, hi, he, ?_⟩
    rw [(hR i r x h1 h2).1, ← he]
    exact padV_take (kfL_length _ _ _)
  have hTnd : T.Pairwise (fun a b => toL a ≠ toL b) := by
    have h1 : (T.map toL).Nodup := by
      have h2 : (T.map toL).Perm S := by
        have := hp.map toL
        rw [List.map_map] at this
        have e : S.map (toL ∘ ofL) = S := by
          have : ∀ s ∈ S, (toL ∘ ofL) s = s := fun s hs => toL_ofL (hS5 s hs)
          rw [List.map_congr_left this]; simp
        rw [e] at this
        exact this
      exact h2.nodup_iff.2 hnd
    exact List.pairwise_map.1 h1
  have hat : ∀ i, i < R.length → ∃ (r : RowX) (x : K5), R[i]? = some r ∧ T[i]? = some x := fun i hi => ⟨_, _, List.getElem?_eq_getElem hi, List.getElem?_eq_getElem (by omega)⟩
  refine ⟨⟨?_, fun v => ?_⟩, fun g hg => ?_⟩
  · unfold RiseK
    rw [List.map_map, List.pairwise_map]
    rw [List.pairwise_iff_getElem]
    intro i j hi hj hij
    obtain ⟨ri, xi, h1, h2⟩ := hat i hi
    obtain ⟨rj, xj, h3, h4⟩ := hat j hj
    have e1 : R[i] = ri := by have := (List.getElem?_eq_some_iff.1 h1).2; exact this
    have e2 : R[j] = rj := by have := (List.getElem?_eq_some_iff.1 h3).2; exact this
    rw [e1, e2]
    obtain ⟨a, ha, pa, va⟩ := hrow i ri xi h1 h2
    obtain ⟨b, hb, pb, vb⟩ := hrow j rj xj h3 h4
    show ky ri.vals < ky rj.vals
    rw [va, vb]
    have hne : toL xi ≠ toL xj := by
      have := (List.pairwise_iff_getElem.1 hTnd) i j (by omega) (by omega) hij
      rw [(List.getElem?_eq_some_iff.1 h2).2, (List.getElem?_eq_some_iff.1 h4).2] at this
      exact this
    have hnl := hs i j xi xj hij h2 h4
    rw [← pa, ← pb] at hnl hne
    unfold padL at hnl hne
    rw [padV_lt (by rw [kfL_length, kfL_length])] at hnl
    rcases ky_total (ky (kfL keys l a)) (ky (kfL keys l b)) with h | h | h
    · exact h
    · exact absurd (by rw [ky_inj h]) hne
    · exact absurd h hnl
  · rw [List.map_map, List.mem_map]
    constructor
    · rintro ⟨r, hr, rfl⟩
      obtain ⟨i, hi, rfl⟩ := List.getElem_of_mem hr
      obtain ⟨r', x, h1, h2⟩ := hat i hi
      obtain ⟨i0, h3, _, h4⟩ := hrow i r' x h1 h2
      have e1 : R[i] = r' := (List.getElem?_eq_some_iff.1 h1).2
      refine ⟨i0, h3, ?_⟩
      show ky (kfL keys l i0) = ky (R[i]).vals
      rw [e1, h4]
    · rintro ⟨j, hj, rfl⟩
      have h1 : padL keys l j ∈ S := (hmem _).2 ⟨j, hj, rfl⟩
      have h2 : ofL (padL keys l j) ∈ T := hp.mem_iff.2 (List.mem_map.2 ⟨_, h1, rfl⟩)
      obtain ⟨i, hi, he⟩ := List.getElem_of_mem h2
      have hiR : i < R.length := by omega
      refine ⟨R[i], List.getElem_mem hiR, ?_⟩
      have h3 := (hR i R[i] T[i] (List.getElem?_eq_getElem hiR) (List.getElem?_eq_getElem hi)).1
      show ky (R[i]).vals = ky (kfL keys l j)
      rw [h3, he, toL_ofL (hS5 _ h1)]
      unfold padL
      rw [padV_take (kfL_length _ _ _)]
  · obtain ⟨r, hr, rfl⟩ := List.mem_map.1 hg
    obtain ⟨i, hi, rfl⟩ := List.getElem_of_mem hr
    obtain ⟨r', x, h1, h2⟩ := hat i hi
    obtain ⟨i0, h3, h4, h5⟩ := hrow i r' x h1 h2
    have e1 : R[i] = r' := (List.getElem?_eq_some_iff.1 h1).2
    rw [e1]
    obtain ⟨_, q2, q3⟩ := hR i r' x h1 h2
    rw [← h4] at q2 q3
    refine ⟨?_, ?_⟩
    · show IsHist (cntB 8 (tkK (kfL keys l) (dW l) n r'.vals)) r'.cs
      rw [h5]
      have : tkK (kfL keys l) (dW l) n (kfL keys l i0) = tkK (padL keys l) (dW l) n (padL keys l i0) := (ofK_pad (dW l) i0).symm
      rw [this]; exact q2
    · show r'.f = flK (kfL keys l) (flW l) n r'.vals
      rw [h5, q3]
      unfold flK
      rw [ofK_pad (flW l) i0]
end
theorem clipR_any (A : Option Addr) (n c : Nat) (w : World) (hnc : n ≤ c) :
    Calls Tryz.prog 24 #[.slice A n c] w fun e w' => e = .returned (.slice A n n) ∧ w = w' := by
  go_enter Tryz.func24, Tryz.ntmps24
  go_wp2
  go_ret
  exact ⟨rfl, by trivial⟩
end Go.Proofs.YtjkoppdddaknlaaGreatDoor
