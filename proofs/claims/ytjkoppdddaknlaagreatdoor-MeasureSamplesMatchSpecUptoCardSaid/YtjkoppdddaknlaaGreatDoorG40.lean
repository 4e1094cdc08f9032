import Derived.Test.YtjkoppdddaknlaaGreatDoorRBusy
import Derived.Test.YtjkoppdddaknlaaGreatDoorGrp
import Derived.Test.YtjkoppdddaknlaaGreatDoorRWorst
import Derived.Test.YtjkoppdddaknlaaGreatDoorBusyMath
/- Samples, for the law: Busy's error of the reference; rows that say the same are written alike. -/
namespace Go.Proofs.YtjkoppdddaknlaaGreatDoor
open Go Go.RowKit Go.Proofs

set_option maxHeartbeats 1000000 in
set_option maxRecDepth 100000 in
theorem RBusy_bad (A : Option Addr) (n c : Nat) (l : List Smp) (w : World) (hr : SmpR w w.heap.size A n l) (hn : n ≤ maxLen) (hc : codeS n l ≠ 0) :
    Calls Tryz.prog 12 #[.slice A n c] w fun e w' => e = .returned (.tuple #[.slice none 0 0, .int .i64 (codeS n l)]) ∧ Below w.heap.size w w' := by
  have HCK := Lib.hid (samplesFault_any A n c l w hr hn)
  obtain ⟨cd, hcd⟩ : ∃ cd, cd = codeS n l := ⟨_, rfl⟩
  rw [← hcd] at hc HCK ⊢
  clear hcd hr hn
  have tc : (cd == 0) = false := by simpa using hc
  have tc' : (cd != 0) = true := by simpa using hc
  go_enter Tryz.func12, Tryz.ntmps12
  go_wp2_with fail
  refine HCK.out.mono ?_
  rintro e w1 ⟨rfl, hb1⟩
  clear HCK
  go_wp2
  go_ret2
  exact ⟨rfl, hb1⟩
def inkG (g : Gr) : List UInt8 := inkTexts g.1 ++ inkHist 8 g.2.1 ++ inkInt g.2.2
theorem inkRs_gr (l : List RowX) : inkRs l = (l.map RowX.gr).flatMap inkG := by
  unfold inkRs
  rw [List.flatMap_map]
  rfl
theorem inkRows_gr {a b : List RowX} (h : a.map RowX.gr = b.map RowX.gr) : inkRows a = inkRows b := by
  have hl : a.length = b.length := by have := congrArg List.length h; simpa using this
  unfold inkRows
  rw [inkRs_gr, inkRs_gr, h, hl]
/-- both Groups' rows are written alike -/
theorem GrOk.inked {kf : Nat → List ByteArray} {tk : Nat → Int} {fl : Nat → Bool} {i : Nat} {a b : List RowX} (ha : GrOk kf tk fl i (a.map RowX.gr)) (hb : GrOk kf tk fl i (b.map RowX.gr)) : inkRows a = inkRows b := inkRows_gr (ha.one hb)
end Go.Proofs.YtjkoppdddaknlaaGreatDoor

/- Samples, for the law: what Group, Worst and Busy return, as lists that do not depend on the package; their sizes. -/
namespace Go.Proofs.YtjkoppdddaknlaaGreatDoor
open Go Go.RowKit Go.Proofs

/-- the rows of Group -/
def GV (n : Nat) (l : List Smp) (keys : List ByteArray) (L : List RowX) : Prop := (codeG n l keys ≠ 0 ∧ L = []) ∨ (codeG n l keys = 0 ∧ GrOk (kfL keys l) (dW l) (flW l) n (L.map RowX.gr))
theorem GrR.nil (w : World) : GrR w none [] := ⟨Rd.nil, fun r h => by cases h⟩
theorem grp_val {n : Nat} {l : List Smp} {keys : List ByteArray} {w w' : World} {e : Ending} (h : GPost n l keys w e w') :
    ∃ A c L, e = .returned (.tuple #[.slice A L.length c, .int .i64 (codeG n l keys)]) ∧ GrR w' A L ∧ GV n l keys L ∧ Below w.heap.size w w' := by
  obtain ⟨hb, ⟨h0, rfl⟩ | ⟨h0, A, c, L, rfl, hr, hg⟩⟩ := h
  · exact ⟨none, 0, [], rfl, GrR.nil _, .inl ⟨h0, rfl⟩, hb⟩
  · exact ⟨A, c, L, by rw [h0], hr, .inr ⟨h0, hg⟩, hb⟩
theorem GV.inked {n : Nat} {l : List Smp} {keys : List ByteArray} {a b : List RowX} (ha : GV n l keys a) (hb : GV n l keys b) : inkRows a = inkRows b := by
  rcases ha with ⟨h0, rfl⟩ | ⟨h0, ha⟩
  · rcases hb with ⟨_, rfl⟩ | ⟨h1, _⟩
    · rfl
    · exact absurd h1 h0
  · rcases hb with ⟨h1, _⟩ | ⟨_, hb⟩
    · exact absurd h0 h1
    · exact ha.inked hb
theorem codeG_zero {n : Nat} {l : List Smp} {keys : List ByteArray} (h : codeG n l keys = 0) : codeS n l = 0 ∧ keys.length ≤ 5 := by
  unfold codeG at h
  by_cases h1 : codeS n l = 0
  · rw [if_neg (by omega)] at h
    by_cases h2 : 5 < keys.length
    · rw [if_pos h2] at h; cases h
    · exact ⟨h1, by omega⟩
  · rw [if_pos h1] at h; exact absurd h h1
theorem dW_fine {n : Nat} {l : List Smp} (h : codeS n l = 0) (j : Nat) : fineV (dW l j) = true := by
  have hf := (codeS_zero h).2
  unfold fineV dW
  rcases Nat.lt_or_ge j l.length with hj | hj
  · have := hf _ (List.getElem_mem hj)
    rw [List.getD_eq_getElem?_getD, List.getElem?_eq_getElem hj]
    simp only [Option.getD_some, Bool.and_eq_true, decide_eq_true_eq]
    omega
  · rw [List.getD_eq_getElem?_getD, List.getElem?_eq_none hj]
    decide
theorem hist_told8 {zs : List Int} {cs : List (Int × Int)} (h : IsHist (cntB 8 zs) cs) (hz : ∀ v ∈ zs, fineV v = true) (hl : zs.length ≤ 10000000) : (∀ c ∈ cs, I64 c.1 ∧ I64 c.2) ∧ cs.length ≤ 10000 := by
  have hmx := maxB_bd 8 (by omega) (by omega)
  refine ⟨fun c hc => ?_, ?_⟩
  · obtain ⟨x, n⟩ := c
    have h1 := (h.2 x n).1 hc
    have h2 := cntB_wf 8 zs x (by omega) (by omega) hz (by omega)
    have h3 := cntB_bd 8 zs x
    simp only [I64]; omega
  · have := hist_len h (maxB 8) (fun x hx => cntB_wf 8 zs x (by omega) (by omega) hz hx)
    omega
theorem nodup_len {α : Type} [BEq α] [LawfulBEq α] : ∀ {a b : List α}, a.Nodup → (∀ x ∈ a, x ∈ b) → a.length ≤ b.length
  | [], _, _, _ => Nat.zero_le _
  | x :: a, b, h, hs => by
    rw [List.nodup_cons] at h
    have h1 := nodup_len (b := b.erase x) h.2 (fun y hy => (List.mem_erase_of_ne (fun e : y = x => h.1 (by rw [← e]; exact hy))).2 (hs y (List.mem_cons_of_mem _ hy)))
    have h2 := List.length_erase_of_mem (hs x (List.mem_cons_self ..))
    have h3 : 0 < b.length := List.length_pos_of_mem (hs x (List.mem_cons_self ..))
    rw [List.length_cons]
    omega
theorem GV.ok {n : Nat} {l : List Smp} {keys : List ByteArray} {L : List RowX} (h : GV n l keys L) (hs : ∀ s ∈ l, ∀ p ∈ s.lab, p.2.size ≤ 1048576) : L.length ≤ 20000 ∧ ∀ r ∈ L, OkX r := by
  rcases h with ⟨_, rfl⟩ | ⟨h0, hk, hr⟩
  · exact ⟨Nat.zero_le _, fun r h => by cases h⟩
  · obtain ⟨hc, hk5⟩ := codeG_zero h0
    have hn := (codeS_zero hc).1
    refine ⟨?_, fun r hm => ?_⟩
    · have h1 := nodup_len (b := (List.range n).map fun j => ky (kfL keys l j)) hk.1.nodup (fun v hv => by
        obtain ⟨j, hj, e⟩ := (hk.2 v).1 hv
        exact List.mem_map.2 ⟨j, List.mem_range.2 hj, e⟩)
      simp only [List.length_map, List.length_range] at h1
      omega
    · have hg : r.gr ∈ L.map RowX.gr := List.mem_map.2 ⟨r, hm, rfl⟩
      obtain ⟨j, hj, e⟩ := (hk.2 (ky r.gr.1)).1 (List.mem_map.2 ⟨r.gr, hg, rfl⟩)
      have e1 : r.vals = kfL keys l j := (ky_inj e).symm
      obtain ⟨h1, h2⟩ := hr _ hg
      have ht := hist_told8 (zs := tkK (kfL keys l) (dW l) n r.vals) h1 (fun v hv => by
        obtain ⟨i, _, rfl⟩ := ofK_mem hv
        exact dW_fine hc i) (by have := ofK_length (fun j => ky (kfL keys l j)) (dW l) n (ky r.vals); unfold tkK; omega)
      have hf := flK_bd (kf := kfL keys l) (fl := flW l) (i := n) r.vals
      have h2' : r.f = flK (kfL keys l) (flW l) n r.vals := h2
      refine ⟨by rw [e1, kfL_length]; exact hk5, fun z hz => ?_, Nat.le_trans ht.2 (by omega), ht.1, by unfold I64; omega⟩
      rw [e1] at hz
      unfold kfL at hz
      obtain ⟨nm, _, rfl⟩ := List.mem_map.1 hz
      refine Nat.le_trans (labV_size (M := 1048576) ?_) (by omega)
      intro p hp
      rcases Nat.lt_or_ge j l.length with h3 | h3
      · rw [List.getD_eq_getElem?_getD, List.getElem?_eq_getElem h3] at hp
        exact hs _ (List.getElem_mem h3) p hp
      · rw [List.getD_eq_getElem?_getD, List.getElem?_eq_none h3] at hp
        cases hp
/-- the places of Worst -/
def wZ (n : Nat) (k : Int) (l : List Smp) : List Int := if codeWst n n k l = 0 then ((worst (dW l) n).take k.toNat).map (fun (x : Nat) => (x : Int)) else []
theorem codeWst_zero {n : Nat} {k : Int} {l : List Smp} (h : codeWst n n k l = 0) : n ≤ 20000 ∧ k.toNat ≤ n := by
  unfold codeWst at h
  by_cases h1 : codeS n l = 0
  · rw [if_neg (by omega)] at h
    have := (codeS_zero h1).1
    by_cases h2 : k < 0 ∨ (n : Int) < k
    · rw [if_pos h2] at h; cases h
    · omega
  · rw [if_pos h1] at h; exact absurd h h1
theorem wst_val {n : Nat} {k : Int} {l : List Smp} {w w' : World} {e : Ending} (h : WPost n k l w e w') :
    ∃ A c, e = .returned (.tuple #[.slice A (wZ n k l).length c, .int .i64 (codeWst n n k l)]) ∧ Rd w' 0 w'.heap.size 1 A (wZ n k l).length (ints (wZ n k l)) ∧ TyB w' 3 A (wZ n k l).length ∧ Below w.heap.size w w' := by
  obtain ⟨hb, ⟨h0, rfl⟩ | ⟨h0, A, c, rfl, hr, ht⟩⟩ := h
  · refine ⟨none, 0, ?_⟩
    unfold wZ
    rw [if_neg h0]
    exact ⟨rfl, Rd.nil, fun h => absurd h (by simp), hb⟩
  · have hk := codeWst_zero h0
    have hl : (wZ n k l).length = k.toNat := by
      unfold wZ
      rw [if_pos h0, List.length_map, List.length_take, worst_len]
      omega
    have e2 : izC ((worst (dW l) n).take k.toNat) = ints (wZ n k l) := by
      unfold wZ
      rw [if_pos h0, izC_ints]
    rw [e2] at hr
    refine ⟨A, c, by rw [hl, h0], by rw [hl]; exact hr, by rw [hl]; exact ht, hb⟩
theorem wZ_ok (n : Nat) (k : Int) (l : List Smp) : (wZ n k l).length ≤ 20000 ∧ ∀ z ∈ wZ n k l, I64 z := by
  unfold wZ
  by_cases h : codeWst n n k l = 0
  · have hk := codeWst_zero h
    rw [if_pos h]
    refine ⟨by rw [List.length_map, List.length_take]; omega, fun z hz => ?_⟩
    obtain ⟨x, hx, rfl⟩ := List.mem_map.1 hz
    have := worst_mem.1 (List.mem_of_mem_take hx)
    unfold I64; omega
  · rw [if_neg h]
    exact ⟨Nat.zero_le _, fun z hz => by cases hz⟩
/-- the changes of Busy -/
def BV (n : Nat) (l : List Smp) (cs : List (Int × Int)) : Prop :=
  (codeS n l ≠ 0 ∧ cs = []) ∨ (codeS n l = 0 ∧ l.length = n ∧ ∃ ts : List Int, cs = chg (stp (pts l)) ts ∧ ts.Pairwise (· < ·) ∧ (∀ t, t ∈ ts ↔ t ∈ tms (pts l)) ∧ ts.length ≤ 2 * n)
theorem BV.one {n : Nat} {l : List Smp} {a b : List (Int × Int)} (ha : BV n l a) (hb : BV n l b) : a = b := by
  rcases ha with ⟨h0, rfl⟩ | ⟨h0, _, ts, rfl, h1, h2, _⟩
  · rcases hb with ⟨_, rfl⟩ | ⟨h1, _⟩
    · rfl
    · exact absurd h1 h0
  · rcases hb with ⟨h3, _⟩ | ⟨_, _, ts', rfl, h4, h5, _⟩
    · exact absurd h0 h3
    · rw [rise_one h1 h4 (fun t => (h2 t).trans (h5 t).symm)]
theorem BV.ok {n : Nat} {l : List Smp} {cs : List (Int × Int)} (h : BV n l cs) : cs.length ≤ 40000 ∧ ∀ c ∈ cs, I64 c.1 ∧ I64 c.2 := by
  rcases h with ⟨_, rfl⟩ | ⟨h0, hln, ts, rfl, h1, h2, h3⟩
  · exact ⟨Nat.zero_le _, fun c h => by cases h⟩
  · obtain ⟨hn, hf⟩ := codeS_zero h0
    refine ⟨by have := chg_length (stp (pts l)) ts; omega, fun c hc => ?_⟩
    have hp : ∀ s ∈ pts l, 0 ≤ s.2 := fun s hs => by
      obtain ⟨q, hq, rfl⟩ := List.mem_map.1 hs
      exact (hf q hq).2.2.1
    obtain ⟨ht, hc0, hc1⟩ := (area_law (pts l) hp ts h1 h2).2.2.1 c hc
    obtain ⟨s, hs, e⟩ := mem_tms.1 ht
    obtain ⟨q, hq, rfl⟩ := List.mem_map.1 hs
    have := hf q hq
    rw [pts_length] at hc1
    simp only at e
    unfold I64
    omega
theorem busy_val {n : Nat} {l : List Smp} {w w' : World} {e : Ending} (hln : l.length = n) (h0 : codeS n l = 0) (h : BPost n l w e w') :
    ∃ A c cs, e = .returned (.tuple #[.slice A cs.length c, .int .i64 (codeS n l)]) ∧ Rd w' 0 w'.heap.size 2 A cs.length (cells2 cs) ∧ TyB w' 76 A cs.length ∧ BV n l cs ∧ Below w.heap.size w w' := by
  obtain ⟨A, ts, rfl, h1, h2, h3, hr, hb, ht⟩ := h
  exact ⟨A, _, _, by rw [h0], hr.more (Nat.zero_le _) (Nat.le_refl _), ht, .inr ⟨h0, hln, ts, rfl, h1, h2, h3⟩, hb⟩
theorem busy_valR {n : Nat} {l : List Smp} {w w' : World} {e : Ending} (hln : l.length = n) (h0 : codeS n l = 0) (h : BPostR n l w e w') :
    ∃ A c cs, e = .returned (.tuple #[.slice A cs.length c, .int .i64 (codeS n l)]) ∧ Rd w' 0 w'.heap.size 2 A cs.length (cells2 cs) ∧ TyB w' 76 A cs.length ∧ BV n l cs ∧ Below w.heap.size w w' := by
  obtain ⟨A, c, ts, rfl, h1, h2, h3, hr, hb, ht⟩ := h
  exact ⟨A, c, _, by rw [h0], hr.more (Nat.zero_le _) (Nat.le_refl _), ht, .inr ⟨h0, hln, ts, rfl, h1, h2, h3⟩, hb⟩
theorem busy_any (A : Option Addr) (n c : Nat) (l : List Smp) (w : World) (hr : SmpR w w.heap.size A n l) (hn : n ≤ maxLen) :
    Calls Tryz.prog 11 #[.slice A n c] w fun e w' =>
      ∃ A c cs, e = .returned (.tuple #[.slice A (cs : List (Int × Int)).length c, .int .i64 (codeS n l)]) ∧ Rd w' 0 w'.heap.size 2 A cs.length (cells2 cs) ∧ TyB w' 76 A cs.length ∧ BV n l cs ∧ Below w.heap.size w w' := by
  by_cases h0 : codeS n l = 0
  · exact (Busy_ok A n c l w hr hn h0).mono fun e w' h => busy_val hr.len h0 h
  · refine (Busy_bad A n c l w hr hn h0).mono ?_
    rintro e w' ⟨rfl, hb⟩
    exact ⟨none, 0, [], rfl, Rd.nil, (fun h => absurd h (by simp)), .inl ⟨h0, rfl⟩, hb⟩
theorem rbusy_any (A : Option Addr) (n c : Nat) (l : List Smp) (w : World) (hr : SmpR w w.heap.size A n l) (hn : n ≤ maxLen) :
    Calls Tryz.prog 12 #[.slice A n c] w fun e w' =>
      ∃ A c cs, e = .returned (.tuple #[.slice A (cs : List (Int × Int)).length c, .int .i64 (codeS n l)]) ∧ Rd w' 0 w'.heap.size 2 A cs.length (cells2 cs) ∧ TyB w' 76 A cs.length ∧ BV n l cs ∧ Below w.heap.size w w' := by
  by_cases h0 : codeS n l = 0
  · exact (RBusy_ok A n c l w hr hn h0).mono fun e w' h => busy_valR hr.len h0 h
  · refine (RBusy_bad A n c l w hr hn h0).mono ?_
    rintro e w' ⟨rfl, hb⟩
    exact ⟨none, 0, [], rfl, Rd.nil, (fun h => absurd h (by simp)), .inl ⟨h0, rfl⟩, hb⟩
end Go.Proofs.YtjkoppdddaknlaaGreatDoor
