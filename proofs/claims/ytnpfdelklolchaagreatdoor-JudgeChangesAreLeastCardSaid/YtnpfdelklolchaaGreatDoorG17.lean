import Derived.Test.YtnpfdelklolchaaGreatDoorG15
import Derived.Test.YtnpfdelklolchaaGreatDoorG1
import Derived.Laws.AppendOwn
import Derived.Laws.AppendOwnNone
/- Package dynamometerref0: Sub. -/
namespace Go.Proofs.YtnpfdelklolchaaGreatDoor
open Go Go.RowKit Go.Proofs

def RSubRel (w wr : World) (g : Nat) (la lb : List Nat) (k c : Nat) : Prop :=
  ∃ o, o.length = la.length ∧ (∀ d ∈ o, d < T4) ∧ Blk4 wr g o ∧ val T4 (o.take k) + val T4 (lb.take k) = val T4 (la.take k) + T4 ^ k * c ∧ Below w.heap.size w wr
theorem len_le4 {a b : List Nat} (ha : Norm T4 a) (hb : Norm T4 b) (h : val T4 b ≤ val T4 a) : b.length ≤ a.length := by
  rcases Nat.lt_or_ge a.length b.length with h' | h'
  · have := val_len_lt T4_pos ha hb h'; omega
  · exact h'

set_option maxHeartbeats 2000000 in
set_option maxRecDepth 100000 in
theorem rnatSubN_any (A1 A2 : Option Addr) (c1 c2 : Nat) (l1 l2 : List Nat) (x y : Nat) (w : World) (h1 : RNatR w A1 c1 l1 x) (h2 : RNatR w A2 c2 l2 y) (hs : l1.length ≤ 1000000) (hxy : y ≤ x) :
    Calls Tryz.prog 87 #[.slice A1 l1.length c1, .slice A2 l2.length c2] w (RNatNew (x - y) w) := by
  obtain ⟨i0, hi0, hz0, hz1, hz2⟩ := info_parts Tryz.infoI4
  have hle : l2.length ≤ l1.length := len_le4 h1.norm h2.norm (by rw [h1.val, h2.val]; exact hxy)
  have HN1 := Lib.hid h1
  have HN2 := Lib.hid h2
  clear h1 h2
  go_enter Tryz.func87, Tryz.ntmps87
  go_wp2_with (at_make; refine wpList_make_full _ rfl (.tmp 10) (.tmp 10) 29 rfl w.heap.size 3 i0 _ 1 Tryz.underlying29 hi0 hz0 hz1 .i64 .i64 _ _ l1.length rfl rfl ?m1 ?m2 ?m3 ?m4 ?m5 ?_)
  case m1 => rfl
  case m2 => rfl
  case m3 => rw [hz2]; omega
  case m4 => unfold maxLen; omega
  case m5 => exact Nat.le_refl _
  intro w1 hown hgr
  rw [made_zeros4] at hown
  obtain ⟨hblk, _⟩ := Blk4.of_own hown
  have hb1 : Below w.heap.size w w1 := (Below.refl _ w).grown hgr (Nat.le_refl _) (fun k hk => by cases hk)
  have hsz1 : w.heap.size < w1.heap.size := heap_lt hblk
  have HBK := Lib.hid hblk
  have HB1 := Lib.hid hb1
  clear hown hgr hblk hb1
  go_wp2
  go_loopw [6, 7, 8] (fun cy i _ wr => ∃ (k c : Nat), i = .int .i64 k ∧ cy = .int .i64 c ∧ k ≤ l1.length ∧ c ≤ 1 ∧ RSubRel w wr w.heap.size l1 l2 k c) (fun _ i _ _ => l1.length - (intOf i).toNat)
  case atStart => exact ⟨0, 0, rfl, rfl, Nat.zero_le _, by omega, List.replicate l1.length 0, by simp, fun d hd => by rw [List.eq_of_mem_replicate hd]; unfold T4; omega, HBK.out, by simp [val], HB1.out⟩
  case round =>
    obtain ⟨k, c, rfl, rfl, hk, hc, o, hol, hod, hblk, hval, hbw⟩ := hrel
    have hgl := heap_lt hblk
    have HO := Lib.hid hod
    have HOL := Lib.hid hol
    have HV := Lib.hid hval
    have HBW := Lib.hid hbw
    have HBL := Lib.hid hblk
    clear hod hol hval
    by_cases hlt : k < l1.length
    · obtain ⟨ba, oa, ua, rfl, hba, hua, qa⟩ := (HN1.out.rd.below hbw (Nat.le_refl _)).at1 hlt
      obtain ⟨da, hda, rfl⟩ := d4s_get hua
      have hdaW : da < 10000 := HN1.out.norm.1 da (List.mem_of_getElem? hda)
      have HDA := Lib.hid hda
      have hko : k < o.length := by have := HOL.out; omega
      obtain ⟨od, hod⟩ : ∃ od, o[k]? = some od := ⟨o[k], List.getElem?_eq_getElem hko⟩
      have q0 := hblk.cell hod
      have z0 := hblk.frozen k
      clear hua hda hod hblk hbw
      have step : ∀ yb dn cn : Nat, dn < 10000 → dn + yb + c = da + 10000 * cn → l2.take (k + 1) = l2.take k ++ (if k < l2.length then [yb] else []) → (k < l2.length ∨ yb = 0) → RSubRel w (wr.setCell ⟨w.heap.size, k, none⟩ (.int .i64 (dn : Int))) w.heap.size l1 l2 (k + 1) cn := by
        intro yb dn cn hdn e3 htk hor
        refine ⟨o.set k dn, by simp [HOL.out], mem_set4 HO.out (by unfold T4; omega), HBL.out.set k _, ?_, HBW.out.setCell (Nat.le_refl _) _⟩
        rw [take_set_succ hko, take_snoc' HDA.out, val_snoc, val_snoc, htk]
        have e1 : (o.take k).length = k := by simp; omega
        have e2 : (l1.take k).length = k := by simp; omega
        rw [e1, e2]
        have hv := HV.out
        have e4 : T4 ^ k * dn + T4 ^ k * yb + T4 ^ k * c = T4 ^ k * da + T4 ^ (k + 1) * cn := by
          rw [Nat.pow_succ, Nat.mul_assoc, ← Nat.mul_add, ← Nat.mul_add, ← Nat.mul_add, e3]; rfl
        have e5 : val T4 (l2.take k ++ (if k < l2.length then [yb] else [])) = val T4 (l2.take k) + T4 ^ k * yb := by
          rcases Nat.lt_or_ge k l2.length with h | h
          · rw [if_pos h, val_snoc]
            have : (l2.take k).length = k := by simp; omega
            rw [this]
          · rw [if_neg (by omega), List.append_nil]
            have : yb = 0 := by omega
            rw [this]; simp
        rw [e5]
        omega
      have STEP := Lib.hid step
      clear step
      by_cases hlb : k < l2.length
      · have t1 : decide (k < l2.length) = true := by simpa using hlb
        obtain ⟨bb, ob, ub, rfl, hbb, hub, qb⟩ := (HN2.out.rd.below HBW.out (Nat.le_refl _)).at1 hlb
        obtain ⟨db, hdb, rfl⟩ := d4s_get hub
        have hdbW : db < 10000 := HN2.out.norm.1 db (List.mem_of_getElem? hdb)
        have HTK := Lib.hid (show l2.take (k + 1) = l2.take k ++ (if k < l2.length then [db] else []) by rw [take_snoc' hdb, if_pos hlb])
        clear hub hdb
        by_cases hneg : da < db + c
        · have t2 : decide ((da : Int) - c - db < 0) = true := by simp; omega
          have HS := Lib.hid (STEP.out db (da + 10000 - c - db) 1 (by omega) (by omega) HTK.out (.inl hlb))
          have e : ((da + 10000 - c - db : Nat) : Int) = (da : Int) - c - db + 10000 := by omega
          rw [e] at HS
          clear e
          go_wp2
          go_roundw
          case rel => exact ⟨k + 1, 1, by go_num, rfl, by omega, by omega, HS.out⟩
          case measure => simp [intOf]; omega
        · have t2 : decide ((da : Int) - c - db < 0) = false := by simp; omega
          have HS := Lib.hid (STEP.out db (da - c - db) 0 (by omega) (by omega) HTK.out (.inl hlb))
          have e : ((da - c - db : Nat) : Int) = (da : Int) - c - db := by omega
          rw [e] at HS
          clear e
          go_wp2
          go_roundw
          case rel => exact ⟨k + 1, 0, by go_num, rfl, by omega, by omega, HS.out⟩
          case measure => simp [intOf]; omega
      · have t1 : decide (k < l2.length) = false := by simpa using hlb
        have HTK := Lib.hid (show l2.take (k + 1) = l2.take k ++ (if k < l2.length then [0] else []) by rw [if_neg hlb, List.append_nil, List.take_of_length_le (by omega), List.take_of_length_le (by omega)])
        by_cases hneg : da < c
        · have t2 : decide ((da : Int) - c < 0) = true := by simp; omega
          have HS := Lib.hid (STEP.out 0 (da + 10000 - c) 1 (by omega) (by omega) HTK.out (.inr rfl))
          have e : ((da + 10000 - c : Nat) : Int) = (da : Int) - c + 10000 := by omega
          rw [e] at HS
          clear e
          go_wp2
          go_roundw
          case rel => exact ⟨k + 1, 1, by go_num, rfl, by omega, by omega, HS.out⟩
          case measure => simp [intOf]; omega
        · have t2 : decide ((da : Int) - c < 0) = false := by simp; omega
          have HS := Lib.hid (STEP.out 0 (da - c) 0 (by omega) (by omega) HTK.out (.inr rfl))
          have e : ((da - c : Nat) : Int) = (da : Int) - c := by omega
          rw [e] at HS
          clear e
          go_wp2
          go_roundw
          case rel => exact ⟨k + 1, 0, by go_num, rfl, by omega, by omega, HS.out⟩
          case measure => simp [intOf]; omega
    · obtain rfl : k = l1.length := by omega
      have hrd' : Rd wr 0 wr.heap.size 1 (some ⟨w.heap.size, 0, none⟩) o.length (d4s o) := hblk.rd
      have hval : val T4 o = x - y := by
        have hv := HV.out
        rw [List.take_length, List.take_of_length_le (by rw [HOL.out]; exact Nat.le_refl _), List.take_of_length_le (by omega), HN1.out.val, HN2.out.val] at hv
        have h1 := val_lt HO.out
        rw [HOL.out] at h1
        rcases Nat.eq_zero_or_pos c with h0 | h0
        · subst h0; omega
        · obtain rfl : c = 1 := by omega
          omega
      have hcut := trimmed_any (some ⟨w.heap.size, 0, none⟩) l1.length o wr hrd' (by rw [HOL.out]; exact Nat.le_refl _) (by unfold maxLen; omega) (fun h => by cases h)
      rw [HOL.out] at hcut
      have HCUT := Lib.hid hcut
      have hnr := rnatr_trim hrd' HO.out (by rw [HOL.out]; unfold maxLen; omega) (fun h => by cases h)
      rw [hval] at hnr
      have HNR := Lib.hid hnr
      clear hblk hbw hrd' hval hcut hnr
      go_wp2_with fail
      refine HCUT.out.mono ?_
      rintro e w' ⟨rfl, rfl⟩
      go_wp2
      go_ret
      exact ⟨_, _, _, rfl, HNR.out, HBW.out, fun b q e => by cases e; exact Nat.le_refl _⟩
theorem rnatSub_any (A1 A2 : Option Addr) (c1 c2 : Nat) (l1 l2 : List Nat) (x y : Nat) (w : World) (h1 : RNatR w A1 c1 l1 x) (h2 : RNatR w A2 c2 l2 y) (hs : l1.length ≤ 1000000) (hxy : y ≤ x) :
    Calls Tryz.prog 87 #[.slice A1 l1.length c1, .slice A2 l2.length c2] w (RNatPost (x - y) w) :=
  (rnatSubN_any A1 A2 c1 c2 l1 l2 x y w h1 h2 hs hxy).mono fun _ _ h => h.post
end Go.Proofs.YtnpfdelklolchaaGreatDoor

/- Division digit by digit, in plain Lean: base 10000. -/
namespace Go.Proofs.YtnpfdelklolchaaGreatDoor

/-- one digit more: H is what the higher digits are -/
theorem ddm_step {B H d : Nat} (hB : 0 < B) (hd : d < 10000) :
    (d + T4 * H) / B = T4 * (H / B) + (d + T4 * (H % B)) / B ∧ (d + T4 * H) % B = (d + T4 * (H % B)) % B ∧ (d + T4 * (H % B)) / B < T4 := by
  have h1 := Nat.div_add_mod H B
  have hr := Nat.mod_lt H hB
  have e : d + T4 * H = d + T4 * (H % B) + B * (T4 * (H / B)) := by
    conv => lhs; rw [← h1]
    rw [Nat.mul_add, Nat.mul_left_comm]; omega
  refine ⟨?_, ?_, ?_⟩
  · rw [e, Nat.add_mul_div_left _ _ hB, Nat.add_comm]
  · rw [e, Nat.add_mul_mod_self_left]
  · refine Nat.div_lt_of_lt_mul ?_
    have : T4 * (H % B) + T4 ≤ T4 * B := by
      rw [← Nat.mul_succ]; exact Nat.mul_le_mul_left _ hr
    rw [Nat.mul_comm B]
    unfold T4 at *; omega
theorem val_drop_dig {l : List Nat} {k d : Nat} (h : l[k]? = some d) : val T4 (l.drop k) = d + T4 * val T4 (l.drop (k + 1)) := by
  obtain ⟨hlt, e⟩ := List.getElem?_eq_some_iff.1 h
  rw [List.drop_eq_getElem_cons hlt, e]; rfl
theorem val_drop_set {l : List Nat} {k q : Nat} (h : k < l.length) : val T4 ((l.set k q).drop k) = q + T4 * val T4 (l.drop (k + 1)) := by
  rw [List.drop_eq_getElem_cons (by simpa using h)]
  simp only [List.getElem_set_self]
  rw [List.drop_set_of_lt (by omega)]; rfl
/-- the bisection -/
theorem bis_up {B X lo hi m : Nat} (hB : 0 < B) (_h2 : X / B ≤ hi) (hm : m = (lo + hi + 1) / 2) (hlh : lo < hi) (hc : B * m ≤ X) : m ≤ X / B ∧ m ≤ hi ∧ lo < m := by
  refine ⟨(Nat.le_div_iff_mul_le hB).2 (by rw [Nat.mul_comm]; exact hc), by omega, by omega⟩
theorem bis_down {B X lo hi m : Nat} (hB : 0 < B) (h1 : lo ≤ X / B) (hm : m = (lo + hi + 1) / 2) (hlh : lo < hi) (hc : ¬ B * m ≤ X) : X / B ≤ m - 1 ∧ lo ≤ m - 1 ∧ m - 1 < hi := by
  have : X / B < m := (Nat.div_lt_iff_lt_mul hB).2 (by rw [Nat.mul_comm]; omega)
  omega
end Go.Proofs.YtnpfdelklolchaaGreatDoor

/- append of a slice that reads as cells, nil let in. -/
namespace Go.Proofs.YtnpfdelklolchaaGreatDoor
open Go Go.RowKit Go.Proofs

theorem wpList_append_rd {P : Program} {w : World} {ops : Array Oper} {rest : List Oper} {o : Oper} {a : Act} {Q : Exit → Act → World → Prop} (hgd : o.guard = none) (s x : Operand) (t : TypeId)
    (ho : o.op = .call { callee := .builtin .append, args := #[s, x], argTypes := #[t, t] })
    (base : Nat) (e : TypeId) (i : TypeInfo) (z : Value) (size bytes : Nat) (ht : P.underlying t = some (.slice e)) (hi : P.info? e = some i) (hz : i.zero = some z)
    (hsize : i.size = size) (hby : i.bytes = bytes) (hzs : z.cells.size = size) (hsz : 0 < size)
    (v : Value) (n : Nat) (xs : List Value) (hs : a.eval s = v) (hown : w.ownsRow base e size v n xs)
    (A : Option Addr) (m c L B : Nat) (news : List Value) (hx : a.eval x = .slice A m c) (hA : A = none → m = 0 ∧ c = 0) (hrd : Rd w L B size A m news) (h1 : ∀ u ∈ news, u.oneCell' = true)
    (h63 : n + m ≤ maxLen) (hbytes : (n + m) * bytes ≤ 140737488355328) (hbase : base ≤ w.heap.size)
    (h : ∀ v' w', w'.ownsRow base e size v' (n + m) (xs ++ news) → w.grownBy w' v.ownBlock → wpList P ops Q rest (a.put o.dst v') w') : wpList P ops Q (o :: rest) a w := by
  cases A with
  | none =>
    obtain ⟨rfl, rfl⟩ := hA rfl
    have hn : news = [] := by have := hrd.1; simpa using this
    subst hn
    refine wpList_append_own_none hgd s x t ho base e i size ht hi v n xs hs hown hx ?_
    exact h v w (by simpa using hown) ⟨rfl, rfl, rfl, Nat.le_refl _, fun _ _ _ => rfl⟩
  | some ad =>
    refine wpList_append_own w hgd s x t ho base e i z size bytes ht hi hz hsize hby hzs hsz v n xs hs hown ad m c news hx hrd.1 ?_ h1 h63 hbytes hbase (fun v' w' g1 g2 _ => h v' w' g1 g2)
    intro j u hj
    have hj' := (List.getElem?_eq_some_iff.1 hj).1
    rw [hrd.1] at hj'
    have hm : 0 < m := by
      rcases Nat.eq_zero_or_pos m with h0 | h0
      · subst h0; simp at hj'
      · exact h0
    obtain ⟨b, o', e', _, _, hc⟩ := hrd.2 hm
    have e' : ad = ⟨b, o', none⟩ := by injection e'
    subst e'
    have := hc j u hj
    unfold Addr.add
    split
    · rename_i e0; subst e0; simpa using this
    · exact this
end Go.Proofs.YtnpfdelklolchaaGreatDoor
