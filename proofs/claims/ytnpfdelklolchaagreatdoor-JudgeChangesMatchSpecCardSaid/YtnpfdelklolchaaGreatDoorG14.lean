import Derived.Test.YtnpfdelklolchaaGreatDoorG12
import Derived.Test.YtnpfdelklolchaaGreatDoorG1
import Derived.Laws.AppendOwn
import Derived.Laws.AppendOwnNone
import Derived.Test.YtnpfdelklolchaaGreatDoorG13
/- Package dynamometerref0: Sub. -/
namespace Go.Proofs.YtnpfdelklolchaaGreatDoor
open Go Go.RowKit Go.Proofs

def RSubRel (w wr : World) (g : Nat) (la lb : List Nat) (k c : Nat) : Prop :=
  ∃ o, o.length = la.length ∧ (∀ d ∈ o, d < T4) ∧ Blk4 wr g o ∧ val T4 (o.take k) + val T4 (lb.take k) = val T4 (la.take k) + T4 ^ k * c ∧ Below w.heap.size w wr
theorem len_le4 {a b : List Nat} (ha : Norm T4 a) (hb : Norm T4 b) (h : val T4 b ≤ val T4 a) : b.length ≤ a.length := by
  rcases Nat.lt_or_ge a.length b.length with h' | h'
  · have := val_len_lt T4_pos ha hb h'; omega
  · exact h'

set_option maxHeartbeats 2000000 in
set_option maxRecDepth 100000 in
theorem rnatSubN_any (A1 A2 : Option Addr) (c1 c2 : Nat) (l1 l2 : List Nat) (x y : Nat) (w : World) (h1 : RNatR w A1 c1 l1 x) (h2 : RNatR w A2 c2 l2 y) (hs : l1.length ≤ 1000000) (hxy : y ≤ x) :
    Calls Tryz.prog 87 #[.slice A1 l1.length c1, .slice A2 l2.length c2] w (RNatNew (x - y) w) := by
  obtain ⟨i0, hi0, hz0, hz1, hz2⟩ := info_parts Tryz.infoI4
  have hle : l2.length ≤ l1.length := len_le4 h1.norm h2.norm (by rw [h1.val, h2.val]; exact hxy)
  have HN1 := Lib.hid h1
  have HN2 := Lib.hid h2
  clear h1 h2
  go_enter Tryz.func87, Tryz.ntmps87
  go_wp2_with (at_make; refine wpList_make_full _ rfl (.tmp 10) (.tmp 10) 29 rfl w.heap.size 3 i0 _ 1 Tryz.underlying29 hi0 hz0 hz1 .i64 .i64 _ _ l1.length rfl rfl ?m1 ?m2 ?m3 ?m4 ?m5 ?_)
  case m1 => rfl
  case m2 => rfl
  case m3 => rw [hz2]; omega
  case m4 => unfold maxLen; omega
  case m5 => exact Nat.le_refl _
  intro w1 hown hgr
  rw [made_zeros4] at hown
  obtain ⟨hblk, _⟩ := Blk4.of_own hown
  have hb1 : Below w.heap.size w w1 := (Below.refl _ w).grown hgr (Nat.le_refl _) (fun k hk => by cases hk)
  have hsz1 : w.heap.size < w1.heap.size := heap_lt hblk
  have HBK := Lib.hid hblk
  have HB1 := Lib.hid hb1
  clear hown hgr hblk hb1
  go_wp2
  go_loopw [6, 7, 8] (fun cy i _ wr => ∃ (k c : Nat), i = .int .i64 k ∧ cy = .int .i64 c ∧ k ≤ l1.length ∧ c ≤ 1 ∧ RSubRel w wr w.heap.size l1 l2 k c) (fun _ i _ _ => l1.length - (intOf i).toNat)
  case atStart => exact ⟨0, 0, rfl, rfl, Nat.zero_le _, by omega, List.replicate l1.length 0, by simp, fun d hd => by rw [List.eq_of_mem_replicate hd]; unfold T4; omega, HBK.out, by simp [val], HB1.out⟩
  case round =>
    obtain ⟨k, c, rfl, rfl, hk, hc, o, hol, hod, hblk, hval, hbw⟩ := hrel
    have hgl := heap_lt hblk
    have HO := Lib.hid hod
    have HOL := Lib.hid hol
    have HV := Lib.hid hval
    have HBW := Lib.hid hbw
    have HBL := Lib.hid hblk
    clear hod hol hval
    by_cases hlt : k < l1.length
    · obtain ⟨ba, oa, ua, rfl, hba, hua, qa⟩ := (HN1.out.rd.below hbw (Nat.le_refl _)).at1 hlt
      obtain ⟨da, hda, rfl⟩ := d4s_get hua
      have hdaW : da < 10000 := HN1.out.norm.1 da (List.mem_of_getElem? hda)
      have HDA := Lib.hid hda
      have hko : k < o.length := by have := HOL.out; omega
      obtain ⟨od, hod⟩ : ∃ od, o[k]? = some od := ⟨o[k], List.getElem?_eq_getElem hko⟩
      have q0 := hblk.cell hod
      have z0 := hblk.frozen k
      clear hua hda hod hblk hbw
      have step : ∀ yb dn cn : Nat, dn < 10000 → dn + yb + c = da + 10000 * cn → l2.take (k + 1) = l2.take k ++ (if k < l2.length then [yb] else []) → (k < l2.length ∨ yb = 0) → RSubRel w (wr.setCell ⟨w.heap.size, k, none⟩ (.int .i64 (dn : Int))) w.heap.size l1 l2 (k + 1) cn := by
        intro yb dn cn hdn e3 htk hor
        refine ⟨o.set k dn, by simp [HOL.out], mem_set4 HO.out (by unfold T4; omega), HBL.out.set k _, ?_, HBW.out.setCell (Nat.le_refl _) _⟩
        rw [take_set_succ hko, take_snoc' HDA.out, val_snoc, val_snoc, htk]
        have e1 : (o.take k).length = k := by simp; omega
        have e2 : (l1.take k).length = k := by simp; omega
        rw [e1, e2]
        have hv := HV.out
        have e4 : T4 ^ k * dn + T4 ^ k * yb + T4 ^ k * c = T4 ^ k * da + T4 ^ (k + 1) * cn := by
          rw [Nat.pow_succ, Nat.mul_assoc, ← Nat.mul_add, ← Nat.mul_add, ← Nat.mul_add, e3]; rfl
        have e5 : val T4 (l2.take k ++ (if k < l2.length then [yb] else [])) = val T4 (l2.take k) + T4 ^ k * yb := by
          rcases Nat.lt_or_ge k l2.length with h | h
          · rw [if_pos h, val_snoc]
            have : (l2.take k).length = k := by simp; omega
            rw [this]
          · rw [if_neg (by omega), List.append_nil]
            have : yb = 0 := by omega
            rw [this]; simp
        rw [e5]
        omega
      have STEP := Lib.hid step
      clear step
      by_cases hlb : k < l2.length
      · have t1 : decide (k < l2.length) = true := by simpa using hlb
        obtain ⟨bb, ob, ub, rfl, hbb, hub, qb⟩ := (HN2.out.rd.below HBW.out (Nat.le_refl _)).at1 hlb
        obtain ⟨db, hdb, rfl⟩ := d4s_get hub
        have hdbW : db < 10000 := HN2.out.norm.1 db (List.mem_of_getElem? hdb)
        have HTK := Lib.hid (show l2.take (k + 1) = l2.take k ++ (if k < l2.length then [db] else []) by rw [take_snoc' hdb, if_pos hlb])
        clear hub hdb
        by_cases hneg : da < db + c
        · have t2 : decide ((da : Int) - c - db < 0) = true := by simp; omega
          have HS := Lib.hid (STEP.out db (da + 10000 - c - db) 1 (by omega) (by omega) HTK.out (.inl hlb))
          have e : ((da + 10000 - c - db : Nat) : Int) = (da : Int) - c - db + 10000 := by omega
          rw [e] at HS
          clear e
          go_wp2
          go_roundw
          case rel => exact ⟨k + 1, 1, by go_num, rfl, by omega, by omega, HS.out⟩
          case measure => simp [intOf]; omega
        · have t2 : decide ((da : Int) - c - db < 0) = false := by simp; omega
          have HS := Lib.hid (STEP.out db (da - c - db) 0 (by omega) (by omega) HTK.out (.inl hlb))
          have e : ((da - c - db : Nat) : Int) = (da : Int) - c - db := by omega
          rw [e] at HS
          clear e
          go_wp2
          go_roundw
          case rel => exact ⟨k + 1, 0, by go_num, rfl, by omega, by omega, HS.out⟩
          case measure => simp [intOf]; omega
      · have t1 : decide (k < l2.length) = false := by simpa using hlb
        have HTK := Lib.hid (show l2.take (k + 1) = l2.take k ++ (if k < l2.length then [0] else []) by rw [if_neg hlb, List.append_nil, List.take_of_length_le (by omega), List.take_of_length_le (by omega)])
        by_cases hneg : da < c
        · have t2 : decide ((da : Int) - c < 0) = true := by simp; omega
          have HS := Lib.hid (STEP.out 0 (da + 10000 - c) 1 (by omega) (by omega) HTK.out (.inr rfl))
          have e : ((da + 10000 - c : Nat) : Int) = (da : Int) - c + 10000 := by omega
          rw [e] at HS
          clear e
          go_wp2
          go_roundw
          case rel => exact ⟨k + 1, 1, by go_num, rfl, by omega, by omega, HS.out⟩
          case measure => simp [intOf]; omega
        · have t2 : decide ((da : Int) - c < 0) = false := by simp; omega
          have HS := Lib.hid (STEP.out 0 (da - c) 0 (by omega) (by omega) HTK.out (.inr rfl))
          have e : ((da - c : Nat) : Int) = (da : Int) - c := by omega
          rw [e] at HS
          clear e
          go_wp2
          go_roundw
          case rel => exact ⟨k + 1, 0, by go_num, rfl, by omega, by omega, HS.out⟩
          case measure => simp [intOf]; omega
    · obtain rfl : k = l1.length := by omega
      have hrd' : Rd wr 0 wr.heap.size 1 (some ⟨w.heap.size, 0, none⟩) o.length (d4s o) := hblk.rd
      have hval : val T4 o = x - y := by
        have hv := HV.out
        rw [List.take_length, List.take_of_length_le (by rw [HOL.out]; exact Nat.le_refl _), List.take_of_length_le (by omega), HN1.out.val, HN2.out.val] at hv
        have h1 := val_lt HO.out
        rw [HOL.out] at h1
        rcases Nat.eq_zero_or_pos c with h0 | h0
        · subst h0; omega
        · obtain rfl : c = 1 := by omega
          omega
      have hcut := trimmed_any (some ⟨w.heap.size, 0, none⟩) l1.length o wr hrd' (by rw [HOL.out]; exact Nat.le_refl _) (by unfold maxLen; omega) (fun h => by cases h)
      rw [HOL.out] at hcut
      have HCUT := Lib.hid hcut
      have hnr := rnatr_trim hrd' HO.out (by rw [HOL.out]; unfold maxLen; omega) (fun h => by cases h)
      rw [hval] at hnr
      have HNR := Lib.hid hnr
      clear hblk hbw hrd' hval hcut hnr
      go_wp2_with fail
      refine HCUT.out.mono ?_
      rintro e w' ⟨rfl, rfl⟩
      go_wp2
      go_ret
      exact ⟨_, _, _, rfl, HNR.out, HBW.out, fun b q e => by cases e; exact Nat.le_refl _⟩
theorem rnatSub_any (A1 A2 : Option Addr) (c1 c2 : Nat) (l1 l2 : List Nat) (x y : Nat) (w : World) (h1 : RNatR w A1 c1 l1 x) (h2 : RNatR w A2 c2 l2 y) (hs : l1.length ≤ 1000000) (hxy : y ≤ x) :
    Calls Tryz.prog 87 #[.slice A1 l1.length c1, .slice A2 l2.length c2] w (RNatPost (x - y) w) :=
  (rnatSubN_any A1 A2 c1 c2 l1 l2 x y w h1 h2 hs hxy).mono fun _ _ h => h.post
end Go.Proofs.YtnpfdelklolchaaGreatDoor

/- Division digit by digit, in plain Lean: base 10000. -/
namespace Go.Proofs.YtnpfdelklolchaaGreatDoor

/-- one digit more: H is what the higher digits are -/
theorem ddm_step {B H d : Nat} (hB : 0 < B) (hd : d < 10000) :
    (d + T4 * H) / B = T4 * (H / B) + (d + T4 * (H % B)) / B ∧ (d + T4 * H) % B = (d + T4 * (H % B)) % B ∧ (d + T4 * (H % B)) / B < T4 := by
  have h1 := Nat.div_add_mod H B
  have hr := Nat.mod_lt H hB
  have e : d + T4 * H = d + T4 * (H % B) + B * (T4 * (H / B)) := by
    conv => lhs; rw [← h1]
    rw [Nat.mul_add, Nat.mul_left_comm]; omega
  refine ⟨?_, ?_, ?_⟩
  · rw [e, Nat.add_mul_div_left _ _ hB, Nat.add_comm]
  · rw [e, Nat.add_mul_mod_self_left]
  · refine Nat.div_lt_of_lt_mul ?_
    have : T4 * (H % B) + T4 ≤ T4 * B := by
      rw [← Nat.mul_succ]; exact Nat.mul_le_mul_left _ hr
    rw [Nat.mul_comm B]
    unfold T4 at *; omega
theorem val_drop_dig {l : List Nat} {k d : Nat} (h : l[k]? = some d) : val T4 (l.drop k) = d + T4 * val T4 (l.drop (k + 1)) := by
  obtain ⟨hlt, e⟩ := List.getElem?_eq_some_iff.1 h
  rw [List.drop_eq_getElem_cons hlt, e]; rfl
theorem val_drop_set {l : List Nat} {k q : Nat} (h : k < l.length) : val T4 ((l.set k q).drop k) = q + T4 * val T4 (l.drop (k + 1)) := by
  rw [List.drop_eq_getElem_cons (by simpa using h)]
  simp only [List.getElem_set_self]
  rw [List.drop_set_of_lt (by omega)]; rfl
/-- the bisection -/
theorem bis_up {B X lo hi m : Nat} (hB : 0 < B) (_h2 : X / B ≤ hi) (hm : m = (lo + hi + 1) / 2) (hlh : lo < hi) (hc : B * m ≤ X) : m ≤ X / B ∧ m ≤ hi ∧ lo < m := by
  refine ⟨(Nat.le_div_iff_mul_le hB).2 (by rw [Nat.mul_comm]; exact hc), by omega, by omega⟩
theorem bis_down {B X lo hi m : Nat} (hB : 0 < B) (h1 : lo ≤ X / B) (hm : m = (lo + hi + 1) / 2) (hlh : lo < hi) (hc : ¬ B * m ≤ X) : X / B ≤ m - 1 ∧ lo ≤ m - 1 ∧ m - 1 < hi := by
  have : X / B < m := (Nat.div_lt_iff_lt_mul hB).2 (by rw [Nat.mul_comm]; omega)
  omega
end Go.Proofs.YtnpfdelklolchaaGreatDoor

/- append of a slice that reads as cells, nil let in. -/
namespace Go.Proofs.YtnpfdelklolchaaGreatDoor
open Go Go.RowKit Go.Proofs

theorem wpList_append_rd {P : Program} {w : World} {ops : Array Oper} {rest : List Oper} {o : Oper} {a : Act} {Q : Exit → Act → World → Prop} (hgd : o.guard = none) (s x : Operand) (t : TypeId)
    (ho : o.op = .call { callee := .builtin .append, args := #[s, x], argTypes := #[t, t] })
    (base : Nat) (e : TypeId) (i : TypeInfo) (z : Value) (size bytes : Nat) (ht : P.underlying t = some (.slice e)) (hi : P.info? e = some i) (hz : i.zero = some z)
    (hsize : i.size = size) (hby : i.bytes = bytes) (hzs : z.cells.size = size) (hsz : 0 < size)
    (v : Value) (n : Nat) (xs : List Value) (hs : a.eval s = v) (hown : w.ownsRow base e size v n xs)
    (A : Option Addr) (m c L B : Nat) (news : List Value) (hx : a.eval x = .slice A m c) (hA : A = none → m = 0 ∧ c = 0) (hrd : Rd w L B size A m news) (h1 : ∀ u ∈ news, u.oneCell' = true)
    (h63 : n + m ≤ maxLen) (hbytes : (n + m) * bytes ≤ 140737488355328) (hbase : base ≤ w.heap.size)
    (h : ∀ v' w', w'.ownsRow base e size v' (n + m) (xs ++ news) → w.grownBy w' v.ownBlock → wpList P ops Q rest (a.put o.dst v') w') : wpList P ops Q (o :: rest) a w := by
  cases A with
  | none =>
    obtain ⟨rfl, rfl⟩ := hA rfl
    have hn : news = [] := by have := hrd.1; simpa using this
    subst hn
    refine wpList_append_own_none hgd s x t ho base e i size ht hi v n xs hs hown hx ?_
    exact h v w (by simpa using hown) ⟨rfl, rfl, rfl, Nat.le_refl _, fun _ _ _ => rfl⟩
  | some ad =>
    refine wpList_append_own w hgd s x t ho base e i z size bytes ht hi hz hsize hby hzs hsz v n xs hs hown ad m c news hx hrd.1 ?_ h1 h63 hbytes hbase (fun v' w' g1 g2 _ => h v' w' g1 g2)
    intro j u hj
    have hj' := (List.getElem?_eq_some_iff.1 hj).1
    rw [hrd.1] at hj'
    have hm : 0 < m := by
      rcases Nat.eq_zero_or_pos m with h0 | h0
      · subst h0; simp at hj'
      · exact h0
    obtain ⟨b, o', e', _, _, hc⟩ := hrd.2 hm
    have e' : ad = ⟨b, o', none⟩ := by injection e'
    subst e'
    have := hc j u hj
    unfold Addr.add
    split
    · rename_i e0; subst e0; simpa using this
    · exact this
end Go.Proofs.YtnpfdelklolchaaGreatDoor

/- Package dynamometerref0: small, DivMod. -/
namespace Go.Proofs.YtnpfdelklolchaaGreatDoor
open Go Go.RowKit Go.Proofs

theorem rlen_lt {l : List Nat} {x n : Nat} (hn : Norm T4 l) (hv : val T4 l = x) (h : x < T4 ^ n) : l.length ≤ n := by
  rcases Nat.lt_or_ge n l.length with h' | h'
  · have hne : l ≠ [] := by rintro rfl; simp at h'
    have := val_ge T4_pos hn hne
    have : T4 ^ n ≤ T4 ^ (l.length - 1) := Nat.pow_le_pow_right (by unfold T4; omega) (by omega)
    omega
  · exact h'
theorem rval_lt {l : List Nat} {x : Nat} (hn : Norm T4 l) (hv : val T4 l = x) : x < T4 ^ l.length := by rw [← hv]; exact val_lt hn.1
theorem T4_4 : T4 ^ 4 = 10000000000000000 := by unfold T4; rfl

set_option maxHeartbeats 1000000 in
set_option maxRecDepth 100000 in
theorem rSmall_any (A : Option Addr) (c : Nat) (l : List Nat) (x : Nat) (n : Int) (w : World) (h : RNatR w A c l x) (hs : l.length ≤ 1000000) (hn : n ≤ 1000000000000000) :
    Calls Tryz.prog 107 #[.slice A l.length c, .int .i64 n] w (RNatPost (x * n.toNat) w) := by
  have HO := Lib.hid (rnatOf_any n w (by omega))
  have HN := Lib.hid h
  clear h
  go_enter Tryz.func107, Tryz.ntmps107
  go_wp2_with fail
  refine HO.out.mono ?_
  rintro e w1 ⟨A1, c1, l1, rfl, hn1, hb1⟩
  have hl1 : l1.length ≤ 4 := rlen_lt hn1.norm hn1.val (by rw [T4_4]; omega)
  have HM := Lib.hid (rnatMul_any A A1 c c1 l l1 _ _ w1 (HN.out.on hb1) hn1 hs (by omega))
  have HB1 := Lib.hid hb1
  clear hn1 hb1
  go_wp2_with fail
  refine HM.out.mono ?_
  rintro e w2 ⟨A2, c2, l2, rfl, hn2, hb2⟩
  have HN2 := Lib.hid hn2
  have HB2 := Lib.hid (below_next HB1.out hb2)
  clear hn2 hb2
  go_wp2
  go_ret
  exact ⟨A2, c2, l2, rfl, HN2.out, HB2.out⟩

theorem RNatR.keep {w w' : World} {A : Option Addr} {c : Nat} {l : List Nat} {x : Nat} (h : RNatR w A c l x) (hs : w.heap.size ≤ w'.heap.size) (hk : ∀ b o, A = some ⟨b, o, none⟩ → b < w.heap.size → 0 < l.length → w'.heap[b]? = w.heap[b]?) : RNatR w' A c l x :=
  ⟨⟨h.rd.1, fun hn => by
    obtain ⟨b, o, e, h1, h2, h3⟩ := h.rd.2 hn
    exact ⟨b, o, e, h1, by omega, fun j u hu => (World.cell?_of_block (hk b o e h2 hn)).trans (h3 j u hu)⟩⟩, h.norm, h.val, h.cap, h.max, h.nil⟩
theorem own_one (w : World) (v : Value) (t : TypeId) : (w.alloc (.cells #[v] t)).ownsRow w.heap.size t 1 (.slice (some ⟨w.heap.size, 0, none⟩) 1 1) 1 [v] :=
  ⟨rfl, .inr ⟨w.heap.size, 1, #[v], rfl, Nat.le_refl _, alloc_at _ _ _ rfl, Nat.le_refl _, by unfold maxLen; omega, rfl, rfl⟩⟩
/-- what the loop over the digits keeps: quotient and rest of the digits from k on -/
def DivO (w wr : World) (g : Nat) (la : List Nat) (y k : Nat) (v : Value) : Prop :=
  ∃ o, o.length = la.length ∧ (∀ d ∈ o, d < T4) ∧ Blk4 wr g o ∧ val T4 (o.drop k) = val T4 (la.drop k) / y ∧ Below w.heap.size w wr ∧
    ∃ A c l, v = .slice A l.length c ∧ RNatR wr A c l (val T4 (la.drop k) % y)
theorem dm_len {l lb : List Nat} {x y : Nat} (hn : Norm T4 l) (hv : val T4 l = x) (hb : Norm T4 lb) (hy : val T4 lb = y) (h : x < y) : l.length ≤ lb.length :=
  rlen_lt hn hv (Nat.lt_trans h (rval_lt hb hy))

set_option maxHeartbeats 4000000 in
set_option maxRecDepth 100000 in
theorem rnatDivMod_any (A1 A2 : Option Addr) (c1 c2 : Nat) (la lb : List Nat) (x y : Nat) (w : World) (h1 : RNatR w A1 c1 la x) (h2 : RNatR w A2 c2 lb y) (hs : la.length ≤ 900000) (hs2 : lb.length ≤ 900000) (hy : 0 < y) :
    Calls Tryz.prog 90 #[.slice A1 la.length c1, .slice A2 lb.length c2] w fun e w' => ∃ A3 c3 l3 A4 c4 l4, e = .returned (.tuple #[.slice A3 l3.length c3, .slice A4 l4.length c4]) ∧ RNatR w' A3 c3 l3 (x / y) ∧ RNatR w' A4 c4 l4 (x % y) ∧ Below w.heap.size w w' := by
  obtain ⟨i0, hi0, hz0, hz1, hz2⟩ := info_parts Tryz.infoI4
  have HN1 := Lib.hid h1
  have HN2 := Lib.hid h2
  clear h1 h2
  go_enter Tryz.func90, Tryz.ntmps90
  go_wp2_with (at_make; refine wpList_make_full _ rfl (.tmp 13) (.tmp 13) 29 rfl w.heap.size 3 i0 _ 1 Tryz.underlying29 hi0 hz0 hz1 .i64 .i64 _ _ la.length rfl rfl ?m1 ?m2 ?m3 ?m4 ?m5 ?_)
  case m1 => rfl
  case m2 => rfl
  case m3 => rw [hz2]; omega
  case m4 => unfold maxLen; omega
  case m5 => exact Nat.le_refl _
  intro w1 hown hgr
  rw [made_zeros4] at hown
  obtain ⟨hblk, _⟩ := Blk4.of_own hown
  have hb1 : Below w.heap.size w w1 := (Below.refl _ w).grown hgr (Nat.le_refl _) (fun k hk => by cases hk)
  have hsz1 : w.heap.size < w1.heap.size := heap_lt hblk
  have HBK := Lib.hid hblk
  have HB1 := Lib.hid hb1
  clear hown hgr hblk hb1
  go_wp2
  go_loopw [7, 8, 9, 10, 11] (fun rv iv _ _ _ wr => ∃ k : Nat, iv = .int .i64 ((k : Int) - 1) ∧ k ≤ la.length ∧ DivO w wr w.heap.size la y k rv) (fun _ iv _ _ _ _ => (intOf iv + 1).toNat)
  case atStart => exact ⟨la.length, rfl, Nat.le_refl _, List.replicate la.length 0, by simp, fun d hd => by rw [List.eq_of_mem_replicate hd]; unfold T4; omega, HBK.out, by rw [List.drop_of_length_le (by simp), List.drop_length]; simp [val], HB1.out, none, 0, [], rfl, by rw [List.drop_length]; simpa [val] using rnatr_nil w1⟩
  case round =>
    obtain ⟨k, rfl, hk, o, hol, hod, hblk, hval, hbw, A, c, l, rfl, hrn⟩ := hrel
    have HO := Lib.hid hod
    have HOL := Lib.hid hol
    have HV := Lib.hid hval
    have HBW := Lib.hid hbw
    have HBL := Lib.hid hblk
    have HRN := Lib.hid hrn
    have hgl := heap_lt hblk
    cases k with
    | zero =>
      have hval0 : val T4 o = x / y := by have := HV.out; rw [List.drop_zero, List.drop_zero, HN1.out.val] at this; exact this
      rw [List.drop_zero, HN1.out.val] at HRN
      have hrd' := hblk.rd
      have HCUT := Lib.hid (trimmed_any (some ⟨w.heap.size, 0, none⟩) la.length o wr hrd' (by rw [HOL.out]; exact Nat.le_refl _) (by unfold maxLen; omega) (fun h => by cases h))
      have hnr := rnatr_trim hrd' HO.out (by rw [HOL.out]; unfold maxLen; omega) (fun h => by cases h)
      rw [hval0] at hnr
      have HNR := Lib.hid hnr
      rw [HOL.out] at HCUT
      clear hod hol hval hblk hrn hbw hval0 hrd' hnr
      go_wp2_with fail
      refine HCUT.out.mono ?_
      rintro e w' ⟨rfl, rfl⟩
      go_wp2
      go_ret2
      exact ⟨_, _, _, _, _, _, rfl, HNR.out, HRN.out, HBW.out⟩
    | succ j =>
      have e : (((j + 1 : Nat) : Int) - 1) = (j : Int) := by omega
      rw [e]
      obtain ⟨b, oo, u, rfl, hb, hu, qk⟩ := (HN1.out.rd.old hbw).at1 (show j < la.length by omega)
      obtain ⟨d, hd, rfl⟩ := d4s_get hu
      have hdW : d < 10000 := HN1.out.norm.1 d (List.mem_of_getElem? hd)
      have hlr : l.length ≤ lb.length := dm_len hrn.norm hrn.val HN2.out.norm HN2.out.val (Nat.mod_lt _ hy)
      have hstep := ddm_step (H := val T4 (la.drop (j + 1))) hy hdW
      rw [← val_drop_dig hd] at hstep
      obtain ⟨R, hR⟩ : ∃ R, R = val T4 (la.drop (j + 1)) % y := ⟨_, rfl⟩
      rw [← hR] at hstep hrn HRN
      have HST := Lib.hid hstep
      clear hu hod hol hval hblk hrn hstep hR
      go_wp2_with (at_builtin; refine wpList_append_rd rfl (.tmp 26) (.tmp 27) 29 rfl wr.heap.size 3 i0 _ 1 8 Tryz.underlying29 hi0 hz0 hz1 hz2 rfl (by decide) (.slice (some ⟨wr.heap.size, 0, none⟩) 1 1) 1 [.int .i64 (d : Int)] rfl (own_one wr _ _) A l.length c 0 (wr.alloc (.cells #[.int .i64 (d : Int)] 3)).heap.size (d4s l) rfl HRN.out.nil (HRN.out.on ((Below.refl _ wr).alloc (Nat.le_refl _) _)).rd ?c1 ?c2 ?c3 ?c4 ?_)
      case c1 => intro u hu; obtain ⟨z, _, rfl⟩ := List.mem_map.1 hu; rfl
      case c2 => unfold maxLen; omega
      case c3 => omega
      case c4 => simp
      intro v5 w5 hown5 hgr5
      obtain ⟨A5, c5, rfl, hc5, hcm5, hA5⟩ := ownsRow_shape hown5
      have hb5 : Below wr.heap.size wr w5 := ((Below.refl _ wr).alloc (Nat.le_refl _) (.cells #[.int .i64 (d : Int)] 3)).grown hgr5 (by simp) (fun k hk => by cases hk; exact Nat.le_refl _)
      have hlen5 : (d :: l).length = 1 + l.length := by simp; omega
      have hrd5 : Rd w5 0 w5.heap.size 1 A5 (d :: l).length (d4s (d :: l)) := by rw [hlen5]; exact (Rd.of_own hown5).more (Nat.zero_le _) (Nat.le_refl _)
      have HAP := Lib.hid (show ∀ b o, A5 = some ⟨b, o, none⟩ → wr.heap.size ≤ b from fun b o e => by
        obtain ⟨b', o', e', h1, _⟩ := (Rd.of_own hown5).2 (by omega)
        rw [e] at e'
        simp only [Option.some.injEq, Addr.mk.injEq, and_true] at e'
        omega)
      have hval5 : val T4 (d :: l) = d + T4 * R := by have := HRN.out.val; simp [val, this]
      have HTR := Lib.hid (trimmed_any A5 c5 (d :: l) w5 hrd5 (by rw [hlen5]; exact hc5) hcm5 (fun h => by have := hA5 h; rw [hlen5]; exact this))
      have hnr := rnatr_trim hrd5 (fun x hx => by
        rcases List.mem_cons.1 hx with h | h
        · rw [h]; exact hdW
        · exact HRN.out.norm.1 x h) (by rw [hlen5]; unfold maxLen; omega) (fun h => by rw [hlen5]; exact (hA5 h).1)
      rw [hval5] at hnr
      have hl6 : (trim (d :: l)).length ≤ l.length + 1 := Nat.le_trans (trim_length _) (by simp)
      rw [hlen5] at HTR
      have HB5 := Lib.hid hb5
      obtain ⟨l6, hl6e⟩ : ∃ l6, l6 = trim (d :: l) := ⟨_, rfl⟩
      rw [← hl6e] at HTR hnr hl6
      have HN6 := Lib.hid hnr
      obtain ⟨X, hX⟩ : ∃ X, X = d + T4 * R := ⟨_, rfl⟩
      rw [← hX] at HN6 HST
      have hq := HST.out.2.2
      unfold T4 at hq
      have HD := Lib.hid hd
      clear hown5 hgr5 hrd5 hval5 hnr hl6e hX hb5 qk hA5 hd
      have HSM := Lib.hid (fun W n (hb : Below w5.heap.size w5 W) (h0 : n ≤ 1000000000000000) => rSmall_any A2 c2 lb y n W (HN2.out.on (below_next HBW.out (below_next HB5.out hb))) (by omega) h0)
      have HCM := Lib.hid (fun W A3 c3 l3 z (hb : Below w5.heap.size w5 W) (h3 : RNatR W A3 c3 l3 z) (hl3 : l3.length ≤ 1000000) => rnatCmp_any A3 A5 c3 l6.length l3 l6 z X W h3 (HN6.out.on hb) hl3 (by omega))
      have HSB := Lib.hid (fun W A3 c3 l3 z (hb : Below w5.heap.size w5 W) (h3 : RNatR W A3 c3 l3 z) (hz : z ≤ X) => rnatSub_any A5 A3 l6.length c3 l6 l3 X z W (HN6.out.on hb) h3 (by omega) hz)
      have hyl : y < T4 ^ lb.length := rval_lt HN2.out.norm HN2.out.val
      have HLEN := Lib.hid (fun (W : World) A3 c3 (l3 : List Nat) m (h3 : RNatR W A3 c3 l3 (y * m)) (hm : m < 10000) => show l3.length ≤ lb.length + 1 from rlen_lt h3.norm h3.val (by
        rw [Nat.pow_succ]
        exact Nat.lt_of_le_of_lt (Nat.mul_le_mul_left y (Nat.le_of_lt hm)) (by unfold T4 at *; exact Nat.mul_lt_mul_of_pos_right hyl (by omega))))
      clear hyl
      go_wp2_with fail
      refine HTR.out.mono ?_
      rintro e w6 ⟨rfl, rfl⟩
      go_wp2_with fail
      go_loopw [9, 10, 11] (fun lv hv _ wr2 => ∃ lo hi : Nat, lv = .int .i64 lo ∧ hv = .int .i64 hi ∧ lo ≤ X / y ∧ X / y ≤ hi ∧ hi ≤ 9999 ∧ Below w5.heap.size w5 wr2) (fun lv hv _ _ => (intOf hv - intOf lv).toNat)
      case atStart => exact ⟨0, 9999, rfl, rfl, Nat.zero_le _, by omega, Nat.le_refl _, Below.refl _ _⟩
      case round =>
        obtain ⟨lo, hi, rfl, rfl, hlo, hhi, hh9, hbi⟩ := hrel
        have HBI := Lib.hid hbi
        clear hbi
        by_cases hlh : lo < hi
        · have t1 : decide ((lo : Int) < (hi : Int)) = true := by simpa using hlh
          have t1' : decide (lo < hi) = true := by simpa using hlh
          obtain ⟨m, hm⟩ : ∃ m, m = (lo + hi + 1) / 2 := ⟨_, rfl⟩
          have hm9 : m ≤ 9999 := by omega
          have hm1 : 1 ≤ m := by omega
          have hmi : ((lo : Int) + hi + 1).tdiv 2 = (m : Int) := by
            rw [Int.tdiv_eq_ediv_of_nonneg (by omega)]; omega
          have HS2 := Lib.hid (HSM.out wr (m : Int) HBI.out (by omega))
          rw [Int.toNat_natCast] at HS2
          have HU := Lib.hid (fun hc => bis_up (X := X) (lo := lo) (hi := hi) hy hhi hm hlh hc)
          have HDN := Lib.hid (fun hc => bis_down (X := X) (lo := lo) (hi := hi) hy hlo hm hlh hc)
          clear hm
          go_wp2_with fail
          refine HS2.out.mono ?_
          rintro e w7 ⟨A7, c7, l7, rfl, hn7, hb7⟩
          have hb7' := below_next HBI.out hb7
          have hl7 := HLEN.out w7 A7 c7 l7 m hn7 (by omega)
          have HC7 := Lib.hid (HCM.out w7 A7 c7 l7 _ hb7' hn7 (by omega))
          have HB7 := Lib.hid hb7'
          obtain ⟨cv, hcv⟩ : ∃ cv, cv = cmpN (y * m) X := ⟨_, rfl⟩
          rw [← hcv] at HC7
          clear hn7 hb7 hb7'
          by_cases hc : y * m ≤ X
          · have hu := HU.out hc
            have tc : decide (cv ≤ 0) = true := by rw [hcv]; unfold cmpN; simp; split <;> (try split) <;> omega
            clear hcv hc
            go_wp2_with fail
            refine HC7.out.mono ?_
            rintro e w8 ⟨rfl, q, rfl⟩
            go_wp2
            go_roundw
            case rel => exact ⟨m, hi, rfl, rfl, hu.1, hhi, hh9, below_drewN HB7.out _⟩
            case measure => simp [intOf]; omega
          · have hu := HDN.out hc
            have tc : decide (cv ≤ 0) = false := by rw [hcv]; unfold cmpN; simp; split <;> (try split) <;> omega
            clear hcv hc
            go_wp2_with fail
            refine HC7.out.mono ?_
            rintro e w8 ⟨rfl, q, rfl⟩
            go_wp2
            go_roundw
            case rel => exact ⟨lo, m - 1, rfl, by go_num, hlo, hu.1, by omega, below_drewN HB7.out _⟩
            case measure => simp [intOf]; omega
        · have t1 : decide ((lo : Int) < (hi : Int)) = false := by simpa using hlh
          have t1' : decide (lo < hi) = false := by simpa using hlh
          obtain rfl : lo = hi := by omega
          have hq2 : lo = X / y := by omega
          have HX := Lib.hid hq2
          obtain ⟨od, hod⟩ : ∃ od, o[j]? = some od := ⟨o[j]'(by have := HOL.out; omega), List.getElem?_eq_getElem _⟩
          have hbl2 : Blk4 wr w.heap.size o := (below_next HB5.out HBI.out).block _ hgl |>.trans HBL.out
          have q0 := hbl2.cell hod
          have z0 := hbl2.frozen j
          have hb9 : Below w.heap.size w (wr.setCell ⟨w.heap.size, j, none⟩ (.int .i64 (lo : Int))) := (below_next HBW.out (below_next HB5.out HBI.out)).setCell (Nat.le_refl _) _
          have hj : j < o.length := by have := HOL.out; omega
          have HNEW := Lib.hid (hbl2.set j lo)
          have HB9 := Lib.hid hb9
          have hbi := HBI.out.size
          have HN9 := Lib.hid (show RNatR (wr.setCell ⟨w.heap.size, j, none⟩ (.int .i64 (lo : Int))) A5 l6.length l6 X from (HN6.out.on HBI.out).keep (by simp [World.setCell]) (fun b o e _ _ => Below.heap_setCell _ _ _ _ (by have := HAP.out b o e; simp only; omega)))
          have HS9 := Lib.hid (rSmall_any A2 c2 lb y lo _ (HN2.out.on hb9) (by omega) (by omega))
          rw [Int.toNat_natCast] at HS9
          have hlX : y * lo ≤ X := by rw [hq2]; exact Nat.mul_div_le X y
          have hmod : X - y * lo = X % y := by have := Nat.div_add_mod X y; rw [← hq2] at this; omega
          have HDO := Lib.hid (show ∀ W A c (l : List Nat), Below (wr.setCell ⟨w.heap.size, j, none⟩ (.int .i64 (lo : Int))).heap.size (wr.setCell ⟨w.heap.size, j, none⟩ (.int .i64 (lo : Int))) W → RNatR W A c l (X - y * lo) → DivO w W w.heap.size la y j (.slice A l.length c) from fun W A c l hb hn => by
            refine ⟨o.set j lo, by simp [HOL.out], mem_set4 HO.out (by unfold T4; omega), (hb.block _ (heap_lt HNEW.out)).trans HNEW.out, ?_, HB9.out.trans (hb.mono HB9.out.size), A, c, l, rfl, ?_⟩
            · rw [val_drop_set hj, HV.out, HX.out]; rw [HST.out.1, Nat.add_comm]
            · rw [hmod] at hn; rw [HST.out.2.1]; exact hn)
          have hlo9 : lo < 10000 := by omega
          clear hod hbl2 hb9 hq2 hmod hj
          go_wp2_with fail
          refine HS9.out.mono ?_
          rintro e w7 ⟨A7, c7, l7, rfl, hn7, hb7⟩
          have HB7 := Lib.hid hb7
          have HS8 := Lib.hid (rnatSub_any A5 A7 l6.length c7 l6 l7 X _ w7 (HN9.out.on hb7) hn7 (by omega) hlX)
          clear hn7 hb7 q0 z0
          go_wp2_with fail
          refine HS8.out.mono ?_
          rintro e w8 ⟨A8, c8, l8, rfl, hn8, hb8⟩
          have HD8 := Lib.hid (HDO.out w8 A8 c8 l8 (below_next HB7.out hb8) hn8)
          clear hn8 hb8
          go_wp2
          go_roundw
          case rel => exact ⟨j, by go_num, by omega, HD8.out⟩
          case measure => simp [intOf]
end Go.Proofs.YtnpfdelklolchaaGreatDoor
