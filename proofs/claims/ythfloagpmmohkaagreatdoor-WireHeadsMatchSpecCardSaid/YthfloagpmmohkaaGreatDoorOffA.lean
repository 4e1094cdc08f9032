/- Append to a row of one's own that may begin behind its block's beginning (a slice that was cut at the front). -/
import Derived.Test.YthfloagpmmohkaaGreatDoorCoreA
import Derived.Deep.AppendLies
import Derived.ArgAppend
namespace Go.Proofs.YthfloagpmmohkaaGreatDoor
open Go Go.RowKit Go.Proofs

theorem off_new {w : World} {base n m size cap : Nat} {e : TypeId} {z : Array Value} {xs news : List Value} (hx : xs.length = n * size) (hl : news.length = m * size) (hz : z.size = size) (hb : base ≤ w.heap.size) (h1 : n + m ≤ cap) (h2 : cap ≤ maxLen) :
    OffR (w.drew.alloc (.cells (xs.toArray ++ news.toArray ++ Builtin.zeroCells z (cap - (n + m))) e)) base e size (.slice (some ⟨w.heap.size, 0, none⟩) (n + m) cap) (n + m) (xs ++ news) := by
  have hlen : (xs ++ news).length = (n + m) * size := by rw [List.length_append, hx, hl, Nat.add_mul]
  refine ⟨hlen, .inr ⟨w.heap.size, 0, cap, _, rfl, hb, alloc_at _ _ _ rfl, h1, h2, ?_, ?_⟩⟩
  · simp only [Array.size_append, List.size_toArray, size_zeroCells, hz, hx, hl, ← Nat.add_mul]
    rw [Nat.zero_add, Nat.add_sub_cancel' h1]
    exact Nat.le_refl _
  · simp only [List.drop_zero, Array.toList_append, List.toList_toArray]
    rw [List.take_append_of_le_length (by rw [hlen]; exact Nat.le_refl _), List.take_of_length_le (by rw [hlen]; exact Nat.le_refl _)]
theorem run_append_off {P : Program} (w : World) (t ty : TypeId) (base : Nat) (e : TypeId) (i : TypeInfo) (z : Value) (size bytes : Nat) (ht : P.underlying t = some (.slice e)) (hi : P.info? e = some i) (hz : i.zero = some z)
    (hsize : i.size = size) (hby : i.bytes = bytes) (hzs : z.cells.size = size) (v : Value) (n : Nat) (xs : List Value) (hown : OffR w base e size v n xs)
    (ad : Addr) (m c : Nat) (news : List Value) (hl : news.length = m * size) (hnews : ∀ j u, news[j]? = some u → w.cell? (ad.add j) = some u) (h1 : ∀ u ∈ news, u.oneCell' = true)
    (hm : 0 < m) (h63 : n + m ≤ maxLen) (hbytes : (n + m) * bytes ≤ 140737488355328) (hbase : base ≤ w.heap.size) :
    ∃ g o cap w', (Builtin.append_ #[t, t] ty #[v, .slice (some ad) m c]).run P w = .ok (.slice (some ⟨g, o, none⟩) (n + m) cap) w' ∧
      OffR w' base e size (.slice (some ⟨g, o, none⟩) (n + m) cap) (n + m) (xs ++ news) ∧ w.grownBy w' v.ownBlock ∧ (v.ownBlock = some g ∨ g = w.heap.size) ∧ g < w'.heap.size := by
  subst hsize hby
  have hsm : ((n + m : Nat) : Int) ≤ 9223372036854775807 := by unfold maxLen at h63; omega
  have hlen := hown.1
  have hge : ∀ old, n + m ≤ grownCap w (n + m) old e := fun old => grownCap_ge w _ old e
  have hmx : ∀ old, grownCap w (n + m) old e ≤ maxLen := fun old => grownCap_le_maxLen w _ old e h63
  have hgr : ∀ o : Obj, w.grownBy (w.drew.alloc o) v.ownBlock := fun o => ⟨rfl, rfl, rfl, by simp, fun k hk _ => Below.heap_alloc w.drew o k hk⟩
  rcases hown.2 with ⟨rfl, rfl⟩ | ⟨g, o, cap, cur, rfl, hb, hh, hnc, hcm, hcs, htk⟩
  · have hx : xs = [] := List.eq_nil_of_length_eq_zero (by rw [hlen]; simp)
    subst hx
    rw [Nat.zero_add] at hge hmx hsm hbytes
    have hr := run_append_nil (P := P) w t ty e i z ht hi hz ad m c news hl hnews hm hsm (by omega)
    refine ⟨w.heap.size, 0, _, _, by rw [Nat.zero_add]; exact hr, ?_, hgr _, .inr rfl, by simp⟩
    have := off_new (w := w) (base := base) (n := 0) (m := m) (e := e) (z := z.cells) (xs := []) (by simp) hl hzs hbase (by rw [Nat.zero_add]; exact hge 0) (hmx 0)
    rw [Nat.zero_add] at this ⊢
    simpa using this
  · by_cases hroom : n + m ≤ cap
    · have hfit : o + n * i.size + m * i.size ≤ cur.size := by
        have : (n + m) * i.size ≤ cap * i.size := Nat.mul_le_mul_right _ hroom
        rw [Nat.add_mul] at this
        omega
      have hr := run_append_room_cells (P := P) (w := w) t ty e i ht hi g o n cap ad m c news hl hnews h1 hroom (fun j hj => by
        rw [hl] at hj
        rw [cellsAt hh, Array.getElem?_eq_getElem (by omega)]; rfl) (fun j _ => frozenAt hh _)
      have hpre : cur.toList = cur.toList.take (o + n * i.size) ++ ((cur.toList.drop (o + n * i.size)).take (m * i.size)) ++ (cur.toList.drop (o + n * i.size)).drop (m * i.size) := by
        rw [List.append_assoc, List.take_append_drop, List.take_append_drop]
      have hp1 : (cur.toList.take (o + n * i.size)).length = o + n * i.size := by rw [List.length_take, Array.length_toList]; omega
      have hst := setCells_cells g e ((cur.toList.drop (o + n * i.size)).drop (m * i.size)) news (cur.toList.take (o + n * i.size)) ((cur.toList.drop (o + n * i.size)).take (m * i.size)) w (by
        rw [List.length_take, List.length_drop, Array.length_toList, hl]; omega) (by rw [← hpre]; simpa using hh)
      rw [hp1] at hst
      refine ⟨g, o, cap, _, hr, ⟨by rw [List.length_append, hlen, hl, Nat.add_mul], .inr ⟨g, o, cap, _, rfl, hb, hst.1, hroom, hcm, ?_, ?_⟩⟩, ⟨hst.2.os, hst.2.tape, hst.2.output, hst.2.size, fun k hk hne => hst.2.block k hk (fun e => hne (by rw [e]; rfl))⟩, .inl rfl, heap_lt hst.1⟩
      · simp only [List.size_toArray, List.length_append, List.length_take, List.length_drop, Array.length_toList, hl]
        omega
      · simp only [List.toList_toArray]
        rw [List.append_assoc, List.drop_append_of_le_length (by rw [hp1]; omega)]
        have e1 : (cur.toList.take (o + n * i.size)).drop o = xs := by
          rw [List.drop_take, Nat.add_sub_cancel_left]
          exact htk
        rw [e1, ← List.append_assoc, List.take_append_of_le_length (by rw [List.length_append, hlen, hl, Nat.add_mul]; exact Nat.le_refl _), List.take_of_length_le (by rw [List.length_append, hlen, hl, Nat.add_mul]; exact Nat.le_refl _)]
    · have holds : ∀ j u, xs[j]? = some u → w.cell? ((⟨g, o, none⟩ : Addr).add j) = some u := fun j u hj => by
        have hadd : (⟨g, o, none⟩ : Addr).add j = ⟨g, o + j, none⟩ := Addr.add_mid g o j
        rw [hadd, cellsAt hh]
        rw [← htk, List.getElem?_take] at hj
        split at hj
        · rw [List.getElem?_drop] at hj
          simpa using hj
        · cases hj
      have hr := run_append_grow (P := P) w t ty e i z ht hi hz ⟨g, o, none⟩ n cap xs hlen holds ad m c news hl hnews (by omega) hsm (growslice_fits (by omega) hbytes)
      refine ⟨w.heap.size, 0, _, _, hr, ?_, hgr _, .inr rfl, by simp⟩
      exact off_new hlen hl hzs hbase (hge cap) (hmx cap)
/-- at the operation -/
theorem wp_append_off {P : Program} {w : World} {o : Oper} {a : Act} {K : Act → World → Prop} {Q : Exit → Act → World → Prop} (s x : Operand) (t : TypeId)
    (ho : o.op = .call { callee := .builtin .append, args := #[s, x], argTypes := #[t, t] })
    (base : Nat) (e : TypeId) (i : TypeInfo) (z : Value) (size bytes : Nat) (ht : P.underlying t = some (.slice e)) (hi : P.info? e = some i) (hz : i.zero = some z)
    (hsize : i.size = size) (hby : i.bytes = bytes) (hzs : z.cells.size = size) (v : Value) (n : Nat) (xs : List Value) (hs : a.eval s = v) (hown : OffR w base e size v n xs)
    (ad : Addr) (m c : Nat) (news : List Value) (hx : a.eval x = .slice (some ad) m c) (hl : news.length = m * size) (hnews : ∀ j u, news[j]? = some u → w.cell? (ad.add j) = some u) (h1 : ∀ u ∈ news, u.oneCell' = true)
    (hm : 0 < m) (h63 : n + m ≤ maxLen) (hbytes : (n + m) * bytes ≤ 140737488355328) (hbase : base ≤ w.heap.size)
    (h : ∀ g off cap w', OffR w' base e size (.slice (some ⟨g, off, none⟩) (n + m) cap) (n + m) (xs ++ news) → w.grownBy w' v.ownBlock → (v.ownBlock = some g ∨ g = w.heap.size) → g < w'.heap.size → K (a.put o.dst (.slice (some ⟨g, off, none⟩) (n + m) cap)) w') : o.wp P a w K Q := by
  obtain ⟨g, off, cap, w', hr, h2, h3, h4, h5⟩ := run_append_off (P := P) w t o.type base e i z size bytes ht hi hz hsize hby hzs v n xs hown ad m c news hl hnews h1 hm h63 hbytes hbase
  unfold Oper.wp execOp
  simp only [ho, resolve, invoke, builtin, Sem.run_bind, Sem.run_pure, Result.andThen_ok, List.map_toArray, List.map_cons, List.map_nil, hs, hx, hr]
  exact h g off cap w' h2 h3 h4 h5
end Go.Proofs.YthfloagpmmohkaaGreatDoor
