/- Package dynamometerref0: small, DivMod. -/
import Derived.Test.YtnapdhfkgfjjfaaGreatDoorG17
import Derived.Test.YtnapdhfkgfjjfaaGreatDoorG18
namespace Go.Proofs.YtnapdhfkgfjjfaaGreatDoor
open Go Go.RowKit Go.Proofs

theorem rlen_lt {l : List Nat} {x n : Nat} (hn : Norm T4 l) (hv : val T4 l = x) (h : x < T4 ^ n) : l.length ≤ n := by
  rcases Nat.lt_or_ge n l.length with h' | h'
  · have hne : l ≠ [] := by rintro rfl; simp at h'
    have := val_ge T4_pos hn hne
    have : T4 ^ n ≤ T4 ^ (l.length - 1) := Nat.pow_le_pow_right (by unfold T4; omega) (by omega)
    omega
  · exact h'
theorem RNatR.keep {w w' : World} {A : Option Addr} {c : Nat} {l : List Nat} {x : Nat} (h : RNatR w A c l x) (hs : w.heap.size ≤ w'.heap.size) (hk : ∀ b o, A = some ⟨b, o, none⟩ → b < w.heap.size → 0 < l.length → w'.heap[b]? = w.heap[b]?) : RNatR w' A c l x :=
  ⟨⟨h.rd.1, fun hn => by
    obtain ⟨b, o, e, h1, h2, h3⟩ := h.rd.2 hn
    exact ⟨b, o, e, h1, by omega, fun j u hu => (World.cell?_of_block (hk b o e h2 hn)).trans (h3 j u hu)⟩⟩, h.norm, h.val, h.cap, h.max, h.nil⟩
end Go.Proofs.YtnapdhfkgfjjfaaGreatDoor
