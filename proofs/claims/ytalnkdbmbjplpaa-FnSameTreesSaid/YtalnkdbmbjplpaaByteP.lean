/- Walks over the laws' helpers on bytes: toByteS, eqByteS, markByteS, heldByteS. Lengths are at most 2 to the 30th in these contracts. -/
import Derived.Test.YtalnkdbmbjplpaaRow
namespace Go.Proofs.Ytalnkdbmbjplpaa
open Go.RowKit

theorem u8s_len (zs : List Int) : (u8s zs).length = zs.length := by simp [u8s]
theorem u8s_get (zs : List Int) (k : Nat) (hk : k < zs.length) : (u8s zs)[k]? = some (.int .u8 zs[k]) := by simp [u8s, hk]
theorem rd_at {w : World} {B : Nat} {A : Option Addr} {zs : List Int} (h : Reads w B 1 A zs.length (u8s zs)) {k : Nat} (hk : k < zs.length) :
    ∃ b off, A = some ⟨b, off, none⟩ ∧ b < B ∧ w.cell? ⟨b, off + k, none⟩ = some (.int .u8 zs[k]) := by
  obtain ⟨b, off, u, e, hb, hu, hc⟩ := h.at_ hk
  rw [u8s_get zs k hk] at hu
  cases hu
  exact ⟨b, off, e, hb, hc⟩
theorem own_at {w : World} {lo : Nat} {A : Option Addr} {c : Nat} {e : TypeId} {n : Nat} {xs : List Value} (h : w.ownsRow lo e 1 (.slice A n c) n xs) {k : Nat} (hk : k < n) :
    ∃ g, A = some ⟨g, 0, none⟩ ∧ lo ≤ g ∧ g < w.heap.size ∧ w.cell? ⟨g, k, none⟩ = xs[k]? ∧ w.frozen? ⟨g, k, none⟩ = false := by
  rcases h.2 with ⟨h', h0⟩ | ⟨g, cap, cur, h', hg, _⟩
  · omega
  · simp only [Value.slice.injEq, true_and] at h'
    obtain ⟨rfl, rfl⟩ := h'
    refine ⟨g, rfl, hg, ?_, h.cellAt k (by omega), h.frozenAt k⟩
    exact (h.lt g rfl).2


end Go.Proofs.Ytalnkdbmbjplpaa
