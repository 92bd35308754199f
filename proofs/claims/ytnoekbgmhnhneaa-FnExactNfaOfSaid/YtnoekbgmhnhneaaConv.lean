/- The text of bytes; a slice's part. No condition. -/
import Derived.Test.YtnoekbgmhnhneaaRow
import Derived.Test.YtnoekbgmhnhneaaByteP
import Derived.Laws.IdiomStrings
import Derived.Laws.BytesArg
namespace Go.Proofs.Ytnoekbgmhnhneaa
open Go.RowKit

/-- The text of bytes. -/
def bStr (zs : List Int) : ByteArray := ⟨(zs.map fun n => UInt8.ofNat n.toNat).toArray⟩
theorem conv_bytes {w : World} {Bd : Nat} {A : Option Addr} {n c : Nat} {zs : List Int} (h : Reads w Bd 1 A n (u8s zs)) (hn : zs.length = n) (hZ : Byt zs) :
    (convert 54 9 (.slice A n c)).run Try.prog w = .ok (.string (bStr zs)) w := by
  subst hn
  have back : ∀ a : Addr, (∀ j (hj : j < zs.length), w.cell? (a.add j) = some (.int .u8 zs[j])) → (convert 54 9 (.slice (some a) zs.length c)).run Try.prog w = .ok (.string (bStr zs)) w := by
    intro a ha
    have := run_convert_bytes_back (P := Try.prog) w 54 9 5 a c (zs.map fun n => UInt8.ofNat n.toNat) Try.underlying54 Try.underlying5 Try.underlying9 (fun j hj => by
      have hj' : j < zs.length := by simpa using hj
      rw [ha j hj', List.getElem_map]
      have := hZ zs[j] (List.getElem_mem hj')
      congr 2
      rw [UInt8.toNat_ofNat']
      omega)
    rw [List.length_map] at this
    exact this
  cases A with
  | none =>
    have hz : zs = [] := by
      rcases Nat.eq_zero_or_pos zs.length with h0 | h0
      · exact List.eq_nil_of_length_eq_zero h0
      · obtain ⟨_, _, h1, _⟩ := h.2 h0
        cases h1
    subst hz
    exact run_convert_bytes_nil w 54 5 Try.underlying54 Try.underlying5 _ _ 9 Try.underlying9
  | some a =>
    refine back a (fun j hj => ?_)
    obtain ⟨b, off, h1, _, hc⟩ := h.2 (by omega)
    cases h1
    rw [add_plain]
    exact hc j _ (u8s_get zs j hj)
theorem rd_cut {w : World} {Bd n c lo m : Nat} {A : Option Addr} {zs : List Int} (h : Reads w Bd 1 A n (u8s zs)) (hn : zs.length = n) (hl : lo + m ≤ n) (hc : n ≤ c) :
    Reads w Bd 1 (if c = lo then A else A.map (·.add lo)) m (u8s ((zs.drop lo).take m)) := by
  refine ⟨by rw [u8s_len, List.length_take, List.length_drop]; omega, fun hm => ?_⟩
  rw [if_neg (by omega)]
  obtain ⟨b, off, rfl, hb, hx⟩ := h.2 (by omega)
  refine ⟨b, off + lo, by simp [add_plain], hb, fun j u hu => ?_⟩
  rw [Nat.add_assoc]
  refine hx (lo + j) u ?_
  rw [← hu]
  unfold u8s
  rw [List.getElem?_map, List.getElem?_map, List.getElem?_take, if_pos, List.getElem?_drop]
  have := (List.getElem?_eq_some_iff.1 hu).1
  rw [u8s_len, List.length_take, List.length_drop] at this
  omega

end Go.Proofs.Ytnoekbgmhnhneaa
