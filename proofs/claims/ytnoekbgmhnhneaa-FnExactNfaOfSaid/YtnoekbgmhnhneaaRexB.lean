/- Rows of Rexs in memory. -/
import Derived.Test.YtnoekbgmhnhneaaTree
namespace Go.Proofs.Ytnoekbgmhnhneaa
open Go.RowKit

/-- A label's cells. -/
def rexC (a : (Int × ByteArray)) : List Value := [.int .i64 a.1, .string a.2]
theorem rexC_len (a : (Int × ByteArray)) : (rexC a).length + 1 = 3 := rfl
theorem info_Rex : (Try.prog.info? 45).map (fun i => (i.zero, i.size, i.bytes)) = some (some (.agg #[.int .i64 0, .string ⟨#[]⟩, .slice none 0 0]), 3, 48) := by kernel_rfl
/-- What stands at place i of a row. -/
theorem at_Rex {w : World} {lo hi : Nat} {A : Option Addr} {fr : Fr (Int × ByteArray)} (h : Sl rexC w lo hi A fr) {i : Nat} (hi' : i < fr.len) :
    ∃ b o a kids A' c', A = some ⟨b, o, none⟩ ∧ b < hi ∧ fr.drop i = .cons a kids (fr.drop (i + 1)) ∧ kids.size < fr.size ∧ Sl rexC w lo hi A' kids ∧
      w.cell? ⟨b, o + i * 3, none⟩ = some (.int .i64 a.1) ∧ w.cell? ⟨b, o + i * 3 + 1, none⟩ = some (.string a.2) ∧ w.cell? ⟨b, o + i * 3 + 2, none⟩ = some (.slice A' kids.len c') := by
  obtain ⟨b, o, a, kids, A', c', e, _, h2, hd, hs, hc, hS⟩ := h.at_ rexC_len hi'
  exact ⟨b, o, a, kids, A', c', e, h2, hd, hs, hS, hc 0 _ rfl, hc 1 _ rfl, hc 2 _ rfl⟩
/-- It hands back a new row of these trees. -/
def RetFr_Rex (fr : Fr (Int × ByteArray)) (w : World) (e : Ending) (w' : World) : Prop := ∃ (A : Option Addr) (c : Nat), e = .returned (.slice A fr.len c) ∧ Sl rexC w' w.heap.size w'.heap.size A fr
/-- It hands back a new tree. -/
def RetTr_Rex (a : (Int × ByteArray)) (kids : Fr (Int × ByteArray)) (w : World) (e : Ending) (w' : World) : Prop := ∃ (A : Option Addr) (c : Nat), e = .returned (.agg #[.int .i64 a.1, .string a.2, .slice A kids.len c]) ∧ Sl rexC w' w.heap.size w'.heap.size A kids

end Go.Proofs.Ytnoekbgmhnhneaa
