/- Rows of Exprs in memory. -/
import Derived.Test.YtalnkdbmbjplpaaTree
namespace Go.Proofs.Ytalnkdbmbjplpaa
open Go.RowKit

/-- A label's cells. -/
def exprC (a : (Int × Int × ByteArray)) : List Value := [.int .i64 a.1, .int .i64 a.2.1, .string a.2.2]
theorem exprC_len (a : (Int × Int × ByteArray)) : (exprC a).length + 1 = 4 := rfl
theorem info_Expr : (Try.prog.info? 26).map (fun i => (i.zero, i.size, i.bytes)) = some (some (.agg #[.int .i64 0, .int .i64 0, .string ⟨#[]⟩, .slice none 0 0]), 4, 56) := by kernel_rfl
/-- What stands at place i of a row. -/
theorem at_Expr {w : World} {lo hi : Nat} {A : Option Addr} {fr : Fr (Int × Int × ByteArray)} (h : Sl exprC w lo hi A fr) {i : Nat} (hi' : i < fr.len) :
    ∃ b o a kids A' c', A = some ⟨b, o, none⟩ ∧ b < hi ∧ fr.drop i = .cons a kids (fr.drop (i + 1)) ∧ kids.size < fr.size ∧ Sl exprC w lo hi A' kids ∧
      w.cell? ⟨b, o + i * 4, none⟩ = some (.int .i64 a.1) ∧ w.cell? ⟨b, o + i * 4 + 1, none⟩ = some (.int .i64 a.2.1) ∧ w.cell? ⟨b, o + i * 4 + 2, none⟩ = some (.string a.2.2) ∧ w.cell? ⟨b, o + i * 4 + 3, none⟩ = some (.slice A' kids.len c') := by
  obtain ⟨b, o, a, kids, A', c', e, _, h2, hd, hs, hc, hS⟩ := h.at_ exprC_len hi'
  exact ⟨b, o, a, kids, A', c', e, h2, hd, hs, hS, hc 0 _ rfl, hc 1 _ rfl, hc 2 _ rfl, hc 3 _ rfl⟩
/-- It hands back a new row of these trees. -/
def RetFr_Expr (fr : Fr (Int × Int × ByteArray)) (w : World) (e : Ending) (w' : World) : Prop := ∃ (A : Option Addr) (c : Nat), e = .returned (.slice A fr.len c) ∧ Sl exprC w' w.heap.size w'.heap.size A fr
/-- It hands back a new tree. -/
def RetTr_Expr (a : (Int × Int × ByteArray)) (kids : Fr (Int × Int × ByteArray)) (w : World) (e : Ending) (w' : World) : Prop := ∃ (A : Option Addr) (c : Nat), e = .returned (.agg #[.int .i64 a.1, .int .i64 a.2.1, .string a.2.2, .slice A kids.len c]) ∧ Sl exprC w' w.heap.size w'.heap.size A kids

end Go.Proofs.Ytalnkdbmbjplpaa
