/- Walk over the program's SplitText. A text's length is at most 1048576. -/
import Derived.Test.YtjpefadalinhoaaSplit
import Derived.Test.YtjpefadalinhoaaStrS
import Derived.Test.YtjpefadalinhoaaShelfP
namespace Go.Proofs.Ytjpefadalinhoaa
open Go.RowKit Go.Shelf

set_option maxHeartbeats 400000 in
theorem blank_any (x : Nat) (w : World) : Calls Try.prog 45 #[.int .i32 (x : Int)] w fun e w' => e = .returned (.bool (spB x)) ∧ w' = w := by
  by_cases h1 : x = 32
  · subst h1
    go_enter Try.func45, Try.ntmps45
    go_wp2_with fail
    go_ret
    exact ⟨rfl, rfl⟩
  · have b1 : ((x : Int) == 32) = false := by simp; omega
    by_cases h2 : x = 9
    · subst h2
      go_enter Try.func45, Try.ntmps45
      go_wp2_with fail
      go_ret
      exact ⟨rfl, rfl⟩
    · have b2 : ((x : Int) == 9) = false := by simp; omega
      have e : spB x = false := by unfold spB; simp [h1, h2]
      rw [e]
      go_enter Try.func45, Try.ntmps45
      go_wp2_with fail
      go_ret
      exact ⟨rfl, rfl⟩
set_option maxHeartbeats 400000 in
theorem iSplit (s : ByteArray) (w : World) (hs : s.size ≤ 1048576) :
    Calls Try.prog 15 #[.string s] w fun e w' => RetSs (fun zs => wordsOf s = zs) w e w' ∧ Below w.heap.size w w' := by
  have C := Try.strings_FieldsFunc 45 #[] (enters_of Try.func45 (by kernel_rfl) rfl) spB s w (by omega) (fun W x _ => (blank_any x W).mono fun e w' ⟨h1, h2⟩ => ⟨h1, 0, h2⟩)
  rw [fields_words] at C
  generalize wordsOf s = zs at C ⊢
  have CC := Lib.hid C
  clear C
  go_enter Try.func15, Try.ntmps15
  go_wp2_with fail
  refine CC.out.mono ?_; rintro e w1 ⟨A, rfl, hA, hO, b1⟩
  go_wp2_with fail
  go_ret
  exact ⟨⟨_, zs, rfl, rfl, Row.mk hO⟩, b1⟩

end Go.Proofs.Ytjpefadalinhoaa
