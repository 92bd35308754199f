/- Walk over the program's UpperOf. A text's length is at most 1048576 in this contract. -/
import Derived.Test.YtjpefadalinhoaaIn
import Derived.Test.YtjpefadalinhoaaMem
import Derived.Laws.IdiomStrings
import Derived.OwnWalk
namespace Go.Proofs.Ytjpefadalinhoaa
open Go.RowKit

def upI (x : Int) : Int := if inI x 97 122 then x - 32 else x
def upB (c : UInt8) : UInt8 := UInt8.ofNat (upI c.toNat).toNat
def upS (s : ByteArray) : ByteArray := ⟨(s.data.toList.map upB).toArray⟩
theorem upI_bd (c : UInt8) : 0 ≤ upI c.toNat ∧ upI c.toNat < 256 := by
  have := c.toNat_lt
  unfold upI inI
  split
  · rename_i h; simp at h; omega
  · omega
theorem upB_toNat (c : UInt8) : ((upB c).toNat : Int) = upI c.toNat := by
  have := upI_bd c
  unfold upB
  rw [UInt8.toNat_ofNat']
  omega

theorem add_head (g j : Nat) : (⟨g, 0, none⟩ : Addr).add j = ⟨g, j, none⟩ := by unfold Addr.add; split <;> simp_all
/-- The cells of a text's bytes, the first k turned to capitals. -/
def UpTo (s : ByteArray) (g k : Nat) (w : World) : Prop :=
  ∀ j (hj : j < s.data.size), w.cell? ⟨g, j, none⟩ = some (.int .u8 (if j < k then upI (s.data[j].toNat) else (s.data[j].toNat : Int)))
def FreeTo (s : ByteArray) (g : Nat) (w : World) : Prop := ∀ j, j < s.data.size → w.frozen? ⟨g, j, none⟩ = false
theorem UpTo.start (s : ByteArray) (w : World) (cap : Nat) (fr : Nat × Nat) : UpTo s w.heap.size 0 (w.drew.alloc (.cells (bytesRow s cap) 5 fr)) := by
  intro j hj
  have := World.cell?_alloc_mark w.drew (bytesRow s cap) 5 fr j
  rw [bytesRow_at s cap j hj] at this
  simpa using this
theorem FreeTo.start (s : ByteArray) (w : World) (cap : Nat) : FreeTo s w.heap.size (w.drew.alloc (.cells (bytesRow s cap) 5 ((bytesRow s cap).size, (bytesRow s cap).size + 1))) := by
  intro j hj
  have := World.frozen?_alloc_mark w.drew (bytesRow s cap) 5 (bytesRow s cap).size ((bytesRow s cap).size + 1) j
  have hz : s.data.size ≤ (bytesRow s cap).size := by simp [bytesRow]
  refine this.trans ?_
  rw [Bool.and_eq_false_iff, decide_eq_false_iff_not]
  omega
theorem UpTo.same {s : ByteArray} {g k : Nat} {w : World} (h : UpTo s g k w) (hk : k < s.data.size) (hx : upI (s.data[k].toNat) = (s.data[k].toNat : Int)) : UpTo s g (k + 1) w := by
  intro j hj
  have := h j hj
  by_cases e : j = k
  · subst e
    rw [if_pos (by omega), hx]; rw [if_neg (by omega)] at this; exact this
  · by_cases l : j < k
    · rw [if_pos (by omega)]; rw [if_pos l] at this; exact this
    · rw [if_neg (by omega)]; rw [if_neg l] at this; exact this
theorem UpTo.put {s : ByteArray} {g k : Nat} {w : World} (h : UpTo s g k w) (hk : k < s.data.size) : UpTo s g (k + 1) (w.setCell ⟨g, k, none⟩ (.int .u8 (upI (s.data[k].toNat)))) := by
  intro j hj
  have hj' := h j hj
  by_cases e : j = k
  · subst e
    rw [if_pos (by omega)]
    exact World.cell?_setCell_same _ _ _ hj'
  · rw [World.cell?_setCell_other _ _ _ _ (fun x => e (by injection x with _ x _; exact x.symm))]
    by_cases l : j < k
    · rw [if_pos (by omega)]; rw [if_pos l] at hj'; exact hj'
    · rw [if_neg (by omega)]; rw [if_neg l] at hj'; exact hj'
theorem FreeTo.put {s : ByteArray} {g : Nat} {w : World} (h : FreeTo s g w) (a : Addr) (v : Value) : FreeTo s g (w.setCell a v) := fun j hj => by rw [World.frozen?_setCell]; exact h j hj
theorem UpTo.text {s : ByteArray} {g : Nat} {w : World} (h : UpTo s g s.data.size w) (cap : Nat) :
    (convert 39 9 (.slice (some ⟨g, 0, none⟩) s.size cap)).run Try.prog w = .ok (.string (upS s)) w := by
  have := run_convert_bytes_back (P := Try.prog) w 39 9 5 ⟨g, 0, none⟩ cap (s.data.toList.map upB) Try.underlying39 Try.underlying5 Try.underlying9 (fun j hj => by
    have hj' : j < s.data.size := by simpa using hj
    rw [add_head, h j hj', if_pos hj', List.getElem_map, upB_toNat]
    rfl)
  have e : (s.data.toList.map upB).length = s.size := by rw [List.length_map, Array.length_toList]; rfl
  rw [e] at this
  exact this

set_option maxHeartbeats 1000000 in
theorem iUpper (s : ByteArray) (w : World) (h : s.size ≤ 1048576) :
    Calls Try.prog 35 #[.string s] w fun e w' => e = .returned (.string (upS s)) ∧ Below w.heap.size w w' := by
  have hs : (s.size : Int) ≤ 1048576 := by omega
  have kc := fun (W : World) => run_bytes_of_string (P := Try.prog) W 9 39 5 s Try.underlying9 Try.underlying39 Try.underlying5
  have U0 := UpTo.start s w (grownCap w s.size 0 5) ((bytesRow s (grownCap w s.size 0 5)).size, (bytesRow s (grownCap w s.size 0 5)).size + 1)
  have F0 := FreeTo.start s w (grownCap w s.size 0 5)
  have L0 : Below w.heap.size w (w.drew.alloc (.cells (bytesRow s (grownCap w s.size 0 5)) 5 ((bytesRow s (grownCap w s.size 0 5)).size, (bytesRow s (grownCap w s.size 0 5)).size + 1))) := (Below.refl _ _).drew.alloc (Nat.le_refl _) _
  go_enter Try.func35, Try.ntmps35
  go_wp2_with fail
  generalize grownCap w s.size 0 5 = cap at *
  obtain ⟨W0, hW0⟩ : ∃ W0, W0 = w.drew.alloc (.cells (bytesRow s cap) 5 ((bytesRow s cap).size, (bytesRow s cap).size + 1)) := ⟨_, rfl⟩
  rw [← hW0] at U0 F0 L0
  change Code.wp _ _ _ _ (w.drew.alloc (.cells (bytesRow s cap) 5 ((bytesRow s cap).size, (bytesRow s cap).size + 1)))
  rw [← hW0]
  clear hW0 kc
  go_loopw [10] (fun i wr => ∃ k : Nat, k ≤ s.size ∧ i = .int .i64 k ∧ UpTo s w.heap.size k wr ∧ FreeTo s w.heap.size wr ∧ Below w.heap.size w wr) (fun i _ => s.size - (intOf i).toNat)
  case atStart => exact ⟨0, Nat.zero_le _, rfl, U0, F0, L0⟩
  case round =>
    obtain ⟨k, hk, rfl, hU, hF, hL⟩ := hrel
    by_cases hlt : k < s.size
    · have hd : k < s.data.size := hlt
      have hc := hU k hd
      rw [if_neg (by omega)] at hc
      have hf := hF k hd
      have hb := s.data[k].toNat_lt
      have hput := hU.put hd
      have hsame := hU.same hd
      obtain ⟨x, hx⟩ : ∃ x : Int, x = (s.data[k].toNat : Int) := ⟨_, rfl⟩
      rw [← hx] at hc hput hsame
      have hx1 : 0 ≤ x := by omega
      have hx2 : x < 256 := by omega
      clear hx hb
      by_cases h1 : 97 ≤ x
      · by_cases h2 : x ≤ 122
        · have HP := Lib.hid hput
          clear hput hsame
          have hup : Hid (upI x = x - 32) := by unfold Hid; rw [upI, if_pos (inI_iff.2 ⟨h1, h2⟩)]
          go_wp2_with fail
          go_roundw
          case rel =>
            have hp := HP.out
            rw [hup.out] at hp
            exact ⟨k + 1, by omega, by go_num, hp, hF.put _ _, bl_set hL (Nat.le_refl _) _⟩
          case measure => simp [intOf]; omega
        · have HS := Lib.hid (hsame (by rw [upI, if_neg (fun e => h2 (inI_iff.1 e).2)]))
          clear hput hsame
          go_wp2_with fail
          go_roundw
          case rel => exact ⟨k + 1, by omega, by go_num, HS.out, hF, hL⟩
          case measure => simp [intOf]; omega
      · have HS := Lib.hid (hsame (by rw [upI, if_neg (fun e => h1 (inI_iff.1 e).1)]))
        clear hput hsame
        go_wp2_with fail
        go_roundw
        case rel => exact ⟨k + 1, by omega, by go_num, HS.out, hF, hL⟩
        case measure => simp [intOf]; omega
    · obtain rfl : k = s.size := by omega
      have ht := hU.text cap
      go_wp2_with fail
      go_ret
      exact ⟨rfl, hL⟩


end Go.Proofs.Ytjpefadalinhoaa
