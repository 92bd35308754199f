/- Walk over the marks: markAt of the program. A text's length is at most 1048576. -/
import Derived.Test.YtjpefadalinhoaaDoorMark
import Derived.Lib.IndexAny
namespace Go.Proofs.YtjpefadalinhoaaDoor
open Go.RowKit

theorem toList_nonempty (s : ByteArray) (h : 0 < s.size) : s.toList.isEmpty = false := by
  rw [Lib.toList_data]
  cases hd : s.data.toList with
  | nil => have := Lib.size_eq s; rw [hd, List.length_nil] at this; omega
  | cons a l => rfl
theorem toList_none (s : ByteArray) (h : s.size = 0) : s.toList.isEmpty = true := by
  rw [Lib.toList_data]
  cases hd : s.data.toList with
  | nil => rfl
  | cons a l => have := Lib.size_eq s; rw [hd, List.length_cons] at this; omega

def twoB : List ByteArray := [⟨#[60, 61]⟩, ⟨#[61, 61]⟩, ⟨#[33, 61]⟩, ⟨#[62, 61]⟩, ⟨#[38, 38]⟩, ⟨#[124, 124]⟩]
theorem twoB_list : twoB.map (·.data.toList) = twos := rfl
/-- None of the first k is a beginning. -/
def noPre (l : List UInt8) (k : Nat) : Prop := ∀ j, j < k → ∀ h : j < twoB.length, Lib.hasPrefix l twoB[j].data.toList = false
theorem noPre.two {l : List UInt8} (h : noPre l 6) : twos.contains l = false := by
  cases hc : twos.contains l with
  | false => rfl
  | true =>
    have hm := List.contains_iff_mem.1 hc
    rw [← twoB_list] at hm
    obtain ⟨t, ht, rfl⟩ := List.mem_map.1 hm
    obtain ⟨j, hj, rfl⟩ := List.getElem_of_mem ht
    have := h j hj hj
    unfold Lib.hasPrefix at this
    rw [show List.isPrefixOf _ _ = true from List.isPrefixOf_iff_prefix.2 (List.prefix_refl _)] at this
    cases this
theorem two_len {t : List UInt8} (h : t ∈ twos) : t.length = 2 := (show ∀ t ∈ twos, t.length = 2 by decide) t h
theorem mk_found {l t : List UInt8} (ht : t ∈ twos) (h : Lib.hasPrefix l t = true) : (t == l) = mkL l := by
  obtain ⟨r, rfl⟩ := List.isPrefixOf_iff_prefix.1 h
  have h2 := two_len ht
  cases r with
  | nil =>
    rw [List.append_nil, mkL_two ht (beq_self_eq_true t)]
    exact beq_self_eq_true t
  | cons d r =>
    have e : (t == t ++ d :: r) = false := by
      rw [beq_eq_false_iff_ne]; intro h; have := congrArg List.length h; simp at this
    rw [e]
    symm
    unfold mkL
    rw [Bool.or_eq_false_iff]
    refine ⟨?_, ?_⟩
    · cases hc : twos.contains (t ++ d :: r) with
      | false => rfl
      | true => have := two_len (List.contains_iff_mem.1 hc); simp at this; omega
    · split
      · rename_i c hc
        have := congrArg List.length hc
        simp at this
        omega
      · rfl
theorem mk_one {l : List UInt8} (c : UInt8) (r : List UInt8) (hl : l = c :: r) (h : twos.contains l = false) (hc : ones.contains c = true) : ([c] == l) = mkL l := by
  subst hl
  unfold mkL
  rw [h]
  cases r with
  | nil => simp only [hc, Bool.or_true]; exact beq_self_eq_true _
  | cons d r => simp
theorem mk_no {l : List UInt8} (c : UInt8) (r : List UInt8) (hl : l = c :: r) (h : twos.contains l = false) (hc : ones.contains c = false) : ([] == l) = mkL l := by
  subst hl
  unfold mkL
  rw [h]
  cases r with
  | nil => simp only [hc, Bool.or_false]; rfl
  | cons d r => rfl

set_option maxRecDepth 20000 in
set_option maxHeartbeats 2000000 in
theorem iMark (s : ByteArray) (w : World) (hs : s.size ≤ 1048576) :
    Calls Tryd.prog 28 #[.string s] w fun e w' => (∃ m : ByteArray, e = .returned (.string m) ∧ (0 < s.size → (m.toList == s.toList) = mkL s.toList)) ∧ Below w.heap.size w w' := by
  have hB : Blk (w.alloc (.cells #[.string ⟨#[60, 61]⟩, .string ⟨#[61, 61]⟩, .string ⟨#[33, 61]⟩, .string ⟨#[62, 61]⟩, .string ⟨#[38, 38]⟩, .string ⟨#[124, 124]⟩] 9)) w.heap.size 9 (strs twoB) := Blk.new w _ _
  have hL := bl_alloc (Below.refl w.heap.size w) (.cells #[.string ⟨#[60, 61]⟩, .string ⟨#[61, 61]⟩, .string ⟨#[33, 61]⟩, .string ⟨#[62, 61]⟩, .string ⟨#[38, 38]⟩, .string ⟨#[124, 124]⟩] 9)
  have F0 := Lib.hid (Lib.toList_data s)
  go_enter Tryd.func28, Tryd.ntmps28
  go_wp2_with fail
  generalize w.alloc (.cells #[.string ⟨#[60, 61]⟩, .string ⟨#[61, 61]⟩, .string ⟨#[33, 61]⟩, .string ⟨#[62, 61]⟩, .string ⟨#[38, 38]⟩, .string ⟨#[124, 124]⟩] 9) = W at hB hL ⊢
  go_loop [4, 7] (fun _ i => ∃ k : Nat, k ≤ 6 ∧ i = .int .i64 k ∧ noPre s.data.toList k) (fun _ i => 6 - (intOf i).toNat)
  case atStart => exact ⟨0, Nat.zero_le _, rfl, fun j h => by omega⟩
  case round =>
    obtain ⟨k, hk, rfl, hN⟩ := hrel
    have HN := Lib.hid hN
    clear hN
    by_cases hlt : (k : Int) < 6
    · have hkn : k < twoB.length := by show k < 6; omega
      have hc := strs_at hB hkn
      have hm : twoB[k].data.toList ∈ twos := by rw [← twoB_list]; exact List.mem_map.2 ⟨_, List.getElem_mem hkn, rfl⟩
      have HM := Lib.hid hm
      have C := Tryd.strings_HasPrefix s twoB[k] W
      cases h1 : Lib.hasPrefix s.data.toList twoB[k].data.toList
      · rw [h1] at C
        have H : Hid (noPre s.data.toList (k + 1)) := Lib.hid (fun j hj h => by
          rcases Nat.lt_or_ge j k with h2 | h2
          · exact HN.out j h2 h
          · obtain rfl : j = k := by omega
            exact h1)
        clear h1 hm HM HN
        generalize twoB[k] = t at hc C
        have CC := Lib.hid C
        clear C
        go_wp2_with fail
        refine CC.out.mono ?_; rintro e w1 ⟨rfl, rfl⟩
        go_wp2_with fail
        go_round
        case rel => exact ⟨k + 1, by omega, by go_num, H.out⟩
        case measure => simp [intOf]; omega
      · rw [h1] at C
        have E := Lib.hid (mk_found hm h1)
        clear h1 hm HM HN
        generalize twoB[k] = t at hc C E
        have CC := Lib.hid C
        clear C
        go_wp2_with fail
        refine CC.out.mono ?_; rintro e w1 ⟨rfl, rfl⟩
        go_wp2_with fail
        go_ret
        exact ⟨⟨t, rfl, fun _ => by rw [Lib.toList_data t, F0.out]; exact E.out⟩, hL⟩
    · obtain rfl : k = 6 := by omega
      by_cases h0 : 0 < s.size
      · have hx := s[0].toNat_lt
        have hx' : (s[0].toNat : Int) < 256 := by omega
        have h0' : (0 : Int) < s.size := by omega
        have hne := toList_nonempty s h0
        have h2 := noPre.two HN.out
        obtain ⟨c, r, hl⟩ : ∃ c r, s.data.toList = c :: r := by
          cases h : s.data.toList with
          | nil => have := Lib.size_eq s; rw [h, List.length_nil] at this; omega
          | cons c r => exact ⟨c, r, rfl⟩
        have hc0 : s[0] = c := by
          have h' : 0 < s.data.toList.length := by rw [hl]; simp
          have := Go.Proofs.byte_at' s 0 h0 h'
          rw [← this]
          simp [hl]
        have C := Tryd.strings_IndexByte ⟨#[123, 125, 40, 41, 91, 93, 44, 59, 36, 43, 45, 42, 47, 37, 46, 60, 62, 33, 126, 61]⟩ (s[0].toNat : Int) W
        have hcc : ((s[0].toNat : Int).toNat.toUInt8) = c := by rw [hc0]; simp
        rw [hcc] at C
        have hi := Lib.contains_iff_indexByte ones c
        have hones : (ByteArray.mk #[123, 125, 40, 41, 91, 93, 44, 59, 36, 43, 45, 42, 47, 37, 46, 60, 62, 33, 126, 61]).data.toList = ones := rfl
        rw [hones] at C
        generalize Lib.indexByte ones c = x at C hi
        cases hb : ones.contains c
        · rw [hb] at hi
          have hx0 : ¬ 0 ≤ x := by simpa using hi.symm
          have E := Lib.hid (mk_no c r hl h2 hb)
          clear hi hb h2 HN hcc hones
          have HL := Lib.hid hl
          clear hl hc0
          have CC := Lib.hid C
          clear C
          go_wp2_with fail
          refine CC.out.mono ?_; rintro e w1 ⟨rfl, rfl⟩
          go_wp2_with fail
          go_ret
          exact ⟨⟨⟨#[]⟩, rfl, fun _ => by rw [F0.out, Lib.toList_data]; exact E.out⟩, hL⟩
        · rw [hb] at hi
          have hx0 : 0 ≤ x := by simpa using hi.symm
          have E := Lib.hid (mk_one c r hl h2 hb)
          have e1 : (s.extract 0 1).toList = [c] := by rw [Lib.toList_data, Lib.extract_data, hl]; rfl
          have E1 := Lib.hid e1
          clear hi hb h2 HN hcc hones e1
          have HL := Lib.hid hl
          clear hl hc0
          have CC := Lib.hid C
          clear C
          go_wp2_with fail
          refine CC.out.mono ?_; rintro e w1 ⟨rfl, rfl⟩
          go_wp2_with fail
          go_ret
          exact ⟨⟨_, rfl, fun _ => by rw [F0.out, E1.out]; exact E.out⟩, hL⟩
      · have h00 : s.size = 0 := by omega
        have hne := toList_none s h00
        clear HN
        go_wp2_with fail
        go_ret
        exact ⟨⟨_, rfl⟩, hL⟩

end Go.Proofs.YtjpefadalinhoaaDoor
