/- Walks over Replace, the program's and the reference's. -/
import Derived.Test.YtdfcgnbklnceiaaEndsL
import Derived.Test.YtdfcgnbklnceiaaConv
import Derived.Lib.AppendStr
import Derived.Lib.Strings
namespace Go.Proofs.Ytdfcgnbklnceiaa
open Go.RowKit

/-- The bytes of a text, as numbers. -/
def txI (s : ByteArray) : List Int := s.data.toList.map fun b => (b.toNat : Int)
theorem txI_len (s : ByteArray) : (txI s).length = s.size := by unfold txI; rw [List.length_map, Array.length_toList]; rfl
theorem txI_byt (s : ByteArray) : Byt (txI s) := by
  intro z hz
  obtain ⟨b, _, rfl⟩ := List.mem_map.1 hz
  have := b.toNat_lt
  omega
theorem txI_cells (s : ByteArray) : Lib.strCells s = u8s (txI s) := by unfold Lib.strCells u8s txI; rw [List.map_map]; rfl
theorem u8s_join (a b : List Int) : u8s a ++ u8s b = u8s (a ++ b) := by simp [u8s]
theorem txI_app (a b : ByteArray) : txI (a ++ b) = txI a ++ txI b := by unfold txI; rw [ByteArray.data_append, Array.toList_append, List.map_append]
theorem bStr_txI (s : ByteArray) : bStr (txI s) = s := by
  unfold bStr txI
  rw [List.map_map]
  have h : (s.data.toList.map ((fun n : Int => UInt8.ofNat n.toNat) ∘ fun b : UInt8 => (b.toNat : Int))) = s.data.toList := by
    conv => rhs; rw [← List.map_id s.data.toList]
    apply List.map_congr_left
    intro b _
    simp
  rw [h]
theorem txI_at (s : ByteArray) {i : Nat} (hi : i < s.size) : txI (s.extract i (i + 1)) = [(s[i].toNat : Int)] := by
  have hl : (txI (s.extract i (i + 1))).length = 1 := by rw [txI_len, ByteArray.size_extract]; omega
  obtain ⟨x, hx⟩ := List.length_eq_one_iff.1 hl
  rw [hx]
  have h0 : (s.extract i (i + 1)).size = 1 := by rw [ByteArray.size_extract]; omega
  have h1 : (txI (s.extract i (i + 1)))[0]? = some (((s.extract i (i + 1))[0]'(by omega)).toNat : Int) := by
    unfold txI
    rw [List.getElem?_map, List.getElem?_eq_getElem (by rw [Array.length_toList]; show 0 < (s.extract i (i + 1)).size; omega)]
    rfl
  rw [hx, ByteArray.getElem_extract] at h1
  simp only [List.getElem?_cons_zero, Option.some.injEq, Nat.add_zero] at h1
  rw [h1]
theorem ext_end (s : ByteArray) {a : Nat} (h : s.size ≤ a) (x : ByteArray) : x ++ s.extract a (a + 1) = x := by
  have h0 : (s.extract a (a + 1)).size = 0 := by rw [ByteArray.size_extract]; omega
  rw [ByteArray.size_eq_zero_iff.1 h0, ByteArray.append_empty]
/-- What replacing gives: E a: where what begins at a may end; n so far; f rounds at most. -/
def rpl (E : Nat → List Nat) (s t : ByteArray) (all : Bool) : Nat → Nat → Nat → ByteArray → ByteArray × Nat
  | 0, _, n, x => (x, n)
  | f + 1, a, n, x =>
    if s.size < a then (x, n)
    else if (all || n == 0) = true ∧ (E a).length ≠ 0 then
      (if a < (E a).getLastD 0 then rpl E s t all f ((E a).getLastD 0) (n + 1) (x ++ t) else rpl E s t all f (a + 1) (n + 1) (x ++ t ++ s.extract a (a + 1)))
    else rpl E s t all f (a + 1) n (x ++ s.extract a (a + 1))
section
variable {E : Nat → List Nat} {s t : ByteArray} {all : Bool} {f a n : Nat} {x : ByteArray} {R : ByteArray × Nat}
theorem rpl_end (h : s.size < a) (hR : rpl E s t all f a n x = R) : R = (x, n) := by
  cases f with
  | zero => exact hR.symm
  | succ f => rw [rpl, if_pos h] at hR; exact hR.symm
theorem rpl_no (h : ¬ s.size < a) (hc : ¬ ((all || n == 0) = true ∧ (E a).length ≠ 0)) (hR : rpl E s t all (f + 1) a n x = R) : rpl E s t all f (a + 1) n (x ++ s.extract a (a + 1)) = R := by
  rw [rpl, if_neg h, if_neg hc] at hR; exact hR
theorem rpl_far (h : ¬ s.size < a) (hc : (all || n == 0) = true ∧ (E a).length ≠ 0) (hl : a < (E a).getLastD 0) (hR : rpl E s t all (f + 1) a n x = R) : rpl E s t all f ((E a).getLastD 0) (n + 1) (x ++ t) = R := by
  rw [rpl, if_neg h, if_pos hc, if_pos hl] at hR; exact hR
theorem rpl_here (h : ¬ s.size < a) (hc : (all || n == 0) = true ∧ (E a).length ≠ 0) (hl : ¬ a < (E a).getLastD 0) (hR : rpl E s t all (f + 1) a n x = R) : rpl E s t all f (a + 1) (n + 1) (x ++ t ++ s.extract a (a + 1)) = R := by
  rw [rpl, if_neg h, if_pos hc, if_neg hl] at hR; exact hR
end
/-- What Replace gives. -/
noncomputable def replO (zk : Int) (zs : ByteArray) (kids : Fr (Int × ByteArray)) (s t : ByteArray) (all : Bool) : ByteArray × Nat :=
  if rexB zk zs kids = true ∧ s.size ≤ 200 ∧ t.size ≤ 200 then rpl (fun i => rowI (endV zk zs kids s i) (s.size + 1)) s t all (s.size + 1) 0 0 ⟨#[]⟩ else (s, 0)
theorem replO_no {zk : Int} {zs : ByteArray} {kids : Fr (Int × ByteArray)} {s t : ByteArray} {all : Bool} (h : ¬ (rexB zk zs kids = true ∧ s.size ≤ 200 ∧ t.size ≤ 200)) : replO zk zs kids s t all = (s, 0) := if_neg h
theorem replO_yes {zk : Int} {zs : ByteArray} {kids : Fr (Int × ByteArray)} {s t : ByteArray} {all : Bool} (h : rexB zk zs kids = true) (h1 : s.size ≤ 200) (h2 : t.size ≤ 200) : replO zk zs kids s t all = rpl (fun i => rowI (endV zk zs kids s i) (s.size + 1)) s t all (s.size + 1) 0 0 ⟨#[]⟩ := if_pos ⟨h, h1, h2⟩
theorem end_last {zk : Int} {zs : ByteArray} {kids : Fr (Int × ByteArray)} {s : ByteArray} {a : Nat} (ha : a ≤ s.size) (h : (rowI (endV zk zs kids s a) (s.size + 1)).length ≠ 0) : a ≤ (rowI (endV zk zs kids s a) (s.size + 1)).getLastD 0 ∧ (rowI (endV zk zs kids s a) (s.size + 1)).getLastD 0 ≤ s.size := by
  have h1 := last_at h
  have h2 := List.mem_of_getElem? h1
  generalize (rowI (endV zk zs kids s a) (s.size + 1)).getLastD 0 = y at h2
  have h3 := List.mem_filter.1 h2
  have h4 := bof_iff.1 h3.2
  have h5 := fwd_of s zk zs kids a y (by omega) h4
  omega

set_option maxRecDepth 20000 in
set_option maxHeartbeats 16000000 in
theorem sRepl (zk : Int) (zs : ByteArray) (kids : Fr (Int × ByteArray)) (A : Option Addr) (c : Nat) (s t : ByteArray) (all : Bool) (w : World) (hl : kids.size ≤ 1048576) (hz : zs.size ≤ 1048576) (hq : FrOk qSmall kids) (hw : zs.size + wt gRex kids ≤ 1048576) (hs : s.size ≤ 1048576) (ht : t.size ≤ 1048576) (hS : Sl rexC w 0 w.heap.size A kids) :
    Calls Try.prog 12 #[.agg #[.int .i64 zk, .string zs, .slice A kids.len c], .string s, .string t, .bool all] w fun e w' => e = .returned (.tuple #[.string (replO zk zs kids s t all).1, .int .i64 (replO zk zs kids s t all).2]) ∧ Below w.heap.size w w' := by
  have B := Blk.new w 30 #[.int .i64 zk, .string zs, .slice A kids.len c]
  have L0 := bl_alloc (Below.refl w.heap.size w) (.cells #[.int .i64 zk, .string zs, .slice A kids.len c] 30)
  have C := sRexOk zk zs kids A c _ hl hz hq ((hS.below L0 (Nat.le_refl _)).more (Nat.le_refl _) L0.size)
  cases hb : rexB zk zs kids
  · rw [hb] at C
    have CC := Lib.hid C
    clear C
    rw [replO_no (fun h => by rw [hb] at h; exact absurd h.1 Bool.false_ne_true)]
    clear hb
    go_enter Try.func12, Try.ntmps12
    go_wp2_with fail
    refine CC.out.mono ?_; rintro e w1 ⟨rfl, b1⟩
    have L1 := bl_trans L0 b1
    have B1 := Blk.keep B b1
    have pB := B1.cell
    go_wp2_with fail
    go_ret2
    exact ⟨rfl, L1⟩
  rw [hb] at C
  have CC := Lib.hid C
  clear C
  by_cases h2 : s.size ≤ 200
  case neg =>
    rw [replO_no (fun h => h2 h.2.1)]
    have h3 : (200 : Int) < (s.size : Int) := by omega
    clear hb
    go_enter Try.func12, Try.ntmps12
    go_wp2_with fail
    refine CC.out.mono ?_; rintro e w1 ⟨rfl, b1⟩
    have L1 := bl_trans L0 b1
    have B1 := Blk.keep B b1
    have pB := B1.cell
    go_wp2_with fail
    go_ret2
    exact ⟨rfl, L1⟩
  have h3 : ¬ (200 : Int) < (s.size : Int) := by omega
  by_cases h4 : t.size ≤ 200
  case neg =>
    rw [replO_no (fun h => h4 h.2.2)]
    have h5 : (200 : Int) < (t.size : Int) := by omega
    clear hb
    go_enter Try.func12, Try.ntmps12
    go_wp2_with fail
    refine CC.out.mono ?_; rintro e w1 ⟨rfl, b1⟩
    have L1 := bl_trans L0 b1
    have B1 := Blk.keep B b1
    have pB := B1.cell
    go_wp2_with fail
    go_ret2
    exact ⟨rfl, L1⟩
  have h5 : ¬ (200 : Int) < (t.size : Int) := by omega
  rw [replO_yes hb h2 h4]
  obtain ⟨r1, r2⟩ := rexB_okR hb
  have hEL := fun (a : Nat) (ha : a ≤ s.size) h => end_last (zk := zk) (zs := zs) (kids := kids) (s := s) (a := a) ha h
  obtain ⟨m, hm0⟩ : ∃ m, s.size + 1 = m := ⟨_, rfl⟩
  have hm := Lib.hid hm0
  have hm1 : s.size < m := by omega
  have hm2 : m ≤ s.size + 1 := by omega
  rw [hm0] at hEL
  rw [hm0]
  clear hm0 hb
  obtain ⟨R, hR⟩ : ∃ R, rpl (fun i => rowI (endV zk zs kids s i) m) s t all m 0 0 ⟨#[]⟩ = R := ⟨_, rfl⟩
  rw [hR]
  have HR := Lib.hid hR
  clear hR
  have hmm : m ≤ 1048577 := by omega
  have CA := Lib.hid fun w hS => sAll_any s m hm hs kids.size kids (Nat.le_refl _) hl zk zs A c w r1 r2 hw hS
  clear r1 r2
  go_enter Try.func12, Try.ntmps12
  go_wp2_with fail
  refine CC.out.mono ?_; rintro e w1 ⟨rfl, b1⟩
  have L1 := bl_trans L0 b1
  have B1 := Blk.keep B b1
  have pB := B1.cell
  go_wp2_with fail
  refine (CA.out _ ((hS.below L1 (Nat.le_refl _)).more (Nat.le_refl _) L1.size)).mono ?_; rintro e w2 ⟨⟨v, g, M, rfl, hM, hI⟩, b2⟩
  have L2 := bl_trans L1 b2
  have s2 := L2.size
  obtain ⟨b, c', rfl, _, _, _⟩ := hM.form (by omega)
  have HE := Lib.hid (show ∀ i, i < m → rowI (M i) m = rowI (endV zk zs kids s i) m from fun i hi => rowI_congr fun j hj => eq_bof (hI i j hi hj))
  clear hI pB
  go_wp2_with fail
  go_loopw [10, 11, 12] (fun xv nv av wr => ∃ (a n f : Nat) (x : ByteArray), a ≤ m ∧ xv = .string x ∧ nv = .int .i64 n ∧ av = .int .i64 a ∧ n ≤ a ∧ x.size ≤ a * 201 ∧ s.size + 1 - a ≤ f ∧ Hid (rpl (fun i => rowI (endV zk zs kids s i) m) s t all f a n x = R) ∧ Below w2.heap.size w2 wr) (fun _ _ av _ => m - (intOf av).toNat)
  case atStart => exact ⟨0, 0, m, _, Nat.zero_le _, rfl, rfl, rfl, Nat.le_refl _, Nat.le_refl _, by omega, HR, Below.refl _ _⟩
  case round =>
    obtain ⟨a, n, f, x, ha, rfl, rfl, rfl, hna, hx, hf, H, hL⟩ := hrel
    have hai : (a : Int) ≤ 1048577 := by omega
    have hni : (n : Int) ≤ 1048577 := by omega
    by_cases hlt : a < m
    · have hle : (a : Int) ≤ (s.size : Int) := by omega
      have hle' : (a : Int) < (m : Int) := by omega
      have hns : ¬ s.size < a := by omega
      obtain ⟨f, rfl⟩ : ∃ g, f = g + 1 := ⟨f - 1, by omega⟩
      have hLs := hL.size
      cases hall : all
      · rw [hall] at H
        cases hn0 : ((n : Int) == 0)
        · have hcond : ¬ ((false || n == 0) = true) := by simp; intro h; subst h; simp at hn0
          have HN := Lib.hid (rpl_no (f := f) hns (fun h => hcond h.1) H.out)
          have hL' := bl_alloc hL (.cells #[] 3)
          clear hcond hall
          by_cases hz : a < s.size
          · have hzi : (a : Int) < (s.size : Int) := by omega
            have z9 : (x ++ s.extract a (a + 1)).size = (x).size + 1 := by rw [ByteArray.size_append, ByteArray.size_extract]; omega
            have ew : IntKind.i64.wrap ((a : Int) + 1) = (a : Int) + 1 := IntWalk.i64_in _ (by omega)
            have e1 : ((a : Int) + 1).toNat = a + 1 := by omega
            have e2 : (a : Int) + 1 ≤ (s.size : Int) := by omega
            have e3 : a + 1 ≤ s.size := by omega
            go_wp2_with fail
            go_roundw
            case rel => exact ⟨a + 1, n, f, _, by omega, rfl, by first | rfl | go_num, by go_num, by omega, by omega, by omega, HN, hL'⟩
            case measure => (simp [intOf] <;> omega)
          · have hzi : ¬ (a : Int) < (s.size : Int) := by omega
            have he := ext_end s (a := a) (by omega) (x)
            have h9 := (HN).out
            rw [he] at h9
            have HN2 := Lib.hid h9
            clear he h9
            go_wp2_with fail
            go_roundw
            case rel => exact ⟨a + 1, n, f, _, by omega, rfl, by first | rfl | go_num, by go_num, by omega, by omega, by omega, HN2, hL'⟩
            case measure => (simp [intOf] <;> omega)
        · have hcond : (false || n == 0) = true := by have := beq_iff_eq.1 hn0; simp; omega
          clear hall
          have hL' := bl_alloc hL (.cells #[] 3)
          have hMr := hM.keep hL'
          have p1 := hMr.row hlt
          have CR := sRow _ m m (M a) (wr.alloc (.cells #[] 3)) hmm (hMr.2.1 a hlt).reads
          rw [HE.out a hlt] at CR
          have hEa := hEL a (by omega)
          have hget := fun h => last_at (l := rowI (endV zk zs kids s a) m) h
          have hlen := rowI_len (endV zk zs kids s a) m
          skip
          obtain ⟨X, hX⟩ : ∃ X, rowI (endV zk zs kids s a) m = X := ⟨_, rfl⟩
          rw [hX] at CR hEa hget hlen
          have HX := Lib.hid hX
          clear hX
          have CRR := Lib.hid CR
          clear CR
          by_cases h0 : X.length = 0
          · have HN := Lib.hid (rpl_no (f := f) hns (fun h => h.2 (by show (rowI (endV zk zs kids s a) m).length = 0; rw [HX.out]; exact h0)) H.out)
            obtain rfl : X = [] := List.eq_nil_of_length_eq_zero h0
            clear hEa hget h0 hcond
            go_wp2_with fail
            refine CRR.out.mono ?_; rintro e w3 ⟨⟨v, rfl, hO⟩, b3⟩
            have L3 := bl_trans hL' b3
            obtain ⟨Av, cv, rfl⟩ := hO.form
            by_cases hz : a < s.size
            · have hzi : (a : Int) < (s.size : Int) := by omega
              have z9 : (x ++ s.extract a (a + 1)).size = (x).size + 1 := by rw [ByteArray.size_append, ByteArray.size_extract]; omega
              have ew : IntKind.i64.wrap ((a : Int) + 1) = (a : Int) + 1 := IntWalk.i64_in _ (by omega)
              have e1 : ((a : Int) + 1).toNat = a + 1 := by omega
              have e2 : (a : Int) + 1 ≤ (s.size : Int) := by omega
              have e3 : a + 1 ≤ s.size := by omega
              go_wp2_with fail
              go_roundw
              case rel => exact ⟨a + 1, n, f, _, by omega, rfl, by first | rfl | go_num, by go_num, by omega, by omega, by omega, HN, L3⟩
              case measure => (simp [intOf] <;> omega)
            · have hzi : ¬ (a : Int) < (s.size : Int) := by omega
              have he := ext_end s (a := a) (by omega) (x)
              have h9 := (HN).out
              rw [he] at h9
              have HN2 := Lib.hid h9
              clear he h9
              go_wp2_with fail
              go_roundw
              case rel => exact ⟨a + 1, n, f, _, by omega, rfl, by first | rfl | go_num, by go_num, by omega, by omega, by omega, HN2, L3⟩
              case measure => (simp [intOf] <;> omega)
          have hE9 := hEa h0
          have hg9 := hget h0
          clear hEa hget
          have hEr : (rowI (endV zk zs kids s a) m).length ≠ 0 := by rw [HX.out]; exact h0
          have hpos : 0 < X.length := by omega
          have hpos' : (0 : Int) < (X.length : Int) := by omega
          have h63 : (X.length : Int) ≤ 1048577 := by omega
          have ewl : IntKind.i64.wrap ((X.length : Int) - 1) = (X.length : Int) - 1 := IntWalk.i64_in _ (by omega)
          have el1 : ((X.length : Int) - 1).toNat = X.length - 1 := by omega
          have el2 : 0 ≤ (X.length : Int) - 1 := by omega
          have el3 : (X.length : Int) - 1 < (X.length : Int) := by omega
          have el4 : (1 : Int) ≤ (X.length : Int) := by omega
          have el5 : 1 ≤ X.length := by omega
          have z8 : (x ++ t).size = x.size + t.size := ByteArray.size_append
          have hy : (rowI (endV zk zs kids s a) m).getLastD 0 = X.getLastD 0 := by rw [HX.out]
          by_cases hfar : a < X.getLastD 0
          · have HN := rpl_far (f := f) hns ⟨hcond, hEr⟩ (by show a < (rowI (endV zk zs kids s a) m).getLastD 0; rw [hy]; exact hfar) H.out
            simp only [hy] at HN
            have HNN := Lib.hid HN
            clear HN hy hEr hcond
            generalize X.getLastD 0 = y at hE9 hg9 hfar HNN
            have hyi : (a : Int) < (y : Int) := by omega
            go_wp2_with fail
            refine CRR.out.mono ?_; rintro e w3 ⟨⟨v, rfl, hO⟩, b3⟩
            have L3 := bl_trans hL' b3
            obtain ⟨Av, cv, rfl⟩ := hO.form
            obtain ⟨gv, rfl, _, _⟩ := own_blk hO.1 hpos
            have pc : w3.cell? ⟨gv, X.length - 1, none⟩ = some (.int .i64 (y : Int)) := by
              rw [hO.1.cellAt _ (by omega)]
              unfold ints
              rw [List.getElem?_map, hg9]
              rfl
            clear hg9
            go_wp2_with fail
            go_roundw
            case rel => exact ⟨y, n + 1, f, _, by omega, rfl, by go_num, rfl, by omega, by omega, by omega, HNN, L3⟩
            case measure => (simp [intOf] <;> omega)
          · have HN := Lib.hid (rpl_here (f := f) hns ⟨hcond, hEr⟩ (by show ¬ a < (rowI (endV zk zs kids s a) m).getLastD 0; rw [hy]; exact hfar) H.out)
            clear hy hEr hcond
            generalize X.getLastD 0 = y at hE9 hg9 hfar
            have hyi : ¬ (a : Int) < (y : Int) := by omega
            go_wp2_with fail
            refine CRR.out.mono ?_; rintro e w3 ⟨⟨v, rfl, hO⟩, b3⟩
            have L3 := bl_trans hL' b3
            obtain ⟨Av, cv, rfl⟩ := hO.form
            obtain ⟨gv, rfl, _, _⟩ := own_blk hO.1 hpos
            have pc : w3.cell? ⟨gv, X.length - 1, none⟩ = some (.int .i64 (y : Int)) := by
              rw [hO.1.cellAt _ (by omega)]
              unfold ints
              rw [List.getElem?_map, hg9]
              rfl
            clear hg9
            by_cases hz : a < s.size
            · have hzi : (a : Int) < (s.size : Int) := by omega
              have z9 : (x ++ t ++ s.extract a (a + 1)).size = (x ++ t).size + 1 := by rw [ByteArray.size_append, ByteArray.size_extract]; omega
              have ew : IntKind.i64.wrap ((a : Int) + 1) = (a : Int) + 1 := IntWalk.i64_in _ (by omega)
              have e1 : ((a : Int) + 1).toNat = a + 1 := by omega
              have e2 : (a : Int) + 1 ≤ (s.size : Int) := by omega
              have e3 : a + 1 ≤ s.size := by omega
              go_wp2_with fail
              go_roundw
              case rel => exact ⟨a + 1, n + 1, f, _, by omega, rfl, by first | rfl | go_num, by go_num, by omega, by omega, by omega, HN, L3⟩
              case measure => (simp [intOf] <;> omega)
            · have hzi : ¬ (a : Int) < (s.size : Int) := by omega
              have he := ext_end s (a := a) (by omega) (x ++ t)
              have h9 := (HN).out
              rw [he] at h9
              have HN2 := Lib.hid h9
              clear he h9
              go_wp2_with fail
              go_roundw
              case rel => exact ⟨a + 1, n + 1, f, _, by omega, rfl, by first | rfl | go_num, by go_num, by omega, by omega, by omega, HN2, L3⟩
              case measure => (simp [intOf] <;> omega)
      · rw [hall] at H
        have hcond : (true || n == 0) = true := rfl
        clear hall
        have hL' := bl_alloc hL (.cells #[] 3)
        have hMr := hM.keep hL'
        have p1 := hMr.row hlt
        have CR := sRow _ m m (M a) (wr.alloc (.cells #[] 3)) hmm (hMr.2.1 a hlt).reads
        rw [HE.out a hlt] at CR
        have hEa := hEL a (by omega)
        have hget := fun h => last_at (l := rowI (endV zk zs kids s a) m) h
        have hlen := rowI_len (endV zk zs kids s a) m
        skip
        obtain ⟨X, hX⟩ : ∃ X, rowI (endV zk zs kids s a) m = X := ⟨_, rfl⟩
        rw [hX] at CR hEa hget hlen
        have HX := Lib.hid hX
        clear hX
        have CRR := Lib.hid CR
        clear CR
        by_cases h0 : X.length = 0
        · have HN := Lib.hid (rpl_no (f := f) hns (fun h => h.2 (by show (rowI (endV zk zs kids s a) m).length = 0; rw [HX.out]; exact h0)) H.out)
          obtain rfl : X = [] := List.eq_nil_of_length_eq_zero h0
          clear hEa hget h0 hcond
          go_wp2_with fail
          refine CRR.out.mono ?_; rintro e w3 ⟨⟨v, rfl, hO⟩, b3⟩
          have L3 := bl_trans hL' b3
          obtain ⟨Av, cv, rfl⟩ := hO.form
          by_cases hz : a < s.size
          · have hzi : (a : Int) < (s.size : Int) := by omega
            have z9 : (x ++ s.extract a (a + 1)).size = (x).size + 1 := by rw [ByteArray.size_append, ByteArray.size_extract]; omega
            have ew : IntKind.i64.wrap ((a : Int) + 1) = (a : Int) + 1 := IntWalk.i64_in _ (by omega)
            have e1 : ((a : Int) + 1).toNat = a + 1 := by omega
            have e2 : (a : Int) + 1 ≤ (s.size : Int) := by omega
            have e3 : a + 1 ≤ s.size := by omega
            go_wp2_with fail
            go_roundw
            case rel => exact ⟨a + 1, n, f, _, by omega, rfl, by first | rfl | go_num, by go_num, by omega, by omega, by omega, HN, L3⟩
            case measure => (simp [intOf] <;> omega)
          · have hzi : ¬ (a : Int) < (s.size : Int) := by omega
            have he := ext_end s (a := a) (by omega) (x)
            have h9 := (HN).out
            rw [he] at h9
            have HN2 := Lib.hid h9
            clear he h9
            go_wp2_with fail
            go_roundw
            case rel => exact ⟨a + 1, n, f, _, by omega, rfl, by first | rfl | go_num, by go_num, by omega, by omega, by omega, HN2, L3⟩
            case measure => (simp [intOf] <;> omega)
        have hE9 := hEa h0
        have hg9 := hget h0
        clear hEa hget
        have hEr : (rowI (endV zk zs kids s a) m).length ≠ 0 := by rw [HX.out]; exact h0
        have hpos : 0 < X.length := by omega
        have hpos' : (0 : Int) < (X.length : Int) := by omega
        have h63 : (X.length : Int) ≤ 1048577 := by omega
        have ewl : IntKind.i64.wrap ((X.length : Int) - 1) = (X.length : Int) - 1 := IntWalk.i64_in _ (by omega)
        have el1 : ((X.length : Int) - 1).toNat = X.length - 1 := by omega
        have el2 : 0 ≤ (X.length : Int) - 1 := by omega
        have el3 : (X.length : Int) - 1 < (X.length : Int) := by omega
        have el4 : (1 : Int) ≤ (X.length : Int) := by omega
        have el5 : 1 ≤ X.length := by omega
        have z8 : (x ++ t).size = x.size + t.size := ByteArray.size_append
        have hy : (rowI (endV zk zs kids s a) m).getLastD 0 = X.getLastD 0 := by rw [HX.out]
        by_cases hfar : a < X.getLastD 0
        · have HN := rpl_far (f := f) hns ⟨hcond, hEr⟩ (by show a < (rowI (endV zk zs kids s a) m).getLastD 0; rw [hy]; exact hfar) H.out
          simp only [hy] at HN
          have HNN := Lib.hid HN
          clear HN hy hEr hcond
          generalize X.getLastD 0 = y at hE9 hg9 hfar HNN
          have hyi : (a : Int) < (y : Int) := by omega
          go_wp2_with fail
          refine CRR.out.mono ?_; rintro e w3 ⟨⟨v, rfl, hO⟩, b3⟩
          have L3 := bl_trans hL' b3
          obtain ⟨Av, cv, rfl⟩ := hO.form
          obtain ⟨gv, rfl, _, _⟩ := own_blk hO.1 hpos
          have pc : w3.cell? ⟨gv, X.length - 1, none⟩ = some (.int .i64 (y : Int)) := by
            rw [hO.1.cellAt _ (by omega)]
            unfold ints
            rw [List.getElem?_map, hg9]
            rfl
          clear hg9
          go_wp2_with fail
          go_roundw
          case rel => exact ⟨y, n + 1, f, _, by omega, rfl, by go_num, rfl, by omega, by omega, by omega, HNN, L3⟩
          case measure => (simp [intOf] <;> omega)
        · have HN := Lib.hid (rpl_here (f := f) hns ⟨hcond, hEr⟩ (by show ¬ a < (rowI (endV zk zs kids s a) m).getLastD 0; rw [hy]; exact hfar) H.out)
          clear hy hEr hcond
          generalize X.getLastD 0 = y at hE9 hg9 hfar
          have hyi : ¬ (a : Int) < (y : Int) := by omega
          go_wp2_with fail
          refine CRR.out.mono ?_; rintro e w3 ⟨⟨v, rfl, hO⟩, b3⟩
          have L3 := bl_trans hL' b3
          obtain ⟨Av, cv, rfl⟩ := hO.form
          obtain ⟨gv, rfl, _, _⟩ := own_blk hO.1 hpos
          have pc : w3.cell? ⟨gv, X.length - 1, none⟩ = some (.int .i64 (y : Int)) := by
            rw [hO.1.cellAt _ (by omega)]
            unfold ints
            rw [List.getElem?_map, hg9]
            rfl
          clear hg9
          by_cases hz : a < s.size
          · have hzi : (a : Int) < (s.size : Int) := by omega
            have z9 : (x ++ t ++ s.extract a (a + 1)).size = (x ++ t).size + 1 := by rw [ByteArray.size_append, ByteArray.size_extract]; omega
            have ew : IntKind.i64.wrap ((a : Int) + 1) = (a : Int) + 1 := IntWalk.i64_in _ (by omega)
            have e1 : ((a : Int) + 1).toNat = a + 1 := by omega
            have e2 : (a : Int) + 1 ≤ (s.size : Int) := by omega
            have e3 : a + 1 ≤ s.size := by omega
            go_wp2_with fail
            go_roundw
            case rel => exact ⟨a + 1, n + 1, f, _, by omega, rfl, by first | rfl | go_num, by go_num, by omega, by omega, by omega, HN, L3⟩
            case measure => (simp [intOf] <;> omega)
          · have hzi : ¬ (a : Int) < (s.size : Int) := by omega
            have he := ext_end s (a := a) (by omega) (x ++ t)
            have h9 := (HN).out
            rw [he] at h9
            have HN2 := Lib.hid h9
            clear he h9
            go_wp2_with fail
            go_roundw
            case rel => exact ⟨a + 1, n + 1, f, _, by omega, rfl, by first | rfl | go_num, by go_num, by omega, by omega, by omega, HN2, L3⟩
            case measure => (simp [intOf] <;> omega)
    · obtain rfl : a = m := by omega
      have HEE := Lib.hid (rpl_end (by omega) H.out)
      have hgt : ¬ (a : Int) ≤ (s.size : Int) := by omega
      go_wp2_with fail
      go_ret2
      exact ⟨by rw [HEE.out]; rfl, bl_trans L2 hL⟩

set_option maxRecDepth 20000 in
set_option maxHeartbeats 16000000 in
theorem iRepl (zk : Int) (zs : ByteArray) (kids : Fr (Int × ByteArray)) (A : Option Addr) (c : Nat) (s t : ByteArray) (all : Bool) (w : World) (hl : kids.size ≤ 1048576) (hz : zs.size ≤ 1048576) (hq : FrOk qSmall kids) (hw : zs.size + wt gRex kids ≤ 1048576) (hs : s.size ≤ 1048576) (ht : t.size ≤ 1048576) (hS : Sl rexC w 0 w.heap.size A kids) :
    Calls Try.prog 14 #[.agg #[.int .i64 zk, .string zs, .slice A kids.len c], .string s, .string t, .bool all] w fun e w' => e = .returned (.tuple #[.string (replO zk zs kids s t all).1, .int .i64 (replO zk zs kids s t all).2]) ∧ Below w.heap.size w w' := by
  have B := Blk.new w 30 #[.int .i64 zk, .string zs, .slice A kids.len c]
  have L0 := bl_alloc (Below.refl w.heap.size w) (.cells #[.int .i64 zk, .string zs, .slice A kids.len c] 30)
  have C := iRexOk zk zs kids A c _ hl hz hq ((hS.below L0 (Nat.le_refl _)).more (Nat.le_refl _) L0.size)
  cases hb : rexB zk zs kids
  · rw [hb] at C
    have CC := Lib.hid C
    clear C
    rw [replO_no (fun h => by rw [hb] at h; exact absurd h.1 Bool.false_ne_true)]
    clear hb
    go_enter Try.func14, Try.ntmps14
    go_wp2_with fail
    refine CC.out.mono ?_; rintro e w1 ⟨rfl, b1⟩
    have L1 := bl_trans L0 b1
    have B1 := Blk.keep B b1
    have pB := B1.cell
    go_wp2_with fail
    go_ret2
    exact ⟨rfl, L1⟩
  rw [hb] at C
  have CC := Lib.hid C
  clear C
  by_cases h2 : s.size ≤ 200
  case neg =>
    rw [replO_no (fun h => h2 h.2.1)]
    have h3 : (200 : Int) < (s.size : Int) := by omega
    clear hb
    go_enter Try.func14, Try.ntmps14
    go_wp2_with fail
    refine CC.out.mono ?_; rintro e w1 ⟨rfl, b1⟩
    have L1 := bl_trans L0 b1
    have B1 := Blk.keep B b1
    have pB := B1.cell
    go_wp2_with fail
    go_ret2
    exact ⟨rfl, L1⟩
  have h3 : ¬ (200 : Int) < (s.size : Int) := by omega
  by_cases h4 : t.size ≤ 200
  case neg =>
    rw [replO_no (fun h => h4 h.2.2)]
    have h5 : (200 : Int) < (t.size : Int) := by omega
    clear hb
    go_enter Try.func14, Try.ntmps14
    go_wp2_with fail
    refine CC.out.mono ?_; rintro e w1 ⟨rfl, b1⟩
    have L1 := bl_trans L0 b1
    have B1 := Blk.keep B b1
    have pB := B1.cell
    go_wp2_with fail
    go_ret2
    exact ⟨rfl, L1⟩
  have h5 : ¬ (200 : Int) < (t.size : Int) := by omega
  rw [replO_yes hb h2 h4]
  obtain ⟨r1, r2⟩ := rexB_okR hb
  have hEL := fun (a : Nat) (ha : a ≤ s.size) h => end_last (zk := zk) (zs := zs) (kids := kids) (s := s) (a := a) ha h
  obtain ⟨m, hm0⟩ : ∃ m, s.size + 1 = m := ⟨_, rfl⟩
  have hm := Lib.hid hm0
  have hm1 : s.size < m := by omega
  have hm2 : m ≤ s.size + 1 := by omega
  rw [hm0] at hEL
  rw [hm0]
  clear hm0 hb
  obtain ⟨R, hR⟩ : ∃ R, rpl (fun i => rowI (endV zk zs kids s i) m) s t all m 0 0 ⟨#[]⟩ = R := ⟨_, rfl⟩
  rw [hR]
  have HR := Lib.hid hR
  clear hR
  have hmm : m ≤ 1048577 := by omega
  obtain ⟨j0, hj, hy0, hy1, hy2⟩ := info_parts info_u8
  have CF := Lib.hid fun (k : Nat) (hk : k < m) w hS => iFrom zk zs kids A c s k m w hm hl r1 r2 hw hs hk hS
  clear r1 r2
  go_enter Try.func14, Try.ntmps14
  go_wp2_with fail
  refine CC.out.mono ?_; rintro e w1 ⟨rfl, b1⟩
  have L1 := bl_trans L0 b1
  have B1 := Blk.keep B b1
  have pB := B1.cell
  have B1lt := B1.lt
  go_wp2_with fail
  clear pB
  go_loopw [10, 11, 12] (fun xv nv av wr => ∃ (a n f : Nat) (x : ByteArray), a ≤ m ∧ wr.ownsRow w1.heap.size 5 1 xv x.size (u8s (txI x)) ∧ nv = .int .i64 n ∧ av = .int .i64 a ∧ n ≤ a ∧ x.size ≤ a * 201 ∧ s.size + 1 - a ≤ f ∧ Hid (rpl (fun i => rowI (endV zk zs kids s i) m) s t all f a n x = R) ∧ Below w1.heap.size w1 wr) (fun _ _ av _ => m - (intOf av).toNat)
  case atStart => exact ⟨0, 0, m, ⟨#[]⟩, Nat.zero_le _, World.ownsRow_nil _ _ _ _, rfl, rfl, Nat.le_refl _, Nat.le_refl _, by omega, HR, Below.refl _ _⟩
  case round =>
    obtain ⟨a, n, f, x, ha, hX, rfl, rfl, hna, hx, hf, H, hL⟩ := hrel
    have hai : (a : Int) ≤ 1048577 := by omega
    have hni : (n : Int) ≤ 1048577 := by omega
    by_cases hlt : a < m
    · have hle : (a : Int) ≤ (s.size : Int) := by omega
      have hle' : (a : Int) < (m : Int) := by omega
      have hns : ¬ s.size < a := by omega
      obtain ⟨f, rfl⟩ : ∃ g, f = g + 1 := ⟨f - 1, by omega⟩
      obtain ⟨Ax, cx, rfl⟩ := (Row.mk hX).form
      have hLs := hL.size
      have B2 := B1.keep hL
      have pB := B2.cell
      have hLw := bl_trans L1 hL
      cases hall : all
      · rw [hall] at H
        cases hn0 : ((n : Int) == 0)
        · have hcond : ¬ ((false || n == 0) = true) := by simp; intro h; subst h; simp at hn0
          have HN := Lib.hid (rpl_no (f := f) hns (fun h => hcond h.1) H.out)
          clear hcond hall
          by_cases hz : a < s.size
          · have hzi : (a : Int) < (s.size : Int) := by omega
            have hb9 := s[a].toNat_lt
            have hb8 : (s[a].toNat : Int) < 256 := by omega
            have z9 : (x ++ s.extract a (a + 1)).size = (x).size + 1 := by rw [ByteArray.size_append, ByteArray.size_extract]; omega
            have hap := txI_app (x) (s.extract a (a + 1))
            rw [txI_at s hz] at hap
            have HAP := Lib.hid hap
            clear hap
            have Z9 := Lib.hid z9
            have z7 := Nat.le_of_eq z9
            clear z9
            go_wp2_with (at_builtin; refine wpList_push rfl _ _ 34 rfl w1.heap.size 5 j0 (.int .u8 0) 1 1 Try.underlying34 hj hy0 hy1 hy2 rfl (by decide) _ _ _ rfl hX _ rfl rfl rfl (by omega) (by omega) (hL).size ?_)
            intro v9 w9 hO9 hg9
            have L9 := (hL).grown hg9 (hL).size (fun q e => ((hX).lt q e).1)
            go_wp2_with fail
            go_roundw
            case rel => exact ⟨a + 1, n, f, x ++ s.extract a (a + 1), by omega, by rw [HAP.out, Z9.out, ← u8s_snoc]; first | exact hO9 | (rw [z8]; exact hO9), by first | rfl | go_num, by go_num, by omega, by omega, by omega, HN, L9⟩
            case measure => (simp [intOf] <;> omega)
          · have hzi : ¬ (a : Int) < (s.size : Int) := by omega
            have he := ext_end s (a := a) (by omega) (x)
            have h9 := (HN).out
            rw [he] at h9
            have HN2 := Lib.hid h9
            clear he h9
            go_wp2_with fail
            go_roundw
            case rel => exact ⟨a + 1, n, f, x, by omega, hX, by first | rfl | go_num, by go_num, by omega, by omega, by omega, HN2, hL⟩
            case measure => (simp [intOf] <;> omega)
        · have hcond : (false || n == 0) = true := by have := beq_iff_eq.1 hn0; simp; omega
          clear hall
          have CR := CF.out a hlt wr ((hS.below hLw (Nat.le_refl _)).more (Nat.le_refl _) hLw.size)
          have hEa := hEL a (by omega)
          have hget := fun h => last_at (l := rowI (endV zk zs kids s a) m) h
          have hlen := rowI_len (endV zk zs kids s a) m
          obtain ⟨X, hXX⟩ : ∃ X, rowI (endV zk zs kids s a) m = X := ⟨_, rfl⟩
          rw [hXX] at CR hEa hget hlen
          have HX := Lib.hid hXX
          clear hXX
          have CRR := Lib.hid CR
          clear CR
          by_cases h0 : X.length = 0
          · have HN := Lib.hid (rpl_no (f := f) hns (fun h => h.2 (by show (rowI (endV zk zs kids s a) m).length = 0; rw [HX.out]; exact h0)) H.out)
            obtain rfl : X = [] := List.eq_nil_of_length_eq_zero h0
            clear hEa hget h0 hcond
            go_wp2_with fail
            refine CRR.out.mono ?_; rintro e w3 ⟨⟨v, rfl, hO⟩, b3⟩
            have L3 := bl_trans hL b3
            have hX3 := ((Row.mk hX).keep b3).1
            obtain ⟨Av, cv, rfl⟩ := hO.form
            by_cases hz : a < s.size
            · have hzi : (a : Int) < (s.size : Int) := by omega
              have hb9 := s[a].toNat_lt
              have hb8 : (s[a].toNat : Int) < 256 := by omega
              have z9 : (x ++ s.extract a (a + 1)).size = (x).size + 1 := by rw [ByteArray.size_append, ByteArray.size_extract]; omega
              have hap := txI_app (x) (s.extract a (a + 1))
              rw [txI_at s hz] at hap
              have HAP := Lib.hid hap
              clear hap
              have Z9 := Lib.hid z9
              have z7 := Nat.le_of_eq z9
              clear z9
              go_wp2_with (at_builtin; refine wpList_push rfl _ _ 34 rfl w1.heap.size 5 j0 (.int .u8 0) 1 1 Try.underlying34 hj hy0 hy1 hy2 rfl (by decide) _ _ _ rfl hX3 _ rfl rfl rfl (by omega) (by omega) (L3).size ?_)
              intro v9 w9 hO9 hg9
              have L9 := (L3).grown hg9 (L3).size (fun q e => ((hX3).lt q e).1)
              go_wp2_with fail
              go_roundw
              case rel => exact ⟨a + 1, n, f, x ++ s.extract a (a + 1), by omega, by rw [HAP.out, Z9.out, ← u8s_snoc]; first | exact hO9 | (rw [z8]; exact hO9), by first | rfl | go_num, by go_num, by omega, by omega, by omega, HN, L9⟩
              case measure => (simp [intOf] <;> omega)
            · have hzi : ¬ (a : Int) < (s.size : Int) := by omega
              have he := ext_end s (a := a) (by omega) (x)
              have h9 := (HN).out
              rw [he] at h9
              have HN2 := Lib.hid h9
              clear he h9
              go_wp2_with fail
              go_roundw
              case rel => exact ⟨a + 1, n, f, x, by omega, hX3, by first | rfl | go_num, by go_num, by omega, by omega, by omega, HN2, L3⟩
              case measure => (simp [intOf] <;> omega)
          have hE9 := hEa h0
          have hg9 := hget h0
          clear hEa hget
          have hEr : (rowI (endV zk zs kids s a) m).length ≠ 0 := by rw [HX.out]; exact h0
          have hpos : 0 < X.length := by omega
          have hpos' : (0 : Int) < (X.length : Int) := by omega
          have h63 : (X.length : Int) ≤ 1048577 := by omega
          have ewl : IntKind.i64.wrap ((X.length : Int) - 1) = (X.length : Int) - 1 := IntWalk.i64_in _ (by omega)
          have el1 : ((X.length : Int) - 1).toNat = X.length - 1 := by omega
          have el2 : 0 ≤ (X.length : Int) - 1 := by omega
          have el3 : (X.length : Int) - 1 < (X.length : Int) := by omega
          have el4 : (1 : Int) ≤ (X.length : Int) := by omega
          have el5 : 1 ≤ X.length := by omega
          have z8 : (x ++ t).size = x.size + t.size := ByteArray.size_append
          have hy : (rowI (endV zk zs kids s a) m).getLastD 0 = X.getLastD 0 := by rw [HX.out]
          by_cases hfar : a < X.getLastD 0
          · have HN := rpl_far (f := f) hns ⟨hcond, hEr⟩ (by show a < (rowI (endV zk zs kids s a) m).getLastD 0; rw [hy]; exact hfar) H.out
            simp only [hy] at HN
            have HNN := Lib.hid HN
            clear HN hy hEr hcond
            generalize X.getLastD 0 = y at hE9 hg9 hfar HNN
            have hyb : ((y : Int) == (a : Int)) = false := beq_eq_false_iff_ne.2 (by omega)
            go_wp2_with fail
            refine CRR.out.mono ?_; rintro e w3 ⟨⟨v, rfl, hO⟩, b3⟩
            have L3 := bl_trans hL b3
            have hX3 := ((Row.mk hX).keep b3).1
            obtain ⟨Av, cv, rfl⟩ := hO.form
            obtain ⟨gv, rfl, hgv, _⟩ := own_blk hO.1 hpos
            go_wp2_with (at_builtin; refine Lib.wpList_append_own_string _ rfl _ _ 34 9 rfl w1.heap.size 5 j0 Try.underlying34 Try.underlying9 hj hy0 hy1 hy2 _ _ _ rfl hX3 t rfl (by unfold maxLen; omega) (by omega) L3.size ?_)
            intro v5 w5 hO5 hg5 _
            have L5 := L3.grown hg5 L3.size (fun q e => (hX3.lt q e).1)
            have hO5' : w5.ownsRow w1.heap.size 5 1 v5 (x ++ t).size (u8s (txI (x ++ t))) := by
              rw [txI_app, ByteArray.size_append, ← u8s_join, ← txI_cells t]
              exact hO5
            have hR5 : Row w5 _ _ _ _ _ _ _ := ⟨hO.1.kept hg5 (.inr (fun e => own_ne hX3 hO.1 (by decide) (g := gv) rfl e.symm)), hO.2⟩
            have pc : w5.cell? ⟨gv, X.length - 1, none⟩ = some (.int .i64 (y : Int)) := by
              rw [hR5.1.cellAt _ (by omega)]
              unfold ints
              rw [List.getElem?_map, hg9]
              rfl
            clear hO5 hg9 hR5
            go_wp2_with fail
            go_roundw
            case rel => exact ⟨y, n + 1, f, x ++ t, by omega, hO5', by go_num, rfl, by omega, by omega, by omega, HNN, L5⟩
            case measure => (simp [intOf] <;> omega)
          · have HN := Lib.hid (rpl_here (f := f) hns ⟨hcond, hEr⟩ (by show ¬ a < (rowI (endV zk zs kids s a) m).getLastD 0; rw [hy]; exact hfar) H.out)
            clear hy hEr hcond
            have hya : X.getLastD 0 = a := by omega
            rw [hya] at hg9
            clear hE9 hfar hya
            go_wp2_with fail
            refine CRR.out.mono ?_; rintro e w3 ⟨⟨v, rfl, hO⟩, b3⟩
            have L3 := bl_trans hL b3
            have hX3 := ((Row.mk hX).keep b3).1
            obtain ⟨Av, cv, rfl⟩ := hO.form
            obtain ⟨gv, rfl, hgv, _⟩ := own_blk hO.1 hpos
            go_wp2_with (at_builtin; refine Lib.wpList_append_own_string _ rfl _ _ 34 9 rfl w1.heap.size 5 j0 Try.underlying34 Try.underlying9 hj hy0 hy1 hy2 _ _ _ rfl hX3 t rfl (by unfold maxLen; omega) (by omega) L3.size ?_)
            intro v5 w5 hO5 hg5 _
            have L5 := L3.grown hg5 L3.size (fun q e => (hX3.lt q e).1)
            have hO5' : w5.ownsRow w1.heap.size 5 1 v5 (x ++ t).size (u8s (txI (x ++ t))) := by
              rw [txI_app, ByteArray.size_append, ← u8s_join, ← txI_cells t]
              exact hO5
            have hR5 : Row w5 _ _ _ _ _ _ _ := ⟨hO.1.kept hg5 (.inr (fun e => own_ne hX3 hO.1 (by decide) (g := gv) rfl e.symm)), hO.2⟩
            have pc : w5.cell? ⟨gv, X.length - 1, none⟩ = some (.int .i64 (a : Int)) := by
              rw [hR5.1.cellAt _ (by omega)]
              unfold ints
              rw [List.getElem?_map, hg9]
              rfl
            clear hO5 hg9 hR5
            by_cases hz : a < s.size
            · have hzi : (a : Int) < (s.size : Int) := by omega
              have hb9 := s[a].toNat_lt
              have hb8 : (s[a].toNat : Int) < 256 := by omega
              have z9 : (x ++ t ++ s.extract a (a + 1)).size = (x ++ t).size + 1 := by rw [ByteArray.size_append, ByteArray.size_extract]; omega
              have hap := txI_app (x ++ t) (s.extract a (a + 1))
              rw [txI_at s hz] at hap
              have HAP := Lib.hid hap
              clear hap
              have Z9 := Lib.hid z9
              have z7 := Nat.le_of_eq z9
              clear z9
              go_wp2_with (at_builtin; refine wpList_push rfl _ _ 34 rfl w1.heap.size 5 j0 (.int .u8 0) 1 1 Try.underlying34 hj hy0 hy1 hy2 rfl (by decide) _ _ _ rfl hO5' _ rfl rfl rfl (by omega) (by omega) (L5).size ?_)
              intro v9 w9 hO9 hg9
              have L9 := (L5).grown hg9 (L5).size (fun q e => ((hO5').lt q e).1)
              go_wp2_with fail
              go_roundw
              case rel => exact ⟨a + 1, n + 1, f, x ++ t ++ s.extract a (a + 1), by omega, by rw [HAP.out, Z9.out, ← u8s_snoc]; first | exact hO9 | (rw [z8]; exact hO9), by first | rfl | go_num, by go_num, by omega, by omega, by omega, HN, L9⟩
              case measure => (simp [intOf] <;> omega)
            · have hzi : ¬ (a : Int) < (s.size : Int) := by omega
              have he := ext_end s (a := a) (by omega) (x ++ t)
              have h9 := (HN).out
              rw [he] at h9
              have HN2 := Lib.hid h9
              clear he h9
              go_wp2_with fail
              go_roundw
              case rel => exact ⟨a + 1, n + 1, f, x ++ t, by omega, hO5', by first | rfl | go_num, by go_num, by omega, by omega, by omega, HN2, L5⟩
              case measure => (simp [intOf] <;> omega)
      · rw [hall] at H
        have hcond : (true || n == 0) = true := rfl
        clear hall
        have CR := CF.out a hlt wr ((hS.below hLw (Nat.le_refl _)).more (Nat.le_refl _) hLw.size)
        have hEa := hEL a (by omega)
        have hget := fun h => last_at (l := rowI (endV zk zs kids s a) m) h
        have hlen := rowI_len (endV zk zs kids s a) m
        obtain ⟨X, hXX⟩ : ∃ X, rowI (endV zk zs kids s a) m = X := ⟨_, rfl⟩
        rw [hXX] at CR hEa hget hlen
        have HX := Lib.hid hXX
        clear hXX
        have CRR := Lib.hid CR
        clear CR
        by_cases h0 : X.length = 0
        · have HN := Lib.hid (rpl_no (f := f) hns (fun h => h.2 (by show (rowI (endV zk zs kids s a) m).length = 0; rw [HX.out]; exact h0)) H.out)
          obtain rfl : X = [] := List.eq_nil_of_length_eq_zero h0
          clear hEa hget h0 hcond
          go_wp2_with fail
          refine CRR.out.mono ?_; rintro e w3 ⟨⟨v, rfl, hO⟩, b3⟩
          have L3 := bl_trans hL b3
          have hX3 := ((Row.mk hX).keep b3).1
          obtain ⟨Av, cv, rfl⟩ := hO.form
          by_cases hz : a < s.size
          · have hzi : (a : Int) < (s.size : Int) := by omega
            have hb9 := s[a].toNat_lt
            have hb8 : (s[a].toNat : Int) < 256 := by omega
            have z9 : (x ++ s.extract a (a + 1)).size = (x).size + 1 := by rw [ByteArray.size_append, ByteArray.size_extract]; omega
            have hap := txI_app (x) (s.extract a (a + 1))
            rw [txI_at s hz] at hap
            have HAP := Lib.hid hap
            clear hap
            have Z9 := Lib.hid z9
            have z7 := Nat.le_of_eq z9
            clear z9
            go_wp2_with (at_builtin; refine wpList_push rfl _ _ 34 rfl w1.heap.size 5 j0 (.int .u8 0) 1 1 Try.underlying34 hj hy0 hy1 hy2 rfl (by decide) _ _ _ rfl hX3 _ rfl rfl rfl (by omega) (by omega) (L3).size ?_)
            intro v9 w9 hO9 hg9
            have L9 := (L3).grown hg9 (L3).size (fun q e => ((hX3).lt q e).1)
            go_wp2_with fail
            go_roundw
            case rel => exact ⟨a + 1, n, f, x ++ s.extract a (a + 1), by omega, by rw [HAP.out, Z9.out, ← u8s_snoc]; first | exact hO9 | (rw [z8]; exact hO9), by first | rfl | go_num, by go_num, by omega, by omega, by omega, HN, L9⟩
            case measure => (simp [intOf] <;> omega)
          · have hzi : ¬ (a : Int) < (s.size : Int) := by omega
            have he := ext_end s (a := a) (by omega) (x)
            have h9 := (HN).out
            rw [he] at h9
            have HN2 := Lib.hid h9
            clear he h9
            go_wp2_with fail
            go_roundw
            case rel => exact ⟨a + 1, n, f, x, by omega, hX3, by first | rfl | go_num, by go_num, by omega, by omega, by omega, HN2, L3⟩
            case measure => (simp [intOf] <;> omega)
        have hE9 := hEa h0
        have hg9 := hget h0
        clear hEa hget
        have hEr : (rowI (endV zk zs kids s a) m).length ≠ 0 := by rw [HX.out]; exact h0
        have hpos : 0 < X.length := by omega
        have hpos' : (0 : Int) < (X.length : Int) := by omega
        have h63 : (X.length : Int) ≤ 1048577 := by omega
        have ewl : IntKind.i64.wrap ((X.length : Int) - 1) = (X.length : Int) - 1 := IntWalk.i64_in _ (by omega)
        have el1 : ((X.length : Int) - 1).toNat = X.length - 1 := by omega
        have el2 : 0 ≤ (X.length : Int) - 1 := by omega
        have el3 : (X.length : Int) - 1 < (X.length : Int) := by omega
        have el4 : (1 : Int) ≤ (X.length : Int) := by omega
        have el5 : 1 ≤ X.length := by omega
        have z8 : (x ++ t).size = x.size + t.size := ByteArray.size_append
        have hy : (rowI (endV zk zs kids s a) m).getLastD 0 = X.getLastD 0 := by rw [HX.out]
        by_cases hfar : a < X.getLastD 0
        · have HN := rpl_far (f := f) hns ⟨hcond, hEr⟩ (by show a < (rowI (endV zk zs kids s a) m).getLastD 0; rw [hy]; exact hfar) H.out
          simp only [hy] at HN
          have HNN := Lib.hid HN
          clear HN hy hEr hcond
          generalize X.getLastD 0 = y at hE9 hg9 hfar HNN
          have hyb : ((y : Int) == (a : Int)) = false := beq_eq_false_iff_ne.2 (by omega)
          go_wp2_with fail
          refine CRR.out.mono ?_; rintro e w3 ⟨⟨v, rfl, hO⟩, b3⟩
          have L3 := bl_trans hL b3
          have hX3 := ((Row.mk hX).keep b3).1
          obtain ⟨Av, cv, rfl⟩ := hO.form
          obtain ⟨gv, rfl, hgv, _⟩ := own_blk hO.1 hpos
          go_wp2_with (at_builtin; refine Lib.wpList_append_own_string _ rfl _ _ 34 9 rfl w1.heap.size 5 j0 Try.underlying34 Try.underlying9 hj hy0 hy1 hy2 _ _ _ rfl hX3 t rfl (by unfold maxLen; omega) (by omega) L3.size ?_)
          intro v5 w5 hO5 hg5 _
          have L5 := L3.grown hg5 L3.size (fun q e => (hX3.lt q e).1)
          have hO5' : w5.ownsRow w1.heap.size 5 1 v5 (x ++ t).size (u8s (txI (x ++ t))) := by
            rw [txI_app, ByteArray.size_append, ← u8s_join, ← txI_cells t]
            exact hO5
          have hR5 : Row w5 _ _ _ _ _ _ _ := ⟨hO.1.kept hg5 (.inr (fun e => own_ne hX3 hO.1 (by decide) (g := gv) rfl e.symm)), hO.2⟩
          have pc : w5.cell? ⟨gv, X.length - 1, none⟩ = some (.int .i64 (y : Int)) := by
            rw [hR5.1.cellAt _ (by omega)]
            unfold ints
            rw [List.getElem?_map, hg9]
            rfl
          clear hO5 hg9 hR5
          go_wp2_with fail
          go_roundw
          case rel => exact ⟨y, n + 1, f, x ++ t, by omega, hO5', by go_num, rfl, by omega, by omega, by omega, HNN, L5⟩
          case measure => (simp [intOf] <;> omega)
        · have HN := Lib.hid (rpl_here (f := f) hns ⟨hcond, hEr⟩ (by show ¬ a < (rowI (endV zk zs kids s a) m).getLastD 0; rw [hy]; exact hfar) H.out)
          clear hy hEr hcond
          have hya : X.getLastD 0 = a := by omega
          rw [hya] at hg9
          clear hE9 hfar hya
          go_wp2_with fail
          refine CRR.out.mono ?_; rintro e w3 ⟨⟨v, rfl, hO⟩, b3⟩
          have L3 := bl_trans hL b3
          have hX3 := ((Row.mk hX).keep b3).1
          obtain ⟨Av, cv, rfl⟩ := hO.form
          obtain ⟨gv, rfl, hgv, _⟩ := own_blk hO.1 hpos
          go_wp2_with (at_builtin; refine Lib.wpList_append_own_string _ rfl _ _ 34 9 rfl w1.heap.size 5 j0 Try.underlying34 Try.underlying9 hj hy0 hy1 hy2 _ _ _ rfl hX3 t rfl (by unfold maxLen; omega) (by omega) L3.size ?_)
          intro v5 w5 hO5 hg5 _
          have L5 := L3.grown hg5 L3.size (fun q e => (hX3.lt q e).1)
          have hO5' : w5.ownsRow w1.heap.size 5 1 v5 (x ++ t).size (u8s (txI (x ++ t))) := by
            rw [txI_app, ByteArray.size_append, ← u8s_join, ← txI_cells t]
            exact hO5
          have hR5 : Row w5 _ _ _ _ _ _ _ := ⟨hO.1.kept hg5 (.inr (fun e => own_ne hX3 hO.1 (by decide) (g := gv) rfl e.symm)), hO.2⟩
          have pc : w5.cell? ⟨gv, X.length - 1, none⟩ = some (.int .i64 (a : Int)) := by
            rw [hR5.1.cellAt _ (by omega)]
            unfold ints
            rw [List.getElem?_map, hg9]
            rfl
          clear hO5 hg9 hR5
          by_cases hz : a < s.size
          · have hzi : (a : Int) < (s.size : Int) := by omega
            have hb9 := s[a].toNat_lt
            have hb8 : (s[a].toNat : Int) < 256 := by omega
            have z9 : (x ++ t ++ s.extract a (a + 1)).size = (x ++ t).size + 1 := by rw [ByteArray.size_append, ByteArray.size_extract]; omega
            have hap := txI_app (x ++ t) (s.extract a (a + 1))
            rw [txI_at s hz] at hap
            have HAP := Lib.hid hap
            clear hap
            have Z9 := Lib.hid z9
            have z7 := Nat.le_of_eq z9
            clear z9
            go_wp2_with (at_builtin; refine wpList_push rfl _ _ 34 rfl w1.heap.size 5 j0 (.int .u8 0) 1 1 Try.underlying34 hj hy0 hy1 hy2 rfl (by decide) _ _ _ rfl hO5' _ rfl rfl rfl (by omega) (by omega) (L5).size ?_)
            intro v9 w9 hO9 hg9
            have L9 := (L5).grown hg9 (L5).size (fun q e => ((hO5').lt q e).1)
            go_wp2_with fail
            go_roundw
            case rel => exact ⟨a + 1, n + 1, f, x ++ t ++ s.extract a (a + 1), by omega, by rw [HAP.out, Z9.out, ← u8s_snoc]; first | exact hO9 | (rw [z8]; exact hO9), by first | rfl | go_num, by go_num, by omega, by omega, by omega, HN, L9⟩
            case measure => (simp [intOf] <;> omega)
          · have hzi : ¬ (a : Int) < (s.size : Int) := by omega
            have he := ext_end s (a := a) (by omega) (x ++ t)
            have h9 := (HN).out
            rw [he] at h9
            have HN2 := Lib.hid h9
            clear he h9
            go_wp2_with fail
            go_roundw
            case rel => exact ⟨a + 1, n + 1, f, x ++ t, by omega, hO5', by first | rfl | go_num, by go_num, by omega, by omega, by omega, HN2, L5⟩
            case measure => (simp [intOf] <;> omega)
    · obtain rfl : a = m := by omega
      have HEE := Lib.hid (rpl_end (by omega) H.out)
      have hgt : ¬ (a : Int) ≤ (s.size : Int) := by omega
      obtain ⟨Ax, cx, rfl⟩ := (Row.mk hX).form
      have K := conv_bytes (c := cx) (Reads.of_own hX) (txI_len x) (txI_byt x)
      rw [bStr_txI] at K
      go_wp2_with fail
      go_ret2
      exact ⟨by rw [HEE.out]; rfl, bl_trans L1 hL⟩

end Go.Proofs.Ytdfcgnbklnceiaa
