/- What bytes say as a number with a sign, and when a number's bytes are these bytes: plain laws. No condition. -/
import Derived.Test.YtalnkdbmbjplpaaDoorNumS
import Derived.Test.YtalnkdbmbjplpaaDoorGetU
namespace Go.Proofs.YtalnkdbmbjplpaaDoor
open Go.RowKit

/-- The number that bytes say, the last one with its sign. -/
def decS : List Int → Int
  | [] => 0
  | [c] => if 64 ≤ c then c % 128 - 128 else c % 128
  | c :: d :: r => c % 128 + 128 * decS (d :: r)
/-- All but the last go on, the last one doesn't. -/
def chain : List Int → Prop
  | [] => False
  | [c] => 0 ≤ c ∧ c < 128
  | c :: d :: r => 128 ≤ c ∧ c < 256 ∧ chain (d :: r)
theorem sBf_dec : ∀ (d : List Int) (f : Nat), chain d → (sBf f (decS d)).length = d.length → sBf f (decS d) = d
  | [], _, h, _ => h.elim
  | [c], f, h, _ => by
    obtain ⟨h0, h1⟩ := h
    have e : decS [c] % 128 = c := by unfold decS; split <;> omega
    rw [sBf_done f _ (by unfold decS; split <;> omega) (by unfold decS; split <;> omega), e]
  | c :: d :: r, f, h, hl => by
    obtain ⟨h0, h1, h2⟩ := h
    by_cases hm : -64 ≤ decS (c :: d :: r) ∧ decS (c :: d :: r) < 64
    · rw [sBf_done f _ hm.1 hm.2] at hl
      simp at hl
    · cases f with
      | zero => simp [sBf] at hl
      | succ f =>
        have hmore := sBf_more f (decS (c :: d :: r)) (by omega)
        have e1 : decS (c :: d :: r) = c % 128 + 128 * decS (d :: r) := rfl
        have e2 : decS (c :: d :: r) % 128 + 128 = c := by rw [e1]; omega
        have e3 : decS (c :: d :: r) / 128 = decS (d :: r) := by rw [e1]; omega
        rw [hmore, e2, e3] at hl ⊢
        rw [sBf_dec (d :: r) f h2 (by simpa using hl)]
theorem dec_sBf : ∀ (f : Nat) (m : Int), -(64 * 128 ^ f) ≤ m → m < 64 * 128 ^ f → decS (sBf f m) = m
  | 0, m, h0, h1 => by
    simp at h0 h1
    unfold sBf decS
    split <;> omega
  | f + 1, m, h0, h1 => by
    by_cases hm : -64 ≤ m ∧ m < 64
    · rw [sBf_done _ m hm.1 hm.2]
      unfold decS
      split <;> omega
    · rw [sBf_more f m (by omega)]
      rw [Int.pow_succ] at h0 h1
      have a1 : -(64 * 128 ^ f) ≤ m / 128 := by
        generalize (128 : Int) ^ f = p at *
        omega
      have a2 : m / 128 < 64 * 128 ^ f := by
        generalize (128 : Int) ^ f = p at *
        omega
      have ih := dec_sBf f (m / 128) a1 a2
      have hne : ∃ d r, sBf f (m / 128) = d :: r := by
        cases f with
        | zero => exact ⟨_, _, rfl⟩
        | succ f => unfold sBf; split <;> exact ⟨_, _, rfl⟩
      obtain ⟨d, r, hd⟩ := hne
      rw [hd] at ih ⊢
      show (m % 128 + 128) % 128 + 128 * decS (d :: r) = m
      rw [ih]
      omega
/-- A number's bytes are these just if the number needs no wrapping and has as many. -/
theorem sB_eq_iff (d : List Int) (hd : chain d) : sB (decS d) = d ↔ wrap32 (decS d) = decS d ∧ (sB (decS d)).length = d.length := by
  constructor
  · intro h
    have hb := wrap32_bd (decS d)
    have := dec_sBf 4 (wrap32 (decS d)) (by simp; omega) (by simp; omega)
    have h' : sBf 4 (wrap32 (decS d)) = d := h
    rw [h'] at this
    exact ⟨this.symm, by rw [h]⟩
  · rintro ⟨h1, h2⟩
    unfold sB at h2 ⊢
    rw [h1] at h2 ⊢
    exact sBf_dec d 4 hd h2

/-- The value of bytes that go on. -/
def valp : List Int → Int
  | [] => 0
  | c :: r => c % 128 + 128 * valp r
theorem decS_app : ∀ (l : List Int) (c : Int), decS (l ++ [c]) = valp l + 128 ^ l.length * decS [c]
  | [], c => by simp [valp]
  | x :: r, c => by
    have ih := decS_app r c
    have hne : ∃ d t, r ++ [c] = d :: t := by cases r with | nil => exact ⟨_, _, rfl⟩ | cons a b => exact ⟨_, _, rfl⟩
    obtain ⟨d, t, hd⟩ := hne
    rw [hd] at ih
    rw [List.cons_append, hd]
    show x % 128 + 128 * decS (d :: t) = x % 128 + 128 * valp r + 128 ^ (r.length + 1) * decS [c]
    rw [ih, Int.pow_succ, Int.mul_add, Int.mul_comm (128 ^ r.length) 128, Int.mul_assoc]
    omega
theorem valp_app (l : List Int) (c : Int) : valp (l ++ [c]) = valp l + c % 128 * 128 ^ l.length := by
  induction l with
  | nil => simp [valp]
  | cons x r ih =>
    rw [List.cons_append]
    show x % 128 + 128 * valp (r ++ [c]) = x % 128 + 128 * valp r + c % 128 * 128 ^ (r.length + 1)
    rw [ih, Int.pow_succ, Int.mul_add, ← Int.mul_assoc (c % 128), Int.mul_comm (c % 128 * 128 ^ r.length) 128]
    omega
theorem chain_app : ∀ (l : List Int) (c : Int), (∀ z ∈ l, 128 ≤ z ∧ z < 256) → 0 ≤ c → c < 128 → chain (l ++ [c])
  | [], c, _, h0, h1 => ⟨h0, h1⟩
  | x :: r, c, h, h0, h1 => by
    have ih := chain_app r c (fun z hz => h z (List.mem_cons_of_mem _ hz)) h0 h1
    have hne : ∃ d t, r ++ [c] = d :: t := by cases r with | nil => exact ⟨_, _, rfl⟩ | cons a b => exact ⟨_, _, rfl⟩
    obtain ⟨d, t, hd⟩ := hne
    rw [List.cons_append]
    rw [hd] at ih ⊢
    have := h x List.mem_cons_self
    exact ⟨this.1, this.2, ih⟩

/-- What is read as a number with a sign, from the i-th byte on; l: the bytes ahead of it. -/
def gS (zs : List Int) (a : Nat) : Nat → List Int → Option (Int × Int)
  | 0, _ => none
  | f + 1, l => match zs[a + l.length]? with
    | none => none
    | some c =>
      if c < 128 then (if wrap32 (decS (l ++ [c])) = decS (l ++ [c]) ∧ (sB (decS (l ++ [c]))).length = l.length + 1 then some (decS (l ++ [c]), (a : Int) + l.length + 1) else none)
      else gS zs a f (l ++ [c])
def getS (zs : List Int) (p : Int) : Option (Int × Int) := if 0 ≤ p ∧ p < zs.length then gS zs p.toNat 5 [] else none
theorem gS_end (zs : List Int) (a : Nat) (l : List Int) (f : Nat) (h : ¬ a + l.length < zs.length) : gS zs a f l = none := by
  cases f with
  | zero => rfl
  | succ f => rw [gS, List.getElem?_eq_none (by omega)]
theorem gS_last (zs : List Int) (a : Nat) (l : List Int) (f : Nat) (h : a + l.length < zs.length) (hc : zs[a + l.length] < 128) :
    gS zs a (f + 1) l = if wrap32 (decS (l ++ [zs[a + l.length]])) = decS (l ++ [zs[a + l.length]]) ∧ (sB (decS (l ++ [zs[a + l.length]]))).length = l.length + 1 then some (decS (l ++ [zs[a + l.length]]), (a : Int) + l.length + 1) else none := by
  rw [gS, List.getElem?_eq_getElem h]
  simp only [if_pos hc]
theorem gS_on (zs : List Int) (a : Nat) (l : List Int) (f : Nat) (h : a + l.length < zs.length) (hc : 128 ≤ zs[a + l.length]) : gS zs a (f + 1) l = gS zs a f (l ++ [zs[a + l.length]]) := by
  rw [gS, List.getElem?_eq_getElem h]
  simp only [if_neg (show ¬ zs[a + l.length] < 128 by omega)]

/-- What the loop keeps: the bytes ahead, and what they say. -/
def SPre (zs : List Int) (a i : Nat) (n : Int) (l : List Int) : Prop := l.length = i ∧ l = (zs.drop a).take i ∧ (∀ z ∈ l, 128 ≤ z ∧ z < 256) ∧ valp l = n
theorem SPre.start (zs : List Int) (a : Nat) : SPre zs a 0 0 [] := ⟨rfl, by simp, (fun _ h => by cases h), rfl⟩
theorem SPre.on {zs : List Int} {a i : Nat} {n : Int} {l : List Int} (h : SPre zs a i n l) (hlt : a + i < zs.length) (h0 : 128 ≤ zs[a + i]) (h1 : zs[a + i] < 256) : SPre zs a (i + 1) (n + zs[a + i] % 128 * 128 ^ i) (l ++ [zs[a + i]]) := by
  obtain ⟨e1, e2, e3, e4⟩ := h
  refine ⟨by simp [e1], ?_, ?_, by rw [valp_app, e4, e1]⟩
  · rw [List.take_succ_eq_append_getElem (by rw [List.length_drop]; omega), ← e2, List.getElem_drop]
  · intro z hz
    rcases List.mem_append.1 hz with hz | hz
    · exact e3 z hz
    · simp at hz; subst hz; exact ⟨h0, h1⟩
theorem SPre.cut {zs : List Int} {a i : Nat} {n : Int} {l : List Int} (h : SPre zs a i n l) (hlt : a + i < zs.length) : (zs.drop a).take (i + 1) = l ++ [zs[a + i]] := by
  rw [List.take_succ_eq_append_getElem (by rw [List.length_drop]; omega), ← h.2.1, List.getElem_drop]
theorem SPre.dec {zs : List Int} {a i : Nat} {n : Int} {l : List Int} (h : SPre zs a i n l) (c : Int) : decS (l ++ [c]) = n + 128 ^ i * (if 64 ≤ c then c % 128 - 128 else c % 128) := by
  obtain ⟨e1, _, _, e4⟩ := h
  rw [decS_app, e4, e1]
  rfl

end Go.Proofs.YtalnkdbmbjplpaaDoor
