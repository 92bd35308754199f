/- Words for rows of the call's own (Row), for bytes (u8s), for results; small laws on what may have been written. No condition. -/
import Derived.Test.YtalnkdbmbjplpaaMem
namespace Go.Proofs.Ytalnkdbmbjplpaa
open Go.RowKit


/-- The slice value v owns the cells xs, in a block between lo and hi. -/
def Row (w : World) (lo hi : Nat) (e : TypeId) (size : Nat) (v : Value) (n : Nat) (xs : List Value) : Prop := w.ownsRow lo e size v n xs ∧ ∀ k, v.ownBlock = some k → k < hi
section
variable {w w' : World} {lo hi size n : Nat} {e : TypeId} {v : Value} {xs : List Value}
theorem Row.mk (h : w.ownsRow lo e size v n xs) : Row w lo w.heap.size e size v n xs := ⟨h, fun k hk => (h.lt k hk).2⟩
theorem Row.more (h : Row w lo hi e size v n xs) {lo' hi' : Nat} (h1 : lo' ≤ lo) (h2 : hi ≤ hi') : Row w lo' hi' e size v n xs := ⟨own_base h.1 h1, fun k hk => Nat.lt_of_lt_of_le (h.2 k hk) h2⟩
theorem Row.far (h : Row w lo hi e size v n xs) {r : Option Nat} (hg : w.grownBy w' r) (hr : ∀ k, r = some k → k < lo ∨ hi ≤ k) : Row w' lo hi e size v n xs :=
  ⟨h.1.kept hg (by
    cases hv : v.ownBlock with
    | none => exact .inl rfl
    | some k =>
      refine .inr (fun e => ?_)
      have h1 := (h.1.lt k hv).1
      have h2 := h.2 k hv
      rcases hr k e.symm with h3 | h3 <;> omega), h.2⟩
theorem Row.keep (h : Row w lo hi e size v n xs) (hb : Below w.heap.size w w') : Row w' lo hi e size v n xs :=
  h.far (r := none) ⟨hb.os, hb.tape, hb.output, hb.size, fun k hk _ => hb.block k hk⟩ (fun k hk => by cases hk)
theorem Row.form (h : Row w lo hi e size v n xs) : ∃ A c, v = .slice A n c := by
  rcases h.1.2 with ⟨rfl, rfl⟩ | ⟨g, cap, cur, rfl, _⟩
  · exact ⟨_, _, rfl⟩
  · exact ⟨_, _, rfl⟩
theorem Row.cap {A : Option Addr} {c : Nat} (h : Row w lo hi e size (.slice A n c) n xs) : n ≤ c ∧ c ≤ 9223372036854775807 := by
  rcases h.1.2 with ⟨h1, h2⟩ | ⟨g, cap, cur, h1, _, _, h2, h3, _⟩
  · simp only [Value.slice.injEq] at h1
    omega
  · simp only [Value.slice.injEq] at h1
    obtain ⟨_, _, rfl⟩ := h1
    exact ⟨h2, h3⟩
theorem Row.len (h : Row w lo hi e size v n xs) : xs.length = n * size := h.1.1
theorem Row.reads {A : Option Addr} {c : Nat} (h : Row w lo hi e size (.slice A n c) n xs) : Reads w w.heap.size size A n xs := Reads.of_own h.1
theorem Row.grow (h : Row w lo hi e size v n xs) (hg : w.grownBy w' v.ownBlock) {a : World} (hb : Below a.heap.size a w) (hlo : a.heap.size ≤ lo) : Below a.heap.size a w' := hb.grown hg hb.size (fun k hk => Nat.le_trans hlo (h.1.lt k hk).1)
end
def u8s (zs : List Int) : List Value := zs.map (Value.int .u8)
def Byt (zs : List Int) : Prop := ∀ z ∈ zs, 0 ≤ z ∧ z < 256

/-- It hands back a number of which R holds. -/
def RetInt (R : Int → Prop) (e : Ending) : Prop := ∃ x : Int, e = .returned (.int .i64 x) ∧ R x
/-- It hands back new bytes of which R holds. -/
def RetB (R : List Int → Prop) (w : World) (e : Ending) (w' : World) : Prop := ∃ (v : Value) (zs : List Int), e = .returned v ∧ R zs ∧ Byt zs ∧ Row w' w.heap.size w'.heap.size 5 1 v zs.length (u8s zs)
theorem rd_below {w w' : World} {size n : Nat} {A : Option Addr} {xs : List Value} (h : Reads w w.heap.size size A n xs) (hb : Below w.heap.size w w') : Reads w' w'.heap.size size A n xs := (h.below hb).more hb.size
theorem gr_refl (w : World) (r : Option Nat) : w.grownBy w r := ⟨rfl, rfl, rfl, Nat.le_refl _, fun _ _ _ => rfl⟩
theorem gr_trans {a b c : World} {r : Option Nat} (h : a.grownBy b r) (k : b.grownBy c r) : a.grownBy c r :=
  ⟨k.os.trans h.os, k.tape.trans h.tape, k.output.trans h.output, Nat.le_trans h.size k.size, fun i hi hne => (k.block i (Nat.lt_of_lt_of_le hi h.size) hne).trans (h.block i hi hne)⟩
theorem gr_drewN {a w : World} {r : Option Nat} (h : a.grownBy w r) (n : Nat) : a.grownBy (w.drewN n) r := ⟨h.os, h.tape, h.output, h.size, h.block⟩
theorem gr_alloc {a w : World} {r : Option Nat} (h : a.grownBy w r) (o : Obj) : a.grownBy (w.alloc o) r :=
  ⟨h.os, h.tape, h.output, Nat.le_trans h.size (by simp), fun i hi hne => (Below.heap_alloc w o i (Nat.lt_of_lt_of_le hi h.size)).trans (h.block i hi hne)⟩
theorem gr_set {a w : World} {g : Nat} (h : a.grownBy w (some g)) {p : Addr} (hp : p.block = g ∨ a.heap.size ≤ p.block) (u : Value) : a.grownBy (w.setCell p u) (some g) :=
  ⟨h.os, h.tape, h.output, by simpa [World.setCell] using h.size, fun i hi hne => (Below.heap_setCell w p u i (by
    rintro rfl
    rcases hp with hp | hp
    · exact hne (by rw [hp])
    · omega)).trans (h.block i hi hne)⟩
theorem gr_below {a w w1 : World} {r : Option Nat} (h : a.grownBy w r) (k : Below w.heap.size w w1) : a.grownBy w1 r :=
  ⟨k.os.trans h.os, k.tape.trans h.tape, k.output.trans h.output, Nat.le_trans h.size k.size, fun i hi hne => (k.block i (Nat.lt_of_lt_of_le hi h.size)).trans (h.block i hi hne)⟩
theorem bl_gr {a w w1 : World} {r : Option Nat} (h : Below a.heap.size a w) (k : w.grownBy w1 r) (hr : ∀ g, r = some g → a.heap.size ≤ g) : Below a.heap.size a w1 := h.grown k h.size hr

theorem own_gr {w w' : World} {base size n g : Nat} {e : TypeId} {v : Value} {xs : List Value} (h : w.ownsRow base e size v n xs) (hg : w.grownBy w' (some g)) (hne : g < base) : w'.ownsRow base e size v n xs :=
  h.kept hg (by
    cases hv : v.ownBlock with
    | none => exact .inl rfl
    | some k => have := (h.lt k hv).1; exact .inr (by simp; omega))
theorem info_u8 : (Try.prog.info? 5).map (fun i => (i.zero, i.size, i.bytes)) = some (some (.int .u8 0), 1, 1) := by kernel_rfl
theorem u8s_snoc (zs : List Int) (z : Int) : u8s zs ++ [.int .u8 z] = u8s (zs ++ [z]) := by simp [u8s]
theorem Byt.snoc {zs : List Int} {z : Int} (h : Byt zs) (h0 : 0 ≤ z) (h1 : z < 256) : Byt (zs ++ [z]) := by
  intro x hx
  rcases List.mem_append.1 hx with hx | hx
  · exact h x hx
  · simp at hx; subst hx; exact ⟨h0, h1⟩

end Go.Proofs.Ytalnkdbmbjplpaa
