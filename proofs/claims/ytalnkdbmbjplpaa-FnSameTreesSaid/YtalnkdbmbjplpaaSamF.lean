/- The program's SameProg. -/
import Derived.Test.YtalnkdbmbjplpaaSamD
import Derived.Test.YtalnkdbmbjplpaaP10p
namespace Go.Proofs.Ytalnkdbmbjplpaa
open Go.RowKit

set_option maxRecDepth 20000 in
set_option maxHeartbeats 2000000 in
theorem iProg (AR AF : Option Addr) (cR cF : Nat) (L : List TR) (M : List TF) (AR' AF' : Option Addr) (cR' cF' : Nat) (L' : List TR) (M' : List TF) (w : World) (hB : PBnd L M) (PR : RulP w (fun b => b < w.heap.size) AR L) (PF : FunP w (fun b => b < w.heap.size) AF M) (hB' : PBnd L' M') (PR' : RulP w (fun b => b < w.heap.size) AR' L') (PF' : FunP w (fun b => b < w.heap.size) AF' M') :
    Calls Try.prog 12 #[.agg #[.slice AR L.length cR, .slice AF M.length cF], .agg #[.slice AR' L'.length cR', .slice AF' M'.length cF']] w fun e w' => e = .returned (.bool (sameL rulB L L' && sameL funB M M')) ∧ Below w.heap.size w w' := by
  have L0 := bl_alloc (bl_alloc (Below.refl w.heap.size w) (.cells #[.slice AR L.length cR, .slice AF M.length cF] 37)) (.cells #[.slice AR' L'.length cR', .slice AF' M'.length cF'] 37)
  have B1 := (Blk.new w 37 #[.slice AR L.length cR, .slice AF M.length cF]).alloc (.cells #[.slice AR' L'.length cR', .slice AF' M'.length cF'] 37)
  have B2 := Blk.new2 w (.cells #[.slice AR L.length cR, .slice AF M.length cF] 37) 37 #[.slice AR' L'.length cR', .slice AF' M'.length cF']
  have C1 := iRules L L' AR AR' cR cR' ((w.alloc (.cells #[.slice AR L.length cR, .slice AF M.length cF] 37)).alloc (.cells #[.slice AR' L'.length cR', .slice AF' M'.length cF'] 37)) (by have := hB.1; omega) (by have := hB'.1; omega) hB.2.2.1 hB'.2.2.1 (PR.w L0) (PR'.w L0)
  have C2 := fun w1 (b1 : Below ((w.alloc (.cells #[.slice AR L.length cR, .slice AF M.length cF] 37)).alloc (.cells #[.slice AR' L'.length cR', .slice AF' M'.length cF'] 37)).heap.size ((w.alloc (.cells #[.slice AR L.length cR, .slice AF M.length cF] 37)).alloc (.cells #[.slice AR' L'.length cR', .slice AF' M'.length cF'] 37)) w1) => iFuns M M' AF AF' cF cF' w1 (by have := hB.2.1; omega) (by have := hB'.2.1; omega) hB.2.2.2 hB'.2.2.2 (PF.w (bl_trans L0 b1)) (PF'.w (bl_trans L0 b1))
  generalize sameL rulB L L' = y1 at C1 ⊢
  generalize sameL funB M M' = y2 at C2 ⊢
  have D1 := Lib.hid C1
  have D2 := Lib.hid C2
  clear C1 C2
  go_enter Try.func12, Try.ntmps12
  go_wp2_with fail
  refine D1.out.mono ?_; rintro e w1 ⟨rfl, b1⟩
  have q1 := (B1.keep b1).cell
  have q2 := (B2.keep b1).cell
  cases y1
  · go_wp2_with fail
    go_ret
    exact ⟨rfl, bl_trans L0 b1⟩
  · go_wp2_with fail
    refine (D2.out w1 b1).mono ?_; rintro e w2 ⟨rfl, b2⟩
    go_wp2_with fail
    go_ret
    exact ⟨rfl, bl_trans (bl_trans L0 b1) b2⟩

end Go.Proofs.Ytalnkdbmbjplpaa
