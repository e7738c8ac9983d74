/-
  The draws of the laws of terms: DrawNarrowedOf, DrawPlanOf, DrawLengthsOf.
-/
import Derived.Test.YtofodhdpppjaoaaD70
namespace Go.Proofs.Ytofodhdpppjaoaa
set_option linter.unusedVariables false
set_option linter.unusedSimpArgs false
open Go Go.RowKit Pp

set_option maxHeartbeats 2000000 in
set_option maxRecDepth 100000 in
theorem drawNarrowed_c (A : Option Addr) (n c : Nat) (zs : List Int) (w : World) (hn : n ≤ 1048576) (hc : n ≤ c) (hA : n = 0 ∨ A.isSome = true) (hb : BytesAt w w.heap.size A n zs) :
    Calls Try.prog 8 #[.slice A n c] w fun e w' => ∃ A1 c1, ∃ t : List Mk, e = .returned (.slice A1 t.length c1) ∧ t.length ≤ 200000 ∧ t.length ≤ c1 ∧ (∃ g, MkR w' w'.heap.size g 0 A1 t) ∧ Below w.heap.size w w' := by
  go_enter Try.func8, Try.ntmps8
  go_wp2_with (first
    | (go_at_call 38; go_fit (open_c A n c zs _ hn hc hA hb); rintro e w1 ⟨rfl, hR, hb1, hsz⟩)
    | (go_at_call 37; go_fit (term_c w.heap.size 0 9 w1 (by omega) (by omega) hR); rintro e w2 ⟨A1, c1, t, rfl, hl, hown, hR2, hG⟩))
  have hcap := own_cap hown
  have hrd := OwnM.reads hown
  have hW := hb1.grown hG hb1.size (fun k hk => by injection hk with hk; omega)
  go_ret
  exact ⟨A1, c1, t, rfl, hl, hcap, hrd, hW⟩
set_option maxHeartbeats 2000000 in
set_option maxRecDepth 100000 in
theorem drawPlanOf_c (A : Option Addr) (n c : Nat) (zs : List Int) (w : World) (hn : n ≤ 1048576) (hc : n ≤ c) (hA : n = 0 ∨ A.isSome = true) (hb : BytesAt w w.heap.size A n zs) :
    Calls Try.prog 21 #[.slice A n c] w fun e w' => ∃ A1 c1, ∃ t : List Mk, e = .returned (.slice A1 t.length c1) ∧ t.length ≤ 200000 ∧ t.length ≤ c1 ∧ (∃ g, MkR w' w'.heap.size g 0 A1 t) ∧ Below w.heap.size w w' := by
  go_enter Try.func21, Try.ntmps21
  go_wp2_with (first
    | (go_at_call 38; go_fit (open_c A n c zs _ hn hc hA hb); rintro e w1 ⟨rfl, hR, hb1, hsz⟩)
    | (go_at_call 37; go_fit (term_c w.heap.size 0 9 w1 (by omega) (by omega) hR); rintro e w2 ⟨A1, c1, t, rfl, hl, hown, hR2, hG⟩))
  have hcap := own_cap hown
  have hrd := OwnM.reads hown
  have hW := hb1.grown hG hb1.size (fun k hk => by injection hk with hk; omega)
  go_ret
  exact ⟨A1, c1, t, rfl, hl, hcap, hrd, hW⟩
set_option maxHeartbeats 2000000 in
set_option maxRecDepth 100000 in
theorem drawLengths_c (A : Option Addr) (n c : Nat) (zs : List Int) (w : World) (hn : n ≤ 1048576) (hc : n ≤ c) (hA : n = 0 ∨ A.isSome = true) (hb : BytesAt w w.heap.size A n zs) :
    Calls Try.prog 27 #[.slice A n c] w fun e w' => ∃ A1 c1, ∃ t : List Mk, e = .returned (.slice A1 t.length c1) ∧ t.length ≤ 200000 ∧ t.length ≤ c1 ∧ (∃ g, MkR w' w'.heap.size g 0 A1 t) ∧ Below w.heap.size w w' := by
  go_enter Try.func27, Try.ntmps27
  go_wp2_with (first
    | (go_at_call 38; go_fit (open_c A n c zs _ hn hc hA hb); rintro e w1 ⟨rfl, hR, hb1, hsz⟩)
    | (go_at_call 37; go_fit (term_c w.heap.size 0 9 w1 (by omega) (by omega) hR); rintro e w2 ⟨A1, c1, t, rfl, hl, hown, hR2, hG⟩))
  have hcap := own_cap hown
  have hrd := OwnM.reads hown
  have hW := hb1.grown hG hb1.size (fun k hk => by injection hk with hk; omega)
  go_ret
  exact ⟨A1, c1, t, rfl, hl, hcap, hrd, hW⟩
end Go.Proofs.Ytofodhdpppjaoaa
