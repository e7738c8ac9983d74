/-
  What the laws' walks share: plans that are the same.
-/
import Derived.Test.YtofodhdpppjaoaaW0
namespace Go.Proofs.Ytofodhdpppjaoaa
set_option linter.unusedVariables false
set_option linter.unusedSimpArgs false
open Go.RowKit Pp

set_option maxHeartbeats 4000000 in
set_option maxRecDepth 100000 in
theorem samePlan_yes (n : Int) (bs : List Bd) (A A' : Option Addr) (b o c b' o' c' B : Nat) (w : World) (hn : bs.length ≤ 2000000) (hB : B ≤ w.heap.size) (hR : BdsR w B b o A bs) (hR' : BdsR w B b' o' A' bs) :
    Calls Try.prog 22 #[.agg #[.int .i64 n, .slice A bs.length c], .agg #[.int .i64 n, .slice A' bs.length c']] w fun e w' => e = .returned (.bool true) ∧ Below w.heap.size w w' := by
  go_enter Try.func22, Try.ntmps22
  go_wp2_with fail
  have hW0 : Below w.heap.size w ((w.alloc (.cells #[.int .i64 n, .slice A bs.length c] 29)).alloc (.cells #[.int .i64 n, .slice A' bs.length c'] 29)) := by go_grown
  have p0 : ((w.alloc (.cells #[.int .i64 n, .slice A bs.length c] 29)).alloc (.cells #[.int .i64 n, .slice A' bs.length c'] 29)).cell? ⟨w.heap.size, 1, none⟩ = some (.slice A bs.length c) := by simp [go_sem]
  have p1 : ((w.alloc (.cells #[.int .i64 n, .slice A bs.length c] 29)).alloc (.cells #[.int .i64 n, .slice A' bs.length c'] 29)).cell? ⟨w.heap.size + 1, 1, none⟩ = some (.slice A' bs.length c') := by simp [go_sem]
  have hRw := hR.below (hW0.mono hB)
  have hRw' := hR'.below (hW0.mono hB)
  generalize (w.alloc (.cells #[.int .i64 n, .slice A bs.length c] 29)).alloc (.cells #[.int .i64 n, .slice A' bs.length c'] 29) = W at *
  go_loopg [5] bs.length (fun gh i wr => ∃ k : Nat, k ≤ bs.length ∧ gh = bs.length - k ∧ i = .int .i64 k ∧ Below w.heap.size w wr ∧ wr.cell? ⟨w.heap.size, 1, none⟩ = some (.slice A bs.length c) ∧ wr.cell? ⟨w.heap.size + 1, 1, none⟩ = some (.slice A' bs.length c') ∧ BdsR wr B b o A bs ∧ BdsR wr B b' o' A' bs)
  case atStart => exact ⟨0, Nat.zero_le _, rfl, rfl, hW0, p0, p1, hRw, hRw'⟩
  case round =>
    clear hW0 p0 p1 hRw hRw' hR hR'
    obtain ⟨k, hk, rfl, rfl, hW, p0, p1, hR, hR'⟩ := hrel
    by_cases hlt : k < bs.length
    · have hz : (k : Int) < (bs.length : Int) := by omega
      obtain rfl := hR.addr (by omega)
      obtain rfl := hR'.addr (by omega)
      have hx := List.getElem?_eq_getElem hlt
      have d0 := hR.c0 k _ hx
      have d1 := hR.c1 k _ hx
      have d2 := hR.c2 k _ hx
      have e0 := hR'.c0 k _ hx
      have e1 := hR'.c1 k _ hx
      have e2 := hR'.c2 k _ hx
      generalize bs[k] = x at d0 d1 d2 e0 e1 e2
      clear hx
      go_upto_region 6 with fail
      go_region
      go_wp2_with fail
      go_roundg (bs.length - (k + 1))
      case measure => go_light; omega
      case rel => go_light; exact ⟨k + 1, by omega, rfl, by go_num, hW.drew, p0, p1, hR.below (show Below B wr wr.drew by go_grown), hR'.below (show Below B wr wr.drew by go_grown)⟩
    · go_wp2_with fail
      go_ret
      exact ⟨rfl, hW⟩
end Go.Proofs.Ytofodhdpppjaoaa
