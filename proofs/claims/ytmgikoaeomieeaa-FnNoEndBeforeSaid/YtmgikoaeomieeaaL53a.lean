/-
  slices.Clone of numbers.
-/
import Derived.Test.YtmgikoaeomieeaaI3
namespace Go.Proofs.Ytmgikoaeomieeaa
set_option linter.unusedVariables false
set_option linter.unusedSimpArgs false
open Go Go.RowKit Pp

set_option maxHeartbeats 1000000 in
set_option maxRecDepth 100000 in
theorem cloneI_c (xs : List Int) (A : Option Addr) (b o c B : Nat) (w : World) (hn : xs.length ≤ 2000000) (hB : B ≤ w.heap.size) (hR : IntsR w B b o A xs) :
    Calls Try.prog 89 #[.slice A xs.length c] w fun e w' => ∃ A1 c1, e = .returned (.slice A1 xs.length c1) ∧ OwnI w.heap.size w' (.slice A1 xs.length c1) xs ∧ Below w.heap.size w w' := by
  obtain ⟨i0, hi0, hz0, hz1, hz2⟩ := info_parts infoI
  cases A with
  | none =>
    have e : xs = [] := by
      rcases Nat.eq_zero_or_pos xs.length with h | h
      · exact List.eq_nil_of_length_eq_zero h
      · have := hR.addr h; cases this
    subst e
    have hnil := fun W => Go.Lib.run_eql_slice_nil (P := Try.prog) W 23 3 none 0 c 0 0 Try.underlying23
    go_enter Try.func89, Try.ntmps89
    go_wp2_with fail
    go_ret
    exact ⟨none, 0, rfl, World.ownsRow_nil _ _ _ _, Below.refl _ _⟩
  | some a =>
    have hnil := fun W => Go.Lib.run_eql_slice_nil (P := Try.prog) W 23 3 (some a) xs.length c 0 0 Try.underlying23
    go_enter Try.func89, Try.ntmps89
    go_wp2_with (at_builtin; refine app_list _ rfl (.tmp 5) (.tmp 6) _ rfl w.heap.size 3 i0 _ 1 8 Try.underlying23 hi0 hz0 hz1 hz2 rfl (by omega) (.slice (some ⟨w.heap.size, 0, none⟩) 0 0) 0 [] rfl (own_empty (at_new rfl) (Nat.le_refl _)) (some a) xs.length c (xs.map (Value.int .i64)) rfl (by simp) (hR.below ((show Below w.heap.size w (w.alloc (.cells #[] 3)) by go_grown).mono hB)).news (ints_one xs) (by omega) (by omega) (by simp only [World.size_alloc, World.size_drew]; omega) ?_; intro A4 c4 w4 hown4 hg4 hat4)
    simp only [Nat.zero_add, List.nil_append] at hown4 hat4 ⊢
    go_ret
    refine ⟨A4, c4, rfl, hown4, ?_⟩
    exact (show Below w.heap.size w (w.alloc (.cells #[] 3)) by go_grown).grown hg4 (by simp only [World.size_alloc, World.size_drew]; omega) (fun q hq => by have e := Option.some.inj hq; subst e; dsimp only; omega)
theorem own_cap {base : Nat} {w : World} {A : Option Addr} {c : Nat} {xs : List Int} (h : OwnI base w (.slice A xs.length c) xs) : xs.length ≤ c := by
  rcases h.2 with ⟨hv, hx⟩ | ⟨g, cap, cur, hv, _, _, hcap, _⟩
  · injection hv with _ h2 h3
    omega
  · injection hv with _ h2 h3
    omega
end Go.Proofs.Ytmgikoaeomieeaa
