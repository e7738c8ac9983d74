/-
  impl: the parts of a mark, slices.Clone of parts, build.
-/
import Derived.Test.YtofodhdpppjaoaaR70
import Derived.Test.YtofodhdpppjaoaaL1
import Derived.Test.YtofodhdpppjaoaaZ1
import Derived.Test.YtofodhdpppjaoaaL11a
import Derived.Lib.SliceRun
import Derived.Deep.CutBlock
namespace Go.Proofs.Ytofodhdpppjaoaa
set_option linter.unusedVariables false
set_option linter.unusedSimpArgs false
open Go Go.RowKit Pp

def partsN (m : Mk) : Int :=
  if m.k = 0 ∧ inB m.h 0 19 = true ∧ inB m.l 0 m.h = true then 0
  else if (m.k = 1 ∨ m.k = 2) ∧ m.l = 0 ∧ m.h = 0 then 2
  else if m.k = 3 ∧ m.l = 0 ∧ inB m.h 0 19 = true then 1 else -1
set_option maxHeartbeats 2000000 in
theorem parts_c (m : Mk) (w : World) : Calls Try.prog 70 #[.agg #[.int .i64 m.k, .int .i64 m.l, .int .i64 m.h]] w fun e w' => e = .returned (.int .i64 (partsN m)) ∧ Below w.heap.size w w' := by
  obtain ⟨k, l, h⟩ := m
  dsimp only
  by_cases k0 : k = 0
  · subst k0
    obtain ⟨a, ha⟩ : ∃ a, inB h 0 19 = a := ⟨_, rfl⟩
    obtain ⟨b, hb⟩ : ∃ b, inB l 0 h = b := ⟨_, rfl⟩
    have hR : Hid (partsN ⟨0, l, h⟩ = if a = true ∧ b = true then 0 else -1) := by
      unfold Hid partsN
      simp only [ha, hb]
      cases a <;> cases b <;> simp
    have Ha := hide ha
    have Hb := hide hb
    clear ha hb
    cases a
    · rw [hR.out, if_neg (by simp)]
      clear hR
      go_enter Try.func70, Try.ntmps70
      go_wp2_with (go_at_call 55; refine (in_c _ _ _ _).mono ?_; rintro e w' ⟨rfl, rfl⟩; first | rw [Ha.out] | rw [Hb.out])
      go_ret
      exact ⟨rfl, by go_grown⟩
    · cases b
      · rw [hR.out, if_neg (by simp)]
        clear hR
        go_enter Try.func70, Try.ntmps70
        go_wp2_with (go_at_call 55; refine (in_c _ _ _ _).mono ?_; rintro e w' ⟨rfl, rfl⟩; first | rw [Ha.out] | rw [Hb.out])
        go_ret
        exact ⟨rfl, by go_grown⟩
      · rw [hR.out, if_pos ⟨rfl, rfl⟩]
        clear hR
        go_enter Try.func70, Try.ntmps70
        go_wp2_with (go_at_call 55; refine (in_c _ _ _ _).mono ?_; rintro e w' ⟨rfl, rfl⟩; first | rw [Ha.out] | rw [Hb.out])
        go_ret
        exact ⟨rfl, by go_grown⟩
  · have k0' : (k == 0) = false := by simpa using k0
    by_cases k12 : k = 1 ∨ k = 2
    · have hR : Hid (partsN ⟨k, l, h⟩ = if l = 0 ∧ h = 0 then 2 else -1) := by
        unfold Hid partsN
        rw [if_neg (fun h => k0 h.1)]
        by_cases hl : l = 0 ∧ h = 0
        · rw [if_pos ⟨k12, hl⟩, if_pos hl]
        · rw [if_neg (fun h => hl h.2), if_neg hl, if_neg (by rintro ⟨rfl, -⟩; simp at k12)]
      rw [hR.out]
      clear hR k0 k0'
      by_cases hl : l = 0
      · subst hl
        by_cases hh : h = 0
        · subst hh
          rw [if_pos ⟨rfl, rfl⟩]
          rcases k12 with rfl | rfl
          · go_enter Try.func70, Try.ntmps70
            go_wp2
            go_ret
            exact ⟨rfl, by go_grown⟩
          · go_enter Try.func70, Try.ntmps70
            go_wp2
            go_ret
            exact ⟨rfl, by go_grown⟩
        · have hh' : (h == 0) = false := by simpa using hh
          rw [if_neg (fun x => hh x.2)]
          rcases k12 with rfl | rfl
          · go_enter Try.func70, Try.ntmps70
            go_wp2
            go_ret
            exact ⟨rfl, by go_grown⟩
          · go_enter Try.func70, Try.ntmps70
            go_wp2
            go_ret
            exact ⟨rfl, by go_grown⟩
      · have hl' : (l == 0) = false := by simpa using hl
        rw [if_neg (fun x => hl x.1)]
        rcases k12 with rfl | rfl
        · go_enter Try.func70, Try.ntmps70
          go_wp2
          go_ret
          exact ⟨rfl, by go_grown⟩
        · go_enter Try.func70, Try.ntmps70
          go_wp2
          go_ret
          exact ⟨rfl, by go_grown⟩
    · have k1' : (k == 1) = false := by simp; exact fun e => k12 (.inl e)
      have k2' : (k == 2) = false := by simp; exact fun e => k12 (.inr e)
      by_cases k3 : k = 3
      · subst k3
        clear k0 k0' k12 k1' k2'
        obtain ⟨a, ha⟩ : ∃ a, inB h 0 19 = a := ⟨_, rfl⟩
        have hR : Hid (partsN ⟨3, l, h⟩ = if l = 0 ∧ a = true then 1 else -1) := by
          unfold Hid partsN
          simp only [ha]
          simp
        have Ha := hide ha
        clear ha
        have Hb : Hid (true = true) := rfl
        by_cases hl : l = 0
        · subst hl
          cases a
          · rw [hR.out, if_neg (by simp)]
            clear hR
            go_enter Try.func70, Try.ntmps70
            go_wp2_with (go_at_call 55; refine (in_c _ _ _ _).mono ?_; rintro e w' ⟨rfl, rfl⟩; first | rw [Ha.out] | rw [Hb.out])
            go_ret
            exact ⟨rfl, by go_grown⟩
          · rw [hR.out, if_pos ⟨rfl, rfl⟩]
            clear hR
            go_enter Try.func70, Try.ntmps70
            go_wp2_with (go_at_call 55; refine (in_c _ _ _ _).mono ?_; rintro e w' ⟨rfl, rfl⟩; first | rw [Ha.out] | rw [Hb.out])
            go_ret
            exact ⟨rfl, by go_grown⟩
        · have hl' : (l == 0) = false := by simpa using hl
          rw [hR.out, if_neg (fun x => hl x.1)]
          clear hR
          go_enter Try.func70, Try.ntmps70
          go_wp2_with (go_at_call 55; refine (in_c _ _ _ _).mono ?_; rintro e w' ⟨rfl, rfl⟩; first | rw [Ha.out] | rw [Hb.out])
          go_ret
          exact ⟨rfl, by go_grown⟩
      · have k3' : (k == 3) = false := by simpa using k3
        have hR : partsN ⟨k, l, h⟩ = -1 := by
          unfold partsN
          rw [if_neg (fun h => k0 h.1), if_neg (fun h => k12 h.1), if_neg (fun h => k3 h.1)]
        rw [hR]
        clear hR k12
        go_enter Try.func70, Try.ntmps70
        go_wp2
        go_ret
        exact ⟨rfl, by go_grown⟩

theorem infoP : (Try.prog.info? 60).map (fun i => (i.zero, i.size, i.bytes)) = some (some (.pointer none), 1, 8) := by kernel_rfl
theorem ptr_one (qs : List Nat) : ∀ u ∈ qs.map ptr, u.oneCell' = true := by
  intro u hu
  obtain ⟨n, _, rfl⟩ := List.mem_map.1 hu
  rfl
set_option maxHeartbeats 1000000 in
set_option maxRecDepth 100000 in
theorem cloneP_c (qs : List Nat) (A : Option Addr) (b o c B : Nat) (w : World) (hn : qs.length ≤ 2000000) (hB : B ≤ w.heap.size) (hR : CsR w B b o A qs.length (qs.map ptr)) :
    Calls Try.prog 71 #[.slice A qs.length c] w fun e w' => ∃ A1 c1, e = .returned (.slice A1 qs.length c1) ∧ w'.ownsRow w.heap.size 60 1 (.slice A1 qs.length c1) qs.length (qs.map ptr) ∧ Below w.heap.size w w' := by
  obtain ⟨i0, hi0, hz0, hz1, hz2⟩ := info_parts infoP
  cases A with
  | none =>
    have e : qs = [] := by
      rcases Nat.eq_zero_or_pos qs.length with h | h
      · exact List.eq_nil_of_length_eq_zero h
      · have := hR.addr h; cases this
    subst e
    have hnil := fun W => Go.Lib.run_eql_slice_nil (P := Try.prog) W 97 60 none 0 c 0 0 Try.underlying97
    go_enter Try.func71, Try.ntmps71
    go_wp2_with fail
    go_ret
    exact ⟨none, 0, rfl, World.ownsRow_nil _ _ _ _, Below.refl _ _⟩
  | some a =>
    have hnil := fun W => Go.Lib.run_eql_slice_nil (P := Try.prog) W 97 60 (some a) qs.length c 0 0 Try.underlying97
    have hR' := hR.below ((show Below w.heap.size w (w.alloc (.cells #[] 60)) by go_grown).mono hB)
    have hnw : NewsAt (w.alloc (.cells #[] 60)) (some a) qs.length (qs.map ptr) := fun hm => ⟨_, hR'.addr hm, fun j u hu => by rw [add_zero_off]; exact hR'.cell j u hu⟩
    go_enter Try.func71, Try.ntmps71
    go_wp2_with (at_builtin; refine app_list _ rfl (.tmp 5) (.tmp 6) _ rfl w.heap.size 60 i0 _ 1 8 Try.underlying97 hi0 hz0 hz1 hz2 rfl (by omega) (.slice (some ⟨w.heap.size, 0, none⟩) 0 0) 0 [] rfl (own_empty (at_new rfl) (Nat.le_refl _)) (some a) qs.length c (qs.map ptr) rfl (by simp) hnw (ptr_one qs) (by omega) (by omega) (by simp only [World.size_alloc, World.size_drew]; omega) ?_; intro A4 c4 w4 hown4 hg4 hat4)
    simp only [Nat.zero_add, List.nil_append] at hown4 hat4 ⊢
    go_ret
    refine ⟨A4, c4, rfl, hown4, ?_⟩
    exact (show Below w.heap.size w (w.alloc (.cells #[] 60)) by go_grown).grown hg4 (by simp only [World.size_alloc, World.size_drew]; omega) (fun q hq => by have e := Option.some.inj hq; subst e; dsimp only; omega)
end Go.Proofs.Ytofodhdpppjaoaa
