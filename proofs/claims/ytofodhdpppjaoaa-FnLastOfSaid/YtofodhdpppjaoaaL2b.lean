/-
  Chapter 2 of the program: a table is closed in place.
-/
import Derived.Test.YtofodhdpppjaoaaL2
namespace Go.Proofs.Ytofodhdpppjaoaa
set_option linter.unusedVariables false
set_option linter.unusedSimpArgs false
open Go.RowKit Pp

theorem fine_wrap : Fine wrap64 := fun x h1 h2 => by
  unfold wrap64; omega

set_option maxHeartbeats 1000000 in
set_option maxRecDepth 100000 in
theorem close_c (ob : Nat) (rb : Nat → Nat) (n B : Nat) (T : Tb) (w : World) (hn : n ≤ 1000) (hT : Tab w ob rb n T) (hB' : ∀ i, i < n → B ≤ rb i) :
    Calls Try.prog 78 #[.slice (some ⟨ob, 0, none⟩) n n] w fun e w' => e = .returned (.bool (diagOk n (clF wrap64 T n n))) ∧ Tab w' ob rb n (clF wrap64 T n n) ∧ w.Since B w' := by
  go_enter Try.func78, Try.ntmps78
  go_wp2
  go_loopg [9] n (fun g s wr => ∃ k : Nat, k ≤ n ∧ g = n - k ∧ s = .int .i64 k ∧ Tab wr ob rb n (clF wrap64 T n k) ∧ w.Since B wr)
  case atStart => exact ⟨0, Nat.zero_le _, rfl, rfl, hT, World.Since.refl _ _⟩
  case round =>
    obtain ⟨k, hk, rfl, rfl, hT1, hS1⟩ := hrel
    by_cases hlt : k < n
    · have hkz : (k : Int) < (n : Int) := by omega
      go_wp2
      go_loopg [14] n (fun g s wi => ∃ i : Nat, i ≤ n ∧ g = n - i ∧ s = .int .i64 i ∧ Tab wi ob rb n (phF wrap64 (clF wrap64 T n k) n k i) ∧ w.Since B wi)
      case atStart => exact ⟨0, Nat.zero_le _, rfl, rfl, hT1, hS1⟩
      case round =>
        obtain ⟨i, hi, rfl, rfl, hT2, hS2⟩ := hrel
        by_cases hlt2 : i < n
        · have hiz : (i : Int) < (n : Int) := by omega
          go_wp2
          go_loopg [19] n (fun g s wj => ∃ j : Nat, j ≤ n ∧ g = n - j ∧ s = .int .i64 j ∧ Tab wj ob rb n (rowF wrap64 (phF wrap64 (clF wrap64 T n k) n k i) k i j) ∧ w.Since B wj)
          case atStart => exact ⟨0, Nat.zero_le _, rfl, rfl, hT2, hS2⟩
          case round =>
            obtain ⟨j, hj, rfl, rfl, hT3, hS3⟩ := hrel
            by_cases hlt3 : j < n
            · have hjz : (j : Int) < (n : Int) := by omega
              generalize hX : rowF wrap64 (phF wrap64 (clF wrap64 T n k) n k i) k i j = X at hT3
              have HX := Lib.hid hX
              have c1 : wr.cell? ⟨ob, i, none⟩ = some (.slice (some ⟨rb i, 0, none⟩) n n) := hT3.top.cell hlt2
              have c2 : wr.cell? ⟨ob, k, none⟩ = some (.slice (some ⟨rb k, 0, none⟩) n n) := hT3.top.cell hlt
              have c3 : wr.cell? ⟨rb i, k, none⟩ = some (.int .i64 (X i k)) := (hT3.row i hlt2).cell hlt
              have c4 : wr.cell? ⟨rb k, j, none⟩ = some (.int .i64 (X k j)) := (hT3.row k hlt).cell hlt3
              have c5 : wr.cell? ⟨rb i, j, none⟩ = some (.int .i64 (X i j)) := (hT3.row i hlt2).cell hlt3
              have c6 : wr.frozen? ⟨rb i, j, none⟩ = false := (hT3.row i hlt2).frozen j
              clear hX
              have HB2 := hB' i hlt2
              by_cases g1 : X i k = 100000
              · have g1' : (X i k != 100000) = false := by simp [g1]
                have G1 := Lib.hid g1
                clear g1
                go_wp2
                go_roundg (n - (j + 1))
                case measure => go_light; omega
                case rel => go_light; exact ⟨j + 1, by omega, rfl, by go_num, by rw [rowF, HX.out, st1, if_neg (by unfold Far; simp [G1.out])]; exact hT3, hS3⟩
              · have g1' : (X i k != 100000) = true := by simp [g1]
                by_cases g2 : X k j = 100000
                · have g2' : (X k j != 100000) = false := by simp [g2]
                  have G2 := Lib.hid g2
                  clear g2
                  go_wp2
                  go_roundg (n - (j + 1))
                  case measure => go_light; omega
                  case rel => go_light; exact ⟨j + 1, by omega, rfl, by go_num, by rw [rowF, HX.out, st1, if_neg (by unfold Far; simp [G2.out])]; exact hT3, hS3⟩
                · have g2' : (X k j != 100000) = true := by simp [g2]
                  go_wp2
                  go_region
                  go_wp2
                  all_goals
                    go_roundg (n - (j + 1))
                    case measure => go_light; omega
                    case rel =>
                      go_light
                      refine ⟨j + 1, by omega, rfl, by go_num, ?_, (hS3.setCell HB2 _).drew⟩
                      rw [rowF, HX.out, st1, if_pos ⟨g1, g2⟩]
                      first
                        | (have hm : min (X i j) (wrap64 (X i k + X k j)) = wrap64 (X i k + X k j) := by omega
                           rw [hm]; exact (hT3.set hlt2 _).drew)
                        | (have hm : min (X i j) (wrap64 (X i k + X k j)) = X i j := by omega
                           rw [hm]; exact (hT3.set hlt2 _).drew)
            · have e : j = n := by omega
              go_wp2
              go_roundg (n - (i + 1))
              case measure => go_light; omega
              case rel => go_light; subst e; exact ⟨i + 1, by omega, rfl, by go_num, hT3, hS3⟩
        · have e : i = n := by omega
          go_wp2
          go_roundg (n - (k + 1))
          case measure => go_light; omega
          case rel => go_light; subst e; exact ⟨k + 1, by omega, rfl, by go_num, hT2, hS2⟩
    · obtain rfl : k = n := by omega
      generalize hX : clF wrap64 T k k = X at hT1
      have HX := Lib.hid hX
      clear hX
      go_wp2
      go_loopg [74] k (fun g s wj => wj = wr ∧ ∃ j : Nat, j ≤ k ∧ g = k - j ∧ s = .int .i64 j ∧ ∀ i, i < j → 0 ≤ X i i)
      case atStart => exact ⟨rfl, 0, Nat.zero_le _, rfl, rfl, fun _ h => absurd h (Nat.not_lt_zero _)⟩
      case round =>
        obtain ⟨rfl, j, hj, rfl, rfl, hall⟩ := hrel
        have Hall := Lib.hid hall
        clear hall
        by_cases hlt3 : j < k
        · have hjz : (j : Int) < (k : Int) := by omega
          have c1 : wr.cell? ⟨ob, j, none⟩ = some (.slice (some ⟨rb j, 0, none⟩) k k) := hT1.top.cell hlt3
          have c2 : wr.cell? ⟨rb j, j, none⟩ = some (.int .i64 (X j j)) := (hT1.row j hlt3).cell hlt3
          by_cases g : X j j < 0
          · go_wp2
            go_ret
            refine ⟨?_, by rw [HX.out]; exact hT1, hS1⟩
            have hd : diagOk k (clF wrap64 T k k) = false := by
              rw [HX.out, Bool.eq_false_iff]
              intro h
              have := diagOk_iff.1 h j hlt3
              omega
            rw [hd]; rfl
          · go_wp2
            go_roundg (k - (j + 1))
            case measure => go_light; omega
            case rel =>
              go_light
              exact ⟨rfl, j + 1, by omega, rfl, by go_num, fun i hi => by
                by_cases e : i = j
                · subst e; omega
                · exact Hall.out i (by omega)⟩
        · go_wp2
          go_ret
          refine ⟨?_, by rw [HX.out]; exact hT1, hS1⟩
          have hd : diagOk k (clF wrap64 T k k) = true := by
            rw [HX.out, diagOk_iff]
            exact fun i hi => Hall.out i (by omega)
          rw [hd]; rfl
end Go.Proofs.Ytofodhdpppjaoaa
