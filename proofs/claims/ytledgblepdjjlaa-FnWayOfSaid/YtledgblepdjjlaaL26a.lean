/-
  impl: the next time.
-/
import Derived.Test.YtledgblepdjjlaaL5a
import Derived.Test.YtledgblepdjjlaaL2c
import Derived.Test.YtledgblepdjjlaaP12
import Derived.Test.YtledgblepdjjlaaI3
namespace Go.Proofs.Ytledgblepdjjlaa
set_option linter.unusedVariables false
set_option linter.unusedSimpArgs false
open Go.RowKit Pp

set_option maxHeartbeats 2000000 in
set_option maxRecDepth 100000 in
theorem next_c (n ob : Nat) (T : Tb) (rb rc : Nat → Nat) (ct : Nat) (xs : List Int) (M : Int) (A : Option Addr) (b o c B : Nat) (w : World) (hn : n ≤ 1000) (hpt : xs.length < n) (hB : B ≤ w.heap.size)
    (hR : IntsR w B b o A xs) (hT : TabR w B ob rb rc n T) (hS : Small n T) (hx : AbsTo xs M) (h0 : 0 ≤ M) (h1 : M ≤ 10000) :
    Calls Try.prog 121 #[.slice (some ⟨ob, 0, none⟩) n ct, .slice A xs.length c] w fun e w' => e = .returned (.int .i64 (nextT T xs)) ∧ w = w' := by
  have habs := nwTo_abs hS hx h0 h1 hpt
  obtain ⟨m, hm⟩ : ∃ m, xs.length = m := ⟨_, rfl⟩
  have hE : Hid (nextT T xs = if -100000 < (nwTo T xs m m).1 then (nwTo T xs m m).1 else if (nwTo T xs m m).2 < 100000 then (nwTo T xs m m).2 else 0) := by unfold Hid nextT; rw [hm]
  have hRc : Hid (∀ k, k < m → A = some ⟨b, o, none⟩ ∧ w.cell? ⟨b, o + k, none⟩ = some (.int .i64 (xs.getD k 0))) := fun k hk => ⟨hR.addr (by omega), hR.cell k (by omega)⟩
  rw [hm] at hpt habs ⊢
  clear hR hm
  have hpz : (m : Int) < (n : Int) := by omega
  have hm0 : (0 : Int) ≤ (m : Int) := by omega
  go_enter Try.func121, Try.ntmps121
  go_upto_region 4 with fail
  go_loopg [6, 7, 14] m (fun gh s6 s7 s14 wr => ∃ (k : Nat) (lo hi : Int), k ≤ m ∧ gh = m - k ∧ s6 = .int .i64 lo ∧ s7 = .int .i64 hi ∧ s14 = .int .i64 k ∧ Hid (nwTo T xs m k = (lo, hi)) ∧ w = wr)
  case atStart => exact ⟨0, -100000, 100000, Nat.zero_le _, rfl, rfl, rfl, rfl, rfl, rfl⟩
  case round =>
    obtain ⟨k, lo, hi, hk, rfl, rfl, rfl, rfl, Hw, rfl⟩ := hrel
    have hab := habs k (by omega)
    rw [Hw.out] at hab
    dsimp only at hab
    obtain ⟨hlo, hhi⟩ := hab
    by_cases hlt : k < m
    · have hz : (k : Int) < (m : Int) := by omega
      have hzn : (k : Int) < (n : Int) := by omega
      have hz0 : (0 : Int) ≤ (k : Int) := by omega
      obtain ⟨rfl, d0⟩ := hRc.out k hlt
      obtain ⟨hx1, hx2⟩ := hx k
      obtain ⟨v, hv⟩ : ∃ v, xs.getD k 0 = v := ⟨_, rfl⟩
      have Hv := hide hv
      rw [hv] at d0 hx1 hx2
      have a1 := hT.top m hpt
      have a2 := hT.top k (by omega)
      have a3 := hT.row m k hpt (by omega)
      have a4 := hT.row k m (by omega) hpt
      have s1 := hS m k hpt (by omega)
      have s2 := hS k m (by omega) hpt
      obtain ⟨tp, htp⟩ : ∃ v, T m k = v := ⟨_, rfl⟩
      obtain ⟨tk, htk⟩ : ∃ v, T k m = v := ⟨_, rfl⟩
      rw [htp] at a3 s1
      rw [htk] at a4 s2
      have Htp := hide htp
      have Htk := hide htk
      unfold Far at s1 s2
      obtain ⟨s11, s12⟩ := s1
      obtain ⟨s21, s22⟩ := s2
      have S12 := hide s12
      have S22 := hide s22
      clear hv htp htk hx hS hT habs s12 s22
      have HF : Hid (∀ lo' hi' : Int, lo' = (if tp < 100000 then max lo (v - tp) else lo) → hi' = (if tk < 100000 then min hi (v + tk) else hi) → nwTo T xs m (k + 1) = (lo', hi')) := by
        intro lo' hi' h1 h2
        rw [nwTo_step Hw.out Hv.out]
        unfold nwAt Far
        rw [Htp.out, Htk.out, h1, h2]
      by_cases g1 : tp < 100000 <;> by_cases g2 : tk < 100000
      all_goals
        first | (have q1 : -600 ≤ tp ∧ tp ≤ 600 := S12.out g1; have k1 : (tp == 100000) = false := beq_false_of_ne (Int.ne_of_lt g1)) | (have q1 : tp = 100000 := Int.le_antisymm s11 (Int.not_lt.1 g1); have k1 : (tp == 100000) = true := beq_iff_eq.2 q1)
        first | (have q2 : -600 ≤ tk ∧ tk ≤ 600 := S22.out g2; have k2 : (tk == 100000) = false := beq_false_of_ne (Int.ne_of_lt g2)) | (have q2 : tk = 100000 := Int.le_antisymm s21 (Int.not_lt.1 g2); have k2 : (tk == 100000) = true := beq_iff_eq.2 q2)
        go_wp2_with fail
        all_goals
          go_roundg (m - (k + 1))
          case measure => go_light; omega
          case rel =>
            go_light
            refine ⟨k + 1, _, _, by omega, rfl, rfl, rfl, by go_num, HF.out _ _ ?_ ?_, rfl⟩
            · split <;> omega
            · split <;> omega
    · obtain rfl : k = m := by omega
      have hE2 := hE.out
      rw [Hw.out] at hE2
      dsimp only at hE2
      have HE := hide hE2
      clear hE2
      by_cases g1 : lo = -100000
      · by_cases g2 : hi = 100000
        · have e : Hid (nextT T xs = 0) := by unfold Hid; rw [HE.out, if_neg (by omega), if_neg (by omega)]
          subst g1; subst g2
          go_wp2_with fail
          go_ret
          exact ⟨by rw [e.out]; rfl, rfl⟩
        · have e : Hid (nextT T xs = hi) := by unfold Hid; rw [HE.out, if_neg (by omega), if_pos (by omega)]
          have q : (hi == 100000) = false := by simp [g2]
          subst g1
          go_wp2_with fail
          go_ret
          exact ⟨by rw [e.out]; rfl, rfl⟩
      · have e : Hid (nextT T xs = lo) := by unfold Hid; rw [HE.out, if_pos (by omega)]
        have q : (lo == -100000) = false := by simp [g1]
        go_wp2_with fail
        go_ret
        exact ⟨by rw [e.out]; rfl, rfl⟩

end Go.Proofs.Ytledgblepdjjlaa
