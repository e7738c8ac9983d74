/-
  spec: l1Digits (of digits), l11Number.
  spec: l11Number.
-/
import Derived.Test.YtmnajkhoacogjaaP57
import Derived.Test.YtmnajkhoacogjaaI3
import Derived.Test.YtmnajkhoacogjaaS90
namespace Go.Proofs.Ytmnajkhoacogjaa
set_option linter.unusedVariables false
set_option linter.unusedSimpArgs false
open Go Go.RowKit Pp

theorem valD_snoc (c : UInt8) : ∀ (l : List UInt8) (n : Int), valD n (l ++ [c]) = 10 * valD n l + ((c.toNat : Int) - 48)
  | [], n => rfl
  | d :: l, n => by simp only [List.cons_append, valD]; exact valD_snoc c l _
theorem valD_small : ∀ (l : List UInt8) (n : Int), (∀ c ∈ l, isDig c = true) → 0 ≤ n → 0 ≤ valD n l ∧ valD n l < (n + 1) * 10 ^ l.length
  | [], n, _, h => by simp [valD]; omega
  | c :: l, n, hd, h => by
    have hc := hd c (by simp)
    unfold isDig at hc
    rw [decide_eq_true_eq] at hc
    have ih := valD_small l (10 * n + ((c.toNat : Int) - 48)) (fun x hx => hd x (by simp [hx])) (by omega)
    simp only [valD, List.length_cons]
    refine ⟨ih.1, Int.lt_of_lt_of_le ih.2 ?_⟩
    rw [Int.pow_succ', ← Int.mul_assoc]
    exact Int.mul_le_mul_of_nonneg_right (by omega) (Int.pow_nonneg (by omega))
/-- A string's bytes. -/
theorem str_get {s : ByteArray} {L : List UInt8} (hL : s.data.toList = L) {k : Nat} {c : UInt8} (hc : L[k]? = some c) : k < s.size ∧ ∀ h : k < s.size, s[k]'h = c := by
  subst hL
  obtain ⟨h1, h2⟩ := List.getElem?_eq_some_iff.1 hc
  refine ⟨by simpa using h1, fun h => ?_⟩
  rw [← h2]
  rfl
theorem str_size {s : ByteArray} {L : List UInt8} (hL : s.data.toList = L) : s.size = L.length := by
  subst hL; simp
theorem l1In_t {n lo hi : Int} {q : Bool} (h : inB n lo hi = q) (w : World) : Calls Try.prog 22 #[.int .i64 n, .int .i64 lo, .int .i64 hi] w fun e w' => e = .returned (.bool q) ∧ w' = w := by
  subst h
  exact (l1In_c n lo hi w).mono (fun e w' h => ⟨h.1, h.2.symm⟩)
theorem valD_nat (l : List UInt8) (hd : ∀ c ∈ l, isDig c = true) (h6 : l.length ≤ 6) : 0 ≤ valD 0 l ∧ valD 0 l < 1000000 := by
  obtain ⟨h1, h2⟩ := valD_small l 0 hd (Int.le_refl 0)
  refine ⟨h1, Int.lt_of_lt_of_le h2 ?_⟩
  have : ∀ k : Fin 7, ((0 : Int) + 1) * 10 ^ k.1 ≤ 1000000 := by decide
  exact this ⟨l.length, by omega⟩
set_option maxHeartbeats 1000000 in
theorem digits_c (s : ByteArray) (L : List UInt8) (hL : s.data.toList = L) (hd : ∀ c ∈ L, isDig c = true) (hl : L.length ≤ 200) (w : World) :
    Calls Try.prog 57 #[.string s] w fun e w' => e = .returned (.tuple #[.int .i64 ((digs L).getD 0), .bool (digs L).isSome]) ∧ w' = w := by
  have hsz := str_size hL
  obtain ⟨n, hn⟩ : ∃ n, s.size = n := ⟨_, rfl⟩
  have hnl : n ≤ 200 := by omega
  obtain ⟨qi, hqi⟩ : ∃ q, inB (s.size : Int) 1 6 = q := ⟨_, rfl⟩
  have Hin := hide hqi
  cases hx : L[0]? with
  | none =>
    have h0 : L = [] := by cases L <;> simp_all
    have hdg : digs L = none := by rw [h0]; rfl
    have hs0 : s.size = 0 := by rw [hsz, h0]; rfl
    obtain rfl : qi = false := by rw [← hqi, hs0]; rfl
    rw [hdg]
    have hs1 : ¬ (1 : Int) < (s.size : Int) := by omega
    clear hL hd hsz hn hqi hx h0 hdg hs0
    go_enter Try.func57, Try.ntmps57
    go_wp2_with (go_at_call 22; refine (l1In_t Hin.out _).mono ?_; rintro e w4 ⟨rfl, hw4⟩; obtain rfl := hw4.symm; clear hw4)
    go_ret2
    exact ⟨rfl, rfl⟩
  | some c =>
    obtain ⟨hlt, hget⟩ := str_get hL hx
    have hc := hd c (List.mem_of_getElem? hx)
    unfold isDig at hc
    rw [decide_eq_true_eq] at hc
    obtain ⟨hc1, hc2⟩ := hc
    have h45 : ((c.toNat : Int) == 45) = false := by simp; omega
    by_cases hin : s.size ≤ 6
    · obtain rfl : qi = true := by rw [← hqi, inB_iff]; omega
      by_cases h48 : c = 48
      · subst h48
        by_cases h1 : 1 < s.size
        · have hdg : digs L = none := by
            unfold digs; rw [if_neg]
            rintro ⟨-, -, h⟩
            exact h ⟨by rw [List.head?_eq_getElem?, hx], by omega⟩
          rw [hdg]
          have hs1 : (1 : Int) < (s.size : Int) := by omega
          clear hL hd hsz hn hqi hx hdg
          go_enter Try.func57, Try.ntmps57
          go_wp2_with (go_at_call 22; refine (l1In_t Hin.out _).mono ?_; rintro e w4 ⟨rfl, hw4⟩; obtain rfl := hw4.symm; clear hw4)
          go_ret2
          exact ⟨rfl, rfl⟩
        · have hdg : digs L = some (valD 0 L) := by
            unfold digs; rw [if_pos]
            exact ⟨by omega, by omega, fun h => by omega⟩
          have Hdg := hide hdg
          have hs1 : ¬ (1 : Int) < (s.size : Int) := by omega
          clear hn hqi hx hdg h45 hc1 hc2
          have Hsz := hide hsz
          clear hsz
          go_enter Try.func57, Try.ntmps57
          go_wp2_with (go_at_call 22; refine (l1In_t Hin.out _).mono ?_; rintro e w4 ⟨rfl, hw4⟩; obtain rfl := hw4.symm; clear hw4)
          go_loopg [5, 6] s.size (fun gh s5 s6 wr => ∃ (k : Nat), k ≤ s.size ∧ gh = s.size - k ∧ s6 = .int .i64 k ∧ s5 = .int .i64 (valD 0 (L.take k)) ∧ wr = w)
          case atStart => exact ⟨0, Nat.zero_le _, rfl, rfl, rfl, rfl⟩
          case round =>
            obtain ⟨k, hk, rfl, rfl, rfl, rfl⟩ := hrel
            by_cases hlt' : k < s.size
            · obtain ⟨d, hx'⟩ : ∃ d, L[k]? = some d := ⟨L[k]'(by have := Hsz.out; omega), List.getElem?_eq_getElem _⟩
              obtain ⟨-, hget'⟩ := str_get hL hx'
              have hd' := hd d (List.mem_of_getElem? hx')
              unfold isDig at hd'
              rw [decide_eq_true_eq] at hd'
              obtain ⟨hd1, hd2⟩ := hd'
              have hv := valD_snoc d (L.take k) 0
              have htk : L.take (k + 1) = L.take k ++ [d] := by rw [List.take_add_one, hx']; rfl
              rw [← htk] at hv
              have hb0 := valD_nat (L.take k) (fun x hx => hd x (List.mem_of_mem_take hx)) (by rw [List.length_take]; have := Hsz.out; omega)
              have hb1 := valD_nat (L.take (k + 1)) (fun x hx => hd x (List.mem_of_mem_take hx)) (by rw [List.length_take]; have := Hsz.out; omega)
              generalize valD 0 (L.take k) = v0 at hv hb0 ⊢
              have Hv := hide hv
              have hkz : (k : Int) < (s.size : Int) := by omega
              have hn1 : ¬ (d.toNat : Int) < 48 := by omega
              have hn2 : ¬ (57 : Int) < (d.toNat : Int) := by omega
              have hu : IntKind.u8.wrap ((d.toNat : Int) - 48) = (d.toNat : Int) - 48 := IntWalk.u8_in _ (by omega)
              have hu2 : IntKind.i64.wrap ((d.toNat : Int) - 48) = (d.toNat : Int) - 48 := IntWalk.i64_in _ (by omega)
              have hu3 : IntKind.i64.wrap (10 * v0) = 10 * v0 := IntWalk.i64_in _ (by omega)
              have hu4 : IntKind.i64.wrap (10 * v0 + ((d.toNat : Int) - 48)) = 10 * v0 + ((d.toNat : Int) - 48) := IntWalk.i64_in _ (by omega)
              clear hv htk hb1 hx'
              go_wp2_with fail
              go_roundg (s.size - (k + 1))
              case measure => go_light; omega
              case rel => go_light; exact ⟨k + 1, by omega, rfl, by go_num, by rw [Hv.out], rfl⟩
            · obtain rfl : k = s.size := by omega
              rw [show L.take s.size = L by rw [Hsz.out, List.take_length]]
              have hkz : ¬ (s.size : Int) < (s.size : Int) := by omega
              have hb0 := valD_nat L hd (by have := Hsz.out; omega)
              obtain ⟨v0, hv0⟩ : ∃ v, valD 0 L = v := ⟨_, rfl⟩
              rw [hv0] at hb0 ⊢
              rw [hv0] at Hdg
              have hu5 : IntKind.i64.wrap v0 = v0 := IntWalk.i64_in _ (by omega)
              clear hv0
              go_wp2_with fail
              go_ret2
              exact ⟨by rw [Hdg.out]; rfl, rfl⟩
      · have hc48 : ((c.toNat : Int) == 48) = false := by
          simp
          intro e
          exact h48 (UInt8.toNat_inj.1 (show c.toNat = 48 by omega))
        have hdg : digs L = some (valD 0 L) := by
          unfold digs; rw [if_pos]
          refine ⟨by omega, by omega, fun h => h48 ?_⟩
          have := h.1
          rw [List.head?_eq_getElem?, hx] at this
          injection this
        have Hdg := hide hdg
        clear hn hqi hx hdg h48
        by_cases h1 : 1 < s.size
        · have hs1 : (1 : Int) < (s.size : Int) := by omega
          have Hsz := hide hsz
          clear hsz
          go_enter Try.func57, Try.ntmps57
          go_wp2_with (go_at_call 22; refine (l1In_t Hin.out _).mono ?_; rintro e w4 ⟨rfl, hw4⟩; obtain rfl := hw4.symm; clear hw4)
          go_loopg [5, 6] s.size (fun gh s5 s6 wr => ∃ (k : Nat), k ≤ s.size ∧ gh = s.size - k ∧ s6 = .int .i64 k ∧ s5 = .int .i64 (valD 0 (L.take k)) ∧ wr = w)
          case atStart => exact ⟨0, Nat.zero_le _, rfl, rfl, rfl, rfl⟩
          case round =>
            obtain ⟨k, hk, rfl, rfl, rfl, rfl⟩ := hrel
            by_cases hlt' : k < s.size
            · obtain ⟨d, hx'⟩ : ∃ d, L[k]? = some d := ⟨L[k]'(by have := Hsz.out; omega), List.getElem?_eq_getElem _⟩
              obtain ⟨-, hget'⟩ := str_get hL hx'
              have hd' := hd d (List.mem_of_getElem? hx')
              unfold isDig at hd'
              rw [decide_eq_true_eq] at hd'
              obtain ⟨hd1, hd2⟩ := hd'
              have hv := valD_snoc d (L.take k) 0
              have htk : L.take (k + 1) = L.take k ++ [d] := by rw [List.take_add_one, hx']; rfl
              rw [← htk] at hv
              have hb0 := valD_nat (L.take k) (fun x hx => hd x (List.mem_of_mem_take hx)) (by rw [List.length_take]; have := Hsz.out; omega)
              have hb1 := valD_nat (L.take (k + 1)) (fun x hx => hd x (List.mem_of_mem_take hx)) (by rw [List.length_take]; have := Hsz.out; omega)
              generalize valD 0 (L.take k) = v0 at hv hb0 ⊢
              have Hv := hide hv
              have hkz : (k : Int) < (s.size : Int) := by omega
              have hn1 : ¬ (d.toNat : Int) < 48 := by omega
              have hn2 : ¬ (57 : Int) < (d.toNat : Int) := by omega
              have hu : IntKind.u8.wrap ((d.toNat : Int) - 48) = (d.toNat : Int) - 48 := IntWalk.u8_in _ (by omega)
              have hu2 : IntKind.i64.wrap ((d.toNat : Int) - 48) = (d.toNat : Int) - 48 := IntWalk.i64_in _ (by omega)
              have hu3 : IntKind.i64.wrap (10 * v0) = 10 * v0 := IntWalk.i64_in _ (by omega)
              have hu4 : IntKind.i64.wrap (10 * v0 + ((d.toNat : Int) - 48)) = 10 * v0 + ((d.toNat : Int) - 48) := IntWalk.i64_in _ (by omega)
              clear hv htk hb1 hx'
              go_wp2_with fail
              go_roundg (s.size - (k + 1))
              case measure => go_light; omega
              case rel => go_light; exact ⟨k + 1, by omega, rfl, by go_num, by rw [Hv.out], rfl⟩
            · obtain rfl : k = s.size := by omega
              rw [show L.take s.size = L by rw [Hsz.out, List.take_length]]
              have hkz : ¬ (s.size : Int) < (s.size : Int) := by omega
              have hb0 := valD_nat L hd (by have := Hsz.out; omega)
              obtain ⟨v0, hv0⟩ : ∃ v, valD 0 L = v := ⟨_, rfl⟩
              rw [hv0] at hb0 ⊢
              rw [hv0] at Hdg
              have hu5 : IntKind.i64.wrap v0 = v0 := IntWalk.i64_in _ (by omega)
              clear hv0
              go_wp2_with fail
              go_ret2
              exact ⟨by rw [Hdg.out]; rfl, rfl⟩
        · have hs1 : ¬ (1 : Int) < (s.size : Int) := by omega
          have Hsz := hide hsz
          clear hsz
          go_enter Try.func57, Try.ntmps57
          go_wp2_with (go_at_call 22; refine (l1In_t Hin.out _).mono ?_; rintro e w4 ⟨rfl, hw4⟩; obtain rfl := hw4.symm; clear hw4)
          go_loopg [5, 6] s.size (fun gh s5 s6 wr => ∃ (k : Nat), k ≤ s.size ∧ gh = s.size - k ∧ s6 = .int .i64 k ∧ s5 = .int .i64 (valD 0 (L.take k)) ∧ wr = w)
          case atStart => exact ⟨0, Nat.zero_le _, rfl, rfl, rfl, rfl⟩
          case round =>
            obtain ⟨k, hk, rfl, rfl, rfl, rfl⟩ := hrel
            by_cases hlt' : k < s.size
            · obtain ⟨d, hx'⟩ : ∃ d, L[k]? = some d := ⟨L[k]'(by have := Hsz.out; omega), List.getElem?_eq_getElem _⟩
              obtain ⟨-, hget'⟩ := str_get hL hx'
              have hd' := hd d (List.mem_of_getElem? hx')
              unfold isDig at hd'
              rw [decide_eq_true_eq] at hd'
              obtain ⟨hd1, hd2⟩ := hd'
              have hv := valD_snoc d (L.take k) 0
              have htk : L.take (k + 1) = L.take k ++ [d] := by rw [List.take_add_one, hx']; rfl
              rw [← htk] at hv
              have hb0 := valD_nat (L.take k) (fun x hx => hd x (List.mem_of_mem_take hx)) (by rw [List.length_take]; have := Hsz.out; omega)
              have hb1 := valD_nat (L.take (k + 1)) (fun x hx => hd x (List.mem_of_mem_take hx)) (by rw [List.length_take]; have := Hsz.out; omega)
              generalize valD 0 (L.take k) = v0 at hv hb0 ⊢
              have Hv := hide hv
              have hkz : (k : Int) < (s.size : Int) := by omega
              have hn1 : ¬ (d.toNat : Int) < 48 := by omega
              have hn2 : ¬ (57 : Int) < (d.toNat : Int) := by omega
              have hu : IntKind.u8.wrap ((d.toNat : Int) - 48) = (d.toNat : Int) - 48 := IntWalk.u8_in _ (by omega)
              have hu2 : IntKind.i64.wrap ((d.toNat : Int) - 48) = (d.toNat : Int) - 48 := IntWalk.i64_in _ (by omega)
              have hu3 : IntKind.i64.wrap (10 * v0) = 10 * v0 := IntWalk.i64_in _ (by omega)
              have hu4 : IntKind.i64.wrap (10 * v0 + ((d.toNat : Int) - 48)) = 10 * v0 + ((d.toNat : Int) - 48) := IntWalk.i64_in _ (by omega)
              clear hv htk hb1 hx'
              go_wp2_with fail
              go_roundg (s.size - (k + 1))
              case measure => go_light; omega
              case rel => go_light; exact ⟨k + 1, by omega, rfl, by go_num, by rw [Hv.out], rfl⟩
            · obtain rfl : k = s.size := by omega
              rw [show L.take s.size = L by rw [Hsz.out, List.take_length]]
              have hkz : ¬ (s.size : Int) < (s.size : Int) := by omega
              have hb0 := valD_nat L hd (by have := Hsz.out; omega)
              obtain ⟨v0, hv0⟩ : ∃ v, valD 0 L = v := ⟨_, rfl⟩
              rw [hv0] at hb0 ⊢
              rw [hv0] at Hdg
              have hu5 : IntKind.i64.wrap v0 = v0 := IntWalk.i64_in _ (by omega)
              clear hv0
              go_wp2_with fail
              go_ret2
              exact ⟨by rw [Hdg.out]; rfl, rfl⟩
    · obtain rfl : qi = false := by rw [← hqi]; simp [inB]; omega
      have hdg : digs L = none := by unfold digs; rw [if_neg (by omega)]
      rw [hdg]
      have hs1 : (1 : Int) < (s.size : Int) := by omega
      clear hL hd hsz hn hqi hx hdg
      go_enter Try.func57, Try.ntmps57
      go_wp2_with (go_at_call 22; refine (l1In_t Hin.out _).mono ?_; rintro e w4 ⟨rfl, hw4⟩; obtain rfl := hw4.symm; clear hw4)
      go_ret2
      exact ⟨rfl, rfl⟩

theorem tw_lt {p : UInt8 → Bool} : ∀ {l : List UInt8} {j : Nat}, j < (l.takeWhile p).length → ∃ c, l[j]? = some c ∧ p c = true
  | [], j, h => by simp at h
  | c :: l, j, h => by
    by_cases hp : p c = true
    · rw [List.takeWhile_cons_of_pos hp] at h
      cases j with
      | zero => exact ⟨c, rfl, hp⟩
      | succ j => exact tw_lt (l := l) (by simpa using h)
    · rw [List.takeWhile_cons_of_neg hp] at h; simp at h
theorem tw_end {p : UInt8 → Bool} : ∀ {l : List UInt8} {c : UInt8}, l[(l.takeWhile p).length]? = some c → p c = false
  | [], c, h => by simp at h
  | d :: l, c, h => by
    by_cases hp : p d = true
    · rw [List.takeWhile_cons_of_pos hp] at h
      exact tw_end (l := l) (by simpa using h)
    · rw [List.takeWhile_cons_of_neg hp] at h
      simp at h
      rw [← h]
      simpa using hp
theorem tw_take {p : UInt8 → Bool} : ∀ (l : List UInt8), l.take (l.takeWhile p).length = l.takeWhile p
  | [] => rfl
  | d :: l => by
    by_cases hp : p d = true
    · rw [List.takeWhile_cons_of_pos hp]; simp [tw_take l]
    · rw [List.takeWhile_cons_of_neg hp]; rfl
theorem str_cut {s : ByteArray} {L : List UInt8} (hL : s.data.toList = L) (i j : Nat) : (s.extract i j).data.toList = (L.drop i).take (j - i) := by
  subst hL
  rw [ByteArray.data_extract, Array.toList_extract, List.extract_eq_take_drop]
theorem sub_add (i m : Nat) : ((i + m : Nat) : Int) = (i : Int) + m := by omega
set_option maxHeartbeats 1000000 in
theorem number_c (s : ByteArray) (L : List UInt8) (hL : s.data.toList = L) (hl : s.size ≤ 120) (i : Nat) (hi : i ≤ s.size) (w : World) :
    Calls Try.prog 55 #[.string s, .int .i64 (i : Int)] w fun e w' => e = .returned (.tuple #[.int .i64 (numA L (i : Int)).1, .int .i64 (numA L (i : Int)).2]) ∧ w' = w := by
  have Hsz := hide (str_size hL)
  obtain ⟨T, hT⟩ : ∃ T, digAt L i = T := ⟨_, rfl⟩
  have hTl : i + T.length ≤ s.size := by
    have := (List.takeWhile_sublist (l := L.drop i) isDig).length_le
    unfold digAt at hT
    rw [hT, List.length_drop] at this
    have := Hsz.out
    omega
  have hTd : ∀ c ∈ T, isDig c = true := fun c hc => by
    obtain ⟨j, hj⟩ := List.mem_iff_getElem?.1 hc
    have hj' := (List.getElem?_eq_some_iff.1 hj).1
    rw [← hT] at hj'
    obtain ⟨d, h1, h2⟩ := tw_lt hj'
    rw [← hT] at hj
    have := tw_take (p := isDig) (L.drop i)
    unfold digAt at hj hj'
    rw [← this, List.getElem?_take, if_pos hj'] at hj
    rw [h1] at hj
    injection hj with hj
    rw [← hj]; exact h2
  have hcut : (s.extract i (i + T.length)).data.toList = T := by
    rw [str_cut hL, Nat.add_sub_cancel_left, ← hT]
    exact tw_take _
  have hdg := fun wq => digits_c (s.extract i (i + T.length)) T hcut hTd (by omega) wq
  have hnum : numA L (i : Int) = (match digs T with | some v => (v, (i : Int) + T.length) | none => (0, -1)) := by
    unfold numA
    rw [Int.toNat_natCast, hT]
    cases digs T <;> rfl
  have hin : ∀ j, j < T.length → ∃ c, L[i + j]? = some c ∧ isDig c = true := fun j hj => by
    rw [← hT] at hj
    obtain ⟨c, h1, h2⟩ := tw_lt hj
    exact ⟨c, by rw [← List.getElem?_drop]; exact h1, h2⟩
  have hout : ∀ c, L[i + T.length]? = some c → isDig c = false := fun c hc => by
    rw [← List.getElem?_drop, ← hT] at hc
    exact tw_end hc
  obtain ⟨v, hv⟩ : ∃ v, (digs T).getD 0 = v := ⟨_, rfl⟩
  obtain ⟨q, hq⟩ : ∃ q, (digs T).isSome = q := ⟨_, rfl⟩
  rw [hv, hq] at hdg
  have HV := hide (And.intro hv (And.intro hq hnum))
  obtain ⟨r1, hr1⟩ : ∃ r, (numA L (i : Int)).1 = r := ⟨_, rfl⟩
  obtain ⟨r2, hr2⟩ : ∃ r, (numA L (i : Int)).2 = r := ⟨_, rfl⟩
  rw [hr1, hr2]
  have HN := hide (And.intro hr1 hr2)
  clear hr1 hr2
  clear hv hq
  have Hdg := hide hdg
  clear hnum hTd hT hdg hcut
  obtain ⟨m, hm⟩ : ∃ m, T.length = m := ⟨_, rfl⟩
  rw [hm] at hTl hin hout Hdg
  unfold Hid at HV
  rw [hm] at HV
  replace HV := hide HV
  clear hm
  go_enter Try.func55, Try.ntmps55
  go_wp2_with fail
  go_loopg [6] (m + 1) (fun gh s6 wr => ∃ (k : Nat), k ≤ m ∧ gh = m + 1 - k ∧ s6 = .int .i64 ((i + k : Nat) : Int) ∧ wr = w)
  case atStart => exact ⟨0, Nat.zero_le _, rfl, rfl, rfl⟩
  case round =>
    obtain ⟨k, hk, rfl, rfl, rfl⟩ := hrel
    by_cases hlt' : k < m
    · obtain ⟨d, hx', hd'⟩ := hin k hlt'
      obtain ⟨-, hget'⟩ := str_get hL hx'
      unfold isDig at hd'
      rw [decide_eq_true_eq] at hd'
      obtain ⟨hd1, hd2⟩ := hd'
      have hkz : ((i + k : Nat) : Int) < (s.size : Int) := by omega
      have hn1 : (48 : Int) ≤ (d.toNat : Int) := by omega
      have hn2 : (d.toNat : Int) ≤ 57 := by omega
      clear hx' hin hout
      go_wp2_with fail
      go_roundg (m + 1 - (k + 1))
      case measure => go_light; omega
      case rel => go_light; exact ⟨k + 1, by omega, rfl, by go_num, rfl⟩
    · obtain rfl : k = m := by omega
      clear hin
      have hkl : i + k ≤ s.size := hTl
      cases hx : L[i + k]? with
      | none =>
        have hkz : ¬ ((i + k : Nat) : Int) < (s.size : Int) := by
          have := List.getElem?_eq_none_iff.1 hx
          have := Hsz.out
          omega
        clear hx hout
        cases q
        all_goals
          go_wp2_with (go_at_call 57; refine (Hdg.out _).mono ?_; rintro e w4 ⟨rfl, hw4⟩; obtain rfl := hw4.symm; clear hw4)
          go_ret2
          refine ⟨?_, rfl⟩
          obtain ⟨h1, h2, h3⟩ := HV.out
          obtain ⟨n1, n2⟩ := HN.out
          cases hdv : digs T
          all_goals rw [hdv] at h1 h2 h3
          all_goals first
            | (cases h2; done)
            | (rw [← n1, ← n2, h3]; simp only [Option.getD] at h1; subst h1; rfl)
            | (rw [← n1, ← n2, h3]; simp only [Option.getD] at h1; rfl)
      | some d =>
        obtain ⟨hlt2, hget'⟩ := str_get hL hx
        have hd' := hout d hx
        unfold isDig at hd'
        rw [decide_eq_false_iff_not] at hd'
        have hkz : ((i + k : Nat) : Int) < (s.size : Int) := by omega
        clear hx hout
        by_cases h48 : (48 : Int) ≤ (d.toNat : Int)
        · have h57 : ¬ (d.toNat : Int) ≤ 57 := by omega
          clear hd'
          cases q
          all_goals
            go_wp2_with (go_at_call 57; refine (Hdg.out _).mono ?_; rintro e w4 ⟨rfl, hw4⟩; obtain rfl := hw4.symm; clear hw4)
            go_ret2
            refine ⟨?_, rfl⟩
            obtain ⟨h1, h2, h3⟩ := HV.out
            obtain ⟨n1, n2⟩ := HN.out
            cases hdv : digs T
            all_goals rw [hdv] at h1 h2 h3
            all_goals first
              | (cases h2; done)
              | (rw [← n1, ← n2, h3]; simp only [Option.getD] at h1; subst h1; rfl)
              | (rw [← n1, ← n2, h3]; simp only [Option.getD] at h1; rfl)
        · clear hd'
          cases q
          all_goals
            go_wp2_with (go_at_call 57; refine (Hdg.out _).mono ?_; rintro e w4 ⟨rfl, hw4⟩; obtain rfl := hw4.symm; clear hw4)
            go_ret2
            refine ⟨?_, rfl⟩
            obtain ⟨h1, h2, h3⟩ := HV.out
            obtain ⟨n1, n2⟩ := HN.out
            cases hdv : digs T
            all_goals rw [hdv] at h1 h2 h3
            all_goals first
              | (cases h2; done)
              | (rw [← n1, ← n2, h3]; simp only [Option.getD] at h1; subst h1; rfl)
              | (rw [← n1, ← n2, h3]; simp only [Option.getD] at h1; rfl)
end Go.Proofs.Ytmnajkhoacogjaa
