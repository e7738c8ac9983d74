/-
  impl: orders.
-/
import Derived.Test.YtmgikoaeomieeaaL66
import Derived.Test.YtmgikoaeomieeaaL57a
import Derived.Test.YtmgikoaeomieeaaP48
namespace Go.Proofs.Ytmgikoaeomieeaa
set_option linter.unusedVariables false
set_option linter.unusedSimpArgs false
open Go.RowKit Pp

namespace Pp
def ordAt (o : List Int) (many : Int) (i : Nat) : Bool := inB (o.getD i 0) 0 (many - 1) && !decide (o.getD i 0 ∈ o.take i)
def orderOk (o : List Int) (many : Int) : Bool := (List.range o.length).all (ordAt o many) && (inB many 0 6 && decide ((o.length : Int) = many))
theorem ord_take {o : List Int} {m : Int} : ∀ {n : Nat}, n ≤ o.length → ((∀ i, i < n → ordAt o m i = true) ↔ (o.take n).Nodup ∧ ∀ v ∈ o.take n, 0 ≤ v ∧ v < m)
  | 0, _ => by simp
  | n + 1, h => by
    have ih := ord_take (o := o) (m := m) (n := n) (by omega)
    have e : o.take (n + 1) = o.take n ++ [o[n]] := by rw [List.take_succ_eq_append_getElem (by omega)]
    have ex : o.getD n 0 = o[n] := by rw [List.getD_eq_getElem?_getD, List.getElem?_eq_getElem (by omega)]; rfl
    have eo : ordAt o m n = true ↔ (0 ≤ o[n] ∧ o[n] < m) ∧ o[n] ∉ o.take n := by
      unfold ordAt
      rw [ex]
      simp only [Bool.and_eq_true, inB_iff, Bool.not_eq_true', decide_eq_false_iff_not]
      constructor
      · rintro ⟨⟨h1, h2⟩, h3⟩; exact ⟨⟨h1, by omega⟩, h3⟩
      · rintro ⟨⟨h1, h2⟩, h3⟩; exact ⟨⟨h1, by omega⟩, h3⟩
    rw [e, List.nodup_append]
    constructor
    · intro hall
      obtain ⟨h1, h2⟩ := ih.1 (fun i hi => hall i (by omega))
      obtain ⟨h3, h4⟩ := eo.1 (hall n (by omega))
      refine ⟨⟨h1, by simp, fun a ha b hb => ?_⟩, fun v hv => ?_⟩
      · simp only [List.mem_singleton] at hb
        subst hb
        intro e; subst e; exact h4 ha
      · rcases List.mem_append.1 hv with hv | hv
        · exact h2 v hv
        · simp only [List.mem_singleton] at hv; subst hv; exact h3
    · rintro ⟨⟨h1, _, h2⟩, h3⟩ i hi
      by_cases ei : i = n
      · subst ei
        exact eo.2 ⟨h3 _ (List.mem_append.2 (.inr List.mem_cons_self)), fun hm => h2 _ hm _ List.mem_cons_self rfl⟩
      · exact ih.2 ⟨h1, fun v hv => h3 v (List.mem_append.2 (.inl hv))⟩ i (by omega)
theorem orderOk_iff {o : List Int} {n : Nat} : orderOk o (n : Int) = true ↔ n ≤ 6 ∧ IsOrder n o := by
  have h := ord_take (o := o) (m := (n : Int)) (Nat.le_refl _)
  rw [List.take_length] at h
  unfold orderOk IsOrder
  simp only [Bool.and_eq_true, inB_iff, decide_eq_true_eq, List.all_eq_true, List.mem_range]
  constructor
  · rintro ⟨h1, h2, h3⟩
    obtain ⟨h4, h5⟩ := h.1 h1
    exact ⟨by omega, by omega, h4, h5⟩
  · rintro ⟨h1, h2, h3, h4⟩
    exact ⟨h.2 ⟨h3, h4⟩, by omega, by omega⟩
def orderFits (L F : List Int) (h : Int) (o : List Int) : Bool := projOk L F && inB h 1 3 && orderOk o (L.length : Int)
theorem orderFits_iff {L F : List Int} {h : Int} {o : List Int} : orderFits L F h o = true ↔ projOk L F = true ∧ (1 ≤ h ∧ h ≤ 3) ∧ IsOrder L.length o := by
  unfold orderFits
  simp only [Bool.and_eq_true, inB_iff, orderOk_iff, and_assoc]
  constructor
  · rintro ⟨h1, h2, h3, h4, h5⟩; exact ⟨h1, h2, h3, h5⟩
  · rintro ⟨h1, h2, h3, h5⟩; exact ⟨h1, h2, h3, (projOk_iff.1 h1).1, h5⟩
end Pp
theorem IntsR.take {w : World} {B b o : Nat} {A : Option Addr} {xs : List Int} (h : IntsR w B b o A xs) (k : Nat) (hk : k ≤ xs.length) : IntsR w B b o A (xs.take k) := by
  have hl : (xs.take k).length = k := by rw [List.length_take]; omega
  refine ⟨fun hx => h.addr (by omega), fun hx => h.lt (by omega), fun j hj => ?_⟩
  rw [h.cell j (by omega)]
  rw [List.getD_eq_getElem?_getD, List.getD_eq_getElem?_getD, List.getElem?_take, if_pos (by omega)]

set_option maxHeartbeats 2000000 in
set_option maxRecDepth 100000 in
theorem orderOk_c (xs : List Int) (m : Int) (AX : Option Addr) (bx ox cx B : Nat) (w : World) (hm : -1000000000 ≤ m ∧ m ≤ 1000000000) (hlx : xs.length ≤ 2000000) (hcx : xs.length ≤ cx) (hB : B ≤ w.heap.size) (hX : IntsR w B bx ox AX xs) :
    Calls Try.prog 90 #[.slice AX xs.length cx, .int .i64 m] w fun e w' => e = .returned (.bool (orderOk xs m)) ∧ w' = w := by
  obtain ⟨r, Hr⟩ : ∃ r, Hid (orderOk xs m = r) := ⟨_, rfl⟩
  rw [Hr.out]
  obtain ⟨hm1, hm2⟩ := hm
  go_enter Try.func90, Try.ntmps90
  go_wp2_with fail
  go_loopg [9] xs.length (fun gh s wr => ∃ i : Nat, i ≤ xs.length ∧ gh = xs.length - i ∧ s = .int .i64 i ∧ wr = w ∧ Hid (∀ j, j < i → ordAt xs m j = true))
  case atStart => exact ⟨0, Nat.zero_le _, rfl, rfl, rfl, fun j hj => by omega⟩
  case round =>
    obtain ⟨i, hi, rfl, rfl, rfl, HA⟩ := hrel
    by_cases hlt : i < xs.length
    · have hlt' : (i : Int) < (xs.length : Int) := by omega
      have hi0 : (0 : Int) ≤ (i : Int) := by omega
      have hic : (i : Int) ≤ (cx : Int) := by omega
      obtain rfl := hX.addr (by omega)
      have x0 := hX.cell i hlt
      have hT := (hX.take i hi).more hB
      have Ho : Hid (ordAt xs m i = (inB (xs.getD i 0) 0 (m - 1) && !decide (xs.getD i 0 ∈ xs.take i))) := rfl
      generalize xs.getD i 0 = v at x0 Ho
      obtain ⟨q, hq⟩ : ∃ q, xs.take i = q := ⟨_, rfl⟩
      have hql : q.length = i := by rw [← hq, List.length_take]; omega
      rw [hq] at hT Ho
      have hcall := contains_c q v (some ⟨bx, ox, none⟩) bx ox cx _ wr (by omega) (Nat.le_refl _) hT
      rw [hql] at hcall
      clear hq hql hT
      have Hcall := hide hcall
      clear hcall
      obtain ⟨r1, hr1⟩ : ∃ r1, inB v 0 (m - 1) = r1 := ⟨_, rfl⟩
      obtain ⟨r2, hr2⟩ : ∃ r2, decide (v ∈ q) = r2 := ⟨_, rfl⟩
      rw [hr1, hr2] at Ho
      have H1 := hide hr1
      have H2 := hide hr2
      clear hr1 hr2
      cases r1
      · obtain rfl : r = false := by
          rw [← Hr.out]
          unfold orderOk
          rw [range_no hlt Ho.out]; rfl
        go_wp2_with (go_at_call 80; go_fit (in_c v 0 (m - 1) _); rintro e w2 ⟨rfl, rfl⟩; rw [H1.out])
        go_ret
        exact ⟨rfl, rfl⟩
      · cases r2
        · have HN : Hid (∀ j, j < i + 1 → ordAt xs m j = true) := by
            intro j hj
            by_cases e : j = i
            · subst e; exact Ho.out
            · exact HA.out j (by omega)
          go_wp2_with (first
            | (go_at_call 80; go_fit (in_c v 0 (m - 1) _); rintro e w2 ⟨rfl, rfl⟩; rw [H1.out])
            | (go_at_call 75; refine Hcall.out.mono ?_; rintro e w3 ⟨rfl, rfl⟩; rw [H2.out]))
          go_roundg (xs.length - (i + 1))
          case measure => go_light; omega
          case rel => go_light; exact ⟨i + 1, by omega, rfl, by go_num, rfl, HN⟩
        · obtain rfl : r = false := by
            rw [← Hr.out]
            unfold orderOk
            rw [range_no hlt Ho.out]; rfl
          go_wp2_with (first
            | (go_at_call 80; go_fit (in_c v 0 (m - 1) _); rintro e w2 ⟨rfl, rfl⟩; rw [H1.out])
            | (go_at_call 75; refine Hcall.out.mono ?_; rintro e w3 ⟨rfl, rfl⟩; rw [H2.out]))
          go_ret
          exact ⟨rfl, rfl⟩
    · have hlt' : ¬ (i : Int) < (xs.length : Int) := by omega
      have hre : (inB m 0 6 && decide ((xs.length : Int) = m)) = r := by
        rw [← Hr.out]
        unfold orderOk
        rw [range_all (fun j hj => HA.out j (by omega))]; rfl
      obtain ⟨r1, hr1⟩ : ∃ r1, inB m 0 6 = r1 := ⟨_, rfl⟩
      rw [hr1] at hre
      have H1 := hide hr1
      have Hre := hide hre
      clear hr1 hre
      cases r1
      · go_wp2_with (go_at_call 80; go_fit (in_c m 0 6 _); rintro e w2 ⟨rfl, rfl⟩; rw [H1.out])
        go_ret
        exact ⟨by rw [← Hre.out]; rfl, rfl⟩
      · go_wp2_with (go_at_call 80; go_fit (in_c m 0 6 _); rintro e w2 ⟨rfl, rfl⟩; rw [H1.out])
        go_ret
        exact ⟨by rw [← Hre.out]; by_cases e : (xs.length : Int) = m <;> simp [e], rfl⟩
end Go.Proofs.Ytmgikoaeomieeaa
