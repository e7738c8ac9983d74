/-
  spec: orders; whether a hand is free.
-/
import Derived.Test.YtmgikoaeomieeaaS70
import Derived.Test.YtmgikoaeomieeaaL69
namespace Go.Proofs.Ytmgikoaeomieeaa
set_option linter.unusedVariables false
set_option linter.unusedSimpArgs false
open Go.RowKit Pp

theorem mem_take_iff {o : List Int} {v : Int} : ∀ {i : Nat}, i ≤ o.length → (v ∈ o.take i ↔ ∃ j, j < i ∧ o.getD j 0 = v)
  | 0, _ => by simp
  | i + 1, h => by
    rw [List.take_succ_eq_append_getElem (by omega), List.mem_append, mem_take_iff (show i ≤ o.length by omega)]
    have e : o.getD i 0 = o[i] := by rw [List.getD_eq_getElem?_getD, List.getElem?_eq_getElem (by omega)]; rfl
    constructor
    · rintro (⟨j, hj, h⟩ | h)
      · exact ⟨j, by omega, h⟩
      · exact ⟨i, by omega, by rw [e]; exact (List.mem_singleton.1 h).symm⟩
    · rintro ⟨j, hj, hv⟩
      by_cases ej : j = i
      · subst ej; right; rw [← hv, e]; exact List.mem_cons_self
      · exact .inl ⟨j, by omega, hv⟩

set_option maxHeartbeats 4000000 in
set_option maxRecDepth 100000 in
theorem sOrderOk_c (xs : List Int) (m : Int) (AX : Option Addr) (bx ox cx B : Nat) (w : World) (hm : -1000000000 ≤ m ∧ m ≤ 1000000000) (hlx : xs.length ≤ 2000000) (hB : B ≤ w.heap.size) (hX : IntsR w B bx ox AX xs) :
    Calls Try.prog 69 #[.slice AX xs.length cx, .int .i64 m] w fun e w' => e = .returned (.bool (orderOk xs m)) ∧ Below w.heap.size w w' := by
  obtain ⟨r, Hr⟩ : ∃ r, Hid (orderOk xs m = r) := ⟨_, rfl⟩
  rw [Hr.out]
  obtain ⟨hm1, hm2⟩ := hm
  have hI0 := hX.more hB
  have hb0 := Below.refl w.heap.size w
  clear hX hB
  go_enter Try.func69, Try.ntmps69
  go_wp2_with fail
  go_loopg [5] xs.length (fun gh s wr => ∃ i : Nat, i ≤ xs.length ∧ gh = xs.length - i ∧ s = .int .i64 i ∧ IntsR wr wr.heap.size bx ox AX xs ∧ Below w.heap.size w wr ∧ Hid (∀ j, j < i → ordAt xs m j = true))
  case atStart => exact ⟨0, Nat.zero_le _, rfl, rfl, hI0, hb0, fun j hj => by omega⟩
  case round =>
    clear hI0 hb0
    obtain ⟨i, hi, rfl, rfl, hI, hW, HA⟩ := hrel
    by_cases hlt : i < xs.length
    · have hlt' : (i : Int) < (xs.length : Int) := by omega
      obtain rfl := hI.addr (by omega)
      have x0 := hI.cell i hlt
      have hmt := mem_take_iff (o := xs) (v := xs.getD i 0) hi
      have Ho : Hid (ordAt xs m i = (inB (xs.getD i 0) 0 (m - 1) && !decide (xs.getD i 0 ∈ xs.take i))) := rfl
      obtain ⟨v, hv⟩ : ∃ v, xs.getD i 0 = v := ⟨_, rfl⟩
      rw [hv] at x0 Ho hmt
      have Hv := hide hv
      have Hmt := hide hmt
      clear hv hmt
      cases hin : inB v 0 (m - 1)
      · obtain rfl : r = false := by
          rw [← Hr.out]
          unfold orderOk
          rw [range_no hlt (by rw [Ho.out, hin]; rfl)]; rfl
        have Hin := hide hin
        clear hin
        go_wp2_with (go_at_call 57; go_fit (l1In_b Hin.out _); rintro e w3 ⟨rfl, h3⟩; have h4 := h3.symm; subst h4; clear h3)
        go_ret
        exact ⟨rfl, hW⟩
      · have Hin := hide hin
        clear hin
        go_wp2_with (go_at_call 57; go_fit (l1In_b Hin.out _); rintro e w3 ⟨rfl, h3⟩; have h4 := h3.symm; subst h4; clear h3)
        clear x0
        go_loopg [6] i (fun gh s wi => ∃ k : Nat, k ≤ i ∧ gh = i - k ∧ s = .int .i64 k ∧ IntsR wi wi.heap.size bx ox (some ⟨bx, ox, none⟩) xs ∧ Below w.heap.size w wi ∧ Hid (∀ j, j < k → xs.getD j 0 ≠ v))
        case atStart => exact ⟨0, Nat.zero_le _, rfl, rfl, hI, hW, fun j hj => by omega⟩
        case round =>
          clear hI hW
          obtain ⟨k, hk, rfl, rfl, hI, hW, HB⟩ := hrel
          by_cases hki : k < i
          · have hki' : (k : Int) < (i : Int) := by omega
            have hkx : (k : Int) < (xs.length : Int) := by omega
            have x0 := hI.cell i hlt
            rw [Hv.out] at x0
            have y0 := hI.cell k (by omega)
            obtain ⟨y, hy⟩ : ∃ y, xs.getD k 0 = y := ⟨_, rfl⟩
            rw [hy] at y0
            have Hy := hide hy
            clear hy
            by_cases he : y = v
            · obtain rfl : r = false := by
                rw [← Hr.out]
                unfold orderOk
                rw [range_no hlt (by rw [Ho.out, decide_eq_true (Hmt.out.2 ⟨k, hki, by rw [Hy.out, he]⟩)]; simp)]; rfl
              subst he
              go_upto_region 9 with fail
              go_quiet (fail)
              have hd : Below wr.heap.size wr (wr.drewN nq) := ⟨rfl, rfl, rfl, Nat.le_refl _, fun _ _ => rfl⟩
              replace hW := bthen hW hd
              clear x0 y0 hd
              go_wp2_with fail
              go_ret
              exact ⟨rfl, hW⟩
            · have HN : Hid (∀ j, j < k + 1 → xs.getD j 0 ≠ v) := by
                intro j hj
                by_cases e : j = k
                · subst e; rw [Hy.out]; exact he
                · exact HB.out j (by omega)
              have hne : (y == v) = false := by simpa using he
              clear he
              go_upto_region 9 with fail
              go_quiet (fail)
              have hd : Below wr.heap.size wr (wr.drewN nq) := ⟨rfl, rfl, rfl, Nat.le_refl _, fun _ _ => rfl⟩
              replace hW := bthen hW hd
              replace hI := (hI.below hd).more hd.size
              clear x0 y0 hd hne
              go_wp2_with fail
              go_roundg (i - (k + 1))
              case measure => go_light; omega
              case rel => go_light; exact ⟨k + 1, by omega, rfl, by go_num, hI, hW, HN⟩
          · have hki' : ¬ (k : Int) < (i : Int) := by omega
            have HN : Hid (∀ j, j < i + 1 → ordAt xs m j = true) := by
              intro j hj
              by_cases e : j = i
              · subst e
                rw [Ho.out, Hin.out, decide_eq_false (fun hm => by
                  obtain ⟨a, ha, hh⟩ := Hmt.out.1 hm
                  exact HB.out a (by omega) hh)]; rfl
              · exact HA.out j (by omega)
            go_wp2_with fail
            go_roundg (xs.length - (i + 1))
            case measure => go_light; omega
            case rel => go_light; exact ⟨i + 1, by omega, rfl, by go_num, hI, hW, HN⟩
    · have hlt' : ¬ (i : Int) < (xs.length : Int) := by omega
      have hre : (inB m 0 6 && decide ((xs.length : Int) = m)) = r := by
        rw [← Hr.out]
        unfold orderOk
        rw [range_all (fun j hj => HA.out j (by omega))]; rfl
      cases h6 : inB m 0 6
      · obtain rfl : false = r := by rw [← hre, h6]; rfl
        have H6 := hide h6
        clear hre h6
        go_wp2_with (go_at_call 57; go_fit (l1In_b H6.out _); rintro e w3 ⟨rfl, h3⟩; have h4 := h3.symm; subst h4; clear h3)
        go_ret
        exact ⟨rfl, hW⟩
      · have H6 := hide h6
        by_cases he : (xs.length : Int) = m
        · obtain rfl : true = r := by rw [← hre, h6, decide_eq_true he]; rfl
          have hez : ((xs.length : Int) == m) = true := by simpa using he
          clear hre h6 he
          go_wp2_with (go_at_call 57; go_fit (l1In_b H6.out _); rintro e w3 ⟨rfl, h3⟩; have h4 := h3.symm; subst h4; clear h3)
          go_ret
          exact ⟨rfl, hW⟩
        · obtain rfl : false = r := by rw [← hre, h6, decide_eq_false he]; rfl
          have hez : ((xs.length : Int) == m) = false := by simpa using he
          clear hre h6 he
          go_wp2_with (go_at_call 57; go_fit (l1In_b H6.out _); rintro e w3 ⟨rfl, h3⟩; have h4 := h3.symm; subst h4; clear h3)
          go_ret
          exact ⟨rfl, hW⟩

set_option maxHeartbeats 4000000 in
set_option maxRecDepth 100000 in
theorem l10Free_c (L F xs : List Int) (h t : Int) (i : Nat) (hi : i < L.length) (ht : 0 ≤ t ∧ t ≤ 100000) (hx : xs.length = L.length) (hb : ∀ j, j < L.length → (0 ≤ L.getD j 0 ∧ L.getD j 0 ≤ 100) ∧ (-1 ≤ xs.getD j 0 ∧ xs.getD j 0 ≤ 10000)) (AL AF AX : Option Addr) (bl ol cl bf of' cf bx ox cx B : Nat) (w : World) (hll : L.length ≤ 2000000) (hB : B ≤ w.heap.size) (hl : IntsR w B bl ol AL L) (hf : IntsR w B bf of' AF F) (hX : IntsR w B bx ox AX xs) :
    Calls Try.prog 91 #[.agg #[.slice AL L.length cl, .slice AF F.length cf], .int .i64 h, .slice AX xs.length cx, .int .i64 (i : Int), .int .i64 t] w fun e w' => e = .returned (.bool (freeAt L xs h i t)) ∧ Below w.heap.size w w' := by
  have hD := pj_new (t := 25) (cl := cl) (cf := cf) hB hl hf
  have hI := (hX.below (hD.bel.mono hB)).more (Nat.le_trans hB hD.bel.size)
  have hxl : xs.length ≤ 2000000 := by omega
  have Hx := hide hx
  have Hb := hide hb
  obtain ⟨r, Hr⟩ : ∃ r, Hid (freeAt L xs h i t = r) := ⟨_, rfl⟩
  rw [Hr.out]
  obtain ⟨l, hl'⟩ : ∃ l, L.getD i 0 = l := ⟨_, rfl⟩
  have hlb := (hb i hi).1
  rw [hl'] at hlb
  obtain ⟨N, rfl⟩ := Int.eq_ofNat_of_zero_le hlb.1
  have Hl := hide hl'
  have Hr2 : Hid (freeN L xs h t N = r) := by unfold Hid; rw [← Hr.out]; unfold freeAt; rw [hl']; rfl
  obtain ⟨ht0, ht1⟩ := ht
  clear hl hf hB hX hx hb hl' Hr
  go_enter Try.func91, Try.ntmps91
  go_upto_region 1 with fail
  generalize w.alloc (.cells #[.slice AL L.length cl, .slice AF F.length cf] 25) = W at hD hI ⊢
  go_wp2_with fail
  go_loopg [11] N (fun gh s wr => ∃ k : Nat, k ≤ N ∧ gh = N - k ∧ s = .int .i64 (t + k) ∧ Hid (freeN L xs h t k = true) ∧ PJ w wr w.heap.size bl ol AL cl L bf of' AF cf F ∧ IntsR wr wr.heap.size bx ox AX xs)
  case atStart => exact ⟨0, Nat.zero_le _, rfl, by simp, rfl, hD, hI⟩
  case round =>
    clear hD hI
    obtain ⟨k, hk, rfl, rfl, HF, hD, hI⟩ := hrel
    have p0 := hD.c0
    obtain rfl := hD.rl.addr (by omega)
    have y0 := hD.rl.cell i hi
    rw [Hl.out] at y0
    have hiL : (i : Int) < (L.length : Int) := by omega
    by_cases hkN : k < N
    · have hkN' : t + (k : Int) < t + (N : Int) := by omega
      obtain ⟨u, hu⟩ : ∃ u, t + (k : Int) = u := ⟨_, rfl⟩
      rw [hu] at hkN' ⊢
      have hub : 0 ≤ u ∧ u ≤ 200000 := by omega
      obtain ⟨hu0, hu1⟩ := hub
      have Hu : Hid (u + 1 = t + ((k + 1 : Nat) : Int)) := by unfold Hid; omega
      have HF2 : Hid (freeN L xs h t (k + 1) = decide ((busyN L xs u : Int) < h)) := by unfold Hid; simp only [freeN]; rw [HF.out, hu]; rfl
      obtain ⟨M, hm⟩ : ∃ M, busyN L xs u = M := ⟨_, rfl⟩
      rw [hm] at HF2
      have Hm : Hid (cnt (isBusy L xs u) xs.length = M) := hm
      clear hm hu
      go_wp2_with fail
      clear p0 y0
      go_loopg [12, 13] xs.length (fun gh s12 s13 wi => ∃ j m : Nat, j ≤ xs.length ∧ gh = xs.length - j ∧ s13 = .int .i64 j ∧ s12 = .int .i64 m ∧ m ≤ j ∧ PJ w wi w.heap.size bl ol (some ⟨bl, ol, none⟩) cl L bf of' AF cf F ∧ IntsR wi wi.heap.size bx ox AX xs ∧ Hid (cnt (isBusy L xs u) j = m))
      case atStart => exact ⟨0, 0, Nat.zero_le _, rfl, rfl, rfl, Nat.le_refl _, hD, hI, rfl⟩
      case round =>
        clear hD hI
        obtain ⟨j, m, hj, rfl, rfl, rfl, hmj, hD, hI, HC⟩ := hrel
        by_cases hjlt : j < xs.length
        · have hjlt' : (j : Int) < (xs.length : Int) := by omega
          have hjL : j < L.length := by have := Hx.out; omega
          have hjL' : (j : Int) < (L.length : Int) := by omega
          obtain rfl := hI.addr (by omega)
          have p0 := hD.c0
          have x0 := hI.cell j hjlt
          have y0 := hD.rl.cell j hjL
          have hbk := Hb.out j hjL
          have HS : Hid (cnt (isBusy L xs u) (j + 1) = m + (if decide (0 ≤ xs.getD j 0 ∧ xs.getD j 0 ≤ u ∧ u < xs.getD j 0 + L.getD j 0) = true then 1 else 0)) := by unfold Hid; simp only [cnt]; rw [HC.out]; rfl
          generalize xs.getD j 0 = x at x0 hbk HS
          generalize L.getD j 0 = l at y0 hbk HS
          obtain ⟨⟨l0, l1⟩, ⟨z0, z1⟩⟩ := hbk
          have hws : IntKind.i64.wrap (x + l) = x + l := IntWalk.i64_in _ (by omega)
          go_upto_region 8 with fail
          by_cases c1 : 0 ≤ x
          · by_cases c2 : x ≤ u
            · by_cases c3 : u < x + l
              · have HS2 : Hid (cnt (isBusy L xs u) (j + 1) = m + 1) := by unfold Hid; rw [HS.out, decide_eq_true ⟨c1, c2, c3⟩]; rfl
                go_quiet (fail)
                have hd : Below wr.heap.size wr (wr.drewN nq) := ⟨rfl, rfl, rfl, Nat.le_refl _, fun _ _ => rfl⟩
                replace hD := hD.below hd
                replace hI := (hI.below hd).more hd.size
                clear p0 x0 y0 hd hws
                go_wp2_with fail
                go_roundg (xs.length - (j + 1))
                case measure => go_light; omega
                case rel => go_light; exact ⟨j + 1, m + 1, by omega, rfl, by go_num, by go_num, by omega, hD, hI, HS2⟩
              · have HS2 : Hid (cnt (isBusy L xs u) (j + 1) = m) := by unfold Hid; rw [HS.out, decide_eq_false (fun h => c3 h.2.2)]; rfl
                go_quiet (fail)
                have hd : Below wr.heap.size wr (wr.drewN nq) := ⟨rfl, rfl, rfl, Nat.le_refl _, fun _ _ => rfl⟩
                replace hD := hD.below hd
                replace hI := (hI.below hd).more hd.size
                clear p0 x0 y0 hd hws
                go_wp2_with fail
                go_roundg (xs.length - (j + 1))
                case measure => go_light; omega
                case rel => go_light; exact ⟨j + 1, m, by omega, rfl, by go_num, rfl, by omega, hD, hI, HS2⟩
            · have HS2 : Hid (cnt (isBusy L xs u) (j + 1) = m) := by unfold Hid; rw [HS.out, decide_eq_false (fun h => c2 h.2.1)]; rfl
              have hd2 : decide (x ≤ u) = false := by simpa using c2
              go_quiet (fail)
              have hd : Below wr.heap.size wr (wr.drewN nq) := ⟨rfl, rfl, rfl, Nat.le_refl _, fun _ _ => rfl⟩
              replace hD := hD.below hd
              replace hI := (hI.below hd).more hd.size
              clear p0 x0 y0 hd hws
              go_wp2_with fail
              go_roundg (xs.length - (j + 1))
              case measure => go_light; omega
              case rel => go_light; exact ⟨j + 1, m, by omega, rfl, by go_num, rfl, by omega, hD, hI, HS2⟩
          · have HS2 : Hid (cnt (isBusy L xs u) (j + 1) = m) := by unfold Hid; rw [HS.out, decide_eq_false (fun h => c1 h.1)]; rfl
            have hd2 : decide (0 ≤ x) = false := by simpa using c1
            go_quiet (fail)
            have hd : Below wr.heap.size wr (wr.drewN nq) := ⟨rfl, rfl, rfl, Nat.le_refl _, fun _ _ => rfl⟩
            replace hD := hD.below hd
            replace hI := (hI.below hd).more hd.size
            clear p0 x0 y0 hd hws
            go_wp2_with fail
            go_roundg (xs.length - (j + 1))
            case measure => go_light; omega
            case rel => go_light; exact ⟨j + 1, m, by omega, rfl, by go_num, rfl, by omega, hD, hI, HS2⟩
        · have hje : j = xs.length := by omega
          obtain rfl : m = M := by rw [← HC.out, hje]; exact Hm.out
          have hjlt' : ¬ (j : Int) < (xs.length : Int) := by omega
          clear hje
          by_cases hc : (m : Int) < h
          · have HF3 : Hid (freeN L xs h t (k + 1) = true) := by unfold Hid; rw [HF2.out, decide_eq_true hc]
            have hc2 : ¬ h ≤ (m : Int) := by omega
            go_wp2_with fail
            go_roundg (N - (k + 1))
            case measure => go_light; omega
            case rel => go_light; exact ⟨k + 1, by omega, rfl, by rw [← Hu.out], HF3, hD, hI⟩
          · have hc2 : h ≤ (m : Int) := by omega
            obtain rfl : r = false := by
              rw [← Hr2.out, Bool.eq_false_iff]
              intro hh
              have h1 := freeN_iff.1 hh k hkN
              have h2 : busyN L xs (t + (k : Int)) = m := by rw [show t + (k : Int) = u by have := Hu.out; omega]; exact Hm.out
              rw [h2] at h1
              exact hc h1
            go_wp2_with fail
            go_ret
            exact ⟨rfl, hD.bel⟩
    · obtain rfl : k = N := by omega
      obtain rfl : r = true := by rw [← Hr2.out]; exact HF.out
      have hkN' : ¬ t + (k : Int) < t + (k : Int) := by omega
      go_wp2_with fail
      go_ret
      exact ⟨rfl, hD.bel⟩
end Go.Proofs.Ytmgikoaeomieeaa
