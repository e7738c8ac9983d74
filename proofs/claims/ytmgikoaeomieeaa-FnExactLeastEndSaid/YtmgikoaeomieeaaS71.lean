/-
  spec: how many tasks are being done; the end of begins.
-/
import Derived.Test.YtmgikoaeomieeaaS70
import Derived.Test.YtmgikoaeomieeaaL66
namespace Go.Proofs.Ytmgikoaeomieeaa
set_option linter.unusedVariables false
set_option linter.unusedSimpArgs false
open Go.RowKit Pp

/-- What BusyAt returns. -/
def busyV (L F b : List Int) (t : Int) : Int := if fitB L F b && inB t 0 2000 then (busyN L b t : Int) else -1
theorem fit_no {L F b : List Int} {k : Nat} (hk : k < b.length) (h : inB (b.getD k 0) 0 2000 = false) : fitB L F b = false := by
  rw [Bool.eq_false_iff]
  intro hp
  obtain ⟨_, _, h3⟩ := fitB_iff.1 hp
  have := h3 (b.getD k 0) (by rw [List.getD_eq_getElem?_getD, List.getElem?_eq_getElem hk]; exact List.getElem_mem _)
  rw [inB_iff.2 this] at h; cases h
theorem fit_yes {L F b : List Int} (hp : projOk L F = true) (hl : b.length = L.length) (h : ∀ k, k < b.length → inB (b.getD k 0) 0 2000 = true) : fitB L F b = true := by
  refine fitB_iff.2 ⟨hp, hl, fun v hv => ?_⟩
  obtain ⟨i, hi, rfl⟩ := List.mem_iff_getElem.1 hv
  have := inB_iff.1 (h i hi)
  rw [List.getD_eq_getElem?_getD, List.getElem?_eq_getElem hi] at this
  exact this

set_option maxHeartbeats 4000000 in
set_option maxRecDepth 100000 in
theorem sBusyAt_c (L F xs : List Int) (t : Int) (AL AF AX : Option Addr) (bl ol cl bf of' cf bx ox cx B : Nat) (w : World) (hll : L.length ≤ 2000000) (hlf : F.length ≤ 2000000) (hlx : xs.length ≤ 2000000) (hB : B ≤ w.heap.size) (hl : IntsR w B bl ol AL L) (hf : IntsR w B bf of' AF F) (hX : IntsR w B bx ox AX xs) :
    Calls Try.prog 74 #[.agg #[.slice AL L.length cl, .slice AF F.length cf], .slice AX xs.length cx, .int .i64 t] w fun e w' => e = .returned (.int .i64 (busyV L F xs t)) ∧ Below w.heap.size w w' := by
  obtain ⟨R, hR⟩ : ∃ R, busyV L F xs t = R := ⟨_, rfl⟩
  rw [hR]
  have HR := hide hR
  have hD := pj_new (t := 25) (cl := cl) (cf := cf) hB hl hf
  have hI := (hX.below (hD.bel.mono hB)).more (Nat.le_trans hB hD.bel.size)
  clear hl hf hB hX hR
  cases hp : projOk L F
  · obtain rfl : -1 = R := by rw [← HR.out]; unfold busyV fitB; rw [hp]; rfl
    have Hp := hide hp
    clear hp
    go_enter Try.func74, Try.ntmps74
    go_upto_region 1 with fail
    generalize w.alloc (.cells #[.slice AL L.length cl, .slice AF F.length cf] 25) = W at hD hI ⊢
    have p0 := hD.c0
    have p1 := hD.c1
    go_wp2_with (go_at_call 48; go_fit (sProjectOk_c L F AL AF bl ol cl bf of' cf _ _ hll hlf (Nat.le_refl _) hD.rl hD.rf); rintro e w2 ⟨rfl, hb⟩; rw [Hp.out]; replace hD := hD.below hb; clear p0 p1; have p0 := hD.c0; have p1 := hD.c1)
    go_ret
    exact ⟨rfl, hD.bel⟩
  · have Hp := hide hp
    by_cases hle : xs.length = L.length
    · have hlez : ((xs.length : Int) != (L.length : Int)) = false := by simp [hle]
      have hlez2 : ((xs.length : Int) == (L.length : Int)) = true := by simp [hle]
      have Hle := hide hle
      have hx6 : xs.length ≤ 6 := by have := (projOk_iff.1 hp).1; omega
      cases ht : inB t 0 2000
      · obtain rfl : -1 = R := by rw [← HR.out]; unfold busyV; rw [ht, Bool.and_false]; rfl
        have Ht := hide ht
        clear hp hle ht
        go_enter Try.func74, Try.ntmps74
        go_upto_region 1 with fail
        generalize w.alloc (.cells #[.slice AL L.length cl, .slice AF F.length cf] 25) = W at hD hI ⊢
        have p0 := hD.c0
        have p1 := hD.c1
        go_wp2_with (first
          | (go_at_call 48; go_fit (sProjectOk_c L F AL AF bl ol cl bf of' cf _ _ hll hlf (Nat.le_refl _) hD.rl hD.rf); rintro e w2 ⟨rfl, hb⟩; rw [Hp.out]; replace hD := hD.below hb; clear p0 p1; have p0 := hD.c0; have p1 := hD.c1)
          | (go_at_call 57; go_fit (l1In_b Ht.out _); rintro e w3 ⟨rfl, rfl⟩))
        go_ret
        exact ⟨rfl, hD.bel⟩
      · have Ht := hide ht
        have HR2 : Hid ((∀ k, k < xs.length → inB (xs.getD k 0) 0 2000 = true) → (cnt (isBusy L xs t) xs.length : Int) = R) := fun h => by
          rw [← HR.out]; unfold busyV; rw [fit_yes hp hle h, ht]; rfl
        have HR3 : Hid (∀ k, k < xs.length → inB (xs.getD k 0) 0 2000 = false → R = -1) := fun k hk h => by
          rw [← HR.out]; unfold busyV; rw [fit_no hk h]; rfl
        clear hp hle ht HR
        go_enter Try.func74, Try.ntmps74
        go_upto_region 1 with fail
        generalize w.alloc (.cells #[.slice AL L.length cl, .slice AF F.length cf] 25) = W at hD hI ⊢
        have p0 := hD.c0
        have p1 := hD.c1
        go_upto_region 3 with (first
          | (go_at_call 48; go_fit (sProjectOk_c L F AL AF bl ol cl bf of' cf _ _ hll hlf (Nat.le_refl _) hD.rl hD.rf); rintro e w2 ⟨rfl, hb⟩; rw [Hp.out]; replace hI := (hI.below hb).more hb.size; replace hD := hD.below hb; clear p0 p1; have p0 := hD.c0; have p1 := hD.c1)
          | (go_at_call 57; go_fit (l1In_b Ht.out _); rintro e w3 ⟨rfl, h3⟩; have h4 := h3.symm; subst h4; clear h3))
        clear p0 p1
        go_wp2_with fail
        go_loopg [7, 8] xs.length (fun gh s7 s8 wr => ∃ k m : Nat, k ≤ xs.length ∧ gh = xs.length - k ∧ s8 = .int .i64 k ∧ s7 = .int .i64 m ∧ m ≤ k ∧ PJ w wr w.heap.size bl ol AL cl L bf of' AF cf F ∧ IntsR wr wr.heap.size bx ox AX xs ∧ Hid (cnt (isBusy L xs t) k = m ∧ ∀ i, i < k → inB (xs.getD i 0) 0 2000 = true))
        case atStart => exact ⟨0, 0, Nat.zero_le _, rfl, rfl, rfl, Nat.le_refl _, hD, hI, ⟨rfl, fun i hi => by omega⟩⟩
        case round =>
          clear hD hI
          obtain ⟨k, m, hk, rfl, rfl, rfl, hm, hD, hI, HA⟩ := hrel
          have p0 := hD.c0
          by_cases hlt : k < xs.length
          · have hlt' : (k : Int) < (xs.length : Int) := by omega
            have hkL : k < L.length := by have := Hle.out; omega
            have hkL' : (k : Int) < (L.length : Int) := by omega
            obtain rfl := hI.addr (by omega)
            obtain rfl := hD.rl.addr (by omega)
            have x0 := hI.cell k hlt
            have y0 := hD.rl.cell k hkL
            have hLk := long_at Hp.out hkL
            cases hin : inB (xs.getD k 0) 0 2000
            · obtain rfl := HR3.out k hlt hin
              generalize xs.getD k 0 = x at x0 hin
              have Hin := hide hin
              clear hin y0
              go_wp2_with (go_at_call 57; go_fit (l1In_b Hin.out _); rintro e w3 ⟨rfl, h3⟩; have h4 := h3.symm; subst h4; clear h3)
              go_ret
              exact ⟨rfl, hD.bel⟩
            · have hx := inB_iff.1 hin
              have HS : Hid (cnt (isBusy L xs t) (k + 1) = m + (if decide (0 ≤ xs.getD k 0 ∧ xs.getD k 0 ≤ t ∧ t < xs.getD k 0 + L.getD k 0) = true then 1 else 0)) := by unfold Hid; simp only [cnt]; rw [HA.out.1]; rfl
              have HN : Hid (∀ i, i < k + 1 → inB (xs.getD i 0) 0 2000 = true) := by
                intro i hi
                by_cases e : i = k
                · subst e; exact hin
                · exact HA.out.2 i (by omega)
              generalize xs.getD k 0 = x at x0 hin hx HS
              generalize L.getD k 0 = l at y0 hLk HS
              have Hin := hide hin
              have hws : IntKind.i64.wrap (x + l) = x + l := IntWalk.i64_in _ (by omega)
              clear hin
              go_upto_region 9 with (go_at_call 57; go_fit (l1In_b Hin.out _); rintro e w3 ⟨rfl, h3⟩; have h4 := h3.symm; subst h4; clear h3)
              by_cases c2 : x ≤ t
              · by_cases c3 : t < x + l
                · have HS2 : Hid (cnt (isBusy L xs t) (k + 1) = m + 1) := by unfold Hid; rw [HS.out, decide_eq_true ⟨hx.1, c2, c3⟩]; rfl
                  go_quiet (fail)
                  have hd : Below wr.heap.size wr (wr.drewN nq) := ⟨rfl, rfl, rfl, Nat.le_refl _, fun _ _ => rfl⟩
                  replace hD := hD.below hd
                  replace hI := (hI.below hd).more hd.size
                  clear p0 x0 y0 hd hws
                  go_wp2_with fail
                  go_roundg (xs.length - (k + 1))
                  case measure => go_light; omega
                  case rel => go_light; exact ⟨k + 1, m + 1, by omega, rfl, by go_num, by go_num, by omega, hD, hI, ⟨HS2.out, HN.out⟩⟩
                · have HS2 : Hid (cnt (isBusy L xs t) (k + 1) = m) := by unfold Hid; rw [HS.out, decide_eq_false (fun h => c3 h.2.2)]; rfl
                  go_quiet (fail)
                  have hd : Below wr.heap.size wr (wr.drewN nq) := ⟨rfl, rfl, rfl, Nat.le_refl _, fun _ _ => rfl⟩
                  replace hD := hD.below hd
                  replace hI := (hI.below hd).more hd.size
                  clear p0 x0 y0 hd hws
                  go_wp2_with fail
                  go_roundg (xs.length - (k + 1))
                  case measure => go_light; omega
                  case rel => go_light; exact ⟨k + 1, m, by omega, rfl, by go_num, rfl, by omega, hD, hI, ⟨HS2.out, HN.out⟩⟩
              · have HS2 : Hid (cnt (isBusy L xs t) (k + 1) = m) := by unfold Hid; rw [HS.out, decide_eq_false (fun h => c2 h.2.1)]; rfl
                have hd2 : decide (x ≤ t) = false := by simpa using c2
                go_quiet (fail)
                have hd : Below wr.heap.size wr (wr.drewN nq) := ⟨rfl, rfl, rfl, Nat.le_refl _, fun _ _ => rfl⟩
                replace hD := hD.below hd
                replace hI := (hI.below hd).more hd.size
                clear p0 x0 y0 hd hws
                go_wp2_with fail
                go_roundg (xs.length - (k + 1))
                case measure => go_light; omega
                case rel => go_light; exact ⟨k + 1, m, by omega, rfl, by go_num, rfl, by omega, hD, hI, ⟨HS2.out, HN.out⟩⟩
          · have hke : k = xs.length := by omega
            have hRm : (m : Int) = R := by rw [← HR2.out (fun i hi => HA.out.2 i (by omega)), ← hke, HA.out.1]
            have hlt' : ¬ (k : Int) < (xs.length : Int) := by omega
            clear hke
            obtain rfl := hRm
            go_wp2_with fail
            go_ret
            exact ⟨rfl, hD.bel⟩
    · obtain rfl : -1 = R := by rw [← HR.out]; unfold busyV fitB; rw [decide_eq_false hle]; simp
      have hlez : ((xs.length : Int) != (L.length : Int)) = true := by simp; omega
      clear hp
      go_enter Try.func74, Try.ntmps74
      go_upto_region 1 with fail
      generalize w.alloc (.cells #[.slice AL L.length cl, .slice AF F.length cf] 25) = W at hD hI ⊢
      have p0 := hD.c0
      have p1 := hD.c1
      go_wp2_with (go_at_call 48; go_fit (sProjectOk_c L F AL AF bl ol cl bf of' cf _ _ hll hlf (Nat.le_refl _) hD.rl hD.rf); rintro e w2 ⟨rfl, hb⟩; rw [Hp.out]; replace hD := hD.below hb; clear p0 p1; have p0 := hD.c0; have p1 := hD.c1)
      go_ret
      exact ⟨rfl, hD.bel⟩
end Go.Proofs.Ytmgikoaeomieeaa
