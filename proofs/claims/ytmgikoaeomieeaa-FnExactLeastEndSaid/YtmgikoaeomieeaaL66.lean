/-
  impl: right begins.
-/
import Derived.Test.YtmgikoaeomieeaaL65
namespace Go.Proofs.Ytmgikoaeomieeaa
set_option linter.unusedVariables false
set_option linter.unusedSimpArgs false
open Go.RowKit Pp

theorem isHands_c (n : Int) (w : World) : Calls Try.prog 60 #[.int .i64 n] w fun e w' => e = .returned (.bool (inB n 1 3)) ∧ w = w' := by
  obtain ⟨r, hr⟩ : ∃ r, inB n 1 3 = r := ⟨_, rfl⟩
  rw [hr]
  have Hr := hide hr
  clear hr
  go_enter Try.func60, Try.ntmps60
  go_wp2_with (go_at_call 80; go_fit (in_c n 1 3 _); rintro e w2 ⟨rfl, rfl⟩; rw [Hr.out])
  go_ret
  exact ⟨rfl, rfl⟩
theorem busyX_c (L F xs : List Int) (t : Int) (hx : xs.length = L.length) (hb : ∀ i, i < L.length → (0 ≤ L.getD i 0 ∧ L.getD i 0 ≤ 100) ∧ (-1 ≤ xs.getD i 0 ∧ xs.getD i 0 ≤ 10000)) (AL AF AX : Option Addr) (bl ol cl bf of' cf bx ox cx B : Nat) (w : World) (hll : L.length ≤ 2000000) (hB : B ≤ w.heap.size) (hl : IntsR w B bl ol AL L) (hf : IntsR w B bf of' AF F) (hX : IntsR w B bx ox AX xs) :
    Calls Try.prog 72 #[.agg #[.slice AL L.length cl, .slice AF F.length cf], .slice AX xs.length cx, .int .i64 t] w fun e w' => e = .returned (.int .i64 (busyN L xs t : Nat)) ∧ Below w.heap.size w w' := by
  rw [hx]
  exact busy_c L F xs t hx hb AL AF AX bl ol cl bf of' cf bx ox cx B w hll hB hl hf hX
theorem endX_c (L F xs : List Int) (hx : xs.length = L.length) (hb : ∀ i, i < L.length → (0 ≤ L.getD i 0 ∧ L.getD i 0 ≤ 100) ∧ (-1 ≤ xs.getD i 0 ∧ xs.getD i 0 ≤ 10000)) (AL AF AX : Option Addr) (bl ol cl bf of' cf bx ox cx B : Nat) (w : World) (hll : L.length ≤ 2000000) (hB : B ≤ w.heap.size) (hl : IntsR w B bl ol AL L) (hf : IntsR w B bf of' AF F) (hX : IntsR w B bx ox AX xs) :
    Calls Try.prog 52 #[.agg #[.slice AL L.length cl, .slice AF F.length cf], .slice AX xs.length cx] w fun e w' => e = .returned (.int .i64 (endOf L xs)) ∧ Below w.heap.size w w' := by
  rw [hx]
  exact end_c L F xs hx hb AL AF AX bl ol cl bf of' cf bx ox cx B w hll hB hl hf hX

def preAt (L F b : List Int) (i k : Nat) : Bool := !aft F i k || decide (b.getD k 0 + L.getD k 0 ≤ b.getD i 0)
def bokAt (L F : List Int) (h : Int) (b : List Int) (i : Nat) : Bool := (List.range i).all (preAt L F b i) && decide ((busyN L b (b.getD i 0) : Int) ≤ h)
theorem beginsOk_eq (L F : List Int) (h : Int) (b : List Int) : beginsOk L F h b = (fitB L F b && inB h 1 3 && (List.range b.length).all (bokAt L F h b)) := rfl
theorem range_all {n : Nat} {f : Nat → Bool} (h : ∀ i, i < n → f i = true) : (List.range n).all f = true := List.all_eq_true.2 (fun i hi => h i (List.mem_range.1 hi))
theorem range_no {n i : Nat} {f : Nat → Bool} (hi : i < n) (h : f i = false) : (List.range n).all f = false := by
  rw [Bool.eq_false_iff]
  intro hh
  have := List.all_eq_true.1 hh i (List.mem_range.2 hi)
  rw [h] at this
  cases this

set_option maxHeartbeats 4000000 in
set_option maxRecDepth 100000 in
theorem beginsOk_c (L F xs : List Int) (h : Int) (AL AF AX : Option Addr) (bl ol cl bf of' cf bx ox cx B : Nat) (w : World) (hll : L.length ≤ 2000000) (hlf : F.length ≤ 2000000) (hlx : xs.length ≤ 2000000) (hB : B ≤ w.heap.size) (hl : IntsR w B bl ol AL L) (hf : IntsR w B bf of' AF F) (hX : IntsR w B bx ox AX xs) :
    Calls Try.prog 33 #[.agg #[.slice AL L.length cl, .slice AF F.length cf], .int .i64 h, .slice AX xs.length cx] w fun e w' => e = .returned (.bool (beginsOk L F h xs)) ∧ Below w.heap.size w w' := by
  obtain ⟨r, Hr⟩ : ∃ r, Hid (beginsOk L F h xs = r) := ⟨_, rfl⟩
  rw [Hr.out]
  have hD := pj_new (t := 25) (cl := cl) (cf := cf) hB hl hf
  have hI := (hX.below (hD.bel.mono hB)).more (Nat.le_trans hB hD.bel.size)
  clear hl hf hB hX
  cases hp : fitB L F xs
  · obtain rfl : r = false := by rw [← Hr.out, beginsOk_eq, hp]; rfl
    have Hp := hide hp
    clear hp
    go_enter Try.func33, Try.ntmps33
    go_upto_region 1 with fail
    generalize w.alloc (.cells #[.slice AL L.length cl, .slice AF F.length cf] 25) = W at hD hI ⊢
    have p0 := hD.c0
    have p1 := hD.c1
    go_wp2_with (go_at_call 71; go_fit (beginsFit_c L F xs AL AF AX bl ol cl bf of' cf bx ox cx _ _ hll hlf hlx (Nat.le_refl _) hD.rl hD.rf hI); rintro e w2 ⟨rfl, hb⟩; rw [Hp.out]; replace hD := hD.below hb; clear p0 p1; have p0 := hD.c0; have p1 := hD.c1)
    go_ret
    exact ⟨rfl, hD.bel⟩
  · cases hh : inB h 1 3
    · obtain rfl : r = false := by rw [← Hr.out, beginsOk_eq, hp, hh]; rfl
      have Hp := hide hp
      have Hh := hide hh
      clear hp hh
      go_enter Try.func33, Try.ntmps33
      go_upto_region 1 with fail
      generalize w.alloc (.cells #[.slice AL L.length cl, .slice AF F.length cf] 25) = W at hD hI ⊢
      have p0 := hD.c0
      have p1 := hD.c1
      go_wp2_with (first
        | (go_at_call 71; go_fit (beginsFit_c L F xs AL AF AX bl ol cl bf of' cf bx ox cx _ _ hll hlf hlx (Nat.le_refl _) hD.rl hD.rf hI); rintro e w2 ⟨rfl, hb⟩; rw [Hp.out]; replace hD := hD.below hb; clear p0 p1; have p0 := hD.c0; have p1 := hD.c1)
        | (go_at_call 60; go_fit (isHands_c h _); rintro e w3 ⟨rfl, rfl⟩; rw [Hh.out]))
      go_ret
      exact ⟨rfl, hD.bel⟩
    · have Hal := hide (fit_all hp)
      have Hok := hide (fitB_iff.1 hp).1
      have Hxl := hide (fitB_iff.1 hp).2.1
      have hh3 := inB_iff.1 hh
      have hx6 : xs.length ≤ 6 := by have := (projOk_iff.1 Hok.out).1; have := Hxl.out; omega
      have hf6 : F.length ≤ 6 := by have := (projOk_iff.1 Hok.out).2.1; have := Hxl.out; omega
      have Hre : Hid ((List.range xs.length).all (bokAt L F h xs) = r) := by unfold Hid; rw [← Hr.out, beginsOk_eq, hp, hh]; rfl
      have Hp := hide hp
      have Hh := hide hh
      clear hp hh Hr
      go_enter Try.func33, Try.ntmps33
      go_upto_region 1 with fail
      generalize w.alloc (.cells #[.slice AL L.length cl, .slice AF F.length cf] 25) = W at hD hI ⊢
      have p0 := hD.c0
      have p1 := hD.c1
      go_upto_region 3 with (first
        | (go_at_call 71; go_fit (beginsFit_c L F xs AL AF AX bl ol cl bf of' cf bx ox cx _ _ hll hlf hlx (Nat.le_refl _) hD.rl hD.rf hI); rintro e w2 ⟨rfl, hb⟩; rw [Hp.out]; replace hI := (hI.below hb).more hb.size; replace hD := hD.below hb; clear p0 p1; have p0 := hD.c0; have p1 := hD.c1)
        | (go_at_call 60; go_fit (isHands_c h _); rintro e w3 ⟨rfl, rfl⟩; rw [Hh.out]))
      clear p0 p1
      go_wp2_with fail
      go_loopg [21] xs.length (fun gh s wr => ∃ i : Nat, i ≤ xs.length ∧ gh = xs.length - i ∧ s = .int .i64 i ∧ PJ w wr w.heap.size bl ol AL cl L bf of' AF cf F ∧ IntsR wr wr.heap.size bx ox AX xs ∧ Hid (∀ j, j < i → bokAt L F h xs j = true))
      case atStart => exact ⟨0, Nat.zero_le _, rfl, rfl, hD, hI, fun j hj => by omega⟩
      case round =>
        clear hD hI
        obtain ⟨i, hi, rfl, rfl, hD, hI, HA⟩ := hrel
        by_cases hlt : i < xs.length
        · have hlt' : (i : Int) < (xs.length : Int) := by omega
          have hiL : i < L.length := by have := Hxl.out; omega
          obtain rfl := hI.addr (by omega)
          have x0 := hI.cell i hlt
          have hxb := (Hal.out i hiL).2
          obtain ⟨v, hv⟩ : ∃ v, xs.getD i 0 = v := ⟨_, rfl⟩
          rw [hv] at x0 hxb
          have Hv := hide hv
          clear hv
          go_wp2_with fail
          go_loopg [27] i (fun gh s wi => ∃ k : Nat, k ≤ i ∧ gh = i - k ∧ s = .int .i64 k ∧ PJ w wi w.heap.size bl ol AL cl L bf of' AF cf F ∧ IntsR wi wi.heap.size bx ox (some ⟨bx, ox, none⟩) xs ∧ Hid (∀ j, j < k → preAt L F xs i j = true))
          case atStart => exact ⟨0, Nat.zero_le _, rfl, rfl, hD, hI, fun j hj => by omega⟩
          case round =>
            clear hD hI x0
            obtain ⟨k, hk, rfl, rfl, hD, hI, HB⟩ := hrel
            have p0 := hD.c0
            have p1 := hD.c1
            by_cases hki : k < i
            · have hki' : (k : Int) < (i : Int) := by omega
              have hkx : (k : Int) < (xs.length : Int) := by omega
              have hkL : (k : Int) < (L.length : Int) := by omega
              obtain rfl := hD.rl.addr (by omega)
              have y0 := hD.rl.cell k (by omega)
              have x0 := hI.cell k (by omega)
              have hbk := Hal.out k (by omega)
              have hbits := proj_bits Hok.out (show i < F.length by have := (projOk_iff.1 Hok.out).2.1; omega)
              have HP : Hid (preAt L F xs i k = (!aft F i k || decide (xs.getD k 0 + L.getD k 0 ≤ v))) := by unfold Hid preAt; rw [Hv.out]
              generalize xs.getD k 0 = x at x0 hbk HP
              generalize L.getD k 0 = l at y0 hbk HP
              obtain ⟨⟨l0, l1⟩, ⟨z0, z1⟩⟩ := hbk
              have hws : IntKind.i64.wrap (x + l) = x + l := IntWalk.i64_in _ (by omega)
              have hDd := hD.drew
              have hId := hI.below (show Below wr.heap.size wr wr.drew by go_grown)
              have hbx : bx < wr.drew.heap.size := by have := hI.lt (by omega); simpa using this
              have hbl : bl < wr.drew.heap.size := by have := hD.rl.lt (by omega); simpa using this
              cases ha : aft F i k
              · have Ha := hide ha
                have HN : Hid (∀ j, j < k + 1 → preAt L F xs i j = true) := by
                  intro j hj
                  by_cases e : j = k
                  · subst e; rw [HP.out, ha]; rfl
                  · exact HB.out j (by omega)
                clear ha
                go_upto_region 9 with fail
                have hS0 : wr.drew.cell? ⟨w.heap.size, 0, none⟩ = some (.slice (some ⟨bl, ol, none⟩) L.length cl) ∧ wr.drew.cell? ⟨w.heap.size, 1, none⟩ = some (.slice AF F.length cf) ∧ wr.drew.cell? ⟨bx, ox + k, none⟩ = some (.int .i64 x) ∧ wr.drew.cell? ⟨bl, ol + k, none⟩ = some (.int .i64 l) := ⟨p0, p1, x0, y0⟩
                refine wp_regionE (fun w' => w'.cell? ⟨w.heap.size, 0, none⟩ = some (.slice (some ⟨bl, ol, none⟩) L.length cl) ∧ w'.cell? ⟨w.heap.size, 1, none⟩ = some (.slice AF F.length cf) ∧ w'.cell? ⟨bx, ox + k, none⟩ = some (.int .i64 x) ∧ w'.cell? ⟨bl, ol + k, none⟩ = some (.int .i64 l)) 17 (by kernel_rfl) ?_
                change wpE _ _ _ _ _ _ 18 #[false, false, false, false, false, false, false, false, false, false, false, false, false, false, false, false, false, false] _ _
                refine wpE_take' (v := ?_) 0 [3, 4, 17] (of_decide_eq_true (by kernel_rfl)) (by kernel_rfl) (by kernel_rfl) (by kernel_rfl) (by kernel_rfl) (fun _ _ _ h => h) (by kernel_rfl) ?_ hS0 ?_
                rotate_left
                · intro w' hSw
                  simp only [List.getElem_toArray, List.getElem_cons_succ, List.getElem_cons_zero]
                  go_simp
                  all_goals with_reducible rfl
                simp only [List.getElem_toArray, List.getElem_cons_succ, List.getElem_cons_zero, Act.put, List.setIfInBounds_toArray, List.set_cons_zero, List.set_cons_succ]
                refine wpE_take' (v := ?_) 1 [3, 4, 17] (of_decide_eq_true (by kernel_rfl)) (by kernel_rfl) (by kernel_rfl) (by kernel_rfl) (by kernel_rfl) (fun _ _ _ h => h) (by kernel_rfl) ?_ hS0 ?_
                rotate_left
                · intro w' hSw
                  simp only [List.getElem_toArray, List.getElem_cons_succ, List.getElem_cons_zero]
                  go_simp
                  all_goals with_reducible rfl
                simp only [List.getElem_toArray, List.getElem_cons_succ, List.getElem_cons_zero, Act.put, List.setIfInBounds_toArray, List.set_cons_zero, List.set_cons_succ]
                refine wpE_take' (v := ?_) 2 [3, 4, 17] (of_decide_eq_true (by kernel_rfl)) (by kernel_rfl) (by kernel_rfl) (by kernel_rfl) (by kernel_rfl) (fun _ _ _ h => h) (by kernel_rfl) ?_ hS0 ?_
                rotate_left
                · intro w' hSw
                  simp only [List.getElem_toArray, List.getElem_cons_succ, List.getElem_cons_zero]
                  go_simp
                  all_goals with_reducible rfl
                simp only [List.getElem_toArray, List.getElem_cons_succ, List.getElem_cons_zero, Act.put, List.setIfInBounds_toArray, List.set_cons_zero, List.set_cons_succ]
                refine wpE_step' 3 (of_decide_eq_true (by kernel_rfl)) (by kernel_rfl) (by kernel_rfl) (fun K hK => ?_)
                simp only [List.getElem_toArray, List.getElem_cons_succ, List.getElem_cons_zero]
                go_simp
                go_at_call 46
                refine (after_c L F i k (by have := (projOk_iff.1 Hok.out).2.1; omega) (by omega) hbits _ AF bl ol cl bf of' cf _ _ (by omega) (Nat.le_refl _) hDd.rl hDd.rf).mono ?_
                rintro e w2 ⟨rfl, hb2⟩
                rw [Ha.out]
                have hD2 := hDd.below hb2
                have hI2 := (hId.below hb2).more hb2.size
                clear hS0
                have hS0 : w2.cell? ⟨w.heap.size, 0, none⟩ = some (.slice (some ⟨bl, ol, none⟩) L.length cl) ∧ w2.cell? ⟨w.heap.size, 1, none⟩ = some (.slice AF F.length cf) ∧ w2.cell? ⟨bx, ox + k, none⟩ = some (.int .i64 x) ∧ w2.cell? ⟨bl, ol + k, none⟩ = some (.int .i64 l) := ⟨hD2.c0, hD2.c1, ((bcell hb2).1 bx (ox + k) hbx).trans x0, ((bcell hb2).1 bl (ol + k) hbl).trans y0⟩
                refine hK.out _ _ (.inr hS0) ?_
                clear hK K
                simp only [Act.put, List.setIfInBounds_toArray, List.set_cons_zero, List.set_cons_succ]
                refine wpE_take' (v := ?_) 4 [17] (of_decide_eq_true (by kernel_rfl)) (by kernel_rfl) (by kernel_rfl) (by kernel_rfl) (by kernel_rfl) (fun _ _ _ h => h) (by kernel_rfl) ?_ hS0 ?_
                rotate_left
                · intro w' hSw
                  simp only [List.getElem_toArray, List.getElem_cons_succ, List.getElem_cons_zero]
                  go_simp
                  all_goals with_reducible rfl
                simp only [List.getElem_toArray, List.getElem_cons_succ, List.getElem_cons_zero, Act.put, List.setIfInBounds_toArray, List.set_cons_zero, List.set_cons_succ]
                refine wpE_skip' 5 [16, 17] (of_decide_eq_true (by kernel_rfl)) (by kernel_rfl) (by kernel_rfl) (by kernel_rfl) (by kernel_rfl) (fun _ _ _ h => h) rfl hS0 ?_
                simp only [List.getElem_toArray, List.getElem_cons_succ, List.getElem_cons_zero, Act.put, List.setIfInBounds_toArray, List.set_cons_zero, List.set_cons_succ]
                refine wpE_skip' 6 [8, 9, 15, 16, 17] (of_decide_eq_true (by kernel_rfl)) (by kernel_rfl) (by kernel_rfl) (by kernel_rfl) (by kernel_rfl) (fun _ _ _ h => h) rfl hS0 ?_
                simp only [List.getElem_toArray, List.getElem_cons_succ, List.getElem_cons_zero, Act.put, List.setIfInBounds_toArray, List.set_cons_zero, List.set_cons_succ]
                refine wpE_skip' 7 [8, 9, 15, 16, 17] (of_decide_eq_true (by kernel_rfl)) (by kernel_rfl) (by kernel_rfl) (by kernel_rfl) (by kernel_rfl) (fun _ _ _ h => h) rfl hS0 ?_
                simp only [List.getElem_toArray, List.getElem_cons_succ, List.getElem_cons_zero, Act.put, List.setIfInBounds_toArray, List.set_cons_zero, List.set_cons_succ]
                refine wpE_skip' 8 [9, 15, 16, 17] (of_decide_eq_true (by kernel_rfl)) (by kernel_rfl) (by kernel_rfl) (by kernel_rfl) (by kernel_rfl) (fun _ _ _ h => h) rfl hS0 ?_
                simp only [List.getElem_toArray, List.getElem_cons_succ, List.getElem_cons_zero, Act.put, List.setIfInBounds_toArray, List.set_cons_zero, List.set_cons_succ]
                refine wpE_skip' 9 [15, 16, 17] (of_decide_eq_true (by kernel_rfl)) (by kernel_rfl) (by kernel_rfl) (by kernel_rfl) (by kernel_rfl) (fun _ _ _ h => h) rfl hS0 ?_
                simp only [List.getElem_toArray, List.getElem_cons_succ, List.getElem_cons_zero, Act.put, List.setIfInBounds_toArray, List.set_cons_zero, List.set_cons_succ]
                refine wpE_skip' 10 [11, 13, 14, 15, 16, 17] (of_decide_eq_true (by kernel_rfl)) (by kernel_rfl) (by kernel_rfl) (by kernel_rfl) (by kernel_rfl) (fun _ _ _ h => h) rfl hS0 ?_
                simp only [List.getElem_toArray, List.getElem_cons_succ, List.getElem_cons_zero, Act.put, List.setIfInBounds_toArray, List.set_cons_zero, List.set_cons_succ]
                refine wpE_skip' 11 [13, 14, 15, 16, 17] (of_decide_eq_true (by kernel_rfl)) (by kernel_rfl) (by kernel_rfl) (by kernel_rfl) (by kernel_rfl) (fun _ _ _ h => h) rfl hS0 ?_
                simp only [List.getElem_toArray, List.getElem_cons_succ, List.getElem_cons_zero, Act.put, List.setIfInBounds_toArray, List.set_cons_zero, List.set_cons_succ]
                refine wpE_skip' 12 [13, 14, 15, 16, 17] (of_decide_eq_true (by kernel_rfl)) (by kernel_rfl) (by kernel_rfl) (by kernel_rfl) (by kernel_rfl) (fun _ _ _ h => h) rfl hS0 ?_
                simp only [List.getElem_toArray, List.getElem_cons_succ, List.getElem_cons_zero, Act.put, List.setIfInBounds_toArray, List.set_cons_zero, List.set_cons_succ]
                refine wpE_skip' 13 [14, 15, 16, 17] (of_decide_eq_true (by kernel_rfl)) (by kernel_rfl) (by kernel_rfl) (by kernel_rfl) (by kernel_rfl) (fun _ _ _ h => h) rfl hS0 ?_
                simp only [List.getElem_toArray, List.getElem_cons_succ, List.getElem_cons_zero, Act.put, List.setIfInBounds_toArray, List.set_cons_zero, List.set_cons_succ]
                refine wpE_skip' 14 [15, 16, 17] (of_decide_eq_true (by kernel_rfl)) (by kernel_rfl) (by kernel_rfl) (by kernel_rfl) (by kernel_rfl) (fun _ _ _ h => h) rfl hS0 ?_
                simp only [List.getElem_toArray, List.getElem_cons_succ, List.getElem_cons_zero, Act.put, List.setIfInBounds_toArray, List.set_cons_zero, List.set_cons_succ]
                refine wpE_skip' 15 [16, 17] (of_decide_eq_true (by kernel_rfl)) (by kernel_rfl) (by kernel_rfl) (by kernel_rfl) (by kernel_rfl) (fun _ _ _ h => h) rfl hS0 ?_
                simp only [List.getElem_toArray, List.getElem_cons_succ, List.getElem_cons_zero, Act.put, List.setIfInBounds_toArray, List.set_cons_zero, List.set_cons_succ]
                refine wpE_skip' 16 [17] (of_decide_eq_true (by kernel_rfl)) (by kernel_rfl) (by kernel_rfl) (by kernel_rfl) (by kernel_rfl) (fun _ _ _ h => h) rfl hS0 ?_
                simp only [List.getElem_toArray, List.getElem_cons_succ, List.getElem_cons_zero, Act.put, List.setIfInBounds_toArray, List.set_cons_zero, List.set_cons_succ]
                refine wpE_step' 17 (of_decide_eq_true (by kernel_rfl)) (by kernel_rfl) (by kernel_rfl) (fun K hK => ?_)
                simp only [List.getElem_toArray, List.getElem_cons_succ, List.getElem_cons_zero]
                go_simp
                refine hK.out _ _ (.inl rfl) ?_
                clear hK K
                simp only [Act.put, List.setIfInBounds_toArray, List.set_cons_zero, List.set_cons_succ]
                refine wpE_done (by kernel_rfl) ?_ _
                clear hS0 x0 y0 p0 p1 hDd hId hws
                go_wp2_with fail
                go_roundg (i - (k + 1))
                case measure => go_light; omega
                case rel => go_light; exact ⟨k + 1, by omega, rfl, by go_num, hD2, hI2, HN⟩
              · have Ha := hide ha
                by_cases hc : v < x + l
                · obtain rfl : r = false := by
                    rw [← Hre.out]
                    refine range_no hlt ?_
                    unfold bokAt
                    rw [range_no hki (by rw [HP.out, ha, decide_eq_false (by omega)]; rfl)]; rfl
                  clear ha
                  go_upto_region 9 with fail
                  have hS0 : wr.drew.cell? ⟨w.heap.size, 0, none⟩ = some (.slice (some ⟨bl, ol, none⟩) L.length cl) ∧ wr.drew.cell? ⟨w.heap.size, 1, none⟩ = some (.slice AF F.length cf) ∧ wr.drew.cell? ⟨bx, ox + k, none⟩ = some (.int .i64 x) ∧ wr.drew.cell? ⟨bl, ol + k, none⟩ = some (.int .i64 l) := ⟨p0, p1, x0, y0⟩
                  refine wp_regionE (fun w' => w'.cell? ⟨w.heap.size, 0, none⟩ = some (.slice (some ⟨bl, ol, none⟩) L.length cl) ∧ w'.cell? ⟨w.heap.size, 1, none⟩ = some (.slice AF F.length cf) ∧ w'.cell? ⟨bx, ox + k, none⟩ = some (.int .i64 x) ∧ w'.cell? ⟨bl, ol + k, none⟩ = some (.int .i64 l)) 17 (by kernel_rfl) ?_
                  change wpE _ _ _ _ _ _ 18 #[false, false, false, false, false, false, false, false, false, false, false, false, false, false, false, false, false, false] _ _
                  refine wpE_take' (v := ?_) 0 [3, 4, 17] (of_decide_eq_true (by kernel_rfl)) (by kernel_rfl) (by kernel_rfl) (by kernel_rfl) (by kernel_rfl) (fun _ _ _ h => h) (by kernel_rfl) ?_ hS0 ?_
                  rotate_left
                  · intro w' hSw
                    simp only [List.getElem_toArray, List.getElem_cons_succ, List.getElem_cons_zero]
                    go_simp
                    all_goals with_reducible rfl
                  simp only [List.getElem_toArray, List.getElem_cons_succ, List.getElem_cons_zero, Act.put, List.setIfInBounds_toArray, List.set_cons_zero, List.set_cons_succ]
                  refine wpE_take' (v := ?_) 1 [3, 4, 17] (of_decide_eq_true (by kernel_rfl)) (by kernel_rfl) (by kernel_rfl) (by kernel_rfl) (by kernel_rfl) (fun _ _ _ h => h) (by kernel_rfl) ?_ hS0 ?_
                  rotate_left
                  · intro w' hSw
                    simp only [List.getElem_toArray, List.getElem_cons_succ, List.getElem_cons_zero]
                    go_simp
                    all_goals with_reducible rfl
                  simp only [List.getElem_toArray, List.getElem_cons_succ, List.getElem_cons_zero, Act.put, List.setIfInBounds_toArray, List.set_cons_zero, List.set_cons_succ]
                  refine wpE_take' (v := ?_) 2 [3, 4, 17] (of_decide_eq_true (by kernel_rfl)) (by kernel_rfl) (by kernel_rfl) (by kernel_rfl) (by kernel_rfl) (fun _ _ _ h => h) (by kernel_rfl) ?_ hS0 ?_
                  rotate_left
                  · intro w' hSw
                    simp only [List.getElem_toArray, List.getElem_cons_succ, List.getElem_cons_zero]
                    go_simp
                    all_goals with_reducible rfl
                  simp only [List.getElem_toArray, List.getElem_cons_succ, List.getElem_cons_zero, Act.put, List.setIfInBounds_toArray, List.set_cons_zero, List.set_cons_succ]
                  refine wpE_step' 3 (of_decide_eq_true (by kernel_rfl)) (by kernel_rfl) (by kernel_rfl) (fun K hK => ?_)
                  simp only [List.getElem_toArray, List.getElem_cons_succ, List.getElem_cons_zero]
                  go_simp
                  go_at_call 46
                  refine (after_c L F i k (by have := (projOk_iff.1 Hok.out).2.1; omega) (by omega) hbits _ AF bl ol cl bf of' cf _ _ (by omega) (Nat.le_refl _) hDd.rl hDd.rf).mono ?_
                  rintro e w2 ⟨rfl, hb2⟩
                  rw [Ha.out]
                  have hD2 := hDd.below hb2
                  have hI2 := (hId.below hb2).more hb2.size
                  clear hS0
                  have hS0 : w2.cell? ⟨w.heap.size, 0, none⟩ = some (.slice (some ⟨bl, ol, none⟩) L.length cl) ∧ w2.cell? ⟨w.heap.size, 1, none⟩ = some (.slice AF F.length cf) ∧ w2.cell? ⟨bx, ox + k, none⟩ = some (.int .i64 x) ∧ w2.cell? ⟨bl, ol + k, none⟩ = some (.int .i64 l) := ⟨hD2.c0, hD2.c1, ((bcell hb2).1 bx (ox + k) hbx).trans x0, ((bcell hb2).1 bl (ol + k) hbl).trans y0⟩
                  refine hK.out _ _ (.inr hS0) ?_
                  clear hK K
                  simp only [Act.put, List.setIfInBounds_toArray, List.set_cons_zero, List.set_cons_succ]
                  refine wpE_take' (v := ?_) 4 [17] (of_decide_eq_true (by kernel_rfl)) (by kernel_rfl) (by kernel_rfl) (by kernel_rfl) (by kernel_rfl) (fun _ _ _ h => h) (by kernel_rfl) ?_ hS0 ?_
                  rotate_left
                  · intro w' hSw
                    simp only [List.getElem_toArray, List.getElem_cons_succ, List.getElem_cons_zero]
                    go_simp
                    all_goals with_reducible rfl
                  simp only [List.getElem_toArray, List.getElem_cons_succ, List.getElem_cons_zero, Act.put, List.setIfInBounds_toArray, List.set_cons_zero, List.set_cons_succ]
                  refine wpE_takeG' (v := ?_) 5 [16, 17] (of_decide_eq_true (by kernel_rfl)) (by kernel_rfl) (by kernel_rfl) (by kernel_rfl) (by kernel_rfl) (fun _ _ _ h => h) rfl ?_ hS0 ?_
                  rotate_left
                  · intro w' hSw
                    simp only [List.getElem_toArray, List.getElem_cons_succ, List.getElem_cons_zero]
                    go_simp
                    all_goals with_reducible rfl
                  simp only [List.getElem_toArray, List.getElem_cons_succ, List.getElem_cons_zero, Act.put, List.setIfInBounds_toArray, List.set_cons_zero, List.set_cons_succ]
                  refine wpE_takeG' (v := ?_) 6 [8, 9, 15, 16, 17] (of_decide_eq_true (by kernel_rfl)) (by kernel_rfl) (by kernel_rfl) (by kernel_rfl) (by kernel_rfl) (fun _ _ _ h => h) rfl ?_ hS0 ?_
                  rotate_left
                  · intro w' hSw
                    simp only [List.getElem_toArray, List.getElem_cons_succ, List.getElem_cons_zero]
                    go_simp
                    all_goals with_reducible rfl
                  simp only [List.getElem_toArray, List.getElem_cons_succ, List.getElem_cons_zero, Act.put, List.setIfInBounds_toArray, List.set_cons_zero, List.set_cons_succ]
                  refine wpE_takeG' (v := ?_) 7 [8, 9, 15, 16, 17] (of_decide_eq_true (by kernel_rfl)) (by kernel_rfl) (by kernel_rfl) (by kernel_rfl) (by kernel_rfl) (fun _ _ _ h => h) rfl ?_ hS0 ?_
                  rotate_left
                  · intro w' hSw
                    simp only [List.getElem_toArray, List.getElem_cons_succ, List.getElem_cons_zero]
                    go_simp
                    all_goals with_reducible rfl
                  simp only [List.getElem_toArray, List.getElem_cons_succ, List.getElem_cons_zero, Act.put, List.setIfInBounds_toArray, List.set_cons_zero, List.set_cons_succ]
                  refine wpE_takeG' (v := ?_) 8 [9, 15, 16, 17] (of_decide_eq_true (by kernel_rfl)) (by kernel_rfl) (by kernel_rfl) (by kernel_rfl) (by kernel_rfl) (fun _ _ _ h => h) rfl ?_ hS0 ?_
                  rotate_left
                  · intro w' hSw
                    simp only [List.getElem_toArray, List.getElem_cons_succ, List.getElem_cons_zero]
                    go_simp
                    all_goals with_reducible rfl
                  simp only [List.getElem_toArray, List.getElem_cons_succ, List.getElem_cons_zero, Act.put, List.setIfInBounds_toArray, List.set_cons_zero, List.set_cons_succ]
                  refine wpE_takeG' (v := ?_) 9 [15, 16, 17] (of_decide_eq_true (by kernel_rfl)) (by kernel_rfl) (by kernel_rfl) (by kernel_rfl) (by kernel_rfl) (fun _ _ _ h => h) rfl ?_ hS0 ?_
                  rotate_left
                  · intro w' hSw
                    simp only [List.getElem_toArray, List.getElem_cons_succ, List.getElem_cons_zero]
                    go_simp
                    all_goals with_reducible rfl
                  simp only [List.getElem_toArray, List.getElem_cons_succ, List.getElem_cons_zero, Act.put, List.setIfInBounds_toArray, List.set_cons_zero, List.set_cons_succ]
                  refine wpE_takeG' (v := ?_) 10 [11, 13, 14, 15, 16, 17] (of_decide_eq_true (by kernel_rfl)) (by kernel_rfl) (by kernel_rfl) (by kernel_rfl) (by kernel_rfl) (fun _ _ _ h => h) rfl ?_ hS0 ?_
                  rotate_left
                  · intro w' hSw
                    simp only [List.getElem_toArray, List.getElem_cons_succ, List.getElem_cons_zero]
                    go_simp
                    all_goals with_reducible rfl
                  simp only [List.getElem_toArray, List.getElem_cons_succ, List.getElem_cons_zero, Act.put, List.setIfInBounds_toArray, List.set_cons_zero, List.set_cons_succ]
                  refine wpE_takeG' (v := ?_) 11 [13, 14, 15, 16, 17] (of_decide_eq_true (by kernel_rfl)) (by kernel_rfl) (by kernel_rfl) (by kernel_rfl) (by kernel_rfl) (fun _ _ _ h => h) rfl ?_ hS0 ?_
                  rotate_left
                  · intro w' hSw
                    simp only [List.getElem_toArray, List.getElem_cons_succ, List.getElem_cons_zero]
                    go_simp
                    all_goals with_reducible rfl
                  simp only [List.getElem_toArray, List.getElem_cons_succ, List.getElem_cons_zero, Act.put, List.setIfInBounds_toArray, List.set_cons_zero, List.set_cons_succ]
                  refine wpE_takeG' (v := ?_) 12 [13, 14, 15, 16, 17] (of_decide_eq_true (by kernel_rfl)) (by kernel_rfl) (by kernel_rfl) (by kernel_rfl) (by kernel_rfl) (fun _ _ _ h => h) rfl ?_ hS0 ?_
                  rotate_left
                  · intro w' hSw
                    simp only [List.getElem_toArray, List.getElem_cons_succ, List.getElem_cons_zero]
                    go_simp
                    all_goals with_reducible rfl
                  simp only [List.getElem_toArray, List.getElem_cons_succ, List.getElem_cons_zero, Act.put, List.setIfInBounds_toArray, List.set_cons_zero, List.set_cons_succ]
                  refine wpE_takeG' (v := ?_) 13 [14, 15, 16, 17] (of_decide_eq_true (by kernel_rfl)) (by kernel_rfl) (by kernel_rfl) (by kernel_rfl) (by kernel_rfl) (fun _ _ _ h => h) rfl ?_ hS0 ?_
                  rotate_left
                  · intro w' hSw
                    simp only [List.getElem_toArray, List.getElem_cons_succ, List.getElem_cons_zero]
                    go_simp
                    all_goals with_reducible rfl
                  simp only [List.getElem_toArray, List.getElem_cons_succ, List.getElem_cons_zero, Act.put, List.setIfInBounds_toArray, List.set_cons_zero, List.set_cons_succ]
                  refine wpE_takeG' (v := ?_) 14 [15, 16, 17] (of_decide_eq_true (by kernel_rfl)) (by kernel_rfl) (by kernel_rfl) (by kernel_rfl) (by kernel_rfl) (fun _ _ _ h => h) rfl ?_ hS0 ?_
                  rotate_left
                  · intro w' hSw
                    simp only [List.getElem_toArray, List.getElem_cons_succ, List.getElem_cons_zero]
                    go_simp
                    all_goals with_reducible rfl
                  simp only [List.getElem_toArray, List.getElem_cons_succ, List.getElem_cons_zero, Act.put, List.setIfInBounds_toArray, List.set_cons_zero, List.set_cons_succ]
                  refine wpE_takeG' (v := ?_) 15 [16, 17] (of_decide_eq_true (by kernel_rfl)) (by kernel_rfl) (by kernel_rfl) (by kernel_rfl) (by kernel_rfl) (fun _ _ _ h => h) rfl ?_ hS0 ?_
                  rotate_left
                  · intro w' hSw
                    simp only [List.getElem_toArray, List.getElem_cons_succ, List.getElem_cons_zero]
                    go_simp
                    all_goals with_reducible rfl
                  simp only [List.getElem_toArray, List.getElem_cons_succ, List.getElem_cons_zero, Act.put, List.setIfInBounds_toArray, List.set_cons_zero, List.set_cons_succ]
                  refine wpE_takeG' (v := ?_) 16 [17] (of_decide_eq_true (by kernel_rfl)) (by kernel_rfl) (by kernel_rfl) (by kernel_rfl) (by kernel_rfl) (fun _ _ _ h => h) rfl ?_ hS0 ?_
                  rotate_left
                  · intro w' hSw
                    simp only [List.getElem_toArray, List.getElem_cons_succ, List.getElem_cons_zero]
                    go_simp
                    all_goals with_reducible rfl
                  simp only [List.getElem_toArray, List.getElem_cons_succ, List.getElem_cons_zero, Act.put, List.setIfInBounds_toArray, List.set_cons_zero, List.set_cons_succ]
                  refine wpE_step' 17 (of_decide_eq_true (by kernel_rfl)) (by kernel_rfl) (by kernel_rfl) (fun K hK => ?_)
                  simp only [List.getElem_toArray, List.getElem_cons_succ, List.getElem_cons_zero]
                  go_simp
                  refine hK.out _ _ (.inl rfl) ?_
                  clear hK K
                  simp only [Act.put, List.setIfInBounds_toArray, List.set_cons_zero, List.set_cons_succ]
                  refine wpE_done (by kernel_rfl) ?_ _
                  go_wp2_with fail
                  go_ret
                  exact ⟨rfl, hD2.bel⟩
                · have HN : Hid (∀ j, j < k + 1 → preAt L F xs i j = true) := by
                    intro j hj
                    by_cases e : j = k
                    · subst e; rw [HP.out, ha, decide_eq_true (show x + l ≤ v by omega)]; rfl
                    · exact HB.out j (by omega)
                  clear ha
                  go_upto_region 9 with fail
                  have hS0 : wr.drew.cell? ⟨w.heap.size, 0, none⟩ = some (.slice (some ⟨bl, ol, none⟩) L.length cl) ∧ wr.drew.cell? ⟨w.heap.size, 1, none⟩ = some (.slice AF F.length cf) ∧ wr.drew.cell? ⟨bx, ox + k, none⟩ = some (.int .i64 x) ∧ wr.drew.cell? ⟨bl, ol + k, none⟩ = some (.int .i64 l) := ⟨p0, p1, x0, y0⟩
                  refine wp_regionE (fun w' => w'.cell? ⟨w.heap.size, 0, none⟩ = some (.slice (some ⟨bl, ol, none⟩) L.length cl) ∧ w'.cell? ⟨w.heap.size, 1, none⟩ = some (.slice AF F.length cf) ∧ w'.cell? ⟨bx, ox + k, none⟩ = some (.int .i64 x) ∧ w'.cell? ⟨bl, ol + k, none⟩ = some (.int .i64 l)) 17 (by kernel_rfl) ?_
                  change wpE _ _ _ _ _ _ 18 #[false, false, false, false, false, false, false, false, false, false, false, false, false, false, false, false, false, false] _ _
                  refine wpE_take' (v := ?_) 0 [3, 4, 17] (of_decide_eq_true (by kernel_rfl)) (by kernel_rfl) (by kernel_rfl) (by kernel_rfl) (by kernel_rfl) (fun _ _ _ h => h) (by kernel_rfl) ?_ hS0 ?_
                  rotate_left
                  · intro w' hSw
                    simp only [List.getElem_toArray, List.getElem_cons_succ, List.getElem_cons_zero]
                    go_simp
                    all_goals with_reducible rfl
                  simp only [List.getElem_toArray, List.getElem_cons_succ, List.getElem_cons_zero, Act.put, List.setIfInBounds_toArray, List.set_cons_zero, List.set_cons_succ]
                  refine wpE_take' (v := ?_) 1 [3, 4, 17] (of_decide_eq_true (by kernel_rfl)) (by kernel_rfl) (by kernel_rfl) (by kernel_rfl) (by kernel_rfl) (fun _ _ _ h => h) (by kernel_rfl) ?_ hS0 ?_
                  rotate_left
                  · intro w' hSw
                    simp only [List.getElem_toArray, List.getElem_cons_succ, List.getElem_cons_zero]
                    go_simp
                    all_goals with_reducible rfl
                  simp only [List.getElem_toArray, List.getElem_cons_succ, List.getElem_cons_zero, Act.put, List.setIfInBounds_toArray, List.set_cons_zero, List.set_cons_succ]
                  refine wpE_take' (v := ?_) 2 [3, 4, 17] (of_decide_eq_true (by kernel_rfl)) (by kernel_rfl) (by kernel_rfl) (by kernel_rfl) (by kernel_rfl) (fun _ _ _ h => h) (by kernel_rfl) ?_ hS0 ?_
                  rotate_left
                  · intro w' hSw
                    simp only [List.getElem_toArray, List.getElem_cons_succ, List.getElem_cons_zero]
                    go_simp
                    all_goals with_reducible rfl
                  simp only [List.getElem_toArray, List.getElem_cons_succ, List.getElem_cons_zero, Act.put, List.setIfInBounds_toArray, List.set_cons_zero, List.set_cons_succ]
                  refine wpE_step' 3 (of_decide_eq_true (by kernel_rfl)) (by kernel_rfl) (by kernel_rfl) (fun K hK => ?_)
                  simp only [List.getElem_toArray, List.getElem_cons_succ, List.getElem_cons_zero]
                  go_simp
                  go_at_call 46
                  refine (after_c L F i k (by have := (projOk_iff.1 Hok.out).2.1; omega) (by omega) hbits _ AF bl ol cl bf of' cf _ _ (by omega) (Nat.le_refl _) hDd.rl hDd.rf).mono ?_
                  rintro e w2 ⟨rfl, hb2⟩
                  rw [Ha.out]
                  have hD2 := hDd.below hb2
                  have hI2 := (hId.below hb2).more hb2.size
                  clear hS0
                  have hS0 : w2.cell? ⟨w.heap.size, 0, none⟩ = some (.slice (some ⟨bl, ol, none⟩) L.length cl) ∧ w2.cell? ⟨w.heap.size, 1, none⟩ = some (.slice AF F.length cf) ∧ w2.cell? ⟨bx, ox + k, none⟩ = some (.int .i64 x) ∧ w2.cell? ⟨bl, ol + k, none⟩ = some (.int .i64 l) := ⟨hD2.c0, hD2.c1, ((bcell hb2).1 bx (ox + k) hbx).trans x0, ((bcell hb2).1 bl (ol + k) hbl).trans y0⟩
                  refine hK.out _ _ (.inr hS0) ?_
                  clear hK K
                  simp only [Act.put, List.setIfInBounds_toArray, List.set_cons_zero, List.set_cons_succ]
                  refine wpE_take' (v := ?_) 4 [17] (of_decide_eq_true (by kernel_rfl)) (by kernel_rfl) (by kernel_rfl) (by kernel_rfl) (by kernel_rfl) (fun _ _ _ h => h) (by kernel_rfl) ?_ hS0 ?_
                  rotate_left
                  · intro w' hSw
                    simp only [List.getElem_toArray, List.getElem_cons_succ, List.getElem_cons_zero]
                    go_simp
                    all_goals with_reducible rfl
                  simp only [List.getElem_toArray, List.getElem_cons_succ, List.getElem_cons_zero, Act.put, List.setIfInBounds_toArray, List.set_cons_zero, List.set_cons_succ]
                  refine wpE_takeG' (v := ?_) 5 [16, 17] (of_decide_eq_true (by kernel_rfl)) (by kernel_rfl) (by kernel_rfl) (by kernel_rfl) (by kernel_rfl) (fun _ _ _ h => h) rfl ?_ hS0 ?_
                  rotate_left
                  · intro w' hSw
                    simp only [List.getElem_toArray, List.getElem_cons_succ, List.getElem_cons_zero]
                    go_simp
                    all_goals with_reducible rfl
                  simp only [List.getElem_toArray, List.getElem_cons_succ, List.getElem_cons_zero, Act.put, List.setIfInBounds_toArray, List.set_cons_zero, List.set_cons_succ]
                  refine wpE_takeG' (v := ?_) 6 [8, 9, 15, 16, 17] (of_decide_eq_true (by kernel_rfl)) (by kernel_rfl) (by kernel_rfl) (by kernel_rfl) (by kernel_rfl) (fun _ _ _ h => h) rfl ?_ hS0 ?_
                  rotate_left
                  · intro w' hSw
                    simp only [List.getElem_toArray, List.getElem_cons_succ, List.getElem_cons_zero]
                    go_simp
                    all_goals with_reducible rfl
                  simp only [List.getElem_toArray, List.getElem_cons_succ, List.getElem_cons_zero, Act.put, List.setIfInBounds_toArray, List.set_cons_zero, List.set_cons_succ]
                  refine wpE_takeG' (v := ?_) 7 [8, 9, 15, 16, 17] (of_decide_eq_true (by kernel_rfl)) (by kernel_rfl) (by kernel_rfl) (by kernel_rfl) (by kernel_rfl) (fun _ _ _ h => h) rfl ?_ hS0 ?_
                  rotate_left
                  · intro w' hSw
                    simp only [List.getElem_toArray, List.getElem_cons_succ, List.getElem_cons_zero]
                    go_simp
                    all_goals with_reducible rfl
                  simp only [List.getElem_toArray, List.getElem_cons_succ, List.getElem_cons_zero, Act.put, List.setIfInBounds_toArray, List.set_cons_zero, List.set_cons_succ]
                  refine wpE_takeG' (v := ?_) 8 [9, 15, 16, 17] (of_decide_eq_true (by kernel_rfl)) (by kernel_rfl) (by kernel_rfl) (by kernel_rfl) (by kernel_rfl) (fun _ _ _ h => h) rfl ?_ hS0 ?_
                  rotate_left
                  · intro w' hSw
                    simp only [List.getElem_toArray, List.getElem_cons_succ, List.getElem_cons_zero]
                    go_simp
                    all_goals with_reducible rfl
                  simp only [List.getElem_toArray, List.getElem_cons_succ, List.getElem_cons_zero, Act.put, List.setIfInBounds_toArray, List.set_cons_zero, List.set_cons_succ]
                  refine wpE_takeG' (v := ?_) 9 [15, 16, 17] (of_decide_eq_true (by kernel_rfl)) (by kernel_rfl) (by kernel_rfl) (by kernel_rfl) (by kernel_rfl) (fun _ _ _ h => h) rfl ?_ hS0 ?_
                  rotate_left
                  · intro w' hSw
                    simp only [List.getElem_toArray, List.getElem_cons_succ, List.getElem_cons_zero]
                    go_simp
                    all_goals with_reducible rfl
                  simp only [List.getElem_toArray, List.getElem_cons_succ, List.getElem_cons_zero, Act.put, List.setIfInBounds_toArray, List.set_cons_zero, List.set_cons_succ]
                  refine wpE_takeG' (v := ?_) 10 [11, 13, 14, 15, 16, 17] (of_decide_eq_true (by kernel_rfl)) (by kernel_rfl) (by kernel_rfl) (by kernel_rfl) (by kernel_rfl) (fun _ _ _ h => h) rfl ?_ hS0 ?_
                  rotate_left
                  · intro w' hSw
                    simp only [List.getElem_toArray, List.getElem_cons_succ, List.getElem_cons_zero]
                    go_simp
                    all_goals with_reducible rfl
                  simp only [List.getElem_toArray, List.getElem_cons_succ, List.getElem_cons_zero, Act.put, List.setIfInBounds_toArray, List.set_cons_zero, List.set_cons_succ]
                  refine wpE_takeG' (v := ?_) 11 [13, 14, 15, 16, 17] (of_decide_eq_true (by kernel_rfl)) (by kernel_rfl) (by kernel_rfl) (by kernel_rfl) (by kernel_rfl) (fun _ _ _ h => h) rfl ?_ hS0 ?_
                  rotate_left
                  · intro w' hSw
                    simp only [List.getElem_toArray, List.getElem_cons_succ, List.getElem_cons_zero]
                    go_simp
                    all_goals with_reducible rfl
                  simp only [List.getElem_toArray, List.getElem_cons_succ, List.getElem_cons_zero, Act.put, List.setIfInBounds_toArray, List.set_cons_zero, List.set_cons_succ]
                  refine wpE_takeG' (v := ?_) 12 [13, 14, 15, 16, 17] (of_decide_eq_true (by kernel_rfl)) (by kernel_rfl) (by kernel_rfl) (by kernel_rfl) (by kernel_rfl) (fun _ _ _ h => h) rfl ?_ hS0 ?_
                  rotate_left
                  · intro w' hSw
                    simp only [List.getElem_toArray, List.getElem_cons_succ, List.getElem_cons_zero]
                    go_simp
                    all_goals with_reducible rfl
                  simp only [List.getElem_toArray, List.getElem_cons_succ, List.getElem_cons_zero, Act.put, List.setIfInBounds_toArray, List.set_cons_zero, List.set_cons_succ]
                  refine wpE_takeG' (v := ?_) 13 [14, 15, 16, 17] (of_decide_eq_true (by kernel_rfl)) (by kernel_rfl) (by kernel_rfl) (by kernel_rfl) (by kernel_rfl) (fun _ _ _ h => h) rfl ?_ hS0 ?_
                  rotate_left
                  · intro w' hSw
                    simp only [List.getElem_toArray, List.getElem_cons_succ, List.getElem_cons_zero]
                    go_simp
                    all_goals with_reducible rfl
                  simp only [List.getElem_toArray, List.getElem_cons_succ, List.getElem_cons_zero, Act.put, List.setIfInBounds_toArray, List.set_cons_zero, List.set_cons_succ]
                  refine wpE_takeG' (v := ?_) 14 [15, 16, 17] (of_decide_eq_true (by kernel_rfl)) (by kernel_rfl) (by kernel_rfl) (by kernel_rfl) (by kernel_rfl) (fun _ _ _ h => h) rfl ?_ hS0 ?_
                  rotate_left
                  · intro w' hSw
                    simp only [List.getElem_toArray, List.getElem_cons_succ, List.getElem_cons_zero]
                    go_simp
                    all_goals with_reducible rfl
                  simp only [List.getElem_toArray, List.getElem_cons_succ, List.getElem_cons_zero, Act.put, List.setIfInBounds_toArray, List.set_cons_zero, List.set_cons_succ]
                  refine wpE_takeG' (v := ?_) 15 [16, 17] (of_decide_eq_true (by kernel_rfl)) (by kernel_rfl) (by kernel_rfl) (by kernel_rfl) (by kernel_rfl) (fun _ _ _ h => h) rfl ?_ hS0 ?_
                  rotate_left
                  · intro w' hSw
                    simp only [List.getElem_toArray, List.getElem_cons_succ, List.getElem_cons_zero]
                    go_simp
                    all_goals with_reducible rfl
                  simp only [List.getElem_toArray, List.getElem_cons_succ, List.getElem_cons_zero, Act.put, List.setIfInBounds_toArray, List.set_cons_zero, List.set_cons_succ]
                  refine wpE_takeG' (v := ?_) 16 [17] (of_decide_eq_true (by kernel_rfl)) (by kernel_rfl) (by kernel_rfl) (by kernel_rfl) (by kernel_rfl) (fun _ _ _ h => h) rfl ?_ hS0 ?_
                  rotate_left
                  · intro w' hSw
                    simp only [List.getElem_toArray, List.getElem_cons_succ, List.getElem_cons_zero]
                    go_simp
                    all_goals with_reducible rfl
                  simp only [List.getElem_toArray, List.getElem_cons_succ, List.getElem_cons_zero, Act.put, List.setIfInBounds_toArray, List.set_cons_zero, List.set_cons_succ]
                  refine wpE_step' 17 (of_decide_eq_true (by kernel_rfl)) (by kernel_rfl) (by kernel_rfl) (fun K hK => ?_)
                  simp only [List.getElem_toArray, List.getElem_cons_succ, List.getElem_cons_zero]
                  go_simp
                  refine hK.out _ _ (.inl rfl) ?_
                  clear hK K
                  simp only [Act.put, List.setIfInBounds_toArray, List.set_cons_zero, List.set_cons_succ]
                  refine wpE_done (by kernel_rfl) ?_ _
                  clear hS0 x0 y0 p0 p1 hDd hId hws hc
                  go_wp2_with fail
                  go_roundg (i - (k + 1))
                  case measure => go_light; omega
                  case rel => go_light; exact ⟨k + 1, by omega, rfl, by go_num, hD2, hI2, HN⟩
            · have hki' : ¬ (k : Int) < (i : Int) := by omega
              have HQ : Hid ((List.range i).all (preAt L F xs i) = true) := range_all (fun j hj => HB.out j (by omega))
              have HO : Hid (bokAt L F h xs i = decide ((busyN L xs v : Int) ≤ h)) := by unfold Hid bokAt; rw [HQ.out, Hv.out]; rfl
              obtain ⟨m, hm⟩ : ∃ m, busyN L xs v = m := ⟨_, rfl⟩
              rw [hm] at HO
              have Hm := hide hm
              clear hm p1
              by_cases hc : (m : Int) ≤ h
              · have HN : Hid (∀ j, j < i + 1 → bokAt L F h xs j = true) := by
                  intro j hj
                  by_cases e : j = i
                  · subst e; rw [HO.out, decide_eq_true hc]
                  · exact HA.out j (by omega)
                have p1 := hD.c1
                go_wp2_with (go_at_call 72; go_fit (busyX_c L F xs v Hxl.out Hal.out AL AF _ bl ol cl bf of' cf bx ox cx _ _ hll (Nat.le_refl _) hD.rl hD.rf hI); rintro e w2 ⟨rfl, hb⟩; rw [Hm.out]; replace hI := (hI.below hb).more hb.size; replace hD := hD.below hb; clear p0 p1; have p0 := hD.c0; have p1 := hD.c1)
                go_roundg (xs.length - (i + 1))
                case measure => go_light; omega
                case rel => go_light; exact ⟨i + 1, by omega, rfl, by go_num, hD, hI, HN⟩
              · obtain rfl : r = false := by
                  rw [← Hre.out]
                  exact range_no hlt (by rw [HO.out, decide_eq_false hc])
                have p1 := hD.c1
                go_wp2_with (go_at_call 72; go_fit (busyX_c L F xs v Hxl.out Hal.out AL AF _ bl ol cl bf of' cf bx ox cx _ _ hll (Nat.le_refl _) hD.rl hD.rf hI); rintro e w2 ⟨rfl, hb⟩; rw [Hm.out]; replace hI := (hI.below hb).more hb.size; replace hD := hD.below hb; clear p0 p1; have p0 := hD.c0; have p1 := hD.c1)
                go_ret
                exact ⟨rfl, hD.bel⟩
        · obtain rfl : r = true := by
            rw [← Hre.out]
            exact range_all (fun j hj => HA.out j (by omega))
          have hlt' : ¬ (i : Int) < (xs.length : Int) := by omega
          go_wp2_with fail
          go_ret
          exact ⟨rfl, hD.bel⟩
end Go.Proofs.Ytmgikoaeomieeaa
