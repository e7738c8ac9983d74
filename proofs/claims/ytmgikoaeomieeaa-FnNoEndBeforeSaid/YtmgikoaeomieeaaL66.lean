/-
  impl: right begins.
  impl: orders.
  impl: begins of none; from when a task may begin, and whether a hand is free.
-/
import Derived.Test.YtmgikoaeomieeaaL60
import Derived.Test.YtmgikoaeomieeaaL57a
import Derived.Test.YtmgikoaeomieeaaP40
import Derived.Test.YtmgikoaeomieeaaL2
namespace Go.Proofs.Ytmgikoaeomieeaa
set_option linter.unusedVariables false
set_option linter.unusedSimpArgs false
open Go.RowKit Pp

theorem isHands_c (n : Int) (w : World) : Calls Try.prog 60 #[.int .i64 n] w fun e w' => e = .returned (.bool (inB n 1 3)) ∧ w = w' := by
  obtain ⟨r, hr⟩ : ∃ r, inB n 1 3 = r := ⟨_, rfl⟩
  rw [hr]
  have Hr := hide hr
  clear hr
  go_enter Try.func60, Try.ntmps60
  go_wp2_with (go_at_call 80; go_fit (in_c n 1 3 _); rintro e w2 ⟨rfl, rfl⟩; rw [Hr.out])
  go_ret
  exact ⟨rfl, rfl⟩
theorem busyX_c (L F xs : List Int) (t : Int) (hx : xs.length = L.length) (hb : ∀ i, i < L.length → (0 ≤ L.getD i 0 ∧ L.getD i 0 ≤ 100) ∧ (-1 ≤ xs.getD i 0 ∧ xs.getD i 0 ≤ 10000)) (AL AF AX : Option Addr) (bl ol cl bf of' cf bx ox cx B : Nat) (w : World) (hll : L.length ≤ 2000000) (hB : B ≤ w.heap.size) (hl : IntsR w B bl ol AL L) (hf : IntsR w B bf of' AF F) (hX : IntsR w B bx ox AX xs) :
    Calls Try.prog 72 #[.agg #[.slice AL L.length cl, .slice AF F.length cf], .slice AX xs.length cx, .int .i64 t] w fun e w' => e = .returned (.int .i64 (busyN L xs t : Nat)) ∧ Below w.heap.size w w' := by
  rw [hx]
  exact busy_c L F xs t hx hb AL AF AX bl ol cl bf of' cf bx ox cx B w hll hB hl hf hX
theorem endX_c (L F xs : List Int) (hx : xs.length = L.length) (hb : ∀ i, i < L.length → (0 ≤ L.getD i 0 ∧ L.getD i 0 ≤ 100) ∧ (-1 ≤ xs.getD i 0 ∧ xs.getD i 0 ≤ 10000)) (AL AF AX : Option Addr) (bl ol cl bf of' cf bx ox cx B : Nat) (w : World) (hll : L.length ≤ 2000000) (hB : B ≤ w.heap.size) (hl : IntsR w B bl ol AL L) (hf : IntsR w B bf of' AF F) (hX : IntsR w B bx ox AX xs) :
    Calls Try.prog 52 #[.agg #[.slice AL L.length cl, .slice AF F.length cf], .slice AX xs.length cx] w fun e w' => e = .returned (.int .i64 (endOf L xs)) ∧ Below w.heap.size w w' := by
  rw [hx]
  exact end_c L F xs hx hb AL AF AX bl ol cl bf of' cf bx ox cx B w hll hB hl hf hX

def preAt (L F b : List Int) (i k : Nat) : Bool := !aft F i k || decide (b.getD k 0 + L.getD k 0 ≤ b.getD i 0)
def bokAt (L F : List Int) (h : Int) (b : List Int) (i : Nat) : Bool := (List.range i).all (preAt L F b i) && decide ((busyN L b (b.getD i 0) : Int) ≤ h)
theorem beginsOk_eq (L F : List Int) (h : Int) (b : List Int) : beginsOk L F h b = (fitB L F b && inB h 1 3 && (List.range b.length).all (bokAt L F h b)) := rfl
theorem range_all {n : Nat} {f : Nat → Bool} (h : ∀ i, i < n → f i = true) : (List.range n).all f = true := List.all_eq_true.2 (fun i hi => h i (List.mem_range.1 hi))
theorem range_no {n i : Nat} {f : Nat → Bool} (hi : i < n) (h : f i = false) : (List.range n).all f = false := by
  rw [Bool.eq_false_iff]
  intro hh
  have := List.all_eq_true.1 hh i (List.mem_range.2 hi)
  rw [h] at this
  cases this

set_option maxHeartbeats 4000000 in
set_option maxRecDepth 100000 in
theorem beginsOk_c (L F xs : List Int) (h : Int) (AL AF AX : Option Addr) (bl ol cl bf of' cf bx ox cx B : Nat) (w : World) (hll : L.length ≤ 2000000) (hlf : F.length ≤ 2000000) (hlx : xs.length ≤ 2000000) (hB : B ≤ w.heap.size) (hl : IntsR w B bl ol AL L) (hf : IntsR w B bf of' AF F) (hX : IntsR w B bx ox AX xs) :
    Calls Try.prog 33 #[.agg #[.slice AL L.length cl, .slice AF F.length cf], .int .i64 h, .slice AX xs.length cx] w fun e w' => e = .returned (.bool (beginsOk L F h xs)) ∧ Below w.heap.size w w' := by
  obtain ⟨r, Hr⟩ : ∃ r, Hid (beginsOk L F h xs = r) := ⟨_, rfl⟩
  rw [Hr.out]
  have hD := pj_new (t := 25) (cl := cl) (cf := cf) hB hl hf
  have hI := (hX.below (hD.bel.mono hB)).more (Nat.le_trans hB hD.bel.size)
  clear hl hf hB hX
  cases hp : fitB L F xs
  · obtain rfl : r = false := by rw [← Hr.out, beginsOk_eq, hp]; rfl
    have Hp := hide hp
    clear hp
    go_enter Try.func33, Try.ntmps33
    go_upto_region 1 with fail
    generalize w.alloc (.cells #[.slice AL L.length cl, .slice AF F.length cf] 25) = W at hD hI ⊢
    have p0 := hD.c0
    have p1 := hD.c1
    go_wp2_with (go_at_call 71; go_fit (beginsFit_c L F xs AL AF AX bl ol cl bf of' cf bx ox cx _ _ hll hlf hlx (Nat.le_refl _) hD.rl hD.rf hI); rintro e w2 ⟨rfl, hb⟩; rw [Hp.out]; replace hD := hD.below hb; clear p0 p1; have p0 := hD.c0; have p1 := hD.c1)
    go_ret
    exact ⟨rfl, hD.bel⟩
  · cases hh : inB h 1 3
    · obtain rfl : r = false := by rw [← Hr.out, beginsOk_eq, hp, hh]; rfl
      have Hp := hide hp
      have Hh := hide hh
      clear hp hh
      go_enter Try.func33, Try.ntmps33
      go_upto_region 1 with fail
      generalize w.alloc (.cells #[.slice AL L.length cl, .slice AF F.length cf] 25) = W at hD hI ⊢
      have p0 := hD.c0
      have p1 := hD.c1
      go_wp2_with (first
        | (go_at_call 71; go_fit (beginsFit_c L F xs AL AF AX bl ol cl bf of' cf bx ox cx _ _ hll hlf hlx (Nat.le_refl _) hD.rl hD.rf hI); rintro e w2 ⟨rfl, hb⟩; rw [Hp.out]; replace hD := hD.below hb; clear p0 p1; have p0 := hD.c0; have p1 := hD.c1)
        | (go_at_call 60; go_fit (isHands_c h _); rintro e w3 ⟨rfl, rfl⟩; rw [Hh.out]))
      go_ret
      exact ⟨rfl, hD.bel⟩
    · have Hal := hide (fit_all hp)
      have Hok := hide (fitB_iff.1 hp).1
      have Hxl := hide (fitB_iff.1 hp).2.1
      have hh3 := inB_iff.1 hh
      have hx6 : xs.length ≤ 6 := by have := (projOk_iff.1 Hok.out).1; have := Hxl.out; omega
      have hf6 : F.length ≤ 6 := by have := (projOk_iff.1 Hok.out).2.1; have := Hxl.out; omega
      have Hre : Hid ((List.range xs.length).all (bokAt L F h xs) = r) := by unfold Hid; rw [← Hr.out, beginsOk_eq, hp, hh]; rfl
      have Hp := hide hp
      have Hh := hide hh
      clear hp hh Hr
      go_enter Try.func33, Try.ntmps33
      go_upto_region 1 with fail
      generalize w.alloc (.cells #[.slice AL L.length cl, .slice AF F.length cf] 25) = W at hD hI ⊢
      have p0 := hD.c0
      have p1 := hD.c1
      go_upto_region 3 with (first
        | (go_at_call 71; go_fit (beginsFit_c L F xs AL AF AX bl ol cl bf of' cf bx ox cx _ _ hll hlf hlx (Nat.le_refl _) hD.rl hD.rf hI); rintro e w2 ⟨rfl, hb⟩; rw [Hp.out]; replace hI := (hI.below hb).more hb.size; replace hD := hD.below hb; clear p0 p1; have p0 := hD.c0; have p1 := hD.c1)
        | (go_at_call 60; go_fit (isHands_c h _); rintro e w3 ⟨rfl, rfl⟩; rw [Hh.out]))
      clear p0 p1
      go_wp2_with fail
      go_loopg [21] xs.length (fun gh s wr => ∃ i : Nat, i ≤ xs.length ∧ gh = xs.length - i ∧ s = .int .i64 i ∧ PJ w wr w.heap.size bl ol AL cl L bf of' AF cf F ∧ IntsR wr wr.heap.size bx ox AX xs ∧ Hid (∀ j, j < i → bokAt L F h xs j = true))
      case atStart => exact ⟨0, Nat.zero_le _, rfl, rfl, hD, hI, fun j hj => by omega⟩
      case round =>
        clear hD hI
        obtain ⟨i, hi, rfl, rfl, hD, hI, HA⟩ := hrel
        by_cases hlt : i < xs.length
        · have hlt' : (i : Int) < (xs.length : Int) := by omega
          have hiL : i < L.length := by have := Hxl.out; omega
          obtain rfl := hI.addr (by omega)
          have x0 := hI.cell i hlt
          have hxb := (Hal.out i hiL).2
          obtain ⟨v, hv⟩ : ∃ v, xs.getD i 0 = v := ⟨_, rfl⟩
          rw [hv] at x0 hxb
          have Hv := hide hv
          clear hv
          go_wp2_with fail
          go_loopg [27] i (fun gh s wi => ∃ k : Nat, k ≤ i ∧ gh = i - k ∧ s = .int .i64 k ∧ PJ w wi w.heap.size bl ol AL cl L bf of' AF cf F ∧ IntsR wi wi.heap.size bx ox (some ⟨bx, ox, none⟩) xs ∧ Hid (∀ j, j < k → preAt L F xs i j = true))
          case atStart => exact ⟨0, Nat.zero_le _, rfl, rfl, hD, hI, fun j hj => by omega⟩
          case round =>
            clear hD hI x0
            obtain ⟨k, hk, rfl, rfl, hD, hI, HB⟩ := hrel
            have p0 := hD.c0
            have p1 := hD.c1
            by_cases hki : k < i
            · have hki' : (k : Int) < (i : Int) := by omega
              have hkx : (k : Int) < (xs.length : Int) := by omega
              have hkL : (k : Int) < (L.length : Int) := by omega
              obtain rfl := hD.rl.addr (by omega)
              have y0 := hD.rl.cell k (by omega)
              have x0 := hI.cell k (by omega)
              have hbk := Hal.out k (by omega)
              have hbits := proj_bits Hok.out (show i < F.length by have := (projOk_iff.1 Hok.out).2.1; omega)
              have HP : Hid (preAt L F xs i k = (!aft F i k || decide (xs.getD k 0 + L.getD k 0 ≤ v))) := by unfold Hid preAt; rw [Hv.out]
              generalize xs.getD k 0 = x at x0 hbk HP
              generalize L.getD k 0 = l at y0 hbk HP
              obtain ⟨⟨l0, l1⟩, ⟨z0, z1⟩⟩ := hbk
              have hws : IntKind.i64.wrap (x + l) = x + l := IntWalk.i64_in _ (by omega)
              have hDd := hD.drew
              have hId := hI.below (show Below wr.heap.size wr wr.drew by go_grown)
              have hbx : bx < wr.drew.heap.size := by have := hI.lt (by omega); simpa using this
              have hbl : bl < wr.drew.heap.size := by have := hD.rl.lt (by omega); simpa using this
              cases ha : aft F i k
              · have Ha := hide ha
                have HN : Hid (∀ j, j < k + 1 → preAt L F xs i j = true) := by
                  intro j hj
                  by_cases e : j = k
                  · subst e; rw [HP.out, ha]; rfl
                  · exact HB.out j (by omega)
                clear ha
                go_upto_region 9 with fail
                have hS0 : wr.drew.cell? ⟨w.heap.size, 0, none⟩ = some (.slice (some ⟨bl, ol, none⟩) L.length cl) ∧ wr.drew.cell? ⟨w.heap.size, 1, none⟩ = some (.slice AF F.length cf) ∧ wr.drew.cell? ⟨bx, ox + k, none⟩ = some (.int .i64 x) ∧ wr.drew.cell? ⟨bl, ol + k, none⟩ = some (.int .i64 l) := ⟨p0, p1, x0, y0⟩
                refine wp_regionE (fun w' => w'.cell? ⟨w.heap.size, 0, none⟩ = some (.slice (some ⟨bl, ol, none⟩) L.length cl) ∧ w'.cell? ⟨w.heap.size, 1, none⟩ = some (.slice AF F.length cf) ∧ w'.cell? ⟨bx, ox + k, none⟩ = some (.int .i64 x) ∧ w'.cell? ⟨bl, ol + k, none⟩ = some (.int .i64 l)) 17 (by kernel_rfl) ?_
                change wpE _ _ _ _ _ _ 18 #[false, false, false, false, false, false, false, false, false, false, false, false, false, false, false, false, false, false] _ _
                refine wpE_take' (v := ?_) 0 [3, 4, 17] (of_decide_eq_true (by kernel_rfl)) (by kernel_rfl) (by kernel_rfl) (by kernel_rfl) (by kernel_rfl) (fun _ _ _ h => h) (by kernel_rfl) ?_ hS0 ?_
                rotate_left
                · intro w' hSw
                  simp only [List.getElem_toArray, List.getElem_cons_succ, List.getElem_cons_zero]
                  go_simp
                  all_goals with_reducible rfl
                simp only [List.getElem_toArray, List.getElem_cons_succ, List.getElem_cons_zero, Act.put, List.setIfInBounds_toArray, List.set_cons_zero, List.set_cons_succ]
                refine wpE_take' (v := ?_) 1 [3, 4, 17] (of_decide_eq_true (by kernel_rfl)) (by kernel_rfl) (by kernel_rfl) (by kernel_rfl) (by kernel_rfl) (fun _ _ _ h => h) (by kernel_rfl) ?_ hS0 ?_
                rotate_left
                · intro w' hSw
                  simp only [List.getElem_toArray, List.getElem_cons_succ, List.getElem_cons_zero]
                  go_simp
                  all_goals with_reducible rfl
                simp only [List.getElem_toArray, List.getElem_cons_succ, List.getElem_cons_zero, Act.put, List.setIfInBounds_toArray, List.set_cons_zero, List.set_cons_succ]
                refine wpE_take' (v := ?_) 2 [3, 4, 17] (of_decide_eq_true (by kernel_rfl)) (by kernel_rfl) (by kernel_rfl) (by kernel_rfl) (by kernel_rfl) (fun _ _ _ h => h) (by kernel_rfl) ?_ hS0 ?_
                rotate_left
                · intro w' hSw
                  simp only [List.getElem_toArray, List.getElem_cons_succ, List.getElem_cons_zero]
                  go_simp
                  all_goals with_reducible rfl
                simp only [List.getElem_toArray, List.getElem_cons_succ, List.getElem_cons_zero, Act.put, List.setIfInBounds_toArray, List.set_cons_zero, List.set_cons_succ]
                refine wpE_step' 3 (of_decide_eq_true (by kernel_rfl)) (by kernel_rfl) (by kernel_rfl) (fun K hK => ?_)
                simp only [List.getElem_toArray, List.getElem_cons_succ, List.getElem_cons_zero]
                go_simp
                go_at_call 46
                refine (after_c L F i k (by have := (projOk_iff.1 Hok.out).2.1; omega) (by omega) hbits _ AF bl ol cl bf of' cf _ _ (by omega) (Nat.le_refl _) hDd.rl hDd.rf).mono ?_
                rintro e w2 ⟨rfl, hb2⟩
                rw [Ha.out]
                have hD2 := hDd.below hb2
                have hI2 := (hId.below hb2).more hb2.size
                clear hS0
                have hS0 : w2.cell? ⟨w.heap.size, 0, none⟩ = some (.slice (some ⟨bl, ol, none⟩) L.length cl) ∧ w2.cell? ⟨w.heap.size, 1, none⟩ = some (.slice AF F.length cf) ∧ w2.cell? ⟨bx, ox + k, none⟩ = some (.int .i64 x) ∧ w2.cell? ⟨bl, ol + k, none⟩ = some (.int .i64 l) := ⟨hD2.c0, hD2.c1, ((bcell hb2).1 bx (ox + k) hbx).trans x0, ((bcell hb2).1 bl (ol + k) hbl).trans y0⟩
                refine hK.out _ _ (.inr hS0) ?_
                clear hK K
                simp only [Act.put, List.setIfInBounds_toArray, List.set_cons_zero, List.set_cons_succ]
                refine wpE_take' (v := ?_) 4 [17] (of_decide_eq_true (by kernel_rfl)) (by kernel_rfl) (by kernel_rfl) (by kernel_rfl) (by kernel_rfl) (fun _ _ _ h => h) (by kernel_rfl) ?_ hS0 ?_
                rotate_left
                · intro w' hSw
                  simp only [List.getElem_toArray, List.getElem_cons_succ, List.getElem_cons_zero]
                  go_simp
                  all_goals with_reducible rfl
                simp only [List.getElem_toArray, List.getElem_cons_succ, List.getElem_cons_zero, Act.put, List.setIfInBounds_toArray, List.set_cons_zero, List.set_cons_succ]
                refine wpE_skip' 5 [16, 17] (of_decide_eq_true (by kernel_rfl)) (by kernel_rfl) (by kernel_rfl) (by kernel_rfl) (by kernel_rfl) (fun _ _ _ h => h) rfl hS0 ?_
                simp only [List.getElem_toArray, List.getElem_cons_succ, List.getElem_cons_zero, Act.put, List.setIfInBounds_toArray, List.set_cons_zero, List.set_cons_succ]
                refine wpE_skip' 6 [8, 9, 15, 16, 17] (of_decide_eq_true (by kernel_rfl)) (by kernel_rfl) (by kernel_rfl) (by kernel_rfl) (by kernel_rfl) (fun _ _ _ h => h) rfl hS0 ?_
                simp only [List.getElem_toArray, List.getElem_cons_succ, List.getElem_cons_zero, Act.put, List.setIfInBounds_toArray, List.set_cons_zero, List.set_cons_succ]
                refine wpE_skip' 7 [8, 9, 15, 16, 17] (of_decide_eq_true (by kernel_rfl)) (by kernel_rfl) (by kernel_rfl) (by kernel_rfl) (by kernel_rfl) (fun _ _ _ h => h) rfl hS0 ?_
                simp only [List.getElem_toArray, List.getElem_cons_succ, List.getElem_cons_zero, Act.put, List.setIfInBounds_toArray, List.set_cons_zero, List.set_cons_succ]
                refine wpE_skip' 8 [9, 15, 16, 17] (of_decide_eq_true (by kernel_rfl)) (by kernel_rfl) (by kernel_rfl) (by kernel_rfl) (by kernel_rfl) (fun _ _ _ h => h) rfl hS0 ?_
                simp only [List.getElem_toArray, List.getElem_cons_succ, List.getElem_cons_zero, Act.put, List.setIfInBounds_toArray, List.set_cons_zero, List.set_cons_succ]
                refine wpE_skip' 9 [15, 16, 17] (of_decide_eq_true (by kernel_rfl)) (by kernel_rfl) (by kernel_rfl) (by kernel_rfl) (by kernel_rfl) (fun _ _ _ h => h) rfl hS0 ?_
                simp only [List.getElem_toArray, List.getElem_cons_succ, List.getElem_cons_zero, Act.put, List.setIfInBounds_toArray, List.set_cons_zero, List.set_cons_succ]
                refine wpE_skip' 10 [11, 13, 14, 15, 16, 17] (of_decide_eq_true (by kernel_rfl)) (by kernel_rfl) (by kernel_rfl) (by kernel_rfl) (by kernel_rfl) (fun _ _ _ h => h) rfl hS0 ?_
                simp only [List.getElem_toArray, List.getElem_cons_succ, List.getElem_cons_zero, Act.put, List.setIfInBounds_toArray, List.set_cons_zero, List.set_cons_succ]
                refine wpE_skip' 11 [13, 14, 15, 16, 17] (of_decide_eq_true (by kernel_rfl)) (by kernel_rfl) (by kernel_rfl) (by kernel_rfl) (by kernel_rfl) (fun _ _ _ h => h) rfl hS0 ?_
                simp only [List.getElem_toArray, List.getElem_cons_succ, List.getElem_cons_zero, Act.put, List.setIfInBounds_toArray, List.set_cons_zero, List.set_cons_succ]
                refine wpE_skip' 12 [13, 14, 15, 16, 17] (of_decide_eq_true (by kernel_rfl)) (by kernel_rfl) (by kernel_rfl) (by kernel_rfl) (by kernel_rfl) (fun _ _ _ h => h) rfl hS0 ?_
                simp only [List.getElem_toArray, List.getElem_cons_succ, List.getElem_cons_zero, Act.put, List.setIfInBounds_toArray, List.set_cons_zero, List.set_cons_succ]
                refine wpE_skip' 13 [14, 15, 16, 17] (of_decide_eq_true (by kernel_rfl)) (by kernel_rfl) (by kernel_rfl) (by kernel_rfl) (by kernel_rfl) (fun _ _ _ h => h) rfl hS0 ?_
                simp only [List.getElem_toArray, List.getElem_cons_succ, List.getElem_cons_zero, Act.put, List.setIfInBounds_toArray, List.set_cons_zero, List.set_cons_succ]
                refine wpE_skip' 14 [15, 16, 17] (of_decide_eq_true (by kernel_rfl)) (by kernel_rfl) (by kernel_rfl) (by kernel_rfl) (by kernel_rfl) (fun _ _ _ h => h) rfl hS0 ?_
                simp only [List.getElem_toArray, List.getElem_cons_succ, List.getElem_cons_zero, Act.put, List.setIfInBounds_toArray, List.set_cons_zero, List.set_cons_succ]
                refine wpE_skip' 15 [16, 17] (of_decide_eq_true (by kernel_rfl)) (by kernel_rfl) (by kernel_rfl) (by kernel_rfl) (by kernel_rfl) (fun _ _ _ h => h) rfl hS0 ?_
                simp only [List.getElem_toArray, List.getElem_cons_succ, List.getElem_cons_zero, Act.put, List.setIfInBounds_toArray, List.set_cons_zero, List.set_cons_succ]
                refine wpE_skip' 16 [17] (of_decide_eq_true (by kernel_rfl)) (by kernel_rfl) (by kernel_rfl) (by kernel_rfl) (by kernel_rfl) (fun _ _ _ h => h) rfl hS0 ?_
                simp only [List.getElem_toArray, List.getElem_cons_succ, List.getElem_cons_zero, Act.put, List.setIfInBounds_toArray, List.set_cons_zero, List.set_cons_succ]
                refine wpE_step' 17 (of_decide_eq_true (by kernel_rfl)) (by kernel_rfl) (by kernel_rfl) (fun K hK => ?_)
                simp only [List.getElem_toArray, List.getElem_cons_succ, List.getElem_cons_zero]
                go_simp
                refine hK.out _ _ (.inl rfl) ?_
                clear hK K
                simp only [Act.put, List.setIfInBounds_toArray, List.set_cons_zero, List.set_cons_succ]
                refine wpE_done (by kernel_rfl) ?_ _
                clear hS0 x0 y0 p0 p1 hDd hId hws
                go_wp2_with fail
                go_roundg (i - (k + 1))
                case measure => go_light; omega
                case rel => go_light; exact ⟨k + 1, by omega, rfl, by go_num, hD2, hI2, HN⟩
              · have Ha := hide ha
                by_cases hc : v < x + l
                · obtain rfl : r = false := by
                    rw [← Hre.out]
                    refine range_no hlt ?_
                    unfold bokAt
                    rw [range_no hki (by rw [HP.out, ha, decide_eq_false (by omega)]; rfl)]; rfl
                  clear ha
                  go_upto_region 9 with fail
                  have hS0 : wr.drew.cell? ⟨w.heap.size, 0, none⟩ = some (.slice (some ⟨bl, ol, none⟩) L.length cl) ∧ wr.drew.cell? ⟨w.heap.size, 1, none⟩ = some (.slice AF F.length cf) ∧ wr.drew.cell? ⟨bx, ox + k, none⟩ = some (.int .i64 x) ∧ wr.drew.cell? ⟨bl, ol + k, none⟩ = some (.int .i64 l) := ⟨p0, p1, x0, y0⟩
                  refine wp_regionE (fun w' => w'.cell? ⟨w.heap.size, 0, none⟩ = some (.slice (some ⟨bl, ol, none⟩) L.length cl) ∧ w'.cell? ⟨w.heap.size, 1, none⟩ = some (.slice AF F.length cf) ∧ w'.cell? ⟨bx, ox + k, none⟩ = some (.int .i64 x) ∧ w'.cell? ⟨bl, ol + k, none⟩ = some (.int .i64 l)) 17 (by kernel_rfl) ?_
                  change wpE _ _ _ _ _ _ 18 #[false, false, false, false, false, false, false, false, false, false, false, false, false, false, false, false, false, false] _ _
                  refine wpE_take' (v := ?_) 0 [3, 4, 17] (of_decide_eq_true (by kernel_rfl)) (by kernel_rfl) (by kernel_rfl) (by kernel_rfl) (by kernel_rfl) (fun _ _ _ h => h) (by kernel_rfl) ?_ hS0 ?_
                  rotate_left
                  · intro w' hSw
                    simp only [List.getElem_toArray, List.getElem_cons_succ, List.getElem_cons_zero]
                    go_simp
                    all_goals with_reducible rfl
                  simp only [List.getElem_toArray, List.getElem_cons_succ, List.getElem_cons_zero, Act.put, List.setIfInBounds_toArray, List.set_cons_zero, List.set_cons_succ]
                  refine wpE_take' (v := ?_) 1 [3, 4, 17] (of_decide_eq_true (by kernel_rfl)) (by kernel_rfl) (by kernel_rfl) (by kernel_rfl) (by kernel_rfl) (fun _ _ _ h => h) (by kernel_rfl) ?_ hS0 ?_
                  rotate_left
                  · intro w' hSw
                    simp only [List.getElem_toArray, List.getElem_cons_succ, List.getElem_cons_zero]
                    go_simp
                    all_goals with_reducible rfl
                  simp only [List.getElem_toArray, List.getElem_cons_succ, List.getElem_cons_zero, Act.put, List.setIfInBounds_toArray, List.set_cons_zero, List.set_cons_succ]
                  refine wpE_take' (v := ?_) 2 [3, 4, 17] (of_decide_eq_true (by kernel_rfl)) (by kernel_rfl) (by kernel_rfl) (by kernel_rfl) (by kernel_rfl) (fun _ _ _ h => h) (by kernel_rfl) ?_ hS0 ?_
                  rotate_left
                  · intro w' hSw
                    simp only [List.getElem_toArray, List.getElem_cons_succ, List.getElem_cons_zero]
                    go_simp
                    all_goals with_reducible rfl
                  simp only [List.getElem_toArray, List.getElem_cons_succ, List.getElem_cons_zero, Act.put, List.setIfInBounds_toArray, List.set_cons_zero, List.set_cons_succ]
                  refine wpE_step' 3 (of_decide_eq_true (by kernel_rfl)) (by kernel_rfl) (by kernel_rfl) (fun K hK => ?_)
                  simp only [List.getElem_toArray, List.getElem_cons_succ, List.getElem_cons_zero]
                  go_simp
                  go_at_call 46
                  refine (after_c L F i k (by have := (projOk_iff.1 Hok.out).2.1; omega) (by omega) hbits _ AF bl ol cl bf of' cf _ _ (by omega) (Nat.le_refl _) hDd.rl hDd.rf).mono ?_
                  rintro e w2 ⟨rfl, hb2⟩
                  rw [Ha.out]
                  have hD2 := hDd.below hb2
                  have hI2 := (hId.below hb2).more hb2.size
                  clear hS0
                  have hS0 : w2.cell? ⟨w.heap.size, 0, none⟩ = some (.slice (some ⟨bl, ol, none⟩) L.length cl) ∧ w2.cell? ⟨w.heap.size, 1, none⟩ = some (.slice AF F.length cf) ∧ w2.cell? ⟨bx, ox + k, none⟩ = some (.int .i64 x) ∧ w2.cell? ⟨bl, ol + k, none⟩ = some (.int .i64 l) := ⟨hD2.c0, hD2.c1, ((bcell hb2).1 bx (ox + k) hbx).trans x0, ((bcell hb2).1 bl (ol + k) hbl).trans y0⟩
                  refine hK.out _ _ (.inr hS0) ?_
                  clear hK K
                  simp only [Act.put, List.setIfInBounds_toArray, List.set_cons_zero, List.set_cons_succ]
                  refine wpE_take' (v := ?_) 4 [17] (of_decide_eq_true (by kernel_rfl)) (by kernel_rfl) (by kernel_rfl) (by kernel_rfl) (by kernel_rfl) (fun _ _ _ h => h) (by kernel_rfl) ?_ hS0 ?_
                  rotate_left
                  · intro w' hSw
                    simp only [List.getElem_toArray, List.getElem_cons_succ, List.getElem_cons_zero]
                    go_simp
                    all_goals with_reducible rfl
                  simp only [List.getElem_toArray, List.getElem_cons_succ, List.getElem_cons_zero, Act.put, List.setIfInBounds_toArray, List.set_cons_zero, List.set_cons_succ]
                  refine wpE_takeG' (v := ?_) 5 [16, 17] (of_decide_eq_true (by kernel_rfl)) (by kernel_rfl) (by kernel_rfl) (by kernel_rfl) (by kernel_rfl) (fun _ _ _ h => h) rfl ?_ hS0 ?_
                  rotate_left
                  · intro w' hSw
                    simp only [List.getElem_toArray, List.getElem_cons_succ, List.getElem_cons_zero]
                    go_simp
                    all_goals with_reducible rfl
                  simp only [List.getElem_toArray, List.getElem_cons_succ, List.getElem_cons_zero, Act.put, List.setIfInBounds_toArray, List.set_cons_zero, List.set_cons_succ]
                  refine wpE_takeG' (v := ?_) 6 [8, 9, 15, 16, 17] (of_decide_eq_true (by kernel_rfl)) (by kernel_rfl) (by kernel_rfl) (by kernel_rfl) (by kernel_rfl) (fun _ _ _ h => h) rfl ?_ hS0 ?_
                  rotate_left
                  · intro w' hSw
                    simp only [List.getElem_toArray, List.getElem_cons_succ, List.getElem_cons_zero]
                    go_simp
                    all_goals with_reducible rfl
                  simp only [List.getElem_toArray, List.getElem_cons_succ, List.getElem_cons_zero, Act.put, List.setIfInBounds_toArray, List.set_cons_zero, List.set_cons_succ]
                  refine wpE_takeG' (v := ?_) 7 [8, 9, 15, 16, 17] (of_decide_eq_true (by kernel_rfl)) (by kernel_rfl) (by kernel_rfl) (by kernel_rfl) (by kernel_rfl) (fun _ _ _ h => h) rfl ?_ hS0 ?_
                  rotate_left
                  · intro w' hSw
                    simp only [List.getElem_toArray, List.getElem_cons_succ, List.getElem_cons_zero]
                    go_simp
                    all_goals with_reducible rfl
                  simp only [List.getElem_toArray, List.getElem_cons_succ, List.getElem_cons_zero, Act.put, List.setIfInBounds_toArray, List.set_cons_zero, List.set_cons_succ]
                  refine wpE_takeG' (v := ?_) 8 [9, 15, 16, 17] (of_decide_eq_true (by kernel_rfl)) (by kernel_rfl) (by kernel_rfl) (by kernel_rfl) (by kernel_rfl) (fun _ _ _ h => h) rfl ?_ hS0 ?_
                  rotate_left
                  · intro w' hSw
                    simp only [List.getElem_toArray, List.getElem_cons_succ, List.getElem_cons_zero]
                    go_simp
                    all_goals with_reducible rfl
                  simp only [List.getElem_toArray, List.getElem_cons_succ, List.getElem_cons_zero, Act.put, List.setIfInBounds_toArray, List.set_cons_zero, List.set_cons_succ]
                  refine wpE_takeG' (v := ?_) 9 [15, 16, 17] (of_decide_eq_true (by kernel_rfl)) (by kernel_rfl) (by kernel_rfl) (by kernel_rfl) (by kernel_rfl) (fun _ _ _ h => h) rfl ?_ hS0 ?_
                  rotate_left
                  · intro w' hSw
                    simp only [List.getElem_toArray, List.getElem_cons_succ, List.getElem_cons_zero]
                    go_simp
                    all_goals with_reducible rfl
                  simp only [List.getElem_toArray, List.getElem_cons_succ, List.getElem_cons_zero, Act.put, List.setIfInBounds_toArray, List.set_cons_zero, List.set_cons_succ]
                  refine wpE_takeG' (v := ?_) 10 [11, 13, 14, 15, 16, 17] (of_decide_eq_true (by kernel_rfl)) (by kernel_rfl) (by kernel_rfl) (by kernel_rfl) (by kernel_rfl) (fun _ _ _ h => h) rfl ?_ hS0 ?_
                  rotate_left
                  · intro w' hSw
                    simp only [List.getElem_toArray, List.getElem_cons_succ, List.getElem_cons_zero]
                    go_simp
                    all_goals with_reducible rfl
                  simp only [List.getElem_toArray, List.getElem_cons_succ, List.getElem_cons_zero, Act.put, List.setIfInBounds_toArray, List.set_cons_zero, List.set_cons_succ]
                  refine wpE_takeG' (v := ?_) 11 [13, 14, 15, 16, 17] (of_decide_eq_true (by kernel_rfl)) (by kernel_rfl) (by kernel_rfl) (by kernel_rfl) (by kernel_rfl) (fun _ _ _ h => h) rfl ?_ hS0 ?_
                  rotate_left
                  · intro w' hSw
                    simp only [List.getElem_toArray, List.getElem_cons_succ, List.getElem_cons_zero]
                    go_simp
                    all_goals with_reducible rfl
                  simp only [List.getElem_toArray, List.getElem_cons_succ, List.getElem_cons_zero, Act.put, List.setIfInBounds_toArray, List.set_cons_zero, List.set_cons_succ]
                  refine wpE_takeG' (v := ?_) 12 [13, 14, 15, 16, 17] (of_decide_eq_true (by kernel_rfl)) (by kernel_rfl) (by kernel_rfl) (by kernel_rfl) (by kernel_rfl) (fun _ _ _ h => h) rfl ?_ hS0 ?_
                  rotate_left
                  · intro w' hSw
                    simp only [List.getElem_toArray, List.getElem_cons_succ, List.getElem_cons_zero]
                    go_simp
                    all_goals with_reducible rfl
                  simp only [List.getElem_toArray, List.getElem_cons_succ, List.getElem_cons_zero, Act.put, List.setIfInBounds_toArray, List.set_cons_zero, List.set_cons_succ]
                  refine wpE_takeG' (v := ?_) 13 [14, 15, 16, 17] (of_decide_eq_true (by kernel_rfl)) (by kernel_rfl) (by kernel_rfl) (by kernel_rfl) (by kernel_rfl) (fun _ _ _ h => h) rfl ?_ hS0 ?_
                  rotate_left
                  · intro w' hSw
                    simp only [List.getElem_toArray, List.getElem_cons_succ, List.getElem_cons_zero]
                    go_simp
                    all_goals with_reducible rfl
                  simp only [List.getElem_toArray, List.getElem_cons_succ, List.getElem_cons_zero, Act.put, List.setIfInBounds_toArray, List.set_cons_zero, List.set_cons_succ]
                  refine wpE_takeG' (v := ?_) 14 [15, 16, 17] (of_decide_eq_true (by kernel_rfl)) (by kernel_rfl) (by kernel_rfl) (by kernel_rfl) (by kernel_rfl) (fun _ _ _ h => h) rfl ?_ hS0 ?_
                  rotate_left
                  · intro w' hSw
                    simp only [List.getElem_toArray, List.getElem_cons_succ, List.getElem_cons_zero]
                    go_simp
                    all_goals with_reducible rfl
                  simp only [List.getElem_toArray, List.getElem_cons_succ, List.getElem_cons_zero, Act.put, List.setIfInBounds_toArray, List.set_cons_zero, List.set_cons_succ]
                  refine wpE_takeG' (v := ?_) 15 [16, 17] (of_decide_eq_true (by kernel_rfl)) (by kernel_rfl) (by kernel_rfl) (by kernel_rfl) (by kernel_rfl) (fun _ _ _ h => h) rfl ?_ hS0 ?_
                  rotate_left
                  · intro w' hSw
                    simp only [List.getElem_toArray, List.getElem_cons_succ, List.getElem_cons_zero]
                    go_simp
                    all_goals with_reducible rfl
                  simp only [List.getElem_toArray, List.getElem_cons_succ, List.getElem_cons_zero, Act.put, List.setIfInBounds_toArray, List.set_cons_zero, List.set_cons_succ]
                  refine wpE_takeG' (v := ?_) 16 [17] (of_decide_eq_true (by kernel_rfl)) (by kernel_rfl) (by kernel_rfl) (by kernel_rfl) (by kernel_rfl) (fun _ _ _ h => h) rfl ?_ hS0 ?_
                  rotate_left
                  · intro w' hSw
                    simp only [List.getElem_toArray, List.getElem_cons_succ, List.getElem_cons_zero]
                    go_simp
                    all_goals with_reducible rfl
                  simp only [List.getElem_toArray, List.getElem_cons_succ, List.getElem_cons_zero, Act.put, List.setIfInBounds_toArray, List.set_cons_zero, List.set_cons_succ]
                  refine wpE_step' 17 (of_decide_eq_true (by kernel_rfl)) (by kernel_rfl) (by kernel_rfl) (fun K hK => ?_)
                  simp only [List.getElem_toArray, List.getElem_cons_succ, List.getElem_cons_zero]
                  go_simp
                  refine hK.out _ _ (.inl rfl) ?_
                  clear hK K
                  simp only [Act.put, List.setIfInBounds_toArray, List.set_cons_zero, List.set_cons_succ]
                  refine wpE_done (by kernel_rfl) ?_ _
                  go_wp2_with fail
                  go_ret
                  exact ⟨rfl, hD2.bel⟩
                · have HN : Hid (∀ j, j < k + 1 → preAt L F xs i j = true) := by
                    intro j hj
                    by_cases e : j = k
                    · subst e; rw [HP.out, ha, decide_eq_true (show x + l ≤ v by omega)]; rfl
                    · exact HB.out j (by omega)
                  clear ha
                  go_upto_region 9 with fail
                  have hS0 : wr.drew.cell? ⟨w.heap.size, 0, none⟩ = some (.slice (some ⟨bl, ol, none⟩) L.length cl) ∧ wr.drew.cell? ⟨w.heap.size, 1, none⟩ = some (.slice AF F.length cf) ∧ wr.drew.cell? ⟨bx, ox + k, none⟩ = some (.int .i64 x) ∧ wr.drew.cell? ⟨bl, ol + k, none⟩ = some (.int .i64 l) := ⟨p0, p1, x0, y0⟩
                  refine wp_regionE (fun w' => w'.cell? ⟨w.heap.size, 0, none⟩ = some (.slice (some ⟨bl, ol, none⟩) L.length cl) ∧ w'.cell? ⟨w.heap.size, 1, none⟩ = some (.slice AF F.length cf) ∧ w'.cell? ⟨bx, ox + k, none⟩ = some (.int .i64 x) ∧ w'.cell? ⟨bl, ol + k, none⟩ = some (.int .i64 l)) 17 (by kernel_rfl) ?_
                  change wpE _ _ _ _ _ _ 18 #[false, false, false, false, false, false, false, false, false, false, false, false, false, false, false, false, false, false] _ _
                  refine wpE_take' (v := ?_) 0 [3, 4, 17] (of_decide_eq_true (by kernel_rfl)) (by kernel_rfl) (by kernel_rfl) (by kernel_rfl) (by kernel_rfl) (fun _ _ _ h => h) (by kernel_rfl) ?_ hS0 ?_
                  rotate_left
                  · intro w' hSw
                    simp only [List.getElem_toArray, List.getElem_cons_succ, List.getElem_cons_zero]
                    go_simp
                    all_goals with_reducible rfl
                  simp only [List.getElem_toArray, List.getElem_cons_succ, List.getElem_cons_zero, Act.put, List.setIfInBounds_toArray, List.set_cons_zero, List.set_cons_succ]
                  refine wpE_take' (v := ?_) 1 [3, 4, 17] (of_decide_eq_true (by kernel_rfl)) (by kernel_rfl) (by kernel_rfl) (by kernel_rfl) (by kernel_rfl) (fun _ _ _ h => h) (by kernel_rfl) ?_ hS0 ?_
                  rotate_left
                  · intro w' hSw
                    simp only [List.getElem_toArray, List.getElem_cons_succ, List.getElem_cons_zero]
                    go_simp
                    all_goals with_reducible rfl
                  simp only [List.getElem_toArray, List.getElem_cons_succ, List.getElem_cons_zero, Act.put, List.setIfInBounds_toArray, List.set_cons_zero, List.set_cons_succ]
                  refine wpE_take' (v := ?_) 2 [3, 4, 17] (of_decide_eq_true (by kernel_rfl)) (by kernel_rfl) (by kernel_rfl) (by kernel_rfl) (by kernel_rfl) (fun _ _ _ h => h) (by kernel_rfl) ?_ hS0 ?_
                  rotate_left
                  · intro w' hSw
                    simp only [List.getElem_toArray, List.getElem_cons_succ, List.getElem_cons_zero]
                    go_simp
                    all_goals with_reducible rfl
                  simp only [List.getElem_toArray, List.getElem_cons_succ, List.getElem_cons_zero, Act.put, List.setIfInBounds_toArray, List.set_cons_zero, List.set_cons_succ]
                  refine wpE_step' 3 (of_decide_eq_true (by kernel_rfl)) (by kernel_rfl) (by kernel_rfl) (fun K hK => ?_)
                  simp only [List.getElem_toArray, List.getElem_cons_succ, List.getElem_cons_zero]
                  go_simp
                  go_at_call 46
                  refine (after_c L F i k (by have := (projOk_iff.1 Hok.out).2.1; omega) (by omega) hbits _ AF bl ol cl bf of' cf _ _ (by omega) (Nat.le_refl _) hDd.rl hDd.rf).mono ?_
                  rintro e w2 ⟨rfl, hb2⟩
                  rw [Ha.out]
                  have hD2 := hDd.below hb2
                  have hI2 := (hId.below hb2).more hb2.size
                  clear hS0
                  have hS0 : w2.cell? ⟨w.heap.size, 0, none⟩ = some (.slice (some ⟨bl, ol, none⟩) L.length cl) ∧ w2.cell? ⟨w.heap.size, 1, none⟩ = some (.slice AF F.length cf) ∧ w2.cell? ⟨bx, ox + k, none⟩ = some (.int .i64 x) ∧ w2.cell? ⟨bl, ol + k, none⟩ = some (.int .i64 l) := ⟨hD2.c0, hD2.c1, ((bcell hb2).1 bx (ox + k) hbx).trans x0, ((bcell hb2).1 bl (ol + k) hbl).trans y0⟩
                  refine hK.out _ _ (.inr hS0) ?_
                  clear hK K
                  simp only [Act.put, List.setIfInBounds_toArray, List.set_cons_zero, List.set_cons_succ]
                  refine wpE_take' (v := ?_) 4 [17] (of_decide_eq_true (by kernel_rfl)) (by kernel_rfl) (by kernel_rfl) (by kernel_rfl) (by kernel_rfl) (fun _ _ _ h => h) (by kernel_rfl) ?_ hS0 ?_
                  rotate_left
                  · intro w' hSw
                    simp only [List.getElem_toArray, List.getElem_cons_succ, List.getElem_cons_zero]
                    go_simp
                    all_goals with_reducible rfl
                  simp only [List.getElem_toArray, List.getElem_cons_succ, List.getElem_cons_zero, Act.put, List.setIfInBounds_toArray, List.set_cons_zero, List.set_cons_succ]
                  refine wpE_takeG' (v := ?_) 5 [16, 17] (of_decide_eq_true (by kernel_rfl)) (by kernel_rfl) (by kernel_rfl) (by kernel_rfl) (by kernel_rfl) (fun _ _ _ h => h) rfl ?_ hS0 ?_
                  rotate_left
                  · intro w' hSw
                    simp only [List.getElem_toArray, List.getElem_cons_succ, List.getElem_cons_zero]
                    go_simp
                    all_goals with_reducible rfl
                  simp only [List.getElem_toArray, List.getElem_cons_succ, List.getElem_cons_zero, Act.put, List.setIfInBounds_toArray, List.set_cons_zero, List.set_cons_succ]
                  refine wpE_takeG' (v := ?_) 6 [8, 9, 15, 16, 17] (of_decide_eq_true (by kernel_rfl)) (by kernel_rfl) (by kernel_rfl) (by kernel_rfl) (by kernel_rfl) (fun _ _ _ h => h) rfl ?_ hS0 ?_
                  rotate_left
                  · intro w' hSw
                    simp only [List.getElem_toArray, List.getElem_cons_succ, List.getElem_cons_zero]
                    go_simp
                    all_goals with_reducible rfl
                  simp only [List.getElem_toArray, List.getElem_cons_succ, List.getElem_cons_zero, Act.put, List.setIfInBounds_toArray, List.set_cons_zero, List.set_cons_succ]
                  refine wpE_takeG' (v := ?_) 7 [8, 9, 15, 16, 17] (of_decide_eq_true (by kernel_rfl)) (by kernel_rfl) (by kernel_rfl) (by kernel_rfl) (by kernel_rfl) (fun _ _ _ h => h) rfl ?_ hS0 ?_
                  rotate_left
                  · intro w' hSw
                    simp only [List.getElem_toArray, List.getElem_cons_succ, List.getElem_cons_zero]
                    go_simp
                    all_goals with_reducible rfl
                  simp only [List.getElem_toArray, List.getElem_cons_succ, List.getElem_cons_zero, Act.put, List.setIfInBounds_toArray, List.set_cons_zero, List.set_cons_succ]
                  refine wpE_takeG' (v := ?_) 8 [9, 15, 16, 17] (of_decide_eq_true (by kernel_rfl)) (by kernel_rfl) (by kernel_rfl) (by kernel_rfl) (by kernel_rfl) (fun _ _ _ h => h) rfl ?_ hS0 ?_
                  rotate_left
                  · intro w' hSw
                    simp only [List.getElem_toArray, List.getElem_cons_succ, List.getElem_cons_zero]
                    go_simp
                    all_goals with_reducible rfl
                  simp only [List.getElem_toArray, List.getElem_cons_succ, List.getElem_cons_zero, Act.put, List.setIfInBounds_toArray, List.set_cons_zero, List.set_cons_succ]
                  refine wpE_takeG' (v := ?_) 9 [15, 16, 17] (of_decide_eq_true (by kernel_rfl)) (by kernel_rfl) (by kernel_rfl) (by kernel_rfl) (by kernel_rfl) (fun _ _ _ h => h) rfl ?_ hS0 ?_
                  rotate_left
                  · intro w' hSw
                    simp only [List.getElem_toArray, List.getElem_cons_succ, List.getElem_cons_zero]
                    go_simp
                    all_goals with_reducible rfl
                  simp only [List.getElem_toArray, List.getElem_cons_succ, List.getElem_cons_zero, Act.put, List.setIfInBounds_toArray, List.set_cons_zero, List.set_cons_succ]
                  refine wpE_takeG' (v := ?_) 10 [11, 13, 14, 15, 16, 17] (of_decide_eq_true (by kernel_rfl)) (by kernel_rfl) (by kernel_rfl) (by kernel_rfl) (by kernel_rfl) (fun _ _ _ h => h) rfl ?_ hS0 ?_
                  rotate_left
                  · intro w' hSw
                    simp only [List.getElem_toArray, List.getElem_cons_succ, List.getElem_cons_zero]
                    go_simp
                    all_goals with_reducible rfl
                  simp only [List.getElem_toArray, List.getElem_cons_succ, List.getElem_cons_zero, Act.put, List.setIfInBounds_toArray, List.set_cons_zero, List.set_cons_succ]
                  refine wpE_takeG' (v := ?_) 11 [13, 14, 15, 16, 17] (of_decide_eq_true (by kernel_rfl)) (by kernel_rfl) (by kernel_rfl) (by kernel_rfl) (by kernel_rfl) (fun _ _ _ h => h) rfl ?_ hS0 ?_
                  rotate_left
                  · intro w' hSw
                    simp only [List.getElem_toArray, List.getElem_cons_succ, List.getElem_cons_zero]
                    go_simp
                    all_goals with_reducible rfl
                  simp only [List.getElem_toArray, List.getElem_cons_succ, List.getElem_cons_zero, Act.put, List.setIfInBounds_toArray, List.set_cons_zero, List.set_cons_succ]
                  refine wpE_takeG' (v := ?_) 12 [13, 14, 15, 16, 17] (of_decide_eq_true (by kernel_rfl)) (by kernel_rfl) (by kernel_rfl) (by kernel_rfl) (by kernel_rfl) (fun _ _ _ h => h) rfl ?_ hS0 ?_
                  rotate_left
                  · intro w' hSw
                    simp only [List.getElem_toArray, List.getElem_cons_succ, List.getElem_cons_zero]
                    go_simp
                    all_goals with_reducible rfl
                  simp only [List.getElem_toArray, List.getElem_cons_succ, List.getElem_cons_zero, Act.put, List.setIfInBounds_toArray, List.set_cons_zero, List.set_cons_succ]
                  refine wpE_takeG' (v := ?_) 13 [14, 15, 16, 17] (of_decide_eq_true (by kernel_rfl)) (by kernel_rfl) (by kernel_rfl) (by kernel_rfl) (by kernel_rfl) (fun _ _ _ h => h) rfl ?_ hS0 ?_
                  rotate_left
                  · intro w' hSw
                    simp only [List.getElem_toArray, List.getElem_cons_succ, List.getElem_cons_zero]
                    go_simp
                    all_goals with_reducible rfl
                  simp only [List.getElem_toArray, List.getElem_cons_succ, List.getElem_cons_zero, Act.put, List.setIfInBounds_toArray, List.set_cons_zero, List.set_cons_succ]
                  refine wpE_takeG' (v := ?_) 14 [15, 16, 17] (of_decide_eq_true (by kernel_rfl)) (by kernel_rfl) (by kernel_rfl) (by kernel_rfl) (by kernel_rfl) (fun _ _ _ h => h) rfl ?_ hS0 ?_
                  rotate_left
                  · intro w' hSw
                    simp only [List.getElem_toArray, List.getElem_cons_succ, List.getElem_cons_zero]
                    go_simp
                    all_goals with_reducible rfl
                  simp only [List.getElem_toArray, List.getElem_cons_succ, List.getElem_cons_zero, Act.put, List.setIfInBounds_toArray, List.set_cons_zero, List.set_cons_succ]
                  refine wpE_takeG' (v := ?_) 15 [16, 17] (of_decide_eq_true (by kernel_rfl)) (by kernel_rfl) (by kernel_rfl) (by kernel_rfl) (by kernel_rfl) (fun _ _ _ h => h) rfl ?_ hS0 ?_
                  rotate_left
                  · intro w' hSw
                    simp only [List.getElem_toArray, List.getElem_cons_succ, List.getElem_cons_zero]
                    go_simp
                    all_goals with_reducible rfl
                  simp only [List.getElem_toArray, List.getElem_cons_succ, List.getElem_cons_zero, Act.put, List.setIfInBounds_toArray, List.set_cons_zero, List.set_cons_succ]
                  refine wpE_takeG' (v := ?_) 16 [17] (of_decide_eq_true (by kernel_rfl)) (by kernel_rfl) (by kernel_rfl) (by kernel_rfl) (by kernel_rfl) (fun _ _ _ h => h) rfl ?_ hS0 ?_
                  rotate_left
                  · intro w' hSw
                    simp only [List.getElem_toArray, List.getElem_cons_succ, List.getElem_cons_zero]
                    go_simp
                    all_goals with_reducible rfl
                  simp only [List.getElem_toArray, List.getElem_cons_succ, List.getElem_cons_zero, Act.put, List.setIfInBounds_toArray, List.set_cons_zero, List.set_cons_succ]
                  refine wpE_step' 17 (of_decide_eq_true (by kernel_rfl)) (by kernel_rfl) (by kernel_rfl) (fun K hK => ?_)
                  simp only [List.getElem_toArray, List.getElem_cons_succ, List.getElem_cons_zero]
                  go_simp
                  refine hK.out _ _ (.inl rfl) ?_
                  clear hK K
                  simp only [Act.put, List.setIfInBounds_toArray, List.set_cons_zero, List.set_cons_succ]
                  refine wpE_done (by kernel_rfl) ?_ _
                  clear hS0 x0 y0 p0 p1 hDd hId hws hc
                  go_wp2_with fail
                  go_roundg (i - (k + 1))
                  case measure => go_light; omega
                  case rel => go_light; exact ⟨k + 1, by omega, rfl, by go_num, hD2, hI2, HN⟩
            · have hki' : ¬ (k : Int) < (i : Int) := by omega
              have HQ : Hid ((List.range i).all (preAt L F xs i) = true) := range_all (fun j hj => HB.out j (by omega))
              have HO : Hid (bokAt L F h xs i = decide ((busyN L xs v : Int) ≤ h)) := by unfold Hid bokAt; rw [HQ.out, Hv.out]; rfl
              obtain ⟨m, hm⟩ : ∃ m, busyN L xs v = m := ⟨_, rfl⟩
              rw [hm] at HO
              have Hm := hide hm
              clear hm p1
              by_cases hc : (m : Int) ≤ h
              · have HN : Hid (∀ j, j < i + 1 → bokAt L F h xs j = true) := by
                  intro j hj
                  by_cases e : j = i
                  · subst e; rw [HO.out, decide_eq_true hc]
                  · exact HA.out j (by omega)
                have p1 := hD.c1
                go_wp2_with (go_at_call 72; go_fit (busyX_c L F xs v Hxl.out Hal.out AL AF _ bl ol cl bf of' cf bx ox cx _ _ hll (Nat.le_refl _) hD.rl hD.rf hI); rintro e w2 ⟨rfl, hb⟩; rw [Hm.out]; replace hI := (hI.below hb).more hb.size; replace hD := hD.below hb; clear p0 p1; have p0 := hD.c0; have p1 := hD.c1)
                go_roundg (xs.length - (i + 1))
                case measure => go_light; omega
                case rel => go_light; exact ⟨i + 1, by omega, rfl, by go_num, hD, hI, HN⟩
              · obtain rfl : r = false := by
                  rw [← Hre.out]
                  exact range_no hlt (by rw [HO.out, decide_eq_false hc])
                have p1 := hD.c1
                go_wp2_with (go_at_call 72; go_fit (busyX_c L F xs v Hxl.out Hal.out AL AF _ bl ol cl bf of' cf bx ox cx _ _ hll (Nat.le_refl _) hD.rl hD.rf hI); rintro e w2 ⟨rfl, hb⟩; rw [Hm.out]; replace hI := (hI.below hb).more hb.size; replace hD := hD.below hb; clear p0 p1; have p0 := hD.c0; have p1 := hD.c1)
                go_ret
                exact ⟨rfl, hD.bel⟩
        · obtain rfl : r = true := by
            rw [← Hre.out]
            exact range_all (fun j hj => HA.out j (by omega))
          have hlt' : ¬ (i : Int) < (xs.length : Int) := by omega
          go_wp2_with fail
          go_ret
          exact ⟨rfl, hD.bel⟩

open Go.RowKit Pp

namespace Pp
def ordAt (o : List Int) (many : Int) (i : Nat) : Bool := inB (o.getD i 0) 0 (many - 1) && !decide (o.getD i 0 ∈ o.take i)
def orderOk (o : List Int) (many : Int) : Bool := (List.range o.length).all (ordAt o many) && (inB many 0 6 && decide ((o.length : Int) = many))
theorem ord_take {o : List Int} {m : Int} : ∀ {n : Nat}, n ≤ o.length → ((∀ i, i < n → ordAt o m i = true) ↔ (o.take n).Nodup ∧ ∀ v ∈ o.take n, 0 ≤ v ∧ v < m)
  | 0, _ => by simp
  | n + 1, h => by
    have ih := ord_take (o := o) (m := m) (n := n) (by omega)
    have e : o.take (n + 1) = o.take n ++ [o[n]] := by rw [List.take_succ_eq_append_getElem (by omega)]
    have ex : o.getD n 0 = o[n] := by rw [List.getD_eq_getElem?_getD, List.getElem?_eq_getElem (by omega)]; rfl
    have eo : ordAt o m n = true ↔ (0 ≤ o[n] ∧ o[n] < m) ∧ o[n] ∉ o.take n := by
      unfold ordAt
      rw [ex]
      simp only [Bool.and_eq_true, inB_iff, Bool.not_eq_true', decide_eq_false_iff_not]
      constructor
      · rintro ⟨⟨h1, h2⟩, h3⟩; exact ⟨⟨h1, by omega⟩, h3⟩
      · rintro ⟨⟨h1, h2⟩, h3⟩; exact ⟨⟨h1, by omega⟩, h3⟩
    rw [e, List.nodup_append]
    constructor
    · intro hall
      obtain ⟨h1, h2⟩ := ih.1 (fun i hi => hall i (by omega))
      obtain ⟨h3, h4⟩ := eo.1 (hall n (by omega))
      refine ⟨⟨h1, by simp, fun a ha b hb => ?_⟩, fun v hv => ?_⟩
      · simp only [List.mem_singleton] at hb
        subst hb
        intro e; subst e; exact h4 ha
      · rcases List.mem_append.1 hv with hv | hv
        · exact h2 v hv
        · simp only [List.mem_singleton] at hv; subst hv; exact h3
    · rintro ⟨⟨h1, _, h2⟩, h3⟩ i hi
      by_cases ei : i = n
      · subst ei
        exact eo.2 ⟨h3 _ (List.mem_append.2 (.inr List.mem_cons_self)), fun hm => h2 _ hm _ List.mem_cons_self rfl⟩
      · exact ih.2 ⟨h1, fun v hv => h3 v (List.mem_append.2 (.inl hv))⟩ i (by omega)
theorem orderOk_iff {o : List Int} {n : Nat} : orderOk o (n : Int) = true ↔ n ≤ 6 ∧ IsOrder n o := by
  have h := ord_take (o := o) (m := (n : Int)) (Nat.le_refl _)
  rw [List.take_length] at h
  unfold orderOk IsOrder
  simp only [Bool.and_eq_true, inB_iff, decide_eq_true_eq, List.all_eq_true, List.mem_range]
  constructor
  · rintro ⟨h1, h2, h3⟩
    obtain ⟨h4, h5⟩ := h.1 h1
    exact ⟨by omega, by omega, h4, h5⟩
  · rintro ⟨h1, h2, h3, h4⟩
    exact ⟨h.2 ⟨h3, h4⟩, by omega, by omega⟩
def orderFits (L F : List Int) (h : Int) (o : List Int) : Bool := projOk L F && inB h 1 3 && orderOk o (L.length : Int)
theorem orderFits_iff {L F : List Int} {h : Int} {o : List Int} : orderFits L F h o = true ↔ projOk L F = true ∧ (1 ≤ h ∧ h ≤ 3) ∧ IsOrder L.length o := by
  unfold orderFits
  simp only [Bool.and_eq_true, inB_iff, orderOk_iff, and_assoc]
  constructor
  · rintro ⟨h1, h2, h3, h4, h5⟩; exact ⟨h1, h2, h3, h5⟩
  · rintro ⟨h1, h2, h3, h5⟩; exact ⟨h1, h2, h3, (projOk_iff.1 h1).1, h5⟩
end Pp
theorem IntsR.take {w : World} {B b o : Nat} {A : Option Addr} {xs : List Int} (h : IntsR w B b o A xs) (k : Nat) (hk : k ≤ xs.length) : IntsR w B b o A (xs.take k) := by
  have hl : (xs.take k).length = k := by rw [List.length_take]; omega
  refine ⟨fun hx => h.addr (by omega), fun hx => h.lt (by omega), fun j hj => ?_⟩
  rw [h.cell j (by omega)]
  rw [List.getD_eq_getElem?_getD, List.getD_eq_getElem?_getD, List.getElem?_take, if_pos (by omega)]

set_option maxHeartbeats 2000000 in
set_option maxRecDepth 100000 in
theorem orderOk_c (xs : List Int) (m : Int) (AX : Option Addr) (bx ox cx B : Nat) (w : World) (hm : -1000000000 ≤ m ∧ m ≤ 1000000000) (hlx : xs.length ≤ 2000000) (hcx : xs.length ≤ cx) (hB : B ≤ w.heap.size) (hX : IntsR w B bx ox AX xs) :
    Calls Try.prog 90 #[.slice AX xs.length cx, .int .i64 m] w fun e w' => e = .returned (.bool (orderOk xs m)) ∧ w' = w := by
  obtain ⟨r, Hr⟩ : ∃ r, Hid (orderOk xs m = r) := ⟨_, rfl⟩
  rw [Hr.out]
  obtain ⟨hm1, hm2⟩ := hm
  go_enter Try.func90, Try.ntmps90
  go_wp2_with fail
  go_loopg [9] xs.length (fun gh s wr => ∃ i : Nat, i ≤ xs.length ∧ gh = xs.length - i ∧ s = .int .i64 i ∧ wr = w ∧ Hid (∀ j, j < i → ordAt xs m j = true))
  case atStart => exact ⟨0, Nat.zero_le _, rfl, rfl, rfl, fun j hj => by omega⟩
  case round =>
    obtain ⟨i, hi, rfl, rfl, rfl, HA⟩ := hrel
    by_cases hlt : i < xs.length
    · have hlt' : (i : Int) < (xs.length : Int) := by omega
      have hi0 : (0 : Int) ≤ (i : Int) := by omega
      have hic : (i : Int) ≤ (cx : Int) := by omega
      obtain rfl := hX.addr (by omega)
      have x0 := hX.cell i hlt
      have hT := (hX.take i hi).more hB
      have Ho : Hid (ordAt xs m i = (inB (xs.getD i 0) 0 (m - 1) && !decide (xs.getD i 0 ∈ xs.take i))) := rfl
      generalize xs.getD i 0 = v at x0 Ho
      obtain ⟨q, hq⟩ : ∃ q, xs.take i = q := ⟨_, rfl⟩
      have hql : q.length = i := by rw [← hq, List.length_take]; omega
      rw [hq] at hT Ho
      have hcall := contains_c q v (some ⟨bx, ox, none⟩) bx ox cx _ wr (by omega) (Nat.le_refl _) hT
      rw [hql] at hcall
      clear hq hql hT
      have Hcall := hide hcall
      clear hcall
      obtain ⟨r1, hr1⟩ : ∃ r1, inB v 0 (m - 1) = r1 := ⟨_, rfl⟩
      obtain ⟨r2, hr2⟩ : ∃ r2, decide (v ∈ q) = r2 := ⟨_, rfl⟩
      rw [hr1, hr2] at Ho
      have H1 := hide hr1
      have H2 := hide hr2
      clear hr1 hr2
      cases r1
      · obtain rfl : r = false := by
          rw [← Hr.out]
          unfold orderOk
          rw [range_no hlt Ho.out]; rfl
        go_wp2_with (go_at_call 80; go_fit (in_c v 0 (m - 1) _); rintro e w2 ⟨rfl, rfl⟩; rw [H1.out])
        go_ret
        exact ⟨rfl, rfl⟩
      · cases r2
        · have HN : Hid (∀ j, j < i + 1 → ordAt xs m j = true) := by
            intro j hj
            by_cases e : j = i
            · subst e; exact Ho.out
            · exact HA.out j (by omega)
          go_wp2_with (first
            | (go_at_call 80; go_fit (in_c v 0 (m - 1) _); rintro e w2 ⟨rfl, rfl⟩; rw [H1.out])
            | (go_at_call 75; refine Hcall.out.mono ?_; rintro e w3 ⟨rfl, rfl⟩; rw [H2.out]))
          go_roundg (xs.length - (i + 1))
          case measure => go_light; omega
          case rel => go_light; exact ⟨i + 1, by omega, rfl, by go_num, rfl, HN⟩
        · obtain rfl : r = false := by
            rw [← Hr.out]
            unfold orderOk
            rw [range_no hlt Ho.out]; rfl
          go_wp2_with (first
            | (go_at_call 80; go_fit (in_c v 0 (m - 1) _); rintro e w2 ⟨rfl, rfl⟩; rw [H1.out])
            | (go_at_call 75; refine Hcall.out.mono ?_; rintro e w3 ⟨rfl, rfl⟩; rw [H2.out]))
          go_ret
          exact ⟨rfl, rfl⟩
    · have hlt' : ¬ (i : Int) < (xs.length : Int) := by omega
      have hre : (inB m 0 6 && decide ((xs.length : Int) = m)) = r := by
        rw [← Hr.out]
        unfold orderOk
        rw [range_all (fun j hj => HA.out j (by omega))]; rfl
      obtain ⟨r1, hr1⟩ : ∃ r1, inB m 0 6 = r1 := ⟨_, rfl⟩
      rw [hr1] at hre
      have H1 := hide hr1
      have Hre := hide hre
      clear hr1 hre
      cases r1
      · go_wp2_with (go_at_call 80; go_fit (in_c m 0 6 _); rintro e w2 ⟨rfl, rfl⟩; rw [H1.out])
        go_ret
        exact ⟨by rw [← Hre.out]; rfl, rfl⟩
      · go_wp2_with (go_at_call 80; go_fit (in_c m 0 6 _); rintro e w2 ⟨rfl, rfl⟩; rw [H1.out])
        go_ret
        exact ⟨by rw [← Hre.out]; by_cases e : (xs.length : Int) = m <;> simp [e], rfl⟩

set_option maxHeartbeats 1000000 in
set_option maxRecDepth 100000 in
theorem orderFits_c (L F xs : List Int) (h : Int) (AL AF AX : Option Addr) (bl ol cl bf of' cf bx ox cx B : Nat) (w : World) (hll : L.length ≤ 2000000) (hlf : F.length ≤ 2000000) (hlx : xs.length ≤ 2000000) (hcx : xs.length ≤ cx) (hB : B ≤ w.heap.size) (hl : IntsR w B bl ol AL L) (hf : IntsR w B bf of' AF F) (hX : IntsR w B bx ox AX xs) :
    Calls Try.prog 65 #[.agg #[.slice AL L.length cl, .slice AF F.length cf], .int .i64 h, .slice AX xs.length cx] w fun e w' => e = .returned (.bool (orderFits L F h xs)) ∧ Below w.heap.size w w' := by
  have hD := pj_new (t := 25) (cl := cl) (cf := cf) hB hl hf
  have hI := (hX.below (hD.bel.mono hB)).more (Nat.le_trans hB hD.bel.size)
  have e : orderFits L F h xs = (projOk L F && inB h 1 3 && orderOk xs (L.length : Int)) := rfl
  rw [e]
  obtain ⟨r1, hr1⟩ : ∃ r1, projOk L F = r1 := ⟨_, rfl⟩
  obtain ⟨r2, hr2⟩ : ∃ r2, inB h 1 3 = r2 := ⟨_, rfl⟩
  obtain ⟨r3, hr3⟩ : ∃ r3, orderOk xs (L.length : Int) = r3 := ⟨_, rfl⟩
  rw [hr1, hr2, hr3]
  have H1 := hide hr1
  have H2 := hide hr2
  have H3 := hide hr3
  clear hr1 hr2 hr3 e hl hf hB hX
  go_enter Try.func65, Try.ntmps65
  go_upto_region 1 with fail
  generalize w.alloc (.cells #[.slice AL L.length cl, .slice AF F.length cf] 25) = W at hD hI ⊢
  have p0 := hD.c0
  have p1 := hD.c1
  cases r1
  · go_wp2_with (go_at_call 45; go_fit (projectOk_c L F AL AF bl ol cl bf of' cf _ _ hll hlf (Nat.le_refl _) hD.rl hD.rf); rintro e w2 ⟨rfl, hb⟩; rw [H1.out]; replace hD := hD.below hb; clear p0 p1; have p0 := hD.c0; have p1 := hD.c1)
    go_ret
    exact ⟨rfl, hD.bel⟩
  · cases r2
    · go_wp2_with (first
        | (go_at_call 45; go_fit (projectOk_c L F AL AF bl ol cl bf of' cf _ _ hll hlf (Nat.le_refl _) hD.rl hD.rf); rintro e w2 ⟨rfl, hb⟩; rw [H1.out]; replace hI := (hI.below hb).more hb.size; replace hD := hD.below hb; clear p0 p1; have p0 := hD.c0; have p1 := hD.c1)
        | (go_at_call 60; go_fit (isHands_c h _); rintro e w3 ⟨rfl, rfl⟩; rw [H2.out]))
      go_ret
      exact ⟨rfl, hD.bel⟩
    · go_wp2_with (first
        | (go_at_call 45; go_fit (projectOk_c L F AL AF bl ol cl bf of' cf _ _ hll hlf (Nat.le_refl _) hD.rl hD.rf); rintro e w2 ⟨rfl, hb⟩; rw [H1.out]; replace hI := (hI.below hb).more hb.size; replace hD := hD.below hb; clear p0 p1; have p0 := hD.c0; have p1 := hD.c1)
        | (go_at_call 60; go_fit (isHands_c h _); rintro e w3 ⟨rfl, rfl⟩; rw [H2.out])
        | (go_at_call 90; go_fit (orderOk_c xs (L.length : Int) AX bx ox cx _ _ (by omega) hlx hcx (Nat.le_refl _) hI); rintro e w4 ⟨rfl, rfl⟩; rw [H3.out]))
      go_ret
      exact ⟨by cases r3 <;> rfl, hD.bel⟩

set_option maxHeartbeats 1000000 in
set_option maxRecDepth 100000 in
theorem none_c (L F : List Int) (AL AF : Option Addr) (bl ol cl bf of' cf B : Nat) (w : World) (hll : L.length ≤ 1000) (hB : B ≤ w.heap.size) (hl : IntsR w B bl ol AL L) (hf : IntsR w B bf of' AF F) :
    Calls Try.prog 66 #[.agg #[.slice AL L.length cl, .slice AF F.length cf]] w fun e w' => ∃ g, e = .returned (.slice (some ⟨g, 0, none⟩) L.length L.length) ∧ w.heap.size ≤ g ∧ w'.rowIs g 3 L.length (fun j => .int .i64 ((noneB L.length).getD j 0)) ∧ Below w.heap.size w w' := by
  have hmk := run_make_row' (P := Try.prog) 23 3 (.int .i64 0) 8 Try.underlying23 infoI rfl .i64 .i64 L.length (by omega) (by omega)
  have hD := pj_new (t := 25) (cl := cl) (cf := cf) hB hl hf
  clear hl hf hB
  go_enter Try.func66, Try.ntmps66
  go_upto_region 1 with fail
  generalize w.alloc (.cells #[.slice AL L.length cl, .slice AF F.length cf] 25) = W at hD ⊢
  have p0 := hD.c0
  go_upto_region 2 with fail
  have hrow0 := World.rowIs_made W (.int .i64 0) L.length 3
  have hW0 : Below W.heap.size W (W.alloc (.cells (madeCells #[.int .i64 0] L.length) 3)) := by go_grown
  generalize W.alloc (.cells (madeCells #[.int .i64 0] L.length) 3) = W2 at hrow0 hW0 ⊢
  obtain ⟨g, hg⟩ : ∃ g, W.heap.size = g := ⟨_, rfl⟩
  rw [hg] at hrow0 ⊢
  have hgW : W.heap.size ≤ g := by omega
  have hgw : w.heap.size ≤ g := by have := hD.bel.size; omega
  clear hmk p0 hg
  go_wp2_with fail
  go_loopg [11] L.length (fun gh s wr => ∃ k : Nat, k ≤ L.length ∧ gh = L.length - k ∧ s = .int .i64 k ∧ wr.rowIs g 3 L.length (fun j => .int .i64 (if j < k then -1 else 0)) ∧ Below W.heap.size W wr)
  case atStart => exact ⟨0, Nat.zero_le _, rfl, rfl, hrow0.congr (fun j _ => by simp), hW0⟩
  case round =>
    clear hrow0 hW0
    obtain ⟨k, hk, rfl, rfl, hrow, hW⟩ := hrel
    by_cases hlt : k < L.length
    · have hlt' : (k : Int) < (L.length : Int) := by omega
      have u1 := hrow.cell hlt
      have uf := hrow.frozen k
      have hset : (wr.setCell ⟨g, k, none⟩ (.int .i64 (-1))).rowIs g 3 L.length (fun j => .int .i64 (if j < k + 1 then -1 else 0)) := (hrow.set k (.int .i64 (-1))).congr (fun j _ => by
        by_cases e : j = k
        · subst e; simp
        · rw [if_neg e]
          by_cases e2 : j < k
          · rw [if_pos e2, if_pos (by omega)]
          · rw [if_neg e2, if_neg (by omega)])
      have hW2 := hW.setCell (p := ⟨g, k, none⟩) hgW (.int .i64 (-1))
      have Hset := hide hset
      clear hset
      go_wp2_with fail
      go_roundg (L.length - (k + 1))
      case measure => go_light; omega
      case rel => go_light; exact ⟨k + 1, by omega, rfl, by go_num, Hset.out, hW2⟩
    · have hlt' : ¬ (k : Int) < (L.length : Int) := by omega
      have hbw := hD.bel.trans (hW.mono hD.bel.size)
      have hrow2 : wr.rowIs g 3 L.length (fun j => .int .i64 ((noneB L.length).getD j 0)) := hrow.congr (fun j hj => by rw [getD_none hj, if_pos (by omega)])
      go_wp2_with fail
      go_ret
      exact ⟨g, rfl, hgw, hrow2, hbw⟩

theorem frOk_no {F b : List Int} {i k n : Nat} (hk : k < n) (ha : aft F i k = true) (h : ¬ 0 ≤ b.getD k 0) : frOk F b i n = false := by
  rw [Bool.eq_false_iff]
  intro hh
  exact h (frOk_iff.1 hh k hk ha)
set_option maxHeartbeats 2000000 in
set_option maxRecDepth 100000 in
theorem from_c (L F xs : List Int) (i : Nat) (hi : i < L.length) (hp : projOk L F = true) (hx : xs.length = L.length) (hb : ∀ j, j < L.length → -1 ≤ xs.getD j 0 ∧ xs.getD j 0 ≤ 10000) (AL AF AX : Option Addr) (bl ol cl bf of' cf bx ox cx B : Nat) (w : World) (hB : B ≤ w.heap.size) (hl : IntsR w B bl ol AL L) (hf : IntsR w B bf of' AF F) (hX : IntsR w B bx ox AX xs) :
    Calls Try.prog 67 #[.agg #[.slice AL L.length cl, .slice AF F.length cf], .slice AX xs.length cx, .int .i64 (i : Int)] w fun e w' => e = .returned (.tuple #[.int .i64 (if frOk F xs i i then erl L F xs i i else 0), .bool (frOk F xs i i)]) ∧ Below w.heap.size w w' := by
  obtain ⟨h6, hle, _, _⟩ := projOk_iff.1 hp
  have hD := pj_new (t := 25) (cl := cl) (cf := cf) hB hl hf
  have hI := (hX.below (hD.bel.mono hB)).more (Nat.le_trans hB hD.bel.size)
  have hbits := proj_bits hp (show i < F.length by omega)
  have Hx := hide hx
  have Hb := hide hb
  have Hp := hide hp
  have Hle := hide hle
  obtain ⟨rf, Hf⟩ : ∃ rf, Hid (frOk F xs i i = rf) := ⟨_, rfl⟩
  obtain ⟨rt, Ht⟩ : ∃ rt, Hid (erl L F xs i i = rt) := ⟨_, rfl⟩
  rw [Hf.out, Ht.out]
  clear hl hf hB hX hx hb hp hle
  go_enter Try.func67, Try.ntmps67
  go_upto_region 1 with fail
  generalize w.alloc (.cells #[.slice AL L.length cl, .slice AF F.length cf] 25) = W at hD hI ⊢
  go_wp2_with fail
  go_loopg [8, 11] i (fun gh s8 s11 wr => ∃ (k : Nat) (m : Int), k ≤ i ∧ gh = i - k ∧ s11 = .int .i64 k ∧ s8 = .int .i64 m ∧ (0 ≤ m ∧ m ≤ 10100) ∧ Hid (erl L F xs i k = m ∧ frOk F xs i k = true) ∧ PJ w wr w.heap.size bl ol AL cl L bf of' AF cf F ∧ IntsR wr wr.heap.size bx ox AX xs)
  case atStart => exact ⟨0, 0, Nat.zero_le _, rfl, rfl, rfl, by omega, ⟨rfl, rfl⟩, hD, hI⟩
  case round =>
    clear hD hI
    obtain ⟨k, m, hk, rfl, rfl, rfl, hm, HE, hD, hI⟩ := hrel
    have p0 := hD.c0
    have p1 := hD.c1
    by_cases hki : k < i
    · have hki' : (k : Int) < (i : Int) := by omega
      cases ha : aft F i k
      · have HE2 : Hid (erl L F xs i (k + 1) = m ∧ frOk F xs i (k + 1) = true) := by
          refine ⟨?_, ?_⟩
          · simp only [erl]; rw [ha, if_neg (by simp)]; exact HE.out.1
          · simp only [frOk]; rw [ha, HE.out.2]; rfl
        have Ha := hide ha
        clear ha
        go_wp2_with (go_at_call 46; go_fit (after_c L F i k (by have := Hle.out; omega) (by omega) hbits AL AF bl ol cl bf of' cf _ _ (by have := Hle.out; omega) (Nat.le_refl _) hD.rl hD.rf); rintro e w2 ⟨rfl, hb⟩; rw [Ha.out]; replace hI := (hI.below hb).more hb.size; replace hD := hD.below hb; clear p0 p1; have p0 := hD.c0; have p1 := hD.c1)
        go_roundg (i - (k + 1))
        case measure => go_light; omega
        case rel => go_light; exact ⟨k + 1, m, by omega, rfl, by go_num, rfl, hm, HE2, hD, hI⟩
      · have Ha := hide ha
        obtain rfl := hI.addr (by have := Hx.out; omega)
        have hkx : (k : Int) < (xs.length : Int) := by have := Hx.out; omega
        have hkL : (k : Int) < (L.length : Int) := by omega
        have hbk := Hb.out k (by omega)
        have hLk := long_at Hp.out (show k < L.length by omega)
        go_upto_if 18 with (go_at_call 46; go_fit (after_c L F i k (by have := Hle.out; omega) (by omega) hbits AL AF bl ol cl bf of' cf _ _ (by have := Hle.out; omega) (Nat.le_refl _) hD.rl hD.rf); rintro e w2 ⟨rfl, hb⟩; rw [Ha.out]; replace hI := (hI.below hb).more hb.size; replace hD := hD.below hb; clear p0 p1; have p0 := hD.c0; have p1 := hD.c1)
        have x0 := hI.cell k (by have := Hx.out; omega)
        by_cases hneg : xs.getD k 0 = -1
        · obtain rfl : rf = false := by rw [← Hf.out]; exact frOk_no hki ha (by omega)
          rw [hneg] at x0
          clear ha hneg hbk
          go_wp2_with fail
          refine bodyPost_ret (v := .tuple #[.int .i64 0, .bool false]) (by simp [results, Try.results67, go_sem]) rfl ?_
          exact ⟨rfl, hD.bel⟩
        · obtain rfl := hD.rl.addr (by omega)
          have y0 := hD.rl.cell k (by omega)
          have HE2 : Hid (erl L F xs i (k + 1) = max m (xs.getD k 0 + L.getD k 0) ∧ frOk F xs i (k + 1) = true) := by
            refine ⟨?_, ?_⟩
            · simp only [erl]; rw [ha, if_pos rfl, HE.out.1]
            · simp only [frOk]; rw [ha, HE.out.2, decide_eq_true (by omega)]; rfl
          generalize xs.getD k 0 = x at x0 hbk hneg HE2
          generalize L.getD k 0 = l at y0 hLk HE2
          have hne : (x == -1) = false := by simpa using hneg
          have hws : IntKind.i64.wrap (x + l) = x + l := IntWalk.i64_in _ (by omega)
          obtain ⟨mv, hmv⟩ : ∃ mv, max m (x + l) = mv := ⟨_, rfl⟩
          have hm1 : (if m < x + l then x + l else m) = mv := by rw [← hmv]; split <;> omega
          have hm2 : (if x + l < m then m else x + l) = mv := by rw [← hmv]; split <;> omega
          have hmb : 0 ≤ mv ∧ mv ≤ 10100 := by omega
          rw [hmv] at HE2
          clear hmv ha
          go_upto_region 8 with fail
          go_quiet (fail)
          have hd : Below w2.heap.size w2 (w2.drewN nq) := ⟨rfl, rfl, rfl, Nat.le_refl _, fun _ _ => rfl⟩
          replace hD := hD.below hd
          replace hI := (hI.below hd).more hd.size
          clear p0 p1 x0 y0 hm1 hm2 hws hd hne hneg hbk hLk
          go_wp2_with fail
          go_roundg (i - (k + 1))
          case measure => go_light; omega
          case rel => go_light; exact ⟨k + 1, mv, by omega, rfl, by go_num, rfl, hmb, HE2, hD, hI⟩
    · obtain rfl : k = i := by omega
      have hki' : ¬ (k : Int) < (k : Int) := by omega
      have e1 : m = rt := by rw [← Ht.out]; exact HE.out.1.symm
      obtain rfl : rf = true := by rw [← Hf.out]; exact HE.out.2
      subst e1
      go_wp2_with fail
      refine bodyPost_ret (v := .tuple #[.int .i64 m, .bool true]) (by simp [results, Try.results67, go_sem]) rfl ?_
      exact ⟨rfl, hD.bel⟩

set_option maxHeartbeats 2000000 in
set_option maxRecDepth 100000 in
theorem free_c (L F xs : List Int) (h t : Int) (i : Nat) (hi : i < L.length) (ht : 0 ≤ t ∧ t ≤ 100000) (hx : xs.length = L.length) (hb : ∀ j, j < L.length → (0 ≤ L.getD j 0 ∧ L.getD j 0 ≤ 100) ∧ (-1 ≤ xs.getD j 0 ∧ xs.getD j 0 ≤ 10000)) (AL AF AX : Option Addr) (bl ol cl bf of' cf bx ox cx B : Nat) (w : World) (hll : L.length ≤ 2000000) (hB : B ≤ w.heap.size) (hl : IntsR w B bl ol AL L) (hf : IntsR w B bf of' AF F) (hX : IntsR w B bx ox AX xs) :
    Calls Try.prog 68 #[.agg #[.slice AL L.length cl, .slice AF F.length cf], .slice AX xs.length cx, .int .i64 h, .int .i64 (i : Int), .int .i64 t] w fun e w' => e = .returned (.bool (freeAt L xs h i t)) ∧ Below w.heap.size w w' := by
  have hD := pj_new (t := 25) (cl := cl) (cf := cf) hB hl hf
  have hI := (hX.below (hD.bel.mono hB)).more (Nat.le_trans hB hD.bel.size)
  have Hx := hide hx
  have Hb := hide hb
  obtain ⟨r, Hr⟩ : ∃ r, Hid (freeAt L xs h i t = r) := ⟨_, rfl⟩
  rw [Hr.out]
  obtain ⟨l, hl'⟩ : ∃ l, L.getD i 0 = l := ⟨_, rfl⟩
  have hlb := (hb i hi).1
  rw [hl'] at hlb
  obtain ⟨N, rfl⟩ := Int.eq_ofNat_of_zero_le hlb.1
  have Hl := hide hl'
  have Hr2 : Hid (freeN L xs h t N = r) := by unfold Hid; rw [← Hr.out]; unfold freeAt; rw [hl']; rfl
  obtain ⟨ht0, ht1⟩ := ht
  clear hl hf hB hX hx hb hl' Hr
  go_enter Try.func68, Try.ntmps68
  go_upto_region 1 with fail
  generalize w.alloc (.cells #[.slice AL L.length cl, .slice AF F.length cf] 25) = W at hD hI ⊢
  go_wp2_with fail
  go_loopg [11] N (fun gh s wr => ∃ k : Nat, k ≤ N ∧ gh = N - k ∧ s = .int .i64 (t + k) ∧ Hid (freeN L xs h t k = true) ∧ PJ w wr w.heap.size bl ol AL cl L bf of' AF cf F ∧ IntsR wr wr.heap.size bx ox AX xs)
  case atStart => exact ⟨0, Nat.zero_le _, rfl, by simp, rfl, hD, hI⟩
  case round =>
    clear hD hI
    obtain ⟨k, hk, rfl, rfl, HF, hD, hI⟩ := hrel
    have p0 := hD.c0
    have p1 := hD.c1
    obtain rfl := hD.rl.addr (by omega)
    have y0 := hD.rl.cell i hi
    rw [Hl.out] at y0
    have hiL : (i : Int) < (L.length : Int) := by omega
    by_cases hkN : k < N
    · have hkN' : t + (k : Int) < t + (N : Int) := by omega
      obtain ⟨u, hu⟩ : ∃ u, t + (k : Int) = u := ⟨_, rfl⟩
      rw [hu] at hkN' ⊢
      have hub : 0 ≤ u ∧ u ≤ 200000 := by omega
      obtain ⟨hu0, hu1⟩ := hub
      have Hu : Hid (u + 1 = t + ((k + 1 : Nat) : Int)) := by unfold Hid; omega
      have HF2 : Hid (freeN L xs h t (k + 1) = decide ((busyN L xs u : Int) < h)) := by unfold Hid; simp only [freeN]; rw [HF.out, hu]; rfl
      obtain ⟨m, hm⟩ : ∃ m, busyN L xs u = m := ⟨_, rfl⟩
      rw [hm] at HF2
      have Hm := hide hm
      clear hm hu
      by_cases hc : (m : Int) < h
      · have HF3 : Hid (freeN L xs h t (k + 1) = true) := by unfold Hid; rw [HF2.out, decide_eq_true hc]
        have hc2 : ¬ h ≤ (m : Int) := by omega
        go_wp2_with (go_at_call 72; go_fit (busyX_c L F xs u Hx.out Hb.out _ AF AX bl ol cl bf of' cf bx ox cx _ _ hll (Nat.le_refl _) hD.rl hD.rf hI); rintro e w2 ⟨rfl, hb⟩; rw [Hm.out]; replace hI := (hI.below hb).more hb.size; replace hD := hD.below hb; clear p0 p1; have p0 := hD.c0; have p1 := hD.c1)
        go_roundg (N - (k + 1))
        case measure => go_light; omega
        case rel => go_light; exact ⟨k + 1, by omega, rfl, by rw [← Hu.out], HF3, hD, hI⟩
      · have hc2 : h ≤ (m : Int) := by omega
        obtain rfl : r = false := by
          rw [← Hr2.out, Bool.eq_false_iff]
          intro hh
          have := freeN_iff.1 hh k hkN
          rw [show t + (k : Int) = u by have := Hu.out; omega, Hm.out] at this
          exact hc this
        go_wp2_with (go_at_call 72; go_fit (busyX_c L F xs u Hx.out Hb.out _ AF AX bl ol cl bf of' cf bx ox cx _ _ hll (Nat.le_refl _) hD.rl hD.rf hI); rintro e w2 ⟨rfl, hb⟩; rw [Hm.out]; replace hI := (hI.below hb).more hb.size; replace hD := hD.below hb; clear p0 p1; have p0 := hD.c0; have p1 := hD.c1)
        go_ret
        exact ⟨rfl, hD.bel⟩
    · obtain rfl : k = N := by omega
      obtain rfl : r = true := by rw [← Hr2.out]; exact HF.out
      have hkN' : ¬ t + (k : Int) < t + (k : Int) := by omega
      go_wp2_with fail
      go_ret
      exact ⟨rfl, hD.bel⟩
end Go.Proofs.Ytmgikoaeomieeaa
