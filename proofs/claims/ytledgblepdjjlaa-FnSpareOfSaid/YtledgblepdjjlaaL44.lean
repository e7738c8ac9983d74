/-
  impl: fewestBad.
-/
import Derived.Test.YtledgblepdjjlaaP23
import Derived.Test.YtledgblepdjjlaaL2
import Derived.Test.YtledgblepdjjlaaL11a
import Derived.Test.YtledgblepdjjlaaZ1
namespace Go.Proofs.Ytledgblepdjjlaa
set_option linter.unusedVariables false
set_option linter.unusedSimpArgs false
open Go.RowKit Pp

theorem min_two {a b m : Int} (h : min a b = m) : (if b < a then b else a) = m ∧ (if a < b then a else b) = m := by
  subst h
  constructor <;> split <;> omega
set_option maxHeartbeats 8000000 in
set_option maxRecDepth 100000 in
theorem fewestBad_c (N : Nat) (bs : List Bd) (hp : planOk ⟨(N : Int), bs⟩ = true) (A : Option Addr) (b o c B : Nat) (w : World) (hB : B ≤ w.heap.size) (hR : BdsR w B b o A bs) :
    Calls Try.prog 84 #[.agg #[.int .i64 (N : Int), .slice A bs.length c]] w fun e w' => ∃ m : Nat, e = .returned (.int .i64 (m : Int)) ∧ Fewest ⟨(N : Int), bs⟩ m ∧ Below w.heap.size w w' := by
  obtain ⟨hn6, hn1, -⟩ := nn_ok hp
  have hnn : nn ⟨(N : Int), bs⟩ = N := by unfold nn; simp
  rw [hnn] at hn6 hn1
  obtain ⟨-, hbl, hbd⟩ := planOk_iff.1 hp
  have hm99 : ∀ x ∈ bs, -99 ≤ x.m ∧ x.m ≤ 99 := fun x hx => (bdOk_iff.1 (hbd x hx)).2.2
  have hft : ∀ x ∈ bs, (0 ≤ x.f ∧ x.f < N) ∧ (0 ≤ x.t ∧ x.t < N) := fun x hx => by
    have h := bdOk_iff.1 (hbd x hx)
    have h1 := h.1
    have h2 := h.2.1
    dsimp only at h1 h2
    omega
  dsimp only at hbl
  have Hm := hide hm99
  have Hft := hide hft
  have hD := po_new (t := 32) (n := (N : Int)) (c := c) (Below.refl w.heap.size w) (hR.more hB)
  clear hR hB hm99 hft hbd hp hnn
  go_enter Try.func84, Try.ntmps84
  go_upto_region 1 with fail
  generalize w.alloc (.cells #[.int .i64 (N : Int), .slice A bs.length c] 32) = W at hD ⊢
  have p0 := hD.c0
  have p1 := hD.c1
  go_upto_region 2 with (go_at_call 94; go_fit (start_c N [] 1000 none 0 0 0 _ _ (by omega) (by simp) (Nat.le_refl _) (BdsR.nil _ _ _) (fun x hx => by simp at hx)); rintro e w1 ⟨rfl, hT, hW⟩)
  clear p0 p1
  have hrb : ∀ i, i < N → W.heap.size ≤ rbs W.heap.size i := fun i _ => by unfold rbs; omega
  obtain ⟨ob, hob⟩ : ∃ ob, W.heap.size = ob := ⟨_, rfl⟩
  obtain ⟨rb, hrbe⟩ : ∃ rb, rbs W.heap.size = rb := ⟨_, rfl⟩
  rw [hrbe] at hT hrb
  rw [hob] at hT ⊢
  have hoW : W.heap.size ≤ ob := by omega
  have hrb' := hide hrb
  clear hrbe hob hrb
  go_wp2_with fail
  go_loopg [19] N (fun gh s wr => ∃ (i : Nat) (T : Tb), i ≤ N ∧ gh = N - i ∧ s = .int .i64 i ∧ Tab wr ob rb N T ∧ Hid (NextT ⟨(N : Int), bs⟩ N 1 i T) ∧ Below W.heap.size W wr)
  case atStart => exact ⟨0, tab0 [], Nat.zero_le _, rfl, rfl, hT, nextT_start _ _ _, hW⟩
  case round =>
    clear hT hW
    obtain ⟨i, T, hi, rfl, rfl, hT, HN, hW⟩ := hrel
    by_cases hlt : i < N
    · have hz : (i : Int) < (N : Int) := by omega
      have u1 := hT.top.cell hlt
      have u2 := (hT.row i hlt).cell hlt
      have u3 := (hT.row i hlt).frozen i
      have hT2 := hT.set (j := i) hlt Far
      unfold Far at hT2
      have hN2 := hide (nextT_diag HN.out)
      have hrbi := hrb'.out i hlt
      go_wp2_with fail
      go_roundg (N - (i + 1))
      case measure => go_light; omega
      case rel => go_light; exact ⟨i + 1, upd T i i Far, by omega, rfl, by go_num, hT2, hN2, hW.setCell hrbi _⟩
    · obtain rfl : i = N := by omega
      have HP := hide (nextT_done HN.out)
      have p1 := ((bcell hW).1 _ 1 hD.ex).trans hD.c1
      clear HN
      go_wp2_with fail
      go_loopg [32] bs.length (fun gh s wr => ∃ (k : Nat) (T : Tb), k ≤ bs.length ∧ gh = bs.length - k ∧ s = .int .i64 k ∧ Tab wr ob rb i T ∧ Hid (PathT ⟨(i : Int), bs⟩ i 1 T) ∧ Below W.heap.size W wr)
      case atStart => exact ⟨0, T, Nat.zero_le _, rfl, rfl, hT, HP, hW⟩
      case round =>
        clear hT hW HP p1
        obtain ⟨k, T, hk, rfl, rfl, hT, HP, hW⟩ := hrel
        by_cases hlt : k < bs.length
        · have hz : (k : Int) < (bs.length : Int) := by omega
          have hrd := hD.rd.below hW
          have hx := List.getElem?_eq_getElem hlt
          obtain rfl := hrd.addr (by omega)
          have y0 := hrd.c0 k _ hx
          have y1 := hrd.c1 k _ hx
          have y2 := hrd.c2 k _ hx
          have Hfx := Hft.out _ (List.getElem_mem hlt)
          have Hmx := Hm.out _ (List.getElem_mem hlt)
          have Hat : Hid (bdAt ⟨(i : Int), bs⟩ k = bs[k]) := by unfold Hid bdAt; rw [List.getD_eq_getElem?_getD, hx]; rfl
          generalize bs[k] = x at hx y0 y1 y2 Hfx Hmx Hat
          obtain ⟨⟨f0, f1⟩, ⟨t0, t1⟩⟩ := Hfx
          obtain ⟨fn, hfn⟩ := Int.eq_ofNat_of_zero_le f0
          obtain ⟨tn, htn⟩ := Int.eq_ofNat_of_zero_le t0
          have HF := hide hfn
          have HT := hide htn
          have hfl : fn < i := by omega
          have htl : tn < i := by omega
          have hfz : (fn : Int) < (i : Int) := by omega
          have htz : (tn : Int) < (i : Int) := by omega
          have hput := pathT_put HP.out (k := k) (f := fn) (t := tn) (m := x.m) hlt (by rw [Hat.out, hfn]) (by rw [Hat.out, htn]) (by rw [Hat.out])
          have Hput := hide hput
          clear hx hrd hfn htn f0 f1 t0 t1 hput
          go_upto_region 10 with fail
          have hba : Below wr.heap.size wr (wr.alloc (.cells #[.int .i64 x.f, .int .i64 x.t, .int .i64 x.m] 66)) := by go_grown
          have v0 : (wr.alloc (.cells #[.int .i64 x.f, .int .i64 x.t, .int .i64 x.m] 66)).cell? ⟨wr.heap.size, 0, none⟩ = some (.int .i64 x.f) := by simp [go_sem]
          have v1 : (wr.alloc (.cells #[.int .i64 x.f, .int .i64 x.t, .int .i64 x.m] 66)).cell? ⟨wr.heap.size, 1, none⟩ = some (.int .i64 x.t) := by simp [go_sem]
          have v2 : (wr.alloc (.cells #[.int .i64 x.f, .int .i64 x.t, .int .i64 x.m] 66)).cell? ⟨wr.heap.size, 2, none⟩ = some (.int .i64 x.m) := by simp [go_sem]
          replace hT := hT.alloc (.cells #[.int .i64 x.f, .int .i64 x.t, .int .i64 x.m] 66)
          replace hW := bthen hW hba
          generalize wr.alloc (.cells #[.int .i64 x.f, .int .i64 x.t, .int .i64 x.m] 66) = W1 at hT hW v0 v1 v2 ⊢
          generalize wr.heap.size = X1 at v0 v1 v2 ⊢
          rw [HF.out] at v0
          rw [HT.out] at v1
          clear hba y0 y1 y2
          have u1 := hT.top.cell hfl
          have u2 := (hT.row fn hfl).cell htl
          have u3 := (hT.row fn hfl).frozen tn
          have hTs := fun v => hT.set (j := tn) hfl v
          have HTs := hide hTs
          have hrbf := hrb'.out fn hfl
          obtain ⟨rf, hrf⟩ : ∃ rf, rb fn = rf := ⟨_, rfl⟩
          rw [hrf] at u1 u2 u3 hrbf
          have Hrf := hide hrf
          clear hrf
          obtain ⟨e, he⟩ : ∃ e, T fn tn = e := ⟨_, rfl⟩
          rw [he] at u2
          have He := hide he
          clear hTs he
          obtain ⟨mv, hmv⟩ : ∃ mv, min e x.m = mv := ⟨_, rfl⟩
          obtain ⟨hm1, hm2⟩ := min_two hmv
          have Hmv := hide hmv
          clear hmv
          refine wp_regionE (fun w' => w'.cell? ⟨X1, 0, none⟩ = some (.int .i64 (fn : Int)) ∧ w'.cell? ⟨X1, 1, none⟩ = some (.int .i64 (tn : Int)) ∧ w'.cell? ⟨X1, 2, none⟩ = some (.int .i64 x.m) ∧ w'.cell? ⟨ob, fn, none⟩ = some (.slice (some ⟨rf, 0, none⟩) i i) ∧ w'.cell? ⟨rf, tn, none⟩ = some (.int .i64 e)) 20 (by kernel_rfl) ?_
          change wpE _ _ _ _ _ _ 21 #[false, false, false, false, false, false, false, false, false, false, false, false, false, false, false, false, false, false, false, false, false] _ _
          have hS0 : W1.drew.cell? ⟨X1, 0, none⟩ = some (.int .i64 (fn : Int)) ∧ W1.drew.cell? ⟨X1, 1, none⟩ = some (.int .i64 (tn : Int)) ∧ W1.drew.cell? ⟨X1, 2, none⟩ = some (.int .i64 x.m) ∧ W1.drew.cell? ⟨ob, fn, none⟩ = some (.slice (some ⟨rf, 0, none⟩) i i) ∧ W1.drew.cell? ⟨rf, tn, none⟩ = some (.int .i64 e) := ⟨v0, v1, v2, u1, u2⟩
          refine wpE_take' (v := ?_) 0 [20] (of_decide_eq_true (by kernel_rfl)) (by kernel_rfl) (by kernel_rfl) (by kernel_rfl) (by kernel_rfl) (fun _ _ _ h => h) (by kernel_rfl) ?_ hS0 ?_
          rotate_left
          · intro w' hSw
            simp only [List.getElem_toArray, List.getElem_cons_succ, List.getElem_cons_zero]
            go_simp
            all_goals with_reducible rfl
          simp only [List.getElem_toArray, List.getElem_cons_succ, List.getElem_cons_zero, Act.put, List.setIfInBounds_toArray, List.set_cons_zero, List.set_cons_succ]
          refine wpE_take' (v := ?_) 1 [20] (of_decide_eq_true (by kernel_rfl)) (by kernel_rfl) (by kernel_rfl) (by kernel_rfl) (by kernel_rfl) (fun _ _ _ h => h) (by kernel_rfl) ?_ hS0 ?_
          rotate_left
          · intro w' hSw
            simp only [List.getElem_toArray, List.getElem_cons_succ, List.getElem_cons_zero]
            go_simp
            all_goals with_reducible rfl
          simp only [List.getElem_toArray, List.getElem_cons_succ, List.getElem_cons_zero, Act.put, List.setIfInBounds_toArray, List.set_cons_zero, List.set_cons_succ]
          refine wpE_take' (v := ?_) 2 [20] (of_decide_eq_true (by kernel_rfl)) (by kernel_rfl) (by kernel_rfl) (by kernel_rfl) (by kernel_rfl) (fun _ _ _ h => h) (by kernel_rfl) ?_ hS0 ?_
          rotate_left
          · intro w' hSw
            simp only [List.getElem_toArray, List.getElem_cons_succ, List.getElem_cons_zero]
            go_simp
            all_goals with_reducible rfl
          simp only [List.getElem_toArray, List.getElem_cons_succ, List.getElem_cons_zero, Act.put, List.setIfInBounds_toArray, List.set_cons_zero, List.set_cons_succ]
          refine wpE_take' (v := ?_) 3 [20] (of_decide_eq_true (by kernel_rfl)) (by kernel_rfl) (by kernel_rfl) (by kernel_rfl) (by kernel_rfl) (fun _ _ _ h => h) (by kernel_rfl) ?_ hS0 ?_
          rotate_left
          · intro w' hSw
            simp only [List.getElem_toArray, List.getElem_cons_succ, List.getElem_cons_zero]
            go_simp
            all_goals with_reducible rfl
          simp only [List.getElem_toArray, List.getElem_cons_succ, List.getElem_cons_zero, Act.put, List.setIfInBounds_toArray, List.set_cons_zero, List.set_cons_succ]
          refine wpE_take' (v := ?_) 4 [20] (of_decide_eq_true (by kernel_rfl)) (by kernel_rfl) (by kernel_rfl) (by kernel_rfl) (by kernel_rfl) (fun _ _ _ h => h) (by kernel_rfl) ?_ hS0 ?_
          rotate_left
          · intro w' hSw
            simp only [List.getElem_toArray, List.getElem_cons_succ, List.getElem_cons_zero]
            go_simp
            all_goals with_reducible rfl
          simp only [List.getElem_toArray, List.getElem_cons_succ, List.getElem_cons_zero, Act.put, List.setIfInBounds_toArray, List.set_cons_zero, List.set_cons_succ]
          refine wpE_take' (v := ?_) 5 [20] (of_decide_eq_true (by kernel_rfl)) (by kernel_rfl) (by kernel_rfl) (by kernel_rfl) (by kernel_rfl) (fun _ _ _ h => h) (by kernel_rfl) ?_ hS0 ?_
          rotate_left
          · intro w' hSw
            simp only [List.getElem_toArray, List.getElem_cons_succ, List.getElem_cons_zero]
            go_simp
            all_goals with_reducible rfl
          simp only [List.getElem_toArray, List.getElem_cons_succ, List.getElem_cons_zero, Act.put, List.setIfInBounds_toArray, List.set_cons_zero, List.set_cons_succ]
          refine wpE_take' (v := ?_) 6 [20] (of_decide_eq_true (by kernel_rfl)) (by kernel_rfl) (by kernel_rfl) (by kernel_rfl) (by kernel_rfl) (fun _ _ _ h => h) (by kernel_rfl) ?_ hS0 ?_
          rotate_left
          · intro w' hSw
            simp only [List.getElem_toArray, List.getElem_cons_succ, List.getElem_cons_zero]
            go_simp
            all_goals with_reducible rfl
          simp only [List.getElem_toArray, List.getElem_cons_succ, List.getElem_cons_zero, Act.put, List.setIfInBounds_toArray, List.set_cons_zero, List.set_cons_succ]
          refine wpE_take' (v := ?_) 7 [20] (of_decide_eq_true (by kernel_rfl)) (by kernel_rfl) (by kernel_rfl) (by kernel_rfl) (by kernel_rfl) (fun _ _ _ h => h) (by kernel_rfl) ?_ hS0 ?_
          rotate_left
          · intro w' hSw
            simp only [List.getElem_toArray, List.getElem_cons_succ, List.getElem_cons_zero]
            go_simp
            all_goals with_reducible rfl
          simp only [List.getElem_toArray, List.getElem_cons_succ, List.getElem_cons_zero, Act.put, List.setIfInBounds_toArray, List.set_cons_zero, List.set_cons_succ]
          refine wpE_take' (v := ?_) 8 [20] (of_decide_eq_true (by kernel_rfl)) (by kernel_rfl) (by kernel_rfl) (by kernel_rfl) (by kernel_rfl) (fun _ _ _ h => h) (by kernel_rfl) ?_ hS0 ?_
          rotate_left
          · intro w' hSw
            simp only [List.getElem_toArray, List.getElem_cons_succ, List.getElem_cons_zero]
            go_simp
            all_goals with_reducible rfl
          simp only [List.getElem_toArray, List.getElem_cons_succ, List.getElem_cons_zero, Act.put, List.setIfInBounds_toArray, List.set_cons_zero, List.set_cons_succ]
          refine wpE_take' (v := ?_) 9 [20] (of_decide_eq_true (by kernel_rfl)) (by kernel_rfl) (by kernel_rfl) (by kernel_rfl) (by kernel_rfl) (fun _ _ _ h => h) (by kernel_rfl) ?_ hS0 ?_
          rotate_left
          · intro w' hSw
            simp only [List.getElem_toArray, List.getElem_cons_succ, List.getElem_cons_zero]
            go_simp
            all_goals with_reducible rfl
          simp only [List.getElem_toArray, List.getElem_cons_succ, List.getElem_cons_zero, Act.put, List.setIfInBounds_toArray, List.set_cons_zero, List.set_cons_succ]
          refine wpE_take' (v := ?_) 10 [20] (of_decide_eq_true (by kernel_rfl)) (by kernel_rfl) (by kernel_rfl) (by kernel_rfl) (by kernel_rfl) (fun _ _ _ h => h) (by kernel_rfl) ?_ hS0 ?_
          rotate_left
          · intro w' hSw
            simp only [List.getElem_toArray, List.getElem_cons_succ, List.getElem_cons_zero]
            go_simp
            all_goals with_reducible rfl
          simp only [List.getElem_toArray, List.getElem_cons_succ, List.getElem_cons_zero, Act.put, List.setIfInBounds_toArray, List.set_cons_zero, List.set_cons_succ]
          refine wpE_take' (v := ?_) 11 [20] (of_decide_eq_true (by kernel_rfl)) (by kernel_rfl) (by kernel_rfl) (by kernel_rfl) (by kernel_rfl) (fun _ _ _ h => h) (by kernel_rfl) ?_ hS0 ?_
          rotate_left
          · intro w' hSw
            simp only [List.getElem_toArray, List.getElem_cons_succ, List.getElem_cons_zero]
            go_simp
            all_goals with_reducible rfl
          simp only [List.getElem_toArray, List.getElem_cons_succ, List.getElem_cons_zero, Act.put, List.setIfInBounds_toArray, List.set_cons_zero, List.set_cons_succ]
          refine wpE_take' (v := ?_) 12 [20] (of_decide_eq_true (by kernel_rfl)) (by kernel_rfl) (by kernel_rfl) (by kernel_rfl) (by kernel_rfl) (fun _ _ _ h => h) (by kernel_rfl) ?_ hS0 ?_
          rotate_left
          · intro w' hSw
            simp only [List.getElem_toArray, List.getElem_cons_succ, List.getElem_cons_zero]
            go_simp
            all_goals with_reducible rfl
          simp only [List.getElem_toArray, List.getElem_cons_succ, List.getElem_cons_zero, Act.put, List.setIfInBounds_toArray, List.set_cons_zero, List.set_cons_succ]
          refine wpE_take' (v := ?_) 13 [20] (of_decide_eq_true (by kernel_rfl)) (by kernel_rfl) (by kernel_rfl) (by kernel_rfl) (by kernel_rfl) (fun _ _ _ h => h) (by kernel_rfl) ?_ hS0 ?_
          rotate_left
          · intro w' hSw
            simp only [List.getElem_toArray, List.getElem_cons_succ, List.getElem_cons_zero]
            go_simp
            all_goals with_reducible rfl
          simp only [List.getElem_toArray, List.getElem_cons_succ, List.getElem_cons_zero, Act.put, List.setIfInBounds_toArray, List.set_cons_zero, List.set_cons_succ]
          refine wpE_take' (v := ?_) 14 [20] (of_decide_eq_true (by kernel_rfl)) (by kernel_rfl) (by kernel_rfl) (by kernel_rfl) (by kernel_rfl) (fun _ _ _ h => h) (by kernel_rfl) ?_ hS0 ?_
          rotate_left
          · intro w' hSw
            simp only [List.getElem_toArray, List.getElem_cons_succ, List.getElem_cons_zero]
            go_simp
            all_goals with_reducible rfl
          simp only [List.getElem_toArray, List.getElem_cons_succ, List.getElem_cons_zero, Act.put, List.setIfInBounds_toArray, List.set_cons_zero, List.set_cons_succ]
          refine wpE_take' (v := ?_) 15 [20] (of_decide_eq_true (by kernel_rfl)) (by kernel_rfl) (by kernel_rfl) (by kernel_rfl) (by kernel_rfl) (fun _ _ _ h => h) (by kernel_rfl) ?_ hS0 ?_
          rotate_left
          · intro w' hSw
            simp only [List.getElem_toArray, List.getElem_cons_succ, List.getElem_cons_zero]
            go_simp
            all_goals with_reducible rfl
          simp only [List.getElem_toArray, List.getElem_cons_succ, List.getElem_cons_zero, Act.put, List.setIfInBounds_toArray, List.set_cons_zero, List.set_cons_succ]
          refine wpE_take' (v := ?_) 16 [20] (of_decide_eq_true (by kernel_rfl)) (by kernel_rfl) (by kernel_rfl) (by kernel_rfl) (by kernel_rfl) (fun _ _ _ h => h) (by kernel_rfl) ?_ hS0 ?_
          rotate_left
          · intro w' hSw
            simp only [List.getElem_toArray, List.getElem_cons_succ, List.getElem_cons_zero]
            go_simp
            all_goals with_reducible rfl
          simp only [List.getElem_toArray, List.getElem_cons_succ, List.getElem_cons_zero, Act.put, List.setIfInBounds_toArray, List.set_cons_zero, List.set_cons_succ]
          refine wpE_take' (v := ?_) 17 [20] (of_decide_eq_true (by kernel_rfl)) (by kernel_rfl) (by kernel_rfl) (by kernel_rfl) (by kernel_rfl) (fun _ _ _ h => h) (by kernel_rfl) ?_ hS0 ?_
          rotate_left
          · intro w' hSw
            simp only [List.getElem_toArray, List.getElem_cons_succ, List.getElem_cons_zero]
            go_simp
            all_goals with_reducible rfl
          simp only [List.getElem_toArray, List.getElem_cons_succ, List.getElem_cons_zero, Act.put, List.setIfInBounds_toArray, List.set_cons_zero, List.set_cons_succ]
          refine wpE_take' (v := ?_) 18 [20] (of_decide_eq_true (by kernel_rfl)) (by kernel_rfl) (by kernel_rfl) (by kernel_rfl) (by kernel_rfl) (fun _ _ _ h => h) (by kernel_rfl) ?_ hS0 ?_
          rotate_left
          · intro w' hSw
            simp only [List.getElem_toArray, List.getElem_cons_succ, List.getElem_cons_zero]
            go_simp
            all_goals with_reducible rfl
          simp only [List.getElem_toArray, List.getElem_cons_succ, List.getElem_cons_zero, Act.put, List.setIfInBounds_toArray, List.set_cons_zero, List.set_cons_succ]
          refine wpE_take' (v := ?_) 19 [20] (of_decide_eq_true (by kernel_rfl)) (by kernel_rfl) (by kernel_rfl) (by kernel_rfl) (by kernel_rfl) (fun _ _ _ h => h) (by kernel_rfl) ?_ hS0 ?_
          rotate_left
          · intro w' hSw
            simp only [List.getElem_toArray, List.getElem_cons_succ, List.getElem_cons_zero]
            go_simp
            all_goals with_reducible rfl
          simp only [List.getElem_toArray, List.getElem_cons_succ, List.getElem_cons_zero, Act.put, List.setIfInBounds_toArray, List.set_cons_zero, List.set_cons_succ]
          refine wpE_step' 20 (of_decide_eq_true (by kernel_rfl)) (by kernel_rfl) (by kernel_rfl) (fun K hK => ?_)
          simp only [List.getElem_toArray, List.getElem_cons_succ, List.getElem_cons_zero]
          go_simp
          refine hK.out _ _ (.inl rfl) ?_
          clear hK K
          simp only [Act.put, List.setIfInBounds_toArray, List.set_cons_zero, List.set_cons_succ]
          refine wpE_done (by kernel_rfl) ?_ _
          clear hS0 v0 v1 v2 u1 u2 u3 hm1 hm2
          have hN := HTs.out mv
          rw [Hrf.out] at hN
          have hput := Hput.out
          rw [He.out, Hmv.out] at hput
          have Hput2 := hide hput
          have hWN := hW.setCell (p := ⟨rf, tn, none⟩) hrbf (.int .i64 mv)
          clear hput
          go_wp2_with fail
          go_roundg (bs.length - (k + 1))
          case measure => go_light; omega
          case rel => go_light; exact ⟨k + 1, upd T fn tn mv, by omega, rfl, by go_num, by first | exact hN | exact hN.drew, Hput2, by first | exact hWN | exact hWN.drew⟩
        · obtain rfl : k = bs.length := by omega
          have hO := hT.reads
          have HO := HP
          generalize T = O at hO HO
          generalize wr = W2 at hO hW ⊢
          clear hT HP
          go_wp2_with fail
          go_loopg [7, 8] 6 (fun gh s7 s8 wr => ∃ (L ob2 : Nat) (rb2 : Nat → Nat) (T : Tb), 1 ≤ L ∧ L ≤ 7 ∧ gh = 7 - L ∧ s8 = .int .i64 L ∧ s7 = .slice (some ⟨ob2, 0, none⟩) i i ∧ TabR wr wr.heap.size ob2 rb2 (fun _ => i) i T ∧ Hid (PathT ⟨(i : Int), bs⟩ i L T) ∧ Below W2.heap.size W2 wr)
          case atStart => exact ⟨1, ob, rb, O, Nat.le_refl _, by omega, rfl, rfl, rfl, hO, HO, Below.refl _ _⟩
          case round =>
            obtain ⟨L, ob2, rb2, T, hL1, hL7, rfl, rfl, rfl, hT, HT, hB⟩ := hrel
            by_cases hL6 : L ≤ 6
            · have hLz : (L : Int) ≤ 6 := by omega
              go_upto_region 16 with fail
              generalize wr = wo at hT hB ⊢
              go_wp2_with fail
              go_loopg [64] i (fun gh s wi => ∃ j : Nat, j ≤ i ∧ gh = i - j ∧ s = .int .i64 j ∧ wo = wi)
              case atStart => exact ⟨0, Nat.zero_le _, rfl, rfl, rfl⟩
              case round =>
                obtain ⟨j, hj, rfl, rfl, rfl⟩ := hrel
                by_cases hlj : j < i
                · have hjz : (j : Int) < (i : Int) := by omega
                  have u1 := hT.top j hlj
                  have u2 := hT.row j j hlj hlj
                  obtain ⟨v, hv⟩ : ∃ v, T j j = v := ⟨_, rfl⟩
                  rw [hv] at u2
                  by_cases hneg : v < 0
                  · have HFw : Hid (Fewest ⟨(i : Int), bs⟩ L) := by
                      refine ⟨hL1, hL6, .inr ?_⟩
                      rcases HT.out j j hlj hlj with h | ⟨r, r1, r2, r3⟩
                      · unfold Far at h; omega
                      · exact ⟨_, r, r1, r2, by rw [r3, hv]; exact hneg⟩
                    clear hv
                    go_wp2_with fail
                    go_ret
                    exact ⟨L, rfl, HFw.out, hD.bel.trans ((hW.mono hD.bel.size).trans (hB.mono (Nat.le_trans hD.bel.size hW.size)))⟩
                  · clear hv
                    go_wp2_with fail
                    go_roundg (i - (j + 1))
                    case measure => go_light; omega
                    case rel => go_light; exact ⟨j + 1, by omega, rfl, by go_num, rfl⟩
                · have hjz : ¬ (j : Int) < (i : Int) := by omega
                  have hWo : Below W.heap.size W wo := hW.trans (hB.mono hW.size)
                  have p0 := ((bcell hWo).1 _ 0 hD.ex).trans hD.c0
                  go_upto_region 23 with (go_at_call 94; go_fit (start_c i [] 1000 none 0 0 0 _ _ (by omega) (by simp) (Nat.le_refl _) (BdsR.nil _ _ _) (fun x hx => by simp at hx)); rintro e w3 ⟨rfl, hX, hB3⟩)
                  clear p0 hjz hlj hj
                  have hrx : ∀ a, a < i → wo.heap.size ≤ rbs wo.heap.size a := fun a _ => by unfold rbs; omega
                  obtain ⟨obX, hobX⟩ : ∃ obX, wo.heap.size = obX := ⟨_, rfl⟩
                  obtain ⟨rbX, hrbX⟩ : ∃ rbX, rbs wo.heap.size = rbX := ⟨_, rfl⟩
                  rw [hrbX] at hX hrx
                  rw [hobX] at hX ⊢
                  have Hrx := hide hrx
                  clear hrbX hobX hrx
                  go_wp2_with fail
                  go_loopg [82] i (fun gh s wi => ∃ (a : Nat) (X : Tb), a ≤ i ∧ gh = i - a ∧ s = .int .i64 a ∧ Tab wi obX rbX i X ∧ Hid (NextT ⟨(i : Int), bs⟩ i (L + 1) a X) ∧ Below wo.heap.size wo wi)
                  case atStart => exact ⟨0, tab0 [], Nat.zero_le _, rfl, rfl, hX, nextT_start _ _ _, hB3⟩
                  case round =>
                    clear hX hB3
                    obtain ⟨a, X, ha, rfl, rfl, hX, HN, hB3⟩ := hrel
                    by_cases hla : a < i
                    · have haz : (a : Int) < (i : Int) := by omega
                      have u1 := hX.top.cell hla
                      have u2 := (hX.row a hla).cell hla
                      have u3 := (hX.row a hla).frozen a
                      have hX2 := hX.set (j := a) hla Far
                      unfold Far at hX2
                      have hN2 := hide (nextT_diag HN.out)
                      have hra := Hrx.out a hla
                      have hB4 := hB3.setCell (p := ⟨rbX a, a, none⟩) hra (.int .i64 100000)
                      go_upto_region 27 with fail
                      go_wp2_with fail
                      go_loopg [93] i (fun gh s wi => ∃ (j : Nat) (X : Tb), j ≤ i ∧ gh = i - j ∧ s = .int .i64 j ∧ Tab wi obX rbX i X ∧ Hid (NextT ⟨(i : Int), bs⟩ i (L + 1) (a + 1) X) ∧ Below wo.heap.size wo wi)
                      case atStart => exact ⟨0, upd X a a Far, Nat.zero_le _, rfl, rfl, hX2, hN2, hB4⟩
                      case round =>
                        clear hX hB3 HN u1 u2 u3 hX2 hN2 hB4
                        obtain ⟨j, X, hj, rfl, rfl, hX, HN, hB3⟩ := hrel
                        by_cases hlj : j < i
                        · have hjz : (j : Int) < (i : Int) := by omega
                          go_upto_region 30 with fail
                          go_wp2_with fail
                          go_loopg [98] i (fun gh s wi => ∃ (k : Nat) (X : Tb), k ≤ i ∧ gh = i - k ∧ s = .int .i64 k ∧ Tab wi obX rbX i X ∧ Hid (NextT ⟨(i : Int), bs⟩ i (L + 1) (a + 1) X) ∧ Below wo.heap.size wo wi)
                          case atStart => exact ⟨0, X, Nat.zero_le _, rfl, rfl, hX, HN, hB3⟩
                          case round =>
                            clear hX hB3 HN
                            obtain ⟨k, X, hk, rfl, rfl, hX, HN, hB3⟩ := hrel
                            by_cases hlk : k < i
                            · have hkz : (k : Int) < (i : Int) := by omega
                              have hTR := hT.below hB3
                              have hOR := hO.below (hB.trans (hB3.mono hB.size))
                              have t1 := hTR.top a hla
                              have t2 := hTR.row a k hla hlk
                              have o1 := hOR.top k hlk
                              have o2 := hOR.row k j hlk hlj
                              have hbt := pathT_bound Hm.out HT.out hla hlk
                              have hbo := pathT_bound Hm.out HO.out hlk hlj
                              obtain ⟨t, ht⟩ : ∃ t, T a k = t := ⟨_, rfl⟩
                              obtain ⟨o, ho⟩ : ∃ o, O k j = o := ⟨_, rfl⟩
                              rw [ht] at t2 hbt
                              rw [ho] at o2 hbo
                              unfold Far at hbt hbo
                              have Ht := hide ht
                              have Ho := hide ho
                              generalize rb2 a = ra at t1 t2
                              generalize rb k = rk at o1 o2
                              clear hTR hOR ht ho
                              by_cases hte : t = 100000
                              · subst hte
                                clear hbt hbo o1 o2
                                go_wp2_with fail
                                go_roundg (i - (k + 1))
                                case measure => go_light; omega
                                case rel => go_light; exact ⟨k + 1, X, by omega, rfl, by go_num, hX, HN, hB3⟩
                              · by_cases hoe : o = 100000
                                · subst hoe
                                  clear hbt hbo
                                  go_wp2_with fail
                                  go_roundg (i - (k + 1))
                                  case measure => go_light; omega
                                  case rel => go_light; exact ⟨k + 1, X, by omega, rfl, by go_num, hX, HN, hB3⟩
                                · have hbt2 : -594 ≤ t ∧ t ≤ 594 := by omega
                                  have hbo2 : -99 ≤ o ∧ o ≤ 99 := by omega
                                  have hput := nextT_put HN.out HT.out HO.out hla hlk hlj (by rw [Ht.out]; exact hte) (by rw [Ho.out]; exact hoe)
                                  rw [Ht.out, Ho.out] at hput
                                  have Hput := hide hput
                                  clear hbt hbo hput
                                  have htb : (t != 100000) = true := by simpa using hte
                                  have hob : (o != 100000) = true := by simpa using hoe
                                  go_upto_region 34 with fail
                                  clear htb hob
                                  have u1 := hX.top.cell hla
                                  have u2 := (hX.row a hla).cell hlj
                                  have u3 := (hX.row a hla).frozen j
                                  have hXs := fun v => hX.set (j := j) hla v
                                  have hra2 := hra
                                  obtain ⟨rf, hrf⟩ : ∃ rf, rbX a = rf := ⟨_, rfl⟩
                                  rw [hrf] at u1 u2 u3 hXs hra2
                                  have HXs := hide hXs
                                  obtain ⟨x, hx⟩ : ∃ x, X a j = x := ⟨_, rfl⟩
                                  rw [hx] at u2
                                  have Hx := hide hx
                                  clear hXs hrf hx
                                  obtain ⟨mv, hmv⟩ : ∃ mv, min x (t + o) = mv := ⟨_, rfl⟩
                                  obtain ⟨hm1, hm2⟩ := min_two hmv
                                  have Hmv := hide hmv
                                  clear hmv
                                  refine wp_regionE (fun w' => w'.cell? ⟨obX, a, none⟩ = some (.slice (some ⟨rf, 0, none⟩) i i) ∧ w'.cell? ⟨rf, j, none⟩ = some (.int .i64 x) ∧ w'.cell? ⟨ob2, a, none⟩ = some (.slice (some ⟨ra, 0, none⟩) i i) ∧ w'.cell? ⟨ra, k, none⟩ = some (.int .i64 t) ∧ w'.cell? ⟨ob, k, none⟩ = some (.slice (some ⟨rk, 0, none⟩) i i) ∧ w'.cell? ⟨rk, j, none⟩ = some (.int .i64 o)) 29 (by kernel_rfl) ?_
                                  change wpE _ _ _ _ _ _ 30 #[false, false, false, false, false, false, false, false, false, false, false, false, false, false, false, false, false, false, false, false, false, false, false, false, false, false, false, false, false, false] _ _
                                  have hS0 : wr.drew.cell? ⟨obX, a, none⟩ = some (.slice (some ⟨rf, 0, none⟩) i i) ∧ wr.drew.cell? ⟨rf, j, none⟩ = some (.int .i64 x) ∧ wr.drew.cell? ⟨ob2, a, none⟩ = some (.slice (some ⟨ra, 0, none⟩) i i) ∧ wr.drew.cell? ⟨ra, k, none⟩ = some (.int .i64 t) ∧ wr.drew.cell? ⟨ob, k, none⟩ = some (.slice (some ⟨rk, 0, none⟩) i i) ∧ wr.drew.cell? ⟨rk, j, none⟩ = some (.int .i64 o) := ⟨u1, u2, t1, t2, o1, o2⟩
                                  have hwto : IntKind.i64.wrap (t + o) = t + o := IntWalk.i64_in _ (by omega)
                                  refine wpE_take' (v := ?_) 0 [29] (of_decide_eq_true (by kernel_rfl)) (by kernel_rfl) (by kernel_rfl) (by kernel_rfl) (by kernel_rfl) (fun _ _ _ h => h) (by kernel_rfl) ?_ hS0 ?_
                                  rotate_left
                                  · intro w' hSw
                                    simp only [List.getElem_toArray, List.getElem_cons_succ, List.getElem_cons_zero]
                                    go_simp
                                    all_goals with_reducible rfl
                                  simp only [List.getElem_toArray, List.getElem_cons_succ, List.getElem_cons_zero, Act.put, List.setIfInBounds_toArray, List.set_cons_zero, List.set_cons_succ]
                                  refine wpE_take' (v := ?_) 1 [29] (of_decide_eq_true (by kernel_rfl)) (by kernel_rfl) (by kernel_rfl) (by kernel_rfl) (by kernel_rfl) (fun _ _ _ h => h) (by kernel_rfl) ?_ hS0 ?_
                                  rotate_left
                                  · intro w' hSw
                                    simp only [List.getElem_toArray, List.getElem_cons_succ, List.getElem_cons_zero]
                                    go_simp
                                    all_goals with_reducible rfl
                                  simp only [List.getElem_toArray, List.getElem_cons_succ, List.getElem_cons_zero, Act.put, List.setIfInBounds_toArray, List.set_cons_zero, List.set_cons_succ]
                                  refine wpE_take' (v := ?_) 2 [29] (of_decide_eq_true (by kernel_rfl)) (by kernel_rfl) (by kernel_rfl) (by kernel_rfl) (by kernel_rfl) (fun _ _ _ h => h) (by kernel_rfl) ?_ hS0 ?_
                                  rotate_left
                                  · intro w' hSw
                                    simp only [List.getElem_toArray, List.getElem_cons_succ, List.getElem_cons_zero]
                                    go_simp
                                    all_goals with_reducible rfl
                                  simp only [List.getElem_toArray, List.getElem_cons_succ, List.getElem_cons_zero, Act.put, List.setIfInBounds_toArray, List.set_cons_zero, List.set_cons_succ]
                                  refine wpE_take' (v := ?_) 3 [29] (of_decide_eq_true (by kernel_rfl)) (by kernel_rfl) (by kernel_rfl) (by kernel_rfl) (by kernel_rfl) (fun _ _ _ h => h) (by kernel_rfl) ?_ hS0 ?_
                                  rotate_left
                                  · intro w' hSw
                                    simp only [List.getElem_toArray, List.getElem_cons_succ, List.getElem_cons_zero]
                                    go_simp
                                    all_goals with_reducible rfl
                                  simp only [List.getElem_toArray, List.getElem_cons_succ, List.getElem_cons_zero, Act.put, List.setIfInBounds_toArray, List.set_cons_zero, List.set_cons_succ]
                                  refine wpE_take' (v := ?_) 4 [29] (of_decide_eq_true (by kernel_rfl)) (by kernel_rfl) (by kernel_rfl) (by kernel_rfl) (by kernel_rfl) (fun _ _ _ h => h) (by kernel_rfl) ?_ hS0 ?_
                                  rotate_left
                                  · intro w' hSw
                                    simp only [List.getElem_toArray, List.getElem_cons_succ, List.getElem_cons_zero]
                                    go_simp
                                    all_goals with_reducible rfl
                                  simp only [List.getElem_toArray, List.getElem_cons_succ, List.getElem_cons_zero, Act.put, List.setIfInBounds_toArray, List.set_cons_zero, List.set_cons_succ]
                                  refine wpE_take' (v := ?_) 5 [29] (of_decide_eq_true (by kernel_rfl)) (by kernel_rfl) (by kernel_rfl) (by kernel_rfl) (by kernel_rfl) (fun _ _ _ h => h) (by kernel_rfl) ?_ hS0 ?_
                                  rotate_left
                                  · intro w' hSw
                                    simp only [List.getElem_toArray, List.getElem_cons_succ, List.getElem_cons_zero]
                                    go_simp
                                    all_goals with_reducible rfl
                                  simp only [List.getElem_toArray, List.getElem_cons_succ, List.getElem_cons_zero, Act.put, List.setIfInBounds_toArray, List.set_cons_zero, List.set_cons_succ]
                                  refine wpE_take' (v := ?_) 6 [29] (of_decide_eq_true (by kernel_rfl)) (by kernel_rfl) (by kernel_rfl) (by kernel_rfl) (by kernel_rfl) (fun _ _ _ h => h) (by kernel_rfl) ?_ hS0 ?_
                                  rotate_left
                                  · intro w' hSw
                                    simp only [List.getElem_toArray, List.getElem_cons_succ, List.getElem_cons_zero]
                                    go_simp
                                    all_goals with_reducible rfl
                                  simp only [List.getElem_toArray, List.getElem_cons_succ, List.getElem_cons_zero, Act.put, List.setIfInBounds_toArray, List.set_cons_zero, List.set_cons_succ]
                                  refine wpE_take' (v := ?_) 7 [29] (of_decide_eq_true (by kernel_rfl)) (by kernel_rfl) (by kernel_rfl) (by kernel_rfl) (by kernel_rfl) (fun _ _ _ h => h) (by kernel_rfl) ?_ hS0 ?_
                                  rotate_left
                                  · intro w' hSw
                                    simp only [List.getElem_toArray, List.getElem_cons_succ, List.getElem_cons_zero]
                                    go_simp
                                    all_goals with_reducible rfl
                                  simp only [List.getElem_toArray, List.getElem_cons_succ, List.getElem_cons_zero, Act.put, List.setIfInBounds_toArray, List.set_cons_zero, List.set_cons_succ]
                                  refine wpE_take' (v := ?_) 8 [29] (of_decide_eq_true (by kernel_rfl)) (by kernel_rfl) (by kernel_rfl) (by kernel_rfl) (by kernel_rfl) (fun _ _ _ h => h) (by kernel_rfl) ?_ hS0 ?_
                                  rotate_left
                                  · intro w' hSw
                                    simp only [List.getElem_toArray, List.getElem_cons_succ, List.getElem_cons_zero]
                                    go_simp
                                    all_goals with_reducible rfl
                                  simp only [List.getElem_toArray, List.getElem_cons_succ, List.getElem_cons_zero, Act.put, List.setIfInBounds_toArray, List.set_cons_zero, List.set_cons_succ]
                                  refine wpE_take' (v := ?_) 9 [29] (of_decide_eq_true (by kernel_rfl)) (by kernel_rfl) (by kernel_rfl) (by kernel_rfl) (by kernel_rfl) (fun _ _ _ h => h) (by kernel_rfl) ?_ hS0 ?_
                                  rotate_left
                                  · intro w' hSw
                                    simp only [List.getElem_toArray, List.getElem_cons_succ, List.getElem_cons_zero]
                                    go_simp
                                    all_goals with_reducible rfl
                                  simp only [List.getElem_toArray, List.getElem_cons_succ, List.getElem_cons_zero, Act.put, List.setIfInBounds_toArray, List.set_cons_zero, List.set_cons_succ]
                                  refine wpE_take' (v := ?_) 10 [29] (of_decide_eq_true (by kernel_rfl)) (by kernel_rfl) (by kernel_rfl) (by kernel_rfl) (by kernel_rfl) (fun _ _ _ h => h) (by kernel_rfl) ?_ hS0 ?_
                                  rotate_left
                                  · intro w' hSw
                                    simp only [List.getElem_toArray, List.getElem_cons_succ, List.getElem_cons_zero]
                                    go_simp
                                    all_goals with_reducible rfl
                                  simp only [List.getElem_toArray, List.getElem_cons_succ, List.getElem_cons_zero, Act.put, List.setIfInBounds_toArray, List.set_cons_zero, List.set_cons_succ]
                                  refine wpE_take' (v := ?_) 11 [29] (of_decide_eq_true (by kernel_rfl)) (by kernel_rfl) (by kernel_rfl) (by kernel_rfl) (by kernel_rfl) (fun _ _ _ h => h) (by kernel_rfl) ?_ hS0 ?_
                                  rotate_left
                                  · intro w' hSw
                                    simp only [List.getElem_toArray, List.getElem_cons_succ, List.getElem_cons_zero]
                                    go_simp
                                    all_goals with_reducible rfl
                                  simp only [List.getElem_toArray, List.getElem_cons_succ, List.getElem_cons_zero, Act.put, List.setIfInBounds_toArray, List.set_cons_zero, List.set_cons_succ]
                                  refine wpE_take' (v := ?_) 12 [29] (of_decide_eq_true (by kernel_rfl)) (by kernel_rfl) (by kernel_rfl) (by kernel_rfl) (by kernel_rfl) (fun _ _ _ h => h) (by kernel_rfl) ?_ hS0 ?_
                                  rotate_left
                                  · intro w' hSw
                                    simp only [List.getElem_toArray, List.getElem_cons_succ, List.getElem_cons_zero]
                                    go_simp
                                    all_goals with_reducible rfl
                                  simp only [List.getElem_toArray, List.getElem_cons_succ, List.getElem_cons_zero, Act.put, List.setIfInBounds_toArray, List.set_cons_zero, List.set_cons_succ]
                                  refine wpE_take' (v := ?_) 13 [29] (of_decide_eq_true (by kernel_rfl)) (by kernel_rfl) (by kernel_rfl) (by kernel_rfl) (by kernel_rfl) (fun _ _ _ h => h) (by kernel_rfl) ?_ hS0 ?_
                                  rotate_left
                                  · intro w' hSw
                                    simp only [List.getElem_toArray, List.getElem_cons_succ, List.getElem_cons_zero]
                                    go_simp
                                    all_goals with_reducible rfl
                                  simp only [List.getElem_toArray, List.getElem_cons_succ, List.getElem_cons_zero, Act.put, List.setIfInBounds_toArray, List.set_cons_zero, List.set_cons_succ]
                                  refine wpE_take' (v := ?_) 14 [29] (of_decide_eq_true (by kernel_rfl)) (by kernel_rfl) (by kernel_rfl) (by kernel_rfl) (by kernel_rfl) (fun _ _ _ h => h) (by kernel_rfl) ?_ hS0 ?_
                                  rotate_left
                                  · intro w' hSw
                                    simp only [List.getElem_toArray, List.getElem_cons_succ, List.getElem_cons_zero]
                                    go_simp
                                    all_goals with_reducible rfl
                                  simp only [List.getElem_toArray, List.getElem_cons_succ, List.getElem_cons_zero, Act.put, List.setIfInBounds_toArray, List.set_cons_zero, List.set_cons_succ]
                                  refine wpE_take' (v := ?_) 15 [29] (of_decide_eq_true (by kernel_rfl)) (by kernel_rfl) (by kernel_rfl) (by kernel_rfl) (by kernel_rfl) (fun _ _ _ h => h) (by kernel_rfl) ?_ hS0 ?_
                                  rotate_left
                                  · intro w' hSw
                                    simp only [List.getElem_toArray, List.getElem_cons_succ, List.getElem_cons_zero]
                                    go_simp
                                    all_goals with_reducible rfl
                                  simp only [List.getElem_toArray, List.getElem_cons_succ, List.getElem_cons_zero, Act.put, List.setIfInBounds_toArray, List.set_cons_zero, List.set_cons_succ]
                                  refine wpE_take' (v := ?_) 16 [29] (of_decide_eq_true (by kernel_rfl)) (by kernel_rfl) (by kernel_rfl) (by kernel_rfl) (by kernel_rfl) (fun _ _ _ h => h) (by kernel_rfl) ?_ hS0 ?_
                                  rotate_left
                                  · intro w' hSw
                                    simp only [List.getElem_toArray, List.getElem_cons_succ, List.getElem_cons_zero]
                                    go_simp
                                    all_goals with_reducible rfl
                                  simp only [List.getElem_toArray, List.getElem_cons_succ, List.getElem_cons_zero, Act.put, List.setIfInBounds_toArray, List.set_cons_zero, List.set_cons_succ]
                                  refine wpE_take' (v := ?_) 17 [29] (of_decide_eq_true (by kernel_rfl)) (by kernel_rfl) (by kernel_rfl) (by kernel_rfl) (by kernel_rfl) (fun _ _ _ h => h) (by kernel_rfl) ?_ hS0 ?_
                                  rotate_left
                                  · intro w' hSw
                                    simp only [List.getElem_toArray, List.getElem_cons_succ, List.getElem_cons_zero]
                                    go_simp
                                    all_goals with_reducible rfl
                                  simp only [List.getElem_toArray, List.getElem_cons_succ, List.getElem_cons_zero, Act.put, List.setIfInBounds_toArray, List.set_cons_zero, List.set_cons_succ]
                                  refine wpE_take' (v := ?_) 18 [29] (of_decide_eq_true (by kernel_rfl)) (by kernel_rfl) (by kernel_rfl) (by kernel_rfl) (by kernel_rfl) (fun _ _ _ h => h) (by kernel_rfl) ?_ hS0 ?_
                                  rotate_left
                                  · intro w' hSw
                                    simp only [List.getElem_toArray, List.getElem_cons_succ, List.getElem_cons_zero]
                                    go_simp
                                    all_goals with_reducible rfl
                                  simp only [List.getElem_toArray, List.getElem_cons_succ, List.getElem_cons_zero, Act.put, List.setIfInBounds_toArray, List.set_cons_zero, List.set_cons_succ]
                                  refine wpE_take' (v := ?_) 19 [29] (of_decide_eq_true (by kernel_rfl)) (by kernel_rfl) (by kernel_rfl) (by kernel_rfl) (by kernel_rfl) (fun _ _ _ h => h) (by kernel_rfl) ?_ hS0 ?_
                                  rotate_left
                                  · intro w' hSw
                                    simp only [List.getElem_toArray, List.getElem_cons_succ, List.getElem_cons_zero]
                                    go_simp
                                    all_goals with_reducible rfl
                                  simp only [List.getElem_toArray, List.getElem_cons_succ, List.getElem_cons_zero, Act.put, List.setIfInBounds_toArray, List.set_cons_zero, List.set_cons_succ]
                                  refine wpE_take' (v := ?_) 20 [29] (of_decide_eq_true (by kernel_rfl)) (by kernel_rfl) (by kernel_rfl) (by kernel_rfl) (by kernel_rfl) (fun _ _ _ h => h) (by kernel_rfl) ?_ hS0 ?_
                                  rotate_left
                                  · intro w' hSw
                                    simp only [List.getElem_toArray, List.getElem_cons_succ, List.getElem_cons_zero]
                                    go_simp
                                    all_goals with_reducible rfl
                                  simp only [List.getElem_toArray, List.getElem_cons_succ, List.getElem_cons_zero, Act.put, List.setIfInBounds_toArray, List.set_cons_zero, List.set_cons_succ]
                                  refine wpE_take' (v := ?_) 21 [29] (of_decide_eq_true (by kernel_rfl)) (by kernel_rfl) (by kernel_rfl) (by kernel_rfl) (by kernel_rfl) (fun _ _ _ h => h) (by kernel_rfl) ?_ hS0 ?_
                                  rotate_left
                                  · intro w' hSw
                                    simp only [List.getElem_toArray, List.getElem_cons_succ, List.getElem_cons_zero]
                                    go_simp
                                    all_goals with_reducible rfl
                                  simp only [List.getElem_toArray, List.getElem_cons_succ, List.getElem_cons_zero, Act.put, List.setIfInBounds_toArray, List.set_cons_zero, List.set_cons_succ]
                                  refine wpE_take' (v := ?_) 22 [29] (of_decide_eq_true (by kernel_rfl)) (by kernel_rfl) (by kernel_rfl) (by kernel_rfl) (by kernel_rfl) (fun _ _ _ h => h) (by kernel_rfl) ?_ hS0 ?_
                                  rotate_left
                                  · intro w' hSw
                                    simp only [List.getElem_toArray, List.getElem_cons_succ, List.getElem_cons_zero]
                                    go_simp
                                    all_goals with_reducible rfl
                                  simp only [List.getElem_toArray, List.getElem_cons_succ, List.getElem_cons_zero, Act.put, List.setIfInBounds_toArray, List.set_cons_zero, List.set_cons_succ]
                                  refine wpE_take' (v := ?_) 23 [29] (of_decide_eq_true (by kernel_rfl)) (by kernel_rfl) (by kernel_rfl) (by kernel_rfl) (by kernel_rfl) (fun _ _ _ h => h) (by kernel_rfl) ?_ hS0 ?_
                                  rotate_left
                                  · intro w' hSw
                                    simp only [List.getElem_toArray, List.getElem_cons_succ, List.getElem_cons_zero]
                                    go_simp
                                    all_goals with_reducible rfl
                                  simp only [List.getElem_toArray, List.getElem_cons_succ, List.getElem_cons_zero, Act.put, List.setIfInBounds_toArray, List.set_cons_zero, List.set_cons_succ]
                                  refine wpE_take' (v := ?_) 24 [29] (of_decide_eq_true (by kernel_rfl)) (by kernel_rfl) (by kernel_rfl) (by kernel_rfl) (by kernel_rfl) (fun _ _ _ h => h) (by kernel_rfl) ?_ hS0 ?_
                                  rotate_left
                                  · intro w' hSw
                                    simp only [List.getElem_toArray, List.getElem_cons_succ, List.getElem_cons_zero]
                                    go_simp
                                    all_goals with_reducible rfl
                                  simp only [List.getElem_toArray, List.getElem_cons_succ, List.getElem_cons_zero, Act.put, List.setIfInBounds_toArray, List.set_cons_zero, List.set_cons_succ]
                                  refine wpE_take' (v := ?_) 25 [29] (of_decide_eq_true (by kernel_rfl)) (by kernel_rfl) (by kernel_rfl) (by kernel_rfl) (by kernel_rfl) (fun _ _ _ h => h) (by kernel_rfl) ?_ hS0 ?_
                                  rotate_left
                                  · intro w' hSw
                                    simp only [List.getElem_toArray, List.getElem_cons_succ, List.getElem_cons_zero]
                                    go_simp
                                    all_goals with_reducible rfl
                                  simp only [List.getElem_toArray, List.getElem_cons_succ, List.getElem_cons_zero, Act.put, List.setIfInBounds_toArray, List.set_cons_zero, List.set_cons_succ]
                                  refine wpE_take' (v := ?_) 26 [29] (of_decide_eq_true (by kernel_rfl)) (by kernel_rfl) (by kernel_rfl) (by kernel_rfl) (by kernel_rfl) (fun _ _ _ h => h) (by kernel_rfl) ?_ hS0 ?_
                                  rotate_left
                                  · intro w' hSw
                                    simp only [List.getElem_toArray, List.getElem_cons_succ, List.getElem_cons_zero]
                                    go_simp
                                    all_goals with_reducible rfl
                                  simp only [List.getElem_toArray, List.getElem_cons_succ, List.getElem_cons_zero, Act.put, List.setIfInBounds_toArray, List.set_cons_zero, List.set_cons_succ]
                                  refine wpE_take' (v := ?_) 27 [29] (of_decide_eq_true (by kernel_rfl)) (by kernel_rfl) (by kernel_rfl) (by kernel_rfl) (by kernel_rfl) (fun _ _ _ h => h) (by kernel_rfl) ?_ hS0 ?_
                                  rotate_left
                                  · intro w' hSw
                                    simp only [List.getElem_toArray, List.getElem_cons_succ, List.getElem_cons_zero]
                                    go_simp
                                    all_goals with_reducible rfl
                                  simp only [List.getElem_toArray, List.getElem_cons_succ, List.getElem_cons_zero, Act.put, List.setIfInBounds_toArray, List.set_cons_zero, List.set_cons_succ]
                                  refine wpE_take' (v := ?_) 28 [29] (of_decide_eq_true (by kernel_rfl)) (by kernel_rfl) (by kernel_rfl) (by kernel_rfl) (by kernel_rfl) (fun _ _ _ h => h) (by kernel_rfl) ?_ hS0 ?_
                                  rotate_left
                                  · intro w' hSw
                                    simp only [List.getElem_toArray, List.getElem_cons_succ, List.getElem_cons_zero]
                                    go_simp
                                    all_goals with_reducible rfl
                                  simp only [List.getElem_toArray, List.getElem_cons_succ, List.getElem_cons_zero, Act.put, List.setIfInBounds_toArray, List.set_cons_zero, List.set_cons_succ]
                                  refine wpE_step' 29 (of_decide_eq_true (by kernel_rfl)) (by kernel_rfl) (by kernel_rfl) (fun K hK => ?_)
                                  simp only [List.getElem_toArray, List.getElem_cons_succ, List.getElem_cons_zero]
                                  go_simp
                                  refine hK.out _ _ (.inl rfl) ?_
                                  clear hK K
                                  simp only [Act.put, List.setIfInBounds_toArray, List.set_cons_zero, List.set_cons_succ]
                                  refine wpE_done (by kernel_rfl) ?_ _
                                  clear hS0 u1 u2 u3 t1 t2 o1 o2 hm1 hm2 hwto
                                  have hN := HXs.out mv
                                  have hput := Hput.out
                                  rw [Hx.out, Hmv.out] at hput
                                  have Hput2 := hide hput
                                  have hB5 := hB3.setCell (p := ⟨rf, j, none⟩) hra2 (.int .i64 mv)
                                  clear hput
                                  go_wp2_with fail
                                  go_roundg (i - (k + 1))
                                  case measure => go_light; omega
                                  case rel => go_light; exact ⟨k + 1, upd X a j mv, by omega, rfl, by go_num, by first | exact hN | exact hN.drew, Hput2, by first | exact hB5 | exact hB5.drew⟩
                            · have hkz : ¬ (k : Int) < (i : Int) := by omega
                              go_wp2_with fail
                              go_roundg (i - (j + 1))
                              case measure => go_light; omega
                              case rel => go_light; exact ⟨j + 1, X, by omega, rfl, by go_num, hX, HN, hB3⟩
                        · have hjz : ¬ (j : Int) < (i : Int) := by omega
                          go_wp2_with fail
                          go_roundg (i - (a + 1))
                          case measure => go_light; omega
                          case rel => go_light; exact ⟨a + 1, X, by omega, rfl, by go_num, hX, HN, hB3⟩
                    · have haz : ¬ (a : Int) < (i : Int) := by omega
                      have hPX : Hid (PathT ⟨(i : Int), bs⟩ i (L + 1) X) := by
                        have h := HN.out
                        rw [show a = i by omega] at h
                        exact nextT_done h
                      go_wp2_with fail
                      go_roundg (7 - (L + 1))
                      case measure => go_light; omega
                      case rel => go_light; exact ⟨L + 1, obX, rbX, X, by omega, by omega, rfl, by go_num, rfl, hX.reads, hPX, hB.trans (hB3.mono hB.size)⟩
            · obtain rfl : L = 7 := by omega
              have HFw : Hid (Fewest ⟨(i : Int), bs⟩ 6) := ⟨by omega, Nat.le_refl _, .inl rfl⟩
              go_wp2_with fail
              go_ret
              exact ⟨6, rfl, HFw.out, hD.bel.trans ((hW.mono hD.bel.size).trans (hB.mono (Nat.le_trans hD.bel.size hW.size)))⟩
end Go.Proofs.Ytledgblepdjjlaa
