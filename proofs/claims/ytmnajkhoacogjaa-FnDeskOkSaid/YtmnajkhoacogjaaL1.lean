/-
  Chapter 1 of the program: which plans are plans.
  Chapter 1 of the program: plans that are handed on.
-/
import Derived.Test.YtmnajkhoacogjaaBase
namespace Go.Proofs.Ytmnajkhoacogjaa
set_option linter.unusedVariables false
set_option linter.unusedSimpArgs false
open Go.RowKit Pp

theorem in_c (n lo hi : Int) (w : World) : Calls Try.prog 18 #[.int .i64 n, .int .i64 lo, .int .i64 hi] w fun e w' => e = .returned (.bool (inB n lo hi)) ∧ w = w' := by
  by_cases h1 : lo ≤ n
  all_goals by_cases h2 : n ≤ hi
  all_goals
    go_enter Try.func18, Try.ntmps18
    go_wp2
    all_goals go_ret
    all_goals exact ⟨by simp [inB, h1, h2], rfl⟩

theorem has_c (n k : Int) (A : Option Addr) (m c : Nat) (w : World) (h1 : -1000000000 ≤ n) (h2 : n ≤ 1000000000) :
    Calls Try.prog 32 #[.agg #[.int .i64 n, .slice A m c], .int .i64 k] w fun e w' => e = .returned (.bool (inB k 0 (n - 1))) ∧ Below w.heap.size w w' := by
  go_enter Try.func32, Try.ntmps32
  go_wp2_with (go_at_call 18; refine (in_c _ _ _ _).mono ?_; rintro e w' ⟨rfl, rfl⟩)
  go_ret
  exact ⟨rfl, (Below.refl _ _).alloc (Nat.le_refl _) _⟩

theorem boundOk_c (n : Int) (b : Bd) (A : Option Addr) (l c : Nat) (w : World) (h1 : -1000000000 ≤ n) (h2 : n ≤ 1000000000) :
    Calls Try.prog 21 #[.agg #[.int .i64 n, .slice A l c], .agg #[.int .i64 b.f, .int .i64 b.t, .int .i64 b.m]] w fun e w' => e = .returned (.bool (bdOk n b)) ∧ Below w.heap.size w w' := by
  have e : bdOk n b = (inB b.f 0 (n - 1) && inB b.t 0 (n - 1) && inB b.m (-99) 99) := rfl
  rw [e]
  generalize ha : inB b.f 0 (n - 1) = a
  generalize hb : inB b.t 0 (n - 1) = b'
  generalize hc : inB b.m (-99) 99 = c'
  have Ha := hide ha; have Hb := hide hb; have Hc := hide hc
  clear ha hb hc e
  cases a
  · go_enter Try.func21, Try.ntmps21
    go_wp2_with (go_at_call 32; refine (has_c n _ A l c _ h1 h2).mono ?_; rintro e w' ⟨rfl, hb⟩; rw [Ha.out]; obtain ⟨hc, hf⟩ := bcell hb; have hz := hb.size; (try simp only [World.size_alloc] at hz); have hz0 : w.heap.size < w'.heap.size := (by omega); have hz1 : w.heap.size + 1 < w'.heap.size := (by omega); have hW : Below w.heap.size w w' := bthen (by go_grown) hb)
    go_ret
    exact ⟨by simp, hW⟩
  · cases b'
    · go_enter Try.func21, Try.ntmps21
      go_wp2_with (go_at_call 32; refine (has_c n _ A l c _ h1 h2).mono ?_; rintro e w' ⟨rfl, hb⟩; (first | rw [Ha.out] | rw [Hb.out]); obtain ⟨hc, hf⟩ := bcell hb; have hz := hb.size; (try simp only [World.size_alloc] at hz); have hz0 : w.heap.size < w'.heap.size := (by omega); have hz1 : w.heap.size + 1 < w'.heap.size := (by omega); have hW : Below w.heap.size w w' := bthen (by go_grown) hb)
      go_ret
      exact ⟨by simp, hW⟩
    · cases c'
      all_goals
        go_enter Try.func21, Try.ntmps21
        go_wp2_with (first | (go_at_call 32; refine (has_c n _ A l c _ h1 h2).mono ?_; rintro e w' ⟨rfl, hb⟩; (first | rw [Ha.out] | rw [Hb.out]); obtain ⟨hc, hf⟩ := bcell hb; have hz := hb.size; (try simp only [World.size_alloc] at hz); have hz0 : w.heap.size < w'.heap.size := (by omega); have hz1 : w.heap.size + 1 < w'.heap.size := (by omega); have hW : Below w.heap.size w w' := bthen (by go_grown) hb) | (go_at_call 18; refine (in_c _ _ _ _).mono ?_; rintro e w' ⟨rfl, rfl⟩; rw [Hc.out]))
        go_ret
        exact ⟨by simp, hW⟩

/-- The test of PlanOk's look for a bound that is none. -/
theorem planOk1_c (n : Int) (b : Bd) (A : Option Addr) (l c pb : Nat) (w : World) (h1 : -1000000000 ≤ n) (h2 : n ≤ 1000000000) (hp0 : w.cell? ⟨pb, 0, none⟩ = some (.int .i64 n)) (hp1 : w.cell? ⟨pb, 1, none⟩ = some (.slice A l c)) :
    Calls Try.prog 20 #[.agg #[.int .i64 b.f, .int .i64 b.t, .int .i64 b.m], .pointer (some ⟨pb, 0, none⟩)] w fun e w' => e = .returned (.bool (!bdOk n b)) ∧ Below w.heap.size w w' := by
  have hlt := World.block_lt_of_cell? _ _ hp0
  go_enter Try.func20, Try.ntmps20
  go_wp2_with (go_at_call 21; refine (boundOk_c n b A l c _ h1 h2).mono ?_; rintro e w' ⟨rfl, hb⟩; obtain ⟨hc, hf⟩ := bcell hb; have hz := hb.size; (try simp only [World.size_alloc] at hz); have hz0 : w.heap.size < w'.heap.size := (by omega); have hW : Below w.heap.size w w' := bthen (by go_grown) hb)
  go_ret
  exact ⟨rfl, hW⟩

/-- slices.IndexFunc and slices.ContainsFunc over bounds, with the test 'impl.PlanOk$1'. -/
theorem planOk1_idx (a : Addr) (A : Option Addr) (b o c B : Nat) (bs : List Bd) (f : Bd → Bool) (w : World) (hn : bs.length ≤ 2000000) (hB : B ≤ w.heap.size) (hR : BdsR w B b o A bs)
    (H : ∀ (x : Bd) (w1 : World), Below w.heap.size w w1 → Calls Try.prog 20 (#[.agg #[.int .i64 x.f, .int .i64 x.t, .int .i64 x.m]] ++ #[.pointer (some a)]) w1 fun e w' => e = .returned (.bool (f x)) ∧ Below w1.heap.size w1 w') :
    Calls Try.prog 31 #[.slice A bs.length c, .func (.func 20) #[] #[.pointer (some a)]] w fun e w' => ∃ k : Int, e = .returned (.int .i64 k) ∧ (0 ≤ k ↔ bs.any f = true) ∧ Below w.heap.size w w' := by
  have HH := hide H
  clear H
  go_enter Try.func31, Try.ntmps31
  go_wp2
  go_loopg [8] bs.length (fun g i wr => ∃ k : Nat, k ≤ bs.length ∧ g = bs.length - k ∧ i = .int .i64 k ∧ Below w.heap.size w wr ∧ Hid ((bs.take k).any f = false))
  case atStart => exact ⟨0, Nat.zero_le _, rfl, rfl, Below.refl _ _, by simp [Hid]⟩
  case round =>
    obtain ⟨k, hk, rfl, rfl, hW0, hA⟩ := hrel
    by_cases hlt : k < bs.length
    · obtain rfl := hR.addr (by omega)
      have hx := List.getElem?_eq_getElem hlt
      have hR' := hR.below (hW0.mono hB)
      have d0 := hR'.c0 k _ hx
      have d1 := hR'.c1 k _ hx
      have d2 := hR'.c2 k _ hx
      have hz : (k : Int) < (bs.length : Int) := by omega
      have hT : Hid (bs.take (k + 1) = bs.take k ++ [bs[k]]) := by rw [List.take_succ_eq_append_getElem hlt]; rfl
      generalize bs[k] = x at *
      clear hR' 
      have Hx := hide hx
      clear hx
      cases hfx : f x
      · have Hf := hide hfx
        clear hfx
        go_wp2_with (go_at_call 20; refine (HH.out x wr hW0).mono ?_; rintro e w' ⟨rfl, hb⟩; rw [Hf.out]; have hW : Below w.heap.size w w' := bthen hW0 hb; clear hb)
        go_roundg (bs.length - (k + 1))
        case measure => go_light; omega
        case rel => go_light; exact ⟨k + 1, by omega, rfl, by go_num, hW, by unfold Hid; rw [hT.out, List.any_append, hA.out]; simp [Hf.out]⟩
      · have Hf := hide hfx
        clear hfx
        go_wp2_with (go_at_call 20; refine (HH.out x wr hW0).mono ?_; rintro e w' ⟨rfl, hb⟩; rw [Hf.out]; have hW : Below w.heap.size w w' := bthen hW0 hb; clear hb)
        go_ret
        exact ⟨k, rfl, ⟨fun _ => List.any_eq_true.2 ⟨x, List.mem_of_getElem? Hx.out, Hf.out⟩, fun _ => by omega⟩, hW⟩
    · go_wp2
      go_ret
      refine ⟨-1, rfl, ⟨fun h => by omega, fun h => ?_⟩, hW0⟩
      have := hA.out
      rw [List.take_of_length_le (by omega), h] at this
      cases this
theorem planOk1_has (a : Addr) (A : Option Addr) (b o c B : Nat) (bs : List Bd) (f : Bd → Bool) (w : World) (hn : bs.length ≤ 2000000) (hB : B ≤ w.heap.size) (hR : BdsR w B b o A bs)
    (H : ∀ (x : Bd) (w1 : World), Below w.heap.size w w1 → Calls Try.prog 20 (#[.agg #[.int .i64 x.f, .int .i64 x.t, .int .i64 x.m]] ++ #[.pointer (some a)]) w1 fun e w' => e = .returned (.bool (f x)) ∧ Below w1.heap.size w1 w') :
    Calls Try.prog 19 #[.slice A bs.length c, .func (.func 20) #[] #[.pointer (some a)]] w fun e w' => e = .returned (.bool (bs.any f)) ∧ Below w.heap.size w w' := by
  have HH := hide H
  clear H
  cases hf : bs.any f
  · have Hf := hide hf
    clear hf
    go_enter Try.func19, Try.ntmps19
    go_wp2_with (go_at_call 31; refine (planOk1_idx _ A b o c B bs f w hn hB hR HH.out).mono ?_; rintro e w' ⟨k, rfl, hk, hW⟩; rw [Hf.out] at hk; have hk' : decide (0 ≤ k) = false := (by simp at hk ⊢; omega); clear hk)
    go_ret
    exact ⟨rfl, hW⟩
  · have Hf := hide hf
    clear hf
    go_enter Try.func19, Try.ntmps19
    go_wp2_with (go_at_call 31; refine (planOk1_idx _ A b o c B bs f w hn hB hR HH.out).mono ?_; rintro e w' ⟨k, rfl, hk, hW⟩; rw [Hf.out] at hk; have hk' : decide (0 ≤ k) = true := (by simp at hk ⊢; omega); clear hk)
    go_ret
    exact ⟨rfl, hW⟩

theorem all_any {α : Type} (f : α → Bool) (l : List α) : l.all f = !(l.any fun x => !f x) := by
  induction l with
  | nil => rfl
  | cons a l ih => simp [ih]

theorem planOk_c (p : Pl) (A : Option Addr) (b o c B : Nat) (w : World) (hn : p.bs.length ≤ 2000000) (hB : B ≤ w.heap.size) (hR : BdsR w B b o A p.bs) :
    Calls Try.prog 10 #[.agg #[.int .i64 p.n, .slice A p.bs.length c]] w fun e w' => e = .returned (.bool (planOk p)) ∧ Below w.heap.size w w' := by
  obtain ⟨n, bs⟩ := p
  dsimp only at *
  have e : planOk ⟨n, bs⟩ = (inB n 1 6 && decide (bs.length ≤ 16) && !(bs.any fun x => !bdOk n x)) := by
    rw [← all_any]; rfl
  rw [e]
  cases h1 : inB n 1 6
  · have H1 := hide h1
    clear h1 e
    go_enter Try.func10, Try.ntmps10
    go_wp2_with (go_at_call 18; refine (in_c _ _ _ _).mono ?_; rintro e w' ⟨rfl, rfl⟩; rw [H1.out])
    go_ret
    exact ⟨by simp, by go_grown⟩
  · have hn' := inB_iff.1 h1
    obtain ⟨hn1, hn2⟩ := hn'
    have H1 := hide h1
    clear h1 e
    by_cases h2 : bs.length ≤ 16
    · have hR' : BdsR (w.alloc (Obj.cells #[Value.int IntKind.i64 n, Value.slice A bs.length c] 25)) B b o A bs := hR.below ((show Below w.heap.size w _ by go_grown).mono hB)
      have hB' : B ≤ (w.alloc (Obj.cells #[Value.int IntKind.i64 n, Value.slice A bs.length c] 25)).heap.size := by simp; omega
      have HH : Hid (∀ (x : Bd) (w1 : World), Below (w.alloc (Obj.cells #[Value.int IntKind.i64 n, Value.slice A bs.length c] 25)).heap.size (w.alloc (Obj.cells #[Value.int IntKind.i64 n, Value.slice A bs.length c] 25)) w1 →
          Calls Try.prog 20 (#[.agg #[.int .i64 x.f, .int .i64 x.t, .int .i64 x.m]] ++ #[.pointer (some ⟨w.heap.size, 0, none⟩)]) w1 fun e w' => e = .returned (.bool (!bdOk n x)) ∧ Below w1.heap.size w1 w') := by
        intro x w1 hb1
        obtain ⟨hc, hf⟩ := bcell hb1
        exact planOk1_c n x A bs.length c w.heap.size w1 (by omega) (by omega) (by rw [hc _ _ (by simp), World.cell?_alloc_at _ _ _ _ rfl]; rfl) (by rw [hc _ _ (by simp), World.cell?_alloc_at _ _ _ _ rfl]; rfl)
      have hz : (bs.length : Int) ≤ 16 := by omega
      go_enter Try.func10, Try.ntmps10
      go_wp2_with (first | (go_at_call 18; refine (in_c _ _ _ _).mono ?_; rintro e w' ⟨rfl, rfl⟩; rw [H1.out]) | (go_at_call 19; refine (planOk1_has _ A b o c B bs (fun x => !bdOk n x) _ hn hB' hR' HH.out).mono ?_; rintro e w' ⟨rfl, hb⟩; have hW : Below w.heap.size w w' := bthen (by go_grown) hb))
      go_ret
      exact ⟨by simp [h2], hW⟩
    · have hz : decide ((bs.length : Int) ≤ 16) = false := by simp; omega
      go_enter Try.func10, Try.ntmps10
      go_wp2_with (go_at_call 18; refine (in_c _ _ _ _).mono ?_; rintro e w' ⟨rfl, rfl⟩; rw [H1.out])
      go_ret
      exact ⟨by simp [h2], by go_grown⟩

def toldP (p : Pl) : Pl := if planOk p then p else ⟨0, []⟩

end Go.Proofs.Ytmnajkhoacogjaa
