/-
  impl: the least end over all orders.
-/
import Derived.Test.YtmgikoaeomieeaaL71
namespace Go.Proofs.Ytmgikoaeomieeaa
set_option linter.unusedVariables false
set_option linter.unusedSimpArgs false
open Go Go.RowKit Pp

set_option maxHeartbeats 2000000 in
set_option maxRecDepth 100000 in
theorem orders_c (L F : List Int) (h : Int) (hp : projOk L F = true) (hh : 1 ≤ h ∧ h ≤ 3) (AL AF : Option Addr) (bl ol cl bf of' cf D H X : Nat) (W : World) (lv : Int) (hlv : -1 ≤ lv)
    (d0 : W.cell? ⟨D, 0, none⟩ = some (.slice AL L.length cl)) (d1 : W.cell? ⟨D, 1, none⟩ = some (.slice AF F.length cf)) (h0 : W.cell? ⟨H, 0, none⟩ = some (.int .i64 h)) (hX : W.heap[X]? = some (.cells #[.int .i64 lv] 3 (0, 0)))
    (rl : IntsR W W.heap.size bl ol AL L) (rf : IntsR W W.heap.size bf of' AF F) (nD : D ≠ X) (nH : H ≠ X) (nl : 0 < L.length → bl ≠ X) (nf : 0 < F.length → bf ≠ X) :
    Calls Try.prog 61 #[.int .i64 (L.length : Int), .func (.func 62) #[] #[.pointer (some ⟨D, 0, none⟩), .pointer (some ⟨H, 0, none⟩), .pointer (some ⟨X, 0, none⟩)]] W fun e W' => e = .returned (.tuple #[]) ∧ W'.heap[X]? = some (.cells #[.int .i64 (comb lv (leastE L F h))] 3 (0, 0)) ∧ W.grownBy W' (some X) := by
  obtain ⟨W3, hW3⟩ : ∃ W3, ((W.alloc (.cells #[.int .i64 (L.length : Int)] 3)).alloc (.cells #[.func (.func 62) #[] #[.pointer (some ⟨D, 0, none⟩), .pointer (some ⟨H, 0, none⟩), .pointer (some ⟨X, 0, none⟩)]] 78)).alloc (.cells #[.func (.func 88) #[] #[.pointer (some ⟨W.heap.size, 0, none⟩), .pointer (some ⟨W.heap.size + 1, 0, none⟩), .pointer (some ⟨W.heap.size + 1 + 1, 0, none⟩)]] 78) = W3 := ⟨_, rfl⟩
  have hb : Below W.heap.size W W3 := by rw [← hW3]; go_grown
  obtain ⟨hc, _⟩ := bcell hb
  have hDl := World.block_lt_of_cell? _ _ d0
  have hHl := World.block_lt_of_cell? _ _ h0
  have hXl := lt_of_block hX
  have hO : OB W3 D H X W.heap.size (W.heap.size + 1) (W.heap.size + 1 + 1) h bl ol AL cl L bf of' AF cf F := by
    refine ⟨(hc _ _ hDl).trans d0, (hc _ _ hDl).trans d1, (hc _ _ hHl).trans h0, ?_, ?_, ?_, (rl.below hb).more hb.size, (rf.below hb).more hb.size, ⟨nD, nH, by omega, by omega, by omega⟩, nl, nf⟩ <;> rw [← hW3] <;> simp [go_sem]
  have hX3 := one_below hX hb
  have hG3 : W.grownBy W3 (some X) := gr_low hb
  clear hc d0 d1 h0 rl rf hDl hHl hX
  have v0 := hO.v0
  go_enter Try.func61, Try.ntmps61
  go_wp2_with fail
  go_at_call 88
  refine (walkO_c L F h hp hh AL AF bl ol cl bf of' cf D H X _ _ _ L.length [] none 0 0 0 W3 lv (by simp) (by simp) (by simp) hO hX3 hlv ⟨fun h => absurd h (by simp), fun h => absurd h (by simp), fun j hj => absurd hj (by simp)⟩ (fun h => absurd h (by simp)) (by simp)).mono ?_
  rintro e W4 ⟨rfl, hX4, hG4⟩
  go_wp2_with fail
  go_end0
  exact ⟨rfl, hX4, gr_pick hG3 hG4⟩

/-- What LeastEnd returns. -/
def leastV (L F : List Int) (h : Int) : Int := if projOk L F && decide (L.length ≤ 5) && inB h 1 3 then leastE L F h else -1
set_option maxHeartbeats 2000000 in
set_option maxRecDepth 100000 in
theorem leastEnd_c (L F : List Int) (h : Int) (AL AF : Option Addr) (bl ol cl bf of' cf B : Nat) (w : World) (hll : L.length ≤ 2000000) (hlf : F.length ≤ 2000000) (hB : B ≤ w.heap.size) (hl : IntsR w B bl ol AL L) (hf : IntsR w B bf of' AF F) :
    Calls Try.prog 25 #[.agg #[.slice AL L.length cl, .slice AF F.length cf], .int .i64 h] w fun e w' => e = .returned (.int .i64 (leastV L F h)) ∧ Below w.heap.size w w' := by
  have hD0 := pj_new (t := 25) (cl := cl) (cf := cf) hB hl hf
  have hD := hD0.alloc (.cells #[.int .i64 h] 3)
  obtain ⟨R, hR⟩ : ∃ R, leastV L F h = R := ⟨_, rfl⟩
  rw [hR]
  have h0 : ((w.alloc (.cells #[.slice AL L.length cl, .slice AF F.length cf] 25)).alloc (.cells #[.int .i64 h] 3)).cell? ⟨w.heap.size + 1, 0, none⟩ = some (.int .i64 h) := by simp [go_sem]
  have hHs : w.heap.size + 1 < ((w.alloc (.cells #[.slice AL L.length cl, .slice AF F.length cf] 25)).alloc (.cells #[.int .i64 h] 3)).heap.size := by simp
  have HR := hide hR
  clear hl hf hB hD0 hR
  go_enter Try.func25, Try.ntmps25
  go_upto_region 1 with fail
  generalize (w.alloc (.cells #[.slice AL L.length cl, .slice AF F.length cf] 25)).alloc (.cells #[.int .i64 h] 3) = W at hD h0 hHs ⊢
  have p0 := hD.c0
  have p1 := hD.c1
  cases hp : projOk L F
  · obtain rfl : -1 = R := by rw [← HR.out]; unfold leastV; rw [hp]; rfl
    have Hp := hide hp
    clear hp
    go_wp2_with (go_at_call 45; go_fit (projectOk_c L F AL AF bl ol cl bf of' cf _ _ hll hlf (Nat.le_refl _) hD.rl hD.rf); rintro e w2 ⟨rfl, hb⟩; rw [Hp.out]; replace hD := hD.below hb; clear p0 p1; have p0 := hD.c0; have p1 := hD.c1)
    go_ret
    exact ⟨rfl, hD.bel⟩
  · by_cases h5 : L.length ≤ 5
    · have h5z : ¬ (5 : Int) < (L.length : Int) := by omega
      cases hh : inB h 1 3
      · obtain rfl : -1 = R := by rw [← HR.out]; unfold leastV; rw [hh]; simp
        have Hp := hide hp
        have Hh := hide hh
        clear hp hh
        go_wp2_with (first
          | (go_at_call 45; go_fit (projectOk_c L F AL AF bl ol cl bf of' cf _ _ hll hlf (Nat.le_refl _) hD.rl hD.rf); rintro e w2 ⟨rfl, hb⟩; rw [Hp.out]; replace h0 := ((bcell hb).1 _ _ hHs).trans h0; replace hD := hD.below hb; clear p0 p1; have p0 := hD.c0; have p1 := hD.c1)
          | (go_at_call 60; go_fit (isHands_c h _); rintro e w3 ⟨rfl, rfl⟩; rw [Hh.out]))
        go_ret
        exact ⟨rfl, hD.bel⟩
      · have HE : Hid (leastE L F h = R) := by unfold Hid; rw [← HR.out]; unfold leastV; rw [hp, hh, decide_eq_true h5]; rfl
        have Hp := hide hp
        have Hh := hide hh
        have hh3 := inB_iff.1 hh
        have HE0 : Hid (comb (-1) R = R) := by unfold Hid comb; rw [if_pos (by omega)]
        have Hhh := hide hh3
        clear hp hh hh3
        go_upto_region 4 with (first
          | (go_at_call 45; go_fit (projectOk_c L F AL AF bl ol cl bf of' cf _ _ hll hlf (Nat.le_refl _) hD.rl hD.rf); rintro e w2 ⟨rfl, hb⟩; rw [Hp.out]; replace h0 := ((bcell hb).1 _ _ hHs).trans h0; replace hHs := Nat.lt_of_lt_of_le hHs hb.size; replace hD := hD.below hb; clear p0 p1; have p0 := hD.c0; have p1 := hD.c1)
          | (go_at_call 60; go_fit (isHands_c h _); rintro e w3 ⟨rfl, rfl⟩; rw [Hh.out]))
        have hex := hD.ex
        have hX4 : (w2.alloc (.cells #[.int .i64 (-1)] 3)).heap[w2.heap.size]? = some (.cells #[.int .i64 (-1)] 3 (0, 0)) := at_new rfl
        have hD4 := hD.alloc (.cells #[.int .i64 (-1)] 3)
        have hb4 : Below w2.heap.size w2 (w2.alloc (.cells #[.int .i64 (-1)] 3)) := by go_grown
        have h04 := ((bcell hb4).1 _ _ hHs).trans h0
        have hcall := orders_c L F h Hp.out Hhh.out AL AF bl ol cl bf of' cf w.heap.size (w.heap.size + 1) w2.heap.size _ (-1) (by omega) hD4.c0 hD4.c1 h04 hX4 hD4.rl hD4.rf (by omega) (by omega) (fun hx => by have := hD.rl.lt hx; omega) (fun hx => by have := hD.rf.lt hx; omega)
        rw [HE.out, HE0.out] at hcall
        have Hcall := hide hcall
        have p4 := hD4.c0
        have hbel := hD4.bel
        have hs4 := hbel.size
        clear hcall hX4 hb4 h04 h0 hD p0 p1 hD4
        go_wp2_with (go_at_call 61; refine Hcall.out.mono ?_; rintro e w5 ⟨rfl, hX5, hG5⟩; have x5 := cell_of_one hX5)
        go_ret
        exact ⟨rfl, hbel.grown hG5 hs4 (fun k hk => by injection hk with hk; omega)⟩
    · obtain rfl : -1 = R := by rw [← HR.out]; unfold leastV; rw [decide_eq_false h5]; simp
      have h5z : (5 : Int) < (L.length : Int) := by omega
      have Hp := hide hp
      clear hp
      go_wp2_with (go_at_call 45; go_fit (projectOk_c L F AL AF bl ol cl bf of' cf _ _ hll hlf (Nat.le_refl _) hD.rl hD.rf); rintro e w2 ⟨rfl, hb⟩; rw [Hp.out]; replace hD := hD.below hb; clear p0 p1; have p0 := hD.c0; have p1 := hD.c1)
      go_ret
      exact ⟨rfl, hD.bel⟩
end Go.Proofs.Ytmgikoaeomieeaa
