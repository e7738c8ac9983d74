/-
  spec.LatestOf.
-/
import Derived.Test.YtjlaljnffmncpaaS3b
import Derived.Test.YtjlaljnffmncpaaI1
import Derived.Test.YtjlaljnffmncpaaP5
namespace Go.Proofs.Ytjlaljnffmncpaa
set_option linter.unusedVariables false
set_option linter.unusedSimpArgs false
open Go.RowKit Pp

set_option maxHeartbeats 4000000 in
set_option maxRecDepth 100000 in
theorem sLatestOf_c (p : Pl) (f : Int) (A : Option Addr) (b o c B : Nat) (w : World) (hn : p.bs.length ≤ 1000000) (hB : B ≤ w.heap.size) (hR : BdsR w B b o A p.bs) (xs : List Int) (r : Bool) (hxs : latest p f = (xs, r)) :
    Calls Try.prog 30 #[.agg #[.int .i64 p.n, .slice A p.bs.length c], .int .i64 f] w fun e w' => ∃ A1 c1 g1, e = .returned (.tuple #[.slice A1 xs.length c1, .bool r]) ∧ IntsR w' w'.heap.size g1 0 A1 xs ∧ Below w.heap.size w w' := by
  obtain ⟨i0, hi0, hz0, hz1, hz2⟩ := info_parts infoI
  obtain ⟨n, bs⟩ := p
  dsimp only at *
  cases hf : fits ⟨n, bs⟩
  · have hx : latest ⟨n, bs⟩ f = ([], false) := by unfold latest; rw [hf]; rfl
    rw [hx] at hxs
    injection hxs with e1 e2
    subst e1; subst e2
    have Hf := hide hf
    clear hf hx
    have hP := (po_new (t := 25) (n := n) (c := c) (Below.refl w.heap.size w) (hR.more hB)).alloc (.cells #[] 3)
    go_enter Try.func30, Try.ntmps30
    go_wp2_with fail
    generalize (w.alloc (.cells #[.int .i64 n, .slice A bs.length c] 25)).alloc (.cells #[] 3) = W at hP ⊢
    have p0 := hP.c0
    have p1 := hP.c1
    go_loopg [6, 7] 0 (fun gh s6 s7 wr => wr = W ∧ s6 = .slice (some ⟨w.heap.size + 1, 0, none⟩) 0 0 ∧ s7 = .int .i64 0)
    case atStart => exact ⟨rfl, rfl, rfl⟩
    case round =>
      obtain ⟨rfl, rfl, rfl⟩ := hrel
      by_cases h0 : 0 < n
      · go_wp2_with (go_at_call 84; go_fit (sFitsOk_c ⟨n, bs⟩ A b o c _ _ hn (Nat.le_refl _) hP.rd); rintro e w2 ⟨rfl, hb2⟩; rw [Hf.out]; have hP2 := hP.below hb2)
        refine bodyPost_ret (v := .tuple #[.slice (some ⟨w.heap.size + 1, 0, none⟩) 0 0, .bool false]) (by simp [results, Try.results30, go_sem]) rfl ?_
        exact ⟨_, 0, 0, rfl, IntsR.nil _ _ _, hP2.bel⟩
      · go_wp2_with fail
        refine bodyPost_ret (v := .tuple #[.slice (some ⟨w.heap.size + 1, 0, none⟩) 0 0, .bool false]) (by simp [results, Try.results30, go_sem]) rfl ?_
        first
          | exact ⟨_, 0, 0, rfl, IntsR.nil _ _ _, hP.bel⟩
          | exact ⟨_, ⟨0, rfl⟩, ⟨0, IntsR.nil _ _ _⟩, hP.bel⟩
  · rw [latest_fits hf] at hxs
    have hnn := nn_ok (planOk_of_fits hf)
    obtain ⟨m, hm⟩ : ∃ m, nn ⟨n, bs⟩ = m := ⟨_, rfl⟩
    rw [hm] at hnn hxs
    dsimp only at hnn
    obtain ⟨hm6, hm1, hmn⟩ := hnn
    obtain rfl : n = (m : Int) := hmn.symm
    have Hf := hide hf
    have Hx := hide hxs
    clear hf hxs hm
    have hP := (po_new (t := 25) (n := (m : Int)) (c := c) (Below.refl w.heap.size w) (hR.more hB)).alloc (.cells #[] 3)
    have hT0 : ((w.alloc (.cells #[.int .i64 (m : Int), .slice A bs.length c] 25)).alloc (.cells #[] 3)).ownsRow (w.heap.size + 1) 3 1 (.slice (some ⟨w.heap.size + 1, 0, none⟩) 0 0) 0 [] := own_empty (at_new (by simp only [World.size_alloc])) (by omega)
    go_enter Try.func30, Try.ntmps30
    go_wp2_with fail
    generalize (w.alloc (.cells #[.int .i64 (m : Int), .slice A bs.length c] 25)).alloc (.cells #[] 3) = W at hP hT0 ⊢
    go_loopg [6, 7] m (fun gh s6 s wr => ∃ k : Nat, k ≤ m ∧ gh = m - k ∧ s = .int .i64 k ∧ Hid ((rowOf (fun k => mostOf ⟨(m : Int), bs⟩ f (k : Int)) k).2 = true) ∧ ∃ A1 c1, s6 = .slice A1 k c1 ∧ wr.ownsRow (w.heap.size + 1) 3 1 (.slice A1 k c1) k ((rowOf (fun k => mostOf ⟨(m : Int), bs⟩ f (k : Int)) k).1.map (Value.int .i64)) ∧ Below w.heap.size w wr ∧ wr.cell? ⟨w.heap.size, 0, none⟩ = some (.int .i64 (m : Int)) ∧ wr.cell? ⟨w.heap.size, 1, none⟩ = some (.slice A bs.length c) ∧ w.heap.size < wr.heap.size)
    case atStart => exact ⟨0, Nat.zero_le _, rfl, rfl, rfl, _, _, rfl, hT0, hP.bel, hP.c0, hP.c1, hP.ex⟩
    case round =>
      clear hT0 hP
      obtain ⟨k, hk, rfl, rfl, Hk, A1, c1, rfl, hown, hW, p0, p1, hsw⟩ := hrel
      have hP : PO w wr w.heap.size b o (m : Int) A c bs := ⟨hW, Nat.le_refl _, hsw, p0, p1, (hR.below (hW.mono hB)).more (Nat.le_trans hB hW.size)⟩
      by_cases hlt : k < m
      · have hlt' : (k : Int) < (m : Int) := by omega
        obtain ⟨v, hv⟩ : ∃ v, (mostOf ⟨(m : Int), bs⟩ f (k : Int)).1 = v := ⟨_, rfl⟩
        have Hv := hide hv
        cases ht : (mostOf ⟨(m : Int), bs⟩ f (k : Int)).2
        · have hno := rowOf_none (tell := fun k => mostOf ⟨(m : Int), bs⟩ f (k : Int)) hlt ht
          rw [Hx.out] at hno
          injection hno with e1 e2
          subst e1; subst e2
          have Ht := hide ht
          clear ht hv
          go_wp2_with (first
            | (go_at_call 84; go_fit (sFitsOk_c ⟨(m : Int), bs⟩ A b o c _ _ hn (Nat.le_refl _) hP.rd); rintro e w2 ⟨rfl, hb2⟩; rw [Hf.out]; have hP2 := hP.below hb2; have q0 := hP2.c0; have q1 := hP2.c1)
            | (go_at_call 90; go_fit (sMostOf_c ⟨(m : Int), bs⟩ f (k : Int) A b o c _ _ hn (Nat.le_refl _) hP2.rd); rintro e w3 ⟨rfl, hb3⟩; rw [Hv.out, Ht.out]; have hP3 := hP2.below hb3))
          (try rw [Exit.noGoto_ret])
          refine bodyPost_ret (v := .tuple #[.slice (some ⟨w3.heap.size, 0, none⟩) 0 0, .bool false]) (by simp [results, Try.results30, go_sem]) rfl ?_
          exact ⟨_, 0, 0, rfl, IntsR.nil _ _ _, (hP3.alloc _).bel⟩
        · have Hk1 : rowOf (fun k => mostOf ⟨(m : Int), bs⟩ f (k : Int)) (k + 1) = ((rowOf (fun k => mostOf ⟨(m : Int), bs⟩ f (k : Int)) k).1 ++ [v], true) := by
            simp only [rowOf]; rw [Hk.out, ht, hv]; rfl
          have Ht := hide ht
          have Hk1 := hide Hk1
          clear ht hv
          generalize (rowOf (fun k => mostOf ⟨(m : Int), bs⟩ f (k : Int)) k).1 = ys at hown Hk1
          have hsz := hP.bel.size
          go_wp2_with (first
            | (go_at_call 84; go_fit (sFitsOk_c ⟨(m : Int), bs⟩ A b o c _ _ hn (Nat.le_refl _) hP.rd); rintro e w2 ⟨rfl, hb2⟩; rw [Hf.out]; have hP2 := hP.below hb2; have q0 := hP2.c0; have q1 := hP2.c1)
            | (go_at_call 90; go_fit (sMostOf_c ⟨(m : Int), bs⟩ f (k : Int) A b o c _ _ hn (Nat.le_refl _) hP2.rd); rintro e w3 ⟨rfl, hb3⟩; rw [Hv.out, Ht.out]; have hP3 := hP2.below hb3; have hown3 := own_below (own_below hown hb2) hb3; have hsz3 := hP3.ex)
            | (at_builtin; refine app_list _ rfl (.tmp 31) (.tmp 33) _ rfl (w.heap.size + 1) 3 i0 _ 1 8 Try.underlying44 hi0 hz0 hz1 hz2 rfl (by omega) (.slice A1 k c1) k (ys.map (Value.int .i64)) rfl ?_ _ 1 _ [.int .i64 v] rfl rfl (NewsAt.block (cs := #[.int .i64 v]) (at_new rfl)) (by simp [Value.oneCell']) (by omega) (by omega) ?_ ?_
               · exact hown3.alloc _
               · simp only [World.size_alloc]; omega
               intro A3 c3 w5 hown5 hg5 hat5))
          go_roundg (m - (k + 1))
          case measure => go_light; omega
          case rel =>
            go_light
            refine ⟨k + 1, by omega, rfl, by go_num, by rw [Hk1.out]; rfl, A3, c3, rfl, ?_, ?_⟩
            · rw [Hk1.out]; simpa using hown5
            · have hne : ∀ o', some (⟨w.heap.size, o', none⟩ : Addr).block ≠ (Value.slice A1 k c1).ownBlock := fun o' e => by have := (hown3.lt _ e.symm).1; dsimp only at this; omega
              have hlt3 : w.heap.size < (w3.alloc (.cells #[.int .i64 v] 3)).heap.size := by simp only [World.size_alloc]; omega
              refine ⟨below_app ((hP3.alloc _).bel) (hown3.alloc _) hg5 (by omega) (by simp only [World.size_alloc]; omega), (hg5.cell_far ⟨w.heap.size, 0, none⟩ hlt3 (hne 0)).trans (hP3.alloc _).c0, (hg5.cell_far ⟨w.heap.size, 1, none⟩ hlt3 (hne 1)).trans (hP3.alloc _).c1, Nat.lt_of_lt_of_le hlt3 hg5.size⟩
      · obtain rfl : k = m := by omega
        have hx1 := Hk.out
        rw [Hx.out] at hown hx1
        dsimp only at hown hx1
        subst hx1
        have hl : xs.length = k := by have := (rowOf_yes (tell := fun k' => mostOf ⟨(k : Int), bs⟩ f (k' : Int)) (n := k) (by rw [Hx.out])).1; rw [Hx.out] at this; exact this
        have hkp : (0 : Int) < (k : Int) := by omega
        go_wp2_with fail
        have hk0 : 0 < k := by omega
        refine bodyPost_ret (v := .tuple #[.slice A1 k c1, .bool true]) (by simp [results, Try.results30, go_sem, hk0]) rfl ?_
        have ho : OwnI (w.heap.size + 1) wr (.slice A1 xs.length c1) xs := by unfold OwnI; rw [hl]; exact hown
        obtain ⟨A2, g1, c2, hv, hr⟩ := ho.reads
        injection hv with h1 h2 h3
        subst h1
        rw [hl]
        exact ⟨A1, c1, g1, rfl, hr, hP.bel⟩
end Go.Proofs.Ytjlaljnffmncpaa
