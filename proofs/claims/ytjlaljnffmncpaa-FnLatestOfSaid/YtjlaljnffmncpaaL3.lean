/-
  impl.LatestOf, impl.EarliestOf.
-/
import Derived.Test.YtjlaljnffmncpaaS3b
import Derived.Test.YtjlaljnffmncpaaI1
import Derived.Test.YtjlaljnffmncpaaP5
namespace Go.Proofs.Ytjlaljnffmncpaa
set_option linter.unusedVariables false
set_option linter.unusedSimpArgs false
open Go.RowKit Pp

set_option maxHeartbeats 2000000 in
set_option maxRecDepth 100000 in
theorem late_k (p : Pl) (f k : Int) (A : Option Addr) (b o c B X Y : Nat) (w : World) (hn : p.bs.length ≤ 1000000) (hB : B ≤ w.heap.size) (hR : BdsR w B b o A p.bs) (x0 : w.cell? ⟨X, 0, none⟩ = some (.int .i64 p.n)) (x1 : w.cell? ⟨X, 1, none⟩ = some (.slice A p.bs.length c)) (y0 : w.cell? ⟨Y, 0, none⟩ = some (.int .i64 f)) :
    Calls Try.prog 99 #[.int .i64 k, .pointer (some ⟨X, 0, none⟩), .pointer (some ⟨Y, 0, none⟩)] w fun e w' => e = .returned (.tuple #[.int .i64 (mostOf p f k).1, .bool (mostOf p f k).2]) ∧ Below w.heap.size w w' := by
  obtain ⟨m, hm⟩ : ∃ m, (mostOf p f k).1 = m := ⟨_, rfl⟩
  obtain ⟨r, hr⟩ : ∃ r, (mostOf p f k).2 = r := ⟨_, rfl⟩
  rw [hm, hr]
  have Hm := hide hm
  have Hr := hide hr
  clear hm hr
  obtain ⟨n, bs⟩ := p
  dsimp only at *
  go_enter Try.func99, Try.ntmps99
  go_wp2_with (go_at_call 38; go_fit (mostOf_c ⟨n, bs⟩ f k A b o c B _ hn hB hR); rintro e w2 ⟨rfl, hb⟩; rw [Hm.out, Hr.out])
  refine bodyPost_ret (v := .tuple #[.int .i64 m, .bool r]) (by simp [results, Try.results99, go_sem]) rfl ?_
  exact ⟨rfl, hb⟩

set_option maxHeartbeats 2000000 in
set_option maxRecDepth 100000 in
theorem late_row (p : Pl) (f : Int) (A : Option Addr) (b o c X Y : Nat) (w : World) (hn : p.bs.length ≤ 1000000) (hR : BdsR w w.heap.size b o A p.bs) (x0 : w.cell? ⟨X, 0, none⟩ = some (.int .i64 p.n)) (x1 : w.cell? ⟨X, 1, none⟩ = some (.slice A p.bs.length c)) (y0' : w.cell? ⟨Y, 0, none⟩ = some (.int .i64 f)) (hX : X < w.heap.size) (hY : Y < w.heap.size) (xs : List Int) (r : Bool) (hxs : latest p f = (xs, r)) :
    Calls Try.prog 98 #[.agg #[.int .i64 p.n, .slice A p.bs.length c], .int .i64 f, .func (.func 99) #[] #[.pointer (some ⟨X, 0, none⟩), .pointer (some ⟨Y, 0, none⟩)]] w fun e w' => ∃ A1 c1, e = .returned (.tuple #[.slice A1 xs.length c1, .bool r]) ∧ OwnI w.heap.size w' (.slice A1 xs.length c1) xs ∧ Below w.heap.size w w' := by
  obtain ⟨i0, hi0, hz0, hz1, hz2⟩ := info_parts infoI
  obtain ⟨n, bs⟩ := p
  dsimp only at *
  cases hf : fits ⟨n, bs⟩
  · have hx : latest ⟨n, bs⟩ f = ([], false) := by unfold latest; rw [hf]; rfl
    rw [hx] at hxs
    injection hxs with e1 e2
    subst e1; subst e2
    have Hf := hide hf
    clear hf hx
    have hP := po_new (t := 25) (n := n) (c := c) (Below.refl w.heap.size w) hR
    go_enter Try.func98, Try.ntmps98
    go_wp2_with (go_at_call 39; go_fit (fitsOk_c ⟨n, bs⟩ A b o c _ _ hn (Nat.le_refl _) hP.rd); rintro e w2 ⟨rfl, hb2⟩; rw [Hf.out]; have hP2 := hP.below hb2)
    refine bodyPost_ret (v := .tuple #[.slice none 0 0, .bool false]) (by simp [results, Try.results98, go_sem]) rfl ?_
    exact ⟨none, 0, rfl, World.ownsRow_nil _ _ _ _, hP2.bel⟩
  · have hnn := nn_ok (planOk_of_fits hf)
    dsimp only at hnn
    cases hin : inB f 0 (n - 1)
    · have hx : latest ⟨n, bs⟩ f = ([], false) := by unfold latest; rw [hf]; dsimp only; rw [hin]; rfl
      rw [hx] at hxs
      injection hxs with e1 e2
      subst e1; subst e2
      have Hf := hide hf
      have Hin := hide hin
      clear hf hx hin
      have hP := po_new (t := 25) (n := n) (c := c) (Below.refl w.heap.size w) hR
      go_enter Try.func98, Try.ntmps98
      go_wp2_with (first
        | (go_at_call 39; go_fit (fitsOk_c ⟨n, bs⟩ A b o c _ _ hn (Nat.le_refl _) hP.rd); rintro e w2 ⟨rfl, hb2⟩; rw [Hf.out]; have hP2 := hP.below hb2; have q0 := hP2.c0; have q1 := hP2.c1)
        | (go_at_call 92; go_fit (has_c n f A bs.length c _ (by omega) (by omega)); rintro e w3 ⟨rfl, hb3⟩; rw [Hin.out]; have hP3 := hP2.below hb3))
      refine bodyPost_ret (v := .tuple #[.slice none 0 0, .bool false]) (by simp [results, Try.results98, go_sem]) rfl ?_
      exact ⟨none, 0, rfl, World.ownsRow_nil _ _ _ _, hP3.bel⟩
    · have hx : rowOf (fun k => mostOf ⟨n, bs⟩ f (k : Int)) (nn ⟨n, bs⟩) = (xs, r) := by rw [← hxs]; unfold latest; rw [hf]; dsimp only; rw [hin]; rfl
      obtain ⟨m, hm⟩ : ∃ m, nn ⟨n, bs⟩ = m := ⟨_, rfl⟩
      rw [hm] at hnn hx
      obtain ⟨hm6, hm1, hmn⟩ := hnn
      obtain rfl : n = (m : Int) := hmn.symm
      have Hf := hide hf
      have Hin := hide hin
      have Hx := hide hx
      clear hf hx hin hm hxs
      have hP := po_new (t := 25) (n := (m : Int)) (c := c) (Below.refl w.heap.size w) hR
      go_enter Try.func98, Try.ntmps98
      go_wp2_with (first
        | (go_at_call 39; go_fit (fitsOk_c ⟨(m : Int), bs⟩ A b o c _ _ hn (Nat.le_refl _) hP.rd); rintro e w2 ⟨rfl, hb2⟩; rw [Hf.out]; have hP2 := hP.below hb2; have q0 := hP2.c0; have q1 := hP2.c1)
        | (go_at_call 92; go_fit (has_c (m : Int) f A bs.length c _ (by omega) (by omega)); rintro e w3 ⟨rfl, hb3⟩; rw [Hin.out]; have hP3 := hP2.below hb3; have r0 := hP3.c0))
      have hW3 : Below w.heap.size w w3 := hP3.bel
      clear hP hP2 hP3 q0 q1 r0 hb2 hb3
      go_loopg [8, 23] m (fun gh s8 s wr => ∃ k : Nat, k ≤ m ∧ gh = m - k ∧ s = .int .i64 k ∧ Hid ((rowOf (fun k => mostOf ⟨(m : Int), bs⟩ f (k : Int)) k).2 = true) ∧ ∃ A1 c1, s8 = .slice A1 k c1 ∧ wr.ownsRow w.heap.size 3 1 (.slice A1 k c1) k ((rowOf (fun k => mostOf ⟨(m : Int), bs⟩ f (k : Int)) k).1.map (Value.int .i64)) ∧ Below w.heap.size w wr)
      case atStart => exact ⟨0, Nat.zero_le _, rfl, rfl, rfl, none, 0, rfl, World.ownsRow_nil _ _ _ _, hW3⟩
      case round =>
        clear hW3
        obtain ⟨k, hk, rfl, rfl, Hk, A1, c1, rfl, hown, hW⟩ := hrel
        by_cases hlt : k < m
        · have hlt' : (k : Int) < (m : Int) := by omega
          have y0 := (hW.cell (p := ⟨X, 0, none⟩) hX).trans x0
          have y1 := (hW.cell (p := ⟨X, 1, none⟩) hX).trans x1
          have y2 := (hW.cell (p := ⟨Y, 0, none⟩) hY).trans y0'
          have hRw := (hR.below hW).more hW.size
          obtain ⟨v, hv⟩ : ∃ v, (mostOf ⟨(m : Int), bs⟩ f (k : Int)).1 = v := ⟨_, rfl⟩
          have Hv := hide hv
          cases ht : (mostOf ⟨(m : Int), bs⟩ f (k : Int)).2
          · have hno : (rowOf (fun k => mostOf ⟨(m : Int), bs⟩ f (k : Int)) m).2 = false := by
              cases hq : (rowOf (fun k => mostOf ⟨(m : Int), bs⟩ f (k : Int)) m).2
              · rfl
              · have := (rowOf_yes hq).2.1 k hlt; (try dsimp only at this); rw [ht] at this; cases this
            have hx1 := rowOf_no hno
            rw [Hx.out] at hno hx1
            dsimp only at hno hx1
            subst hno; subst hx1
            have Ht := hide ht
            clear ht hv
            go_wp2_with (go_at_call 99; go_fit (late_k ⟨(m : Int), bs⟩ f (k : Int) A b o c _ X Y _ hn (Nat.le_refl _) hRw y0 y1 y2); rintro e w4 ⟨rfl, hb4⟩; rw [Hv.out, Ht.out])
            (try rw [Exit.noGoto_ret])
            refine bodyPost_ret (v := .tuple #[.slice none 0 0, .bool false]) (by simp [results, Try.results98, go_sem]) rfl ?_
            exact ⟨none, 0, rfl, World.ownsRow_nil _ _ _ _, bthen hW hb4⟩
          · have Hk1 : rowOf (fun k => mostOf ⟨(m : Int), bs⟩ f (k : Int)) (k + 1) = ((rowOf (fun k => mostOf ⟨(m : Int), bs⟩ f (k : Int)) k).1 ++ [v], true) := by
              simp only [rowOf]; rw [Hk.out, ht, hv]; rfl
            have Ht := hide ht
            have Hk1 := hide Hk1
            clear ht hv
            generalize (rowOf (fun k => mostOf ⟨(m : Int), bs⟩ f (k : Int)) k).1 = ys at hown Hk1
            go_wp2_with (first
              | (go_at_call 99; go_fit (late_k ⟨(m : Int), bs⟩ f (k : Int) A b o c _ X Y _ hn (Nat.le_refl _) hRw y0 y1 y2); rintro e w4 ⟨rfl, hb4⟩; rw [Hv.out, Ht.out])
              | (at_builtin; refine app_list _ rfl (.tmp 34) (.tmp 36) _ rfl w.heap.size 3 i0 _ 1 8 Try.underlying44 hi0 hz0 hz1 hz2 rfl (by omega) (.slice A1 k c1) k (ys.map (Value.int .i64)) rfl ?_ _ 1 _ [.int .i64 v] rfl rfl (NewsAt.block (cs := #[.int .i64 v]) (at_new rfl)) (by simp [Value.oneCell']) (by omega) (by omega) ?_ ?_
                 · exact (own_below hown hb4).alloc _
                 · have := hW.size; have := hb4.size; simp only [World.size_alloc]; omega
                 intro A3 c3 w5 hown5 hg5 hat5))
            go_roundg (m - (k + 1))
            case measure => go_light; omega
            case rel =>
              go_light
              refine ⟨k + 1, by omega, rfl, by go_num, by rw [Hk1.out]; rfl, A3, c3, rfl, ?_, ?_⟩
              · rw [Hk1.out]; simpa using hown5
              · exact below_app ((bthen hW hb4).alloc (bthen hW hb4).size _) ((own_below hown hb4).alloc _) hg5 (Nat.le_refl _) (by have := hW.size; have := hb4.size; simp only [World.size_alloc]; omega)
        · obtain rfl : k = m := by omega
          have hx1 := Hk.out
          rw [Hx.out] at hown hx1
          dsimp only at hown hx1
          subst hx1
          have hl : xs.length = k := by have := (rowOf_yes (tell := fun k' => mostOf ⟨(k : Int), bs⟩ f (k' : Int)) (n := k) (by rw [Hx.out])).1; rw [Hx.out] at this; exact this
          go_wp2_with fail
          refine bodyPost_ret (v := .tuple #[.slice A1 k c1, .bool true]) (by simp [results, Try.results98, go_sem]) rfl ?_
          rw [hl]
          exact ⟨A1, c1, rfl, by unfold OwnI; rw [hl]; exact hown, hW⟩

set_option maxHeartbeats 2000000 in
set_option maxRecDepth 100000 in
theorem late_c (p : Pl) (f : Int) (A : Option Addr) (b o c B : Nat) (w : World) (hn : p.bs.length ≤ 1000000) (hB : B ≤ w.heap.size) (hR : BdsR w B b o A p.bs) (xs : List Int) (r : Bool) (hxs : latest p f = (xs, r)) :
    Calls Try.prog 29 #[.agg #[.int .i64 p.n, .slice A p.bs.length c], .int .i64 f] w fun e w' => ∃ A1 c1 g1, e = .returned (.tuple #[.slice A1 xs.length c1, .bool r]) ∧ IntsR w' w'.heap.size g1 0 A1 xs ∧ Below w.heap.size w w' := by
  have Hx := hide hxs
  clear hxs
  obtain ⟨n, bs⟩ := p
  dsimp only at *
  have hP := (po_new (t := 25) (n := n) (c := c) (Below.refl w.heap.size w) (hR.more hB)).alloc (.cells #[.int .i64 f] 3)
  go_enter Try.func29, Try.ntmps29
  go_upto_region 1 with fail
  have y0 : ((w.alloc (.cells #[.int .i64 n, .slice A bs.length c] 25)).alloc (.cells #[.int .i64 f] 3)).cell? ⟨w.heap.size + 1, 0, none⟩ = some (.int .i64 f) := by simp [go_sem]
  have hY : w.heap.size + 1 < ((w.alloc (.cells #[.int .i64 n, .slice A bs.length c] 25)).alloc (.cells #[.int .i64 f] 3)).heap.size := by simp
  generalize (w.alloc (.cells #[.int .i64 n, .slice A bs.length c] 25)).alloc (.cells #[.int .i64 f] 3) = W at hP y0 hY ⊢
  have p0 := hP.c0
  have p1 := hP.c1
  go_wp2_with (go_at_call 98; go_fit (late_row ⟨n, bs⟩ f A b o c w.heap.size (w.heap.size + 1) _ hn hP.rd p0 p1 y0 hP.ex hY xs r Hx.out); rintro e w2 ⟨A1, c1, rfl, hown, hb⟩)
  refine bodyPost_ret (v := .tuple #[.slice A1 xs.length c1, .bool r]) (by simp [results, Try.results29, go_sem]) rfl ?_
  obtain ⟨A2, g1, c2, hv, hr⟩ := hown.reads
  injection hv with h1 h2 h3
  subst h1
  exact ⟨A1, c1, g1, rfl, hr, bthen hP.bel hb⟩
set_option maxHeartbeats 2000000 in
set_option maxRecDepth 100000 in
theorem early_k (p : Pl) (f k : Int) (A : Option Addr) (b o c B X Y : Nat) (w : World) (hn : p.bs.length ≤ 1000000) (hB : B ≤ w.heap.size) (hR : BdsR w B b o A p.bs) (x0 : w.cell? ⟨X, 0, none⟩ = some (.int .i64 p.n)) (x1 : w.cell? ⟨X, 1, none⟩ = some (.slice A p.bs.length c)) (y0 : w.cell? ⟨Y, 0, none⟩ = some (.int .i64 f)) :
    Calls Try.prog 100 #[.int .i64 k, .pointer (some ⟨X, 0, none⟩), .pointer (some ⟨Y, 0, none⟩)] w fun e w' => e = .returned (.tuple #[.int .i64 (Pp.leastOf p f k).1, .bool (Pp.leastOf p f k).2]) ∧ Below w.heap.size w w' := by
  obtain ⟨m, hm⟩ : ∃ m, (Pp.leastOf p f k).1 = m := ⟨_, rfl⟩
  obtain ⟨r, hr⟩ : ∃ r, (Pp.leastOf p f k).2 = r := ⟨_, rfl⟩
  rw [hm, hr]
  have Hm := hide hm
  have Hr := hide hr
  clear hm hr
  obtain ⟨n, bs⟩ := p
  dsimp only at *
  go_enter Try.func100, Try.ntmps100
  go_wp2_with (go_at_call 25; go_fit (leastOf_c ⟨n, bs⟩ f k A b o c B _ hn hB hR); rintro e w2 ⟨rfl, hb⟩; rw [Hm.out, Hr.out])
  refine bodyPost_ret (v := .tuple #[.int .i64 m, .bool r]) (by simp [results, Try.results100, go_sem]) rfl ?_
  exact ⟨rfl, hb⟩

set_option maxHeartbeats 2000000 in
set_option maxRecDepth 100000 in
theorem early_row (p : Pl) (f : Int) (A : Option Addr) (b o c X Y : Nat) (w : World) (hn : p.bs.length ≤ 1000000) (hR : BdsR w w.heap.size b o A p.bs) (x0 : w.cell? ⟨X, 0, none⟩ = some (.int .i64 p.n)) (x1 : w.cell? ⟨X, 1, none⟩ = some (.slice A p.bs.length c)) (y0' : w.cell? ⟨Y, 0, none⟩ = some (.int .i64 f)) (hX : X < w.heap.size) (hY : Y < w.heap.size) (xs : List Int) (r : Bool) (hxs : earliest p f = (xs, r)) :
    Calls Try.prog 98 #[.agg #[.int .i64 p.n, .slice A p.bs.length c], .int .i64 f, .func (.func 100) #[] #[.pointer (some ⟨X, 0, none⟩), .pointer (some ⟨Y, 0, none⟩)]] w fun e w' => ∃ A1 c1, e = .returned (.tuple #[.slice A1 xs.length c1, .bool r]) ∧ OwnI w.heap.size w' (.slice A1 xs.length c1) xs ∧ Below w.heap.size w w' := by
  obtain ⟨i0, hi0, hz0, hz1, hz2⟩ := info_parts infoI
  obtain ⟨n, bs⟩ := p
  dsimp only at *
  cases hf : fits ⟨n, bs⟩
  · have hx : earliest ⟨n, bs⟩ f = ([], false) := by unfold earliest; rw [hf]; rfl
    rw [hx] at hxs
    injection hxs with e1 e2
    subst e1; subst e2
    have Hf := hide hf
    clear hf hx
    have hP := po_new (t := 25) (n := n) (c := c) (Below.refl w.heap.size w) hR
    go_enter Try.func98, Try.ntmps98
    go_wp2_with (go_at_call 39; go_fit (fitsOk_c ⟨n, bs⟩ A b o c _ _ hn (Nat.le_refl _) hP.rd); rintro e w2 ⟨rfl, hb2⟩; rw [Hf.out]; have hP2 := hP.below hb2)
    refine bodyPost_ret (v := .tuple #[.slice none 0 0, .bool false]) (by simp [results, Try.results98, go_sem]) rfl ?_
    exact ⟨none, 0, rfl, World.ownsRow_nil _ _ _ _, hP2.bel⟩
  · have hnn := nn_ok (planOk_of_fits hf)
    dsimp only at hnn
    cases hin : inB f 0 (n - 1)
    · have hx : earliest ⟨n, bs⟩ f = ([], false) := by unfold earliest; rw [hf]; dsimp only; rw [hin]; rfl
      rw [hx] at hxs
      injection hxs with e1 e2
      subst e1; subst e2
      have Hf := hide hf
      have Hin := hide hin
      clear hf hx hin
      have hP := po_new (t := 25) (n := n) (c := c) (Below.refl w.heap.size w) hR
      go_enter Try.func98, Try.ntmps98
      go_wp2_with (first
        | (go_at_call 39; go_fit (fitsOk_c ⟨n, bs⟩ A b o c _ _ hn (Nat.le_refl _) hP.rd); rintro e w2 ⟨rfl, hb2⟩; rw [Hf.out]; have hP2 := hP.below hb2; have q0 := hP2.c0; have q1 := hP2.c1)
        | (go_at_call 92; go_fit (has_c n f A bs.length c _ (by omega) (by omega)); rintro e w3 ⟨rfl, hb3⟩; rw [Hin.out]; have hP3 := hP2.below hb3))
      refine bodyPost_ret (v := .tuple #[.slice none 0 0, .bool false]) (by simp [results, Try.results98, go_sem]) rfl ?_
      exact ⟨none, 0, rfl, World.ownsRow_nil _ _ _ _, hP3.bel⟩
    · have hx : rowOf (fun k => Pp.leastOf ⟨n, bs⟩ f (k : Int)) (nn ⟨n, bs⟩) = (xs, r) := by rw [← hxs]; unfold earliest; rw [hf]; dsimp only; rw [hin]; rfl
      obtain ⟨m, hm⟩ : ∃ m, nn ⟨n, bs⟩ = m := ⟨_, rfl⟩
      rw [hm] at hnn hx
      obtain ⟨hm6, hm1, hmn⟩ := hnn
      obtain rfl : n = (m : Int) := hmn.symm
      have Hf := hide hf
      have Hin := hide hin
      have Hx := hide hx
      clear hf hx hin hm hxs
      have hP := po_new (t := 25) (n := (m : Int)) (c := c) (Below.refl w.heap.size w) hR
      go_enter Try.func98, Try.ntmps98
      go_wp2_with (first
        | (go_at_call 39; go_fit (fitsOk_c ⟨(m : Int), bs⟩ A b o c _ _ hn (Nat.le_refl _) hP.rd); rintro e w2 ⟨rfl, hb2⟩; rw [Hf.out]; have hP2 := hP.below hb2; have q0 := hP2.c0; have q1 := hP2.c1)
        | (go_at_call 92; go_fit (has_c (m : Int) f A bs.length c _ (by omega) (by omega)); rintro e w3 ⟨rfl, hb3⟩; rw [Hin.out]; have hP3 := hP2.below hb3; have r0 := hP3.c0))
      have hW3 : Below w.heap.size w w3 := hP3.bel
      clear hP hP2 hP3 q0 q1 r0 hb2 hb3
      go_loopg [8, 23] m (fun gh s8 s wr => ∃ k : Nat, k ≤ m ∧ gh = m - k ∧ s = .int .i64 k ∧ Hid ((rowOf (fun k => Pp.leastOf ⟨(m : Int), bs⟩ f (k : Int)) k).2 = true) ∧ ∃ A1 c1, s8 = .slice A1 k c1 ∧ wr.ownsRow w.heap.size 3 1 (.slice A1 k c1) k ((rowOf (fun k => Pp.leastOf ⟨(m : Int), bs⟩ f (k : Int)) k).1.map (Value.int .i64)) ∧ Below w.heap.size w wr)
      case atStart => exact ⟨0, Nat.zero_le _, rfl, rfl, rfl, none, 0, rfl, World.ownsRow_nil _ _ _ _, hW3⟩
      case round =>
        clear hW3
        obtain ⟨k, hk, rfl, rfl, Hk, A1, c1, rfl, hown, hW⟩ := hrel
        by_cases hlt : k < m
        · have hlt' : (k : Int) < (m : Int) := by omega
          have y0 := (hW.cell (p := ⟨X, 0, none⟩) hX).trans x0
          have y1 := (hW.cell (p := ⟨X, 1, none⟩) hX).trans x1
          have y2 := (hW.cell (p := ⟨Y, 0, none⟩) hY).trans y0'
          have hRw := (hR.below hW).more hW.size
          obtain ⟨v, hv⟩ : ∃ v, (Pp.leastOf ⟨(m : Int), bs⟩ f (k : Int)).1 = v := ⟨_, rfl⟩
          have Hv := hide hv
          cases ht : (Pp.leastOf ⟨(m : Int), bs⟩ f (k : Int)).2
          · have hno : (rowOf (fun k => Pp.leastOf ⟨(m : Int), bs⟩ f (k : Int)) m).2 = false := by
              cases hq : (rowOf (fun k => Pp.leastOf ⟨(m : Int), bs⟩ f (k : Int)) m).2
              · rfl
              · have := (rowOf_yes hq).2.1 k hlt; (try dsimp only at this); rw [ht] at this; cases this
            have hx1 := rowOf_no hno
            rw [Hx.out] at hno hx1
            dsimp only at hno hx1
            subst hno; subst hx1
            have Ht := hide ht
            clear ht hv
            go_wp2_with (go_at_call 100; go_fit (early_k ⟨(m : Int), bs⟩ f (k : Int) A b o c _ X Y _ hn (Nat.le_refl _) hRw y0 y1 y2); rintro e w4 ⟨rfl, hb4⟩; rw [Hv.out, Ht.out])
            (try rw [Exit.noGoto_ret])
            refine bodyPost_ret (v := .tuple #[.slice none 0 0, .bool false]) (by simp [results, Try.results98, go_sem]) rfl ?_
            exact ⟨none, 0, rfl, World.ownsRow_nil _ _ _ _, bthen hW hb4⟩
          · have Hk1 : rowOf (fun k => Pp.leastOf ⟨(m : Int), bs⟩ f (k : Int)) (k + 1) = ((rowOf (fun k => Pp.leastOf ⟨(m : Int), bs⟩ f (k : Int)) k).1 ++ [v], true) := by
              simp only [rowOf]; rw [Hk.out, ht, hv]; rfl
            have Ht := hide ht
            have Hk1 := hide Hk1
            clear ht hv
            generalize (rowOf (fun k => Pp.leastOf ⟨(m : Int), bs⟩ f (k : Int)) k).1 = ys at hown Hk1
            go_wp2_with (first
              | (go_at_call 100; go_fit (early_k ⟨(m : Int), bs⟩ f (k : Int) A b o c _ X Y _ hn (Nat.le_refl _) hRw y0 y1 y2); rintro e w4 ⟨rfl, hb4⟩; rw [Hv.out, Ht.out])
              | (at_builtin; refine app_list _ rfl (.tmp 34) (.tmp 36) _ rfl w.heap.size 3 i0 _ 1 8 Try.underlying44 hi0 hz0 hz1 hz2 rfl (by omega) (.slice A1 k c1) k (ys.map (Value.int .i64)) rfl ?_ _ 1 _ [.int .i64 v] rfl rfl (NewsAt.block (cs := #[.int .i64 v]) (at_new rfl)) (by simp [Value.oneCell']) (by omega) (by omega) ?_ ?_
                 · exact (own_below hown hb4).alloc _
                 · have := hW.size; have := hb4.size; simp only [World.size_alloc]; omega
                 intro A3 c3 w5 hown5 hg5 hat5))
            go_roundg (m - (k + 1))
            case measure => go_light; omega
            case rel =>
              go_light
              refine ⟨k + 1, by omega, rfl, by go_num, by rw [Hk1.out]; rfl, A3, c3, rfl, ?_, ?_⟩
              · rw [Hk1.out]; simpa using hown5
              · exact below_app ((bthen hW hb4).alloc (bthen hW hb4).size _) ((own_below hown hb4).alloc _) hg5 (Nat.le_refl _) (by have := hW.size; have := hb4.size; simp only [World.size_alloc]; omega)
        · obtain rfl : k = m := by omega
          have hx1 := Hk.out
          rw [Hx.out] at hown hx1
          dsimp only at hown hx1
          subst hx1
          have hl : xs.length = k := by have := (rowOf_yes (tell := fun k' => Pp.leastOf ⟨(k : Int), bs⟩ f (k' : Int)) (n := k) (by rw [Hx.out])).1; rw [Hx.out] at this; exact this
          go_wp2_with fail
          refine bodyPost_ret (v := .tuple #[.slice A1 k c1, .bool true]) (by simp [results, Try.results98, go_sem]) rfl ?_
          rw [hl]
          exact ⟨A1, c1, rfl, by unfold OwnI; rw [hl]; exact hown, hW⟩

set_option maxHeartbeats 2000000 in
set_option maxRecDepth 100000 in
theorem early_c (p : Pl) (f : Int) (A : Option Addr) (b o c B : Nat) (w : World) (hn : p.bs.length ≤ 1000000) (hB : B ≤ w.heap.size) (hR : BdsR w B b o A p.bs) (xs : List Int) (r : Bool) (hxs : earliest p f = (xs, r)) :
    Calls Try.prog 32 #[.agg #[.int .i64 p.n, .slice A p.bs.length c], .int .i64 f] w fun e w' => ∃ A1 c1 g1, e = .returned (.tuple #[.slice A1 xs.length c1, .bool r]) ∧ IntsR w' w'.heap.size g1 0 A1 xs ∧ Below w.heap.size w w' := by
  have Hx := hide hxs
  clear hxs
  obtain ⟨n, bs⟩ := p
  dsimp only at *
  have hP := (po_new (t := 25) (n := n) (c := c) (Below.refl w.heap.size w) (hR.more hB)).alloc (.cells #[.int .i64 f] 3)
  go_enter Try.func32, Try.ntmps32
  go_upto_region 1 with fail
  have y0 : ((w.alloc (.cells #[.int .i64 n, .slice A bs.length c] 25)).alloc (.cells #[.int .i64 f] 3)).cell? ⟨w.heap.size + 1, 0, none⟩ = some (.int .i64 f) := by simp [go_sem]
  have hY : w.heap.size + 1 < ((w.alloc (.cells #[.int .i64 n, .slice A bs.length c] 25)).alloc (.cells #[.int .i64 f] 3)).heap.size := by simp
  generalize (w.alloc (.cells #[.int .i64 n, .slice A bs.length c] 25)).alloc (.cells #[.int .i64 f] 3) = W at hP y0 hY ⊢
  have p0 := hP.c0
  have p1 := hP.c1
  go_wp2_with (go_at_call 98; go_fit (early_row ⟨n, bs⟩ f A b o c w.heap.size (w.heap.size + 1) _ hn hP.rd p0 p1 y0 hP.ex hY xs r Hx.out); rintro e w2 ⟨A1, c1, rfl, hown, hb⟩)
  refine bodyPost_ret (v := .tuple #[.slice A1 xs.length c1, .bool r]) (by simp [results, Try.results32, go_sem]) rfl ?_
  obtain ⟨A2, g1, c2, hv, hr⟩ := hown.reads
  injection hv with h1 h2 h3
  subst h1
  exact ⟨A1, c1, g1, rfl, hr, bthen hP.bel hb⟩
end Go.Proofs.Ytjlaljnffmncpaa
