/-
  spec: StateNew.
-/
import Derived.Test.YtjlaljnffmncpaaS10
import Derived.Test.YtjlaljnffmncpaaL19
namespace Go.Proofs.Ytjlaljnffmncpaa
set_option linter.unusedVariables false
set_option linter.unusedSimpArgs false
open Go.RowKit Pp

/-- A slice of one number that has just been built. -/
theorem own_one {w : World} {x : Int} {T : Nat} (hT : T ≤ w.heap.size) : OwnI T (w.alloc (.cells #[.int .i64 x] 3)) (.slice (some ⟨w.heap.size, 0, none⟩) 1 1) [x] := by
  have h := World.rowIs_alloc w #[.int .i64 x] 3 (fun _ => .int .i64 x) (fun i hi => by
    have : i = 0 := by simp at hi; omega
    subst this; rfl)
  exact row_own (n := 1) (cap := 1) (size := 1) (base := T) (xs := [Value.int .i64 x]) h (fun j hj => by
    have : j = 0 := by omega
    subst this; rfl) rfl hT (Nat.le_refl _) (by unfold maxLen; omega)

/-- What an append to the list of a state in a box leaves. -/
theorem OS.app {T : Nat} {W w4 : World} {Z g : Nat} {now x : Int} {A A4 : Option Addr} {c c4 : Nat} {xs : List Int} {o : Obj} (h : OS T W Z g now A c xs) (hg : (W.alloc o).grownBy w4 (Value.slice A xs.length c).ownBlock)
    (own : w4.ownsRow T 3 1 (.slice A4 (xs.length + 1) c4) (xs.length + 1) (xs.map (Value.int .i64) ++ [.int .i64 x])) (hat : (Value.slice A4 (xs.length + 1) c4).ownBlock = (Value.slice A xs.length c).ownBlock ∨ (Value.slice A4 (xs.length + 1) c4).ownBlock = some (W.alloc o).heap.size) :
    w4.cell? ⟨Z, 0, none⟩ = some (.int .i64 now) ∧ w4.cell? ⟨Z, 1, none⟩ = some (.slice A xs.length c) ∧ w4.frozen? ⟨Z, 1, none⟩ = false ∧
    ∃ g', OS T (w4.setCell ⟨Z, 1, none⟩ (.slice A4 (xs.length + 1) c4)) Z g' now A4 c4 (xs ++ [x]) := by
  have h2 := h.below (show Below W.heap.size W (W.alloc o) by go_grown)
  have hne : some Z ≠ (Value.slice A xs.length c).ownBlock := fun e => h.ne e.symm
  have c0 := hg.cell h2.rs.c0 hne
  have c1 := hg.cell h2.rs.c1 hne
  have f := fun i => (hg.frozen_far ⟨Z, i, none⟩ h2.rs.ex hne).trans (h2.fz i)
  have hl : (xs ++ [x]).length = xs.length + 1 := by simp
  have own' : OwnI T w4 (.slice A4 (xs ++ [x]).length c4) (xs ++ [x]) := by unfold OwnI; rw [hl, List.map_append]; exact own
  have ne4 : (Value.slice A4 (xs ++ [x]).length c4).ownBlock ≠ some Z := by
    rw [hl]
    rcases hat with e | e
    · rw [e]; exact h.ne
    · rw [e]; intro e2; have e3 := Option.some.inj e2; have := h2.rs.ex; omega
  have o2 : OwnI T (w4.setCell ⟨Z, 1, none⟩ (.slice A4 (xs ++ [x]).length c4)) (.slice A4 (xs ++ [x]).length c4) (xs ++ [x]) := own_set (p := ⟨Z, 1, none⟩) own' ne4 _
  obtain ⟨g', hr⟩ := own_IntsR o2
  rw [hl] at hr o2 ne4
  refine ⟨c0, c1, f 1, g', h.lo, ⟨?_, ?_, ?_, hr⟩, fun i => ?_, ?_, ?_⟩
  · have := h2.rs.ex; have := hg.size; simp; omega
  · rw [World.cell?_setCell_other _ _ _ _ (by simp)]; exact c0
  · rw [hl]; exact World.cell?_setCell_same _ _ _ c1
  · rw [← f i]; simp
  · rw [hl]; exact o2
  · rw [hl]; exact ne4

set_option maxHeartbeats 4000000 in
set_option maxRecDepth 100000 in
theorem sNew_c (p : Pl) (q : St) (r : Bool) (hq : stateNew p = (q, r)) (A : Option Addr) (b o c B : Nat) (w : World) (hn : p.bs.length ≤ 2000000) (hB : B ≤ w.heap.size) (hR : BdsR w B b o A p.bs) :
    Calls Try.prog 140 #[.agg #[.int .i64 p.n, .slice A p.bs.length c]] w fun e w' =>
      ∃ A1 c1 g1, e = .returned (.tuple #[.agg #[.int .i64 q.now, .slice A1 q.done.length c1], .bool r]) ∧ IntsR w' w'.heap.size g1 0 A1 q.done ∧ OwnI w.heap.size w' (.slice A1 q.done.length c1) q.done ∧ Below w.heap.size w w' := by
  obtain ⟨i0, hi0, hz0, hz1, hz2⟩ := info_parts infoI
  obtain ⟨n, bs⟩ := p
  dsimp only at *
  have hP := (rp_new (t := 25) (n := n) (c := c) (hR.more hB)).alloc (.cells #[.int .i64 0, .slice none 0 0] 70)
  have hZ : ZB w ((w.alloc (.cells #[.int .i64 n, .slice A bs.length c] 25)).alloc (.cells #[.int .i64 0, .slice none 0 0] 70)) (w.heap.size + 1) := by
    have h := zb_new (w0 := w) (W := w.alloc (.cells #[.int .i64 n, .slice A bs.length c] 25)) (t := 70) (by simp)
    simp only [World.size_alloc] at h
    exact h
  have hW : Below w.heap.size w ((w.alloc (.cells #[.int .i64 n, .slice A bs.length c] 25)).alloc (.cells #[.int .i64 0, .slice none 0 0] 70)) := by go_grown
  have hlb : 0 < bs.length → b < w.heap.size := fun h => Nat.lt_of_lt_of_le (hR.lt h) hB
  clear hR
  cases hf : fits ⟨n, bs⟩
  · have e : stateNew ⟨n, bs⟩ = (⟨0, []⟩, false) := by unfold stateNew; rw [hf]; rfl
    rw [e] at hq
    injection hq with e1 e2
    subst e1 e2
    have Hf := hide hf
    clear hf e
    go_enter Try.func140, Try.ntmps140
    go_upto_region 1 with fail
    generalize (w.alloc (.cells #[.int .i64 n, .slice A bs.length c] 25)).alloc (.cells #[.int .i64 0, .slice none 0 0] 70) = W at hP hZ hW ⊢
    have p0 := hP.c0
    have p1 := hP.c1
    generalize w.heap.size + 1 = Y at hZ ⊢
    go_wp2_with (go_at_call 84; go_fit (sFitsOk_c ⟨n, bs⟩ A b o c _ _ hn (Nat.le_refl _) hP.rd); rintro e w2 ⟨rfl, hb2⟩; rw [Hf.out]; replace hW := bthen hW hb2; replace hZ := hZ.below hb2; have z0 := hZ.z0; have z1 := hZ.z1; have zf0 := hZ.zf 0; have zf1 := hZ.zf 1)
    obtain ⟨r0, r1, ho, hb7⟩ := hZ.finI (n := 0) (A := none) (c := 0) (xs := []) hW (World.ownsRow_nil _ _ _ _) (by simp [Value.ownBlock])
    simp only [List.length_nil] at r0 r1 ho hb7
    refine bodyPost_ret (v := .tuple #[.agg #[.int .i64 0, .slice none 0 0], .bool false]) (by simp [results, Try.results140, go_sem, r0, r1]) rfl ?_
    exact ⟨none, 0, 0, rfl, IntsR.nil _ _ _, ho, hb7⟩
  · have hnn := nn_ok (planOk_of_fits hf)
    have e : stateNew ⟨n, bs⟩ = (⟨0, 0 :: List.replicate (nn ⟨n, bs⟩ - 1) (-1)⟩, true) := by unfold stateNew; rw [hf]; rfl
    rw [e] at hq
    obtain ⟨m, hm⟩ : ∃ m, nn ⟨n, bs⟩ = m := ⟨_, rfl⟩
    rw [hm] at hnn hq
    obtain ⟨hm6, hm1, hmn⟩ := hnn
    dsimp only at hmn
    obtain rfl : n = (m : Int) := hmn.symm
    injection hq with e1 e2
    subst e2
    have Hq := hide e1
    have Hf := hide hf
    clear hf e hm hmn e1
    go_enter Try.func140, Try.ntmps140
    go_upto_region 1 with fail
    generalize (w.alloc (.cells #[.int .i64 (m : Int), .slice A bs.length c] 25)).alloc (.cells #[.int .i64 0, .slice none 0 0] 70) = W at hP hZ hW ⊢
    have p0 := hP.c0
    have p1 := hP.c1
    have hYw : w.heap.size < w.heap.size + 1 := Nat.lt_succ_self _
    generalize w.heap.size + 1 = Y at hZ hYw ⊢
    go_upto_region 4 with (go_at_call 84; go_fit (sFitsOk_c ⟨(m : Int), bs⟩ A b o c _ _ hn (Nat.le_refl _) hP.rd); rintro e w2 ⟨rfl, hb2⟩; rw [Hf.out]; replace hW := bthen hW hb2; replace hZ := hZ.below hb2; replace hP := hP.below hb2; clear p0 p1; have p0 := hP.c0; have p1 := hP.c1; have hPx := hP.ex)
    have ho1 : OwnI w2.heap.size (w2.alloc (.cells #[.int .i64 0] 3)) (.slice (some ⟨w2.heap.size, 0, none⟩) 1 1) [0] := own_one (Nat.le_refl _)
    obtain ⟨g1, hr1⟩ := own_IntsR (c := 1) (xs := [0]) ho1
    obtain ⟨hO, hbO⟩ := os_new (t := 70) (now := 0) (c := 1) (xs := [0]) (by simp) hr1 ho1
    have hb3 : Below w2.heap.size w2 _ := bthen (show Below w2.heap.size w2 (w2.alloc (.cells #[.int .i64 0] 3)) by go_grown) hbO
    have hYg := hZ.ex
    replace hW := bthen hW hb3
    replace hZ := hZ.below hb3
    replace hP := hP.below hb3
    clear p0 p1 hb2 hbO hr1 ho1 hb3
    simp only [World.size_alloc, List.length_cons, List.length_nil, Nat.zero_add] at hO hW hZ hP
    generalize (w2.alloc (.cells #[.int .i64 0] 3)).alloc (.cells #[.int .i64 0, .slice (some ⟨w2.heap.size, 0, none⟩) 1 1] 70) = W3 at hO hW hZ hP ⊢
    generalize w2.heap.size + 1 = Z at hO ⊢
    generalize hT : w2.heap.size = T at hO hPx hYg ⊢
    clear hT
    go_wp2_with fail
    go_loopg [5] m (fun gh s5 wr => ∃ (i : Nat) (ys : List Int) (A1 : Option Addr) (c1 g1 : Nat), 1 ≤ i ∧ i ≤ m ∧ gh = m + 1 - i ∧ s5 = .int .i64 i ∧ Hid (ys = 0 :: List.replicate (i - 1) (-1)) ∧ Hid (ys.length = i) ∧ OS T wr Z g1 0 A1 c1 ys ∧ Below w.heap.size w wr ∧ RP wr w.heap.size b o (m : Int) A c bs ∧ ZB w wr Y)
    case atStart =>
      go_light
      exact ⟨1, [0], _, 1, _, Nat.le_refl _, hm1, by omega, by go_num, rfl, rfl, hO, hW, hP, hZ⟩
    case round =>
      clear hO hW hZ hP
      obtain ⟨i, ys, A1, c1, g1, hi1, hi, rfl, rfl, Hys, Hyl, hO, hW, hP, hZ⟩ := hrel
      have p0 := hP.c0
      by_cases hlt : i < m
      · have hlt' : (i : Int) < (m : Int) := by omega
        have o1 := hO.rs.c1
        have hyl : ys.length ≤ 6 := by rw [Hyl.out]; omega
        have hOx := hO.rs.ex
        go_wp2_with (at_builtin; refine app_list _ rfl (.tmp 19) (.tmp 20) _ rfl T 3 i0 _ 1 8 Try.underlying44 hi0 hz0 hz1 hz2 rfl (by omega) (.slice A1 ys.length c1) ys.length (ys.map (Value.int .i64)) rfl (hO.own.alloc _) _ 1 _ [.int .i64 (-1)] rfl rfl (NewsAt.block (cs := #[.int .i64 (-1)]) (at_new rfl)) (by simp [Value.oneCell']) (by omega) (by omega) (by have := hO.lo; simp only [World.size_alloc]; omega) ?_; intro A4 c4 w4 hown4 hg4 hat4; obtain ⟨k0, k1, kf1, g5, hO5⟩ := hO.app hg4 hown4 hat4)
        have hl2 : (ys ++ [(-1 : Int)]).length = ys.length + 1 := by simp
        have hTT : T ≤ (wr.alloc (.cells #[.int .i64 (-1)] 3)).heap.size := by have := hO.lo; simp only [World.size_alloc]; omega
        have hW4 : Below w.heap.size w w4 := below_app (bthen hW (show Below wr.heap.size wr (wr.alloc (.cells #[.int .i64 (-1)] 3)) by go_grown)) (hO.own.alloc (.cells #[.int .i64 (-1)] 3)) hg4 (Nat.le_of_lt hPx) hTT
        have hq := fun k (hk : (Value.slice A1 ys.length c1).ownBlock = some k) => (hO.own.lt k hk).1
        have hP4 : RP w4 w.heap.size b o (m : Int) A c bs := (hP.alloc (.cells #[.int .i64 (-1)] 3)).grown hg4 (fun e => by have := hq _ e.symm; omega) (fun h e => by have := hq _ e.symm; have := hlb h; omega)
        have hZ4 : ZB w w4 Y := (hZ.below (show Below wr.heap.size wr (wr.alloc (.cells #[.int .i64 (-1)] 3)) by go_grown)).grown hg4 (fun q e => by have := hq _ e; omega)
        have hZl := hO.lo
        go_roundg (m + 1 - (i + 1))
        case measure => go_light; omega
        case rel =>
          go_light
          refine ⟨i + 1, ys ++ [-1], A4, c4, g5, by omega, by omega, rfl, by go_num, ?_, by unfold Hid; rw [hl2, Hyl.out], hO5, hW4.setCell (p := ⟨Z, 1, none⟩) (by dsimp only; omega) _, hP4.set (by omega) (fun h => by have := hlb h; omega), hZ4.set (by omega)⟩
          unfold Hid
          rw [Hys.out, show i + 1 - 1 = (i - 1) + 1 by omega, List.replicate_succ', List.cons_append]
      · obtain rfl : i = m := by omega
        have e : q = ⟨0, ys⟩ := by rw [← Hq.out, Hys.out]
        subst e
        have o0 := hO.rs.c0
        have o1 := hO.rs.c1
        have z0 := hZ.z0
        have z1 := hZ.z1
        have zf0 := hZ.zf 0
        have zf1 := hZ.zf 1
        obtain ⟨r0, r1, ho, hb9⟩ := hZ.finI (n := 0) (A := A1) (c := c1) (xs := ys) hW (own_less hO.own (Nat.le_of_lt hPx)) (fun e => by have := (hO.own.lt _ e).1; omega)
        go_wp2_with fail
        refine bodyPost_ret (v := .tuple #[.agg #[.int .i64 0, .slice A1 ys.length c1], .bool true]) (by simp [results, Try.results140, go_sem, r0, r1]) rfl ?_
        obtain ⟨g9, hr9⟩ := own_IntsR ho
        first | exact ⟨_, _, g9, rfl, hr9, ho, hb9⟩ | exact ⟨_, _, rfl, ⟨g9, hr9⟩, ho, hb9⟩
end Go.Proofs.Ytjlaljnffmncpaa
