/-
  spec: StateNew.
  spec: RunOf.
-/
import Derived.Test.YtjlaljnffmncpaaS10
import Derived.Test.YtjlaljnffmncpaaL17
namespace Go.Proofs.Ytjlaljnffmncpaa
set_option linter.unusedVariables false
set_option linter.unusedSimpArgs false
open Go.RowKit Pp

/-- A slice of one number that has just been built. -/
theorem own_one {w : World} {x : Int} {T : Nat} (hT : T ≤ w.heap.size) : OwnI T (w.alloc (.cells #[.int .i64 x] 3)) (.slice (some ⟨w.heap.size, 0, none⟩) 1 1) [x] := by
  have h := World.rowIs_alloc w #[.int .i64 x] 3 (fun _ => .int .i64 x) (fun i hi => by
    have : i = 0 := by simp at hi; omega
    subst this; rfl)
  exact row_own (n := 1) (cap := 1) (size := 1) (base := T) (xs := [Value.int .i64 x]) h (fun j hj => by
    have : j = 0 := by omega
    subst this; rfl) rfl hT (Nat.le_refl _) (by unfold maxLen; omega)

/-- What an append to the list of a state in a box leaves. -/
theorem OS.app {T : Nat} {W w4 : World} {Z g : Nat} {now x : Int} {A A4 : Option Addr} {c c4 : Nat} {xs : List Int} {o : Obj} (h : OS T W Z g now A c xs) (hg : (W.alloc o).grownBy w4 (Value.slice A xs.length c).ownBlock)
    (own : w4.ownsRow T 3 1 (.slice A4 (xs.length + 1) c4) (xs.length + 1) (xs.map (Value.int .i64) ++ [.int .i64 x])) (hat : (Value.slice A4 (xs.length + 1) c4).ownBlock = (Value.slice A xs.length c).ownBlock ∨ (Value.slice A4 (xs.length + 1) c4).ownBlock = some (W.alloc o).heap.size) :
    w4.cell? ⟨Z, 0, none⟩ = some (.int .i64 now) ∧ w4.cell? ⟨Z, 1, none⟩ = some (.slice A xs.length c) ∧ w4.frozen? ⟨Z, 1, none⟩ = false ∧
    ∃ g', OS T (w4.setCell ⟨Z, 1, none⟩ (.slice A4 (xs.length + 1) c4)) Z g' now A4 c4 (xs ++ [x]) := by
  have h2 := h.below (show Below W.heap.size W (W.alloc o) by go_grown)
  have hne : some Z ≠ (Value.slice A xs.length c).ownBlock := fun e => h.ne e.symm
  have c0 := hg.cell h2.rs.c0 hne
  have c1 := hg.cell h2.rs.c1 hne
  have f := fun i => (hg.frozen_far ⟨Z, i, none⟩ h2.rs.ex hne).trans (h2.fz i)
  have hl : (xs ++ [x]).length = xs.length + 1 := by simp
  have own' : OwnI T w4 (.slice A4 (xs ++ [x]).length c4) (xs ++ [x]) := by unfold OwnI; rw [hl, List.map_append]; exact own
  have ne4 : (Value.slice A4 (xs ++ [x]).length c4).ownBlock ≠ some Z := by
    rw [hl]
    rcases hat with e | e
    · rw [e]; exact h.ne
    · rw [e]; intro e2; have e3 := Option.some.inj e2; have := h2.rs.ex; omega
  have o2 : OwnI T (w4.setCell ⟨Z, 1, none⟩ (.slice A4 (xs ++ [x]).length c4)) (.slice A4 (xs ++ [x]).length c4) (xs ++ [x]) := own_set (p := ⟨Z, 1, none⟩) own' ne4 _
  obtain ⟨g', hr⟩ := own_IntsR o2
  rw [hl] at hr o2 ne4
  refine ⟨c0, c1, f 1, g', h.lo, ⟨?_, ?_, ?_, hr⟩, fun i => ?_, ?_, ?_⟩
  · have := h2.rs.ex; have := hg.size; simp; omega
  · rw [World.cell?_setCell_other _ _ _ _ (by simp)]; exact c0
  · rw [hl]; exact World.cell?_setCell_same _ _ _ c1
  · rw [← f i]; simp
  · rw [hl]; exact o2
  · rw [hl]; exact ne4

set_option maxHeartbeats 4000000 in
set_option maxRecDepth 100000 in
theorem sNew_c (p : Pl) (q : St) (r : Bool) (hq : stateNew p = (q, r)) (A : Option Addr) (b o c B : Nat) (w : World) (hn : p.bs.length ≤ 2000000) (hB : B ≤ w.heap.size) (hR : BdsR w B b o A p.bs) :
    Calls Try.prog 140 #[.agg #[.int .i64 p.n, .slice A p.bs.length c]] w fun e w' =>
      ∃ A1 c1 g1, e = .returned (.tuple #[.agg #[.int .i64 q.now, .slice A1 q.done.length c1], .bool r]) ∧ IntsR w' w'.heap.size g1 0 A1 q.done ∧ OwnI w.heap.size w' (.slice A1 q.done.length c1) q.done ∧ Below w.heap.size w w' := by
  obtain ⟨i0, hi0, hz0, hz1, hz2⟩ := info_parts infoI
  obtain ⟨n, bs⟩ := p
  dsimp only at *
  have hP := (rp_new (t := 25) (n := n) (c := c) (hR.more hB)).alloc (.cells #[.int .i64 0, .slice none 0 0] 70)
  have hZ : ZB w ((w.alloc (.cells #[.int .i64 n, .slice A bs.length c] 25)).alloc (.cells #[.int .i64 0, .slice none 0 0] 70)) (w.heap.size + 1) := by
    have h := zb_new (w0 := w) (W := w.alloc (.cells #[.int .i64 n, .slice A bs.length c] 25)) (t := 70) (by simp)
    simp only [World.size_alloc] at h
    exact h
  have hW : Below w.heap.size w ((w.alloc (.cells #[.int .i64 n, .slice A bs.length c] 25)).alloc (.cells #[.int .i64 0, .slice none 0 0] 70)) := by go_grown
  have hlb : 0 < bs.length → b < w.heap.size := fun h => Nat.lt_of_lt_of_le (hR.lt h) hB
  clear hR
  cases hf : fits ⟨n, bs⟩
  · have e : stateNew ⟨n, bs⟩ = (⟨0, []⟩, false) := by unfold stateNew; rw [hf]; rfl
    rw [e] at hq
    injection hq with e1 e2
    subst e1 e2
    have Hf := hide hf
    clear hf e
    go_enter Try.func140, Try.ntmps140
    go_upto_region 1 with fail
    generalize (w.alloc (.cells #[.int .i64 n, .slice A bs.length c] 25)).alloc (.cells #[.int .i64 0, .slice none 0 0] 70) = W at hP hZ hW ⊢
    have p0 := hP.c0
    have p1 := hP.c1
    generalize w.heap.size + 1 = Y at hZ ⊢
    go_wp2_with (go_at_call 84; go_fit (sFitsOk_c ⟨n, bs⟩ A b o c _ _ hn (Nat.le_refl _) hP.rd); rintro e w2 ⟨rfl, hb2⟩; rw [Hf.out]; replace hW := bthen hW hb2; replace hZ := hZ.below hb2; have z0 := hZ.z0; have z1 := hZ.z1; have zf0 := hZ.zf 0; have zf1 := hZ.zf 1)
    obtain ⟨r0, r1, ho, hb7⟩ := hZ.finI (n := 0) (A := none) (c := 0) (xs := []) hW (World.ownsRow_nil _ _ _ _) (by simp [Value.ownBlock])
    simp only [List.length_nil] at r0 r1 ho hb7
    refine bodyPost_ret (v := .tuple #[.agg #[.int .i64 0, .slice none 0 0], .bool false]) (by simp [results, Try.results140, go_sem, r0, r1]) rfl ?_
    exact ⟨none, 0, 0, rfl, IntsR.nil _ _ _, ho, hb7⟩
  · have hnn := nn_ok (planOk_of_fits hf)
    have e : stateNew ⟨n, bs⟩ = (⟨0, 0 :: List.replicate (nn ⟨n, bs⟩ - 1) (-1)⟩, true) := by unfold stateNew; rw [hf]; rfl
    rw [e] at hq
    obtain ⟨m, hm⟩ : ∃ m, nn ⟨n, bs⟩ = m := ⟨_, rfl⟩
    rw [hm] at hnn hq
    obtain ⟨hm6, hm1, hmn⟩ := hnn
    dsimp only at hmn
    obtain rfl : n = (m : Int) := hmn.symm
    injection hq with e1 e2
    subst e2
    have Hq := hide e1
    have Hf := hide hf
    clear hf e hm hmn e1
    go_enter Try.func140, Try.ntmps140
    go_upto_region 1 with fail
    generalize (w.alloc (.cells #[.int .i64 (m : Int), .slice A bs.length c] 25)).alloc (.cells #[.int .i64 0, .slice none 0 0] 70) = W at hP hZ hW ⊢
    have p0 := hP.c0
    have p1 := hP.c1
    have hYw : w.heap.size < w.heap.size + 1 := Nat.lt_succ_self _
    generalize w.heap.size + 1 = Y at hZ hYw ⊢
    go_upto_region 4 with (go_at_call 84; go_fit (sFitsOk_c ⟨(m : Int), bs⟩ A b o c _ _ hn (Nat.le_refl _) hP.rd); rintro e w2 ⟨rfl, hb2⟩; rw [Hf.out]; replace hW := bthen hW hb2; replace hZ := hZ.below hb2; replace hP := hP.below hb2; clear p0 p1; have p0 := hP.c0; have p1 := hP.c1; have hPx := hP.ex)
    have ho1 : OwnI w2.heap.size (w2.alloc (.cells #[.int .i64 0] 3)) (.slice (some ⟨w2.heap.size, 0, none⟩) 1 1) [0] := own_one (Nat.le_refl _)
    obtain ⟨g1, hr1⟩ := own_IntsR (c := 1) (xs := [0]) ho1
    obtain ⟨hO, hbO⟩ := os_new (t := 70) (now := 0) (c := 1) (xs := [0]) (by simp) hr1 ho1
    have hb3 : Below w2.heap.size w2 _ := bthen (show Below w2.heap.size w2 (w2.alloc (.cells #[.int .i64 0] 3)) by go_grown) hbO
    have hYg := hZ.ex
    replace hW := bthen hW hb3
    replace hZ := hZ.below hb3
    replace hP := hP.below hb3
    clear p0 p1 hb2 hbO hr1 ho1 hb3
    simp only [World.size_alloc, List.length_cons, List.length_nil, Nat.zero_add] at hO hW hZ hP
    generalize (w2.alloc (.cells #[.int .i64 0] 3)).alloc (.cells #[.int .i64 0, .slice (some ⟨w2.heap.size, 0, none⟩) 1 1] 70) = W3 at hO hW hZ hP ⊢
    generalize w2.heap.size + 1 = Z at hO ⊢
    generalize hT : w2.heap.size = T at hO hPx hYg ⊢
    clear hT
    go_wp2_with fail
    go_loopg [5] m (fun gh s5 wr => ∃ (i : Nat) (ys : List Int) (A1 : Option Addr) (c1 g1 : Nat), 1 ≤ i ∧ i ≤ m ∧ gh = m + 1 - i ∧ s5 = .int .i64 i ∧ Hid (ys = 0 :: List.replicate (i - 1) (-1)) ∧ Hid (ys.length = i) ∧ OS T wr Z g1 0 A1 c1 ys ∧ Below w.heap.size w wr ∧ RP wr w.heap.size b o (m : Int) A c bs ∧ ZB w wr Y)
    case atStart =>
      go_light
      exact ⟨1, [0], _, 1, _, Nat.le_refl _, hm1, by omega, by go_num, rfl, rfl, hO, hW, hP, hZ⟩
    case round =>
      clear hO hW hZ hP
      obtain ⟨i, ys, A1, c1, g1, hi1, hi, rfl, rfl, Hys, Hyl, hO, hW, hP, hZ⟩ := hrel
      have p0 := hP.c0
      by_cases hlt : i < m
      · have hlt' : (i : Int) < (m : Int) := by omega
        have o1 := hO.rs.c1
        have hyl : ys.length ≤ 6 := by rw [Hyl.out]; omega
        have hOx := hO.rs.ex
        go_wp2_with (at_builtin; refine app_list _ rfl (.tmp 19) (.tmp 20) _ rfl T 3 i0 _ 1 8 Try.underlying44 hi0 hz0 hz1 hz2 rfl (by omega) (.slice A1 ys.length c1) ys.length (ys.map (Value.int .i64)) rfl (hO.own.alloc _) _ 1 _ [.int .i64 (-1)] rfl rfl (NewsAt.block (cs := #[.int .i64 (-1)]) (at_new rfl)) (by simp [Value.oneCell']) (by omega) (by omega) (by have := hO.lo; simp only [World.size_alloc]; omega) ?_; intro A4 c4 w4 hown4 hg4 hat4; obtain ⟨k0, k1, kf1, g5, hO5⟩ := hO.app hg4 hown4 hat4)
        have hl2 : (ys ++ [(-1 : Int)]).length = ys.length + 1 := by simp
        have hTT : T ≤ (wr.alloc (.cells #[.int .i64 (-1)] 3)).heap.size := by have := hO.lo; simp only [World.size_alloc]; omega
        have hW4 : Below w.heap.size w w4 := below_app (bthen hW (show Below wr.heap.size wr (wr.alloc (.cells #[.int .i64 (-1)] 3)) by go_grown)) (hO.own.alloc (.cells #[.int .i64 (-1)] 3)) hg4 (Nat.le_of_lt hPx) hTT
        have hq := fun k (hk : (Value.slice A1 ys.length c1).ownBlock = some k) => (hO.own.lt k hk).1
        have hP4 : RP w4 w.heap.size b o (m : Int) A c bs := (hP.alloc (.cells #[.int .i64 (-1)] 3)).grown hg4 (fun e => by have := hq _ e.symm; omega) (fun h e => by have := hq _ e.symm; have := hlb h; omega)
        have hZ4 : ZB w w4 Y := (hZ.below (show Below wr.heap.size wr (wr.alloc (.cells #[.int .i64 (-1)] 3)) by go_grown)).grown hg4 (fun q e => by have := hq _ e; omega)
        have hZl := hO.lo
        go_roundg (m + 1 - (i + 1))
        case measure => go_light; omega
        case rel =>
          go_light
          refine ⟨i + 1, ys ++ [-1], A4, c4, g5, by omega, by omega, rfl, by go_num, ?_, by unfold Hid; rw [hl2, Hyl.out], hO5, hW4.setCell (p := ⟨Z, 1, none⟩) (by dsimp only; omega) _, hP4.set (by omega) (fun h => by have := hlb h; omega), hZ4.set (by omega)⟩
          unfold Hid
          rw [Hys.out, show i + 1 - 1 = (i - 1) + 1 by omega, List.replicate_succ', List.cons_append]
      · obtain rfl : i = m := by omega
        have e : q = ⟨0, ys⟩ := by rw [← Hq.out, Hys.out]
        subst e
        have o0 := hO.rs.c0
        have o1 := hO.rs.c1
        have z0 := hZ.z0
        have z1 := hZ.z1
        have zf0 := hZ.zf 0
        have zf1 := hZ.zf 1
        obtain ⟨r0, r1, ho, hb9⟩ := hZ.finI (n := 0) (A := A1) (c := c1) (xs := ys) hW (own_less hO.own (Nat.le_of_lt hPx)) (fun e => by have := (hO.own.lt _ e).1; omega)
        go_wp2_with fail
        refine bodyPost_ret (v := .tuple #[.agg #[.int .i64 0, .slice A1 ys.length c1], .bool true]) (by simp [results, Try.results140, go_sem, r0, r1]) rfl ?_
        obtain ⟨g9, hr9⟩ := own_IntsR ho
        first | exact ⟨_, _, g9, rfl, hr9, ho, hb9⟩ | exact ⟨_, _, rfl, ⟨g9, hr9⟩, ho, hb9⟩

/-- What the outer loop keeps. -/
structure RunS (w : World) (T Z Y b o : Nat) (m : Nat) (A : Option Addr) (c : Nat) (bs : List Bd) (s : St) (A1 : Option Addr) (c1 g1 : Nat) (wr : World) : Prop where
  os : OS T wr Z g1 s.now A1 c1 s.done
  bel : Below w.heap.size w wr
  pl : RP wr w.heap.size b o (m : Int) A c bs
  zb : ZB w wr Y
theorem RunS.below {w wr w' : World} {T Z Y b o m : Nat} {A : Option Addr} {c : Nat} {bs : List Bd} {s : St} {A1 : Option Addr} {c1 g1 : Nat} (h : RunS w T Z Y b o m A c bs s A1 c1 g1 wr) (hb : Below wr.heap.size wr w') : RunS w T Z Y b o m A c bs s A1 c1 g1 w' :=
  ⟨h.os.below hb, bthen h.bel hb, h.pl.below hb, h.zb.below hb⟩
theorem RunS.put {w wr : World} {T Z Y b o m : Nat} {A : Option Addr} {c : Nat} {bs : List Bd} {s q : St} {A1 A2 : Option Addr} {c1 g1 c2 : Nat} (h : RunS w T Z Y b o m A c bs s A1 c1 g1 wr) (own : OwnI T wr (.slice A2 q.done.length c2) q.done) (ne : (Value.slice A2 q.done.length c2).ownBlock ≠ some Z)
    (hlb : 0 < bs.length → b < w.heap.size) (hwT : w.heap.size < T) (hYT : Y < T) :
    ∃ g2, RunS w T Z Y b o m A c bs q A2 c2 g2 ((wr.setCell ⟨Z, 0, none⟩ (.int .i64 q.now)).setCell ⟨Z, 1, none⟩ (.slice A2 q.done.length c2)) := by
  have hlo := h.os.lo
  obtain ⟨g2, hO⟩ := h.os.renew (n2 := q.now) own ne
  exact ⟨g2, hO, (h.bel.setCell (p := ⟨Z, 0, none⟩) (by dsimp only; omega) _).setCell (p := ⟨Z, 1, none⟩) (by dsimp only; omega) _,
    (h.pl.set (by omega) (fun h0 => by have := hlb h0; omega)).set (by omega) (fun h0 => by have := hlb h0; omega), (h.zb.set (by omega)).set (by omega)⟩

set_option maxHeartbeats 8000000 in
set_option maxRecDepth 100000 in
theorem sRunOf_c (p : Pl) (picks : List Int) (q : St) (r : Bool) (hq : runOf p picks = (q, r)) (hx : ∀ (j : Nat) (y : Int), picks[j]? = some y → -9223372036854775808 ≤ y ∧ y ≤ 9223372036854775807) (A A' : Option Addr) (b o c b' o' c' B : Nat) (w : World) (hn : p.bs.length ≤ 2000000) (hn' : picks.length ≤ 2000000) (hB : B ≤ w.heap.size) (hR : BdsR w B b o A p.bs) (hR' : IntsR w B b' o' A' picks) :
    Calls Try.prog 68 #[.agg #[.int .i64 p.n, .slice A p.bs.length c], .slice A' picks.length c'] w fun e w' =>
      ∃ A1 c1 g1, e = .returned (.tuple #[.agg #[.int .i64 q.now, .slice A1 q.done.length c1], .bool r]) ∧ IntsR w' w'.heap.size g1 0 A1 q.done ∧ OwnI w.heap.size w' (.slice A1 q.done.length c1) q.done ∧ Below w.heap.size w w' := by
  obtain ⟨i0, hi0, hz0, hz1, hz2⟩ := info_parts infoI
  obtain ⟨n, bs⟩ := p
  dsimp only at *
  have hP := (rp_new (t := 25) (n := n) (c := c) (hR.more hB)).alloc (.cells #[.int .i64 0, .slice none 0 0] 70)
  have hZ : ZB w ((w.alloc (.cells #[.int .i64 n, .slice A bs.length c] 25)).alloc (.cells #[.int .i64 0, .slice none 0 0] 70)) (w.heap.size + 1) := by
    have h := zb_new (w0 := w) (W := w.alloc (.cells #[.int .i64 n, .slice A bs.length c] 25)) (t := 70) (by simp)
    simp only [World.size_alloc] at h
    exact h
  have hW : Below w.heap.size w ((w.alloc (.cells #[.int .i64 n, .slice A bs.length c] 25)).alloc (.cells #[.int .i64 0, .slice none 0 0] 70)) := by go_grown
  have hlb : 0 < bs.length → b < w.heap.size := fun h => Nat.lt_of_lt_of_le (hR.lt h) hB
  clear hR
  cases hf : fits ⟨n, bs⟩
  · have e : runOf ⟨n, bs⟩ picks = (⟨0, []⟩, false) := by unfold runOf; rw [hf]; rfl
    have e2 : stateNew ⟨n, bs⟩ = (⟨0, []⟩, false) := by unfold stateNew; rw [hf]; rfl
    rw [e] at hq
    injection hq with h1 h2
    subst h1 h2
    have H2 := hide e2
    clear hf e e2
    go_enter Try.func68, Try.ntmps68
    go_upto_region 1 with fail
    generalize (w.alloc (.cells #[.int .i64 n, .slice A bs.length c] 25)).alloc (.cells #[.int .i64 0, .slice none 0 0] 70) = W at hP hZ hW ⊢
    have p0 := hP.c0
    have p1 := hP.c1
    generalize w.heap.size + 1 = Y at hZ ⊢
    go_wp2_with (go_at_call 140; go_fit (sNew_c ⟨n, bs⟩ ⟨0, []⟩ false H2.out A b o c _ _ hn (Nat.le_refl _) hP.rd); rintro e w2 ⟨A1, c1, g1, rfl, _, _, hb2⟩; have hb3 := bthen hb2 (show Below w2.heap.size w2 (w2.alloc (.cells #[.int .i64 0, .slice A1 0 c1] 70)) by go_grown); replace hW := bthen hW hb3; replace hZ := hZ.below hb3; have z0 := hZ.z0; have z1 := hZ.z1; have zf0 := hZ.zf 0; have zf1 := hZ.zf 1)
    obtain ⟨r0, r1, ho, hb7⟩ := hZ.finI (n := 0) (A := none) (c := 0) (xs := []) hW (World.ownsRow_nil _ _ _ _) (by simp [Value.ownBlock])
    simp only [List.length_nil] at r0 r1 ho hb7
    refine bodyPost_ret (v := .tuple #[.agg #[.int .i64 0, .slice none 0 0], .bool false]) (by simp [results, Try.results68, go_sem, r0, r1]) rfl ?_
    exact ⟨none, 0, 0, rfl, IntsR.nil _ _ _, ho, hb7⟩
  · have hnn := nn_ok (planOk_of_fits hf)
    have e : runOf ⟨n, bs⟩ picks = (runTo ⟨n, bs⟩ picks (nn ⟨n, bs⟩), true) := by unfold runOf; rw [hf]; rfl
    rw [e] at hq
    obtain ⟨m, hm⟩ : ∃ m, nn ⟨n, bs⟩ = m := ⟨_, rfl⟩
    have Hall := hide (fun k => stateOk_iff.1 (runTo_ok hf picks k))
    have Hm : Hid (nn ⟨n, bs⟩ = m) := hm
    rw [hm] at hnn hq
    obtain ⟨hm6, hm1, hmn⟩ := hnn
    dsimp only at hmn
    obtain rfl : n = (m : Int) := hmn.symm
    injection hq with h1 h2
    subst h2
    have Hq := hide h1
    obtain ⟨s1, hs1⟩ : ∃ s1, (stateNew ⟨(m : Int), bs⟩).1 = s1 := ⟨_, rfl⟩
    have H2 : Hid (stateNew ⟨(m : Int), bs⟩ = (s1, true)) := by unfold Hid; rw [← hs1]; unfold stateNew; rw [hf]; rfl
    have Hs1 : Hid (runTo ⟨(m : Int), bs⟩ picks 0 = s1) := hs1
    clear h1 e hm hmn hs1 hf
    go_enter Try.func68, Try.ntmps68
    go_upto_region 1 with fail
    generalize (w.alloc (.cells #[.int .i64 (m : Int), .slice A bs.length c] 25)).alloc (.cells #[.int .i64 0, .slice none 0 0] 70) = W at hP hZ hW ⊢
    have p0 := hP.c0
    have p1 := hP.c1
    have hYw : w.heap.size < w.heap.size + 1 := Nat.lt_succ_self _
    generalize w.heap.size + 1 = Y at hZ hYw ⊢
    have hYT := hZ.ex
    go_upto_region 2 with (go_at_call 140; go_fit (sNew_c ⟨(m : Int), bs⟩ s1 true H2.out A b o c _ _ hn (Nat.le_refl _) hP.rd); rintro e w2 ⟨A1, c1, g1, rfl, hr2, hown2, hb2⟩)
    obtain ⟨hO, hbO⟩ := os_new (t := 70) (now := s1.now) hb2.size hr2 hown2
    have hb3 := bthen hb2 hbO
    replace hW := bthen hW hb3
    replace hZ := hZ.below hb3
    replace hP := hP.below hb3
    clear hr2 hown2 hb2 hbO hb3 p0 p1
    generalize w2.alloc (.cells #[.int .i64 s1.now, .slice A1 s1.done.length c1] 70) = W3 at hO hW hZ hP ⊢
    generalize w2.heap.size = Z at hO ⊢
    obtain ⟨T, hT⟩ : ∃ T, W.heap.size = T := ⟨_, rfl⟩
    rw [hT] at hO hYT
    clear hT
    have hwT : w.heap.size < T := by omega
    go_wp2_with fail
    go_loopg [8] m (fun gh s8 wr => ∃ (k : Nat) (s : St) (A1 : Option Addr) (c1 g1 : Nat), k ≤ m ∧ gh = m - k ∧ s8 = .int .i64 k ∧ Hid (runTo ⟨(m : Int), bs⟩ picks k = s) ∧ RunS w T Z Y b o m A c bs s A1 c1 g1 wr)
    case atStart => exact ⟨0, s1, A1, c1, _, Nat.zero_le _, rfl, rfl, Hs1, hO, hW, hP, hZ⟩
    case round =>
      clear hO hW hZ hP
      obtain ⟨k, s, A1, c1, g1, hk, rfl, rfl, Hk, hR1⟩ := hrel
      obtain ⟨w1, hw1⟩ : ∃ x, x = wr := ⟨_, rfl⟩
      subst hw1
      have p0 := hR1.pl.c0
      have p1 := hR1.pl.c1
      by_cases hlt : k < m
      · have hz : (k : Int) < (m : Int) := by omega
        have hsl : Hid (s.done.length ≤ 2000000) := by unfold Hid; have h := (Hall.out k).len; rw [Hk.out, Hm.out] at h; omega
        have hp0x := hR1.pl.ex
        have hZx := hR1.os.rs.ex
        go_wp2_with fail
        have hE : OwnI w1.heap.size (w1.alloc (.cells #[] 3)) (.slice (some ⟨w1.heap.size, 0, none⟩) 0 0) [] := own_empty (at_new rfl) (Nat.le_refl _)
        clear p0 p1
        go_loopg [9, 10] m (fun gh s9 s10 wu => ∃ (i : Nat) (rs : List Int) (Ar : Option Addr) (cr : Nat), i ≤ m ∧ gh = m - i ∧ s10 = .int .i64 i ∧ s9 = .slice Ar rs.length cr ∧ Hid (readyTo ⟨(m : Int), bs⟩ s i = rs) ∧ OwnI w1.heap.size wu (.slice Ar rs.length cr) rs ∧ Below w1.heap.size w1 wu)
        case atStart => exact ⟨0, [], _, 0, Nat.zero_le _, rfl, rfl, rfl, rfl, hE, by go_grown⟩
        case round =>
          clear hE
          obtain ⟨i, rs, Ar, cr, hi, rfl, rfl, rfl, Hrs, hown, hWr⟩ := hrel
          have hD := hR1.below hWr
          have p0 := hD.pl.c0
          have p1 := hD.pl.c1
          have s0 := hD.os.rs.c0
          have s1 := hD.os.rs.c1
          have hrl : rs.length ≤ 6 := by rw [← Hrs.out]; have := readyTo_le ⟨(m : Int), bs⟩ s i; omega
          by_cases hlt2 : i < m
          · have hzi : (i : Int) < (m : Int) := by omega
            cases hrd : isReady ⟨(m : Int), bs⟩ s (i : Int)
            · have Hst : Hid (readyTo ⟨(m : Int), bs⟩ s (i + 1) = rs) := by unfold Hid; simp only [readyTo]; rw [hrd, ← Hrs.out]; rfl
              have Hrd := hide hrd
              clear hrd
              go_wp2_with (go_at_call 133; go_fit (sReadyOk_c ⟨(m : Int), bs⟩ s (i : Int) A A1 b o c g1 0 c1 _ _ hn hsl.out (Nat.le_refl _) hD.pl.rd hD.os.rs.rd); rintro e w5 ⟨rfl, hb5⟩; rw [Hrd.out]; have hW5 : Below w1.heap.size w1 w5 := bthen hWr hb5; have hown5 := own_below hown hb5)
              go_roundg (m - (i + 1))
              case measure => go_light; omega
              case rel => go_light; exact ⟨i + 1, rs, Ar, cr, by omega, rfl, by go_num, rfl, Hst, hown5, hW5⟩
            · have Hst : Hid (readyTo ⟨(m : Int), bs⟩ s (i + 1) = rs ++ [(i : Int)]) := by unfold Hid; simp only [readyTo]; rw [hrd, ← Hrs.out]; rfl
              have Hrd := hide hrd
              clear hrd
              go_wp2_with (first
                | (go_at_call 133; go_fit (sReadyOk_c ⟨(m : Int), bs⟩ s (i : Int) A A1 b o c g1 0 c1 _ _ hn hsl.out (Nat.le_refl _) hD.pl.rd hD.os.rs.rd); rintro e w5 ⟨rfl, hb5⟩; rw [Hrd.out]; have hW5 : Below w1.heap.size w1 w5 := bthen hWr hb5; have hown5 := own_below hown hb5)
                | (at_builtin; refine app_list _ rfl (.tmp 44) (.tmp 46) _ rfl w1.heap.size 3 i0 _ 1 8 Try.underlying44 hi0 hz0 hz1 hz2 rfl (by omega) (.slice Ar rs.length cr) rs.length (rs.map (Value.int .i64)) rfl (hown5.alloc _) _ 1 _ [.int .i64 (i : Int)] rfl rfl (NewsAt.block (cs := #[.int .i64 (i : Int)]) (at_new rfl)) (by simp [Value.oneCell']) (by omega) (by omega) (by have h := hW5.size; simp only [World.size_alloc]; omega) ?_; intro A4 c4 w4 hown4 hg4 hat4))
              have hW4 : Below w1.heap.size w1 w4 := below_app (bthen hW5 (show Below w5.heap.size w5 (w5.alloc (.cells #[.int .i64 (i : Int)] 3)) by go_grown)) (hown5.alloc (.cells #[.int .i64 (i : Int)] 3)) hg4 (Nat.le_refl _) (by have h := hW5.size; simp only [World.size_alloc]; omega)
              go_roundg (m - (i + 1))
              case measure => go_light; omega
              case rel =>
                go_light
                have hl2 : (rs ++ [(i : Int)]).length = rs.length + 1 := by simp
                exact ⟨i + 1, rs ++ [(i : Int)], A4, c4, by omega, rfl, by go_num, by rw [hl2], Hst, by unfold OwnI; rw [hl2, List.map_append]; exact hown4, hW4⟩
          · obtain rfl : i = m := by omega
            have hzi : ¬ (i : Int) < (i : Int) := by omega
            obtain ⟨w3, hw3⟩ : ∃ x, x = wr := ⟨_, rfl⟩
            subst hw3
            obtain ⟨L, hL⟩ : ∃ L, rs.length = L := ⟨_, rfl⟩
            have HL := hide hL
            rw [hL] at hown hrl
            rw [hL]
            clear hL
            have hall : Hid (∀ pk : Int, stepR ⟨(i : Int), bs⟩ s pk = tryFrom ⟨(i : Int), bs⟩ s rs pk L) := by
              intro pk; unfold stepR; rw [Hm.out, Hrs.out, HL.out]
            clear p0 p1 s0 s1
            have p0 := hD.pl.c0
            have p1 := hD.pl.c1
            have s0 := hD.os.rs.c0
            have s1 := hD.os.rs.c1
            by_cases hkl : k < picks.length
            · have hklz : (k : Int) < (picks.length : Int) := by omega
              have hA := hR'.addr (by omega)
              subst hA
              have d0 := (hR'.below (hD.bel.mono hB)).cell k hkl
              have hv := List.getElem?_eq_getElem hkl
              have hpk := pick_at hv
              have hxv := hx k _ hv
              rw [ints_at hv] at d0
              generalize picks[k] = v at d0 hpk hxv
              obtain ⟨hv1, hv2⟩ := hxv
              clear hv
              by_cases hv0 : 0 < v
              · obtain ⟨q1, hq1⟩ : ∃ q1, stepR ⟨(i : Int), bs⟩ s v = q1 := ⟨_, rfl⟩
                have Hst : Hid (runTo ⟨(i : Int), bs⟩ picks (k + 1) = q1) := by
                  show stepR _ (runTo _ picks k) (pickOf picks k) = q1
                  rw [Hk.out, hpk, ← hq1, show max 0 v = v by omega]
                have Hq1 : Hid (tryFrom ⟨(i : Int), bs⟩ s rs v L = q1) := by rw [← hq1]; exact (hall.out v).symm
                clear hq1 hpk
                go_wp2_with fail
                have HP := Hq1
                go_loopg [12] (L + 1) (fun gh s12 wr => ∃ (mm j : Nat), mm + j = L ∧ gh = mm + 1 ∧ s12 = .int .i64 j ∧ Hid (tryFrom ⟨(i : Int), bs⟩ s rs v mm = q1) ∧ OwnI w1.heap.size wr (.slice Ar L cr) rs ∧ Below w1.heap.size w1 wr)
                case atStart => exact ⟨L, 0, rfl, rfl, rfl, HP.out, hown, hWr⟩
                case round =>
                  clear hown hWr hD p0 p1 s0 s1
                  obtain ⟨mm, j, hmj, rfl, rfl, Ht, hown, hWr⟩ := hrel
                  have hD := hR1.below hWr
                  have p0 := hD.pl.c0
                  have p1 := hD.pl.c1
                  have s0 := hD.os.rs.c0
                  have s1 := hD.os.rs.c1
                  cases mm with
                  | zero =>
                    have hz : ¬ (j : Int) < (L : Int) := by omega
                    have e : s = q1 := Ht.out
                    clear hmj
                    go_wp2_with fail
                    go_roundg (i - (k + 1))
                    case measure => go_light; omega
                    case rel => go_light; exact ⟨k + 1, s, A1, c1, g1, by omega, rfl, by go_num, by unfold Hid; rw [Hst.out, e], hD⟩
                  | succ mm =>
                    have hz : (j : Int) < (L : Int) := by omega
                    have hL0 : 0 < L := by omega
                    have hLz : (0 : Int) < (L : Int) := by omega
                    have hj : rs.length - (mm + 1) = j := by rw [HL.out]; omega
                    have hp0 : (0 : Int) ≤ v := by omega
                    have hix := ixOf_lt (pick := v) (j := j) hL0
                    have hixe := ixOf_eq (j := j) hL0 hp0
                    obtain ⟨ix, hixv⟩ : ∃ ix, ixOf v L j = ix := ⟨_, rfl⟩
                    rw [hixv] at hix hixe
                    obtain ⟨t1, ht1⟩ : ∃ t1, Int.tmod v (L : Int) = t1 := ⟨_, rfl⟩
                    have ht1a : 0 ≤ t1 := by rw [← ht1]; exact Int.tmod_nonneg _ hp0
                    have ht1b : t1 < (L : Int) := by rw [← ht1]; exact Int.tmod_lt_of_pos _ hLz
                    rw [ht1] at hixe
                    have hixz : (ix : Int) < (L : Int) := by omega
                    obtain ⟨g, hrr⟩ := own_IntsR (c := cr) (by rw [HL.out]; exact hown : OwnI w1.heap.size wr (.slice Ar rs.length cr) rs)
                    have hAr := hrr.addr (by rw [HL.out]; omega)
                    subst hAr
                    have d0 := hrr.cell ix (by rw [HL.out]; exact hix)
                    rw [Nat.zero_add] at d0
                    have hgl : g < wr.heap.size := hrr.lt (by rw [HL.out]; omega)
                    obtain ⟨pt, hpt⟩ : ∃ pt, rs.getD ix 0 = pt := ⟨_, rfl⟩
                    rw [hpt] at d0
                    obtain ⟨lo, hlo⟩ : ∃ x, (window ⟨(i : Int), bs⟩ s pt).1 = x := ⟨_, rfl⟩
                    obtain ⟨q2, r2, hd⟩ : ∃ q2 r2, doAt ⟨(i : Int), bs⟩ s pt lo = (q2, r2) := ⟨_, _, rfl⟩
                    have Hnx : Hid ((if r2 then q2 else tryFrom ⟨(i : Int), bs⟩ s rs v mm) = q1) := by
                      unfold Hid
                      rw [← Ht.out]
                      simp only [tryFrom]
                      rw [hj, HL.out, hixv, hpt, hlo, hd]
                    obtain ⟨hi, hhi⟩ : ∃ x, (window ⟨(i : Int), bs⟩ s pt).2.1 = x := ⟨_, rfl⟩
                    obtain ⟨ok, hok⟩ : ∃ x, (window ⟨(i : Int), bs⟩ s pt).2.2 = x := ⟨_, rfl⟩
                    have Hlo := hide hlo
                    have Hhi := hide hhi
                    have Hok := hide hok
                    have Hd := hide hd
                    clear hlo hhi hok hd hpt hixv hj hrr
                    have hL6 : (L : Int) ≤ 6 := by omega
                    cases r2
                    · go_wp2_with (first
                        | (go_at_call 127; go_fit (sWindowOf_c ⟨(i : Int), bs⟩ s pt A A1 b o c g1 0 c1 _ _ hn hsl.out (Nat.le_refl _) hD.pl.rd hD.os.rs.rd); rintro e w5 ⟨rfl, hb5⟩; rw [Hlo.out, Hhi.out, Hok.out]; have hD5 := hD.below hb5; clear s0 s1 p0 p1; have s0 := hD5.os.rs.c0; have s1 := hD5.os.rs.c1; have p0 := hD5.pl.c0; have p1 := hD5.pl.c1)
                        | (go_at_call 62; go_fit (sDoAt_c ⟨(i : Int), bs⟩ s pt lo q2 false Hd.out A A1 b o c g1 0 c1 _ _ hn hsl.out (Nat.le_refl _) hD5.pl.rd hD5.os.rs.rd); rintro e w6 ⟨A6, c6, g6, rfl, hr6, hown6, hb6⟩))
                      go_roundg (mm + 1)
                      case measure => go_light; omega
                      case rel =>
                        go_light
                        have hb7 : Below wr.heap.size wr (w6.alloc (.cells #[.int .i64 q2.now, .slice A6 q2.done.length c6] 70)) := bthen (bthen hb5 hb6) (by go_grown)
                        exact ⟨mm, j + 1, by omega, rfl, by go_num, Hnx.out, own_below hown hb7, bthen hWr hb7⟩
                    · have e : q2 = q1 := Hnx.out
                      subst e
                      go_wp2_with (first
                        | (go_at_call 127; go_fit (sWindowOf_c ⟨(i : Int), bs⟩ s pt A A1 b o c g1 0 c1 _ _ hn hsl.out (Nat.le_refl _) hD.pl.rd hD.os.rs.rd); rintro e w5 ⟨rfl, hb5⟩; rw [Hlo.out, Hhi.out, Hok.out]; have hD5 := hD.below hb5; clear s0 s1 p0 p1; have s0 := hD5.os.rs.c0; have s1 := hD5.os.rs.c1; have p0 := hD5.pl.c0; have p1 := hD5.pl.c1)
                        | (go_at_call 62; go_fit (sDoAt_c ⟨(i : Int), bs⟩ s pt lo q2 true Hd.out A A1 b o c g1 0 c1 _ _ hn hsl.out (Nat.le_refl _) hD5.pl.rd hD5.os.rs.rd); rintro e w6 ⟨A6, c6, g6, rfl, hr6, hown6, hb6⟩; have hD7 := (hD5.below hb6).below (show Below w6.heap.size w6 (w6.alloc (.cells #[.int .i64 q2.now, .slice A6 q2.done.length c6] 70)) by go_grown); have u0 := hD7.os.rs.c0; have u1 := hD7.os.rs.c1; have uf0 := hD7.os.fz 0; have uf1 := hD7.os.fz 1; have hD6 := hD5.below hb6; have hZ6x := hD6.os.rs.ex; have x0 := hD6.os.rs.c0; have x1 := hD6.os.rs.c1; have xf0 := hD6.os.fz 0; have xf1 := hD6.os.fz 1))
                      have hZl := hD5.os.lo
                      have hZx := hD5.os.rs.ex
                      obtain ⟨g7, hD8⟩ := hD6.put (q := q2) (A2 := A6) (c2 := c6) (own_less hown6 (by omega)) (fun e => by have h1 := (hown6.lt _ e).1; omega) hlb hwT hYT
                      have hD9 := hD8.below (show Below _ _ (((w6.setCell ⟨Z, 0, none⟩ (.int .i64 q2.now)).setCell ⟨Z, 1, none⟩ (.slice A6 q2.done.length c6)).alloc (.cells #[.int .i64 q2.now, .slice A6 q2.done.length c6] 70)) by go_grown)
                      go_roundg (i - (k + 1))
                      case measure => go_light; omega
                      case rel => go_light; exact ⟨k + 1, q2, A6, c6, g7, by omega, rfl, by go_num, Hst.out, hD9⟩
              · obtain ⟨q1, hq1⟩ : ∃ q1, stepR ⟨(i : Int), bs⟩ s 0 = q1 := ⟨_, rfl⟩
                have Hst : Hid (runTo ⟨(i : Int), bs⟩ picks (k + 1) = q1) := by
                  show stepR _ (runTo _ picks k) (pickOf picks k) = q1
                  rw [Hk.out, hpk, ← hq1, show max 0 v = 0 by omega]
                have Hq1 : Hid (tryFrom ⟨(i : Int), bs⟩ s rs 0 L = q1) := by rw [← hq1]; exact (hall.out 0).symm
                clear hq1 hpk
                go_wp2_with fail
                have HP := Hq1
                go_loopg [12] (L + 1) (fun gh s12 wr => ∃ (mm j : Nat), mm + j = L ∧ gh = mm + 1 ∧ s12 = .int .i64 j ∧ Hid (tryFrom ⟨(i : Int), bs⟩ s rs 0 mm = q1) ∧ OwnI w1.heap.size wr (.slice Ar L cr) rs ∧ Below w1.heap.size w1 wr)
                case atStart => exact ⟨L, 0, rfl, rfl, rfl, HP.out, hown, hWr⟩
                case round =>
                  clear hown hWr hD p0 p1 s0 s1
                  obtain ⟨mm, j, hmj, rfl, rfl, Ht, hown, hWr⟩ := hrel
                  have hD := hR1.below hWr
                  have p0 := hD.pl.c0
                  have p1 := hD.pl.c1
                  have s0 := hD.os.rs.c0
                  have s1 := hD.os.rs.c1
                  cases mm with
                  | zero =>
                    have hz : ¬ (j : Int) < (L : Int) := by omega
                    have e : s = q1 := Ht.out
                    clear hmj
                    go_wp2_with fail
                    go_roundg (i - (k + 1))
                    case measure => go_light; omega
                    case rel => go_light; exact ⟨k + 1, s, A1, c1, g1, by omega, rfl, by go_num, by unfold Hid; rw [Hst.out, e], hD⟩
                  | succ mm =>
                    have hz : (j : Int) < (L : Int) := by omega
                    have hL0 : 0 < L := by omega
                    have hLz : (0 : Int) < (L : Int) := by omega
                    have hj : rs.length - (mm + 1) = j := by rw [HL.out]; omega
                    have hp0 : (0 : Int) ≤ 0 := by omega
                    have hix := ixOf_lt (pick := 0) (j := j) hL0
                    have hixe := ixOf_eq (j := j) hL0 hp0
                    obtain ⟨ix, hixv⟩ : ∃ ix, ixOf 0 L j = ix := ⟨_, rfl⟩
                    rw [hixv] at hix hixe
                    obtain ⟨t1, ht1⟩ : ∃ t1, Int.tmod 0 (L : Int) = t1 := ⟨_, rfl⟩
                    have ht1a : 0 ≤ t1 := by rw [← ht1]; exact Int.tmod_nonneg _ hp0
                    have ht1b : t1 < (L : Int) := by rw [← ht1]; exact Int.tmod_lt_of_pos _ hLz
                    rw [ht1] at hixe
                    have hixz : (ix : Int) < (L : Int) := by omega
                    obtain ⟨g, hrr⟩ := own_IntsR (c := cr) (by rw [HL.out]; exact hown : OwnI w1.heap.size wr (.slice Ar rs.length cr) rs)
                    have hAr := hrr.addr (by rw [HL.out]; omega)
                    subst hAr
                    have d0 := hrr.cell ix (by rw [HL.out]; exact hix)
                    rw [Nat.zero_add] at d0
                    have hgl : g < wr.heap.size := hrr.lt (by rw [HL.out]; omega)
                    obtain ⟨pt, hpt⟩ : ∃ pt, rs.getD ix 0 = pt := ⟨_, rfl⟩
                    rw [hpt] at d0
                    obtain ⟨lo, hlo⟩ : ∃ x, (window ⟨(i : Int), bs⟩ s pt).1 = x := ⟨_, rfl⟩
                    obtain ⟨q2, r2, hd⟩ : ∃ q2 r2, doAt ⟨(i : Int), bs⟩ s pt lo = (q2, r2) := ⟨_, _, rfl⟩
                    have Hnx : Hid ((if r2 then q2 else tryFrom ⟨(i : Int), bs⟩ s rs 0 mm) = q1) := by
                      unfold Hid
                      rw [← Ht.out]
                      simp only [tryFrom]
                      rw [hj, HL.out, hixv, hpt, hlo, hd]
                    obtain ⟨hi, hhi⟩ : ∃ x, (window ⟨(i : Int), bs⟩ s pt).2.1 = x := ⟨_, rfl⟩
                    obtain ⟨ok, hok⟩ : ∃ x, (window ⟨(i : Int), bs⟩ s pt).2.2 = x := ⟨_, rfl⟩
                    have Hlo := hide hlo
                    have Hhi := hide hhi
                    have Hok := hide hok
                    have Hd := hide hd
                    clear hlo hhi hok hd hpt hixv hj hrr
                    have hL6 : (L : Int) ≤ 6 := by omega
                    cases r2
                    · go_wp2_with (first
                        | (go_at_call 127; go_fit (sWindowOf_c ⟨(i : Int), bs⟩ s pt A A1 b o c g1 0 c1 _ _ hn hsl.out (Nat.le_refl _) hD.pl.rd hD.os.rs.rd); rintro e w5 ⟨rfl, hb5⟩; rw [Hlo.out, Hhi.out, Hok.out]; have hD5 := hD.below hb5; clear s0 s1 p0 p1; have s0 := hD5.os.rs.c0; have s1 := hD5.os.rs.c1; have p0 := hD5.pl.c0; have p1 := hD5.pl.c1)
                        | (go_at_call 62; go_fit (sDoAt_c ⟨(i : Int), bs⟩ s pt lo q2 false Hd.out A A1 b o c g1 0 c1 _ _ hn hsl.out (Nat.le_refl _) hD5.pl.rd hD5.os.rs.rd); rintro e w6 ⟨A6, c6, g6, rfl, hr6, hown6, hb6⟩))
                      go_roundg (mm + 1)
                      case measure => go_light; omega
                      case rel =>
                        go_light
                        have hb7 : Below wr.heap.size wr (w6.alloc (.cells #[.int .i64 q2.now, .slice A6 q2.done.length c6] 70)) := bthen (bthen hb5 hb6) (by go_grown)
                        exact ⟨mm, j + 1, by omega, rfl, by go_num, Hnx.out, own_below hown hb7, bthen hWr hb7⟩
                    · have e : q2 = q1 := Hnx.out
                      subst e
                      go_wp2_with (first
                        | (go_at_call 127; go_fit (sWindowOf_c ⟨(i : Int), bs⟩ s pt A A1 b o c g1 0 c1 _ _ hn hsl.out (Nat.le_refl _) hD.pl.rd hD.os.rs.rd); rintro e w5 ⟨rfl, hb5⟩; rw [Hlo.out, Hhi.out, Hok.out]; have hD5 := hD.below hb5; clear s0 s1 p0 p1; have s0 := hD5.os.rs.c0; have s1 := hD5.os.rs.c1; have p0 := hD5.pl.c0; have p1 := hD5.pl.c1)
                        | (go_at_call 62; go_fit (sDoAt_c ⟨(i : Int), bs⟩ s pt lo q2 true Hd.out A A1 b o c g1 0 c1 _ _ hn hsl.out (Nat.le_refl _) hD5.pl.rd hD5.os.rs.rd); rintro e w6 ⟨A6, c6, g6, rfl, hr6, hown6, hb6⟩; have hD7 := (hD5.below hb6).below (show Below w6.heap.size w6 (w6.alloc (.cells #[.int .i64 q2.now, .slice A6 q2.done.length c6] 70)) by go_grown); have u0 := hD7.os.rs.c0; have u1 := hD7.os.rs.c1; have uf0 := hD7.os.fz 0; have uf1 := hD7.os.fz 1; have hD6 := hD5.below hb6; have hZ6x := hD6.os.rs.ex; have x0 := hD6.os.rs.c0; have x1 := hD6.os.rs.c1; have xf0 := hD6.os.fz 0; have xf1 := hD6.os.fz 1))
                      have hZl := hD5.os.lo
                      have hZx := hD5.os.rs.ex
                      obtain ⟨g7, hD8⟩ := hD6.put (q := q2) (A2 := A6) (c2 := c6) (own_less hown6 (by omega)) (fun e => by have h1 := (hown6.lt _ e).1; omega) hlb hwT hYT
                      have hD9 := hD8.below (show Below _ _ (((w6.setCell ⟨Z, 0, none⟩ (.int .i64 q2.now)).setCell ⟨Z, 1, none⟩ (.slice A6 q2.done.length c6)).alloc (.cells #[.int .i64 q2.now, .slice A6 q2.done.length c6] 70)) by go_grown)
                      go_roundg (i - (k + 1))
                      case measure => go_light; omega
                      case rel => go_light; exact ⟨k + 1, q2, A6, c6, g7, by omega, rfl, by go_num, Hst.out, hD9⟩
            · have hklz : ¬ (k : Int) < (picks.length : Int) := by omega
              have hpk := pick_no (picks := picks) (k := k) (by omega)
              obtain ⟨q1, hq1⟩ : ∃ q1, stepR ⟨(i : Int), bs⟩ s 0 = q1 := ⟨_, rfl⟩
              have Hst : Hid (runTo ⟨(i : Int), bs⟩ picks (k + 1) = q1) := by
                show stepR _ (runTo _ picks k) (pickOf picks k) = q1
                rw [Hk.out, hpk, ← hq1]
              have Hq1 : Hid (tryFrom ⟨(i : Int), bs⟩ s rs 0 L = q1) := by rw [← hq1]; exact (hall.out 0).symm
              clear hq1 hpk
              go_wp2_with fail
              have HP := Hq1
              go_loopg [12] (L + 1) (fun gh s12 wr => ∃ (mm j : Nat), mm + j = L ∧ gh = mm + 1 ∧ s12 = .int .i64 j ∧ Hid (tryFrom ⟨(i : Int), bs⟩ s rs 0 mm = q1) ∧ OwnI w1.heap.size wr (.slice Ar L cr) rs ∧ Below w1.heap.size w1 wr)
              case atStart => exact ⟨L, 0, rfl, rfl, rfl, HP.out, hown, hWr⟩
              case round =>
                clear hown hWr hD p0 p1 s0 s1
                obtain ⟨mm, j, hmj, rfl, rfl, Ht, hown, hWr⟩ := hrel
                have hD := hR1.below hWr
                have p0 := hD.pl.c0
                have p1 := hD.pl.c1
                have s0 := hD.os.rs.c0
                have s1 := hD.os.rs.c1
                cases mm with
                | zero =>
                  have hz : ¬ (j : Int) < (L : Int) := by omega
                  have e : s = q1 := Ht.out
                  clear hmj
                  go_wp2_with fail
                  go_roundg (i - (k + 1))
                  case measure => go_light; omega
                  case rel => go_light; exact ⟨k + 1, s, A1, c1, g1, by omega, rfl, by go_num, by unfold Hid; rw [Hst.out, e], hD⟩
                | succ mm =>
                  have hz : (j : Int) < (L : Int) := by omega
                  have hL0 : 0 < L := by omega
                  have hLz : (0 : Int) < (L : Int) := by omega
                  have hj : rs.length - (mm + 1) = j := by rw [HL.out]; omega
                  have hp0 : (0 : Int) ≤ 0 := by omega
                  have hix := ixOf_lt (pick := 0) (j := j) hL0
                  have hixe := ixOf_eq (j := j) hL0 hp0
                  obtain ⟨ix, hixv⟩ : ∃ ix, ixOf 0 L j = ix := ⟨_, rfl⟩
                  rw [hixv] at hix hixe
                  obtain ⟨t1, ht1⟩ : ∃ t1, Int.tmod 0 (L : Int) = t1 := ⟨_, rfl⟩
                  have ht1a : 0 ≤ t1 := by rw [← ht1]; exact Int.tmod_nonneg _ hp0
                  have ht1b : t1 < (L : Int) := by rw [← ht1]; exact Int.tmod_lt_of_pos _ hLz
                  rw [ht1] at hixe
                  have hixz : (ix : Int) < (L : Int) := by omega
                  obtain ⟨g, hrr⟩ := own_IntsR (c := cr) (by rw [HL.out]; exact hown : OwnI w1.heap.size wr (.slice Ar rs.length cr) rs)
                  have hAr := hrr.addr (by rw [HL.out]; omega)
                  subst hAr
                  have d0 := hrr.cell ix (by rw [HL.out]; exact hix)
                  rw [Nat.zero_add] at d0
                  have hgl : g < wr.heap.size := hrr.lt (by rw [HL.out]; omega)
                  obtain ⟨pt, hpt⟩ : ∃ pt, rs.getD ix 0 = pt := ⟨_, rfl⟩
                  rw [hpt] at d0
                  obtain ⟨lo, hlo⟩ : ∃ x, (window ⟨(i : Int), bs⟩ s pt).1 = x := ⟨_, rfl⟩
                  obtain ⟨q2, r2, hd⟩ : ∃ q2 r2, doAt ⟨(i : Int), bs⟩ s pt lo = (q2, r2) := ⟨_, _, rfl⟩
                  have Hnx : Hid ((if r2 then q2 else tryFrom ⟨(i : Int), bs⟩ s rs 0 mm) = q1) := by
                    unfold Hid
                    rw [← Ht.out]
                    simp only [tryFrom]
                    rw [hj, HL.out, hixv, hpt, hlo, hd]
                  obtain ⟨hi, hhi⟩ : ∃ x, (window ⟨(i : Int), bs⟩ s pt).2.1 = x := ⟨_, rfl⟩
                  obtain ⟨ok, hok⟩ : ∃ x, (window ⟨(i : Int), bs⟩ s pt).2.2 = x := ⟨_, rfl⟩
                  have Hlo := hide hlo
                  have Hhi := hide hhi
                  have Hok := hide hok
                  have Hd := hide hd
                  clear hlo hhi hok hd hpt hixv hj hrr
                  have hL6 : (L : Int) ≤ 6 := by omega
                  cases r2
                  · go_wp2_with (first
                      | (go_at_call 127; go_fit (sWindowOf_c ⟨(i : Int), bs⟩ s pt A A1 b o c g1 0 c1 _ _ hn hsl.out (Nat.le_refl _) hD.pl.rd hD.os.rs.rd); rintro e w5 ⟨rfl, hb5⟩; rw [Hlo.out, Hhi.out, Hok.out]; have hD5 := hD.below hb5; clear s0 s1 p0 p1; have s0 := hD5.os.rs.c0; have s1 := hD5.os.rs.c1; have p0 := hD5.pl.c0; have p1 := hD5.pl.c1)
                      | (go_at_call 62; go_fit (sDoAt_c ⟨(i : Int), bs⟩ s pt lo q2 false Hd.out A A1 b o c g1 0 c1 _ _ hn hsl.out (Nat.le_refl _) hD5.pl.rd hD5.os.rs.rd); rintro e w6 ⟨A6, c6, g6, rfl, hr6, hown6, hb6⟩))
                    go_roundg (mm + 1)
                    case measure => go_light; omega
                    case rel =>
                      go_light
                      have hb7 : Below wr.heap.size wr (w6.alloc (.cells #[.int .i64 q2.now, .slice A6 q2.done.length c6] 70)) := bthen (bthen hb5 hb6) (by go_grown)
                      exact ⟨mm, j + 1, by omega, rfl, by go_num, Hnx.out, own_below hown hb7, bthen hWr hb7⟩
                  · have e : q2 = q1 := Hnx.out
                    subst e
                    go_wp2_with (first
                      | (go_at_call 127; go_fit (sWindowOf_c ⟨(i : Int), bs⟩ s pt A A1 b o c g1 0 c1 _ _ hn hsl.out (Nat.le_refl _) hD.pl.rd hD.os.rs.rd); rintro e w5 ⟨rfl, hb5⟩; rw [Hlo.out, Hhi.out, Hok.out]; have hD5 := hD.below hb5; clear s0 s1 p0 p1; have s0 := hD5.os.rs.c0; have s1 := hD5.os.rs.c1; have p0 := hD5.pl.c0; have p1 := hD5.pl.c1)
                      | (go_at_call 62; go_fit (sDoAt_c ⟨(i : Int), bs⟩ s pt lo q2 true Hd.out A A1 b o c g1 0 c1 _ _ hn hsl.out (Nat.le_refl _) hD5.pl.rd hD5.os.rs.rd); rintro e w6 ⟨A6, c6, g6, rfl, hr6, hown6, hb6⟩; have hD7 := (hD5.below hb6).below (show Below w6.heap.size w6 (w6.alloc (.cells #[.int .i64 q2.now, .slice A6 q2.done.length c6] 70)) by go_grown); have u0 := hD7.os.rs.c0; have u1 := hD7.os.rs.c1; have uf0 := hD7.os.fz 0; have uf1 := hD7.os.fz 1; have hD6 := hD5.below hb6; have hZ6x := hD6.os.rs.ex; have x0 := hD6.os.rs.c0; have x1 := hD6.os.rs.c1; have xf0 := hD6.os.fz 0; have xf1 := hD6.os.fz 1))
                    have hZl := hD5.os.lo
                    have hZx := hD5.os.rs.ex
                    obtain ⟨g7, hD8⟩ := hD6.put (q := q2) (A2 := A6) (c2 := c6) (own_less hown6 (by omega)) (fun e => by have h1 := (hown6.lt _ e).1; omega) hlb hwT hYT
                    have hD9 := hD8.below (show Below _ _ (((w6.setCell ⟨Z, 0, none⟩ (.int .i64 q2.now)).setCell ⟨Z, 1, none⟩ (.slice A6 q2.done.length c6)).alloc (.cells #[.int .i64 q2.now, .slice A6 q2.done.length c6] 70)) by go_grown)
                    go_roundg (i - (k + 1))
                    case measure => go_light; omega
                    case rel => go_light; exact ⟨k + 1, q2, A6, c6, g7, by omega, rfl, by go_num, Hst.out, hD9⟩
      · obtain rfl : k = m := by omega
        have hz : ¬ (k : Int) < (k : Int) := by omega
        have e : q = s := by rw [← Hk.out]; exact Hq.out.symm
        subst e
        have hO := hR1.os
        have hZ := hR1.zb
        have o0 := hO.rs.c0
        have o1 := hO.rs.c1
        have z0 := hZ.z0
        have z1 := hZ.z1
        have zf0 := hZ.zf 0
        have zf1 := hZ.zf 1
        obtain ⟨r0, r1, ho, hb9⟩ := hZ.finI (n := q.now) (A := A1) (c := c1) (xs := q.done) hR1.bel (own_less hO.own (by omega)) (fun e => by have := (hO.own.lt _ e).1; omega)
        go_wp2_with fail
        refine bodyPost_ret (v := .tuple #[.agg #[.int .i64 q.now, .slice A1 q.done.length c1], .bool true]) (by simp [results, Try.results68, go_sem, r0, r1]) rfl ?_
        obtain ⟨g9, hr9⟩ := own_IntsR ho
        first | exact ⟨_, _, g9, rfl, hr9, ho, hb9⟩ | exact ⟨_, _, rfl, ⟨g9, hr9⟩, ho, hb9⟩
end Go.Proofs.Ytjlaljnffmncpaa
