/-
  spec.l8Ends, spec.WeakOk.
  spec.WeakOk.
-/
import Derived.Test.YtdijfkpccbkdfaaS28
namespace Go.Proofs.Ytdijfkpccbkdfaa
set_option linter.unusedVariables false
set_option linter.unusedSimpArgs false
open Go.RowKit Pp

/-- How long one promise lasts if its bit is 1 (longest) or 0 (shortest). -/
def endAt (set k : Nat) (x : Pr) : Int := if set / 2 ^ k % 2 = 1 then x.h else x.l
def endsOf (set : Nat) (ps : List Pr) (k : Nat) : List Int := (List.range k).filterMap fun i => (ps[i]?).map (endAt set i)
theorem endsOf_len (set : Nat) (ps : List Pr) : ∀ k, k ≤ ps.length → (endsOf set ps k).length = k := by
  intro k
  induction k with
  | zero => intro _; rfl
  | succ k ih =>
    intro hk
    have hx := List.getElem?_eq_getElem (show k < ps.length by omega)
    have h := ih (by omega)
    unfold endsOf at *
    rw [List.range_succ, List.filterMap_append, List.length_append, h]
    simp [hx]
theorem endsOf_succ (set : Nat) (ps : List Pr) (k : Nat) (x : Pr) (hx : ps[k]? = some x) : endsOf set ps (k + 1) = endsOf set ps k ++ [endAt set k x] := by
  unfold endsOf
  rw [List.range_succ, List.filterMap_append]
  simp [hx]

set_option maxHeartbeats 4000000 in
set_option maxRecDepth 100000 in
theorem l8Ends_q (n : Int) (ps : List Pr) (set : Nat) (hs : set < 4) (h2 : ps.length ≤ 2) (m c b2 o2 c2 B : Nat) (A A2 : Option Addr) (w : World) (hB : B ≤ w.heap.size) (hP : CsR w B b2 o2 A2 ps.length (prCs ps)) :
    Calls Try.prog 86 #[.agg #[.int .i64 n, .slice A m c, .slice A2 ps.length c2], .int .i64 set] w fun e w' => ∃ A1 c1 g1, e = .returned (.slice A1 ps.length c1) ∧ IntsR w' w'.heap.size g1 0 A1 (endsOf set ps ps.length) ∧ Below w.heap.size w w' := by
  obtain ⟨i0, hi0, hz0, hz1, hz2⟩ := info_parts infoI
  have hb20 : 0 < ps.length → b2 < w.heap.size := fun h => Nat.lt_of_lt_of_le (hP.lt h) hB
  have hD := cb_new w [.int .i64 n, .slice A m c, .slice A2 ps.length c2] 28
  have hb0 : Below w.heap.size w ((w.alloc (.cells #[.int .i64 n, .slice A m c, .slice A2 ps.length c2] 28)).alloc (.cells #[] 3)) := by go_grown
  replace hD := hD.alloc (.cells #[] 3)
  have hP0 := ((hP.more hB).below hb0).more hb0.size
  have own0 : OwnI w.heap.size ((w.alloc (.cells #[.int .i64 n, .slice A m c, .slice A2 ps.length c2] 28)).alloc (.cells #[] 3)) (.slice (some ⟨w.heap.size + 1, 0, none⟩) 0 0) [] := own_empty (at_new (by simp)) (by omega)
  have hne : (Value.slice (some ⟨w.heap.size + 1, 0, none⟩) 0 0).ownBlock ≠ some w.heap.size := by simp [Value.ownBlock]
  clear hP
  go_enter Try.func86, Try.ntmps86
  go_upto_region 2 with fail
  generalize (w.alloc (.cells #[.int .i64 n, .slice A m c, .slice A2 ps.length c2] 28)).alloc (.cells #[] 3) = W at hD hb0 hP0 own0 ⊢
  go_wp2_with fail
  go_loopg [6, 5] ps.length (fun gh i s wr => ∃ (k : Nat) (L : List Int) (A1 : Option Addr) (c1 : Nat), k ≤ ps.length ∧ gh = ps.length - k ∧ i = .int .i64 k ∧ s = .slice A1 k c1 ∧ L.length = k ∧ Hid (L = endsOf set ps k) ∧ CB wr w.heap.size [.int .i64 n, .slice A m c, .slice A2 ps.length c2] ∧ Below w.heap.size w wr ∧ CsR wr wr.heap.size b2 o2 A2 ps.length (prCs ps) ∧ OwnI w.heap.size wr (.slice A1 k c1) L ∧ (Value.slice A1 k c1).ownBlock ≠ some w.heap.size)
  case atStart => exact ⟨0, [], _, _, Nat.zero_le _, rfl, rfl, rfl, rfl, rfl, hD, hb0, hP0, own0, hne⟩
  case round =>
    clear hD hb0 hP0 own0 hne
    obtain ⟨k, L, A1, c1, hk, rfl, rfl, rfl, hLk, HL, hD, hb, hP, own, hne⟩ := hrel
    have p2 := hD.c 2 _ rfl
    by_cases hlk : k < ps.length
    · have hx := List.getElem?_eq_getElem hlk
      obtain rfl := hP.addr (by omega)
      obtain ⟨d0, d1, d2', d3⟩ := pr_cells hP hx
      have hlk' : (k : Int) < (ps.length : Int) := by omega
      have hk0 : (0 : Int) ≤ (k : Int) := by omega
      have HE : Hid (∀ v, v = endAt set k ps[k] → L ++ [v] = endsOf set ps (k + 1)) := fun v hv => by rw [endsOf_succ set ps k _ hx, hv, HL.out]
      unfold endAt at HE
      generalize ps[k] = x at hx d0 d1 d2' d3 HE
      have own1 : wr.ownsRow w.heap.size 3 1 (.slice A1 k c1) k (L.map (Value.int .i64)) := by rw [← hLk] at own ⊢; exact own
      clear own
      have hk2 : k = 0 ∨ k = 1 := by omega
      have hs4 : set = 0 ∨ set = 1 ∨ set = 2 ∨ set = 3 := by omega
      clear hs
      rcases hk2 with rfl | rfl <;> rcases hs4 with rfl | rfl | rfl | rfl
      ·
        have hL' : L.length = 0 := hLk
        go_wp2_with (at_builtin; refine app_list _ rfl (.tmp 29) (.tmp 36) _ rfl w.heap.size 3 i0 _ 1 8 Try.underlying29 hi0 hz0 hz1 hz2 rfl (by omega) (.slice A1 0 c1) 0 (L.map (Value.int .i64)) rfl (own1.alloc _) _ 1 _ [.int .i64 x.l] rfl rfl (NewsAt.block (cs := #[.int .i64 x.l]) (at_new rfl)) (by simp [Value.oneCell']) (by omega) (by omega) (by have h := hb.size; simp only [World.size_alloc]; omega) ?_; intro A4 c4 w4 hown4 hg4 hat4)
        have hba : Below wr.heap.size wr (wr.alloc (.cells #[.int .i64 x.l] 3)) := by go_grown
        have hr : ∀ q, (Value.slice A1 0 c1).ownBlock = some q → w.heap.size ≤ q := fun q hq => (own1.lt q hq).1
        have hb4 : Below w.heap.size w w4 := below_app (bthen hb hba) (own1.alloc (.cells #[.int .i64 x.l] 3)) hg4 (Nat.le_refl _) (Nat.le_trans hb.size hba.size)
        have hD4 := (hD.below hba).grown hg4 (fun e => hne e.symm)
        have hP4 := (((hP.below hba).more hba.size).grown hg4 (fun _ e => by have := hr _ e.symm; have := hb20 (by omega); omega)).more hg4.size
        have own4 : OwnI w.heap.size w4 (.slice A4 (0 + 1) c4) (L ++ [x.l]) := by unfold OwnI; rw [List.length_append, hL', List.map_append]; exact hown4
        have hne4 : (Value.slice A4 (0 + 1) c4).ownBlock ≠ some w.heap.size := fun e => by
          rcases hat4 with h1 | h1
          · rw [h1] at e; exact hne e
          · rw [h1] at e; have e2 := Option.some.inj e; have h3 := hD.ex; simp only [World.size_alloc] at e2; omega
        have HL4 : Hid (L ++ [x.l] = endsOf _ ps (0 + 1)) := HE _ rfl
        have hLk4 : (L ++ [x.l]).length = 0 + 1 := by simp [hL']
        go_roundg (ps.length - (0 + 1))
        case measure => go_light; omega
        case rel => go_light; exact ⟨0 + 1, L ++ [x.l], A4, c4, by omega, rfl, rfl, rfl, hLk4, HL4, hD4, hb4, hP4, own4, hne4⟩
      ·
        have hL' : L.length = 0 := hLk
        go_wp2_with (at_builtin; refine app_list _ rfl (.tmp 20) (.tmp 27) _ rfl w.heap.size 3 i0 _ 1 8 Try.underlying29 hi0 hz0 hz1 hz2 rfl (by omega) (.slice A1 0 c1) 0 (L.map (Value.int .i64)) rfl (own1.alloc _) _ 1 _ [.int .i64 x.h] rfl rfl (NewsAt.block (cs := #[.int .i64 x.h]) (at_new rfl)) (by simp [Value.oneCell']) (by omega) (by omega) (by have h := hb.size; simp only [World.size_alloc]; omega) ?_; intro A4 c4 w4 hown4 hg4 hat4)
        have hba : Below wr.heap.size wr (wr.alloc (.cells #[.int .i64 x.h] 3)) := by go_grown
        have hr : ∀ q, (Value.slice A1 0 c1).ownBlock = some q → w.heap.size ≤ q := fun q hq => (own1.lt q hq).1
        have hb4 : Below w.heap.size w w4 := below_app (bthen hb hba) (own1.alloc (.cells #[.int .i64 x.h] 3)) hg4 (Nat.le_refl _) (Nat.le_trans hb.size hba.size)
        have hD4 := (hD.below hba).grown hg4 (fun e => hne e.symm)
        have hP4 := (((hP.below hba).more hba.size).grown hg4 (fun _ e => by have := hr _ e.symm; have := hb20 (by omega); omega)).more hg4.size
        have own4 : OwnI w.heap.size w4 (.slice A4 (0 + 1) c4) (L ++ [x.h]) := by unfold OwnI; rw [List.length_append, hL', List.map_append]; exact hown4
        have hne4 : (Value.slice A4 (0 + 1) c4).ownBlock ≠ some w.heap.size := fun e => by
          rcases hat4 with h1 | h1
          · rw [h1] at e; exact hne e
          · rw [h1] at e; have e2 := Option.some.inj e; have h3 := hD.ex; simp only [World.size_alloc] at e2; omega
        have HL4 : Hid (L ++ [x.h] = endsOf _ ps (0 + 1)) := HE _ rfl
        have hLk4 : (L ++ [x.h]).length = 0 + 1 := by simp [hL']
        go_roundg (ps.length - (0 + 1))
        case measure => go_light; omega
        case rel => go_light; exact ⟨0 + 1, L ++ [x.h], A4, c4, by omega, rfl, rfl, rfl, hLk4, HL4, hD4, hb4, hP4, own4, hne4⟩
      ·
        have hL' : L.length = 0 := hLk
        go_wp2_with (at_builtin; refine app_list _ rfl (.tmp 29) (.tmp 36) _ rfl w.heap.size 3 i0 _ 1 8 Try.underlying29 hi0 hz0 hz1 hz2 rfl (by omega) (.slice A1 0 c1) 0 (L.map (Value.int .i64)) rfl (own1.alloc _) _ 1 _ [.int .i64 x.l] rfl rfl (NewsAt.block (cs := #[.int .i64 x.l]) (at_new rfl)) (by simp [Value.oneCell']) (by omega) (by omega) (by have h := hb.size; simp only [World.size_alloc]; omega) ?_; intro A4 c4 w4 hown4 hg4 hat4)
        have hba : Below wr.heap.size wr (wr.alloc (.cells #[.int .i64 x.l] 3)) := by go_grown
        have hr : ∀ q, (Value.slice A1 0 c1).ownBlock = some q → w.heap.size ≤ q := fun q hq => (own1.lt q hq).1
        have hb4 : Below w.heap.size w w4 := below_app (bthen hb hba) (own1.alloc (.cells #[.int .i64 x.l] 3)) hg4 (Nat.le_refl _) (Nat.le_trans hb.size hba.size)
        have hD4 := (hD.below hba).grown hg4 (fun e => hne e.symm)
        have hP4 := (((hP.below hba).more hba.size).grown hg4 (fun _ e => by have := hr _ e.symm; have := hb20 (by omega); omega)).more hg4.size
        have own4 : OwnI w.heap.size w4 (.slice A4 (0 + 1) c4) (L ++ [x.l]) := by unfold OwnI; rw [List.length_append, hL', List.map_append]; exact hown4
        have hne4 : (Value.slice A4 (0 + 1) c4).ownBlock ≠ some w.heap.size := fun e => by
          rcases hat4 with h1 | h1
          · rw [h1] at e; exact hne e
          · rw [h1] at e; have e2 := Option.some.inj e; have h3 := hD.ex; simp only [World.size_alloc] at e2; omega
        have HL4 : Hid (L ++ [x.l] = endsOf _ ps (0 + 1)) := HE _ rfl
        have hLk4 : (L ++ [x.l]).length = 0 + 1 := by simp [hL']
        go_roundg (ps.length - (0 + 1))
        case measure => go_light; omega
        case rel => go_light; exact ⟨0 + 1, L ++ [x.l], A4, c4, by omega, rfl, rfl, rfl, hLk4, HL4, hD4, hb4, hP4, own4, hne4⟩
      ·
        have hL' : L.length = 0 := hLk
        go_wp2_with (at_builtin; refine app_list _ rfl (.tmp 20) (.tmp 27) _ rfl w.heap.size 3 i0 _ 1 8 Try.underlying29 hi0 hz0 hz1 hz2 rfl (by omega) (.slice A1 0 c1) 0 (L.map (Value.int .i64)) rfl (own1.alloc _) _ 1 _ [.int .i64 x.h] rfl rfl (NewsAt.block (cs := #[.int .i64 x.h]) (at_new rfl)) (by simp [Value.oneCell']) (by omega) (by omega) (by have h := hb.size; simp only [World.size_alloc]; omega) ?_; intro A4 c4 w4 hown4 hg4 hat4)
        have hba : Below wr.heap.size wr (wr.alloc (.cells #[.int .i64 x.h] 3)) := by go_grown
        have hr : ∀ q, (Value.slice A1 0 c1).ownBlock = some q → w.heap.size ≤ q := fun q hq => (own1.lt q hq).1
        have hb4 : Below w.heap.size w w4 := below_app (bthen hb hba) (own1.alloc (.cells #[.int .i64 x.h] 3)) hg4 (Nat.le_refl _) (Nat.le_trans hb.size hba.size)
        have hD4 := (hD.below hba).grown hg4 (fun e => hne e.symm)
        have hP4 := (((hP.below hba).more hba.size).grown hg4 (fun _ e => by have := hr _ e.symm; have := hb20 (by omega); omega)).more hg4.size
        have own4 : OwnI w.heap.size w4 (.slice A4 (0 + 1) c4) (L ++ [x.h]) := by unfold OwnI; rw [List.length_append, hL', List.map_append]; exact hown4
        have hne4 : (Value.slice A4 (0 + 1) c4).ownBlock ≠ some w.heap.size := fun e => by
          rcases hat4 with h1 | h1
          · rw [h1] at e; exact hne e
          · rw [h1] at e; have e2 := Option.some.inj e; have h3 := hD.ex; simp only [World.size_alloc] at e2; omega
        have HL4 : Hid (L ++ [x.h] = endsOf _ ps (0 + 1)) := HE _ rfl
        have hLk4 : (L ++ [x.h]).length = 0 + 1 := by simp [hL']
        go_roundg (ps.length - (0 + 1))
        case measure => go_light; omega
        case rel => go_light; exact ⟨0 + 1, L ++ [x.h], A4, c4, by omega, rfl, rfl, rfl, hLk4, HL4, hD4, hb4, hP4, own4, hne4⟩
      ·
        have hL' : L.length = 1 := hLk
        go_wp2_with (at_builtin; refine app_list _ rfl (.tmp 29) (.tmp 36) _ rfl w.heap.size 3 i0 _ 1 8 Try.underlying29 hi0 hz0 hz1 hz2 rfl (by omega) (.slice A1 1 c1) 1 (L.map (Value.int .i64)) rfl (own1.alloc _) _ 1 _ [.int .i64 x.l] rfl rfl (NewsAt.block (cs := #[.int .i64 x.l]) (at_new rfl)) (by simp [Value.oneCell']) (by omega) (by omega) (by have h := hb.size; simp only [World.size_alloc]; omega) ?_; intro A4 c4 w4 hown4 hg4 hat4)
        have hba : Below wr.heap.size wr (wr.alloc (.cells #[.int .i64 x.l] 3)) := by go_grown
        have hr : ∀ q, (Value.slice A1 1 c1).ownBlock = some q → w.heap.size ≤ q := fun q hq => (own1.lt q hq).1
        have hb4 : Below w.heap.size w w4 := below_app (bthen hb hba) (own1.alloc (.cells #[.int .i64 x.l] 3)) hg4 (Nat.le_refl _) (Nat.le_trans hb.size hba.size)
        have hD4 := (hD.below hba).grown hg4 (fun e => hne e.symm)
        have hP4 := (((hP.below hba).more hba.size).grown hg4 (fun _ e => by have := hr _ e.symm; have := hb20 (by omega); omega)).more hg4.size
        have own4 : OwnI w.heap.size w4 (.slice A4 (1 + 1) c4) (L ++ [x.l]) := by unfold OwnI; rw [List.length_append, hL', List.map_append]; exact hown4
        have hne4 : (Value.slice A4 (1 + 1) c4).ownBlock ≠ some w.heap.size := fun e => by
          rcases hat4 with h1 | h1
          · rw [h1] at e; exact hne e
          · rw [h1] at e; have e2 := Option.some.inj e; have h3 := hD.ex; simp only [World.size_alloc] at e2; omega
        have HL4 : Hid (L ++ [x.l] = endsOf _ ps (1 + 1)) := HE _ rfl
        have hLk4 : (L ++ [x.l]).length = 1 + 1 := by simp [hL']
        go_roundg (ps.length - (1 + 1))
        case measure => go_light; omega
        case rel => go_light; exact ⟨1 + 1, L ++ [x.l], A4, c4, by omega, rfl, rfl, rfl, hLk4, HL4, hD4, hb4, hP4, own4, hne4⟩
      ·
        have hL' : L.length = 1 := hLk
        go_wp2_with (at_builtin; refine app_list _ rfl (.tmp 29) (.tmp 36) _ rfl w.heap.size 3 i0 _ 1 8 Try.underlying29 hi0 hz0 hz1 hz2 rfl (by omega) (.slice A1 1 c1) 1 (L.map (Value.int .i64)) rfl (own1.alloc _) _ 1 _ [.int .i64 x.l] rfl rfl (NewsAt.block (cs := #[.int .i64 x.l]) (at_new rfl)) (by simp [Value.oneCell']) (by omega) (by omega) (by have h := hb.size; simp only [World.size_alloc]; omega) ?_; intro A4 c4 w4 hown4 hg4 hat4)
        have hba : Below wr.heap.size wr (wr.alloc (.cells #[.int .i64 x.l] 3)) := by go_grown
        have hr : ∀ q, (Value.slice A1 1 c1).ownBlock = some q → w.heap.size ≤ q := fun q hq => (own1.lt q hq).1
        have hb4 : Below w.heap.size w w4 := below_app (bthen hb hba) (own1.alloc (.cells #[.int .i64 x.l] 3)) hg4 (Nat.le_refl _) (Nat.le_trans hb.size hba.size)
        have hD4 := (hD.below hba).grown hg4 (fun e => hne e.symm)
        have hP4 := (((hP.below hba).more hba.size).grown hg4 (fun _ e => by have := hr _ e.symm; have := hb20 (by omega); omega)).more hg4.size
        have own4 : OwnI w.heap.size w4 (.slice A4 (1 + 1) c4) (L ++ [x.l]) := by unfold OwnI; rw [List.length_append, hL', List.map_append]; exact hown4
        have hne4 : (Value.slice A4 (1 + 1) c4).ownBlock ≠ some w.heap.size := fun e => by
          rcases hat4 with h1 | h1
          · rw [h1] at e; exact hne e
          · rw [h1] at e; have e2 := Option.some.inj e; have h3 := hD.ex; simp only [World.size_alloc] at e2; omega
        have HL4 : Hid (L ++ [x.l] = endsOf _ ps (1 + 1)) := HE _ rfl
        have hLk4 : (L ++ [x.l]).length = 1 + 1 := by simp [hL']
        go_roundg (ps.length - (1 + 1))
        case measure => go_light; omega
        case rel => go_light; exact ⟨1 + 1, L ++ [x.l], A4, c4, by omega, rfl, rfl, rfl, hLk4, HL4, hD4, hb4, hP4, own4, hne4⟩
      ·
        have hL' : L.length = 1 := hLk
        go_wp2_with (at_builtin; refine app_list _ rfl (.tmp 20) (.tmp 27) _ rfl w.heap.size 3 i0 _ 1 8 Try.underlying29 hi0 hz0 hz1 hz2 rfl (by omega) (.slice A1 1 c1) 1 (L.map (Value.int .i64)) rfl (own1.alloc _) _ 1 _ [.int .i64 x.h] rfl rfl (NewsAt.block (cs := #[.int .i64 x.h]) (at_new rfl)) (by simp [Value.oneCell']) (by omega) (by omega) (by have h := hb.size; simp only [World.size_alloc]; omega) ?_; intro A4 c4 w4 hown4 hg4 hat4)
        have hba : Below wr.heap.size wr (wr.alloc (.cells #[.int .i64 x.h] 3)) := by go_grown
        have hr : ∀ q, (Value.slice A1 1 c1).ownBlock = some q → w.heap.size ≤ q := fun q hq => (own1.lt q hq).1
        have hb4 : Below w.heap.size w w4 := below_app (bthen hb hba) (own1.alloc (.cells #[.int .i64 x.h] 3)) hg4 (Nat.le_refl _) (Nat.le_trans hb.size hba.size)
        have hD4 := (hD.below hba).grown hg4 (fun e => hne e.symm)
        have hP4 := (((hP.below hba).more hba.size).grown hg4 (fun _ e => by have := hr _ e.symm; have := hb20 (by omega); omega)).more hg4.size
        have own4 : OwnI w.heap.size w4 (.slice A4 (1 + 1) c4) (L ++ [x.h]) := by unfold OwnI; rw [List.length_append, hL', List.map_append]; exact hown4
        have hne4 : (Value.slice A4 (1 + 1) c4).ownBlock ≠ some w.heap.size := fun e => by
          rcases hat4 with h1 | h1
          · rw [h1] at e; exact hne e
          · rw [h1] at e; have e2 := Option.some.inj e; have h3 := hD.ex; simp only [World.size_alloc] at e2; omega
        have HL4 : Hid (L ++ [x.h] = endsOf _ ps (1 + 1)) := HE _ rfl
        have hLk4 : (L ++ [x.h]).length = 1 + 1 := by simp [hL']
        go_roundg (ps.length - (1 + 1))
        case measure => go_light; omega
        case rel => go_light; exact ⟨1 + 1, L ++ [x.h], A4, c4, by omega, rfl, rfl, rfl, hLk4, HL4, hD4, hb4, hP4, own4, hne4⟩
      ·
        have hL' : L.length = 1 := hLk
        go_wp2_with (at_builtin; refine app_list _ rfl (.tmp 20) (.tmp 27) _ rfl w.heap.size 3 i0 _ 1 8 Try.underlying29 hi0 hz0 hz1 hz2 rfl (by omega) (.slice A1 1 c1) 1 (L.map (Value.int .i64)) rfl (own1.alloc _) _ 1 _ [.int .i64 x.h] rfl rfl (NewsAt.block (cs := #[.int .i64 x.h]) (at_new rfl)) (by simp [Value.oneCell']) (by omega) (by omega) (by have h := hb.size; simp only [World.size_alloc]; omega) ?_; intro A4 c4 w4 hown4 hg4 hat4)
        have hba : Below wr.heap.size wr (wr.alloc (.cells #[.int .i64 x.h] 3)) := by go_grown
        have hr : ∀ q, (Value.slice A1 1 c1).ownBlock = some q → w.heap.size ≤ q := fun q hq => (own1.lt q hq).1
        have hb4 : Below w.heap.size w w4 := below_app (bthen hb hba) (own1.alloc (.cells #[.int .i64 x.h] 3)) hg4 (Nat.le_refl _) (Nat.le_trans hb.size hba.size)
        have hD4 := (hD.below hba).grown hg4 (fun e => hne e.symm)
        have hP4 := (((hP.below hba).more hba.size).grown hg4 (fun _ e => by have := hr _ e.symm; have := hb20 (by omega); omega)).more hg4.size
        have own4 : OwnI w.heap.size w4 (.slice A4 (1 + 1) c4) (L ++ [x.h]) := by unfold OwnI; rw [List.length_append, hL', List.map_append]; exact hown4
        have hne4 : (Value.slice A4 (1 + 1) c4).ownBlock ≠ some w.heap.size := fun e => by
          rcases hat4 with h1 | h1
          · rw [h1] at e; exact hne e
          · rw [h1] at e; have e2 := Option.some.inj e; have h3 := hD.ex; simp only [World.size_alloc] at e2; omega
        have HL4 : Hid (L ++ [x.h] = endsOf _ ps (1 + 1)) := HE _ rfl
        have hLk4 : (L ++ [x.h]).length = 1 + 1 := by simp [hL']
        go_roundg (ps.length - (1 + 1))
        case measure => go_light; omega
        case rel => go_light; exact ⟨1 + 1, L ++ [x.h], A4, c4, by omega, rfl, rfl, rfl, hLk4, HL4, hD4, hb4, hP4, own4, hne4⟩
    · obtain rfl : k = ps.length := by omega
      have hlk' : ¬ (ps.length : Int) < (ps.length : Int) := by omega
      go_wp2_with fail
      go_ret
      obtain ⟨g1, hr1⟩ := own_IntsR (xs := L) (by rw [hLk]; exact own)
      rw [HL.out] at hr1
      first | exact ⟨A1, c1, g1, rfl, hr1, hb⟩ | exact ⟨A1, ⟨c1, rfl⟩, ⟨g1, hr1⟩, hb⟩

noncomputable def weakS (p : Pl) (ps : List Pr) : Bool := dealOk p ps && (List.range (2 ^ ps.length)).all fun set => fits (planFor p ps (endsOf set ps ps.length))

theorem endsOf_small {ps : List Pr} (hok : ∀ (i : Nat) (x : Pr), ps[i]? = some x → 0 ≤ x.l ∧ x.l ≤ x.h ∧ x.h ≤ 12) (set : Nat) : ∀ (k : Nat) (i : Nat) (l : Int), (endsOf set ps k)[i]? = some l → 0 ≤ l ∧ l ≤ 12 := by
  intro k i l h
  have hm := List.mem_of_getElem? h
  unfold endsOf at hm
  obtain ⟨j, _, hj⟩ := List.mem_filterMap.1 hm
  obtain ⟨x, hx, rfl⟩ := Option.map_eq_some_iff.1 hj
  obtain ⟨h1, h2, h3⟩ := hok _ _ hx
  unfold endAt
  split <;> omega

set_option maxHeartbeats 4000000 in
set_option maxRecDepth 100000 in
theorem sWeakOk_q (n : Int) (bs : List Bd) (ps : List Pr) (A A2 : Option Addr) (b o c b2 o2 c2 B : Nat) (w : World) (hn : bs.length ≤ 2000000) (hn2 : ps.length ≤ 2000000) (hB : B ≤ w.heap.size) (hR : BdsR w B b o A bs) (hP : CsR w B b2 o2 A2 ps.length (prCs ps)) :
    Calls Try.prog 40 #[.agg #[.int .i64 n, .slice A bs.length c, .slice A2 ps.length c2]] w fun e w' => e = .returned (.bool (weakS ⟨n, bs⟩ ps)) ∧ Below w.heap.size w w' := by
  have hD := pd_new (n := n) (c := c) (c2 := c2) (t := 28) hB hR hP
  clear hR hP hB
  cases hd : dealOk ⟨n, bs⟩ ps
  · have Hr : Hid (weakS ⟨n, bs⟩ ps = false) := by unfold Hid weakS; rw [hd]; rfl
    have Hd := hide hd
    clear hd
    go_enter Try.func40, Try.ntmps40
    go_upto_region 2 with fail
    generalize w.alloc (.cells #[.int .i64 n, .slice A bs.length c, .slice A2 ps.length c2] 28) = W at hD ⊢
    have p0 := hD.r.c0
    have p1 := hD.r.c1
    have p2 := hD.r.c2
    go_wp2_with fail
    go_loopg [3] 0 (fun gh s wr => gh = 0 ∧ s = .int .i64 0 ∧ PD w wr w.heap.size b o n A c bs b2 o2 A2 c2 ps)
    case atStart => exact ⟨rfl, rfl, hD⟩
    case round =>
      clear hD p0 p1 p2
      obtain ⟨rfl, rfl, hD⟩ := hrel
      obtain ⟨v, hv⟩ : ∃ v, wrap64 (2 ^ min ps.length 64) = v := ⟨_, rfl⟩
      obtain ⟨p0, p1, p2⟩ : _ ∧ _ ∧ _ := ⟨hD.r.c0, hD.r.c1, hD.r.c2⟩
      go_wp2_with (go_at_call 41; go_fit (sDealOk_c n bs ps A A2 b o c b2 o2 c2 _ _ hn hn2 (Nat.le_refl _) hD.r.rd hD.r.rp); rintro e w2 ⟨rfl, hb⟩; rw [Hd.out]; replace hD := hD.below hb; clear p0 p1 p2; have p0 := hD.r.c0; have p1 := hD.r.c1; have p2 := hD.r.c2)
      all_goals (go_ret; exact ⟨by rw [Hr.out]; rfl, hD.bel⟩)
  · have hdl := dealOk_iff.1 hd
    have h12 : bs.length ≤ 12 := hdl.2.1
    have h2 : ps.length ≤ 2 := hdl.2.2.1
    have hok : ∀ (i : Nat) (x : Pr), ps[i]? = some x → 0 ≤ x.l ∧ x.l ≤ x.h ∧ x.h ≤ 12 := by
      intro i x hx
      have h := hdl.2.2.2 i x (List.getElem?_eq_some_iff.1 hx).1 hx
      exact ⟨h.1.2.2.2.1, h.1.2.2.2.2.1, h.1.2.2.2.2.2⟩
    have Hr : Hid (weakS ⟨n, bs⟩ ps = (List.range (2 ^ ps.length)).all fun set => fits (planFor ⟨n, bs⟩ ps (endsOf set ps ps.length))) := by unfold Hid weakS; rw [hd]; rfl
    have Hd := hide hd
    clear hd hdl
    have hM0 : ps.length = 0 ∨ ps.length = 1 ∨ ps.length = 2 := by omega
    obtain ⟨M, hM⟩ : ∃ M, 2 ^ ps.length = M := ⟨_, rfl⟩
    have hM4 : M ≤ 4 := by rcases hM0 with e | e | e <;> rw [e] at hM <;> omega
    have hsh : wrap64 (2 ^ ps.length) = (M : Int) := by rcases hM0 with e | e | e <;> rw [e] at hM ⊢ <;> subst hM <;> simp [wrap64]
    rw [hM] at Hr
    clear hM hM0
    go_enter Try.func40, Try.ntmps40
    go_upto_region 2 with fail
    generalize w.alloc (.cells #[.int .i64 n, .slice A bs.length c, .slice A2 ps.length c2] 28) = W at hD ⊢
    have p0 := hD.r.c0
    have p1 := hD.r.c1
    have p2 := hD.r.c2
    go_wp2_with fail
    go_loopg [3] M (fun gh s wr => ∃ k : Nat, k ≤ M ∧ gh = M - k ∧ s = .int .i64 k ∧ PD w wr w.heap.size b o n A c bs b2 o2 A2 c2 ps ∧ Hid (∀ i, i < k → fits (planFor ⟨n, bs⟩ ps (endsOf i ps ps.length)) = true))
    case atStart => exact ⟨0, Nat.zero_le _, rfl, rfl, hD, fun i h => absurd h (Nat.not_lt_zero _)⟩
    case round =>
      clear hD p0 p1 p2
      obtain ⟨k, hk, rfl, rfl, hD, HF⟩ := hrel
      obtain ⟨p0, p1, p2⟩ : _ ∧ _ ∧ _ := ⟨hD.r.c0, hD.r.c1, hD.r.c2⟩
      by_cases hlt : k < M
      · have hlt' : (k : Int) < (M : Int) := by omega
        obtain ⟨ls, hls⟩ : ∃ ls, endsOf k ps ps.length = ls := ⟨_, rfl⟩
        have hll : ls.length = ps.length := by rw [← hls]; exact endsOf_len k ps _ (Nat.le_refl _)
        have hsm : ∀ (i : Nat) (l : Int), ls[i]? = some l → 0 ≤ l ∧ l ≤ 12 := by rw [← hls]; exact endsOf_small hok k _
        obtain ⟨rs, hrs⟩ : ∃ rs, bs ++ forBs ps ls = rs := ⟨_, rfl⟩
        have hrl : rs.length ≤ 2000000 := by have := forBs_length ps ls; rw [← hrs, List.length_append]; omega
        have hen := fun (w1 : World) (h1 : CsR w1 w1.heap.size b2 o2 A2 ps.length (prCs ps)) => l8Ends_q n ps k (by omega) h2 bs.length c b2 o2 c2 _ A A2 w1 (Nat.le_refl _) h1
        have hpl := fun (A3 : Option Addr) (g3 c3 : Nat) (w1 : World) (h1 : RD w1 w.heap.size b o n A c bs b2 o2 A2 c2 ps) (h3 : IntsR w1 w1.heap.size g3 0 A3 ls) => l8Plan_q n bs ps ls h12 h2 (by omega) hsm rs hrs A A2 A3 b o c b2 o2 c2 g3 0 c3 _ w1 (Nat.le_refl _) h1.rd h1.rp h3
        rw [hll] at hpl
        rw [hls] at hen
        have HS : Hid (∀ r, fits ⟨n, rs⟩ = r → fits (planFor ⟨n, bs⟩ ps (endsOf k ps ps.length)) = r) := fun r h => by rw [hls]; unfold planFor; rw [hrs]; exact h
        clear hls hrs hsm hll
        go_wp2_with (go_at_call 41; go_fit (sDealOk_c n bs ps A A2 b o c b2 o2 c2 _ _ hn hn2 (Nat.le_refl _) hD.r.rd hD.r.rp); rintro e w2 ⟨rfl, hb⟩; rw [Hd.out]; replace hD := hD.below hb; clear p0 p1 p2; have p0 := hD.r.c0; have p1 := hD.r.c1; have p2 := hD.r.c2)
        have hDl : w.heap.size < w2.heap.size := hD.r.ex
        refine wp_regionE (fun w' => w'.cell? ⟨w.heap.size, 0, none⟩ = some (.int .i64 n) ∧ w'.cell? ⟨w.heap.size, 1, none⟩ = some (.slice A bs.length c) ∧ w'.cell? ⟨w.heap.size, 2, none⟩ = some (.slice A2 ps.length c2)) 6 (by kernel_rfl) ?_
        change wpE _ _ _ _ _ _ 7 #[false, false, false, false, false, false, false] _ _
        have hS0 : w2.drew.cell? ⟨w.heap.size, 0, none⟩ = some (.int .i64 n) ∧ w2.drew.cell? ⟨w.heap.size, 1, none⟩ = some (.slice A bs.length c) ∧ w2.drew.cell? ⟨w.heap.size, 2, none⟩ = some (.slice A2 ps.length c2) := ⟨p0, p1, p2⟩
        refine wpE_take' (v := ?_) 0 [4, 5, 6] (of_decide_eq_true (by kernel_rfl)) (by kernel_rfl) (by kernel_rfl) (by kernel_rfl) (by kernel_rfl) (fun _ _ _ h => h) (by kernel_rfl) ?_ hS0 ?_
        rotate_left
        · intro w' hSw
          simp only [List.getElem_toArray, List.getElem_cons_succ, List.getElem_cons_zero]
          go_simp
          all_goals with_reducible rfl
        simp only [List.getElem_toArray, List.getElem_cons_succ, List.getElem_cons_zero, Act.put, List.setIfInBounds_toArray, List.set_cons_zero, List.set_cons_succ]
        refine wpE_take' (v := ?_) 1 [3, 4, 5, 6] (of_decide_eq_true (by kernel_rfl)) (by kernel_rfl) (by kernel_rfl) (by kernel_rfl) (by kernel_rfl) (fun _ _ _ h => h) (by kernel_rfl) ?_ hS0 ?_
        rotate_left
        · intro w' hSw
          simp only [List.getElem_toArray, List.getElem_cons_succ, List.getElem_cons_zero]
          go_simp
          all_goals with_reducible rfl
        simp only [List.getElem_toArray, List.getElem_cons_succ, List.getElem_cons_zero, Act.put, List.setIfInBounds_toArray, List.set_cons_zero, List.set_cons_succ]
        refine wpE_take' (v := ?_) 2 [3, 4, 5, 6] (of_decide_eq_true (by kernel_rfl)) (by kernel_rfl) (by kernel_rfl) (by kernel_rfl) (by kernel_rfl) (fun _ _ _ h => h) (by kernel_rfl) ?_ hS0 ?_
        rotate_left
        · intro w' hSw
          simp only [List.getElem_toArray, List.getElem_cons_succ, List.getElem_cons_zero]
          go_simp
          all_goals with_reducible rfl
        simp only [List.getElem_toArray, List.getElem_cons_succ, List.getElem_cons_zero, Act.put, List.setIfInBounds_toArray, List.set_cons_zero, List.set_cons_succ]
        refine wpE_step' 3 (of_decide_eq_true (by kernel_rfl)) (by kernel_rfl) (by kernel_rfl) (fun K hK => ?_)
        simp only [List.getElem_toArray, List.getElem_cons_succ, List.getElem_cons_zero]
        go_simp
        go_at_call 86
        replace hD := hD.drew
        refine (hen _ hD.r.rp).mono ?_
        rintro e w3 ⟨A3, c3, g3, rfl, hr3, hb3⟩
        replace hD := hD.below hb3; clear p0 p1 p2; have p0 := hD.r.c0; have p1 := hD.r.c1; have p2 := hD.r.c2
        refine hK.out _ _ (.inr ⟨p0, p1, p2⟩) ?_
        clear hK K
        simp only [Act.put, List.setIfInBounds_toArray, List.set_cons_zero, List.set_cons_succ]
        refine wpE_step' 4 (of_decide_eq_true (by kernel_rfl)) (by kernel_rfl) (by kernel_rfl) (fun K hK => ?_)
        simp only [List.getElem_toArray, List.getElem_cons_succ, List.getElem_cons_zero]
        go_simp
        go_at_call 59
        refine (hpl A3 g3 c3 _ hD.r hr3).mono ?_
        rintro e w4 ⟨A4, c4, g4, rfl, hr4, own4, hb4⟩
        replace hD := hD.below hb4; clear p0 p1 p2; have p0 := hD.r.c0; have p1 := hD.r.c1; have p2 := hD.r.c2
        refine hK.out _ _ (.inr ⟨p0, p1, p2⟩) ?_
        clear hK K
        simp only [Act.put, List.setIfInBounds_toArray, List.set_cons_zero, List.set_cons_succ]
        refine wpE_step' 5 (of_decide_eq_true (by kernel_rfl)) (by kernel_rfl) (by kernel_rfl) (fun K hK => ?_)
        simp only [List.getElem_toArray, List.getElem_cons_succ, List.getElem_cons_zero]
        go_simp
        go_at_call 85
        refine (sFitsOk_c ⟨n, rs⟩ A4 g4 0 c4 _ _ hrl (Nat.le_refl _) hr4).mono ?_
        rintro e w5 ⟨rfl, hb5⟩
        replace hD := hD.below hb5; clear p0 p1 p2; have p0 := hD.r.c0; have p1 := hD.r.c1; have p2 := hD.r.c2
        refine hK.out _ _ (.inr ⟨p0, p1, p2⟩) ?_
        clear hK K
        simp only [Act.put, List.setIfInBounds_toArray, List.set_cons_zero, List.set_cons_succ]
        cases hf : fits ⟨n, rs⟩
        ·
          refine wpE_step' 6 (of_decide_eq_true (by kernel_rfl)) (by kernel_rfl) (by kernel_rfl) (fun K hK => ?_)
          simp only [List.getElem_toArray, List.getElem_cons_succ, List.getElem_cons_zero]
          go_simp
          refine hK.out _ _ (.inl rfl) ?_
          clear hK K
          simp only [Act.put, List.setIfInBounds_toArray, List.set_cons_zero, List.set_cons_succ]
          refine wpE_done (by kernel_rfl) ?_ _
          have Hff : Hid (weakS ⟨n, bs⟩ ps = false) := by
            unfold Hid
            rw [Hr.out]
            exact List.all_eq_false.2 ⟨k, List.mem_range.2 hlt, by rw [HS.out _ hf]; simp⟩
          clear hf HS
          go_wp2_with fail
          go_ret
          exact ⟨by rw [Hff.out]; rfl, hD.bel⟩
        ·
          refine wpE_step' 6 (of_decide_eq_true (by kernel_rfl)) (by kernel_rfl) (by kernel_rfl) (fun K hK => ?_)
          simp only [List.getElem_toArray, List.getElem_cons_succ, List.getElem_cons_zero]
          go_simp
          refine hK.out _ _ (.inl rfl) ?_
          clear hK K
          simp only [Act.put, List.setIfInBounds_toArray, List.set_cons_zero, List.set_cons_succ]
          refine wpE_done (by kernel_rfl) ?_ _
          have HF2 : Hid (∀ i, i < k + 1 → fits (planFor ⟨n, bs⟩ ps (endsOf i ps ps.length)) = true) := by
            intro i hi
            by_cases e : i = k
            · subst e; exact HS.out _ hf
            · exact HF.out i (by omega)
          clear hf HS HF
          go_wp2_with fail
          go_roundg (M - (k + 1))
          case measure => go_light; omega
          case rel => go_light; exact ⟨k + 1, by omega, rfl, rfl, hD, HF2⟩
      · obtain rfl : k = M := by omega
        have hlt' : ¬ (k : Int) < (k : Int) := by omega
        have Htt : Hid (weakS ⟨n, bs⟩ ps = true) := by
          unfold Hid
          rw [Hr.out]
          exact List.all_eq_true.2 fun i hi => HF.out i (List.mem_range.1 hi)
        go_wp2_with (go_at_call 41; go_fit (sDealOk_c n bs ps A A2 b o c b2 o2 c2 _ _ hn hn2 (Nat.le_refl _) hD.r.rd hD.r.rp); rintro e w2 ⟨rfl, hb⟩; rw [Hd.out]; replace hD := hD.below hb; clear p0 p1 p2; have p0 := hD.r.c0; have p1 := hD.r.c1; have p2 := hD.r.c2)
        go_ret
        exact ⟨by rw [Htt.out]; rfl, hD.bel⟩
end Go.Proofs.Ytdijfkpccbkdfaa
