/-
  spec.l8Ends, spec.WeakOk.
-/
import Derived.Test.YtdijfkpccbkdfaaS28
namespace Go.Proofs.Ytdijfkpccbkdfaa
set_option linter.unusedVariables false
set_option linter.unusedSimpArgs false
open Go.RowKit Pp

/-- How long one promise lasts if its bit is 1 (longest) or 0 (shortest). -/
def endAt (set k : Nat) (x : Pr) : Int := if set / 2 ^ k % 2 = 1 then x.h else x.l
def endsOf (set : Nat) (ps : List Pr) (k : Nat) : List Int := (List.range k).filterMap fun i => (ps[i]?).map (endAt set i)
theorem endsOf_len (set : Nat) (ps : List Pr) : ∀ k, k ≤ ps.length → (endsOf set ps k).length = k := by
  intro k
  induction k with
  | zero => intro _; rfl
  | succ k ih =>
    intro hk
    have hx := List.getElem?_eq_getElem (show k < ps.length by omega)
    have h := ih (by omega)
    unfold endsOf at *
    rw [List.range_succ, List.filterMap_append, List.length_append, h]
    simp [hx]
theorem endsOf_succ (set : Nat) (ps : List Pr) (k : Nat) (x : Pr) (hx : ps[k]? = some x) : endsOf set ps (k + 1) = endsOf set ps k ++ [endAt set k x] := by
  unfold endsOf
  rw [List.range_succ, List.filterMap_append]
  simp [hx]

set_option maxHeartbeats 4000000 in
set_option maxRecDepth 100000 in
theorem l8Ends_q (n : Int) (ps : List Pr) (set : Nat) (hs : set < 4) (h2 : ps.length ≤ 2) (m c b2 o2 c2 B : Nat) (A A2 : Option Addr) (w : World) (hB : B ≤ w.heap.size) (hP : CsR w B b2 o2 A2 ps.length (prCs ps)) :
    Calls Try.prog 86 #[.agg #[.int .i64 n, .slice A m c, .slice A2 ps.length c2], .int .i64 set] w fun e w' => ∃ A1 c1 g1, e = .returned (.slice A1 ps.length c1) ∧ IntsR w' w'.heap.size g1 0 A1 (endsOf set ps ps.length) ∧ Below w.heap.size w w' := by
  obtain ⟨i0, hi0, hz0, hz1, hz2⟩ := info_parts infoI
  have hb20 : 0 < ps.length → b2 < w.heap.size := fun h => Nat.lt_of_lt_of_le (hP.lt h) hB
  have hD := cb_new w [.int .i64 n, .slice A m c, .slice A2 ps.length c2] 28
  have hb0 : Below w.heap.size w ((w.alloc (.cells #[.int .i64 n, .slice A m c, .slice A2 ps.length c2] 28)).alloc (.cells #[] 3)) := by go_grown
  replace hD := hD.alloc (.cells #[] 3)
  have hP0 := ((hP.more hB).below hb0).more hb0.size
  have own0 : OwnI w.heap.size ((w.alloc (.cells #[.int .i64 n, .slice A m c, .slice A2 ps.length c2] 28)).alloc (.cells #[] 3)) (.slice (some ⟨w.heap.size + 1, 0, none⟩) 0 0) [] := own_empty (at_new (by simp)) (by omega)
  have hne : (Value.slice (some ⟨w.heap.size + 1, 0, none⟩) 0 0).ownBlock ≠ some w.heap.size := by simp [Value.ownBlock]
  clear hP
  go_enter Try.func86, Try.ntmps86
  go_upto_region 2 with fail
  generalize (w.alloc (.cells #[.int .i64 n, .slice A m c, .slice A2 ps.length c2] 28)).alloc (.cells #[] 3) = W at hD hb0 hP0 own0 ⊢
  go_wp2_with fail
  go_loopg [6, 5] ps.length (fun gh i s wr => ∃ (k : Nat) (L : List Int) (A1 : Option Addr) (c1 : Nat), k ≤ ps.length ∧ gh = ps.length - k ∧ i = .int .i64 k ∧ s = .slice A1 k c1 ∧ L.length = k ∧ Hid (L = endsOf set ps k) ∧ CB wr w.heap.size [.int .i64 n, .slice A m c, .slice A2 ps.length c2] ∧ Below w.heap.size w wr ∧ CsR wr wr.heap.size b2 o2 A2 ps.length (prCs ps) ∧ OwnI w.heap.size wr (.slice A1 k c1) L ∧ (Value.slice A1 k c1).ownBlock ≠ some w.heap.size)
  case atStart => exact ⟨0, [], _, _, Nat.zero_le _, rfl, rfl, rfl, rfl, rfl, hD, hb0, hP0, own0, hne⟩
  case round =>
    clear hD hb0 hP0 own0 hne
    obtain ⟨k, L, A1, c1, hk, rfl, rfl, rfl, hLk, HL, hD, hb, hP, own, hne⟩ := hrel
    have p2 := hD.c 2 _ rfl
    by_cases hlk : k < ps.length
    · have hx := List.getElem?_eq_getElem hlk
      obtain rfl := hP.addr (by omega)
      obtain ⟨d0, d1, d2', d3⟩ := pr_cells hP hx
      have hlk' : (k : Int) < (ps.length : Int) := by omega
      have hk0 : (0 : Int) ≤ (k : Int) := by omega
      have HE : Hid (∀ v, v = endAt set k ps[k] → L ++ [v] = endsOf set ps (k + 1)) := fun v hv => by rw [endsOf_succ set ps k _ hx, hv, HL.out]
      unfold endAt at HE
      generalize ps[k] = x at hx d0 d1 d2' d3 HE
      have own1 : wr.ownsRow w.heap.size 3 1 (.slice A1 k c1) k (L.map (Value.int .i64)) := by rw [← hLk] at own ⊢; exact own
      clear own
      have hk2 : k = 0 ∨ k = 1 := by omega
      have hs4 : set = 0 ∨ set = 1 ∨ set = 2 ∨ set = 3 := by omega
      clear hs
      rcases hk2 with rfl | rfl <;> rcases hs4 with rfl | rfl | rfl | rfl
      ·
        have hL' : L.length = 0 := hLk
        go_wp2_with (at_builtin; refine app_list _ rfl (.tmp 29) (.tmp 36) _ rfl w.heap.size 3 i0 _ 1 8 Try.underlying29 hi0 hz0 hz1 hz2 rfl (by omega) (.slice A1 0 c1) 0 (L.map (Value.int .i64)) rfl (own1.alloc _) _ 1 _ [.int .i64 x.l] rfl rfl (NewsAt.block (cs := #[.int .i64 x.l]) (at_new rfl)) (by simp [Value.oneCell']) (by omega) (by omega) (by have h := hb.size; simp only [World.size_alloc]; omega) ?_; intro A4 c4 w4 hown4 hg4 hat4)
        have hba : Below wr.heap.size wr (wr.alloc (.cells #[.int .i64 x.l] 3)) := by go_grown
        have hr : ∀ q, (Value.slice A1 0 c1).ownBlock = some q → w.heap.size ≤ q := fun q hq => (own1.lt q hq).1
        have hb4 : Below w.heap.size w w4 := below_app (bthen hb hba) (own1.alloc (.cells #[.int .i64 x.l] 3)) hg4 (Nat.le_refl _) (Nat.le_trans hb.size hba.size)
        have hD4 := (hD.below hba).grown hg4 (fun e => hne e.symm)
        have hP4 := (((hP.below hba).more hba.size).grown hg4 (fun _ e => by have := hr _ e.symm; have := hb20 (by omega); omega)).more hg4.size
        have own4 : OwnI w.heap.size w4 (.slice A4 (0 + 1) c4) (L ++ [x.l]) := by unfold OwnI; rw [List.length_append, hL', List.map_append]; exact hown4
        have hne4 : (Value.slice A4 (0 + 1) c4).ownBlock ≠ some w.heap.size := fun e => by
          rcases hat4 with h1 | h1
          · rw [h1] at e; exact hne e
          · rw [h1] at e; have e2 := Option.some.inj e; have h3 := hD.ex; simp only [World.size_alloc] at e2; omega
        have HL4 : Hid (L ++ [x.l] = endsOf _ ps (0 + 1)) := HE _ rfl
        have hLk4 : (L ++ [x.l]).length = 0 + 1 := by simp [hL']
        go_roundg (ps.length - (0 + 1))
        case measure => go_light; omega
        case rel => go_light; exact ⟨0 + 1, L ++ [x.l], A4, c4, by omega, rfl, rfl, rfl, hLk4, HL4, hD4, hb4, hP4, own4, hne4⟩
      ·
        have hL' : L.length = 0 := hLk
        go_wp2_with (at_builtin; refine app_list _ rfl (.tmp 20) (.tmp 27) _ rfl w.heap.size 3 i0 _ 1 8 Try.underlying29 hi0 hz0 hz1 hz2 rfl (by omega) (.slice A1 0 c1) 0 (L.map (Value.int .i64)) rfl (own1.alloc _) _ 1 _ [.int .i64 x.h] rfl rfl (NewsAt.block (cs := #[.int .i64 x.h]) (at_new rfl)) (by simp [Value.oneCell']) (by omega) (by omega) (by have h := hb.size; simp only [World.size_alloc]; omega) ?_; intro A4 c4 w4 hown4 hg4 hat4)
        have hba : Below wr.heap.size wr (wr.alloc (.cells #[.int .i64 x.h] 3)) := by go_grown
        have hr : ∀ q, (Value.slice A1 0 c1).ownBlock = some q → w.heap.size ≤ q := fun q hq => (own1.lt q hq).1
        have hb4 : Below w.heap.size w w4 := below_app (bthen hb hba) (own1.alloc (.cells #[.int .i64 x.h] 3)) hg4 (Nat.le_refl _) (Nat.le_trans hb.size hba.size)
        have hD4 := (hD.below hba).grown hg4 (fun e => hne e.symm)
        have hP4 := (((hP.below hba).more hba.size).grown hg4 (fun _ e => by have := hr _ e.symm; have := hb20 (by omega); omega)).more hg4.size
        have own4 : OwnI w.heap.size w4 (.slice A4 (0 + 1) c4) (L ++ [x.h]) := by unfold OwnI; rw [List.length_append, hL', List.map_append]; exact hown4
        have hne4 : (Value.slice A4 (0 + 1) c4).ownBlock ≠ some w.heap.size := fun e => by
          rcases hat4 with h1 | h1
          · rw [h1] at e; exact hne e
          · rw [h1] at e; have e2 := Option.some.inj e; have h3 := hD.ex; simp only [World.size_alloc] at e2; omega
        have HL4 : Hid (L ++ [x.h] = endsOf _ ps (0 + 1)) := HE _ rfl
        have hLk4 : (L ++ [x.h]).length = 0 + 1 := by simp [hL']
        go_roundg (ps.length - (0 + 1))
        case measure => go_light; omega
        case rel => go_light; exact ⟨0 + 1, L ++ [x.h], A4, c4, by omega, rfl, rfl, rfl, hLk4, HL4, hD4, hb4, hP4, own4, hne4⟩
      ·
        have hL' : L.length = 0 := hLk
        go_wp2_with (at_builtin; refine app_list _ rfl (.tmp 29) (.tmp 36) _ rfl w.heap.size 3 i0 _ 1 8 Try.underlying29 hi0 hz0 hz1 hz2 rfl (by omega) (.slice A1 0 c1) 0 (L.map (Value.int .i64)) rfl (own1.alloc _) _ 1 _ [.int .i64 x.l] rfl rfl (NewsAt.block (cs := #[.int .i64 x.l]) (at_new rfl)) (by simp [Value.oneCell']) (by omega) (by omega) (by have h := hb.size; simp only [World.size_alloc]; omega) ?_; intro A4 c4 w4 hown4 hg4 hat4)
        have hba : Below wr.heap.size wr (wr.alloc (.cells #[.int .i64 x.l] 3)) := by go_grown
        have hr : ∀ q, (Value.slice A1 0 c1).ownBlock = some q → w.heap.size ≤ q := fun q hq => (own1.lt q hq).1
        have hb4 : Below w.heap.size w w4 := below_app (bthen hb hba) (own1.alloc (.cells #[.int .i64 x.l] 3)) hg4 (Nat.le_refl _) (Nat.le_trans hb.size hba.size)
        have hD4 := (hD.below hba).grown hg4 (fun e => hne e.symm)
        have hP4 := (((hP.below hba).more hba.size).grown hg4 (fun _ e => by have := hr _ e.symm; have := hb20 (by omega); omega)).more hg4.size
        have own4 : OwnI w.heap.size w4 (.slice A4 (0 + 1) c4) (L ++ [x.l]) := by unfold OwnI; rw [List.length_append, hL', List.map_append]; exact hown4
        have hne4 : (Value.slice A4 (0 + 1) c4).ownBlock ≠ some w.heap.size := fun e => by
          rcases hat4 with h1 | h1
          · rw [h1] at e; exact hne e
          · rw [h1] at e; have e2 := Option.some.inj e; have h3 := hD.ex; simp only [World.size_alloc] at e2; omega
        have HL4 : Hid (L ++ [x.l] = endsOf _ ps (0 + 1)) := HE _ rfl
        have hLk4 : (L ++ [x.l]).length = 0 + 1 := by simp [hL']
        go_roundg (ps.length - (0 + 1))
        case measure => go_light; omega
        case rel => go_light; exact ⟨0 + 1, L ++ [x.l], A4, c4, by omega, rfl, rfl, rfl, hLk4, HL4, hD4, hb4, hP4, own4, hne4⟩
      ·
        have hL' : L.length = 0 := hLk
        go_wp2_with (at_builtin; refine app_list _ rfl (.tmp 20) (.tmp 27) _ rfl w.heap.size 3 i0 _ 1 8 Try.underlying29 hi0 hz0 hz1 hz2 rfl (by omega) (.slice A1 0 c1) 0 (L.map (Value.int .i64)) rfl (own1.alloc _) _ 1 _ [.int .i64 x.h] rfl rfl (NewsAt.block (cs := #[.int .i64 x.h]) (at_new rfl)) (by simp [Value.oneCell']) (by omega) (by omega) (by have h := hb.size; simp only [World.size_alloc]; omega) ?_; intro A4 c4 w4 hown4 hg4 hat4)
        have hba : Below wr.heap.size wr (wr.alloc (.cells #[.int .i64 x.h] 3)) := by go_grown
        have hr : ∀ q, (Value.slice A1 0 c1).ownBlock = some q → w.heap.size ≤ q := fun q hq => (own1.lt q hq).1
        have hb4 : Below w.heap.size w w4 := below_app (bthen hb hba) (own1.alloc (.cells #[.int .i64 x.h] 3)) hg4 (Nat.le_refl _) (Nat.le_trans hb.size hba.size)
        have hD4 := (hD.below hba).grown hg4 (fun e => hne e.symm)
        have hP4 := (((hP.below hba).more hba.size).grown hg4 (fun _ e => by have := hr _ e.symm; have := hb20 (by omega); omega)).more hg4.size
        have own4 : OwnI w.heap.size w4 (.slice A4 (0 + 1) c4) (L ++ [x.h]) := by unfold OwnI; rw [List.length_append, hL', List.map_append]; exact hown4
        have hne4 : (Value.slice A4 (0 + 1) c4).ownBlock ≠ some w.heap.size := fun e => by
          rcases hat4 with h1 | h1
          · rw [h1] at e; exact hne e
          · rw [h1] at e; have e2 := Option.some.inj e; have h3 := hD.ex; simp only [World.size_alloc] at e2; omega
        have HL4 : Hid (L ++ [x.h] = endsOf _ ps (0 + 1)) := HE _ rfl
        have hLk4 : (L ++ [x.h]).length = 0 + 1 := by simp [hL']
        go_roundg (ps.length - (0 + 1))
        case measure => go_light; omega
        case rel => go_light; exact ⟨0 + 1, L ++ [x.h], A4, c4, by omega, rfl, rfl, rfl, hLk4, HL4, hD4, hb4, hP4, own4, hne4⟩
      ·
        have hL' : L.length = 1 := hLk
        go_wp2_with (at_builtin; refine app_list _ rfl (.tmp 29) (.tmp 36) _ rfl w.heap.size 3 i0 _ 1 8 Try.underlying29 hi0 hz0 hz1 hz2 rfl (by omega) (.slice A1 1 c1) 1 (L.map (Value.int .i64)) rfl (own1.alloc _) _ 1 _ [.int .i64 x.l] rfl rfl (NewsAt.block (cs := #[.int .i64 x.l]) (at_new rfl)) (by simp [Value.oneCell']) (by omega) (by omega) (by have h := hb.size; simp only [World.size_alloc]; omega) ?_; intro A4 c4 w4 hown4 hg4 hat4)
        have hba : Below wr.heap.size wr (wr.alloc (.cells #[.int .i64 x.l] 3)) := by go_grown
        have hr : ∀ q, (Value.slice A1 1 c1).ownBlock = some q → w.heap.size ≤ q := fun q hq => (own1.lt q hq).1
        have hb4 : Below w.heap.size w w4 := below_app (bthen hb hba) (own1.alloc (.cells #[.int .i64 x.l] 3)) hg4 (Nat.le_refl _) (Nat.le_trans hb.size hba.size)
        have hD4 := (hD.below hba).grown hg4 (fun e => hne e.symm)
        have hP4 := (((hP.below hba).more hba.size).grown hg4 (fun _ e => by have := hr _ e.symm; have := hb20 (by omega); omega)).more hg4.size
        have own4 : OwnI w.heap.size w4 (.slice A4 (1 + 1) c4) (L ++ [x.l]) := by unfold OwnI; rw [List.length_append, hL', List.map_append]; exact hown4
        have hne4 : (Value.slice A4 (1 + 1) c4).ownBlock ≠ some w.heap.size := fun e => by
          rcases hat4 with h1 | h1
          · rw [h1] at e; exact hne e
          · rw [h1] at e; have e2 := Option.some.inj e; have h3 := hD.ex; simp only [World.size_alloc] at e2; omega
        have HL4 : Hid (L ++ [x.l] = endsOf _ ps (1 + 1)) := HE _ rfl
        have hLk4 : (L ++ [x.l]).length = 1 + 1 := by simp [hL']
        go_roundg (ps.length - (1 + 1))
        case measure => go_light; omega
        case rel => go_light; exact ⟨1 + 1, L ++ [x.l], A4, c4, by omega, rfl, rfl, rfl, hLk4, HL4, hD4, hb4, hP4, own4, hne4⟩
      ·
        have hL' : L.length = 1 := hLk
        go_wp2_with (at_builtin; refine app_list _ rfl (.tmp 29) (.tmp 36) _ rfl w.heap.size 3 i0 _ 1 8 Try.underlying29 hi0 hz0 hz1 hz2 rfl (by omega) (.slice A1 1 c1) 1 (L.map (Value.int .i64)) rfl (own1.alloc _) _ 1 _ [.int .i64 x.l] rfl rfl (NewsAt.block (cs := #[.int .i64 x.l]) (at_new rfl)) (by simp [Value.oneCell']) (by omega) (by omega) (by have h := hb.size; simp only [World.size_alloc]; omega) ?_; intro A4 c4 w4 hown4 hg4 hat4)
        have hba : Below wr.heap.size wr (wr.alloc (.cells #[.int .i64 x.l] 3)) := by go_grown
        have hr : ∀ q, (Value.slice A1 1 c1).ownBlock = some q → w.heap.size ≤ q := fun q hq => (own1.lt q hq).1
        have hb4 : Below w.heap.size w w4 := below_app (bthen hb hba) (own1.alloc (.cells #[.int .i64 x.l] 3)) hg4 (Nat.le_refl _) (Nat.le_trans hb.size hba.size)
        have hD4 := (hD.below hba).grown hg4 (fun e => hne e.symm)
        have hP4 := (((hP.below hba).more hba.size).grown hg4 (fun _ e => by have := hr _ e.symm; have := hb20 (by omega); omega)).more hg4.size
        have own4 : OwnI w.heap.size w4 (.slice A4 (1 + 1) c4) (L ++ [x.l]) := by unfold OwnI; rw [List.length_append, hL', List.map_append]; exact hown4
        have hne4 : (Value.slice A4 (1 + 1) c4).ownBlock ≠ some w.heap.size := fun e => by
          rcases hat4 with h1 | h1
          · rw [h1] at e; exact hne e
          · rw [h1] at e; have e2 := Option.some.inj e; have h3 := hD.ex; simp only [World.size_alloc] at e2; omega
        have HL4 : Hid (L ++ [x.l] = endsOf _ ps (1 + 1)) := HE _ rfl
        have hLk4 : (L ++ [x.l]).length = 1 + 1 := by simp [hL']
        go_roundg (ps.length - (1 + 1))
        case measure => go_light; omega
        case rel => go_light; exact ⟨1 + 1, L ++ [x.l], A4, c4, by omega, rfl, rfl, rfl, hLk4, HL4, hD4, hb4, hP4, own4, hne4⟩
      ·
        have hL' : L.length = 1 := hLk
        go_wp2_with (at_builtin; refine app_list _ rfl (.tmp 20) (.tmp 27) _ rfl w.heap.size 3 i0 _ 1 8 Try.underlying29 hi0 hz0 hz1 hz2 rfl (by omega) (.slice A1 1 c1) 1 (L.map (Value.int .i64)) rfl (own1.alloc _) _ 1 _ [.int .i64 x.h] rfl rfl (NewsAt.block (cs := #[.int .i64 x.h]) (at_new rfl)) (by simp [Value.oneCell']) (by omega) (by omega) (by have h := hb.size; simp only [World.size_alloc]; omega) ?_; intro A4 c4 w4 hown4 hg4 hat4)
        have hba : Below wr.heap.size wr (wr.alloc (.cells #[.int .i64 x.h] 3)) := by go_grown
        have hr : ∀ q, (Value.slice A1 1 c1).ownBlock = some q → w.heap.size ≤ q := fun q hq => (own1.lt q hq).1
        have hb4 : Below w.heap.size w w4 := below_app (bthen hb hba) (own1.alloc (.cells #[.int .i64 x.h] 3)) hg4 (Nat.le_refl _) (Nat.le_trans hb.size hba.size)
        have hD4 := (hD.below hba).grown hg4 (fun e => hne e.symm)
        have hP4 := (((hP.below hba).more hba.size).grown hg4 (fun _ e => by have := hr _ e.symm; have := hb20 (by omega); omega)).more hg4.size
        have own4 : OwnI w.heap.size w4 (.slice A4 (1 + 1) c4) (L ++ [x.h]) := by unfold OwnI; rw [List.length_append, hL', List.map_append]; exact hown4
        have hne4 : (Value.slice A4 (1 + 1) c4).ownBlock ≠ some w.heap.size := fun e => by
          rcases hat4 with h1 | h1
          · rw [h1] at e; exact hne e
          · rw [h1] at e; have e2 := Option.some.inj e; have h3 := hD.ex; simp only [World.size_alloc] at e2; omega
        have HL4 : Hid (L ++ [x.h] = endsOf _ ps (1 + 1)) := HE _ rfl
        have hLk4 : (L ++ [x.h]).length = 1 + 1 := by simp [hL']
        go_roundg (ps.length - (1 + 1))
        case measure => go_light; omega
        case rel => go_light; exact ⟨1 + 1, L ++ [x.h], A4, c4, by omega, rfl, rfl, rfl, hLk4, HL4, hD4, hb4, hP4, own4, hne4⟩
      ·
        have hL' : L.length = 1 := hLk
        go_wp2_with (at_builtin; refine app_list _ rfl (.tmp 20) (.tmp 27) _ rfl w.heap.size 3 i0 _ 1 8 Try.underlying29 hi0 hz0 hz1 hz2 rfl (by omega) (.slice A1 1 c1) 1 (L.map (Value.int .i64)) rfl (own1.alloc _) _ 1 _ [.int .i64 x.h] rfl rfl (NewsAt.block (cs := #[.int .i64 x.h]) (at_new rfl)) (by simp [Value.oneCell']) (by omega) (by omega) (by have h := hb.size; simp only [World.size_alloc]; omega) ?_; intro A4 c4 w4 hown4 hg4 hat4)
        have hba : Below wr.heap.size wr (wr.alloc (.cells #[.int .i64 x.h] 3)) := by go_grown
        have hr : ∀ q, (Value.slice A1 1 c1).ownBlock = some q → w.heap.size ≤ q := fun q hq => (own1.lt q hq).1
        have hb4 : Below w.heap.size w w4 := below_app (bthen hb hba) (own1.alloc (.cells #[.int .i64 x.h] 3)) hg4 (Nat.le_refl _) (Nat.le_trans hb.size hba.size)
        have hD4 := (hD.below hba).grown hg4 (fun e => hne e.symm)
        have hP4 := (((hP.below hba).more hba.size).grown hg4 (fun _ e => by have := hr _ e.symm; have := hb20 (by omega); omega)).more hg4.size
        have own4 : OwnI w.heap.size w4 (.slice A4 (1 + 1) c4) (L ++ [x.h]) := by unfold OwnI; rw [List.length_append, hL', List.map_append]; exact hown4
        have hne4 : (Value.slice A4 (1 + 1) c4).ownBlock ≠ some w.heap.size := fun e => by
          rcases hat4 with h1 | h1
          · rw [h1] at e; exact hne e
          · rw [h1] at e; have e2 := Option.some.inj e; have h3 := hD.ex; simp only [World.size_alloc] at e2; omega
        have HL4 : Hid (L ++ [x.h] = endsOf _ ps (1 + 1)) := HE _ rfl
        have hLk4 : (L ++ [x.h]).length = 1 + 1 := by simp [hL']
        go_roundg (ps.length - (1 + 1))
        case measure => go_light; omega
        case rel => go_light; exact ⟨1 + 1, L ++ [x.h], A4, c4, by omega, rfl, rfl, rfl, hLk4, HL4, hD4, hb4, hP4, own4, hne4⟩
    · obtain rfl : k = ps.length := by omega
      have hlk' : ¬ (ps.length : Int) < (ps.length : Int) := by omega
      go_wp2_with fail
      go_ret
      obtain ⟨g1, hr1⟩ := own_IntsR (xs := L) (by rw [hLk]; exact own)
      rw [HL.out] at hr1
      first | exact ⟨A1, c1, g1, rfl, hr1, hb⟩ | exact ⟨A1, ⟨c1, rfl⟩, ⟨g1, hr1⟩, hb⟩
end Go.Proofs.Ytdijfkpccbkdfaa
