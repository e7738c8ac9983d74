/-
 Chapter 2 of the reference: tables that are made row by row.
 Chapter 2 of the reference: the closed table, made anew for each third point.
 Chapter 2 of the reference: what fits; least and most.
-/
import Derived.Test.YtmnajkhoacogjaaGreatDoorS1
namespace Go.Proofs.YtmnajkhoacogjaaGreatDoor
set_option linter.unusedVariables false
set_option linter.unusedSimpArgs false
open Go.RowKit Pp

def rowsV (rb rc : Nat → Nat) (n i : Nat) : List Value := (List.range i).map fun j => .slice (some ⟨rb j, 0, none⟩) n (rc j)

/-- i rows of n numbers are made, and lie in a slice of the call's own. -/
structure RowsO (base : Nat) (w : World) (A : Option Addr) (c i n : Nat) (rb rc : Nat → Nat) (T : Tb) : Prop where
 own : w.ownsRow base 93 1 (.slice A i c) i (rowsV rb rc n i)
 blk : ∀ j, j < i → base ≤ rb j ∧ rb j < w.heap.size
 row : ∀ j q, j < i → q < n → w.cell? ⟨rb j, q, none⟩ = some (.int .i64 (T j q))
 ne : ∀ j, j < i → (Value.slice A i c).ownBlock ≠ some (rb j)

theorem RowsO.below {base : Nat} {w w' : World} {A : Option Addr} {c i n : Nat} {rb rc : Nat → Nat} {T : Tb} (h : RowsO base w A c i n rb rc T) (hb : Below w.heap.size w w') : RowsO base w' A c i n rb rc T :=
 ⟨own_below h.own hb, fun j hj => ⟨(h.blk j hj).1, Nat.lt_of_lt_of_le (h.blk j hj).2 hb.size⟩, fun j q hj hq => (hb.cell (p := ⟨rb j, q, none⟩) (h.blk j hj).2).trans (h.row j q hj hq), h.ne⟩

theorem own_type {w : World} {base : Nat} {e : TypeId} {size : Nat} {v : Value} {n : Nat} {xs : List Value} (h : w.ownsRow base e size v n xs) {g : Nat} (hg : v.ownBlock = some g) : ∃ cs, w.heap[g]? = some (.cells cs e (0, 0)) := by
 rcases h.2 with ⟨rfl, _⟩ | ⟨g', cap, cur, rfl, _, hh, _⟩
 ·simp [Value.ownBlock] at hg
 ·simp [Value.ownBlock] at hg; subst hg; exact ⟨cur, hh⟩
theorem own_ne {w : World} {base base' : Nat} {e e' : TypeId} {size size' : Nat} {v v' : Value} {n n' : Nat} {xs xs' : List Value} (h : w.ownsRow base e size v n xs) (h' : w.ownsRow base' e' size' v' n' xs') (he : e ≠ e') {g : Nat} (hg : v'.ownBlock = some g) : v.ownBlock ≠ some g := by
 intro hv
 obtain ⟨cs, h1⟩ := own_type h hv
 obtain ⟨cs', h2⟩ := own_type h' hg
 rw [h1] at h2
 injection h2 with h2
 injection h2 with _ h3
 exact he h3

/-- A row is put behind the others: w1: the row lies; w2: a block with the row's slice value has been made; w3: behind the append. -/
theorem RowsO.push {base base' : Nat} {w1 w2 w3 : World} {A A' A3 : Option Addr} {c c' c3 i n : Nat} {rb rc : Nat → Nat} {T : Tb} (h : RowsO base w1 A c i n rb rc T) (hbase : base ≤ base') (hn : 0 < n) (o : Obj)
  (hrow : w1.ownsRow base' 3 1 (.slice A' n c') n ((List.range n).map fun q => .int .i64 (T i q))) (hw2 : w2 = w1.alloc o)
  (hown : w3.ownsRow base 93 1 (.slice A3 (i + 1) c3) (i + 1) (rowsV rb rc n i ++ [.slice A' n c'])) (hg : w2.grownBy w3 (Value.slice A i c).ownBlock)
  (hat : (Value.slice A3 (i + 1) c3).ownBlock = (Value.slice A i c).ownBlock ∨ (Value.slice A3 (i + 1) c3).ownBlock = some w2.heap.size) :
  ∃ g, A' = some ⟨g, 0, none⟩ ∧ RowsO base w3 A3 c3 (i + 1) n (fun j => if j = i then g else rb j) (fun j => if j = i then c' else rc j) T := by
 obtain ⟨A2, g, c2, hv, hA, hb, hcell⟩ := own_form hrow
 injection hv with h1 h2 h3
 subst h1; subst h3
 have hA := hA hn
 obtain ⟨hb1, hb2⟩ := hb hn
 subst hA
 have hgo : (Value.slice A i c).ownBlock ≠ some g := own_ne h.own hrow (by decide) rfl
 have hs2 : w2.heap.size = w1.heap.size + 1 := by rw [hw2]; simp
 have hlt2 : g < w2.heap.size := by omega
 have hrv : rowsV (fun j => if j = i then g else rb j) (fun j => if j = i then c' else rc j) n (i + 1) = rowsV rb rc n i ++ [.slice (some ⟨g, 0, none⟩) n c'] := by
  unfold rowsV
  rw [List.range_succ, List.map_append]
  congr 1
  ·apply List.map_congr_left
   intro j hj
   have := List.mem_range.1 hj
   dsimp only
   rw [if_neg (by omega), if_neg (by omega)]
  ·simp
 have hold : ∀ j, j < i → ∀ q, w3.cell? ⟨rb j, q, none⟩ = w1.cell? ⟨rb j, q, none⟩ := by
  intro j hj q
  have hl := (h.blk j hj).2
  rw [hg.cell_far _ (by show rb j < _; omega) (fun e => h.ne j hj e.symm), hw2, World.cell?_alloc_past _ _ _ hl]
 refine ⟨g, rfl, ?_, ?_, ?_, ?_⟩
 ·rw [hrv]; exact hown
 ·intro j hj
  have := hg.size
  split
  ·omega
  ·have := h.blk j (by omega); omega
 ·intro j q hj hq
  by_cases e : j = i
  ·subst e
   rw [if_pos rfl, hg.cell_far _ (by show g < _; omega) (fun e => hgo e.symm), hw2, World.cell?_alloc_past _ _ _ hb2]
   exact hcell q _ (by simp [hq])
  ·rw [if_neg e, hold j (by omega)]
   exact h.row j q (by omega) hq
 ·intro j hj
  intro e
  rcases hat with hat | hat
  ·rw [hat] at e
   by_cases ej : j = i
   ·rw [if_pos ej] at e; exact hgo e
   ·rw [if_neg ej] at e; exact h.ne j (by omega) e
  ·rw [hat] at e
   by_cases ej : j = i
   ·rw [if_pos ej] at e; injection e with e; omega
   ·rw [if_neg ej] at e; injection e with e; have := (h.blk j (by omega)).2; omega

theorem RowsO.tab {base : Nat} {w : World} {A : Option Addr} {c n : Nat} {rb rc : Nat → Nat} {T : Tb} (h : RowsO base w A c n n rb rc T) (hn : 0 < n) : ∃ ob, A = some ⟨ob, 0, none⟩ ∧ TabR w w.heap.size ob rb rc n T := by
 obtain ⟨A2, g, c2, hv, hA, hb, hcell⟩ := own_form h.own
 injection hv with h1 h2 h3
 subst h1
 refine ⟨g, hA hn, fun i hi => hcell i _ (by simp [rowsV, hi]), fun i j hi hj => h.row i j hi hj, (hb hn).2, fun i hi => (h.blk i hi).2⟩

theorem RowsO.congr {base : Nat} {w : World} {A : Option Addr} {c i n : Nat} {rb rc : Nat → Nat} {T U : Tb} (h : RowsO base w A c i n rb rc T) (e : ∀ j q, j < i → q < n → T j q = U j q) : RowsO base w A c i n rb rc U :=
 ⟨h.own, h.blk, fun j q hj hq => by rw [h.row j q hj hq, e j q hj hq], h.ne⟩

theorem ent_fold_snoc (i j : Nat) (bs : List Bd) (k : Nat) (x : Bd) (h : bs[k]? = some x) : (bs.take (k + 1)).foldl (ent i j) (if i = j then 0 else Far) = ent i j ((bs.take k).foldl (ent i j) (if i = j then 0 else Far)) x := by
 obtain ⟨hlt, rfl⟩ := List.getElem?_eq_some_iff.1 h
 rw [List.take_succ_eq_append_getElem hlt, List.foldl_append]
 rfl

theorem infoS' : (Tryz.prog.info? 93).map (fun i => (i.zero, i.size, i.bytes)) = some (some (.slice none 0 0), 1, 24) := by kernel_rfl

theorem RowsO.less {base base' : Nat} {w : World} {A : Option Addr} {c i n : Nat} {rb rc : Nat → Nat} {T : Tb} (h : RowsO base w A c i n rb rc T) (hb : base' ≤ base) : RowsO base' w A c i n rb rc T :=
 ⟨own_less h.own hb, fun j hj => ⟨Nat.le_trans hb (h.blk j hj).1, (h.blk j hj).2⟩, h.row, h.ne⟩
theorem rows_none (base : Nat) (w : World) (cs : Array Value) (hb : base ≤ w.heap.size) (hcs : cs.size = 0) (n : Nat) (T : Tb) : RowsO base (w.alloc (.cells cs 93)) (some ⟨w.heap.size, 0, none⟩) 0 0 n (fun _ => 0) (fun _ => 0) T :=
 ⟨World.ownsRow_made w cs 0 hb (by unfold maxLen; omega) (by omega), fun j hj => absurd hj (Nat.not_lt_zero _), fun j q hj => absurd hj (Nat.not_lt_zero _), fun j hj => absurd hj (Nat.not_lt_zero _)⟩

set_option maxHeartbeats 4000000 in
set_option maxRecDepth 100000 in
theorem l2Table_c (m : Nat) (bs : List Bd) (A : Option Addr) (b o c B : Nat) (w : World) (hm1 : 1 ≤ m) (hm2 : m ≤ 100) (hn : bs.length ≤ 2000000) (hB : B ≤ w.heap.size) (hR : BdsR w B b o A bs) :
  Calls Tryz.prog 133 #[.agg #[.int .i64 m, .slice A bs.length c]] w fun e w' => ∃ A1 c1 rb rc, e = .returned (.slice A1 m c1) ∧ RowsO w.heap.size w' A1 c1 m m rb rc (tab0 bs) ∧ Below w.heap.size w w' := by
 obtain ⟨i0, hi0, hz0, hz1, hz2⟩ := info_parts infoI
 obtain ⟨i1, hi1, hy0, hy1, hy2⟩ := info_parts infoS'
 go_enter Tryz.func133, Tryz.ntmps133
 go_wp2_with fail
 have hbox := (BoxP.new w m A bs.length c 34).below (Below.alloc (Below.refl _ _) (Nat.le_refl _) (.cells #[] 93)) (by simp)
 have hW0 : Below w.heap.size w ((w.alloc (.cells #[.int .i64 m, .slice A bs.length c] 34)).alloc (.cells #[] 93)) := by go_grown
 have hO := rows_none (w.heap.size + 1) (w.alloc (.cells #[.int .i64 m, .slice A bs.length c] 34)) #[] (by simp) rfl m (tab0 bs)
 simp only [World.size_alloc] at hO
 have hsz : ((w.alloc (.cells #[.int .i64 m, .slice A bs.length c] 34)).alloc (.cells #[] 93)).heap.size = w.heap.size + 2 := by simp
 generalize (w.alloc (.cells #[.int .i64 m, .slice A bs.length c] 34)).alloc (.cells #[] 93) = W at *
 go_loopg [3, 4] m (fun g s i wr => ∃ k : Nat, k ≤ m ∧ g = m - k ∧ i = .int .i64 k ∧ Below (w.heap.size + 1) W wr ∧ ∃ A1 c1 rb rc, s = .slice A1 k c1 ∧ RowsO (w.heap.size + 1) wr A1 c1 k m rb rc (tab0 bs))
 case atStart => exact ⟨0, Nat.zero_le _, rfl, rfl, Below.refl _ _, _, _, _, _, rfl, hO⟩
 case round =>
  clear hO
  obtain ⟨i, hi, rfl, rfl, hb, A1, c1, rb, rc, rfl, hO⟩ := hrel
  obtain ⟨x0, x1⟩ := hbox.below hb (by omega)
  have hwr := hb.size
  by_cases hlt : i < m
  ·have hz : (i : Int) < (m : Int) := by omega
   obtain ⟨wo, rfl⟩ : ∃ wo : World, wo = wr := ⟨_, rfl⟩
   have hlb : w.heap.size < wo.heap.size := by omega
   go_wp2
   go_loopg [5, 6] m (fun g s jv wm => ∃ j : Nat, j ≤ m ∧ g = m - j ∧ jv = .int .i64 j ∧ Below wo.heap.size wo wm ∧ ∃ A2 c2, s = .slice A2 j c2 ∧ wm.ownsRow wo.heap.size 3 1 (.slice A2 j c2) j ((List.range j).map fun q => .int .i64 (tab0 bs i q)))
   case atStart => exact ⟨0, Nat.zero_le _, rfl, rfl, by go_grown, _, _, rfl, World.ownsRow_made wo #[] 0 (Nat.le_refl _) (by unfold maxLen; omega) rfl⟩
   case round =>
    obtain ⟨j, hj, rfl, rfl, hbm, A2, c2, rfl, hrow⟩ := hrel
    obtain ⟨wm, rfl⟩ : ∃ wm : World, wm = wr := ⟨_, rfl⟩
    have y0 : wm.cell? ⟨w.heap.size, 0, none⟩ = some (.int .i64 m) := (hbm.cell (p := ⟨w.heap.size, 0, none⟩) hlb).trans x0
    have y1 : wm.cell? ⟨w.heap.size, 1, none⟩ = some (.slice A bs.length c) := (hbm.cell (p := ⟨w.heap.size, 1, none⟩) hlb).trans x1
    have hwm := hbm.size
    clear x0 x1
    by_cases hltj : j < m
    ·have hzj : (j : Int) < (m : Int) := by omega
     by_cases hij : i = j
     all_goals
      first | (have hij' : ((i : Int) == (j : Int)) = true := by simp [hij]) | (have hij' : ((i : Int) == (j : Int)) = false := by simp; omega)
      have Hij := hide hij
      clear hij
      go_wp2
      go_loopg [7, 8] bs.length (fun g s kv wk => wm = wk ∧ ∃ k : Nat, k ≤ bs.length ∧ g = bs.length - k ∧ kv = .int .i64 k ∧ s = .int .i64 ((bs.take k).foldl (ent i j) (if i = j then 0 else Far)))
      case atStart => exact ⟨rfl, 0, Nat.zero_le _, rfl, rfl, by rw [List.take_zero, List.foldl_nil]; first | rw [if_pos Hij.out] | (rw [if_neg Hij.out]; rfl)⟩
      case round =>
       obtain ⟨rfl, k, hk, rfl, rfl, rfl⟩ := hrel
       by_cases hltk : k < bs.length
       ·obtain rfl := hR.addr (by omega)
        have hx := List.getElem?_eq_getElem hltk
        have hR' := hR.below (((hW0.trans (hb.mono (by omega))).trans (hbm.mono (by omega))).mono hB)
        have d0 := hR'.c0 k _ hx
        have d1 := hR'.c1 k _ hx
        have d2 := hR'.c2 k _ hx
        have hzk : (k : Int) < (bs.length : Int) := by omega
        have hS : Hid _ := ent_fold_snoc i j bs k _ hx
        generalize (bs.take k).foldl (ent i j) (if i = j then 0 else Far) = F at *
        generalize bs[k] = x at *
        clear hx hR'
        by_cases h1 : x.f = (i : Int)
        ·by_cases h2 : x.t = (j : Int)
         ·have k1 : (x.f == (i : Int)) = true := by simp [h1]
          have k2 : (x.t == (j : Int)) = true := by simp [h2]
          have H1 := hide h1
          have H2 := hide h2
          clear h1 h2
          go_wp2
          all_goals
           go_roundg (bs.length - (k + 1))
           case measure => go_light; omega
           case rel =>
            go_light
            refine ⟨rfl, k + 1, by omega, rfl, by go_num, ?_⟩
            rw [hS.out]; unfold ent; rw [if_pos ⟨H1.out, H2.out⟩]
            first
             | rfl
             | (have hm : min F x.m = x.m := by omega
                rw [hm])
             | (have hm : min F x.m = F := by omega
                rw [hm])
         ·have k1 : (x.f == (i : Int)) = true := by simp [h1]
          have k2 : (x.t == (j : Int)) = false := by simp [h2]
          have H2 := hide h2
          clear h1 h2
          go_wp2
          go_roundg (bs.length - (k + 1))
          case measure => go_light; omega
          case rel => go_light; exact ⟨rfl, k + 1, by omega, rfl, by go_num, by rw [hS.out]; unfold ent; rw [if_neg (fun q => H2.out q.2)]⟩
        ·have k1 : (x.f == (i : Int)) = false := by simp [h1]
         have H1 := hide h1
         clear h1
         go_wp2
         go_roundg (bs.length - (k + 1))
         case measure => go_light; omega
         case rel => go_light; exact ⟨rfl, k + 1, by omega, rfl, by go_num, by rw [hS.out]; unfold ent; rw [if_neg (fun q => H1.out q.1)]⟩
       ·have hnz : ¬ ((k : Int) < (bs.length : Int)) := by omega
        have hF : (bs.take k).foldl (ent i j) (if i = j then 0 else Far) = tab0 bs i j := by rw [List.take_of_length_le (by omega)]; rfl
        rw [hF]
        have HF := hide hF
        clear hF
        generalize hfv : tab0 bs i j = F at *
        have Hfv := hide hfv
        clear hfv
        go_wp2_with (at_builtin; refine app_list _ rfl (.tmp 59) (.tmp 61) _ rfl wo.heap.size 3 i0 _ 1 8 Tryz.underlying93 hi0 hz0 hz1 hz2 rfl (by omega) _ _ _ rfl (hrow.alloc _) (some ⟨wm.heap.size, 0, none⟩) 1 1 [.int .i64 F] rfl rfl (NewsAt.block (heap_alloc_new wm _)) (by simp [Value.oneCell']) (by omega) (by omega) (by simp; omega) ?_; intro A3 c3 w2 hown2 hg2 hat2)
        go_roundg (m - (j + 1))
        case measure => go_light; omega
        case rel =>
         go_light
         refine ⟨j + 1, by omega, rfl, by go_num, below_app (hbm.alloc hwm _) (hrow.alloc _) hg2 (Nat.le_refl _) (by simp; omega), A3, c3, rfl, ?_⟩
         rw [List.range_succ, List.map_append, List.map_singleton, Hfv.out]
         exact hown2
    ·obtain rfl : m = j := by omega
     have hO' := hO.below hbm
     go_wp2_with (at_builtin; refine app_list _ rfl (.tmp 63) (.tmp 65) _ rfl (w.heap.size + 1) 93 i1 _ 1 24 Tryz.underlying88 hi1 hy0 hy1 hy2 rfl (by omega) _ _ _ rfl (hO'.own.alloc _) (some ⟨wm.heap.size, 0, none⟩) 1 1 [.slice A2 m c2] rfl rfl (NewsAt.block (heap_alloc_new wm _)) (by simp [Value.oneCell']) (by omega) (by omega) (by simp; omega) ?_; intro A3 c3 w2 hown2 hg2 hat2)
     go_roundg (m - (i + 1))
     case measure => go_light; omega
     case rel =>
      go_light
      obtain ⟨g, _, hP⟩ := hO'.push (by omega) hm1 _ hrow rfl hown2 hg2 hat2
      exact ⟨i + 1, by omega, rfl, by go_num, below_app ((hb.trans (hbm.mono (by omega))).alloc (by omega) _) (hO'.own.alloc _) hg2 (Nat.le_refl _) (by simp; omega), A3, c3, _, _, rfl, hP⟩
  ·obtain rfl : m = i := by omega
   go_wp2
   go_ret
   exact ⟨A1, c1, rb, rc, rfl, hO.less (by omega), hW0.trans (hb.mono (by omega))⟩

set_option maxHeartbeats 8000000 in
set_option maxRecDepth 100000 in
theorem l2Closed_c (m : Nat) (bs : List Bd) (A : Option Addr) (b o c B : Nat) (w : World) (hm1 : 1 ≤ m) (hm2 : m ≤ 100) (hn : bs.length ≤ 2000000) (hB : B ≤ w.heap.size) (hR : BdsR w B b o A bs)
  (hlow : ∀ k, k ≤ m → Low m (clo (tab0 bs) k)) :
  Calls Tryz.prog 132 #[.agg #[.int .i64 m, .slice A bs.length c]] w fun e w' => ∃ ob c1 rb rc, e = .returned (.slice (some ⟨ob, 0, none⟩) m c1) ∧ TabR w' w'.heap.size ob rb rc m (clo (tab0 bs) m) ∧ Below w.heap.size w w' := by
 obtain ⟨i0, hi0, hz0, hz1, hz2⟩ := info_parts infoI
 obtain ⟨i1, hi1, hy0, hy1, hy2⟩ := info_parts infoS'
 have Hlow := hide hlow
 clear hlow
 go_enter Tryz.func132, Tryz.ntmps132
 have hbox := BoxP.new w m A bs.length c 34
 go_wp2_with (go_at_call 133; refine (l2Table_c m bs A b o c B _ hm1 hm2 hn (by simp only [World.size_alloc, World.size_drew]; omega) (hR.below ((show Below w.heap.size w _ by go_grown).mono hB))).mono ?_; rintro e W ⟨A1, c1, rb, rc, rfl, hO, hb⟩)
 obtain ⟨ob, rfl, hT⟩ := hO.tab (by omega)
 have hbx := hbox.below hb (by simp)
 have hW0 : Below w.heap.size w W := bthen (by go_grown) hb
 have hsz : w.heap.size < W.heap.size := by have := hb.size; simp only [World.size_alloc] at this; omega
 clear hbox hO hb
 go_loopg [3, 4] m (fun g s kv wr => ∃ k : Nat, k ≤ m ∧ g = m - k ∧ kv = .int .i64 k ∧ Below W.heap.size W wr ∧ ∃ ob c1 rb rc, s = .slice (some ⟨ob, 0, none⟩) m c1 ∧ TabR wr wr.heap.size ob rb rc m (clo (tab0 bs) k))
 case atStart => exact ⟨0, Nat.zero_le _, rfl, rfl, Below.refl _ _, ob, c1, rb, rc, rfl, hT⟩
 case round =>
  clear hT
  obtain ⟨k, hk, rfl, rfl, hb, ob, c1, rb, rc, rfl, hT⟩ := hrel
  obtain ⟨wo, rfl⟩ : ∃ wo : World, wo = wr := ⟨_, rfl⟩
  have hwo := hb.size
  obtain ⟨x0, x1⟩ := hbx.below hb hsz
  by_cases hlt : k < m
  ·have hz : (k : Int) < (m : Int) := by omega
   have hL := Hlow.out k hk
   have hle : ∀ i j, clo (tab0 bs) k i j ≤ Far := fun i j => Int.le_trans (clo_le _ _ i j) (tab0_le _ i j).1
   have hrx : Hid (clo (tab0 bs) (k + 1) = relax k (clo (tab0 bs) k)) := rfl
   generalize clo (tab0 bs) k = X at *
   have HL := hide hL
   have Hle := hide hle
   clear hL hle
   go_wp2_with fail
   have hO := rows_none wo.heap.size wo #[] (Nat.le_refl _) rfl m (relax k X)
   go_loopg [5, 6] m (fun g s iv wm => ∃ i : Nat, i ≤ m ∧ g = m - i ∧ iv = .int .i64 i ∧ Below wo.heap.size wo wm ∧ ∃ A2 c2 rb2 rc2, s = .slice A2 i c2 ∧ RowsO wo.heap.size wm A2 c2 i m rb2 rc2 (relax k X))
   case atStart => exact ⟨0, Nat.zero_le _, rfl, rfl, by go_grown, _, _, _, _, rfl, hO⟩
   case round =>
    clear hO
    obtain ⟨i, hi, rfl, rfl, hbm, A2, c2, rb2, rc2, rfl, hO⟩ := hrel
    obtain ⟨wm, rfl⟩ : ∃ wm : World, wm = wr := ⟨_, rfl⟩
    have hwm := hbm.size
    have y0 : wm.cell? ⟨w.heap.size, 0, none⟩ = some (.int .i64 m) := (hbm.cell (p := ⟨w.heap.size, 0, none⟩) (by show w.heap.size < _; omega)).trans x0
    by_cases hlti : i < m
    ·have hzi : (i : Int) < (m : Int) := by omega
     have hgl : w.heap.size < wm.heap.size := by omega
     go_wp2_with fail
     go_loopg [7, 8] m (fun g s jv wj => ∃ j : Nat, j ≤ m ∧ g = m - j ∧ jv = .int .i64 j ∧ Below wm.heap.size wm wj ∧ ∃ A3 c3, s = .slice A3 j c3 ∧ wj.ownsRow wm.heap.size 3 1 (.slice A3 j c3) j ((List.range j).map fun q => .int .i64 (relax k X i q)))
     case atStart => exact ⟨0, Nat.zero_le _, rfl, rfl, by go_grown, _, _, rfl, World.ownsRow_made wm #[] 0 (Nat.le_refl _) (by unfold maxLen; omega) rfl⟩
     case round =>
      obtain ⟨j, hj, rfl, rfl, hbj, A3, c3, rfl, hrow⟩ := hrel
      obtain ⟨wj, rfl⟩ : ∃ wj : World, wj = wr := ⟨_, rfl⟩
      have hwj := hbj.size
      have z0 : wj.cell? ⟨w.heap.size, 0, none⟩ = some (.int .i64 m) := (hbj.cell (p := ⟨w.heap.size, 0, none⟩) hgl).trans y0
      have hT' := hT.below (hbm.trans (hbj.mono hwm))
      by_cases hltj : j < m
      ·have hzj : (j : Int) < (m : Int) := by omega
       have t1 := hT'.top i hlti
       have t2 := hT'.top k hlt
       have t3 := hT'.row i j hlti hltj
       have t4 := hT'.row i k hlti hlt
       have t5 := hT'.row k j hlt hltj
       have l1 := HL.out i k hlti hlt
       have l2 := HL.out k j hlt hltj
       have l3 := Hle.out i k
       have l4 := Hle.out k j
       have hrv : relax k X i j = if X i k < 100000 ∧ X k j < 100000 then min (X i j) (X i k + X k j) else X i j := rfl
       unfold Far at l3 l4
       clear hT' y0
       generalize X i k = p at *
       generalize X k j = q at *
       generalize X i j = r at *
       have Hrv := hide hrv
       clear hrv
       by_cases g1 : p < 100000
       ·by_cases g2 : q < 100000
        ·go_wp2_with fail
         go_region
         go_wp2_with (at_builtin; refine app_list _ rfl (.tmp 74) (.tmp 76) _ rfl wm.heap.size 3 i0 _ 1 8 Tryz.underlying93 hi0 hz0 hz1 hz2 rfl (by omega) _ _ _ rfl ((hrow.alloc _).drew) (some ⟨wj.heap.size, 0, none⟩) 1 1 [.int .i64 _] rfl rfl (NewsAt.block (heap_alloc_new wj _)) (by simp [Value.oneCell']) (by omega) (by omega) (by simp; omega) ?_; intro A4 c4 w2 hown2 hg2 hat2)
         all_goals
          go_roundg (m - (j + 1))
          case measure => go_light; omega
          case rel =>
           go_light
           refine ⟨j + 1, by omega, rfl, by go_num, below_app (hbj.alloc hwj _).drew ((hrow.alloc _).drew) hg2 (Nat.le_refl _) (by simp; omega), A4, c4, rfl, ?_⟩
           rw [List.range_succ, List.map_append, List.map_singleton, Hrv.out, if_pos ⟨g1, g2⟩]
           have hm : min r (p + q) = if p + q < r then p + q else r := by split <;> omega
           rw [hm]; exact hown2
        ·have g2' : decide (q < 100000) = false := by simp; omega
         go_wp2_with (at_builtin; refine app_list _ rfl (.tmp 74) (.tmp 76) _ rfl wm.heap.size 3 i0 _ 1 8 Tryz.underlying93 hi0 hz0 hz1 hz2 rfl (by omega) _ _ _ rfl (hrow.alloc _) (some ⟨wj.heap.size, 0, none⟩) 1 1 [.int .i64 r] rfl rfl (NewsAt.block (heap_alloc_new wj _)) (by simp [Value.oneCell']) (by omega) (by omega) (by simp; omega) ?_; intro A4 c4 w2 hown2 hg2 hat2)
         go_roundg (m - (j + 1))
         case measure => go_light; omega
         case rel =>
          go_light
          refine ⟨j + 1, by omega, rfl, by go_num, below_app (hbj.alloc hwj _) (hrow.alloc _) hg2 (Nat.le_refl _) (by simp; omega), A4, c4, rfl, ?_⟩
          rw [List.range_succ, List.map_append, List.map_singleton, Hrv.out, if_neg (by omega)]
          exact hown2
       ·have g1' : decide (p < 100000) = false := by simp; omega
        go_wp2_with (at_builtin; refine app_list _ rfl (.tmp 74) (.tmp 76) _ rfl wm.heap.size 3 i0 _ 1 8 Tryz.underlying93 hi0 hz0 hz1 hz2 rfl (by omega) _ _ _ rfl (hrow.alloc _) (some ⟨wj.heap.size, 0, none⟩) 1 1 [.int .i64 r] rfl rfl (NewsAt.block (heap_alloc_new wj _)) (by simp [Value.oneCell']) (by omega) (by omega) (by simp; omega) ?_; intro A4 c4 w2 hown2 hg2 hat2)
        go_roundg (m - (j + 1))
        case measure => go_light; omega
        case rel =>
         go_light
         refine ⟨j + 1, by omega, rfl, by go_num, below_app (hbj.alloc hwj _) (hrow.alloc _) hg2 (Nat.le_refl _) (by simp; omega), A4, c4, rfl, ?_⟩
         rw [List.range_succ, List.map_append, List.map_singleton, Hrv.out, if_neg (by omega)]
         exact hown2
      ·obtain rfl : m = j := by omega
       have hO' := hO.below hbj
       clear hT'
       go_wp2_with (at_builtin; refine app_list _ rfl (.tmp 78) (.tmp 80) _ rfl wo.heap.size 93 i1 _ 1 24 Tryz.underlying88 hi1 hy0 hy1 hy2 rfl (by omega) _ _ _ rfl (hO'.own.alloc _) (some ⟨wj.heap.size, 0, none⟩) 1 1 [.slice A3 m c3] rfl rfl (NewsAt.block (heap_alloc_new wj _)) (by simp [Value.oneCell']) (by omega) (by omega) (by simp; omega) ?_; intro A4 c4 w2 hown2 hg2 hat2)
       go_roundg (m - (i + 1))
       case measure => go_light; omega
       case rel =>
        go_light
        obtain ⟨g, _, hP⟩ := hO'.push hwm hm1 _ hrow rfl hown2 hg2 hat2
        exact ⟨i + 1, by omega, rfl, by go_num, below_app ((hbm.trans (hbj.mono hwm)).alloc (by omega) _) (hO'.own.alloc _) hg2 (Nat.le_refl _) (by simp; omega), A4, c4, _, _, rfl, hP⟩
    ·obtain rfl : m = i := by omega
     obtain ⟨ob2, rfl, hT2⟩ := hO.tab hm1
     go_wp2
     go_roundg (m - (k + 1))
     case measure => go_light; omega
     case rel =>
      go_light
      refine ⟨k + 1, by omega, rfl, by go_num, hb.trans (hbm.mono hwo), ob2, c2, rb2, rc2, rfl, ?_⟩
      rw [hrx.out]; exact hT2
  ·obtain rfl : m = k := by omega
   go_wp2
   go_ret
   exact ⟨ob, c1, rb, rc, rfl, hT, hW0.trans (hb.mono (by omega))⟩

set_option maxRecDepth 100000 in
theorem l2Fits_c (T : Tb) (m c ob B : Nat) (rb rc : Nat → Nat) (w : World) (hm : m ≤ 1000) (hT : TabR w B ob rb rc m T) :
  Calls Tryz.prog 138 #[.slice (some ⟨ob, 0, none⟩) m c] w fun e w' => e = .returned (.bool (diagOk m T)) ∧ w = w' := by
 go_enter Tryz.func138, Tryz.ntmps138
 go_wp2
 go_loopg [3] m (fun g s wj => w = wj ∧ ∃ j : Nat, j ≤ m ∧ g = m - j ∧ s = .int .i64 j ∧ Hid (∀ i, i < j → 0 ≤ T i i))
 case atStart => exact ⟨rfl, 0, Nat.zero_le _, rfl, rfl, fun _ h => absurd h (Nat.not_lt_zero _)⟩
 case round =>
  obtain ⟨rfl, j, hj, rfl, rfl, Hall⟩ := hrel
  by_cases hlt : j < m
  ·have hz : (j : Int) < (m : Int) := by omega
   have t1 := hT.top j hlt
   have t2 := hT.row j j hlt hlt
   by_cases g : T j j < 0
   ·go_wp2
    go_ret
    refine ⟨?_, rfl⟩
    have hd : diagOk m T = false := by
     rw [Bool.eq_false_iff]
     intro h
     have := diagOk_iff.1 h j hlt
     omega
    rw [hd]; rfl
   ·go_wp2
    go_roundg (m - (j + 1))
    case measure => go_light; omega
    case rel =>
     go_light
     exact ⟨rfl, j + 1, by omega, rfl, by go_num, fun i hi => by
      by_cases e : i = j
      ·subst e; omega
      ·exact Hall.out i (by omega)⟩
  ·go_wp2
   go_ret
   refine ⟨?_, rfl⟩
   have hd : diagOk m T = true := diagOk_iff.2 fun i hi => Hall.out i (by omega)
   rw [hd]; rfl

/-- The reference's closed table of a plan. -/
theorem sClosed_c (p : Pl) (A : Option Addr) (b o c B : Nat) (w : World) (hp : planOk p = true) (hB : B ≤ w.heap.size) (hR : BdsR w B b o A p.bs) :
  Calls Tryz.prog 132 #[.agg #[.int .i64 p.n, .slice A p.bs.length c]] w fun e w' => ∃ ob c1 rb rc, e = .returned (.slice (some ⟨ob, 0, none⟩) (nn p) c1) ∧ TabR w' w'.heap.size ob rb rc (nn p) (clT p) ∧ Below w.heap.size w w' := by
 have hn := nn_ok hp
 have hs := small_ok hn.1 (by omega) (by omega) (within_of_ok hp)
 have hl := (planOk_iff.1 hp).2.1
 rw [← hn.2.2]
 exact l2Closed_c (nn p) p.bs A b o c B w hn.2.1 (by omega) (by omega) hB hR hs.2

set_option maxHeartbeats 1000000 in
set_option maxRecDepth 100000 in
theorem sFitsOk_c (p : Pl) (A : Option Addr) (b o c B : Nat) (w : World) (hn : p.bs.length ≤ 2000000) (hB : B ≤ w.heap.size) (hR : BdsR w B b o A p.bs) :
  Calls Tryz.prog 131 #[.agg #[.int .i64 p.n, .slice A p.bs.length c]] w fun e w' => e = .returned (.bool (fits p)) ∧ Below w.heap.size w w' := by
 cases hp : planOk p
 ·have e : fits p = false := by unfold fits; rw [hp]; rfl
  rw [e]
  have Hp := hide hp
  clear hp e
  obtain ⟨n, bs⟩ := p
  dsimp only at *
  go_enter Tryz.func131, Tryz.ntmps131
  go_wp2_with (go_at_call 36; refine (sPlanOk_c ⟨n, bs⟩ A b o c B _ hn (by simp only [World.size_alloc, World.size_drew]; omega) (hR.below ((show Below w.heap.size w _ by go_grown).mono hB))).mono ?_; rintro e w' ⟨rfl, hb⟩; rw [Hp.out]; obtain ⟨hc, hf⟩ := bcell hb; have hz := hb.size; (try simp only [World.size_alloc] at hz); have hz0 : w.heap.size < w'.heap.size := (by omega); have hW : Below w.heap.size w w' := bthen (by go_grown) hb)
  go_ret
  exact ⟨rfl, hW⟩
 ·have e : fits p = diagOk (nn p) (clT p) := by unfold fits; rw [hp]; rfl
  rw [e]
  have hnn := nn_ok hp
  have Hp := hide hp
  clear hp e
  generalize hr : diagOk (nn p) (clT p) = r
  have Hr := hide hr
  clear hr
  obtain ⟨hn6, _, _⟩ := hnn
  obtain ⟨n, bs⟩ := p
  dsimp only at *
  go_enter Tryz.func131, Tryz.ntmps131
  go_wp2_with (first
   | (go_at_call 36; refine (sPlanOk_c ⟨n, bs⟩ A b o c B _ hn (by simp only [World.size_alloc, World.size_drew]; omega) (hR.below ((show Below w.heap.size w _ by go_grown).mono hB))).mono ?_; rintro e w' ⟨rfl, hb⟩; rw [Hp.out]; obtain ⟨hc, hf⟩ := bcell hb; have hz := hb.size; (try simp only [World.size_alloc] at hz); have hz0 : w.heap.size < w'.heap.size := (by omega); have hW : Below w.heap.size w w' := bthen (by go_grown) hb)
   | (go_at_call 132; refine (sClosed_c ⟨n, bs⟩ A b o c B _ Hp.out (Nat.le_trans hB hW.size) (hR.below (hW.mono hB))).mono ?_; rintro e w2 ⟨ob, c1, rb, rc, rfl, hT, hb2⟩; have hW2 := bthen hW hb2)
   | (go_at_call 138; refine (l2Fits_c _ _ c1 ob _ rb rc _ (by omega) hT).mono ?_; rintro e w3 ⟨rfl, rfl⟩; rw [Hr.out]))
  go_ret
  exact ⟨rfl, hW2⟩
end Go.Proofs.YtmnajkhoacogjaaGreatDoor
