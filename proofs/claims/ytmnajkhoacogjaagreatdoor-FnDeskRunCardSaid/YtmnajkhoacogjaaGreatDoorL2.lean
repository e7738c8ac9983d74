/-
 Chapter 2 of the program: tables.
 Chapter 2 of the program: a table is closed in place.
 Chapter 2 of the program: the closed table of a plan, and what is asked of it.
-/
import Derived.Test.YtmnajkhoacogjaaGreatDoorL1
namespace Go.Proofs.YtmnajkhoacogjaaGreatDoor
set_option linter.unusedVariables false
set_option linter.unusedSimpArgs false
open Go.RowKit Pp

/-- A table that lies in blocks of its own. -/
structure Tab (w : World) (ob : Nat) (rb : Nat → Nat) (n : Nat) (T : Tb) : Prop where
 top : w.rowIs ob 93 n (fun i => .slice (some ⟨rb i, 0, none⟩) n n)
 row : ∀ i, i < n → w.rowIs (rb i) 3 n (fun j => .int .i64 (T i j))
 ne : ∀ i, i < n → rb i ≠ ob
 inj : ∀ i j, i < n → j < n → rb i = rb j → i = j

section
variable {w : World} {ob : Nat} {rb : Nat → Nat} {n : Nat} {T : Tb}
theorem Tab.set (h : Tab w ob rb n T) {i j : Nat} (hi : i < n) (x : Int) : Tab (w.setCell ⟨rb i, j, none⟩ (.int .i64 x)) ob rb n (upd T i j x) := by
 refine ⟨h.top.setOther (fun e => h.ne i hi e.symm) _, fun a ha => ?_, h.ne, h.inj⟩
 by_cases e : a = i
 ·subst e
  refine ((h.row a ha).set j _).congr (fun b _ => ?_)
  simp only [upd, true_and]
  split <;> rfl
 ·refine ((h.row a ha).setOther (fun e' => e (h.inj a i ha hi e')) _).congr (fun b _ => ?_)
  simp [upd, e]
theorem Tab.drew (h : Tab w ob rb n T) : Tab w.drew ob rb n T := ⟨h.top.drew, fun i hi => (h.row i hi).drew, h.ne, h.inj⟩
theorem Tab.alloc (h : Tab w ob rb n T) (o : Obj) : Tab (w.alloc o) ob rb n T := ⟨h.top.alloc o, fun i hi => (h.row i hi).alloc o, h.ne, h.inj⟩
theorem Tab.congr {U : Tb} (h : Tab w ob rb n T) (e : EqT n T U) : Tab w ob rb n U :=
 ⟨h.top, fun i hi => (h.row i hi).congr (fun j hj => by rw [e i j hi hj]), h.ne, h.inj⟩
theorem rowIs_below {B b t n : Nat} {f : Nat → Value} {w w' : World} (h : w.rowIs b t n f) (hb : Below B w w') (hB : b < B) : w'.rowIs b t n f := h.of_block (hb.block b hB)
theorem Tab.below {B : Nat} {w' : World} (h : Tab w ob rb n T) (hb : Below B w w') (h1 : ob < B) (h2 : ∀ i, i < n → rb i < B) : Tab w' ob rb n T :=
 ⟨rowIs_below h.top hb h1, fun i hi => rowIs_below (h.row i hi) hb (h2 i hi), h.ne, h.inj⟩
theorem Tab.lt1 (h : Tab w ob rb n T) : ob < w.heap.size := h.top.lt
theorem Tab.lt2 (h : Tab w ob rb n T) : ∀ i, i < n → rb i < w.heap.size := fun i hi => (h.row i hi).lt
end

/-- A table that is read. -/
structure TabR (w : World) (B ob : Nat) (rb rc : Nat → Nat) (n : Nat) (T : Tb) : Prop where
 top : ∀ i, i < n → w.cell? ⟨ob, i, none⟩ = some (.slice (some ⟨rb i, 0, none⟩) n (rc i))
 row : ∀ i j, i < n → j < n → w.cell? ⟨rb i, j, none⟩ = some (.int .i64 (T i j))
 lt1 : ob < B
 lt2 : ∀ i, i < n → rb i < B
theorem Tab.reads {w : World} {ob : Nat} {rb : Nat → Nat} {n : Nat} {T : Tb} (h : Tab w ob rb n T) : TabR w w.heap.size ob rb (fun _ => n) n T :=
 ⟨fun i hi => h.top.cell hi, fun i j hi hj => (h.row i hi).cell hj, h.lt1, h.lt2⟩
theorem TabR.below {w w' : World} {B ob : Nat} {rb rc : Nat → Nat} {n : Nat} {T : Tb} (h : TabR w B ob rb rc n T) (hb : Below B w w') : TabR w' B ob rb rc n T :=
 ⟨fun i hi => (hb.cell (p := ⟨ob, i, none⟩) h.lt1).trans (h.top i hi), fun i j hi hj => (hb.cell (p := ⟨rb i, j, none⟩) (h.lt2 i hi)).trans (h.row i j hi hj), h.lt1, h.lt2⟩
theorem TabR.more {w : World} {B B' ob : Nat} {rb rc : Nat → Nat} {n : Nat} {T : Tb} (h : TabR w B ob rb rc n T) (hB : B ≤ B') : TabR w B' ob rb rc n T :=
 ⟨h.top, h.row, Nat.lt_of_lt_of_le h.lt1 hB, fun i hi => Nat.lt_of_lt_of_le (h.lt2 i hi) hB⟩
theorem TabR.congr {U : Tb} {w : World} {B ob : Nat} {rb rc : Nat → Nat} {n : Nat} {T : Tb} (h : TabR w B ob rb rc n T) (e : EqT n T U) : TabR w B ob rb rc n U :=
 ⟨h.top, fun i j hi hj => by rw [h.row i j hi hj, e i j hi hj], h.lt1, h.lt2⟩

/-! ### start -/

def rbs (N : Nat) : Nat → Nat := fun i => N + 1 + i
def topS (N n r : Nat) : Nat → Value := fun j => if j < r then .slice (some ⟨rbs N j, 0, none⟩) n n else .slice none 0 0
def T0 : Tb := fun i j => if i = j then 0 else Far

/-- r rows are made. -/
structure StO (w wr : World) (n r : Nat) : Prop where
 below : Below w.heap.size w wr
 size : wr.heap.size = w.heap.size + 1 + r
 top : wr.rowIs w.heap.size 93 n (topS w.heap.size n r)
 done : ∀ j, j < r → wr.rowIs (rbs w.heap.size j) 3 n (fun c => .int .i64 (T0 j c))
/-- Row r is made, and k of its numbers are filled. -/
structure StI (w wr : World) (n r k : Nat) : Prop where
 below : Below w.heap.size w wr
 size : wr.heap.size = w.heap.size + 1 + r + 1
 top : wr.rowIs w.heap.size 93 n (topS w.heap.size n (r + 1))
 done : ∀ j, j < r → wr.rowIs (rbs w.heap.size j) 3 n (fun c => .int .i64 (T0 j c))
 cur : wr.rowIs (rbs w.heap.size r) 3 n (fun c => if c < k then .int .i64 Far else .int .i64 0)

theorem sto_start (w : World) (n : Nat) : StO w (w.alloc (.cells (madeCells #[.slice none 0 0] n) 93)) n 0 :=
 ⟨(Below.refl _ _).alloc (Nat.le_refl _) _, by simp, (World.rowIs_made w _ n 93).congr (fun j _ => by simp [topS]), fun j hj => absurd hj (Nat.not_lt_zero _)⟩
theorem sti_start {w wr : World} {n r : Nat} (h : StO w wr n r) :
  StI w ((wr.alloc (.cells (madeCells #[.int .i64 0] n) 3)).setCell ⟨w.heap.size, r, none⟩ (.slice (some ⟨w.heap.size + 1 + r, 0, none⟩) n n)) n r 0 := by
 have hnew := World.rowIs_made wr (.int .i64 0) n 3
 rw [h.size] at hnew
 refine ⟨(h.below.alloc (by rw [h.size]; omega) _).setCell (Nat.le_refl _) _, by simp [h.size], ((h.top.alloc _).set r _).congr (fun j _ => ?_), fun j hj => ((h.done j hj).alloc _).setOther (by show w.heap.size + 1 + j ≠ w.heap.size; omega) _,
  (hnew.setOther (by show w.heap.size + 1 + r ≠ w.heap.size; omega) _).congr (fun i _ => by simp)⟩
 simp only [topS, rbs]
 by_cases e : j = r
 ·subst e; simp
 ·rw [if_neg e]
  by_cases hlt : j < r
  ·rw [if_pos hlt, if_pos (by omega)]
  ·rw [if_neg hlt, if_neg (by omega)]
theorem sti_step {w wi : World} {n r k : Nat} (h : StI w wi n r k) : StI w (wi.setCell ⟨w.heap.size + 1 + r, k, none⟩ (.int .i64 Far)) n r (k + 1) := by
 refine ⟨h.below.setCell (by show w.heap.size ≤ w.heap.size + 1 + r; omega) _, by simp [h.size], h.top.setOther (by show w.heap.size ≠ w.heap.size + 1 + r; omega) _,
  fun j hj => (h.done j hj).setOther (by show w.heap.size + 1 + j ≠ w.heap.size + 1 + r; omega) _, (h.cur.set k _).congr (fun i _ => ?_)⟩
 by_cases e : i = k
 ·subst e; simp
 ·rw [if_neg e]
  by_cases hlt : i < k
  ·rw [if_pos hlt, if_pos (by omega)]
  ·rw [if_neg hlt, if_neg (by omega)]
theorem sti_done {w wi : World} {n r : Nat} (h : StI w wi n r n) : StO w (wi.setCell ⟨w.heap.size + 1 + r, r, none⟩ (.int .i64 0)) n (r + 1) := by
 refine ⟨h.below.setCell (by show w.heap.size ≤ w.heap.size + 1 + r; omega) _, by simp [h.size]; omega, h.top.setOther (by show w.heap.size ≠ w.heap.size + 1 + r; omega) _, fun j hj => ?_⟩
 by_cases e : j = r
 ·subst e
  refine (h.cur.set j _).congr (fun i hi => ?_)
  simp only [T0]
  by_cases e : i = j
  ·subst e; simp
  ·rw [if_neg e, if_pos hi, if_neg (fun q => e q.symm)]
 ·exact (h.done j (by omega)).setOther (by show w.heap.size + 1 + j ≠ w.heap.size + 1 + r; omega) _
theorem sto_tab {w wr : World} {n : Nat} (h : StO w wr n n) : Tab wr w.heap.size (rbs w.heap.size) n T0 :=
 ⟨h.top.congr (fun i hi => by simp [topS, hi]), h.done, fun i _ => by unfold rbs; omega, fun i j _ _ e => by unfold rbs at e; omega⟩

theorem infoS : (Tryz.prog.info? 93).map (fun i => (i.zero, i.size, i.bytes)) = some (some (.slice none 0 0), 1, 24) := by kernel_rfl

set_option maxHeartbeats 2000000 in
set_option maxRecDepth 100000 in
theorem start_c (n : Nat) (bs : List Bd) (M : Int) (A : Option Addr) (b o c B : Nat) (w : World) (hn : n ≤ 1000) (hl : bs.length ≤ 100000) (hB : B ≤ w.heap.size) (hR : BdsR w B b o A bs) (hW : Within n M bs) :
  Calls Tryz.prog 63 #[.int .i64 n, .slice A bs.length c] w fun e w' =>
   e = .returned (.slice (some ⟨w.heap.size, 0, none⟩) n n) ∧ Tab w' w.heap.size (rbs w.heap.size) n (tab0 bs) ∧ Below w.heap.size w w' := by
 have hmk1 := run_make_row' (P := Tryz.prog) 89 93 (.slice none 0 0) 24 Tryz.underlying89 infoS rfl .i64 .i64 n (by omega) (by omega)
 have hmk2 := run_make_row' (P := Tryz.prog) 93 3 (.int .i64 0) 8 Tryz.underlying93 infoI rfl .i64 .i64 n (by omega) (by omega)
 have HW := hide hW
 clear hW
 go_enter Tryz.func63, Tryz.ntmps63
 go_wp2
 clear hmk1
 go_loopg [14] n (fun g i wr => ∃ r : Nat, r ≤ n ∧ g = n - r ∧ i = .int .i64 r ∧ StO w wr n r)
 case atStart => exact ⟨0, Nat.zero_le _, rfl, rfl, sto_start w n⟩
 case round =>
  obtain ⟨r, hr, rfl, rfl, hO⟩ := hrel
  by_cases hlt : r < n
  ·have hz : (r : Int) < (n : Int) := by omega
   have hsz := hO.size
   have hst1 : ∀ o, (wr.alloc o).cell? ⟨w.heap.size, r, none⟩ = some (topS w.heap.size n r r) := fun o => (hO.top.alloc o).cell hlt
   have hst2 : ∀ o, (wr.alloc o).frozen? ⟨w.heap.size, r, none⟩ = false := fun o => (hO.top.alloc o).frozen r
   have hI0 := sti_start hO
   have t1 : ((wr.alloc (.cells (madeCells #[.int .i64 0] n) 3)).setCell ⟨w.heap.size, r, none⟩ (.slice (some ⟨w.heap.size + 1 + r, 0, none⟩) n n)).cell? ⟨w.heap.size, r, none⟩ = some (.slice (some ⟨w.heap.size + 1 + r, 0, none⟩) n n) := by
    have := hI0.top.cell hlt
    simpa [topS, rbs] using this
   have HI0 := hide hI0
   clear hI0
   go_wp2
   go_loopg [27] n (fun g i wi => ∃ k : Nat, k ≤ n ∧ g = n - k ∧ i = .int .i64 k ∧ StI w wi n r k)
   case atStart => exact ⟨0, Nat.zero_le _, rfl, rfl, HI0.out⟩
   case round =>
    clear t1 hst1 hst2 hsz hO HI0
    obtain ⟨k, hk, rfl, rfl, hI⟩ := hrel
    have t1 : wr.cell? ⟨w.heap.size, r, none⟩ = some (.slice (some ⟨w.heap.size + 1 + r, 0, none⟩) n n) := by
     have := hI.top.cell hlt
     simpa [topS, rbs] using this
    by_cases hlt2 : k < n
    ·have hz2 : (k : Int) < (n : Int) := by omega
     have t2 : ∃ v, wr.cell? ⟨w.heap.size + 1 + r, k, none⟩ = some v := ⟨_, hI.cur.cell hlt2⟩
     obtain ⟨v2, t2⟩ := t2
     have t3 : wr.frozen? ⟨w.heap.size + 1 + r, k, none⟩ = false := hI.cur.frozen k
     go_wp2
     go_roundg (n - (k + 1))
     case measure => go_light; omega
     case rel => go_light; exact ⟨k + 1, by omega, rfl, by go_num, sti_step hI⟩
    ·obtain rfl : n = k := by omega
     have t2 : ∃ v, wr.cell? ⟨w.heap.size + 1 + r, r, none⟩ = some v := ⟨_, hI.cur.cell hlt⟩
     obtain ⟨v2, t2⟩ := t2
     have t3 : wr.frozen? ⟨w.heap.size + 1 + r, r, none⟩ = false := hI.cur.frozen r
     go_wp2
     go_roundg (n - (r + 1))
     case measure => go_light; omega
     case rel => go_light; exact ⟨r + 1, by omega, rfl, by go_num, sti_done hI⟩
  ·obtain rfl : n = r := by omega
   have hT := sto_tab hO
   have hW0 := hO.below
   clear hO hmk2
   go_wp2
   go_loopg [46] bs.length (fun g i wi => ∃ k : Nat, k ≤ bs.length ∧ g = bs.length - k ∧ i = .int .i64 k ∧ Tab wi w.heap.size (rbs w.heap.size) n (tab0 (bs.take k)) ∧ Below w.heap.size w wi)
   case atStart => exact ⟨0, Nat.zero_le _, rfl, rfl, by rw [List.take_zero]; exact hT, hW0⟩
   case round =>
    clear hT hW0
    obtain ⟨k, hk, rfl, rfl, hT, hW0⟩ := hrel
    by_cases hlt : k < bs.length
    ·obtain rfl := hR.addr (by omega)
     have hx := List.getElem?_eq_getElem hlt
     obtain ⟨⟨hf1, hf2⟩, ⟨ht1, ht2⟩, _⟩ := HW.out bs[k] (List.mem_of_getElem? hx)
     have hR' := hR.below (hW0.mono hB)
     have d0 := hR'.c0 k _ hx
     have d1 := hR'.c1 k _ hx
     have d2 := hR'.c2 k _ hx
     have hz : (k : Int) < (bs.length : Int) := by omega
     have hS : Hid (tab0 (bs.take (k + 1)) = upd (tab0 (bs.take k)) bs[k].f.toNat bs[k].t.toNat (min (tab0 (bs.take k) bs[k].f.toNat bs[k].t.toNat) bs[k].m)) := by
      have e : bs.take (k + 1) = bs.take k ++ [bs[k]] := by rw [List.take_succ_eq_append_getElem hlt]
      rw [e]; exact tab0_snoc _ _ hf1 ht1
     generalize bs[k] = x at *
     obtain ⟨xf, xt, xm⟩ := x
     dsimp only at *
     obtain ⟨f, rfl⟩ := Int.eq_ofNat_of_zero_le hf1
     obtain ⟨t, rfl⟩ := Int.eq_ofNat_of_zero_le ht1
     simp only [Int.toNat_natCast] at hS
     generalize tab0 (bs.take k) = T at *
     have hfn : f < n := by omega
     have htn : t < n := by omega
     clear hx hR'
     have hT' := hT.alloc (.cells #[.int .i64 (f : Int), .int .i64 (t : Int), .int .i64 xm] 97)
     have u1 := hT'.top.cell hfn
     have u2 := (hT'.row f hfn).cell htn
     have u3 := (hT'.row f hfn).frozen t
     have hne : wr.heap.size ≠ rbs w.heap.size f := fun e => by have := hT.lt2 f hfn; omega
     have hT'' := fun v => (hT'.set (j := t) hfn v).drew
     have HT := hide hT''
     clear hT' hT''
     go_wp2
     go_region
     go_wp2
     all_goals
      go_roundg (bs.length - (k + 1))
      case measure => go_light; omega
      case rel =>
       go_light
       refine ⟨k + 1, by omega, rfl, by go_num, ?_, ((hW0.alloc hW0.size _).setCell (by show w.heap.size ≤ rbs w.heap.size f; unfold rbs; omega) _).drew⟩
       rw [hS.out]
       first
        | (have hm : min (T f t) xm = xm := by omega
           rw [hm]; exact HT.out _)
        | (have hm : min (T f t) xm = T f t := by omega
           rw [hm]; exact HT.out _)
    ·obtain rfl : bs.length = k := by omega
     rw [List.take_length] at hT
     go_wp2
     go_ret
     exact ⟨rfl, hT, hW0⟩

theorem fine_wrap : Fine wrap64 := fun x h1 h2 => by
 unfold wrap64; omega

set_option maxHeartbeats 1000000 in
set_option maxRecDepth 100000 in
theorem close_c (ob : Nat) (rb : Nat → Nat) (n B : Nat) (T : Tb) (w : World) (hn : n ≤ 1000) (hT : Tab w ob rb n T) (hB' : ∀ i, i < n → B ≤ rb i) :
  Calls Tryz.prog 95 #[.slice (some ⟨ob, 0, none⟩) n n] w fun e w' => e = .returned (.bool (diagOk n (clF wrap64 T n n))) ∧ Tab w' ob rb n (clF wrap64 T n n) ∧ w.Since B w' := by
 go_enter Tryz.func95, Tryz.ntmps95
 go_wp2
 go_loopg [9] n (fun g s wr => ∃ k : Nat, k ≤ n ∧ g = n - k ∧ s = .int .i64 k ∧ Tab wr ob rb n (clF wrap64 T n k) ∧ w.Since B wr)
 case atStart => exact ⟨0, Nat.zero_le _, rfl, rfl, hT, World.Since.refl _ _⟩
 case round =>
  obtain ⟨k, hk, rfl, rfl, hT1, hS1⟩ := hrel
  by_cases hlt : k < n
  ·have hkz : (k : Int) < (n : Int) := by omega
   go_wp2
   go_loopg [14] n (fun g s wi => ∃ i : Nat, i ≤ n ∧ g = n - i ∧ s = .int .i64 i ∧ Tab wi ob rb n (phF wrap64 (clF wrap64 T n k) n k i) ∧ w.Since B wi)
   case atStart => exact ⟨0, Nat.zero_le _, rfl, rfl, hT1, hS1⟩
   case round =>
    obtain ⟨i, hi, rfl, rfl, hT2, hS2⟩ := hrel
    by_cases hlt2 : i < n
    ·have hiz : (i : Int) < (n : Int) := by omega
     go_wp2
     go_loopg [19] n (fun g s wj => ∃ j : Nat, j ≤ n ∧ g = n - j ∧ s = .int .i64 j ∧ Tab wj ob rb n (rowF wrap64 (phF wrap64 (clF wrap64 T n k) n k i) k i j) ∧ w.Since B wj)
     case atStart => exact ⟨0, Nat.zero_le _, rfl, rfl, hT2, hS2⟩
     case round =>
      obtain ⟨j, hj, rfl, rfl, hT3, hS3⟩ := hrel
      by_cases hlt3 : j < n
      ·have hjz : (j : Int) < (n : Int) := by omega
       generalize hX : rowF wrap64 (phF wrap64 (clF wrap64 T n k) n k i) k i j = X at hT3
       have HX := Lib.hid hX
       have c1 : wr.cell? ⟨ob, i, none⟩ = some (.slice (some ⟨rb i, 0, none⟩) n n) := hT3.top.cell hlt2
       have c2 : wr.cell? ⟨ob, k, none⟩ = some (.slice (some ⟨rb k, 0, none⟩) n n) := hT3.top.cell hlt
       have c3 : wr.cell? ⟨rb i, k, none⟩ = some (.int .i64 (X i k)) := (hT3.row i hlt2).cell hlt
       have c4 : wr.cell? ⟨rb k, j, none⟩ = some (.int .i64 (X k j)) := (hT3.row k hlt).cell hlt3
       have c5 : wr.cell? ⟨rb i, j, none⟩ = some (.int .i64 (X i j)) := (hT3.row i hlt2).cell hlt3
       have c6 : wr.frozen? ⟨rb i, j, none⟩ = false := (hT3.row i hlt2).frozen j
       clear hX
       have HB2 := hB' i hlt2
       by_cases g1 : X i k = 100000
       ·have g1' : (X i k != 100000) = false := by simp [g1]
        have G1 := Lib.hid g1
        clear g1
        go_wp2
        go_roundg (n - (j + 1))
        case measure => go_light; omega
        case rel => go_light; exact ⟨j + 1, by omega, rfl, by go_num, by rw [rowF, HX.out, st1, if_neg (by unfold Far; simp [G1.out])]; exact hT3, hS3⟩
       ·have g1' : (X i k != 100000) = true := by simp [g1]
        by_cases g2 : X k j = 100000
        ·have g2' : (X k j != 100000) = false := by simp [g2]
         have G2 := Lib.hid g2
         clear g2
         go_wp2
         go_roundg (n - (j + 1))
         case measure => go_light; omega
         case rel => go_light; exact ⟨j + 1, by omega, rfl, by go_num, by rw [rowF, HX.out, st1, if_neg (by unfold Far; simp [G2.out])]; exact hT3, hS3⟩
        ·have g2' : (X k j != 100000) = true := by simp [g2]
         go_wp2
         go_region
         go_wp2
         all_goals
          go_roundg (n - (j + 1))
          case measure => go_light; omega
          case rel =>
           go_light
           refine ⟨j + 1, by omega, rfl, by go_num, ?_, (hS3.setCell HB2 _).drew⟩
           rw [rowF, HX.out, st1, if_pos ⟨g1, g2⟩]
           first
            | (have hm : min (X i j) (wrap64 (X i k + X k j)) = wrap64 (X i k + X k j) := by omega
               rw [hm]; exact (hT3.set hlt2 _).drew)
            | (have hm : min (X i j) (wrap64 (X i k + X k j)) = X i j := by omega
               rw [hm]; exact (hT3.set hlt2 _).drew)
      ·have e : j = n := by omega
       go_wp2
       go_roundg (n - (i + 1))
       case measure => go_light; omega
       case rel => go_light; subst e; exact ⟨i + 1, by omega, rfl, by go_num, hT3, hS3⟩
    ·have e : i = n := by omega
     go_wp2
     go_roundg (n - (k + 1))
     case measure => go_light; omega
     case rel => go_light; subst e; exact ⟨k + 1, by omega, rfl, by go_num, hT2, hS2⟩
  ·obtain rfl : k = n := by omega
   generalize hX : clF wrap64 T k k = X at hT1
   have HX := Lib.hid hX
   clear hX
   go_wp2
   go_loopg [74] k (fun g s wj => wj = wr ∧ ∃ j : Nat, j ≤ k ∧ g = k - j ∧ s = .int .i64 j ∧ ∀ i, i < j → 0 ≤ X i i)
   case atStart => exact ⟨rfl, 0, Nat.zero_le _, rfl, rfl, fun _ h => absurd h (Nat.not_lt_zero _)⟩
   case round =>
    obtain ⟨rfl, j, hj, rfl, rfl, hall⟩ := hrel
    have Hall := Lib.hid hall
    clear hall
    by_cases hlt3 : j < k
    ·have hjz : (j : Int) < (k : Int) := by omega
     have c1 : wr.cell? ⟨ob, j, none⟩ = some (.slice (some ⟨rb j, 0, none⟩) k k) := hT1.top.cell hlt3
     have c2 : wr.cell? ⟨rb j, j, none⟩ = some (.int .i64 (X j j)) := (hT1.row j hlt3).cell hlt3
     by_cases g : X j j < 0
     ·go_wp2
      go_ret
      refine ⟨?_, by rw [HX.out]; exact hT1, hS1⟩
      have hd : diagOk k (clF wrap64 T k k) = false := by
       rw [HX.out, Bool.eq_false_iff]
       intro h
       have := diagOk_iff.1 h j hlt3
       omega
      rw [hd]; rfl
     ·go_wp2
      go_roundg (k - (j + 1))
      case measure => go_light; omega
      case rel =>
       go_light
       exact ⟨rfl, j + 1, by omega, rfl, by go_num, fun i hi => by
        by_cases e : i = j
        ·subst e; omega
        ·exact Hall.out i (by omega)⟩
    ·go_wp2
     go_ret
     refine ⟨?_, by rw [HX.out]; exact hT1, hS1⟩
     have hd : diagOk k (clF wrap64 T k k) = true := by
      rw [HX.out, diagOk_iff]
      exact fun i hi => Hall.out i (by omega)
     rw [hd]; rfl

theorem clF_of_fits {p : Pl} (h : planOk p = true) : diagOk (nn p) (clF wrap64 (tab0 p.bs) (nn p) (nn p)) = fits p ∧ (fits p = true → EqT (nn p) (clF wrap64 (tab0 p.bs) (nn p) (nn p)) (clT p)) := by
 have hw := within_of_ok h
 have hn := nn_ok h
 have hs := small_ok hn.1 (by omega) (by omega) hw
 have hle : ∀ i j, i < nn p → j < nn p → tab0 p.bs i j ≤ Far := fun i j _ _ => (tab0_le _ i j).1
 have hd := clF_diag fine_wrap hle hs.2
 constructor
 ·have e : fits p = diagOk (nn p) (clT p) := by unfold fits; rw [h]; rfl
  rw [e, Bool.eq_iff_iff, diagOk_iff, diagOk_iff]
  exact hd
 ·intro hf
  have hf' : diagOk (nn p) (clT p) = true := by unfold fits at hf; rw [h] at hf; simpa using hf
  exact clF_eq fine_wrap hle hs.2 (nn p) (Nat.le_refl _) (.inl (diagOk_iff.1 hf'))

set_option maxHeartbeats 1000000 in
set_option maxRecDepth 100000 in
theorem closed_no (p : Pl) (A : Option Addr) (b o c B : Nat) (w : World) (hn : p.bs.length ≤ 2000000) (hB : B ≤ w.heap.size) (hR : BdsR w B b o A p.bs) (hfit : fits p = false) :
  Calls Tryz.prog 62 #[.agg #[.int .i64 p.n, .slice A p.bs.length c]] w fun e w' => e = .returned (.tuple #[.slice none 0 0, .bool false]) ∧ Below w.heap.size w w' := by
 cases hp : planOk p
 ·have Hp := hide hp
  clear hp hfit
  obtain ⟨n, bs⟩ := p
  dsimp only at *
  go_enter Tryz.func62, Tryz.ntmps62
  go_wp2_with (go_at_call 58; refine (planOk_c ⟨n, bs⟩ A b o c B _ hn (by simp only [World.size_alloc, World.size_drew]; omega) (hR.below ((show Below w.heap.size w _ by go_grown).mono hB))).mono ?_; rintro e w' ⟨rfl, hb⟩; rw [Hp.out]; obtain ⟨hc, hf⟩ := bcell hb; have hz := hb.size; (try simp only [World.size_alloc] at hz); have hz0 : w.heap.size < w'.heap.size := (by omega); have hW : Below w.heap.size w w' := bthen (by go_grown) hb)
  go_ret2
  exact ⟨rfl, hW⟩
 ·have hw := within_of_ok hp
  obtain ⟨hn6, _, hnn⟩ := nn_ok hp
  obtain ⟨hd, _⟩ := clF_of_fits hp
  rw [hfit] at hd
  have Hd := hide hd
  have Hw := hide hw
  have Hp := hide hp
  clear hp hw hfit hd
  obtain ⟨n, bs⟩ := p
  dsimp only at *
  generalize hm : nn ⟨n, bs⟩ = m at *
  subst hnn
  clear hm
  have hl : bs.length ≤ 100000 := by have := (planOk_iff.1 Hp.out).2.1; dsimp only at this; omega
  go_enter Tryz.func62, Tryz.ntmps62
  go_wp2_with (first
   | (go_at_call 58; refine (planOk_c ⟨_, bs⟩ A b o c B _ hn (by simp only [World.size_alloc, World.size_drew]; omega) (hR.below ((show Below w.heap.size w _ by go_grown).mono hB))).mono ?_; rintro e w' ⟨rfl, hb⟩; rw [Hp.out]; obtain ⟨hc, hf⟩ := bcell hb; have hz := hb.size; (try simp only [World.size_alloc] at hz); have hz0 : w.heap.size < w'.heap.size := (by omega); have hW : Below w.heap.size w w' := bthen (by go_grown) hb)
   | (go_at_call 63; refine (start_c m bs 99 A b o c B _ (by omega) hl (Nat.le_trans hB hW.size) (hR.below (hW.mono hB)) Hw.out).mono ?_; rintro e w2 ⟨rfl, hT, hb2⟩; have hW2 := bthen hW hb2; have hle := hb.size)
   | (go_at_call 95; refine (close_c _ (rbs w'.heap.size) m w.heap.size (tab0 bs) _ (by omega) hT (fun i _ => by have := hW.size; unfold rbs; omega)).mono ?_; rintro e w3 ⟨rfl, hT3, hS⟩; rw [Hd.out]; have hW3 : Below w.heap.size w w3 := hW2.trans (below_of hS)))
  go_ret2
  exact ⟨rfl, hW3⟩

set_option maxHeartbeats 1000000 in
set_option maxRecDepth 100000 in
theorem closed_yes (p : Pl) (A : Option Addr) (b o c B : Nat) (w : World) (hB : B ≤ w.heap.size) (hR : BdsR w B b o A p.bs) (hfit : fits p = true) :
  Calls Tryz.prog 62 #[.agg #[.int .i64 p.n, .slice A p.bs.length c]] w fun e w' => ∃ ob rb, e = .returned (.tuple #[.slice (some ⟨ob, 0, none⟩) (nn p) (nn p), .bool true]) ∧
   Tab w' ob rb (nn p) (clT p) ∧ w.heap.size ≤ ob ∧ (∀ i, w.heap.size ≤ rb i) ∧ Below w.heap.size w w' := by
 have hp : planOk p = true := by unfold fits at hfit; simp at hfit; exact hfit.1
 have hw := within_of_ok hp
 obtain ⟨hn6, _, hnn⟩ := nn_ok hp
 obtain ⟨hd, he⟩ := clF_of_fits hp
 have he := he hfit
 rw [hfit] at hd
 have Hd := hide hd
 have Hw := hide hw
 have Hp := hide hp
 have He := hide he
 clear hp hw hfit hd he
 obtain ⟨n, bs⟩ := p
 dsimp only at *
 generalize hm : nn ⟨n, bs⟩ = m at *
 subst hnn
 clear hm
 have hl : bs.length ≤ 100000 := by have := (planOk_iff.1 Hp.out).2.1; dsimp only at this; omega
 go_enter Tryz.func62, Tryz.ntmps62
 go_wp2_with (first
  | (go_at_call 58; refine (planOk_c ⟨_, bs⟩ A b o c B _ (by dsimp only; omega) (by simp only [World.size_alloc, World.size_drew]; omega) (hR.below ((show Below w.heap.size w _ by go_grown).mono hB))).mono ?_; rintro e w' ⟨rfl, hb⟩; rw [Hp.out]; obtain ⟨hc, hf⟩ := bcell hb; have hz := hb.size; (try simp only [World.size_alloc] at hz); have hz0 : w.heap.size < w'.heap.size := (by omega); have hW : Below w.heap.size w w' := bthen (by go_grown) hb)
  | (go_at_call 63; refine (start_c m bs 99 A b o c B _ (by omega) hl (Nat.le_trans hB hW.size) (hR.below (hW.mono hB)) Hw.out).mono ?_; rintro e w2 ⟨rfl, hT, hb2⟩; have hW2 := bthen hW hb2; have hle := hb.size)
  | (go_at_call 95; refine (close_c _ (rbs w'.heap.size) m w.heap.size (tab0 bs) _ (by omega) hT (fun i _ => by have := hW.size; unfold rbs; omega)).mono ?_; rintro e w3 ⟨rfl, hT3, hS⟩; rw [Hd.out]; have hW3 : Below w.heap.size w w3 := hW2.trans (below_of hS)))
 go_ret2
 exact ⟨w'.heap.size, rbs w'.heap.size, rfl, hT3.congr He.out, hW.size, fun i => by have := hW.size; unfold rbs; omega, hW3⟩

theorem fitsOk_c (p : Pl) (A : Option Addr) (b o c B : Nat) (w : World) (hn : p.bs.length ≤ 2000000) (hB : B ≤ w.heap.size) (hR : BdsR w B b o A p.bs) :
  Calls Tryz.prog 30 #[.agg #[.int .i64 p.n, .slice A p.bs.length c]] w fun e w' => e = .returned (.bool (fits p)) ∧ Below w.heap.size w w' := by
 cases hf : fits p
 ·have Hf := hide hf
  clear hf
  obtain ⟨n, bs⟩ := p
  dsimp only at *
  go_enter Tryz.func30, Tryz.ntmps30
  go_wp2_with (go_at_call 62; refine (closed_no ⟨n, bs⟩ A b o c B _ hn (by simp only [World.size_alloc, World.size_drew]; omega) (hR.below ((show Below w.heap.size w _ by go_grown).mono hB)) Hf.out).mono ?_; rintro e w' ⟨rfl, hb⟩; have hW : Below w.heap.size w w' := bthen (by go_grown) hb)
  go_ret
  exact ⟨rfl, hW⟩
 ·have Hf := hide hf
  clear hf
  obtain ⟨n, bs⟩ := p
  dsimp only at *
  go_enter Tryz.func30, Tryz.ntmps30
  go_wp2_with (go_at_call 62; refine (closed_yes ⟨n, bs⟩ A b o c B _ (by simp only [World.size_alloc, World.size_drew]; omega) (hR.below ((show Below w.heap.size w _ by go_grown).mono hB)) Hf.out).mono ?_; rintro e w' ⟨ob, rb, rfl, _, _, _, hb⟩; have hW : Below w.heap.size w w' := bthen (by go_grown) hb)
  go_ret
  exact ⟨rfl, hW⟩

end Go.Proofs.YtmnajkhoacogjaaGreatDoor
