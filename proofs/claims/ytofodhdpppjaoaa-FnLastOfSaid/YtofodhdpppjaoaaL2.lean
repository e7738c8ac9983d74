/-
  Chapter 2 of the program: tables.
-/
import Derived.Test.YtofodhdpppjaoaaL1b
namespace Go.Proofs.Ytofodhdpppjaoaa
set_option linter.unusedVariables false
set_option linter.unusedSimpArgs false
open Go.RowKit Pp

/-- A table that lies in blocks of its own. -/
structure Tab (w : World) (ob : Nat) (rb : Nat → Nat) (n : Nat) (T : Tb) : Prop where
  top : w.rowIs ob 52 n (fun i => .slice (some ⟨rb i, 0, none⟩) n n)
  row : ∀ i, i < n → w.rowIs (rb i) 3 n (fun j => .int .i64 (T i j))
  ne : ∀ i, i < n → rb i ≠ ob
  inj : ∀ i j, i < n → j < n → rb i = rb j → i = j

section
variable {w : World} {ob : Nat} {rb : Nat → Nat} {n : Nat} {T : Tb}
theorem Tab.set (h : Tab w ob rb n T) {i j : Nat} (hi : i < n) (x : Int) : Tab (w.setCell ⟨rb i, j, none⟩ (.int .i64 x)) ob rb n (upd T i j x) := by
  refine ⟨h.top.setOther (fun e => h.ne i hi e.symm) _, fun a ha => ?_, h.ne, h.inj⟩
  by_cases e : a = i
  · subst e
    refine ((h.row a ha).set j _).congr (fun b _ => ?_)
    simp only [upd, true_and]
    split <;> rfl
  · refine ((h.row a ha).setOther (fun e' => e (h.inj a i ha hi e')) _).congr (fun b _ => ?_)
    simp [upd, e]
theorem Tab.drew (h : Tab w ob rb n T) : Tab w.drew ob rb n T := ⟨h.top.drew, fun i hi => (h.row i hi).drew, h.ne, h.inj⟩
theorem Tab.alloc (h : Tab w ob rb n T) (o : Obj) : Tab (w.alloc o) ob rb n T := ⟨h.top.alloc o, fun i hi => (h.row i hi).alloc o, h.ne, h.inj⟩
theorem Tab.congr {U : Tb} (h : Tab w ob rb n T) (e : EqT n T U) : Tab w ob rb n U :=
  ⟨h.top, fun i hi => (h.row i hi).congr (fun j hj => by rw [e i j hi hj]), h.ne, h.inj⟩
theorem rowIs_below {B b t n : Nat} {f : Nat → Value} {w w' : World} (h : w.rowIs b t n f) (hb : Below B w w') (hB : b < B) : w'.rowIs b t n f := h.of_block (hb.block b hB)
theorem Tab.below {B : Nat} {w' : World} (h : Tab w ob rb n T) (hb : Below B w w') (h1 : ob < B) (h2 : ∀ i, i < n → rb i < B) : Tab w' ob rb n T :=
  ⟨rowIs_below h.top hb h1, fun i hi => rowIs_below (h.row i hi) hb (h2 i hi), h.ne, h.inj⟩
theorem Tab.lt1 (h : Tab w ob rb n T) : ob < w.heap.size := h.top.lt
theorem Tab.lt2 (h : Tab w ob rb n T) : ∀ i, i < n → rb i < w.heap.size := fun i hi => (h.row i hi).lt
end

/-- A table that is read. -/
structure TabR (w : World) (B ob : Nat) (rb rc : Nat → Nat) (n : Nat) (T : Tb) : Prop where
  top : ∀ i, i < n → w.cell? ⟨ob, i, none⟩ = some (.slice (some ⟨rb i, 0, none⟩) n (rc i))
  row : ∀ i j, i < n → j < n → w.cell? ⟨rb i, j, none⟩ = some (.int .i64 (T i j))
  lt1 : ob < B
  lt2 : ∀ i, i < n → rb i < B
theorem Tab.reads {w : World} {ob : Nat} {rb : Nat → Nat} {n : Nat} {T : Tb} (h : Tab w ob rb n T) : TabR w w.heap.size ob rb (fun _ => n) n T :=
  ⟨fun i hi => h.top.cell hi, fun i j hi hj => (h.row i hi).cell hj, h.lt1, h.lt2⟩
theorem TabR.below {w w' : World} {B ob : Nat} {rb rc : Nat → Nat} {n : Nat} {T : Tb} (h : TabR w B ob rb rc n T) (hb : Below B w w') : TabR w' B ob rb rc n T :=
  ⟨fun i hi => (hb.cell (p := ⟨ob, i, none⟩) h.lt1).trans (h.top i hi), fun i j hi hj => (hb.cell (p := ⟨rb i, j, none⟩) (h.lt2 i hi)).trans (h.row i j hi hj), h.lt1, h.lt2⟩
theorem TabR.more {w : World} {B B' ob : Nat} {rb rc : Nat → Nat} {n : Nat} {T : Tb} (h : TabR w B ob rb rc n T) (hB : B ≤ B') : TabR w B' ob rb rc n T :=
  ⟨h.top, h.row, Nat.lt_of_lt_of_le h.lt1 hB, fun i hi => Nat.lt_of_lt_of_le (h.lt2 i hi) hB⟩
theorem TabR.congr {U : Tb} {w : World} {B ob : Nat} {rb rc : Nat → Nat} {n : Nat} {T : Tb} (h : TabR w B ob rb rc n T) (e : EqT n T U) : TabR w B ob rb rc n U :=
  ⟨h.top, fun i j hi hj => by rw [h.row i j hi hj, e i j hi hj], h.lt1, h.lt2⟩

/-! ### start -/

def rbs (N : Nat) : Nat → Nat := fun i => N + 1 + i
def topS (N n r : Nat) : Nat → Value := fun j => if j < r then .slice (some ⟨rbs N j, 0, none⟩) n n else .slice none 0 0
def T0 : Tb := fun i j => if i = j then 0 else Far

/-- r rows are made. -/
structure StO (w wr : World) (n r : Nat) : Prop where
  below : Below w.heap.size w wr
  size : wr.heap.size = w.heap.size + 1 + r
  top : wr.rowIs w.heap.size 52 n (topS w.heap.size n r)
  done : ∀ j, j < r → wr.rowIs (rbs w.heap.size j) 3 n (fun c => .int .i64 (T0 j c))
/-- Row r is made, and k of its numbers are filled. -/
structure StI (w wr : World) (n r k : Nat) : Prop where
  below : Below w.heap.size w wr
  size : wr.heap.size = w.heap.size + 1 + r + 1
  top : wr.rowIs w.heap.size 52 n (topS w.heap.size n (r + 1))
  done : ∀ j, j < r → wr.rowIs (rbs w.heap.size j) 3 n (fun c => .int .i64 (T0 j c))
  cur : wr.rowIs (rbs w.heap.size r) 3 n (fun c => if c < k then .int .i64 Far else .int .i64 0)

theorem sto_start (w : World) (n : Nat) : StO w (w.alloc (.cells (madeCells #[.slice none 0 0] n) 52)) n 0 :=
  ⟨(Below.refl _ _).alloc (Nat.le_refl _) _, by simp, (World.rowIs_made w _ n 52).congr (fun j _ => by simp [topS]), fun j hj => absurd hj (Nat.not_lt_zero _)⟩
theorem sti_start {w wr : World} {n r : Nat} (h : StO w wr n r) :
    StI w ((wr.alloc (.cells (madeCells #[.int .i64 0] n) 3)).setCell ⟨w.heap.size, r, none⟩ (.slice (some ⟨w.heap.size + 1 + r, 0, none⟩) n n)) n r 0 := by
  have hnew := World.rowIs_made wr (.int .i64 0) n 3
  rw [h.size] at hnew
  refine ⟨(h.below.alloc (by rw [h.size]; omega) _).setCell (Nat.le_refl _) _, by simp [h.size], ((h.top.alloc _).set r _).congr (fun j _ => ?_), fun j hj => ((h.done j hj).alloc _).setOther (by show w.heap.size + 1 + j ≠ w.heap.size; omega) _,
    (hnew.setOther (by show w.heap.size + 1 + r ≠ w.heap.size; omega) _).congr (fun i _ => by simp)⟩
  simp only [topS, rbs]
  by_cases e : j = r
  · subst e; simp
  · rw [if_neg e]
    by_cases hlt : j < r
    · rw [if_pos hlt, if_pos (by omega)]
    · rw [if_neg hlt, if_neg (by omega)]
theorem sti_step {w wi : World} {n r k : Nat} (h : StI w wi n r k) : StI w (wi.setCell ⟨w.heap.size + 1 + r, k, none⟩ (.int .i64 Far)) n r (k + 1) := by
  refine ⟨h.below.setCell (by show w.heap.size ≤ w.heap.size + 1 + r; omega) _, by simp [h.size], h.top.setOther (by show w.heap.size ≠ w.heap.size + 1 + r; omega) _,
    fun j hj => (h.done j hj).setOther (by show w.heap.size + 1 + j ≠ w.heap.size + 1 + r; omega) _, (h.cur.set k _).congr (fun i _ => ?_)⟩
  by_cases e : i = k
  · subst e; simp
  · rw [if_neg e]
    by_cases hlt : i < k
    · rw [if_pos hlt, if_pos (by omega)]
    · rw [if_neg hlt, if_neg (by omega)]
theorem sti_done {w wi : World} {n r : Nat} (h : StI w wi n r n) : StO w (wi.setCell ⟨w.heap.size + 1 + r, r, none⟩ (.int .i64 0)) n (r + 1) := by
  refine ⟨h.below.setCell (by show w.heap.size ≤ w.heap.size + 1 + r; omega) _, by simp [h.size]; omega, h.top.setOther (by show w.heap.size ≠ w.heap.size + 1 + r; omega) _, fun j hj => ?_⟩
  by_cases e : j = r
  · subst e
    refine (h.cur.set j _).congr (fun i hi => ?_)
    simp only [T0]
    by_cases e : i = j
    · subst e; simp
    · rw [if_neg e, if_pos hi, if_neg (fun q => e q.symm)]
  · exact (h.done j (by omega)).setOther (by show w.heap.size + 1 + j ≠ w.heap.size + 1 + r; omega) _
theorem sto_tab {w wr : World} {n : Nat} (h : StO w wr n n) : Tab wr w.heap.size (rbs w.heap.size) n T0 :=
  ⟨h.top.congr (fun i hi => by simp [topS, hi]), h.done, fun i _ => by unfold rbs; omega, fun i j _ _ e => by unfold rbs at e; omega⟩

theorem infoS : (Try.prog.info? 52).map (fun i => (i.zero, i.size, i.bytes)) = some (some (.slice none 0 0), 1, 24) := by kernel_rfl

set_option maxHeartbeats 2000000 in
set_option maxRecDepth 100000 in
theorem start_c (n : Nat) (bs : List Bd) (M : Int) (A : Option Addr) (b o c B : Nat) (w : World) (hn : n ≤ 1000) (hl : bs.length ≤ 100000) (hB : B ≤ w.heap.size) (hR : BdsR w B b o A bs) (hW : Within n M bs) :
    Calls Try.prog 73 #[.int .i64 n, .slice A bs.length c] w fun e w' =>
      e = .returned (.slice (some ⟨w.heap.size, 0, none⟩) n n) ∧ Tab w' w.heap.size (rbs w.heap.size) n (tab0 bs) ∧ Below w.heap.size w w' := by
  have hmk1 := run_make_row' (P := Try.prog) 78 52 (.slice none 0 0) 24 Try.underlying78 infoS rfl .i64 .i64 n (by omega) (by omega)
  have hmk2 := run_make_row' (P := Try.prog) 52 3 (.int .i64 0) 8 Try.underlying52 infoI rfl .i64 .i64 n (by omega) (by omega)
  have HW := hide hW
  clear hW
  go_enter Try.func73, Try.ntmps73
  go_wp2
  clear hmk1
  go_loopg [14] n (fun g i wr => ∃ r : Nat, r ≤ n ∧ g = n - r ∧ i = .int .i64 r ∧ StO w wr n r)
  case atStart => exact ⟨0, Nat.zero_le _, rfl, rfl, sto_start w n⟩
  case round =>
    obtain ⟨r, hr, rfl, rfl, hO⟩ := hrel
    by_cases hlt : r < n
    · have hz : (r : Int) < (n : Int) := by omega
      have hsz := hO.size
      have hst1 : ∀ o, (wr.alloc o).cell? ⟨w.heap.size, r, none⟩ = some (topS w.heap.size n r r) := fun o => (hO.top.alloc o).cell hlt
      have hst2 : ∀ o, (wr.alloc o).frozen? ⟨w.heap.size, r, none⟩ = false := fun o => (hO.top.alloc o).frozen r
      have hI0 := sti_start hO
      have t1 : ((wr.alloc (.cells (madeCells #[.int .i64 0] n) 3)).setCell ⟨w.heap.size, r, none⟩ (.slice (some ⟨w.heap.size + 1 + r, 0, none⟩) n n)).cell? ⟨w.heap.size, r, none⟩ = some (.slice (some ⟨w.heap.size + 1 + r, 0, none⟩) n n) := by
        have := hI0.top.cell hlt
        simpa [topS, rbs] using this
      have HI0 := hide hI0
      clear hI0
      go_wp2
      go_loopg [27] n (fun g i wi => ∃ k : Nat, k ≤ n ∧ g = n - k ∧ i = .int .i64 k ∧ StI w wi n r k)
      case atStart => exact ⟨0, Nat.zero_le _, rfl, rfl, HI0.out⟩
      case round =>
        clear t1 hst1 hst2 hsz hO HI0
        obtain ⟨k, hk, rfl, rfl, hI⟩ := hrel
        have t1 : wr.cell? ⟨w.heap.size, r, none⟩ = some (.slice (some ⟨w.heap.size + 1 + r, 0, none⟩) n n) := by
          have := hI.top.cell hlt
          simpa [topS, rbs] using this
        by_cases hlt2 : k < n
        · have hz2 : (k : Int) < (n : Int) := by omega
          have t2 : ∃ v, wr.cell? ⟨w.heap.size + 1 + r, k, none⟩ = some v := ⟨_, hI.cur.cell hlt2⟩
          obtain ⟨v2, t2⟩ := t2
          have t3 : wr.frozen? ⟨w.heap.size + 1 + r, k, none⟩ = false := hI.cur.frozen k
          go_wp2
          go_roundg (n - (k + 1))
          case measure => go_light; omega
          case rel => go_light; exact ⟨k + 1, by omega, rfl, by go_num, sti_step hI⟩
        · obtain rfl : n = k := by omega
          have t2 : ∃ v, wr.cell? ⟨w.heap.size + 1 + r, r, none⟩ = some v := ⟨_, hI.cur.cell hlt⟩
          obtain ⟨v2, t2⟩ := t2
          have t3 : wr.frozen? ⟨w.heap.size + 1 + r, r, none⟩ = false := hI.cur.frozen r
          go_wp2
          go_roundg (n - (r + 1))
          case measure => go_light; omega
          case rel => go_light; exact ⟨r + 1, by omega, rfl, by go_num, sti_done hI⟩
    · obtain rfl : n = r := by omega
      have hT := sto_tab hO
      have hW0 := hO.below
      clear hO hmk2
      go_wp2
      go_loopg [46] bs.length (fun g i wi => ∃ k : Nat, k ≤ bs.length ∧ g = bs.length - k ∧ i = .int .i64 k ∧ Tab wi w.heap.size (rbs w.heap.size) n (tab0 (bs.take k)) ∧ Below w.heap.size w wi)
      case atStart => exact ⟨0, Nat.zero_le _, rfl, rfl, by rw [List.take_zero]; exact hT, hW0⟩
      case round =>
        clear hT hW0
        obtain ⟨k, hk, rfl, rfl, hT, hW0⟩ := hrel
        by_cases hlt : k < bs.length
        · obtain rfl := hR.addr (by omega)
          have hx := List.getElem?_eq_getElem hlt
          obtain ⟨⟨hf1, hf2⟩, ⟨ht1, ht2⟩, _⟩ := HW.out bs[k] (List.mem_of_getElem? hx)
          have hR' := hR.below (hW0.mono hB)
          have d0 := hR'.c0 k _ hx
          have d1 := hR'.c1 k _ hx
          have d2 := hR'.c2 k _ hx
          have hz : (k : Int) < (bs.length : Int) := by omega
          have hS : Hid (tab0 (bs.take (k + 1)) = upd (tab0 (bs.take k)) bs[k].f.toNat bs[k].t.toNat (min (tab0 (bs.take k) bs[k].f.toNat bs[k].t.toNat) bs[k].m)) := by
            have e : bs.take (k + 1) = bs.take k ++ [bs[k]] := by rw [List.take_succ_eq_append_getElem hlt]
            rw [e]; exact tab0_snoc _ _ hf1 ht1
          generalize bs[k] = x at *
          obtain ⟨xf, xt, xm⟩ := x
          dsimp only at *
          obtain ⟨f, rfl⟩ := Int.eq_ofNat_of_zero_le hf1
          obtain ⟨t, rfl⟩ := Int.eq_ofNat_of_zero_le ht1
          simp only [Int.toNat_natCast] at hS
          generalize tab0 (bs.take k) = T at *
          have hfn : f < n := by omega
          have htn : t < n := by omega
          clear hx hR'
          have hT' := hT.alloc (.cells #[.int .i64 (f : Int), .int .i64 (t : Int), .int .i64 xm] 75)
          have u1 := hT'.top.cell hfn
          have u2 := (hT'.row f hfn).cell htn
          have u3 := (hT'.row f hfn).frozen t
          have hne : wr.heap.size ≠ rbs w.heap.size f := fun e => by have := hT.lt2 f hfn; omega
          have hT'' := fun v => (hT'.set (j := t) hfn v).drew
          have HT := hide hT''
          clear hT' hT''
          go_wp2
          go_region
          go_wp2
          all_goals
            go_roundg (bs.length - (k + 1))
            case measure => go_light; omega
            case rel =>
              go_light
              refine ⟨k + 1, by omega, rfl, by go_num, ?_, ((hW0.alloc hW0.size _).setCell (by show w.heap.size ≤ rbs w.heap.size f; unfold rbs; omega) _).drew⟩
              rw [hS.out]
              first
                | (have hm : min (T f t) xm = xm := by omega
                   rw [hm]; exact HT.out _)
                | (have hm : min (T f t) xm = T f t := by omega
                   rw [hm]; exact HT.out _)
        · obtain rfl : bs.length = k := by omega
          rw [List.take_length] at hT
          go_wp2
          go_ret
          exact ⟨rfl, hT, hW0⟩
end Go.Proofs.Ytofodhdpppjaoaa
