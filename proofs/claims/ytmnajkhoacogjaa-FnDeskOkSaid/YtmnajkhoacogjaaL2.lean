/-
  Chapter 2 of the program: tables.
  Chapter 2 of the program: a table is closed in place.
  Chapter 2 of the program: the closed table of a plan, and what is asked of it.
-/
import Derived.Test.YtmnajkhoacogjaaL1
namespace Go.Proofs.Ytmnajkhoacogjaa
set_option linter.unusedVariables false
set_option linter.unusedSimpArgs false
open Go.RowKit Pp

/-- A table that lies in blocks of its own. -/
structure Tab (w : World) (ob : Nat) (rb : Nat → Nat) (n : Nat) (T : Tb) : Prop where
  top : w.rowIs ob 59 n (fun i => .slice (some ⟨rb i, 0, none⟩) n n)
  row : ∀ i, i < n → w.rowIs (rb i) 3 n (fun j => .int .i64 (T i j))
  ne : ∀ i, i < n → rb i ≠ ob
  inj : ∀ i j, i < n → j < n → rb i = rb j → i = j

section
variable {w : World} {ob : Nat} {rb : Nat → Nat} {n : Nat} {T : Tb}
theorem Tab.set (h : Tab w ob rb n T) {i j : Nat} (hi : i < n) (x : Int) : Tab (w.setCell ⟨rb i, j, none⟩ (.int .i64 x)) ob rb n (upd T i j x) := by
  refine ⟨h.top.setOther (fun e => h.ne i hi e.symm) _, fun a ha => ?_, h.ne, h.inj⟩
  by_cases e : a = i
  · subst e
    refine ((h.row a ha).set j _).congr (fun b _ => ?_)
    simp only [upd, true_and]
    split <;> rfl
  · refine ((h.row a ha).setOther (fun e' => e (h.inj a i ha hi e')) _).congr (fun b _ => ?_)
    simp [upd, e]
theorem Tab.drew (h : Tab w ob rb n T) : Tab w.drew ob rb n T := ⟨h.top.drew, fun i hi => (h.row i hi).drew, h.ne, h.inj⟩
theorem Tab.alloc (h : Tab w ob rb n T) (o : Obj) : Tab (w.alloc o) ob rb n T := ⟨h.top.alloc o, fun i hi => (h.row i hi).alloc o, h.ne, h.inj⟩
theorem Tab.congr {U : Tb} (h : Tab w ob rb n T) (e : EqT n T U) : Tab w ob rb n U :=
  ⟨h.top, fun i hi => (h.row i hi).congr (fun j hj => by rw [e i j hi hj]), h.ne, h.inj⟩
theorem rowIs_below {B b t n : Nat} {f : Nat → Value} {w w' : World} (h : w.rowIs b t n f) (hb : Below B w w') (hB : b < B) : w'.rowIs b t n f := h.of_block (hb.block b hB)
theorem Tab.below {B : Nat} {w' : World} (h : Tab w ob rb n T) (hb : Below B w w') (h1 : ob < B) (h2 : ∀ i, i < n → rb i < B) : Tab w' ob rb n T :=
  ⟨rowIs_below h.top hb h1, fun i hi => rowIs_below (h.row i hi) hb (h2 i hi), h.ne, h.inj⟩
theorem Tab.lt1 (h : Tab w ob rb n T) : ob < w.heap.size := h.top.lt
theorem Tab.lt2 (h : Tab w ob rb n T) : ∀ i, i < n → rb i < w.heap.size := fun i hi => (h.row i hi).lt
end

/-- A table that is read. -/
structure TabR (w : World) (B ob : Nat) (rb rc : Nat → Nat) (n : Nat) (T : Tb) : Prop where
  top : ∀ i, i < n → w.cell? ⟨ob, i, none⟩ = some (.slice (some ⟨rb i, 0, none⟩) n (rc i))
  row : ∀ i j, i < n → j < n → w.cell? ⟨rb i, j, none⟩ = some (.int .i64 (T i j))
  lt1 : ob < B
  lt2 : ∀ i, i < n → rb i < B
theorem Tab.reads {w : World} {ob : Nat} {rb : Nat → Nat} {n : Nat} {T : Tb} (h : Tab w ob rb n T) : TabR w w.heap.size ob rb (fun _ => n) n T :=
  ⟨fun i hi => h.top.cell hi, fun i j hi hj => (h.row i hi).cell hj, h.lt1, h.lt2⟩
theorem TabR.below {w w' : World} {B ob : Nat} {rb rc : Nat → Nat} {n : Nat} {T : Tb} (h : TabR w B ob rb rc n T) (hb : Below B w w') : TabR w' B ob rb rc n T :=
  ⟨fun i hi => (hb.cell (p := ⟨ob, i, none⟩) h.lt1).trans (h.top i hi), fun i j hi hj => (hb.cell (p := ⟨rb i, j, none⟩) (h.lt2 i hi)).trans (h.row i j hi hj), h.lt1, h.lt2⟩
theorem TabR.more {w : World} {B B' ob : Nat} {rb rc : Nat → Nat} {n : Nat} {T : Tb} (h : TabR w B ob rb rc n T) (hB : B ≤ B') : TabR w B' ob rb rc n T :=
  ⟨h.top, h.row, Nat.lt_of_lt_of_le h.lt1 hB, fun i hi => Nat.lt_of_lt_of_le (h.lt2 i hi) hB⟩
theorem TabR.congr {U : Tb} {w : World} {B ob : Nat} {rb rc : Nat → Nat} {n : Nat} {T : Tb} (h : TabR w B ob rb rc n T) (e : EqT n T U) : TabR w B ob rb rc n U :=
  ⟨h.top, fun i j hi hj => by rw [h.row i j hi hj, e i j hi hj], h.lt1, h.lt2⟩

/-! ### start -/

def rbs (N : Nat) : Nat → Nat := fun i => N + 1 + i
def topS (N n r : Nat) : Nat → Value := fun j => if j < r then .slice (some ⟨rbs N j, 0, none⟩) n n else .slice none 0 0
def T0 : Tb := fun i j => if i = j then 0 else Far

/-- r rows are made. -/
structure StO (w wr : World) (n r : Nat) : Prop where
  below : Below w.heap.size w wr
  size : wr.heap.size = w.heap.size + 1 + r
  top : wr.rowIs w.heap.size 59 n (topS w.heap.size n r)
  done : ∀ j, j < r → wr.rowIs (rbs w.heap.size j) 3 n (fun c => .int .i64 (T0 j c))
/-- Row r is made, and k of its numbers are filled. -/
structure StI (w wr : World) (n r k : Nat) : Prop where
  below : Below w.heap.size w wr
  size : wr.heap.size = w.heap.size + 1 + r + 1
  top : wr.rowIs w.heap.size 59 n (topS w.heap.size n (r + 1))
  done : ∀ j, j < r → wr.rowIs (rbs w.heap.size j) 3 n (fun c => .int .i64 (T0 j c))
  cur : wr.rowIs (rbs w.heap.size r) 3 n (fun c => if c < k then .int .i64 Far else .int .i64 0)

theorem sto_start (w : World) (n : Nat) : StO w (w.alloc (.cells (madeCells #[.slice none 0 0] n) 59)) n 0 :=
  ⟨(Below.refl _ _).alloc (Nat.le_refl _) _, by simp, (World.rowIs_made w _ n 59).congr (fun j _ => by simp [topS]), fun j hj => absurd hj (Nat.not_lt_zero _)⟩
theorem sti_start {w wr : World} {n r : Nat} (h : StO w wr n r) :
    StI w ((wr.alloc (.cells (madeCells #[.int .i64 0] n) 3)).setCell ⟨w.heap.size, r, none⟩ (.slice (some ⟨w.heap.size + 1 + r, 0, none⟩) n n)) n r 0 := by
  have hnew := World.rowIs_made wr (.int .i64 0) n 3
  rw [h.size] at hnew
  refine ⟨(h.below.alloc (by rw [h.size]; omega) _).setCell (Nat.le_refl _) _, by simp [h.size], ((h.top.alloc _).set r _).congr (fun j _ => ?_), fun j hj => ((h.done j hj).alloc _).setOther (by show w.heap.size + 1 + j ≠ w.heap.size; omega) _,
    (hnew.setOther (by show w.heap.size + 1 + r ≠ w.heap.size; omega) _).congr (fun i _ => by simp)⟩
  simp only [topS, rbs]
  by_cases e : j = r
  · subst e; simp
  · rw [if_neg e]
    by_cases hlt : j < r
    · rw [if_pos hlt, if_pos (by omega)]
    · rw [if_neg hlt, if_neg (by omega)]
theorem sti_step {w wi : World} {n r k : Nat} (h : StI w wi n r k) : StI w (wi.setCell ⟨w.heap.size + 1 + r, k, none⟩ (.int .i64 Far)) n r (k + 1) := by
  refine ⟨h.below.setCell (by show w.heap.size ≤ w.heap.size + 1 + r; omega) _, by simp [h.size], h.top.setOther (by show w.heap.size ≠ w.heap.size + 1 + r; omega) _,
    fun j hj => (h.done j hj).setOther (by show w.heap.size + 1 + j ≠ w.heap.size + 1 + r; omega) _, (h.cur.set k _).congr (fun i _ => ?_)⟩
  by_cases e : i = k
  · subst e; simp
  · rw [if_neg e]
    by_cases hlt : i < k
    · rw [if_pos hlt, if_pos (by omega)]
    · rw [if_neg hlt, if_neg (by omega)]
theorem sti_done {w wi : World} {n r : Nat} (h : StI w wi n r n) : StO w (wi.setCell ⟨w.heap.size + 1 + r, r, none⟩ (.int .i64 0)) n (r + 1) := by
  refine ⟨h.below.setCell (by show w.heap.size ≤ w.heap.size + 1 + r; omega) _, by simp [h.size]; omega, h.top.setOther (by show w.heap.size ≠ w.heap.size + 1 + r; omega) _, fun j hj => ?_⟩
  by_cases e : j = r
  · subst e
    refine (h.cur.set j _).congr (fun i hi => ?_)
    simp only [T0]
    by_cases e : i = j
    · subst e; simp
    · rw [if_neg e, if_pos hi, if_neg (fun q => e q.symm)]
  · exact (h.done j (by omega)).setOther (by show w.heap.size + 1 + j ≠ w.heap.size + 1 + r; omega) _
theorem sto_tab {w wr : World} {n : Nat} (h : StO w wr n n) : Tab wr w.heap.size (rbs w.heap.size) n T0 :=
  ⟨h.top.congr (fun i hi => by simp [topS, hi]), h.done, fun i _ => by unfold rbs; omega, fun i j _ _ e => by unfold rbs at e; omega⟩

theorem infoS : (Try.prog.info? 59).map (fun i => (i.zero, i.size, i.bytes)) = some (some (.slice none 0 0), 1, 24) := by kernel_rfl

theorem fine_wrap : Fine wrap64 := fun x h1 h2 => by
  unfold wrap64; omega

theorem clF_of_fits {p : Pl} (h : planOk p = true) : diagOk (nn p) (clF wrap64 (tab0 p.bs) (nn p) (nn p)) = fits p ∧ (fits p = true → EqT (nn p) (clF wrap64 (tab0 p.bs) (nn p) (nn p)) (clT p)) := by
  have hw := within_of_ok h
  have hn := nn_ok h
  have hs := small_ok hn.1 (by omega) (by omega) hw
  have hle : ∀ i j, i < nn p → j < nn p → tab0 p.bs i j ≤ Far := fun i j _ _ => (tab0_le _ i j).1
  have hd := clF_diag fine_wrap hle hs.2
  constructor
  · have e : fits p = diagOk (nn p) (clT p) := by unfold fits; rw [h]; rfl
    rw [e, Bool.eq_iff_iff, diagOk_iff, diagOk_iff]
    exact hd
  · intro hf
    have hf' : diagOk (nn p) (clT p) = true := by unfold fits at hf; rw [h] at hf; simpa using hf
    exact clF_eq fine_wrap hle hs.2 (nn p) (Nat.le_refl _) (.inl (diagOk_iff.1 hf'))

end Go.Proofs.Ytmnajkhoacogjaa
