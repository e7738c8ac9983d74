/-
  Projects in memory.
-/
import Derived.Test.YtmgikoaeomieeaaI3
import Derived.Test.YtmgikoaeomieeaaP40
import Derived.Laws.BitsAllLaws
namespace Go.Proofs.Ytmgikoaeomieeaa
set_option linter.unusedVariables false
set_option linter.unusedSimpArgs false
open Go.RowKit Pp

section
variable {w0 W W' : World} {X bl ol bf of' : Nat} {AL AF : Option Addr} {cl cf : Nat} {L F : List Int}
/-- A project in a box of the call's own, that is read. -/
structure PJ (w0 W : World) (X bl ol : Nat) (AL : Option Addr) (cl : Nat) (L : List Int) (bf of' : Nat) (AF : Option Addr) (cf : Nat) (F : List Int) : Prop where
  bel : Below w0.heap.size w0 W
  ex : X < W.heap.size
  c0 : W.cell? ⟨X, 0, none⟩ = some (.slice AL L.length cl)
  c1 : W.cell? ⟨X, 1, none⟩ = some (.slice AF F.length cf)
  rl : IntsR W W.heap.size bl ol AL L
  rf : IntsR W W.heap.size bf of' AF F
theorem PJ.below (h : PJ w0 W X bl ol AL cl L bf of' AF cf F) (hb : Below W.heap.size W W') : PJ w0 W' X bl ol AL cl L bf of' AF cf F :=
  ⟨bthen h.bel hb, Nat.lt_of_lt_of_le h.ex hb.size, ((bcell hb).1 _ _ h.ex).trans h.c0, ((bcell hb).1 _ _ h.ex).trans h.c1, (h.rl.below hb).more hb.size, (h.rf.below hb).more hb.size⟩
theorem PJ.alloc (h : PJ w0 W X bl ol AL cl L bf of' AF cf F) (x : Obj) : PJ w0 (W.alloc x) X bl ol AL cl L bf of' AF cf F := h.below (by go_grown)
theorem PJ.drew (h : PJ w0 W X bl ol AL cl L bf of' AF cf F) : PJ w0 W.drew X bl ol AL cl L bf of' AF cf F := h.below (by go_grown)
theorem pj_new {B : Nat} {t : TypeId} (hB : B ≤ w0.heap.size) (hl : IntsR w0 B bl ol AL L) (hf : IntsR w0 B bf of' AF F) : PJ w0 (w0.alloc (.cells #[.slice AL L.length cl, .slice AF F.length cf] t)) w0.heap.size bl ol AL cl L bf of' AF cf F := by
  have hb : Below w0.heap.size w0 (w0.alloc (.cells #[.slice AL L.length cl, .slice AF F.length cf] t)) := by go_grown
  exact ⟨hb, by simp, by simp [go_sem], by simp [go_sem], ((hl.more hB).below hb).more hb.size, ((hf.more hB).below hb).more hb.size⟩
end
/-- A project in a variable of the law's own. -/
theorem pj_law {w0 W : World} {bl ol bf of' : Nat} {AL AF : Option Addr} {cl cf : Nat} {L F : List Int} {t : TypeId} (hW : Below w0.heap.size w0 W) (hl : IntsR W W.heap.size bl ol AL L) (hf : IntsR W W.heap.size bf of' AF F) : PJ w0 (W.alloc (.cells #[.slice AL L.length cl, .slice AF F.length cf] t)) W.heap.size bl ol AL cl L bf of' AF cf F := by
  have h := pj_new (t := t) (cl := cl) (cf := cf) (Nat.le_refl _) hl hf
  exact ⟨bthen hW h.bel, h.ex, h.c0, h.c1, h.rl, h.rf⟩

theorem and_one (x : Int) (h0 : 0 ≤ x) (h1 : x ≤ 1000) : bits .and .i64 x 1 = x % 2 := by
  obtain ⟨a, rfl⟩ := Int.eq_ofNat_of_zero_le h0
  have hx : a &&& 1 = a % 2 := Nat.and_one_is_mod a
  show IntKind.i64.wrap ((BitVec.ofInt 64 (a : Int) &&& BitVec.ofInt 64 ((1 : Nat) : Int)).toNat : Int) = _
  rw [BitVec.toNat_and, ofInt_u64 a (by omega), ofInt_u64 1 (by omega), hx]
  rw [IntWalk.i64_in _ (by omega)]
  omega
set_option maxHeartbeats 1000000 in
set_option maxRecDepth 100000 in
theorem after_c (L F : List Int) (i k : Nat) (hi : i < F.length) (hk : k < 7) (hF : 0 ≤ F.getD i 0 ∧ F.getD i 0 ≤ 63) (AL AF : Option Addr) (bl ol cl bf of' cf B : Nat) (w : World) (hl6 : F.length ≤ 2000000) (hB : B ≤ w.heap.size) (hl : IntsR w B bl ol AL L) (hf : IntsR w B bf of' AF F) :
    Calls Try.prog 46 #[.agg #[.slice AL L.length cl, .slice AF F.length cf], .int .i64 (i : Int), .int .i64 (k : Int)] w fun e w' => e = .returned (.bool (aft F i k)) ∧ Below w.heap.size w w' := by
  have hD := pj_new (t := 25) (cl := cl) (cf := cf) hB hl hf
  clear hl hf hB
  have hiz : (i : Int) < (F.length : Int) := by omega
  go_enter Try.func46, Try.ntmps46
  go_upto_region 1 with fail
  generalize w.alloc (.cells #[.slice AL L.length cl, .slice AF F.length cf] 25) = W at hD ⊢
  have p0 := hD.c0
  have p1 := hD.c1
  obtain rfl := hD.rf.addr (by omega)
  have x0 := hD.rf.cell i hi
  obtain ⟨v, hv⟩ : ∃ v, F.getD i 0 = v := ⟨_, rfl⟩
  have Ha : Hid (aft F i k = decide (v / 2 ^ k % 2 = 1)) := by unfold Hid aft; rw [hv]
  rw [hv] at x0 hF
  clear hv
  have h1 : 0 ≤ v / 2 ^ k := Int.ediv_nonneg hF.1 (Int.le_of_lt (Int.pow_pos (by omega)))
  have h2 : v / 2 ^ k ≤ v := Int.ediv_le_self _ hF.1
  have hand : bits .and .i64 (v / 2 ^ k) 1 = v / 2 ^ k % 2 := and_one _ h1 (by omega)
  go_wp2_with fail
  go_ret
  refine ⟨?_, hD.bel⟩
  rw [Ha.out]
  congr 2
end Go.Proofs.Ytmgikoaeomieeaa
