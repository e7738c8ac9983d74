/-
 The library's strconv.Atoi and strconv.Itoa at this program: what of them the shelf's laws want (laid by the kit's tool for seat E2's second seat: its numbers are that seat's).
 The program's reader of terms in its box; the library's two errors.
-/
import Derived.Shelf.Strconv.Itoa3
import Derived.Shelf.Strconv.ErrVarAll
import Derived.Test.YtmnajkhoacogjaaGreatDoorProg
import Derived.Test.YtmnajkhoacogjaaGreatDoorP60
import Derived.Test.YtmnajkhoacogjaaGreatDoorR70
import Derived.Lib.AtoiTie
namespace Go.Proofs.YtmnajkhoacogjaaGreatDoor
set_option linter.unusedVariables false
set_option linter.unusedSimpArgs false
open Go Go.Proofs Go.Shelf

def lays171_ren : Go.Shelf.Ren := ⟨fun | 171 => 130 | 243 => 137 | 246 => 142 | 283 => 145 | 284 => 146 | 285 => 147 | 286 => 148 | 129 => 155 | 317 => 154 | 318 => 156 | 319 => 157 | 320 => 158 | 337 => 162 | 338 => 163 | n => n, fun | 3 => 3 | 9 => 9 | 2 => 2 | 4 => 4 | 171 => 169 | 0 => 0 | 53 => 170 | 37 => 46 | 5 => 5 | 173 => 173 | 212 => 182 | 51 => 183 | 20 => 20 | 213 => 184 | 46 => 185 | 232 => 200 | 233 => 201 | n => n, fun | 17 => 0 | 18 => 3 | 19 => 4 | n => n⟩
theorem lays171 : Go.Proofs.Lays.n171 Tryz.prog lays171_ren := {
 mixed := by kernel_rfl
 f129 := Tryz.func155.trans (congrArg some (by kernel_rfl))
 f171 := Tryz.func130.trans (congrArg some (by kernel_rfl))
 f243 := Tryz.func137.trans (congrArg some (by kernel_rfl))
 f246 := Tryz.func142.trans (congrArg some (by kernel_rfl))
 f283 := Tryz.func145.trans (congrArg some (by kernel_rfl))
 f284 := Tryz.func146.trans (congrArg some (by kernel_rfl))
 f285 := Tryz.func147.trans (congrArg some (by kernel_rfl))
 f286 := Tryz.func148.trans (congrArg some (by kernel_rfl))
 f317 := Tryz.func154.trans (congrArg some (by kernel_rfl))
 f318 := Tryz.func156.trans (congrArg some (by kernel_rfl))
 f319 := Tryz.func157.trans (congrArg some (by kernel_rfl))
 f320 := Tryz.func158.trans (congrArg some (by kernel_rfl))
 f337 := Tryz.func162.trans (congrArg some (by kernel_rfl))
 f338 := Tryz.func163.trans (congrArg some (by kernel_rfl))
 t0 := Tryz.underlying0
 a0 := Tryz.isAgg0
 z0 := Tryz.sizeOf0
 v0 := Tryz.zeroValue0
 t2 := Tryz.underlying2
 a2 := Tryz.isAgg2
 z2 := Tryz.sizeOf2
 v2 := Tryz.zeroValue2
 t3 := Tryz.underlying3
 a3 := Tryz.isAgg3
 z3 := Tryz.sizeOf3
 v3 := Tryz.zeroValue3
 t4 := Tryz.underlying4
 a4 := Tryz.isAgg4
 z4 := Tryz.sizeOf4
 v4 := Tryz.zeroValue4
 t5 := Tryz.underlying5
 a5 := Tryz.isAgg5
 z5 := Tryz.sizeOf5
 v5 := Tryz.zeroValue5
 t9 := Tryz.underlying9
 a9 := Tryz.isAgg9
 z9 := Tryz.sizeOf9
 v9 := Tryz.zeroValue9
 t20 := Tryz.underlying20
 a20 := Tryz.isAgg20
 z20 := Tryz.sizeOf20
 v20 := Tryz.zeroValue20
 t37 := Tryz.underlying46
 a37 := Tryz.isAgg46
 z37 := Tryz.sizeOf46
 v37 := Tryz.zeroValue46
 t46 := Tryz.underlying185
 a46 := Tryz.isAgg185
 z46 := Tryz.sizeOf185
 v46 := Tryz.zeroValue185
 t51 := Tryz.underlying183
 a51 := Tryz.isAgg183
 z51 := Tryz.sizeOf183
 v51 := Tryz.zeroValue183
 t53 := Tryz.underlying170
 a53 := Tryz.isAgg170
 z53 := Tryz.sizeOf170
 v53 := Tryz.zeroValue170
 t171 := Tryz.underlying169
 a171 := Tryz.isAgg169
 z171 := Tryz.sizeOf169
 v171 := Tryz.zeroValue169
 t173 := Tryz.underlying173
 a173 := Tryz.isAgg173
 z173 := Tryz.sizeOf173
 v173 := Tryz.zeroValue173
 t212 := Tryz.underlying182
 a212 := Tryz.isAgg182
 z212 := Tryz.sizeOf182
 v212 := Tryz.zeroValue182
 t213 := Tryz.underlying184
 a213 := Tryz.isAgg184
 z213 := Tryz.sizeOf184
 t232 := Tryz.underlying200
 a232 := Tryz.isAgg200
 z232 := Tryz.sizeOf200
 v232 := Tryz.zeroValue200
 t233 := Tryz.underlying201
 a233 := Tryz.isAgg201
 z233 := Tryz.sizeOf201
 v233 := Tryz.zeroValue201
 g17 := by kernel_rfl
 g18 := by kernel_rfl
 g19 := by kernel_rfl }
def laysC172_ren : Go.Shelf.Ren := ⟨fun | 172 => 140 | 244 => 143 | 245 => 144 | 247 => 149 | 279 => 150 | 280 => 151 | 281 => 152 | 282 => 153 | 287 => 159 | 316 => 160 | 171 => 130 | 205 => 161 | 321 => 164 | 322 => 165 | 243 => 137 | 246 => 142 | 283 => 145 | 284 => 146 | 285 => 147 | 286 => 148 | 129 => 155 | 317 => 154 | 318 => 156 | 319 => 157 | 320 => 158 | 337 => 162 | 338 => 163 | n => n, fun | 9 => 9 | 3 => 3 | 75 => 163 | 76 => 164 | 4 => 4 | 5 => 5 | 167 => 175 | 37 => 46 | 0 => 0 | 85 => 176 | 2 => 2 | 168 => 178 | 53 => 170 | 175 => 187 | 46 => 185 | 210 => 191 | 127 => 196 | 145 => 199 | 143 => 197 | 21 => 21 | 171 => 169 | 173 => 173 | 212 => 182 | 51 => 183 | 20 => 20 | 213 => 184 | 232 => 200 | 233 => 201 | 80 => 145 | n => n, fun | 15 => 1 | 16 => 2 | 17 => 0 | 18 => 3 | 19 => 4 | n => n⟩
theorem laysC172 : Go.Proofs.LaysC.n172 Tryz.prog laysC172_ren := {
 mixed := by kernel_rfl
 f129 := Tryz.func155.trans (congrArg some (by kernel_rfl))
 f171 := Tryz.func130.trans (congrArg some (by kernel_rfl))
 f172 := Tryz.func140.trans (congrArg some (by kernel_rfl))
 f205 := Tryz.func161.trans (congrArg some (by kernel_rfl))
 f243 := Tryz.func137.trans (congrArg some (by kernel_rfl))
 f244 := Tryz.func143.trans (congrArg some (by kernel_rfl))
 f245 := Tryz.func144.trans (congrArg some (by kernel_rfl))
 f246 := Tryz.func142.trans (congrArg some (by kernel_rfl))
 f247 := Tryz.func149.trans (congrArg some (by kernel_rfl))
 f279 := Tryz.func150.trans (congrArg some (by kernel_rfl))
 f280 := Tryz.func151.trans (congrArg some (by kernel_rfl))
 f281 := Tryz.func152.trans (congrArg some (by kernel_rfl))
 f282 := Tryz.func153.trans (congrArg some (by kernel_rfl))
 f283 := Tryz.func145.trans (congrArg some (by kernel_rfl))
 f284 := Tryz.func146.trans (congrArg some (by kernel_rfl))
 f285 := Tryz.func147.trans (congrArg some (by kernel_rfl))
 f286 := Tryz.func148.trans (congrArg some (by kernel_rfl))
 f287 := Tryz.func159.trans (congrArg some (by kernel_rfl))
 f316 := Tryz.func160.trans (congrArg some (by kernel_rfl))
 f317 := Tryz.func154.trans (congrArg some (by kernel_rfl))
 f318 := Tryz.func156.trans (congrArg some (by kernel_rfl))
 f319 := Tryz.func157.trans (congrArg some (by kernel_rfl))
 f320 := Tryz.func158.trans (congrArg some (by kernel_rfl))
 f321 := Tryz.func164.trans (congrArg some (by kernel_rfl))
 f322 := Tryz.func165.trans (congrArg some (by kernel_rfl))
 f337 := Tryz.func162.trans (congrArg some (by kernel_rfl))
 f338 := Tryz.func163.trans (congrArg some (by kernel_rfl))
 t0 := Tryz.underlying0
 a0 := Tryz.isAgg0
 z0 := Tryz.sizeOf0
 v0 := Tryz.zeroValue0
 t2 := Tryz.underlying2
 a2 := Tryz.isAgg2
 z2 := Tryz.sizeOf2
 v2 := Tryz.zeroValue2
 t3 := Tryz.underlying3
 a3 := Tryz.isAgg3
 z3 := Tryz.sizeOf3
 v3 := Tryz.zeroValue3
 t4 := Tryz.underlying4
 a4 := Tryz.isAgg4
 z4 := Tryz.sizeOf4
 v4 := Tryz.zeroValue4
 t5 := Tryz.underlying5
 a5 := Tryz.isAgg5
 z5 := Tryz.sizeOf5
 v5 := Tryz.zeroValue5
 t9 := Tryz.underlying9
 a9 := Tryz.isAgg9
 z9 := Tryz.sizeOf9
 v9 := Tryz.zeroValue9
 t20 := Tryz.underlying20
 a20 := Tryz.isAgg20
 z20 := Tryz.sizeOf20
 v20 := Tryz.zeroValue20
 t21 := Tryz.underlying21
 a21 := Tryz.isAgg21
 z21 := Tryz.sizeOf21
 v21 := Tryz.zeroValue21
 t37 := Tryz.underlying46
 a37 := Tryz.isAgg46
 z37 := Tryz.sizeOf46
 v37 := Tryz.zeroValue46
 t46 := Tryz.underlying185
 a46 := Tryz.isAgg185
 z46 := Tryz.sizeOf185
 v46 := Tryz.zeroValue185
 t51 := Tryz.underlying183
 a51 := Tryz.isAgg183
 z51 := Tryz.sizeOf183
 v51 := Tryz.zeroValue183
 t53 := Tryz.underlying170
 a53 := Tryz.isAgg170
 z53 := Tryz.sizeOf170
 v53 := Tryz.zeroValue170
 t75 := Tryz.underlying163
 a75 := Tryz.isAgg163
 z75 := Tryz.sizeOf163
 v75 := Tryz.zeroValue163
 t76 := Tryz.underlying164
 a76 := Tryz.isAgg164
 z76 := Tryz.sizeOf164
 v76 := Tryz.zeroValue164
 t85 := Tryz.underlying176
 a85 := Tryz.isAgg176
 z85 := Tryz.sizeOf176
 v85 := Tryz.zeroValue176
 t127 := Tryz.underlying196
 a127 := Tryz.isAgg196
 z127 := Tryz.sizeOf196
 v127 := Tryz.zeroValue196
 t143 := Tryz.underlying197
 a143 := Tryz.isAgg197
 z143 := Tryz.sizeOf197
 v143 := Tryz.zeroValue197
 t145 := Tryz.underlying199
 a145 := Tryz.isAgg199
 z145 := Tryz.sizeOf199
 v145 := Tryz.zeroValue199
 t167 := Tryz.underlying175
 a167 := Tryz.isAgg175
 z167 := Tryz.sizeOf175
 v167 := Tryz.zeroValue175
 t168 := Tryz.underlying178
 a168 := Tryz.isAgg178
 z168 := Tryz.sizeOf178
 v168 := Tryz.zeroValue178
 t171 := Tryz.underlying169
 a171 := Tryz.isAgg169
 z171 := Tryz.sizeOf169
 v171 := Tryz.zeroValue169
 t173 := Tryz.underlying173
 a173 := Tryz.isAgg173
 z173 := Tryz.sizeOf173
 v173 := Tryz.zeroValue173
 t175 := Tryz.underlying187
 a175 := Tryz.isAgg187
 z175 := Tryz.sizeOf187
 v175 := Tryz.zeroValue187
 t210 := Tryz.underlying191
 a210 := Tryz.isAgg191
 z210 := Tryz.sizeOf191
 v210 := Tryz.zeroValue191
 t212 := Tryz.underlying182
 a212 := Tryz.isAgg182
 z212 := Tryz.sizeOf182
 v212 := Tryz.zeroValue182
 t213 := Tryz.underlying184
 a213 := Tryz.isAgg184
 z213 := Tryz.sizeOf184
 t232 := Tryz.underlying200
 a232 := Tryz.isAgg200
 z232 := Tryz.sizeOf200
 v232 := Tryz.zeroValue200
 t233 := Tryz.underlying201
 a233 := Tryz.isAgg201
 z233 := Tryz.sizeOf201
 v233 := Tryz.zeroValue201
 g15 := by kernel_rfl
 g16 := by kernel_rfl
 g17 := by kernel_rfl
 g18 := by kernel_rfl
 g19 := by kernel_rfl
 t80 := Tryz.underlying145
 a80 := Tryz.isAgg145
 z80 := Tryz.sizeOf145
 v80 := Tryz.zeroValue145
 i0 := by kernel_rfl
 i2 := by kernel_rfl
 i3 := by kernel_rfl
 i4 := by kernel_rfl
 i5 := by kernel_rfl
 i9 := by kernel_rfl
 i20 := by kernel_rfl
 i21 := by kernel_rfl
 i37 := by kernel_rfl
 i46 := by kernel_rfl
 i51 := by kernel_rfl
 i53 := by kernel_rfl
 i75 := by kernel_rfl
 i76 := by kernel_rfl
 i80 := by kernel_rfl
 i85 := by kernel_rfl
 i127 := by kernel_rfl
 i143 := by kernel_rfl
 i145 := by kernel_rfl
 i167 := by kernel_rfl
 i168 := by kernel_rfl
 i171 := by kernel_rfl
 i173 := by kernel_rfl
 i175 := by kernel_rfl
 i210 := by kernel_rfl
 i212 := by kernel_rfl
 i232 := by kernel_rfl
 i233 := by kernel_rfl
 m15 := by kernel_rfl
 m16 := by kernel_rfl
 m17 := by kernel_rfl
 m18 := by kernel_rfl
 m19 := by kernel_rfl
 c0 := by kernel_rfl
 c2 := by kernel_rfl
 c3 := by kernel_rfl
 c4 := by kernel_rfl
 c5 := by kernel_rfl
 c9 := by kernel_rfl
 c20 := by kernel_rfl
 c21 := by kernel_rfl
 c37 := by kernel_rfl
 c46 := by kernel_rfl
 c51 := by kernel_rfl
 c53 := by kernel_rfl
 c75 := by kernel_rfl
 c76 := by kernel_rfl
 c80 := by kernel_rfl
 c85 := by kernel_rfl
 c127 := by kernel_rfl
 c143 := by kernel_rfl
 c145 := by kernel_rfl
 c167 := by kernel_rfl
 c168 := by kernel_rfl
 c171 := by kernel_rfl
 c173 := by kernel_rfl
 c175 := by kernel_rfl
 c210 := by kernel_rfl
 c212 := by kernel_rfl
 c213 := by kernel_rfl
 c232 := by kernel_rfl
 c233 := by kernel_rfl }

open Go Go.RowKit Pp

/-- What the library's two errors read as: an interface value, or nil. -/
def VR (w : World) : Prop := (∃ ev, w.cell? ⟨1, 0, none⟩ = some ev ∧ (ev = .nilIface ∨ ∃ te pe, ev = .iface te pe)) ∧ (∃ ev, w.cell? ⟨2, 0, none⟩ = some ev ∧ (ev = .nilIface ∨ ∃ te pe, ev = .iface te pe))
theorem VR.lt {w : World} (h : VR w) : 2 < w.heap.size := by
 obtain ⟨-, ev, h, -⟩ := h
 exact World.block_lt_of_cell? w ⟨2, 0, none⟩ h
theorem VR.grown {w w' : World} {row : Option Nat} (h : VR w) (hg : w.grownBy w' row) (hr : ∀ k, row = some k → 2 < k) : VR w' := by
 have hl := h.lt
 obtain ⟨⟨e1, h1, k1⟩, ⟨e2, h2, k2⟩⟩ := h
 refine ⟨⟨e1, (hg.cell_far ⟨1, 0, none⟩ (by show 1 < w.heap.size; omega) (fun e => by have := hr _ e.symm; dsimp only at this; omega)).trans h1, k1⟩, ⟨e2, (hg.cell_far ⟨2, 0, none⟩ (by show 2 < w.heap.size; omega) (fun e => by have := hr _ e.symm; dsimp only at this; omega)).trans h2, k2⟩⟩
theorem VR.below {w w' : World} (h : VR w) (hb : Below w.heap.size w w') : VR w' := h.grown (row := none) ⟨hb.os, hb.tape, hb.output, hb.size, fun k hk _ => hb.block k hk⟩ (fun k e => by cases e)
/-- The reader in its box R, at a place, still fine or not. -/
structure TmR (wx : World) (R : Nat) (s : ByteArray) (n : Int) (f : Bool) : Prop where
 vr : VR wx
 rl : 2 < R
 ex : R < wx.heap.size
 c0 : wx.cell? ⟨R, 0, none⟩ = some (.string s)
 c1 : wx.cell? ⟨R, 1, none⟩ = some (.int .i64 n)
 c2 : wx.cell? ⟨R, 2, none⟩ = some (.bool f)
 cf : ∀ i, wx.frozen? ⟨R, i, none⟩ = false
section
variable {wx w' : World} {R : Nat} {s : ByteArray} {n : Int} {f : Bool}
theorem TmR.grown {row : Option Nat} (h : TmR wx R s n f) (hg : wx.grownBy w' row) (hr : ∀ k, row = some k → 2 < k ∧ k ≠ R) : TmR w' R s n f := by
 have hR : some R ≠ row := fun e => (hr _ e.symm).2 rfl
 exact ⟨h.vr.grown hg (fun k e => (hr k e).1), h.rl, Nat.lt_of_lt_of_le h.ex hg.size, (hg.cell_far ⟨R, 0, none⟩ h.ex hR).trans h.c0, (hg.cell_far ⟨R, 1, none⟩ h.ex hR).trans h.c1, (hg.cell_far ⟨R, 2, none⟩ h.ex hR).trans h.c2, fun i => (hg.frozen_far ⟨R, i, none⟩ h.ex hR).trans (h.cf i)⟩
theorem TmR.below (h : TmR wx R s n f) (hb : Below wx.heap.size wx w') : TmR w' R s n f := h.grown (row := none) ⟨hb.os, hb.tape, hb.output, hb.size, fun k hk _ => hb.block k hk⟩ (fun k e => by cases e)
theorem TmR.set1 (h : TmR wx R s n f) (n' : Int) : TmR (wx.setCell ⟨R, 1, none⟩ (.int .i64 n')) R s n' f := by
 refine ⟨h.vr.grown (grown_set wx ⟨R, 1, none⟩ _) (fun k e => by injection e with e; rw [← e]; exact h.rl), h.rl, by simpa using h.ex, ?_, World.cell?_setCell_same _ _ _ h.c1, ?_, fun i => by rw [← h.cf i]; simp⟩
 ·rw [World.cell?_setCell_other _ _ _ _ (by simp)]; exact h.c0
 ·rw [World.cell?_setCell_other _ _ _ _ (by simp)]; exact h.c2
theorem TmR.set2 (h : TmR wx R s n f) (f' : Bool) : TmR (wx.setCell ⟨R, 2, none⟩ (.bool f')) R s n f' := by
 refine ⟨h.vr.grown (grown_set wx ⟨R, 2, none⟩ _) (fun k e => by injection e with e; rw [← e]; exact h.rl), h.rl, by simpa using h.ex, ?_, ?_, World.cell?_setCell_same _ _ _ h.c2, fun i => by rw [← h.cf i]; simp⟩
 ·rw [World.cell?_setCell_other _ _ _ _ (by simp)]; exact h.c0
 ·rw [World.cell?_setCell_other _ _ _ _ (by simp)]; exact h.c1
end
/-- Only the reader has turned. -/
theorem grT {w w1 w2 : World} {R : Nat} (h1 : w.grownBy w1 (some R)) (h2 : w1.grownBy w2 (some R)) : w.grownBy w2 (some R) :=
 ⟨h2.os.trans h1.os, h2.tape.trans h1.tape, h2.output.trans h1.output, Nat.le_trans h1.size h2.size, fun k hk hne => (h2.block k (Nat.lt_of_lt_of_le hk h1.size) hne).trans (h1.block k hk hne)⟩
theorem grB {w w1 : World} (R : Nat) (hb : Below w.heap.size w w1) : w.grownBy w1 (some R) := ⟨hb.os, hb.tape, hb.output, hb.size, fun k hk _ => hb.block k hk⟩
theorem grRow {w w1 w2 : World} {R : Nat} {row : Option Nat} (h1 : w.grownBy w1 (some R)) (h2 : w1.grownBy w2 row) (hr : ∀ k, row = some k → w.heap.size ≤ k) : w.grownBy w2 (some R) :=
 ⟨h2.os.trans h1.os, h2.tape.trans h1.tape, h2.output.trans h1.output, Nat.le_trans h1.size h2.size, fun k hk hne => (h2.block k (Nat.lt_of_lt_of_le hk h1.size) (fun e => by have := hr k e.symm; omega)).trans (h1.block k hk hne)⟩
theorem own_farR {w w' : World} {base R : Nat} {e : TypeId} {size : Nat} {v : Value} {n : Nat} {xs : List Value} (h : w.ownsRow base e size v n xs) (hg : w.grownBy w' (some R)) (hlt : R < base) : w'.ownsRow base e size v n xs :=
 h.kept hg (.inr (fun e => by have := h.lt _ e; omega))
namespace Pp
theorem digAt_dig (L : List UInt8) (n : Nat) : ∀ c ∈ digAt L n, isDig c = true := fun c hc => by
 unfold digAt at hc
 generalize L.drop n = l at hc
 induction l with
 | nil => simp at hc
 | cons a l ih =>
   rw [List.takeWhile_cons] at hc
   split at hc
   ·rename_i ha
    rcases List.mem_cons.1 hc with h | h
    ·rw [h]; exact ha
    ·exact ih h
   ·simp at hc
theorem valD_dec : ∀ (l : List UInt8) (acc : Nat), (∀ c ∈ l, isDig c = true) → ∃ m : Nat, Lib.decFrom acc l = some m ∧ valD (acc : Int) l = (m : Int)
 | [], acc, _ => ⟨acc, rfl, rfl⟩
 | c :: l, acc, h => by
   have hc := h c (by simp)
   unfold isDig at hc
   rw [decide_eq_true_eq] at hc
   obtain ⟨m, h1, h2⟩ := valD_dec l (acc * 10 + (c.toNat - 48)) (fun x hx => h x (by simp [hx]))
   refine ⟨m, ?_, ?_⟩
   ·simp only [Lib.decFrom, Lib.digitVal, if_pos hc]
    exact h1
   ·simp only [valD]
    rw [← h2]
    congr 1
    push_cast
    omega
/-- What the library tells of digits. -/
theorem digs_atoi {l : List UInt8} (h : ∀ c ∈ l, isDig c = true) {x : Int} (hx : digs l = some x) : Lib.atoi l = some x ∧ l.length ≤ 6 := by
 unfold digs at hx
 split at hx
 ·rename_i hl
  injection hx with hx
  subst hx
  refine ⟨?_, hl.2.1⟩
  cases l with
  | nil => simp at hl
  | cons c l =>
    have hc := h c (by simp)
    unfold isDig at hc
    rw [decide_eq_true_eq] at hc
    obtain ⟨m, h1, h2⟩ := valD_dec (c :: l) 0 h
    have e1 : (c == 45) = false := by
     rw [beq_eq_false_iff_ne]
     intro e
     rw [e] at hc
     exact absurd hc (by decide)
    have e2 : (c == 43) = false := by
     rw [beq_eq_false_iff_ne]
     intro e
     rw [e] at hc
     exact absurd hc (by decide)
    show (if (c == 45) = true then (Lib.decNat l).map fun (m : Nat) => -(m : Int) else if (c == 43) = true then (Lib.decNat l).map fun (m : Nat) => (m : Int) else (Lib.decNat (c :: l)).map fun (m : Nat) => (m : Int)) = some (valD 0 (c :: l))
    rw [e1, e2, if_neg (by decide), if_neg (by decide)]
    unfold Lib.decNat
    rw [List.isEmpty_cons, if_neg (by decide), h1, Option.map_some, ← h2]
    rfl
 ·cases hx
/-- What Atoi hands back, of digits. -/
def AtoiV (L : List UInt8) (v : Int) (ev : Value) : Prop := (ev = .nilIface ∨ ∃ te pe, ev = .iface te pe) ∧ ∀ x, digs L = some x → v = x ∧ ev = .nilIface
end Pp
end Go.Proofs.YtmnajkhoacogjaaGreatDoor
