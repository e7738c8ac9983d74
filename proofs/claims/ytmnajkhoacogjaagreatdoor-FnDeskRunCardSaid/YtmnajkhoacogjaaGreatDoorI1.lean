/-
 Appends and boxes: small rules.
 A plan in a box of the call's own.
 Rows of cells that read as a list of values (structs of one-cell fields, flat).
 impl.ImpliesOk, impl.AlikeOk.
 impl.ImpliesOk, impl.AlikeOk.
 spec.ImpliesOk, spec.AlikeOk.
-/
import Derived.Test.YtmnajkhoacogjaaGreatDoorBase
import Derived.Test.YtmnajkhoacogjaaGreatDoorL2
import Derived.Test.YtmnajkhoacogjaaGreatDoorP2
import Derived.Test.YtmnajkhoacogjaaGreatDoorS2
namespace Go.Proofs.YtmnajkhoacogjaaGreatDoor
set_option linter.unusedVariables false
set_option linter.unusedSimpArgs false
open Go.RowKit Pp

theorem own_empty {w : World} {base g : Nat} {e : TypeId} {size : Nat} (h : w.heap[g]? = some (.cells #[] e (0, 0))) (hb : base ≤ g) : w.ownsRow base e size (.slice (some ⟨g, 0, none⟩) 0 0) 0 [] :=
 ⟨by simp, .inr ⟨g, 0, #[], rfl, hb, h, Nat.le_refl _, by unfold maxLen; omega, by simp, by simp⟩⟩
theorem at_new {w : World} {o : Obj} {k : Nat} (h : w.heap.size = k) : (w.alloc o).heap[k]? = some o := by subst h; unfold World.alloc; simp
theorem at_old {w : World} {o o' : Obj} {b : Nat} (h : w.heap[b]? = some o) : (w.alloc o').heap[b]? = some o := by
 have hb : b < w.heap.size := by
  rcases Nat.lt_or_ge b w.heap.size with h' | h'
  ·exact h'
  ·rw [Array.getElem?_eq_none h'] at h; cases h
 unfold World.alloc
 show (w.heap.push o')[b]? = _
 rw [Array.getElem?_push_lt hb, ← Array.getElem?_eq_getElem hb]; exact h
theorem set_other {w : World} {a b : Addr} {v : Value} (h : a.block ≠ b.block) : (w.setCell a v).cell? b = w.cell? b := World.cell?_setCell_other (h := fun e => h (congrArg Addr.block e)) ..
theorem app_rules {W w2 : World} {K : Nat} (hg : W.grownBy w2 (some K)) : (∀ b o, b < W.heap.size → b ≠ K → w2.cell? ⟨b, o, none⟩ = W.cell? ⟨b, o, none⟩) ∧ (∀ b o, b < W.heap.size → b ≠ K → w2.frozen? ⟨b, o, none⟩ = W.frozen? ⟨b, o, none⟩) ∧ (∀ b, b < W.heap.size → b ≠ K → w2.heap[b]? = W.heap[b]?) ∧ (∀ (B : Nat) (w0 : World), Below B w0 W → B ≤ W.heap.size → B ≤ K → Below B w0 w2) :=
 ⟨fun b o h hne => hg.cell_far ⟨b, o, none⟩ h (by simpa using hne), fun b o h hne => hg.frozen_far ⟨b, o, none⟩ h (by simpa using hne), fun b h hne => hg.block b h (by simpa using hne), fun B w0 h hB hK => h.grown hg hB (fun k hk => by injection hk with hk; omega)⟩
/-- Behind a second append onto what a first one made: S, K: how many blocks there were ahead of the first one, and the block that it may have written. -/
theorem app_rules2 {w2 W w3 : World} {base : Nat} {e : TypeId} {size n : Nat} {v : Value} {xs : List Value} {K S : Nat} (hat : v.ownBlock = some K ∨ v.ownBlock = some S) (hown : w2.ownsRow base e size v n xs) (hg : W.grownBy w3 v.ownBlock) (hs : w2.heap.size ≤ W.heap.size) (hS : S ≤ w2.heap.size) :
  (∀ b o, b < S → b ≠ K → w3.cell? ⟨b, o, none⟩ = W.cell? ⟨b, o, none⟩) ∧ (∀ b o, b < S → b ≠ K → w3.frozen? ⟨b, o, none⟩ = W.frozen? ⟨b, o, none⟩) ∧
  (∀ b o, w2.heap.size ≤ b → b < W.heap.size → w3.cell? ⟨b, o, none⟩ = W.cell? ⟨b, o, none⟩) ∧ (∀ b o, w2.heap.size ≤ b → b < W.heap.size → w3.frozen? ⟨b, o, none⟩ = W.frozen? ⟨b, o, none⟩) ∧
  (∀ b, b < S → b ≠ K → v.ownBlock ≠ some b) ∧ (∀ b, w2.heap.size ≤ b → v.ownBlock ≠ some b) := by
 have k1 : ∀ b, b < S → b ≠ K → v.ownBlock ≠ some b := fun b h1 h2 h => by
  rcases hat with hat | hat <;> rw [hat] at h <;> injection h with h <;> omega
 have k2 : ∀ b, w2.heap.size ≤ b → v.ownBlock ≠ some b := fun b h1 h => by have := hown.lt b h; omega
 exact ⟨fun b o h1 h2 => hg.cell_far ⟨b, o, none⟩ (by show b < _; omega) (fun e => k1 b h1 h2 e.symm), fun b o h1 h2 => hg.frozen_far ⟨b, o, none⟩ (by show b < _; omega) (fun e => k1 b h1 h2 e.symm),
  fun b o h1 h2 => hg.cell_far ⟨b, o, none⟩ h2 (fun e => k2 b h1 e.symm), fun b o h1 h2 => hg.frozen_far ⟨b, o, none⟩ h2 (fun e => k2 b h1 e.symm), k1, k2⟩
theorem blk_bd (w : World) (t : TypeId) (b : Bd) {W : World} (g B : Nat) (hg : g = w.heap.size) (h : Below (w.alloc (.cells #[.int .i64 b.f, .int .i64 b.t, .int .i64 b.m] t)).heap.size (w.alloc (.cells #[.int .i64 b.f, .int .i64 b.t, .int .i64 b.m] t)) W) (hB : g < B) :
  BdsR W B g 0 (some ⟨g, 0, none⟩) [b] := by
 subst hg
 have k : ∀ i, W.cell? ⟨w.heap.size, i, none⟩ = #[Value.int .i64 b.f, .int .i64 b.t, .int .i64 b.m][i]? := fun i => by
  rw [h.cell (by simp)]; simp [go_sem]
 refine ⟨fun _ => rfl, fun _ => hB, ?_, ?_, ?_⟩ <;>
 ·intro j x hx
  cases j with
  | zero => simp at hx; subst hx; rw [k]; rfl
  | succ j => simp at hx
/-- A plan in a box of the call's own, its bounds anywhere. -/
structure PO (w0 W : World) (X b o : Nat) (n : Int) (A : Option Addr) (c : Nat) (bs : List Bd) : Prop where
 bel : Below w0.heap.size w0 W
 lo : w0.heap.size ≤ X
 ex : X < W.heap.size
 c0 : W.cell? ⟨X, 0, none⟩ = some (.int .i64 n)
 c1 : W.cell? ⟨X, 1, none⟩ = some (.slice A bs.length c)
 rd : BdsR W W.heap.size b o A bs
theorem PO.below {w0 W W' : World} {X b o : Nat} {n : Int} {A : Option Addr} {c : Nat} {bs : List Bd} (h : PO w0 W X b o n A c bs) (hb : Below W.heap.size W W') : PO w0 W' X b o n A c bs :=
 ⟨bthen h.bel hb, h.lo, Nat.lt_of_lt_of_le h.ex hb.size, ((bcell hb).1 _ _ h.ex).trans h.c0, ((bcell hb).1 _ _ h.ex).trans h.c1, (h.rd.below hb).more hb.size⟩
theorem PO.alloc {w0 W : World} {X b o : Nat} {n : Int} {A : Option Addr} {c : Nat} {bs : List Bd} (h : PO w0 W X b o n A c bs) (x : Obj) : PO w0 (W.alloc x) X b o n A c bs := h.below (by go_grown)
theorem PO.drew {w0 W : World} {X b o : Nat} {n : Int} {A : Option Addr} {c : Nat} {bs : List Bd} (h : PO w0 W X b o n A c bs) : PO w0 W.drew X b o n A c bs := h.below (by go_grown)
theorem po_new {w0 W : World} {b o : Nat} {n : Int} {A : Option Addr} {c : Nat} {bs : List Bd} {t : TypeId} (hW : Below w0.heap.size w0 W) (hrd : BdsR W W.heap.size b o A bs) : PO w0 (W.alloc (.cells #[.int .i64 n, .slice A bs.length c] t)) W.heap.size b o n A c bs := by
 have hb : Below W.heap.size W (W.alloc (.cells #[.int .i64 n, .slice A bs.length c] t)) := by go_grown
 exact ⟨bthen hW hb, hW.size, by simp, by simp [go_sem], by simp [go_sem], (hrd.below hb).more hb.size⟩

/-- A slice of n elements whose cells read as a list. -/
structure CsR (w : World) (B b o : Nat) (A : Option Addr) (n : Nat) (cs : List Value) : Prop where
 addr : 0 < n → A = some ⟨b, o, none⟩
 lt : 0 < n → b < B
 cell : ∀ j u, cs[j]? = some u → w.cell? ⟨b, o + j, none⟩ = some u
 none : n = 0 → cs = []

theorem CsR.pos {w : World} {B b o n : Nat} {A : Option Addr} {cs : List Value} (h : CsR w B b o A n cs) {j : Nat} {u : Value} (hu : cs[j]? = some u) : 0 < n := by
 rcases Nat.eq_zero_or_pos n with h0 | h0
 ·rw [h.none h0] at hu; simp at hu
 ·exact h0
theorem CsR.below {w w' : World} {B b o n : Nat} {A : Option Addr} {cs : List Value} (h : CsR w B b o A n cs) (hb : Below B w w') : CsR w' B b o A n cs :=
 ⟨h.addr, h.lt, fun j u hu => (hb.cell (p := ⟨b, o + j, Option.none⟩) (h.lt (h.pos hu))).trans (h.cell j u hu), h.none⟩
theorem CsR.more {w : World} {B B' b o n : Nat} {A : Option Addr} {cs : List Value} (h : CsR w B b o A n cs) (hB : B ≤ B') : CsR w B' b o A n cs :=
 ⟨h.addr, fun hx => Nat.lt_of_lt_of_le (h.lt hx) hB, h.cell, h.none⟩
theorem CsR.grown {w w' : World} {B b o n : Nat} {A : Option Addr} {cs : List Value} {row : Option Nat} (h : CsR w B b o A n cs) (hg : w.grownBy w' row) (hb : 0 < n → some b ≠ row) : CsR w' B b o A n cs :=
 ⟨h.addr, h.lt, fun j u hu => hg.cell (h.cell j u hu) (hb (h.pos hu)), h.none⟩
theorem CsR.nil (w : World) (B : Nat) (A : Option Addr) : CsR w B 0 0 A 0 [] := ⟨by simp, by simp, by simp, fun _ => rfl⟩
theorem CsR.at {w : World} {B b o n : Nat} {A : Option Addr} {cs : List Value} (h : CsR w B b o A n cs) {j : Nat} {u : Value} (m i : Nat) (e : j = m + i) (hu : cs[j]? = some u) : w.cell? ⟨b, o + m + i, Option.none⟩ = some u := by
 have := h.cell j u hu; rwa [e, ← Nat.add_assoc] at this
theorem own_csR {w : World} {base : Nat} {e : TypeId} {size : Nat} {A : Option Addr} {c n : Nat} {cs : List Value} (h : w.ownsRow base e size (.slice A n c) n cs) : ∃ g, CsR w w.heap.size g 0 A n cs := by
 obtain ⟨A2, g, c2, hv, h1, h2, h3⟩ := own_form h
 injection hv with e1 _ e3
 subst e1
 exact ⟨g, h1, fun hx => (h2 hx).2, fun j u hu => by rw [Nat.zero_add]; exact h3 j u hu, fun h0 => List.eq_nil_of_length_eq_zero (by rw [h.1, h0, Nat.zero_mul])⟩
theorem own_IntsR {w : World} {base : Nat} {A : Option Addr} {c : Nat} {xs : List Int} (h : OwnI base w (.slice A xs.length c) xs) : ∃ g, IntsR w w.heap.size g 0 A xs := by
 obtain ⟨A2, g, c2, hv, hr⟩ := h.reads
 injection hv with e1 _ e3
 subst e1
 exact ⟨g, hr⟩

set_option maxHeartbeats 8000000 in
set_option maxRecDepth 100000 in
theorem impliesOk_c (p q : Pl) (A A' : Option Addr) (b o c b' o' c' B : Nat) (w : World) (hn : p.bs.length ≤ 100000) (hn' : q.bs.length ≤ 100000) (hB : B ≤ w.heap.size) (hR : BdsR w B b o A p.bs) (hR' : BdsR w B b' o' A' q.bs) :
  Calls Tryz.prog 31 #[.agg #[.int .i64 p.n, .slice A p.bs.length c], .agg #[.int .i64 q.n, .slice A' q.bs.length c']] w fun e w' => e = .returned (.bool (implies p q)) ∧ Below w.heap.size w w' := by
 obtain ⟨n, bs⟩ := p
 obtain ⟨n', bs'⟩ := q
 dsimp only at *
 have hl6 : bs.length ≤ 2000000 := by omega
 have hl6' : bs'.length ≤ 2000000 := by omega
 obtain ⟨r, Hr⟩ : ∃ r, Hid (implies ⟨n, bs⟩ ⟨n', bs'⟩ = r) := ⟨_, rfl⟩
 rw [Hr.out]
 go_enter Tryz.func31, Tryz.ntmps31
 go_upto_region 1 with fail
 have hP := (po_new (t := 34) (n := n) (c := c) (Below.refl w.heap.size w) (hR.more hB)).alloc (.cells #[.int .i64 n', .slice A' bs'.length c'] 34)
 have hb0 : Below w.heap.size w (w.alloc (.cells #[.int .i64 n, .slice A bs.length c] 34)) := by go_grown
 have hQ := po_new (t := 34) (n := n') (c := c') hb0 ((hR'.below (hb0.mono hB)).more (Nat.le_trans hB hb0.size))
 simp only [World.size_alloc] at hQ
 generalize (w.alloc (.cells #[.int .i64 n, .slice A bs.length c] 34)).alloc (.cells #[.int .i64 n', .slice A' bs'.length c'] 34) = W at hP hQ ⊢
 generalize w.heap.size + 1 = Y at hQ ⊢
 generalize hX : w.heap.size = X at hP ⊢
 clear hR hR' hb0
 have p0 := hP.c0
 have p1 := hP.c1
 cases hp : planOk ⟨n, bs⟩
 ·obtain rfl : r = false := by rw [← Hr.out]; unfold implies; rw [hp]; rfl
  have Hp := hide hp
  clear hp
  go_wp2_with (go_at_call 58; go_fit (planOk_c ⟨n, bs⟩ A b o c _ _ hl6 (Nat.le_refl _) hP.rd); rintro e w2 ⟨rfl, hb2⟩; rw [Hp.out]; have hP2 := hP.below hb2)
  go_ret
  exact ⟨rfl, hX ▸ hP2.bel⟩
 ·have hnn := nn_ok hp
  cases hq : planOk ⟨n', bs'⟩
  ·obtain rfl : r = false := by rw [← Hr.out]; unfold implies; rw [hp, hq]; rfl
   have Hp := hide hp
   have Hq := hide hq
   clear hp hq
   go_wp2_with (first
    | (go_at_call 58; go_fit (planOk_c ⟨n, bs⟩ A b o c _ _ hl6 (Nat.le_refl _) hP.rd); rintro e w2 ⟨rfl, hb2⟩; rw [Hp.out]; have hQ2 := hQ.below hb2; have q0 := hQ2.c0; have q1 := hQ2.c1)
    | (go_at_call 58; go_fit (planOk_c ⟨n', bs'⟩ A' b' o' c' _ _ hl6' (Nat.le_refl _) hQ2.rd); rintro e w3 ⟨rfl, hb3⟩; rw [Hq.out]; have hQ3 := hQ2.below hb3))
   go_ret
   exact ⟨rfl, hX ▸ hQ3.bel⟩
  ·by_cases hnn' : n = n'
   ·subst hnn'
    have hwq := within_of_ok hq
    cases hf : fits ⟨n, bs⟩
    ·obtain rfl : r = true := by rw [← Hr.out]; unfold implies; rw [hp, hq, hf]; simp
     have Hp := hide hp
     have Hq := hide hq
     have Hf := hide hf
     clear hp hq hf
     go_wp2_with (first
      | (go_at_call 58; go_fit (planOk_c ⟨n, bs⟩ A b o c _ _ hl6 (Nat.le_refl _) hP.rd); rintro e w2 ⟨rfl, hb2⟩; rw [Hp.out]; have hP2 := hP.below hb2; have hQ2 := hQ.below hb2; have q0 := hQ2.c0; have q1 := hQ2.c1)
      | (go_at_call 58; go_fit (planOk_c ⟨n, bs'⟩ A' b' o' c' _ _ hl6' (Nat.le_refl _) hQ2.rd); rintro e w3 ⟨rfl, hb3⟩; rw [Hq.out]; have hP3 := hP2.below hb3; have hQ3 := hQ2.below hb3; have r0 := hP3.c0; have r1 := hP3.c1; have s0 := hQ3.c0)
      | (go_at_call 62; go_fit (closed_no ⟨n, bs⟩ A b o c _ _ hl6 (Nat.le_refl _) hP3.rd Hf.out); rintro e w4 ⟨rfl, hb4⟩; have hP4 := hP3.below hb4))
     go_ret
     exact ⟨rfl, hX ▸ hP4.bel⟩
    ·have hr : tabLe (clT ⟨n, bs⟩) (tab0 bs') (nn ⟨n, bs⟩) (nn ⟨n, bs⟩) = r := by rw [← Hr.out]; unfold implies; rw [hp, hq, hf]; simp
     have Hr2 := hide hr
     have Hp := hide hp
     have Hq := hide hq
     have Hf := hide hf
     clear hp hq hf hr
     obtain ⟨m, hm⟩ : ∃ m, nn ⟨n, bs⟩ = m := ⟨_, rfl⟩
     have hmq : nn ⟨n, bs'⟩ = m := by rw [← hm]; rfl
     rw [hmq] at hwq
     rw [hm] at hnn
     dsimp only at hnn
     obtain ⟨hm6, hm1, hmn⟩ := hnn
     obtain rfl : n = (m : Int) := hmn.symm
     unfold Hid at Hr2
     rw [hm] at Hr2
     have Hr2 := hide Hr2
     have Hm := hide hm
     clear hm hmq
     go_wp2_with (first
      | (go_at_call 58; go_fit (planOk_c ⟨(m : Int), bs⟩ A b o c _ _ hl6 (Nat.le_refl _) hP.rd); rintro e w2 ⟨rfl, hb2⟩; rw [Hp.out]; have hP2 := hP.below hb2; have hQ2 := hQ.below hb2; have q0 := hQ2.c0; have q1 := hQ2.c1)
      | (go_at_call 58; go_fit (planOk_c ⟨(m : Int), bs'⟩ A' b' o' c' _ _ hl6' (Nat.le_refl _) hQ2.rd); rintro e w3 ⟨rfl, hb3⟩; rw [Hq.out]; have hP3 := hP2.below hb3; have hQ3 := hQ2.below hb3; have r0 := hP3.c0; have r1 := hP3.c1; have s0 := hQ3.c0)
      | (go_at_call 62; go_fit (closed_yes ⟨(m : Int), bs⟩ A b o c _ _ (Nat.le_refl _) hP3.rd Hf.out); rintro e w4 ⟨ob, rb, rfl, hT, _, _, hb4⟩; rw [Hm.out] at hT ⊢; have hQ4 := hQ3.below hb4; have t0 := hQ4.c0; have t1 := hQ4.c1)
      | (go_at_call 63; go_fit (start_c m bs' 99 A' b' o' c' _ _ (by omega) hn' (Nat.le_refl _) hQ4.rd hwq); rintro e w5 ⟨rfl, hT5, hb5⟩; have hQ5 := hQ4.below hb5))
     have hD := (hT.reads.below hb5).more hb5.size
     have hT6 := hT5.reads
     have hW5 : Below w.heap.size w w5 := hX ▸ hQ5.bel
     clear hT hT5 hb2 hb3 hb4 hb5 hP hP2 hP3 hQ hQ2 hQ3 hQ4 hQ5 p0 p1 q0 q1 r0 r1 s0 t0 t1 Hr hwq
     generalize clT ⟨(m : Int), bs⟩ = D at hD Hr2 ⊢
     generalize tab0 bs' = T at hT6 Hr2 ⊢
     generalize rbs w4.heap.size = rb2 at hT6 ⊢
     generalize w4.heap.size = ob2 at hT6 ⊢
     go_loopg [39] m (fun gh s wr => wr = w5 ∧ ∃ i : Nat, i ≤ m ∧ gh = m - i ∧ s = .int .i64 i ∧ Hid (tabLe D T m i = true))
     case atStart => exact ⟨rfl, 0, Nat.zero_le _, rfl, rfl, rfl⟩
     case round =>
      obtain ⟨rfl, i, hi, rfl, rfl, Hi⟩ := hrel
      by_cases hlt : i < m
      ·have hlt' : (i : Int) < (m : Int) := by omega
       have d0 := hD.top i hlt
       have e0 := hT6.top i hlt
       go_wp2_with fail
       go_loopg [46] m (fun gh s wr2 => wr2 = wr ∧ ∃ k : Nat, k ≤ m ∧ gh = m - k ∧ s = .int .i64 k ∧ Hid (rowLe D T i k = true))
       case atStart => exact ⟨rfl, 0, Nat.zero_le _, rfl, rfl, rfl⟩
       case round =>
        obtain ⟨rfl, k, hk, rfl, rfl, Hk⟩ := hrel
        by_cases hlk : k < m
        ·have hlk' : (k : Int) < (m : Int) := by omega
         have d1 := hD.row i k hlt hlk
         have e1 := hT6.row i k hlt hlk
         by_cases hle : D i k ≤ T i k
         ·have Hk2 : Hid (rowLe D T i (k + 1) = true) := by unfold Hid; simp only [rowLe, Hk.out, decide_eq_true hle]; rfl
          generalize D i k = x at d1 hle
          generalize T i k = y at e1 hle
          go_wp2_with fail
          go_roundg (m - (k + 1))
          case measure => go_light; omega
          case rel => go_light; exact ⟨rfl, k + 1, by omega, rfl, by go_num, Hk2⟩
         ·obtain rfl : r = false := by rw [← Hr2.out]; exact tabLe_no hlt hlk hle
          generalize D i k = x at d1 hle
          generalize T i k = y at e1 hle
          go_wp2_with fail
          (try rw [Exit.noGoto_ret])
          go_ret
          exact ⟨rfl, hX ▸ hW5⟩
        ·obtain rfl : k = m := by omega
         have Hi2 : Hid (tabLe D T k (i + 1) = true) := by unfold Hid; simp only [tabLe, Hi.out, Hk.out]; rfl
         go_wp2_with fail
         go_roundg (k - (i + 1))
         case measure => go_light; omega
         case rel => go_light; exact ⟨rfl, i + 1, by omega, rfl, by go_num, Hi2⟩
      ·obtain rfl : i = m := by omega
       obtain rfl : r = true := by rw [← Hr2.out]; exact Hi.out
       go_wp2_with fail
       go_ret
       exact ⟨rfl, hX ▸ hW5⟩
   ·obtain rfl : r = false := by rw [← Hr.out]; unfold implies; rw [decide_eq_false hnn']; simp
    have Hp := hide hp
    have Hq := hide hq
    clear hp hq
    go_wp2_with (first
     | (go_at_call 58; go_fit (planOk_c ⟨n, bs⟩ A b o c _ _ hl6 (Nat.le_refl _) hP.rd); rintro e w2 ⟨rfl, hb2⟩; rw [Hp.out]; have hP2 := hP.below hb2; have hQ2 := hQ.below hb2; have q0 := hQ2.c0; have q1 := hQ2.c1)
     | (go_at_call 58; go_fit (planOk_c ⟨n', bs'⟩ A' b' o' c' _ _ hl6' (Nat.le_refl _) hQ2.rd); rintro e w3 ⟨rfl, hb3⟩; rw [Hq.out]; have hP3 := hP2.below hb3; have hQ3 := hQ2.below hb3; have r0 := hP3.c0; have s0 := hQ3.c0))
    go_ret
    exact ⟨rfl, hX ▸ hQ3.bel⟩

set_option maxHeartbeats 2000000 in
set_option maxRecDepth 100000 in
theorem alikeOk_c (p q : Pl) (A A' : Option Addr) (b o c b' o' c' B : Nat) (w : World) (hn : p.bs.length ≤ 100000) (hn' : q.bs.length ≤ 100000) (hB : B ≤ w.heap.size) (hR : BdsR w B b o A p.bs) (hR' : BdsR w B b' o' A' q.bs) :
  Calls Tryz.prog 29 #[.agg #[.int .i64 p.n, .slice A p.bs.length c], .agg #[.int .i64 q.n, .slice A' q.bs.length c']] w fun e w' => e = .returned (.bool (alike p q)) ∧ Below w.heap.size w w' := by
 obtain ⟨n, bs⟩ := p
 obtain ⟨n', bs'⟩ := q
 dsimp only at *
 have ea : alike ⟨n, bs⟩ ⟨n', bs'⟩ = (implies ⟨n, bs⟩ ⟨n', bs'⟩ && implies ⟨n', bs'⟩ ⟨n, bs⟩) := rfl
 rw [ea]
 clear ea
 have hP := (po_new (t := 34) (n := n) (c := c) (Below.refl w.heap.size w) (hR.more hB)).alloc (.cells #[.int .i64 n', .slice A' bs'.length c'] 34)
 have hb0 : Below w.heap.size w (w.alloc (.cells #[.int .i64 n, .slice A bs.length c] 34)) := by go_grown
 have hQ := po_new (t := 34) (n := n') (c := c') hb0 ((hR'.below (hb0.mono hB)).more (Nat.le_trans hB hb0.size))
 simp only [World.size_alloc] at hQ
 cases h1 : implies ⟨n, bs⟩ ⟨n', bs'⟩
 ·have H1 := hide h1
  clear h1
  go_enter Tryz.func29, Tryz.ntmps29
  go_wp2_with (go_at_call 31; go_fit (impliesOk_c ⟨n, bs⟩ ⟨n', bs'⟩ A A' b o c b' o' c' _ _ hn hn' (Nat.le_refl _) hP.rd hQ.rd); rintro e w2 ⟨rfl, hb2⟩; rw [H1.out]; have hP2 := hP.below hb2)
  go_ret
  exact ⟨rfl, hP2.bel⟩
 ·have H1 := hide h1
  clear h1
  obtain ⟨r, hr⟩ : ∃ r, implies ⟨n', bs'⟩ ⟨n, bs⟩ = r := ⟨_, rfl⟩
  rw [hr]
  have H2 := hide hr
  clear hr
  go_enter Tryz.func29, Tryz.ntmps29
  go_upto_region 1 with fail
  generalize (w.alloc (.cells #[.int .i64 n, .slice A bs.length c] 34)).alloc (.cells #[.int .i64 n', .slice A' bs'.length c'] 34) = W at hP hQ ⊢
  have p0 := hP.c0
  have p1 := hP.c1
  have q0 := hQ.c0
  have q1 := hQ.c1
  go_wp2_with (first
   | (go_at_call 31; go_fit (impliesOk_c ⟨n, bs⟩ ⟨n', bs'⟩ A A' b o c b' o' c' _ _ hn hn' (Nat.le_refl _) hP.rd hQ.rd); rintro e w2 ⟨rfl, hb2⟩; rw [H1.out]; have hP2 := hP.below hb2; have hQ2 := hQ.below hb2; have r0 := hP2.c0; have r1 := hP2.c1; have s0 := hQ2.c0; have s1 := hQ2.c1)
   | (go_at_call 31; go_fit (impliesOk_c ⟨n', bs'⟩ ⟨n, bs⟩ A' A b' o' c' b o c _ _ hn' hn (Nat.le_refl _) hQ2.rd hP2.rd); rintro e w3 ⟨rfl, hb3⟩; rw [H2.out]; have hP3 := hP2.below hb3))
  go_ret
  exact ⟨by cases r <;> rfl, hP3.bel⟩

set_option maxHeartbeats 8000000 in
set_option maxRecDepth 100000 in
theorem sImpliesOk_c (p q : Pl) (A A' : Option Addr) (b o c b' o' c' B : Nat) (w : World) (hn : p.bs.length ≤ 100000) (hn' : q.bs.length ≤ 100000) (hB : B ≤ w.heap.size) (hR : BdsR w B b o A p.bs) (hR' : BdsR w B b' o' A' q.bs) :
  Calls Tryz.prog 124 #[.agg #[.int .i64 p.n, .slice A p.bs.length c], .agg #[.int .i64 q.n, .slice A' q.bs.length c']] w fun e w' => e = .returned (.bool (implies p q)) ∧ Below w.heap.size w w' := by
 obtain ⟨n, bs⟩ := p
 obtain ⟨n', bs'⟩ := q
 dsimp only at *
 have hl6 : bs.length ≤ 2000000 := by omega
 have hl6' : bs'.length ≤ 2000000 := by omega
 obtain ⟨r, Hr⟩ : ∃ r, Hid (implies ⟨n, bs⟩ ⟨n', bs'⟩ = r) := ⟨_, rfl⟩
 rw [Hr.out]
 go_enter Tryz.func124, Tryz.ntmps124
 go_upto_region 1 with fail
 have hP := (po_new (t := 34) (n := n) (c := c) (Below.refl w.heap.size w) (hR.more hB)).alloc (.cells #[.int .i64 n', .slice A' bs'.length c'] 34)
 have hb0 : Below w.heap.size w (w.alloc (.cells #[.int .i64 n, .slice A bs.length c] 34)) := by go_grown
 have hQ := po_new (t := 34) (n := n') (c := c') hb0 ((hR'.below (hb0.mono hB)).more (Nat.le_trans hB hb0.size))
 simp only [World.size_alloc] at hQ
 generalize (w.alloc (.cells #[.int .i64 n, .slice A bs.length c] 34)).alloc (.cells #[.int .i64 n', .slice A' bs'.length c'] 34) = W at hP hQ ⊢
 generalize w.heap.size + 1 = Y at hQ ⊢
 generalize hX : w.heap.size = X at hP ⊢
 clear hR hR' hb0
 have p0 := hP.c0
 have p1 := hP.c1
 cases hp : planOk ⟨n, bs⟩
 ·obtain rfl : r = false := by rw [← Hr.out]; unfold implies; rw [hp]; rfl
  have Hp := hide hp
  clear hp
  go_wp2_with (go_at_call 36; go_fit (sPlanOk_c ⟨n, bs⟩ A b o c _ _ hl6 (Nat.le_refl _) hP.rd); rintro e w2 ⟨rfl, hb2⟩; rw [Hp.out]; have hP2 := hP.below hb2)
  go_ret
  exact ⟨rfl, hX ▸ hP2.bel⟩
 ·have hnn := nn_ok hp
  cases hq : planOk ⟨n', bs'⟩
  ·obtain rfl : r = false := by rw [← Hr.out]; unfold implies; rw [hp, hq]; rfl
   have Hp := hide hp
   have Hq := hide hq
   clear hp hq
   go_wp2_with (first
    | (go_at_call 36; go_fit (sPlanOk_c ⟨n, bs⟩ A b o c _ _ hl6 (Nat.le_refl _) hP.rd); rintro e w2 ⟨rfl, hb2⟩; rw [Hp.out]; have hQ2 := hQ.below hb2; have q0 := hQ2.c0; have q1 := hQ2.c1)
    | (go_at_call 36; go_fit (sPlanOk_c ⟨n', bs'⟩ A' b' o' c' _ _ hl6' (Nat.le_refl _) hQ2.rd); rintro e w3 ⟨rfl, hb3⟩; rw [Hq.out]; have hQ3 := hQ2.below hb3))
   go_ret
   exact ⟨rfl, hX ▸ hQ3.bel⟩
  ·by_cases hnn' : n = n'
   ·subst hnn'
    have hwq := within_of_ok hq
    cases hf : fits ⟨n, bs⟩
    ·obtain rfl : r = true := by rw [← Hr.out]; unfold implies; rw [hp, hq, hf]; simp
     have Hp := hide hp
     have Hq := hide hq
     have Hf := hide hf
     clear hp hq hf
     go_wp2_with (first
      | (go_at_call 36; go_fit (sPlanOk_c ⟨n, bs⟩ A b o c _ _ hl6 (Nat.le_refl _) hP.rd); rintro e w2 ⟨rfl, hb2⟩; rw [Hp.out]; have hP2 := hP.below hb2; have hQ2 := hQ.below hb2; have q0 := hQ2.c0; have q1 := hQ2.c1)
      | (go_at_call 36; go_fit (sPlanOk_c ⟨n, bs'⟩ A' b' o' c' _ _ hl6' (Nat.le_refl _) hQ2.rd); rintro e w3 ⟨rfl, hb3⟩; rw [Hq.out]; have hP3 := hP2.below hb3; have hQ3 := hQ2.below hb3; have r0 := hP3.c0; have r1 := hP3.c1; have s0 := hQ3.c0)
      | (go_at_call 131; go_fit (sFitsOk_c ⟨n, bs⟩ A b o c _ _ hl6 (Nat.le_refl _) hP3.rd); rintro e w4 ⟨rfl, hb4⟩; rw [Hf.out]; have hP4 := hP3.below hb4))
     go_ret
     exact ⟨rfl, hX ▸ hP4.bel⟩
    ·have hr : tabLe (clT ⟨n, bs⟩) (tab0 bs') (nn ⟨n, bs⟩) (nn ⟨n, bs⟩) = r := by rw [← Hr.out]; unfold implies; rw [hp, hq, hf]; simp
     have Hr2 := hide hr
     have Hp := hide hp
     have Hq := hide hq
     have Hf := hide hf
     clear hp hq hf hr
     obtain ⟨m, hm⟩ : ∃ m, nn ⟨n, bs⟩ = m := ⟨_, rfl⟩
     have hmq : nn ⟨n, bs'⟩ = m := by rw [← hm]; rfl
     rw [hmq] at hwq
     rw [hm] at hnn
     dsimp only at hnn
     obtain ⟨hm6, hm1, hmn⟩ := hnn
     obtain rfl : n = (m : Int) := hmn.symm
     unfold Hid at Hr2
     rw [hm] at Hr2
     have Hr2 := hide Hr2
     have Hm := hide hm
     clear hm hmq
     go_wp2_with (first
      | (go_at_call 36; go_fit (sPlanOk_c ⟨(m : Int), bs⟩ A b o c _ _ hl6 (Nat.le_refl _) hP.rd); rintro e w2 ⟨rfl, hb2⟩; rw [Hp.out]; have hP2 := hP.below hb2; have hQ2 := hQ.below hb2; have q0 := hQ2.c0; have q1 := hQ2.c1)
      | (go_at_call 36; go_fit (sPlanOk_c ⟨(m : Int), bs'⟩ A' b' o' c' _ _ hl6' (Nat.le_refl _) hQ2.rd); rintro e w3 ⟨rfl, hb3⟩; rw [Hq.out]; have hP3 := hP2.below hb3; have hQ3 := hQ2.below hb3; have r0 := hP3.c0; have r1 := hP3.c1; have s0 := hQ3.c0)
      | (go_at_call 131; go_fit (sFitsOk_c ⟨(m : Int), bs⟩ A b o c _ _ hl6 (Nat.le_refl _) hP3.rd); rintro e w6 ⟨rfl, hb6⟩; rw [Hf.out]; have hP6 := hP3.below hb6; have hQ6 := hQ3.below hb6; have u0 := hP6.c0; have u1 := hP6.c1)
      | (go_at_call 132; go_fit (sClosed_c ⟨(m : Int), bs⟩ A b o c _ _ Hp.out (Nat.le_refl _) hP6.rd); rintro e w4 ⟨ob, cc, rb, rc, rfl, hT, hb4⟩; rw [Hm.out] at hT ⊢; have hQ4 := hQ6.below hb4; have t0 := hQ4.c0; have t1 := hQ4.c1)
      | (go_at_call 133; go_fit (l2Table_c m bs' A' b' o' c' _ _ hm1 (by omega) hl6' (Nat.le_refl _) hQ4.rd); rintro e w5 ⟨A5, cc5, rb5, rc5, rfl, hT5, hb5⟩; have hQ5 := hQ4.below hb5; have hP5 := (hP6.below hb4).below hb5))
     have hD := (hT.below hb5).more hb5.size
     obtain ⟨ob2, rfl, hT6⟩ := hT5.tab (by omega)
     have v0 := hP5.c0
     have hW5 : Below w.heap.size w w5 := hX ▸ hQ5.bel
     have hX5 := hP5.ex
     clear hT hT5 hb2 hb3 hb4 hb5 hb6 hP hP2 hP3 hP5 hP6 hQ hQ2 hQ3 hQ4 hQ5 hQ6 p0 p1 q0 q1 r0 r1 s0 t0 t1 u0 u1 Hr hwq
     generalize clT ⟨(m : Int), bs⟩ = D at hD Hr2 ⊢
     generalize tab0 bs' = T at hT6 Hr2 ⊢
     rw [hX] at hW5
     go_wp2_with fail
     go_loopg [7, 8] m (fun gh s s8 wr => Below X w wr ∧ wr.cell? ⟨X, 0, none⟩ = some (.int .i64 (m : Int)) ∧ TabR wr w5.heap.size ob rb rc m D ∧ TabR wr w5.heap.size ob2 rb5 rc5 m T ∧ ∃ i : Nat, i ≤ m ∧ gh = m - i ∧ s = .int .i64 i ∧ Hid (tabLe D T m i = true))
     case atStart => exact ⟨hW5, v0, hD, hT6, 0, Nat.zero_le _, rfl, rfl, rfl⟩
     case round =>
      clear hW5 v0 hD hT6
      obtain ⟨hW5, v0, hD, hT6, i, hi, rfl, rfl, Hi⟩ := hrel
      by_cases hlt : i < m
      ·have hlt' : (i : Int) < (m : Int) := by omega
       go_wp2_with fail
       go_loopg [8] m (fun gh s wr2 => Below X w wr2 ∧ wr2.cell? ⟨X, 0, none⟩ = some (.int .i64 (m : Int)) ∧ TabR wr2 w5.heap.size ob rb rc m D ∧ TabR wr2 w5.heap.size ob2 rb5 rc5 m T ∧ ∃ k : Nat, k ≤ m ∧ gh = m - k ∧ s = .int .i64 k ∧ Hid (rowLe D T i k = true))
       case atStart => exact ⟨hW5, v0, hD, hT6, 0, Nat.zero_le _, rfl, rfl, rfl⟩
       case round =>
        clear hW5 v0 hD hT6
        obtain ⟨hW5, v0, hD, hT6, k, hk, rfl, rfl, Hk⟩ := hrel
        by_cases hlk : k < m
        ·have hlk' : (k : Int) < (m : Int) := by omega
         have d0 := hD.top i hlt
         have e0 := hT6.top i hlt
         have d1 := hD.row i k hlt hlk
         have e1 := hT6.row i k hlt hlk
         by_cases hle : D i k ≤ T i k
         ·have Hk2 : Hid (rowLe D T i (k + 1) = true) := by unfold Hid; simp only [rowLe, Hk.out, decide_eq_true hle]; rfl
          generalize D i k = x at d1 hle
          generalize T i k = y at e1 hle
          go_upto_region 13 with fail
          go_region
          go_wp2_with fail
          go_roundg (m - (k + 1))
          case measure => go_light; omega
          case rel => go_light; exact ⟨hW5.drew, v0, hD.below (show Below w5.heap.size wr wr.drew by go_grown), hT6.below (show Below w5.heap.size wr wr.drew by go_grown), k + 1, by omega, rfl, by go_num, Hk2⟩
         ·obtain rfl : r = false := by rw [← Hr2.out]; exact tabLe_no hlt hlk hle
          generalize D i k = x at d1 hle
          generalize T i k = y at e1 hle
          go_upto_region 13 with fail
          go_region
          go_wp2_with fail
          (try rw [Exit.noGoto_ret])
          go_ret
          exact ⟨rfl, hX ▸ hW5.drew⟩
        ·obtain rfl : k = m := by omega
         have Hi2 : Hid (tabLe D T k (i + 1) = true) := by unfold Hid; simp only [tabLe, Hi.out, Hk.out]; rfl
         go_wp2_with fail
         go_roundg (k - (i + 1))
         case measure => go_light; omega
         case rel => go_light; exact ⟨hW5, v0, hD, hT6, i + 1, by omega, rfl, by go_num, Hi2⟩
      ·obtain rfl : i = m := by omega
       obtain rfl : r = true := by rw [← Hr2.out]; exact Hi.out
       go_wp2_with fail
       go_ret
       exact ⟨rfl, hX ▸ hW5⟩
   ·obtain rfl : r = false := by rw [← Hr.out]; unfold implies; rw [decide_eq_false hnn']; simp
    have Hp := hide hp
    have Hq := hide hq
    clear hp hq
    go_wp2_with (first
     | (go_at_call 36; go_fit (sPlanOk_c ⟨n, bs⟩ A b o c _ _ hl6 (Nat.le_refl _) hP.rd); rintro e w2 ⟨rfl, hb2⟩; rw [Hp.out]; have hP2 := hP.below hb2; have hQ2 := hQ.below hb2; have q0 := hQ2.c0; have q1 := hQ2.c1)
     | (go_at_call 36; go_fit (sPlanOk_c ⟨n', bs'⟩ A' b' o' c' _ _ hl6' (Nat.le_refl _) hQ2.rd); rintro e w3 ⟨rfl, hb3⟩; rw [Hq.out]; have hP3 := hP2.below hb3; have hQ3 := hQ2.below hb3; have r0 := hP3.c0; have s0 := hQ3.c0))
    go_ret
    exact ⟨rfl, hX ▸ hQ3.bel⟩

set_option maxHeartbeats 2000000 in
set_option maxRecDepth 100000 in
theorem sAlikeOk_c (p q : Pl) (A A' : Option Addr) (b o c b' o' c' B : Nat) (w : World) (hn : p.bs.length ≤ 100000) (hn' : q.bs.length ≤ 100000) (hB : B ≤ w.heap.size) (hR : BdsR w B b o A p.bs) (hR' : BdsR w B b' o' A' q.bs) :
  Calls Tryz.prog 113 #[.agg #[.int .i64 p.n, .slice A p.bs.length c], .agg #[.int .i64 q.n, .slice A' q.bs.length c']] w fun e w' => e = .returned (.bool (alike p q)) ∧ Below w.heap.size w w' := by
 obtain ⟨n, bs⟩ := p
 obtain ⟨n', bs'⟩ := q
 dsimp only at *
 have ea : alike ⟨n, bs⟩ ⟨n', bs'⟩ = (implies ⟨n, bs⟩ ⟨n', bs'⟩ && implies ⟨n', bs'⟩ ⟨n, bs⟩) := rfl
 rw [ea]
 clear ea
 have hP := (po_new (t := 34) (n := n) (c := c) (Below.refl w.heap.size w) (hR.more hB)).alloc (.cells #[.int .i64 n', .slice A' bs'.length c'] 34)
 have hb0 : Below w.heap.size w (w.alloc (.cells #[.int .i64 n, .slice A bs.length c] 34)) := by go_grown
 have hQ := po_new (t := 34) (n := n') (c := c') hb0 ((hR'.below (hb0.mono hB)).more (Nat.le_trans hB hb0.size))
 simp only [World.size_alloc] at hQ
 cases h1 : implies ⟨n, bs⟩ ⟨n', bs'⟩
 ·have H1 := hide h1
  clear h1
  go_enter Tryz.func113, Tryz.ntmps113
  go_wp2_with (go_at_call 124; go_fit (sImpliesOk_c ⟨n, bs⟩ ⟨n', bs'⟩ A A' b o c b' o' c' _ _ hn hn' (Nat.le_refl _) hP.rd hQ.rd); rintro e w2 ⟨rfl, hb2⟩; rw [H1.out]; have hP2 := hP.below hb2)
  go_ret
  exact ⟨rfl, hP2.bel⟩
 ·have H1 := hide h1
  clear h1
  obtain ⟨r, hr⟩ : ∃ r, implies ⟨n', bs'⟩ ⟨n, bs⟩ = r := ⟨_, rfl⟩
  rw [hr]
  have H2 := hide hr
  clear hr
  go_enter Tryz.func113, Tryz.ntmps113
  go_upto_region 1 with fail
  generalize (w.alloc (.cells #[.int .i64 n, .slice A bs.length c] 34)).alloc (.cells #[.int .i64 n', .slice A' bs'.length c'] 34) = W at hP hQ ⊢
  have p0 := hP.c0
  have p1 := hP.c1
  have q0 := hQ.c0
  have q1 := hQ.c1
  go_wp2_with (first
   | (go_at_call 124; go_fit (sImpliesOk_c ⟨n, bs⟩ ⟨n', bs'⟩ A A' b o c b' o' c' _ _ hn hn' (Nat.le_refl _) hP.rd hQ.rd); rintro e w2 ⟨rfl, hb2⟩; rw [H1.out]; have hP2 := hP.below hb2; have hQ2 := hQ.below hb2; have r0 := hP2.c0; have r1 := hP2.c1; have s0 := hQ2.c0; have s1 := hQ2.c1)
   | (go_at_call 124; go_fit (sImpliesOk_c ⟨n', bs'⟩ ⟨n, bs⟩ A' A b' o' c' b o c _ _ hn' hn (Nat.le_refl _) hQ2.rd hP2.rd); rintro e w3 ⟨rfl, hb3⟩; rw [H2.out]; have hP3 := hP2.below hb3))
  go_ret
  exact ⟨by cases r <;> rfl, hP3.bel⟩
end Go.Proofs.YtmnajkhoacogjaaGreatDoor
