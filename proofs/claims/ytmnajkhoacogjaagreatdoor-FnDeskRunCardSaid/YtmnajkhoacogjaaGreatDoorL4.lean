/-
 impl.TurnedPlan.
-/
import Derived.Test.YtmnajkhoacogjaaGreatDoorS3
import Derived.Test.YtmnajkhoacogjaaGreatDoorI1
import Derived.Test.YtmnajkhoacogjaaGreatDoorP2
namespace Go.Proofs.YtmnajkhoacogjaaGreatDoor
set_option linter.unusedVariables false
set_option linter.unusedSimpArgs false
open Go.RowKit Pp

theorem cell_lt' {w : World} {b o : Nat} {v : Value} (h : w.cell? ⟨b, o, none⟩ = some v) : b < w.heap.size := by
 apply Classical.byContradiction
 intro hn
 rw [World.cell?, Array.getElem?_eq_none (by show w.heap.size ≤ b; omega)] at h
 simp at h
theorem BdsR.setO {w : World} {B b o : Nat} {A : Option Addr} {bs : List Bd} (h : BdsR w B b o A bs) (p : Addr) (hne : 0 < bs.length → b ≠ p.block) (v : Value) : BdsR (w.setCell p v) B b o A bs := by
 have hl : ∀ j (x : Bd), bs[j]? = some x → b ≠ p.block := fun j x hx => hne (by have := (List.getElem?_eq_some_iff.1 hx).1; omega)
 exact ⟨h.addr, h.lt, fun j x hx => (set_other (fun e => hl j x hx e.symm)).trans (h.c0 j x hx), fun j x hx => (set_other (fun e => hl j x hx e.symm)).trans (h.c1 j x hx), fun j x hx => (set_other (fun e => hl j x hx e.symm)).trans (h.c2 j x hx)⟩
def swapB (b : Bd) : Bd := ⟨b.t, b.f, b.m⟩
def mixB (bs : List Bd) (k : Nat) : List Bd := (bs.take k).map swapB ++ bs.drop k
theorem mixB_len (bs : List Bd) (k : Nat) (hk : k ≤ bs.length) : (mixB bs k).length = bs.length := by simp [mixB]; omega
theorem mixB_get (bs : List Bd) (k : Nat) (hk : k < bs.length) : (mixB bs k)[k]? = some bs[k] := by
 unfold mixB
 rw [List.getElem?_append_right (by simp; omega)]
 simp [List.length_take, Nat.min_eq_left (Nat.le_of_lt hk)]
theorem mixB_set (bs : List Bd) (k : Nat) (hk : k < bs.length) : (mixB bs k).set k (swapB bs[k]) = mixB bs (k + 1) := by
 have e1 : mixB bs k = (bs.take k).map swapB ++ (bs[k] :: bs.drop (k + 1)) := by unfold mixB; rw [List.drop_eq_getElem_cons hk]
 have e2 : mixB bs (k + 1) = (bs.take k).map swapB ++ (swapB bs[k] :: bs.drop (k + 1)) := by
  unfold mixB
  rw [List.take_succ_eq_append_getElem hk, List.map_append, List.append_assoc]
  rfl
 have hl : ((bs.take k).map swapB).length = k := by rw [List.length_map, List.length_take]; omega
 rw [e1, e2, List.set_append_right _ _ (by omega), hl, Nat.sub_self]
 rfl
theorem set_ne' {w : World} {a b : Addr} {v : Value} (h : a ≠ b) : (w.setCell a v).cell? b = w.cell? b := World.cell?_setCell_other (h := h) ..
theorem mixB_end (bs : List Bd) : mixB bs bs.length = bs.map swapB := by simp [mixB]
theorem turn_bs {n : Int} {bs : List Bd} (h : planOk ⟨n, bs⟩ = true) : (turn ⟨n, bs⟩).bs = bs.map swapB := (turn_ok h).2.2.2

theorem BdsR.set3 {w : World} {B g : Nat} {A : Option Addr} {l : List Bd} (h : BdsR w B g 0 A l) {k : Nat} (hk : k < l.length) (x : Bd) :
  BdsR (((w.setCell ⟨g, k * 3, none⟩ (.int .i64 x.f)).setCell ⟨g, k * 3 + 1, none⟩ (.int .i64 x.t)).setCell ⟨g, k * 3 + 2, none⟩ (.int .i64 x.m)) B g 0 A (l.set k x) := by
 have hx := List.getElem?_eq_getElem hk
 have d0 := h.c0 k _ hx
 have d1 := h.c1 k _ hx
 have d2 := h.c2 k _ hx
 simp only [Nat.zero_add] at d0 d1 d2
 have go : ∀ (o : Nat) (v : Value), o ≠ k * 3 → o ≠ k * 3 + 1 → o ≠ k * 3 + 2 → w.cell? ⟨g, o, none⟩ = some v → (((w.setCell ⟨g, k * 3, none⟩ (.int .i64 x.f)).setCell ⟨g, k * 3 + 1, none⟩ (.int .i64 x.t)).setCell ⟨g, k * 3 + 2, none⟩ (.int .i64 x.m)).cell? ⟨g, o, none⟩ = some v := by
  intro o v h0 h1 h2 hv
  rw [set_ne' (fun e => by injection e with _ e; omega), set_ne' (fun e => by injection e with _ e; omega), set_ne' (fun e => by injection e with _ e; omega)]; exact hv
 have e0 : (((w.setCell ⟨g, k * 3, none⟩ (.int .i64 x.f)).setCell ⟨g, k * 3 + 1, none⟩ (.int .i64 x.t)).setCell ⟨g, k * 3 + 2, none⟩ (.int .i64 x.m)).cell? ⟨g, k * 3, none⟩ = some (.int .i64 x.f) := by
  rw [set_ne' (by simp), set_ne' (by simp)]; exact World.cell?_setCell_same _ _ _ d0
 have e1 : (((w.setCell ⟨g, k * 3, none⟩ (.int .i64 x.f)).setCell ⟨g, k * 3 + 1, none⟩ (.int .i64 x.t)).setCell ⟨g, k * 3 + 2, none⟩ (.int .i64 x.m)).cell? ⟨g, k * 3 + 1, none⟩ = some (.int .i64 x.t) := by
  rw [set_ne' (by simp)]; exact World.cell?_setCell_same _ _ _ ((set_ne' (by simp)).trans d1)
 have e2 : (((w.setCell ⟨g, k * 3, none⟩ (.int .i64 x.f)).setCell ⟨g, k * 3 + 1, none⟩ (.int .i64 x.t)).setCell ⟨g, k * 3 + 2, none⟩ (.int .i64 x.m)).cell? ⟨g, k * 3 + 2, none⟩ = some (.int .i64 x.m) :=
  World.cell?_setCell_same _ _ _ ((set_ne' (by simp)).trans ((set_ne' (by simp)).trans d2))
 have part : ∀ j (y : Bd), (l.set k x)[j]? = some y → (j = k ∧ y = x) ∨ (j ≠ k ∧ l[j]? = some y) := by
  intro j y hy
  by_cases e : j = k
  ·subst e
   rw [List.getElem?_set_self hk] at hy
   exact .inl ⟨rfl, by injection hy with hy; exact hy.symm⟩
  ·rw [List.getElem?_set_ne (fun h => e h.symm)] at hy
   exact .inr ⟨e, hy⟩
 refine ⟨fun hl => h.addr (by simpa using hl), fun hl => h.lt (by simpa using hl), fun j y hy => ?_, fun j y hy => ?_, fun j y hy => ?_⟩ <;> rw [Nat.zero_add] <;> rcases part j y hy with ⟨rfl, rfl⟩ | ⟨hne, hy'⟩
 ·exact e0
 ·exact go _ _ (by omega) (by omega) (by omega) (by have := h.c0 j y hy'; rwa [Nat.zero_add] at this)
 ·exact e1
 ·exact go _ _ (by omega) (by omega) (by omega) (by have := h.c1 j y hy'; rwa [Nat.zero_add] at this)
 ·exact e2
 ·exact go _ _ (by omega) (by omega) (by omega) (by have := h.c2 j y hy'; rwa [Nat.zero_add] at this)

theorem own_thaw {w : World} {base : Nat} {e : TypeId} {size : Nat} {v : Value} {n : Nat} {xs : List Value} (h : w.ownsRow base e size v n xs) {g : Nat} (hg : v.ownBlock = some g) (i : Nat) : w.frozen? ⟨g, i, none⟩ = false := by
 rcases h.2 with ⟨rfl, _⟩ | ⟨g', cap, cur, rfl, _, hh, _⟩
 ·cases hg
 ·simp [Value.ownBlock] at hg
  subst hg
  simp [World.frozen?, hh]

set_option maxHeartbeats 4000000 in
set_option maxRecDepth 100000 in
theorem turnedPlan_q (n : Int) (bs : List Bd) (hp : planOk ⟨n, bs⟩ = true) (A : Option Addr) (b o c B : Nat) (w : World) (hn : bs.length ≤ 2000000) (hB : B ≤ w.heap.size) (hR : BdsR w B b o A bs) :
  Calls Tryz.prog 79 #[.agg #[.int .i64 n, .slice A bs.length c]] w fun e w' => ∃ A1 c1 g1, e = .returned (.agg #[.int .i64 n, .slice A1 bs.length c1]) ∧ BdsR w' w'.heap.size g1 0 A1 (bs.map swapB) ∧ (0 < bs.length → w.heap.size ≤ g1) ∧ Below w.heap.size w w' := by
 have Hp := hide hp
 clear hp
 have hP := (po_new (t := 34) (n := n) (c := c) (Below.refl w.heap.size w) (hR.more hB)).alloc (.cells #[.int .i64 0, .slice none 0 0] 34)
 go_enter Tryz.func79, Tryz.ntmps79
 go_upto_region 1 with fail
 have z0 : ((w.alloc (.cells #[.int .i64 n, .slice A bs.length c] 34)).alloc (.cells #[.int .i64 0, .slice none 0 0] 34)).cell? ⟨w.heap.size + 1, 0, none⟩ = some (.int .i64 0) := by simp [go_sem]
 have z1 : ((w.alloc (.cells #[.int .i64 n, .slice A bs.length c] 34)).alloc (.cells #[.int .i64 0, .slice none 0 0] 34)).cell? ⟨w.heap.size + 1, 1, none⟩ = some (.slice none 0 0) := by simp [go_sem]
 have zf : ∀ i, ((w.alloc (.cells #[.int .i64 n, .slice A bs.length c] 34)).alloc (.cells #[.int .i64 0, .slice none 0 0] 34)).frozen? ⟨w.heap.size + 1, i, none⟩ = false := fun i => by simp [go_sem]
 have hZ : w.heap.size + 1 < ((w.alloc (.cells #[.int .i64 n, .slice A bs.length c] 34)).alloc (.cells #[.int .i64 0, .slice none 0 0] 34)).heap.size := by simp
 generalize (w.alloc (.cells #[.int .i64 n, .slice A bs.length c] 34)).alloc (.cells #[.int .i64 0, .slice none 0 0] 34) = W at hP z0 z1 zf hZ ⊢
 have p0 := hP.c0
 have p1 := hP.c1
 go_wp2_with (first
  | (go_at_call 58; go_fit (planOk_c ⟨n, bs⟩ A b o c _ _ hn (Nat.le_refl _) hP.rd); rintro e w2 ⟨rfl, hb2⟩; rw [Hp.out]; have hP2 := hP.below hb2; have q0 := hP2.c0; have q1 := hP2.c1)
  | (go_at_call 74; go_fit (clone_q ⟨n, bs⟩ A b o c _ _ hn (Nat.le_refl _) hP2.rd); rintro e w3 ⟨A1, c1, g1, rfl, hx1, hown1, hb3⟩; have hP3 := hP2.below hb3))
 have hl3 := fun q hq => hown1.lt q hq
 have z0' := ((bcell (bthen hb2 hb3)).1 _ 0 hZ).trans z0
 have z1' := ((bcell (bthen hb2 hb3)).1 _ 1 hZ).trans z1
 have zf' : ∀ i, w3.frozen? ⟨w.heap.size + 1, i, none⟩ = false := fun i => ((bcell (bthen hb2 hb3)).2 _ i hZ).trans (zf i)
 have hs2 := hb2.size
 have hs3 := hb3.size
 have hfz : ∀ q, (Value.slice A1 bs.length c1).ownBlock = some q → ∀ i, w3.frozen? ⟨q, i, none⟩ = false := fun q hq i => own_thaw hown1 hq i
 obtain ⟨wa, hwa⟩ : ∃ wa, w3.alloc (.cells #[.int .i64 n, .slice A1 bs.length c1] 34) = wa := ⟨_, rfl⟩
 have hWa : Below w.heap.size w wa := by rw [← hwa]; exact (hP3.alloc _).bel
 have a0 : wa.cell? ⟨w3.heap.size, 0, none⟩ = some (.int .i64 n) := by rw [← hwa]; simp [go_sem]
 have a1 : wa.cell? ⟨w3.heap.size, 1, none⟩ = some (.slice A1 bs.length c1) := by rw [← hwa]; simp [go_sem]
 have u0 : wa.cell? ⟨w.heap.size + 1, 0, none⟩ = some (.int .i64 0) := by rw [← hwa, World.cell?_alloc_past _ _ _ (by omega)]; exact z0'
 have u1 : wa.cell? ⟨w.heap.size + 1, 1, none⟩ = some (.slice none 0 0) := by rw [← hwa, World.cell?_alloc_past _ _ _ (by omega)]; exact z1'
 have uf : ∀ i, wa.frozen? ⟨w.heap.size + 1, i, none⟩ = false := fun i => by rw [← hwa, World.frozen?_alloc_past _ _ _ (by omega)]; exact zf' i
 have hsa : wa.heap.size = w3.heap.size + 1 := by rw [← hwa]; simp
 have hxa : BdsR wa w3.heap.size g1 0 A1 (mixB bs 0) := by
  have : mixB bs 0 = bs := by simp [mixB]
  rw [this, ← hwa]
  exact hx1.below (by go_grown)
 have hfa : ∀ q, (Value.slice A1 bs.length c1).ownBlock = some q → ∀ i, wa.frozen? ⟨q, i, none⟩ = false := fun q hq i => by
  have := (hl3 q hq).2
  rw [← hwa, World.frozen?_alloc_past _ _ _ this]; exact hfz q hq i
 rw [hwa]
 clear hwa z0 z1 zf z0' z1' zf' hfz hP hP2 p0 p1 q0 q1 hx1 hown1 hb2 hb3
 go_loopg [15] bs.length (fun gh s wr => ∃ k : Nat, k ≤ bs.length ∧ gh = bs.length - k ∧ s = .int .i64 k ∧ Below w.heap.size w wr ∧ wr.cell? ⟨w3.heap.size, 0, none⟩ = some (.int .i64 n) ∧ wr.cell? ⟨w3.heap.size, 1, none⟩ = some (.slice A1 bs.length c1) ∧ wr.cell? ⟨w.heap.size + 1, 0, none⟩ = some (.int .i64 0) ∧ wr.cell? ⟨w.heap.size + 1, 1, none⟩ = some (.slice none 0 0) ∧ (∀ i, wr.frozen? ⟨w.heap.size + 1, i, none⟩ = false) ∧ w3.heap.size + 1 ≤ wr.heap.size ∧ BdsR wr w3.heap.size g1 0 A1 (mixB bs k) ∧ ∀ q, (Value.slice A1 bs.length c1).ownBlock = some q → ∀ i, wr.frozen? ⟨q, i, none⟩ = false)
 case atStart => exact ⟨0, Nat.zero_le _, rfl, rfl, hWa, a0, a1, u0, u1, uf, by omega, hxa, hfa⟩
 case round =>
  clear hWa a0 a1 u0 u1 uf hsa hxa hfa
  obtain ⟨k, hk, rfl, rfl, hWr, a0, a1, u0, u1, uf, hsr, hxr, hfr⟩ := hrel
  by_cases hlt : k < bs.length
  ·have hz : (k : Int) < (bs.length : Int) := by omega
   have hml := mixB_len bs k hk
   obtain rfl := hxr.addr (by omega)
   have hgl := hl3 g1 rfl
   have hx := mixB_get bs k hlt
   have d0 := hxr.c0 k _ hx
   have d1 := hxr.c1 k _ hx
   have d2 := hxr.c2 k _ hx
   have hset := hxr.set3 (k := k) (by omega) (swapB bs[k])
   rw [mixB_set bs k hlt] at hset
   have f0 := hfr g1 rfl (k * 3)
   have f1 := hfr g1 rfl (k * 3 + 1)
   have f2 := hfr g1 rfl (k * 3 + 2)
   simp only [Nat.zero_add] at d0 d1 d2
   unfold swapB at hset
   dsimp only at hset
   generalize bs[k] = x at d0 d1 d2 hset
   clear hx
   have hg2 : g1 < wr.heap.size := by omega
   have hq3 : w3.heap.size < wr.heap.size := by omega
   go_wp2_with fail
   have hWs : Below w.heap.size w (((wr.setCell ⟨g1, k * 3, none⟩ (.int .i64 x.t)).setCell ⟨g1, k * 3 + 1, none⟩ (.int .i64 x.f)).setCell ⟨g1, k * 3 + 2, none⟩ (.int .i64 x.m)) := ((hWr.setCell (by dsimp only; omega) _).setCell (by dsimp only; omega) _).setCell (by dsimp only; omega) _
   have oth : ∀ b' o' (v : Value), b' ≠ g1 → wr.cell? ⟨b', o', none⟩ = some v → ((((wr.setCell ⟨g1, k * 3, none⟩ (.int .i64 x.t)).setCell ⟨g1, k * 3 + 1, none⟩ (.int .i64 x.f)).setCell ⟨g1, k * 3 + 2, none⟩ (.int .i64 x.m)).alloc (.cells #[.int .i64 x.f, .int .i64 x.t, .int .i64 x.m] 97)).cell? ⟨b', o', none⟩ = some v := fun b' o' v hne hv => by
    have hb' := cell_lt' hv
    rw [World.cell?_alloc_past _ _ _ (by simpa using hb'), set_other (by dsimp only; omega), set_other (by dsimp only; omega), set_other (by dsimp only; omega)]; exact hv
   have thf : ∀ b' i, b' < wr.heap.size → wr.frozen? ⟨b', i, none⟩ = false → ((((wr.setCell ⟨g1, k * 3, none⟩ (.int .i64 x.t)).setCell ⟨g1, k * 3 + 1, none⟩ (.int .i64 x.f)).setCell ⟨g1, k * 3 + 2, none⟩ (.int .i64 x.m)).alloc (.cells #[.int .i64 x.f, .int .i64 x.t, .int .i64 x.m] 97)).frozen? ⟨b', i, none⟩ = false := fun b' i hb' hv => by
    rw [World.frozen?_alloc_past _ _ _ (by simpa using hb')]; simpa using hv
   go_roundg (bs.length - (k + 1))
   case measure => go_light; omega
   case rel =>
    go_light
    exact ⟨k + 1, by omega, rfl, by go_num, hWs.alloc hWs.size _, oth _ _ _ (by omega) a0, oth _ _ _ (by omega) a1, oth _ _ _ (by omega) u0, oth _ _ _ (by omega) u1, fun i => thf _ i (by omega) (uf i), by simp only [World.size_alloc, World.size_setCell]; omega, hset.below (by go_grown), fun q hq i => thf _ i (by have := (hl3 q hq).2; omega) (hfr q hq i)⟩
  ·obtain rfl : k = bs.length := by omega
   rw [mixB_end] at hxr
   have uf0 := uf 0
   have uf1 := uf 1
   go_wp2_with fail
   obtain ⟨r0, r1⟩ := two_cells (a := .int .i64 n) (b := .slice A1 bs.length c1) u0 u1
   refine bodyPost_ret (v := .agg #[.int .i64 n, .slice A1 bs.length c1]) (by simp [results, Tryz.results79, go_sem, r0, r1]) rfl ?_
   refine ⟨A1, c1, g1, rfl, ?_, fun hl => ?_, (hWr.setCell (by dsimp only; omega) _).setCell (by dsimp only; omega) _⟩
   rotate_left
   ·have h1 := hxr.addr (by rw [List.length_map]; exact hl)
    have := (hl3 g1 (by rw [h1]; rfl)).1
    omega
   have hne : ∀ o', 0 < (bs.map swapB).length → g1 ≠ (⟨w.heap.size + 1, o', none⟩ : Addr).block := fun o' hl e => by
    have h1 := hxr.addr hl
    have := (hl3 g1 (by rw [h1]; rfl)).1
    dsimp only at e; omega
   exact ((hxr.setO _ (hne 0) _).setO _ (hne 1) _).more (by simp only [World.size_setCell]; omega)
theorem turnedPlan_c (n : Int) (bs : List Bd) (hp : planOk ⟨n, bs⟩ = true) (A : Option Addr) (b o c B : Nat) (w : World) (hn : bs.length ≤ 2000000) (hB : B ≤ w.heap.size) (hR : BdsR w B b o A bs) :
  Calls Tryz.prog 79 #[.agg #[.int .i64 n, .slice A bs.length c]] w fun e w' => ∃ A1 c1 g1, e = .returned (.agg #[.int .i64 n, .slice A1 bs.length c1]) ∧ BdsR w' w'.heap.size g1 0 A1 (bs.map swapB) ∧ Below w.heap.size w w' :=
 (turnedPlan_q n bs hp A b o c B w hn hB hR).mono fun _ _ ⟨A1, c1, g1, h1, h2, _, h4⟩ => ⟨A1, c1, g1, h1, h2, h4⟩
end Go.Proofs.YtmnajkhoacogjaaGreatDoor
