/-
 Arguments of the exact laws opened: a desk, a deed, deeds.
-/
import Derived.Test.YtmnajkhoacogjaaGreatDoorO1
import Derived.Test.YtmnajkhoacogjaaGreatDoorR80
namespace Go.Proofs.YtmnajkhoacogjaaGreatDoor
set_option linter.unusedVariables false
set_option linter.unusedSimpArgs false
open Go.ChangeShapes Go.WideShapes Go.Deep Go.Joins Go.RowKit Pp

instance : Inhabited Pl := ⟨⟨0, []⟩⟩
instance : Inhabited Dd := ⟨⟨0, 0, 0, 0, []⟩⟩
theorem plsR {H : Type} {enc : TypeId × Value → H} {w : World} {fuel : Nat} {cs : List Value} {x : DataW H × List MemPlace}
  (h : DataW.trod enc Tryz.prog w 0 (fun _ => true) true fuel 25 cs = some x) :
  ∃ (A : Option Addr) (b o c : Nat) (ps : List Pl), cs = [.slice A ps.length c] ∧ ps.length ≤ c ∧ c ≤ 9223372036854775807 ∧ PlsR w w.heap.size b o A ps ∧ ∀ p ∈ ps, p.bs.length ≤ 9223372036854775807 := by
 rcases open_slice Tryz.underlying25 h with ⟨h0, _⟩ | ⟨a, len, cap, m, n, D, Q, hcs, hb, hl, hm, hmm, hx, hi⟩
 ·exact ⟨none, 0, 0, 0, [], h0, Nat.le_refl _, by omega, PlsR.nil _ _ _, by simp⟩
 ·obtain rfl : m = cap := by simpa using hmm
  have hm' : m ≤ 9223372036854775807 := hm
  have hI : (Tryz.prog).cellsOf 24 = 2 := by kernel_rfl
  rw [hI] at hi
  have key : ∀ i, i < len → ∃ p : Pl, (∃ (A' : Option Addr) (b' o' c' : Nat), w.cell? (a.add (i * 2)) = some (.int .i64 p.n) ∧ w.cell? (a.add (i * 2 + 1)) = some (.slice A' p.bs.length c') ∧ BdsR w w.heap.size b' o' A' p.bs) ∧ p.bs.length ≤ 9223372036854775807 := by
   intro i hil
   obtain ⟨cs', hc, ht'⟩ := hi i (by omega)
   obtain ⟨_, hcl, hat⟩ := World.cells?_some hc
   match cs', hcl with
   | [u0, u1], _ =>
     obtain ⟨n', A', b', o', c', l, e0, h1, h2, h3, _⟩ := planR ht'
     simp at e0
     obtain ⟨rfl, rfl⟩ := e0
     have k0 := hat 0 (by omega)
     have k1 := hat 1 (by omega)
     rw [Go.Deep.add_add] at k0 k1
     exact ⟨⟨n', l⟩, ⟨A', b', o', c', by simpa using k0, by simpa using k1, h3⟩, by dsimp only; omega⟩
  obtain ⟨ps, hbl, hbs⟩ := list_of key
  subst hbl
  by_cases h0 : 0 < ps.length
  ·obtain ⟨y, hy⟩ : ∃ y, ps[0]? = some y := ⟨ps[0], List.getElem?_eq_getElem h0⟩
   obtain ⟨⟨_, _, _, _, hc0, _⟩, _⟩ := hbs 0 y hy
   have hsp := cell_spot hc0
   obtain ⟨b, o, s⟩ := a
   have ha : (⟨b, o, s⟩ : Addr).add (0 * 2) = ⟨b, o, s⟩ := by simp [Addr.add]
   rw [ha] at hsp
   obtain ⟨hs, hlt⟩ := hsp
   simp only at hs hlt
   subst hs
   refine ⟨some ⟨b, o, none⟩, b, o, m, ps, hcs, hl, hm', ⟨fun _ => rfl, fun _ => hlt, fun j p hj => ?_⟩, fun p hp => ?_⟩
   ·obtain ⟨⟨A', b', o', c', k1, k2, k3⟩, _⟩ := hbs j p hj
    rw [add_zero_off] at k1 k2
    exact ⟨A', b', o', c', k1, by rwa [← Nat.add_assoc] at k2, k3⟩
   ·obtain ⟨j, hj⟩ := List.getElem?_of_mem hp
    exact (hbs j p hj).2
  ·obtain rfl : ps = [] := List.length_eq_zero_iff.1 (by omega)
   exact ⟨some a, 0, 0, m, [], hcs, hl, hm', PlsR.nil _ _ _, by simp⟩
/-- A desk that came in. -/
theorem deskR {H : Type} {enc : TypeId × Value → H} {w : World} {fuel : Nat} {cs : List Value} {x : DataW H × List MemPlace}
  (h : DataW.trod enc Tryz.prog w 0 (fun _ => true) true fuel 27 cs = some x) :
  ∃ (n : Int) (A : Option Addr) (b o c : Nat) (bs : List Bd) (A2 : Option Addr) (b2 o2 c2 : Nat) (ps : List Pl), cs = [.int .i64 n, .slice A bs.length c, .slice A2 ps.length c2] ∧ bs.length ≤ c ∧ c ≤ 9223372036854775807 ∧ BdsR w w.heap.size b o A bs ∧ ps.length ≤ c2 ∧ c2 ≤ 9223372036854775807 ∧ PlsR w w.heap.size b2 o2 A2 ps ∧ (∀ p ∈ ps, p.bs.length ≤ 9223372036854775807) ∧ -9223372036854775808 ≤ n ∧ n ≤ 9223372036854775807 := by
 have hl := structLen Tryz.underlying27 h 3 (by kernel_rfl)
 obtain ⟨_, _, g0⟩ := fieldR Tryz.underlying27 h 0 _ 2 rfl (by kernel_rfl)
 obtain ⟨_, _, g1⟩ := fieldR Tryz.underlying27 h 1 _ 1 rfl (by kernel_rfl)
 match cs, hl with
 | [u0, u1, u2], _ =>
   obtain ⟨n, A, b, o, c, bs, e0, h1, h2, h3, hn⟩ := planR g0
   obtain ⟨A2, b2, o2, c2, ps, e1, k1, k2, k3, k4⟩ := plsR g1
   simp at e0 e1
   obtain ⟨rfl, rfl⟩ := e0
   subst e1
   exact ⟨n, A, b, o, c, bs, A2, b2, o2, c2, ps, rfl, h1, h2, h3, k1, k2, k3, k4, hn⟩
/-- A deed that came in. -/
theorem deedR {H : Type} {enc : TypeId × Value → H} {w : World} {fuel : Nat} {cs : List Value} {x : DataW H × List MemPlace}
  (h : DataW.trod enc Tryz.prog w 0 (fun _ => true) true fuel 29 cs = some x) :
  ∃ (k a1 a2 a3 : Int) (L : List UInt8), cs = [.int .i64 k, .int .i64 a1, .int .i64 a2, .int .i64 a3, .string (byts L)] ∧ L.length ≤ 9223372036854775807 := by
 have hl := structLen Tryz.underlying29 h 5 (by kernel_rfl)
 obtain ⟨_, _, g0⟩ := fieldR Tryz.underlying29 h 0 _ 1 rfl (by kernel_rfl)
 obtain ⟨_, _, g1⟩ := fieldR Tryz.underlying29 h 1 _ 1 rfl (by kernel_rfl)
 obtain ⟨_, _, g2⟩ := fieldR Tryz.underlying29 h 2 _ 1 rfl (by kernel_rfl)
 obtain ⟨_, _, g3⟩ := fieldR Tryz.underlying29 h 3 _ 1 rfl (by kernel_rfl)
 obtain ⟨_, _, g4⟩ := fieldR Tryz.underlying29 h 4 _ 1 rfl (by kernel_rfl)
 match cs, hl with
 | [u0, u1, u2, u3, u4], _ =>
   obtain ⟨z0, e0, _⟩ := intR g0
   obtain ⟨z1, e1, _⟩ := intR g1
   obtain ⟨z2, e2, _⟩ := intR g2
   obtain ⟨z3, e3, _⟩ := intR g3
   obtain ⟨s, e4, _, hs⟩ := DataW.trod_string Tryz.underlying9 g4
   simp at e0 e1 e2 e3 e4
   subst e0 e1 e2 e3 e4
   have hl : s.size ≤ 9223372036854775807 := hs
   exact ⟨z0, z1, z2, z3, s.data.toList, by rw [← byts_of rfl], hl⟩
theorem ddsR {H : Type} {enc : TypeId × Value → H} {w : World} {fuel : Nat} {cs : List Value} {x : DataW H × List MemPlace}
  (h : DataW.trod enc Tryz.prog w 0 (fun _ => true) true fuel 55 cs = some x) :
  ∃ (A : Option Addr) (b o c : Nat) (ds : List Dd), cs = [.slice A ds.length c] ∧ ds.length ≤ c ∧ c ≤ 9223372036854775807 ∧ DdR w w.heap.size b o A ds ∧ ∀ d ∈ ds, d.ws.length ≤ 9223372036854775807 := by
 rcases open_slice Tryz.underlying55 h with ⟨h0, _⟩ | ⟨a, len, cap, m, n, D, Q, hcs, hb, hl, hm, hmm, hx, hi⟩
 ·exact ⟨none, 0, 0, 0, [], h0, Nat.le_refl _, by omega, CsR.nil _ _ _, by simp⟩
 ·obtain rfl : m = cap := by simpa using hmm
  have hm' : m ≤ 9223372036854775807 := hm
  have hI : (Tryz.prog).cellsOf 29 = 5 := by kernel_rfl
  rw [hI] at hi
  have key : ∀ i, i < len → ∃ d : Dd, (∀ j u, (ddCs [d])[j]? = some u → w.cell? (a.add (i * 5 + j)) = some u) ∧ d.ws.length ≤ 9223372036854775807 := by
   intro i hil
   obtain ⟨cs', hc, ht'⟩ := hi i (by omega)
   obtain ⟨_, hcl, hat⟩ := World.cells?_some hc
   obtain ⟨k, a1, a2, a3, L, rfl, hL⟩ := deedR ht'
   refine ⟨⟨k, a1, a2, a3, L⟩, fun j u hu => ?_, hL⟩
   have hj := (List.getElem?_eq_some_iff.1 hu).1
   have k0 := hat j hj
   rw [Go.Deep.add_add] at k0
   exact k0.trans (by rw [← hu]; rfl)
  obtain ⟨ds, hbl, hbs⟩ := list_of key
  subst hbl
  by_cases h0 : 0 < ds.length
  ·obtain ⟨y, hy⟩ : ∃ y, ds[0]? = some y := ⟨ds[0], List.getElem?_eq_getElem h0⟩
   have hc0 := (hbs 0 y hy).1 0 _ rfl
   have hsp := cell_spot hc0
   obtain ⟨b, o, s⟩ := a
   have ha : (⟨b, o, s⟩ : Addr).add (0 * 5 + 0) = ⟨b, o, s⟩ := by simp [Addr.add]
   rw [ha] at hsp
   obtain ⟨hs, hlt⟩ := hsp
   simp only at hs hlt
   subst hs
   refine ⟨some ⟨b, o, none⟩, b, o, m, ds, hcs, hl, hm', ⟨fun _ => rfl, fun _ => hlt, fun j u hu => ?_, fun h => absurd h (by omega)⟩, fun d hd => ?_⟩
   ·have hj := (List.getElem?_eq_some_iff.1 hu).1
    rw [ddCs_length] at hj
    have hx := List.getElem?_eq_getElem (show j / 5 < ds.length by omega)
    have h5 := ddCs_get ds _ _ hx
    obtain ⟨h1, -⟩ := hbs _ _ hx
    generalize ds[j / 5] = d at h5 h1
    obtain ⟨g0, g1, g2, g3, g4⟩ := h5
    have hjj : j = j / 5 * 5 + j % 5 := by omega
    have hr : j % 5 = 0 ∨ j % 5 = 1 ∨ j % 5 = 2 ∨ j % 5 = 3 ∨ j % 5 = 4 := by omega
    have h2 := h1 (j % 5)
    rw [← hjj, add_zero_off] at h2
    refine h2 u ?_
    rw [← hu]
    rcases hr with e | e | e | e | e <;> rw [e] at hjj ⊢ <;> rw [hjj]
    ·rw [Nat.add_zero, g0]; rfl
    ·rw [g1]; rfl
    ·rw [g2]; rfl
    ·rw [g3]; rfl
    ·rw [g4]; rfl
   ·obtain ⟨j, hj⟩ := List.getElem?_of_mem hd
    exact (hbs j d hj).2
  ·obtain rfl : ds = [] := List.length_eq_zero_iff.1 (by omega)
   exact ⟨some a, 0, 0, m, [], hcs, hl, hm', by
    have := CsR.nil w w.heap.size (some a)
    exact this, by simp⟩
end Go.Proofs.YtmnajkhoacogjaaGreatDoor
