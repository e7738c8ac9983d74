/-
  If the corners fit, all ways fit: both sides of WeakOk. No program.
-/
import Derived.Test.YtdijfkpccbkdfaaL31
import Derived.Test.YtdijfkpccbkdfaaL32
import Derived.Test.YtdijfkpccbkdfaaS30
import Derived.Test.YtdijfkpccbkdfaaP3
namespace Go.Proofs.Ytdijfkpccbkdfaa
set_option linter.unusedVariables false
set_option linter.unusedSimpArgs false
open Go Pp

theorem come_lasts {ps : List Pr} (hok : ∀ (i : Nat) (x : Pr), ps[i]? = some x → 0 ≤ x.l ∧ x.l ≤ x.h ∧ x.h ≤ 12) : ∀ (m : Nat) (ls q : List Int), ls.length + m = ps.length → LastsTo ps ls ls.length → q ∈ comeF ps m ls → q.length = ps.length ∧ LastsTo ps q q.length := by
  intro m
  induction m with
  | zero => intro ls q hm hl hq; simp only [comeF, List.mem_singleton] at hq; subst hq; exact ⟨by omega, hl⟩
  | succ m ih =>
    intro ls q hm hl hq
    have hx := List.getElem?_eq_getElem (show ls.length < ps.length by omega)
    obtain ⟨h1, h2, h3⟩ := hok _ _ hx
    generalize ps[ls.length]'(by omega) = x at hx h1 h2 h3
    rw [comeF, hx] at hq
    obtain ⟨i, hi, hq⟩ := List.mem_flatMap.1 hq
    have hi2 := List.mem_range.1 hi
    exact ih _ q (by simp; omega) (lastsTo_app hx (inB_of (by omega) (by omega)) hl) hq
theorem come_mem {ps : List Pr} : ∀ (m : Nat) (ls q : List Int), ls.length + m = ps.length → q.length = ps.length → ls <+: q → LastsTo ps q q.length → q ∈ comeF ps m ls := by
  intro m
  induction m with
  | zero =>
    intro ls q hm hq hp hl
    rw [hp.eq_of_length (by omega)]
    simp [comeF]
  | succ m ih =>
    intro ls q hm hq hp hl
    have hlt : ls.length < ps.length := by omega
    have hx := List.getElem?_eq_getElem hlt
    generalize ps[ls.length] = x at hx
    obtain ⟨t, rfl⟩ := hp
    cases t with
    | nil => simp at hq; omega
    | cons v t =>
      have hv : (ls ++ v :: t)[ls.length]? = some v := by simp
      have hin := inB_iff.1 (hl ls.length x v (by simp) hx hv)
      rw [comeF, hx]
      refine List.mem_flatMap.2 ⟨(v - x.l).toNat, List.mem_range.2 (by omega), ?_⟩
      have e : x.l + ((v - x.l).toNat : Int) = v := by omega
      rw [e]
      exact ih _ _ (by simp; omega) hq ⟨t, by simp⟩ hl
theorem endsOf_get {set : Nat} {ps : List Pr} : ∀ (k i : Nat) (l : Int) (x : Pr), k ≤ ps.length → ps[i]? = some x → (endsOf set ps k)[i]? = some l → l = x.l ∨ l = x.h := by
  intro k
  induction k with
  | zero => intro i l x _ _ h; simp [endsOf] at h
  | succ k ih =>
    intro i l x hk hx h
    have hxk := List.getElem?_eq_getElem (show k < ps.length by omega)
    rw [endsOf_succ set ps k _ hxk, List.getElem?_append] at h
    have hlen := endsOf_len set ps k (by omega)
    split at h
    · exact ih i l x (by omega) hx h
    · have hik : i = k := by
        cases e : i - (endsOf set ps k).length with
        | zero => omega
        | succ j => rw [e] at h; simp at h
      subst hik
      rw [hxk] at hx
      cases hx
      rw [hlen, Nat.sub_self] at h
      simp only [List.getElem?_cons_zero, Option.some.injEq] at h
      subst h
      unfold endAt
      split
      · exact .inr rfl
      · exact .inl rfl
theorem ends_lasts {set : Nat} {ps : List Pr} (hok : ∀ (i : Nat) (x : Pr), ps[i]? = some x → 0 ≤ x.l ∧ x.l ≤ x.h ∧ x.h ≤ 12) : LastsTo ps (endsOf set ps ps.length) (endsOf set ps ps.length).length := by
  intro i x l hi hx hl
  obtain ⟨h1, h2, h3⟩ := hok _ _ hx
  rcases endsOf_get _ i l x (Nat.le_refl _) hx hl with rfl | rfl
  · exact inB_of (Int.le_refl _) h2
  · exact inB_of h2 (Int.le_refl _)

/-! ### between the corners -/
theorem planOk_more {n : Int} {bs ex : List Bd} (h : planOk ⟨n, bs⟩ = true) (hl : bs.length + ex.length ≤ 16) (he : ∀ b ∈ ex, bdOk n b = true) : planOk ⟨n, bs ++ ex⟩ = true := by
  have h0 := planOk_iff.1 h
  refine planOk_iff.2 ⟨h0.1, by simpa using hl, fun b hb => ?_⟩
  rcases List.mem_append.1 hb with h1 | h1
  · exact h0.2.2 b h1
  · exact he b h1
theorem pair_ok {n : Int} {x : Pr} {l : Int} (hx : PrOk n x) (hl : 0 ≤ l ∧ l ≤ 12) : ∀ b ∈ pairOf x l, bdOk n b = true := by
  intro b hb
  obtain ⟨h1, h2, _⟩ := hx
  simp only [pairOf, List.mem_cons, List.not_mem_nil, or_false] at hb
  rcases hb with rfl | rfl
  · exact bdOk_iff.2 ⟨h1, h2, by dsimp only; omega⟩
  · exact bdOk_iff.2 ⟨h2, h1, by dsimp only; omega⟩
theorem pair_sol {C : List Bd} {x : Pr} {l : Int} (y : Nat → Int) : Sol (C ++ pairOf x l) y ↔ Sol C y ∧ y x.t.toNat - y x.f.toNat = l := set_sol y
theorem mid {n : Int} {C : List Bd} {x : Pr} {a b v : Int} (hok : planOk ⟨n, C⟩ = true) (hx : PrOk n x) (h0 : ∃ y, Sol (C ++ pairOf x a) y) (h1 : ∃ y, Sol (C ++ pairOf x b) y) (ha : a ≤ v) (hb : v ≤ b) : ∃ y, Sol (C ++ pairOf x v) y := by
  obtain ⟨y0, h0⟩ := h0
  obtain ⟨y1, h1⟩ := h1
  obtain ⟨s0, e0⟩ := (pair_sol y0).1 h0
  obtain ⟨s1, e1⟩ := (pair_sol y1).1 h1
  have F := fit_of ((fits_iff hok).2 ⟨y0, s0⟩)
  obtain ⟨⟨f1, f2⟩, ⟨t1, t2⟩, hne, _⟩ := hx
  have hi : x.f.toNat < nn ⟨n, C⟩ := by simp only [nn]; omega
  have hj : x.t.toNat < nn ⟨n, C⟩ := by simp only [nn]; omega
  obtain ⟨y, hy, he⟩ := F.between hi hj v (fun e => absurd e (by omega)) (fun hf => by have := F.le hi hj s1 hf; omega) (fun hf => by have := F.le hj hi s0 hf; omega)
  exact ⟨y, (pair_sol y).2 ⟨hy, he⟩⟩
theorem swap_sol {C D E : List Bd} (y : Nat → Int) : Sol ((C ++ D) ++ E) y ↔ Sol ((C ++ E) ++ D) y := by
  rw [sol_append, sol_append, sol_append, sol_append]
  exact ⟨fun ⟨⟨a, b⟩, c⟩ => ⟨⟨a, c⟩, b⟩, fun ⟨⟨a, b⟩, c⟩ => ⟨⟨a, c⟩, b⟩⟩
theorem corners {n : Int} {bs : List Bd} {ps : List Pr} (hd : DealOk ⟨n, bs⟩ ps) (h : ∀ set, set < 2 ^ ps.length → fits (planFor ⟨n, bs⟩ ps (endsOf set ps ps.length)) = true) (q : List Int) (hq : q.length = ps.length) (hl : LastsTo ps q q.length) : fits (planFor ⟨n, bs⟩ ps q) = true := by
  obtain ⟨hp, h12, h2, hpr⟩ := hd
  have h12' : bs.length ≤ 12 := h12
  match ps, q, hq with
  | [], [], _ => exact h 0 (by simp)
  | [x], [v], _ =>
    have hx : PrOk n x := (hpr 0 x (by simp) rfl).1
    have hv := inB_iff.1 (hl 0 x v (by simp) rfl rfl)
    have e : ∀ u, planFor ⟨n, bs⟩ [x] [u] = ⟨n, bs ++ pairOf x u⟩ := fun u => by simp [planFor, forBs]
    have a0 : fits ⟨n, bs ++ pairOf x x.l⟩ = true := by rw [← e]; exact h 0 (by simp)
    have a1 : fits ⟨n, bs ++ pairOf x x.h⟩ = true := by rw [← e]; exact h 1 (by simp)
    rw [e]
    obtain ⟨_, _, _, l0, l1, l2⟩ := hx
    have hk : ∀ u, 0 ≤ u ∧ u ≤ 12 → planOk ⟨n, bs ++ pairOf x u⟩ = true := fun u hu => planOk_more hp (by simp [pairOf]; omega) (pair_ok (hpr 0 x (by simp) rfl).1 hu)
    exact (fits_iff (hk v (by omega))).2 (mid hp (hpr 0 x (by simp) rfl).1 ((fits_iff (hk x.l (by omega))).1 a0) ((fits_iff (hk x.h (by omega))).1 a1) hv.1 hv.2)
  | [x, y], [u, v], _ =>
    have hx : PrOk n x := (hpr 0 x (by simp) rfl).1
    have hy : PrOk n y := (hpr 1 y (by simp) rfl).1
    have hu := inB_iff.1 (hl 0 x u (by simp) rfl rfl)
    have hv := inB_iff.1 (hl 1 y v (by simp) rfl rfl)
    have e : ∀ a b, planFor ⟨n, bs⟩ [x, y] [a, b] = ⟨n, (bs ++ pairOf x a) ++ pairOf y b⟩ := fun a b => by simp [planFor, forBs]
    have x2 : 0 ≤ x.l ∧ x.l ≤ x.h ∧ x.h ≤ 12 := hx.2.2.2
    have y2 : 0 ≤ y.l ∧ y.l ≤ y.h ∧ y.h ≤ 12 := hy.2.2.2
    have k1 : ∀ a, 0 ≤ a ∧ a ≤ 12 → planOk ⟨n, bs ++ pairOf x a⟩ = true := fun a ha => planOk_more hp (by simp [pairOf]; omega) (pair_ok hx ha)
    have k2 : ∀ b, 0 ≤ b ∧ b ≤ 12 → planOk ⟨n, bs ++ pairOf y b⟩ = true := fun b hb => planOk_more hp (by simp [pairOf]; omega) (pair_ok hy hb)
    have kk : ∀ a b, 0 ≤ a ∧ a ≤ 12 → 0 ≤ b ∧ b ≤ 12 → planOk ⟨n, (bs ++ pairOf x a) ++ pairOf y b⟩ = true := fun a b ha hb => planOk_more (k1 a ha) (by simp [pairOf]; omega) (pair_ok hy hb)
    have g : ∀ a b, 0 ≤ a ∧ a ≤ 12 → 0 ≤ b ∧ b ≤ 12 → fits (planFor ⟨n, bs⟩ [x, y] [a, b]) = true → ∃ s, Sol ((bs ++ pairOf x a) ++ pairOf y b) s := fun a b ha hb hf => by rw [e] at hf; exact (fits_iff (kk a b ha hb)).1 hf
    have sw : ∀ a b, (∃ s, Sol ((bs ++ pairOf x a) ++ pairOf y b) s) → ∃ s, Sol ((bs ++ pairOf y b) ++ pairOf x a) s := fun a b ⟨s, hs⟩ => ⟨s, (swap_sol s).1 hs⟩
    have sw2 : ∀ a b, (∃ s, Sol ((bs ++ pairOf y b) ++ pairOf x a) s) → ∃ s, Sol ((bs ++ pairOf x a) ++ pairOf y b) s := fun a b ⟨s, hs⟩ => ⟨s, (swap_sol s).1 hs⟩
    have c0 := g x.l y.l (by omega) (by omega) (by have t := h 0 (by simp); rwa [show endsOf 0 [x, y] [x, y].length = [x.l, y.l] from by simp [endsOf, endAt, List.range_succ]] at t)
    have c1 := g x.h y.l (by omega) (by omega) (by have t := h 1 (by simp); rwa [show endsOf 1 [x, y] [x, y].length = [x.h, y.l] from by simp [endsOf, endAt, List.range_succ]] at t)
    have c2 := g x.l y.h (by omega) (by omega) (by have t := h 2 (by simp); rwa [show endsOf 2 [x, y] [x, y].length = [x.l, y.h] from by simp [endsOf, endAt, List.range_succ]] at t)
    have c3 := g x.h y.h (by omega) (by omega) (by have t := h 3 (by simp); rwa [show endsOf 3 [x, y] [x, y].length = [x.h, y.h] from by simp [endsOf, endAt, List.range_succ]] at t)
    have m0 := sw2 u y.l (mid (k2 y.l (by omega)) hx (sw _ _ c0) (sw _ _ c1) hu.1 hu.2)
    have m1 := sw2 u y.h (mid (k2 y.h (by omega)) hx (sw _ _ c2) (sw _ _ c3) hu.1 hu.2)
    rw [e]
    exact (fits_iff (kk u v (by omega) (by omega))).2 (mid (k1 u (by omega)) hy m0 m1 hv.1 hv.2)
  | _ :: _ :: _ :: _, _, _ => simp at h2

theorem weak_same (p : Pl) (ps : List Pr) : weakR p ps = weakS p ps := by
  unfold weakR weakS
  cases hd : dealOk p ps
  · rfl
  · have hdl := dealOk_iff.1 hd
    obtain ⟨n, bs⟩ := p
    have hok : ∀ (i : Nat) (x : Pr), ps[i]? = some x → 0 ≤ x.l ∧ x.l ≤ x.h ∧ x.h ≤ 12 := by
      intro i x hx
      have h := hdl.2.2.2 i x (List.getElem?_eq_some_iff.1 hx).1 hx
      exact ⟨h.1.2.2.2.1, h.1.2.2.2.2.1, h.1.2.2.2.2.2⟩
    have hp : ∀ q, q.length = ps.length → LastsTo ps q q.length → (planForR ⟨n, bs⟩ ps q).1 = planFor ⟨n, bs⟩ ps q := fun q h1 h2 => by
      unfold planForR
      rw [lastsOk_iff.2 ⟨hdl, h1, h2⟩]
      rfl
    rw [Bool.eq_iff_iff]
    simp only [Bool.true_and]
    unfold weakF
    rw [List.all_eq_true, List.all_eq_true]
    constructor
    · intro h set hs
      have h1 := endsOf_len set ps ps.length (Nat.le_refl _)
      have h2 := ends_lasts (set := set) hok
      have := h _ (come_mem ps.length [] _ (by simp) h1 (List.nil_prefix) h2)
      rw [hp _ h1 h2] at this
      exact this
    · intro h q hq
      obtain ⟨h1, h2⟩ := come_lasts hok ps.length [] q (by simp) (fun i x l hi => absurd hi (by simp)) hq
      rw [hp _ h1 h2]
      exact corners hdl (fun set hs => h set (List.mem_range.2 hs)) q h1 h2
end Go.Proofs.Ytdijfkpccbkdfaa
