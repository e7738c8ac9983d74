/-
  What both sides of CountFit count is the same. No program.
  If the corners fit, all ways fit: both sides of WeakOk. No program.
  The laws of WeakOk and CountFit. No program.
  How many ways promises may last: a promise more. No program.
-/
import Derived.Test.YtdijfkpccbkdfaaL30
import Derived.Test.YtdijfkpccbkdfaaS28
import Derived.Test.YtdijfkpccbkdfaaL31
import Derived.Test.YtdijfkpccbkdfaaS30
import Derived.Test.YtdijfkpccbkdfaaP2
import Derived.Test.YtdijfkpccbkdfaaP9
namespace Go.Proofs.Ytdijfkpccbkdfaa
set_option linter.unusedVariables false
set_option linter.unusedSimpArgs false
open Go Pp

theorem fitN_app (p : Pl) (ps : List Pr) (xs ys : List (List Int)) : fitN p ps (xs ++ ys) = fitN p ps xs + fitN p ps ys := by simp [fitN]
theorem inB_of {v l h : Int} (h1 : l ≤ v) (h2 : v ≤ h) : inB v l h = true := inB_iff.2 ⟨h1, h2⟩
theorem lastsTo_app {ps : List Pr} {ls : List Int} {x : Pr} {v : Int} (hx : ps[ls.length]? = some x) (hv : inB v x.l x.h = true) (h : LastsTo ps ls ls.length) : LastsTo ps (ls ++ [v]) (ls ++ [v]).length := by
  intro i y l hi hy hl
  rw [List.getElem?_append] at hl
  split at hl
  · rename_i hlt
    exact h i y l hlt hy hl
  · rename_i hge
    have hi2 : i = ls.length := by
      have : (ls ++ [v]).length = ls.length + 1 := by simp
      omega
    subst hi2
    rw [hx] at hy
    cases hy
    have : v = l := by simpa using hl
    rw [← this]; exact hv
theorem count_go {p : Pl} {ps : List Pr} (hd : DealOk p ps) (hok : ∀ (i : Nat) (x : Pr), ps[i]? = some x → 0 ≤ x.l ∧ x.l ≤ x.h ∧ x.h ≤ 12) : ∀ (m : Nat) (ls : List Int), ls.length + m = ps.length → LastsTo ps ls ls.length → fitN p ps (comeF ps m ls) = countF p ps m ls := by
  intro m
  induction m with
  | zero =>
    intro ls hm hl
    have ho : lastsOk p ps ls = true := lastsOk_iff.2 ⟨hd, by omega, hl⟩
    simp [comeF, fitN, fit1, countF, planForR, ho]
  | succ m ih =>
    intro ls hm hl
    have hlt : ls.length < ps.length := by omega
    have hx := List.getElem?_eq_getElem hlt
    obtain ⟨h1, h2, h3⟩ := hok _ _ hx
    generalize ps[ls.length] = x at hx h1 h2 h3
    have e1 : comeF ps (m + 1) ls = comeK ps m ls x (x.h - x.l + 1).toNat := by unfold comeK; rw [comeF, hx]
    have e2 : countF p ps (m + 1) ls = countK p ps m ls x (x.h - x.l + 1).toNat := by unfold countK; rw [countF, hx]
    obtain ⟨N, hN⟩ : ∃ N, (x.h - x.l + 1).toNat = N := ⟨_, rfl⟩
    rw [e1, e2, hN]
    have hk : ∀ k : Nat, k ≤ N → fitN p ps (comeK ps m ls x k) = countK p ps m ls x k := by
      intro k
      induction k with
      | zero => intro _; simp [comeK, countK, fitN]
      | succ k ihk =>
        intro hk
        rw [comeK_succ, countK_succ, fitN_app, ihk (by omega), ih (ls ++ [x.l + (k : Int)]) (by simp; omega) (lastsTo_app hx (inB_of (by omega) (by omega)) hl)]
    exact hk N (Nat.le_refl _)
theorem count_same (p : Pl) (ps : List Pr) : countR p ps = if dealOk p ps then countF p ps ps.length [] else -1 := by
  unfold countR
  cases hd : dealOk p ps
  · rfl
  · have hdl := dealOk_iff.1 hd
    have hok : ∀ (i : Nat) (x : Pr), ps[i]? = some x → 0 ≤ x.l ∧ x.l ≤ x.h ∧ x.h ≤ 12 := by
      intro i x hx
      have h := hdl.2.2.2 i x (List.getElem?_eq_some_iff.1 hx).1 hx
      exact ⟨h.1.2.2.2.1, h.1.2.2.2.2.1, h.1.2.2.2.2.2⟩
    simp only [if_true]
    exact count_go hdl hok ps.length [] (by simp) (fun i y l hi => absurd hi (by simp))

theorem come_lasts {ps : List Pr} (hok : ∀ (i : Nat) (x : Pr), ps[i]? = some x → 0 ≤ x.l ∧ x.l ≤ x.h ∧ x.h ≤ 12) : ∀ (m : Nat) (ls q : List Int), ls.length + m = ps.length → LastsTo ps ls ls.length → q ∈ comeF ps m ls → q.length = ps.length ∧ LastsTo ps q q.length := by
  intro m
  induction m with
  | zero => intro ls q hm hl hq; simp only [comeF, List.mem_singleton] at hq; subst hq; exact ⟨by omega, hl⟩
  | succ m ih =>
    intro ls q hm hl hq
    have hx := List.getElem?_eq_getElem (show ls.length < ps.length by omega)
    obtain ⟨h1, h2, h3⟩ := hok _ _ hx
    generalize ps[ls.length]'(by omega) = x at hx h1 h2 h3
    rw [comeF, hx] at hq
    obtain ⟨i, hi, hq⟩ := List.mem_flatMap.1 hq
    have hi2 := List.mem_range.1 hi
    exact ih _ q (by simp; omega) (lastsTo_app hx (inB_of (by omega) (by omega)) hl) hq
theorem come_mem {ps : List Pr} : ∀ (m : Nat) (ls q : List Int), ls.length + m = ps.length → q.length = ps.length → ls <+: q → LastsTo ps q q.length → q ∈ comeF ps m ls := by
  intro m
  induction m with
  | zero =>
    intro ls q hm hq hp hl
    rw [hp.eq_of_length (by omega)]
    simp [comeF]
  | succ m ih =>
    intro ls q hm hq hp hl
    have hlt : ls.length < ps.length := by omega
    have hx := List.getElem?_eq_getElem hlt
    generalize ps[ls.length] = x at hx
    obtain ⟨t, rfl⟩ := hp
    cases t with
    | nil => simp at hq; omega
    | cons v t =>
      have hv : (ls ++ v :: t)[ls.length]? = some v := by simp
      have hin := inB_iff.1 (hl ls.length x v (by simp) hx hv)
      rw [comeF, hx]
      refine List.mem_flatMap.2 ⟨(v - x.l).toNat, List.mem_range.2 (by omega), ?_⟩
      have e : x.l + ((v - x.l).toNat : Int) = v := by omega
      rw [e]
      exact ih _ _ (by simp; omega) hq ⟨t, by simp⟩ hl
theorem endsOf_get {set : Nat} {ps : List Pr} : ∀ (k i : Nat) (l : Int) (x : Pr), k ≤ ps.length → ps[i]? = some x → (endsOf set ps k)[i]? = some l → l = x.l ∨ l = x.h := by
  intro k
  induction k with
  | zero => intro i l x _ _ h; simp [endsOf] at h
  | succ k ih =>
    intro i l x hk hx h
    have hxk := List.getElem?_eq_getElem (show k < ps.length by omega)
    rw [endsOf_succ set ps k _ hxk, List.getElem?_append] at h
    have hlen := endsOf_len set ps k (by omega)
    split at h
    · exact ih i l x (by omega) hx h
    · have hik : i = k := by
        cases e : i - (endsOf set ps k).length with
        | zero => omega
        | succ j => rw [e] at h; simp at h
      subst hik
      rw [hxk] at hx
      cases hx
      rw [hlen, Nat.sub_self] at h
      simp only [List.getElem?_cons_zero, Option.some.injEq] at h
      subst h
      unfold endAt
      split
      · exact .inr rfl
      · exact .inl rfl
theorem ends_lasts {set : Nat} {ps : List Pr} (hok : ∀ (i : Nat) (x : Pr), ps[i]? = some x → 0 ≤ x.l ∧ x.l ≤ x.h ∧ x.h ≤ 12) : LastsTo ps (endsOf set ps ps.length) (endsOf set ps ps.length).length := by
  intro i x l hi hx hl
  obtain ⟨h1, h2, h3⟩ := hok _ _ hx
  rcases endsOf_get _ i l x (Nat.le_refl _) hx hl with rfl | rfl
  · exact inB_of (Int.le_refl _) h2
  · exact inB_of h2 (Int.le_refl _)

/-! ### between the corners -/
theorem planOk_more {n : Int} {bs ex : List Bd} (h : planOk ⟨n, bs⟩ = true) (hl : bs.length + ex.length ≤ 16) (he : ∀ b ∈ ex, bdOk n b = true) : planOk ⟨n, bs ++ ex⟩ = true := by
  have h0 := planOk_iff.1 h
  refine planOk_iff.2 ⟨h0.1, by simpa using hl, fun b hb => ?_⟩
  rcases List.mem_append.1 hb with h1 | h1
  · exact h0.2.2 b h1
  · exact he b h1
theorem pair_ok {n : Int} {x : Pr} {l : Int} (hx : PrOk n x) (hl : 0 ≤ l ∧ l ≤ 12) : ∀ b ∈ pairOf x l, bdOk n b = true := by
  intro b hb
  obtain ⟨h1, h2, _⟩ := hx
  simp only [pairOf, List.mem_cons, List.not_mem_nil, or_false] at hb
  rcases hb with rfl | rfl
  · exact bdOk_iff.2 ⟨h1, h2, by dsimp only; omega⟩
  · exact bdOk_iff.2 ⟨h2, h1, by dsimp only; omega⟩
theorem pair_sol {C : List Bd} {x : Pr} {l : Int} (y : Nat → Int) : Sol (C ++ pairOf x l) y ↔ Sol C y ∧ y x.t.toNat - y x.f.toNat = l := set_sol y
theorem mid {n : Int} {C : List Bd} {x : Pr} {a b v : Int} (hok : planOk ⟨n, C⟩ = true) (hx : PrOk n x) (h0 : ∃ y, Sol (C ++ pairOf x a) y) (h1 : ∃ y, Sol (C ++ pairOf x b) y) (ha : a ≤ v) (hb : v ≤ b) : ∃ y, Sol (C ++ pairOf x v) y := by
  obtain ⟨y0, h0⟩ := h0
  obtain ⟨y1, h1⟩ := h1
  obtain ⟨s0, e0⟩ := (pair_sol y0).1 h0
  obtain ⟨s1, e1⟩ := (pair_sol y1).1 h1
  have F := fit_of ((fits_iff hok).2 ⟨y0, s0⟩)
  obtain ⟨⟨f1, f2⟩, ⟨t1, t2⟩, hne, _⟩ := hx
  have hi : x.f.toNat < nn ⟨n, C⟩ := by simp only [nn]; omega
  have hj : x.t.toNat < nn ⟨n, C⟩ := by simp only [nn]; omega
  obtain ⟨y, hy, he⟩ := F.between hi hj v (fun e => absurd e (by omega)) (fun hf => by have := F.le hi hj s1 hf; omega) (fun hf => by have := F.le hj hi s0 hf; omega)
  exact ⟨y, (pair_sol y).2 ⟨hy, he⟩⟩
theorem swap_sol {C D E : List Bd} (y : Nat → Int) : Sol ((C ++ D) ++ E) y ↔ Sol ((C ++ E) ++ D) y := by
  rw [sol_append, sol_append, sol_append, sol_append]
  exact ⟨fun ⟨⟨a, b⟩, c⟩ => ⟨⟨a, c⟩, b⟩, fun ⟨⟨a, b⟩, c⟩ => ⟨⟨a, c⟩, b⟩⟩
theorem corners {n : Int} {bs : List Bd} {ps : List Pr} (hd : DealOk ⟨n, bs⟩ ps) (h : ∀ set, set < 2 ^ ps.length → fits (planFor ⟨n, bs⟩ ps (endsOf set ps ps.length)) = true) (q : List Int) (hq : q.length = ps.length) (hl : LastsTo ps q q.length) : fits (planFor ⟨n, bs⟩ ps q) = true := by
  obtain ⟨hp, h12, h2, hpr⟩ := hd
  have h12' : bs.length ≤ 12 := h12
  match ps, q, hq with
  | [], [], _ => exact h 0 (by simp)
  | [x], [v], _ =>
    have hx : PrOk n x := (hpr 0 x (by simp) rfl).1
    have hv := inB_iff.1 (hl 0 x v (by simp) rfl rfl)
    have e : ∀ u, planFor ⟨n, bs⟩ [x] [u] = ⟨n, bs ++ pairOf x u⟩ := fun u => by simp [planFor, forBs]
    have a0 : fits ⟨n, bs ++ pairOf x x.l⟩ = true := by rw [← e]; exact h 0 (by simp)
    have a1 : fits ⟨n, bs ++ pairOf x x.h⟩ = true := by rw [← e]; exact h 1 (by simp)
    rw [e]
    obtain ⟨_, _, _, l0, l1, l2⟩ := hx
    have hk : ∀ u, 0 ≤ u ∧ u ≤ 12 → planOk ⟨n, bs ++ pairOf x u⟩ = true := fun u hu => planOk_more hp (by simp [pairOf]; omega) (pair_ok (hpr 0 x (by simp) rfl).1 hu)
    exact (fits_iff (hk v (by omega))).2 (mid hp (hpr 0 x (by simp) rfl).1 ((fits_iff (hk x.l (by omega))).1 a0) ((fits_iff (hk x.h (by omega))).1 a1) hv.1 hv.2)
  | [x, y], [u, v], _ =>
    have hx : PrOk n x := (hpr 0 x (by simp) rfl).1
    have hy : PrOk n y := (hpr 1 y (by simp) rfl).1
    have hu := inB_iff.1 (hl 0 x u (by simp) rfl rfl)
    have hv := inB_iff.1 (hl 1 y v (by simp) rfl rfl)
    have e : ∀ a b, planFor ⟨n, bs⟩ [x, y] [a, b] = ⟨n, (bs ++ pairOf x a) ++ pairOf y b⟩ := fun a b => by simp [planFor, forBs]
    have x2 : 0 ≤ x.l ∧ x.l ≤ x.h ∧ x.h ≤ 12 := hx.2.2.2
    have y2 : 0 ≤ y.l ∧ y.l ≤ y.h ∧ y.h ≤ 12 := hy.2.2.2
    have k1 : ∀ a, 0 ≤ a ∧ a ≤ 12 → planOk ⟨n, bs ++ pairOf x a⟩ = true := fun a ha => planOk_more hp (by simp [pairOf]; omega) (pair_ok hx ha)
    have k2 : ∀ b, 0 ≤ b ∧ b ≤ 12 → planOk ⟨n, bs ++ pairOf y b⟩ = true := fun b hb => planOk_more hp (by simp [pairOf]; omega) (pair_ok hy hb)
    have kk : ∀ a b, 0 ≤ a ∧ a ≤ 12 → 0 ≤ b ∧ b ≤ 12 → planOk ⟨n, (bs ++ pairOf x a) ++ pairOf y b⟩ = true := fun a b ha hb => planOk_more (k1 a ha) (by simp [pairOf]; omega) (pair_ok hy hb)
    have g : ∀ a b, 0 ≤ a ∧ a ≤ 12 → 0 ≤ b ∧ b ≤ 12 → fits (planFor ⟨n, bs⟩ [x, y] [a, b]) = true → ∃ s, Sol ((bs ++ pairOf x a) ++ pairOf y b) s := fun a b ha hb hf => by rw [e] at hf; exact (fits_iff (kk a b ha hb)).1 hf
    have sw : ∀ a b, (∃ s, Sol ((bs ++ pairOf x a) ++ pairOf y b) s) → ∃ s, Sol ((bs ++ pairOf y b) ++ pairOf x a) s := fun a b ⟨s, hs⟩ => ⟨s, (swap_sol s).1 hs⟩
    have sw2 : ∀ a b, (∃ s, Sol ((bs ++ pairOf y b) ++ pairOf x a) s) → ∃ s, Sol ((bs ++ pairOf x a) ++ pairOf y b) s := fun a b ⟨s, hs⟩ => ⟨s, (swap_sol s).1 hs⟩
    have c0 := g x.l y.l (by omega) (by omega) (by have t := h 0 (by simp); rwa [show endsOf 0 [x, y] [x, y].length = [x.l, y.l] from by simp [endsOf, endAt, List.range_succ]] at t)
    have c1 := g x.h y.l (by omega) (by omega) (by have t := h 1 (by simp); rwa [show endsOf 1 [x, y] [x, y].length = [x.h, y.l] from by simp [endsOf, endAt, List.range_succ]] at t)
    have c2 := g x.l y.h (by omega) (by omega) (by have t := h 2 (by simp); rwa [show endsOf 2 [x, y] [x, y].length = [x.l, y.h] from by simp [endsOf, endAt, List.range_succ]] at t)
    have c3 := g x.h y.h (by omega) (by omega) (by have t := h 3 (by simp); rwa [show endsOf 3 [x, y] [x, y].length = [x.h, y.h] from by simp [endsOf, endAt, List.range_succ]] at t)
    have m0 := sw2 u y.l (mid (k2 y.l (by omega)) hx (sw _ _ c0) (sw _ _ c1) hu.1 hu.2)
    have m1 := sw2 u y.h (mid (k2 y.h (by omega)) hx (sw _ _ c2) (sw _ _ c3) hu.1 hu.2)
    rw [e]
    exact (fits_iff (kk u v (by omega) (by omega))).2 (mid (k1 u (by omega)) hy m0 m1 hv.1 hv.2)
  | _ :: _ :: _ :: _, _, _ => simp at h2

theorem weak_same (p : Pl) (ps : List Pr) : weakR p ps = weakS p ps := by
  unfold weakR weakS
  cases hd : dealOk p ps
  · rfl
  · have hdl := dealOk_iff.1 hd
    obtain ⟨n, bs⟩ := p
    have hok : ∀ (i : Nat) (x : Pr), ps[i]? = some x → 0 ≤ x.l ∧ x.l ≤ x.h ∧ x.h ≤ 12 := by
      intro i x hx
      have h := hdl.2.2.2 i x (List.getElem?_eq_some_iff.1 hx).1 hx
      exact ⟨h.1.2.2.2.1, h.1.2.2.2.2.1, h.1.2.2.2.2.2⟩
    have hp : ∀ q, q.length = ps.length → LastsTo ps q q.length → (planForR ⟨n, bs⟩ ps q).1 = planFor ⟨n, bs⟩ ps q := fun q h1 h2 => by
      unfold planForR
      rw [lastsOk_iff.2 ⟨hdl, h1, h2⟩]
      rfl
    rw [Bool.eq_iff_iff]
    simp only [Bool.true_and]
    unfold weakF
    rw [List.all_eq_true, List.all_eq_true]
    constructor
    · intro h set hs
      have h1 := endsOf_len set ps ps.length (Nat.le_refl _)
      have h2 := ends_lasts (set := set) hok
      have := h _ (come_mem ps.length [] _ (by simp) h1 (List.nil_prefix) h2)
      rw [hp _ h1 h2] at this
      exact this
    · intro h q hq
      obtain ⟨h1, h2⟩ := come_lasts hok ps.length [] q (by simp) (fun i x l hi => absurd hi (by simp)) hq
      rw [hp _ h1 h2]
      exact corners hdl (fun set hs => h set (List.mem_range.2 hs)) q h1 h2

/-- How many ways there are. -/
def prodN : List Pr → Nat
  | [] => 1
  | x :: t => (x.h - x.l + 1).toNat * prodN t
theorem flat_len_eq {α : Type} (f : Nat → List α) (k : Nat) (h : ∀ i, (f i).length = k) (n : Nat) : ((List.range n).flatMap f).length = n * k := by
  induction n with
  | zero => simp
  | succ n ih =>
    have e : (List.flatMap f [n]).length = (f n).length := by simp
    rw [List.range_succ, List.flatMap_append, List.length_append, Nat.succ_mul, ih, e, h n]
theorem come_len (ps : List Pr) : ∀ (m : Nat) (ls : List Int), ls.length + m = ps.length → (comeF ps m ls).length = prodN (ps.drop ls.length) := by
  intro m
  induction m with
  | zero => intro ls hm; rw [List.drop_of_length_le (by omega)]; rfl
  | succ m ih =>
    intro ls hm
    have hlt : ls.length < ps.length := by omega
    have hx := List.getElem?_eq_getElem hlt
    rw [List.drop_eq_getElem_cons hlt, prodN, comeF, hx]
    refine flat_len_eq _ _ (fun i => ?_) _
    rw [ih (ls ++ [_]) (by simp; omega)]
    simp
theorem fitN_full (p : Pl) (ps : List Pr) (xs : List (List Int)) : fitN p ps xs = xs.length ↔ weakF p ps xs = true := by
  induction xs with
  | nil => simp [fitN, weakF]
  | cons a t ih =>
    have e : fitN p ps (a :: t) = fit1 p ps a + fitN p ps t := by simp [fitN]
    have hb := (fitN_bound p ps t).2
    have h1 : weakF p ps (a :: t) = (fits (planForR p ps a).1 && weakF p ps t) := by simp [weakF]
    rw [e, h1, Bool.and_eq_true, ← ih, List.length_cons]
    unfold fit1
    cases fits (planForR p ps a).1
    · simp; omega
    · simp; omega
/-- It holds exactly if as many ways fit as there are. -/
theorem weak_count {p : Pl} {ps : List Pr} (hd : dealOk p ps = true) : (weakR p ps = true ↔ countR p ps = prodN ps) := by
  have h := come_len ps ps.length [] (by simp)
  simp only [List.length_nil, List.drop_zero] at h
  unfold weakR countR
  rw [hd, ← h]
  simp only [Bool.true_and, if_true]
  exact (fitN_full p ps _).symm
theorem weak_fits {p : Pl} {ps : List Pr} (h : weakR p ps = true) : fits p = true := by
  rw [weak_same] at h
  unfold weakS at h
  rw [Bool.and_eq_true] at h
  have hdl := dealOk_iff.1 h.1
  have hok : ∀ (i : Nat) (x : Pr), ps[i]? = some x → 0 ≤ x.l ∧ x.l ≤ x.h ∧ x.h ≤ 12 := by
    intro i x hx
    have h := hdl.2.2.2 i x (List.getElem?_eq_some_iff.1 hx).1 hx
    exact ⟨h.1.2.2.2.1, h.1.2.2.2.2.1, h.1.2.2.2.2.2⟩
  have h0 := List.all_eq_true.1 h.2 0 (List.mem_range.2 (Nat.pow_pos (by omega)))
  have hlo : LastsOk p ps (endsOf 0 ps ps.length) := ⟨hdl, endsOf_len 0 ps _ (Nat.le_refl _), ends_lasts hok⟩
  obtain ⟨y, hy⟩ := (fits_iff (planFor_ok hlo)).1 h0
  exact (fits_iff hdl.1).2 ⟨y, (sol_append.1 hy).1⟩

/-- The last promise, split. -/
theorem forBs_same : ∀ (ps qs : List Pr) (ls : List Int), ps.length = qs.length → (∀ (i : Nat) (x y : Pr), ps[i]? = some x → qs[i]? = some y → x.f = y.f ∧ x.t = y.t) → forBs ps ls = forBs qs ls
  | [], [], ls, _, _ => rfl
  | [], y :: qs, ls, h, _ => by simp at h
  | x :: ps, [], ls, h, _ => by simp at h
  | x :: ps, y :: qs, [], _, _ => rfl
  | x :: ps, y :: qs, l :: ls, hl, h => by
    have h0 := h 0 x y rfl rfl
    rw [forBs, forBs, forBs_same ps qs ls (by simpa using hl) (fun i a b ha hb => h (i + 1) a b (by simpa using ha) (by simpa using hb))]
    unfold pairOf
    rw [h0.1, h0.2]
theorem count_split (p : Pl) (qs : List Pr) (x : Pr) (hlh : x.l < x.h) : ∀ (m : Nat) (ls : List Int), ls.length + m = qs.length →
    countF p (qs ++ [⟨x.f, x.t, x.l, x.l⟩]) (m + 1) ls + countF p (qs ++ [⟨x.f, x.t, x.l + 1, x.h⟩]) (m + 1) ls = countF p (qs ++ [x]) (m + 1) ls := by
  intro m
  induction m with
  | zero =>
    intro ls hm
    have hq : ls.length = qs.length := by omega
    have g : ∀ z : Pr, (qs ++ [z])[ls.length]? = some z := fun z => by rw [hq]; simp
    obtain ⟨N, hN⟩ : ∃ N : Nat, (x.h - x.l).toNat = N := ⟨_, rfl⟩
    have e1 : (x.l - x.l + 1).toNat = 1 := by omega
    have e2 : (x.h - (x.l + 1) + 1).toNat = N := by omega
    have e3 : (x.h - x.l + 1).toNat = N + 1 := by omega
    rw [countF, countF, countF, g, g, g]
    simp only [e1, e2, e3]
    have c : ∀ (a b : Pr) (l : List Int), a.f = b.f → a.t = b.t → countF p (qs ++ [a]) 0 l = countF p (qs ++ [b]) 0 l := by
      intro a b l ha hb
      unfold countF planFor
      rw [forBs_same (qs ++ [a]) (qs ++ [b]) l (by simp) ?_]
      intro i u v hu hv
      rw [List.getElem?_append] at hu hv
      split at hu
      · rename_i h1; rw [if_pos h1] at hv; rw [hu] at hv; cases hv; exact ⟨rfl, rfl⟩
      · rename_i h1
        rw [if_neg h1] at hv
        cases h0 : i - qs.length with
        | zero => rw [h0] at hu hv; simp at hu hv; subst hu; subst hv; exact ⟨ha, hb⟩
        | succ j => rw [h0] at hu; simp at hu
    rw [List.range_succ_eq_map (n := N)]
    simp only [List.map_cons, List.map_map, List.sum_cons, List.range_one, List.map_nil, List.sum_nil, Int.add_zero]
    rw [c ⟨x.f, x.t, x.l, x.l⟩ x _ rfl rfl]
    congr 2
    refine List.map_congr_left fun i _ => ?_
    rw [c ⟨x.f, x.t, x.l + 1, x.h⟩ x _ rfl rfl]
    simp only [Function.comp]
    congr 3
    omega
  | succ m ih =>
    intro ls hm
    have hlt : ls.length < qs.length := by omega
    have g : ∀ z : Pr, (qs ++ [z])[ls.length]? = some qs[ls.length] := fun z => by rw [List.getElem?_append_left hlt]; exact List.getElem?_eq_getElem hlt
    rw [countF, countF, countF, g, g, g]
    dsimp only
    generalize (qs[ls.length].h - qs[ls.length].l + 1).toNat = N
    induction N with
    | zero => simp
    | succ N ihN =>
      rw [List.range_succ]
      simp only [List.map_append, List.sum_append, List.map_cons, List.map_nil, List.sum_cons, List.sum_nil, Int.add_zero]
      have h := ih (ls ++ [qs[ls.length].l + (N : Int)]) (by simp; omega)
      rw [← ihN, ← h]
      omega

theorem prodN_snoc : ∀ (ps : List Pr) (x : Pr), prodN (ps ++ [x]) = prodN ps * (x.h - x.l + 1).toNat
  | [], x => by simp [prodN]
  | y :: ps, x => by
    rw [List.cons_append, prodN, prodN, prodN_snoc ps x, Nat.mul_assoc]
theorem prodN_take {ps : List Pr} {k : Nat} {x : Pr} (hx : ps[k]? = some x) (h0 : x.l ≤ x.h) : (prodN (ps.take (k + 1)) : Int) = prodN (ps.take k) * (x.h - x.l + 1) := by
  have hk : k < ps.length := (List.getElem?_eq_some_iff.1 hx).1
  have e : ps.take (k + 1) = ps.take k ++ [x] := by
    rw [List.take_add_one, hx]; rfl
  rw [e, prodN_snoc, Int.natCast_mul, Int.toNat_of_nonneg (by omega)]
theorem prodN_le : ∀ (ps : List Pr), (∀ x ∈ ps, 0 ≤ x.l ∧ x.l ≤ x.h ∧ x.h ≤ 12) → prodN ps ≤ 13 ^ ps.length
  | [], _ => by simp [prodN]
  | x :: ps, h => by
    have ih := prodN_le ps (fun y hy => h y (List.mem_cons_of_mem _ hy))
    have h0 := h x (List.mem_cons_self ..)
    rw [prodN, List.length_cons, Nat.pow_succ, Nat.mul_comm (13 ^ _)]
    exact Nat.mul_le_mul (by omega) ih
theorem prodN_small {ps : List Pr} (h2 : ps.length ≤ 2) (h : ∀ x ∈ ps, 0 ≤ x.l ∧ x.l ≤ x.h ∧ x.h ≤ 12) (k : Nat) : prodN (ps.take k) ≤ 169 := by
  have h1 := prodN_le (ps.take k) (fun x hx => h x (List.mem_of_mem_take hx))
  have hl : (ps.take k).length ≤ 2 := by simp; omega
  have : 13 ^ (ps.take k).length ≤ 13 ^ 2 := Nat.pow_le_pow_right (by omega) hl
  omega
theorem deal_nums {p : Pl} {ps : List Pr} (h : dealOk p ps = true) : ps.length ≤ 2 ∧ ∀ x ∈ ps, 0 ≤ x.l ∧ x.l ≤ x.h ∧ x.h ≤ 12 := by
  obtain ⟨_, _, h2, h3⟩ := dealOk_iff.1 h
  refine ⟨h2, fun x hx => ?_⟩
  obtain ⟨i, hi, rfl⟩ := List.getElem_of_mem hx
  have := (h3 i _ hi (List.getElem?_eq_getElem hi)).1.2.2.2
  exact this
end Go.Proofs.Ytdijfkpccbkdfaa
