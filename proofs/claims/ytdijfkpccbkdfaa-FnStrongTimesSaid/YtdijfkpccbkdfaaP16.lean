/-
  Strong deals: what holds for the own points holds whatever comes. No program.
-/
import Derived.Test.YtdijfkpccbkdfaaP9
namespace Go.Proofs.Ytdijfkpccbkdfaa
set_option linter.unusedVariables false
set_option linter.unusedSimpArgs false
open Pp

theorem diag_sol {n : Nat} (hn : n ≤ 6) {M : Int} (h0 : 0 ≤ M) (hM : M ≤ 700) {bs : List Bd} (h : Within n M bs) : diagOk n (clo (tab0 bs) n) = true ↔ ∃ y, Sol bs y := by
  have hm := (small_ok hn h0 hM h).1
  have hs := fun y => (tsol_clo (n := n) (T := tab0 bs) y).trans (tsol_tab0 (M := M) (by unfold Far; omega) h y)
  constructor
  · intro hd
    have hd' := diagOk_iff.1 hd
    obtain ⟨y, hy⟩ := sol_some (hm n (Nat.le_refl _)) (clo_closed hm hd') hd'
    exact ⟨y, (hs y).1 hy⟩
  · rintro ⟨y, hy⟩
    refine diagOk_iff.2 fun i hi => ?_
    have h1 := Int.le_trans (clo_le (tab0 bs) n i i) ((tab0_le bs i i).2 rfl)
    have h2 := (hs y).2 hy i i hi hi (by unfold Far; omega)
    omega
theorem strong_sol {p : Pl} {ps : List Pr} (hd : DealOk p ps) : strong p ps = true ↔ ∃ y, Sol (own p ps).bs y :=
  diag_sol (nn_ok hd.1).1 (by omega) (by omega) (own_within hd)
theorem sol_own {p : Pl} {ps : List Pr} (y : Nat → Int) : Sol (own p ps).bs y ↔ ∀ b ∈ p.bs, y (ownB ps b).t.toNat - y (ownB ps b).f.toNat ≤ (ownB ps b).m := by
  unfold Sol own
  simp only [List.mem_map, forall_exists_index, and_imp, forall_apply_eq_imp_iff₂]

/-- Whatever comes: from the own points to all. -/
theorem own_abs' {n : Int} {ps : List Pr} (h2 : ps.length ≤ 2) (h : PrsOk n ps ps.length) (b : Bd) (ls : List Int) (hlen : ls.length = ps.length) (hl : LastsTo ps ls ls.length) (Y Z : Int → Int)
    (hZ1 : ∀ (i : Nat) (x : Pr) (l : Int), ps[i]? = some x → ls[i]? = some l → Z x.t = Y x.f + l) (hZ2 : ∀ v, (∀ x ∈ ps, v ≠ x.t) → Z v = Y v)
    (hown : Y (ownB ps b).t - Y (ownB ps b).f ≤ (ownB ps b).m) : Z b.t - Z b.f ≤ b.m := by
  by_cases e0 : b.f = b.t
  · unfold ownB at hown
    rw [if_pos e0, e0] at hown
    rw [e0]; omega
  · unfold ownB at hown
    rw [if_neg e0] at hown
    match ps, ls, h2 with
    | [], [], _ =>
      have z1 := hZ2 b.t (by simp)
      have z2 := hZ2 b.f (by simp)
      simp only [ownIs, List.foldl] at hown
      omega
    | [x], [l], _ =>
      obtain ⟨⟨_, _, hx, _⟩, _⟩ := h 0 x (by simp) rfl
      have hlx := inB_iff.1 (hl 0 x l (by simp) rfl rfl)
      have z := hZ1 0 x l rfl rfl
      have zt : b.t ≠ x.t → Z b.t = Y b.t := fun e => hZ2 _ (by simpa using e)
      have zf : b.f ≠ x.t → Z b.f = Y b.f := fun e => hZ2 _ (by simpa using e)
      simp only [ownIs, List.foldl, ownI] at hown
      by_cases e1 : b.t = x.t <;> by_cases e2 : b.f = x.t
      · exact absurd (e2.trans e1.symm) e0
      · have := zf e2; simp only [e1, e2, if_true, if_false] at hown ⊢; omega
      · have := zt e1; simp only [e1, e2, if_true, if_false] at hown ⊢; omega
      · have := zt e1; have := zf e2; simp only [e1, e2, if_false] at hown; omega
    | [x, y], [l, k], _ =>
      obtain ⟨⟨_, _, hx, _⟩, ax⟩ := h 0 x (by simp) rfl
      obtain ⟨⟨_, _, hy, _⟩, ay⟩ := h 1 y (by simp) rfl
      have a1 := ax 1 y (by simp) rfl (by omega)
      have hlx := inB_iff.1 (hl 0 x l (by simp) rfl rfl)
      have hly := inB_iff.1 (hl 1 y k (by simp) rfl rfl)
      have z := hZ1 0 x l rfl rfl
      have z' := hZ1 1 y k rfl rfl
      have zt : b.t ≠ x.t → b.t ≠ y.t → Z b.t = Y b.t := fun e e' => hZ2 _ (by simp [e, e'])
      have zf : b.f ≠ x.t → b.f ≠ y.t → Z b.f = Y b.f := fun e e' => hZ2 _ (by simp [e, e'])
      have a5 : ¬ x.t = y.t := a1.2
      clear ax ay
      simp only [ownIs, List.foldl, ownI] at hown
      by_cases e1 : b.t = x.t <;> by_cases e2 : b.f = x.t <;> by_cases e3 : b.t = y.t <;> by_cases e4 : b.f = y.t
      all_goals first
        | exact absurd (e2.trans e1.symm) e0
        | exact absurd (e4.trans e3.symm) e0
        | exact absurd (e1.symm.trans e3) a5
        | exact absurd (e2.symm.trans e4) a5
        | (simp only [e1, e2, e3, e4, if_true, if_false, a5, Ne.symm a5] at hown ⊢
           first
             | omega
             | (have := zt e1 e3; omega)
             | (have := zf e2 e4; omega)
             | (have := zt e1 e3; have := zf e2 e4; omega))
/-- Where each promise has one length: from all to the own points. -/
theorem own_back {n : Int} {ps : List Pr} (h2 : ps.length ≤ 2) (h : PrsOk n ps ps.length) (b : Bd) (hs : ∀ x ∈ ps, x.l = x.h) (Z : Int → Int) (hZ : ∀ x ∈ ps, Z x.t - Z x.f = x.l) (hb : Z b.t - Z b.f ≤ b.m) :
    Z (ownB ps b).t - Z (ownB ps b).f ≤ (ownB ps b).m := by
  unfold ownB
  by_cases e0 : b.f = b.t
  · rw [if_pos e0]; exact hb
  · rw [if_neg e0]
    match ps, h2 with
    | [], _ => simpa [ownIs] using hb
    | [x], _ =>
      have z := hZ x (by simp)
      have s := hs x (by simp)
      simp only [ownIs, List.foldl, ownI]
      by_cases e1 : b.t = x.t <;> by_cases e2 : b.f = x.t
      · exact absurd (e2.trans e1.symm) e0
      · simp only [e1, e2, if_true, if_false] at hb ⊢; omega
      · simp only [e1, e2, if_true, if_false] at hb ⊢; omega
      · simp only [e1, e2, if_false]; omega
    | [x, y], _ =>
      obtain ⟨_, ax⟩ := h 0 x (by simp) rfl
      have a5 : ¬ x.t = y.t := (ax 1 y (by simp) rfl (by omega)).2
      have z := hZ x (by simp)
      have s := hs x (by simp)
      have z' := hZ y (by simp)
      have s' := hs y (by simp)
      simp only [ownIs, List.foldl, ownI]
      by_cases e1 : b.t = x.t <;> by_cases e2 : b.f = x.t <;> by_cases e3 : b.t = y.t <;> by_cases e4 : b.f = y.t
      all_goals first
        | exact absurd (e2.trans e1.symm) e0
        | exact absurd (e4.trans e3.symm) e0
        | exact absurd (e1.symm.trans e3) a5
        | exact absurd (e2.symm.trans e4) a5
        | (simp only [e1, e2, e3, e4, if_true, if_false, a5, Ne.symm a5] at hb ⊢; omega)
/-- A longest length less: no bound is narrower. -/
theorem own_less' {qs : List Pr} {x : Pr} {h' : Int} (h2 : (qs ++ [x]).length ≤ 2) (hh : h' ≤ x.h) (b : Bd) :
    (ownB (qs ++ [⟨x.f, x.t, x.l, h'⟩]) b).f = (ownB (qs ++ [x]) b).f ∧ (ownB (qs ++ [⟨x.f, x.t, x.l, h'⟩]) b).t = (ownB (qs ++ [x]) b).t ∧ (ownB (qs ++ [x]) b).m ≤ (ownB (qs ++ [⟨x.f, x.t, x.l, h'⟩]) b).m := by
  unfold ownB
  by_cases e0 : b.f = b.t
  · simp [e0]
  · rw [if_neg e0, if_neg e0]
    match qs, h2 with
    | [], _ =>
      simp only [List.nil_append, ownIs, List.foldl, ownI]
      by_cases e1 : b.t = x.t <;> by_cases e2 : b.f = x.t <;> simp only [e1, e2, if_true, if_false] <;> (refine ⟨?_, ?_, ?_⟩ <;> first | rfl | trivial | omega)
    | [y], _ =>
      simp only [List.cons_append, List.nil_append, ownIs, List.foldl, ownI]
      by_cases e1 : b.t = x.t <;> by_cases e2 : b.f = x.t <;> simp only [e1, e2, if_true, if_false] <;> (refine ⟨?_, ?_, ?_⟩ <;> first | rfl | trivial | omega)
    | _ :: _ :: _, h => exact absurd h (by simp)

/-- Times of all points, of those of the own points. -/
def zOf : List Pr → List Int → (Nat → Int) → Nat → Int
  | x :: ps, l :: ls, y, v => if v = x.t.toNat then y x.f.toNat + l else zOf ps ls y v
  | [], _, y, v => y v
  | _, [], y, v => y v
theorem zOf_else : ∀ (ps : List Pr) (ls : List Int) (y : Nat → Int) (v : Nat), (∀ x ∈ ps, v ≠ x.t.toNat) → zOf ps ls y v = y v
  | [], ls, y, v, _ => by simp [zOf]
  | x :: ps, [], y, v, _ => by simp [zOf]
  | x :: ps, l :: ls, y, v, h => by
    rw [zOf, if_neg (h x (by simp))]
    exact zOf_else ps ls y v (fun z hz => h z (by simp [hz]))
theorem zOf_at : ∀ (ps : List Pr) (ls : List Int) (y : Nat → Int) (i : Nat) (x : Pr) (l : Int), ps[i]? = some x → ls[i]? = some l → (∀ (k : Nat) (z : Pr), ps[k]? = some z → k ≠ i → z.t.toNat ≠ x.t.toNat) → zOf ps ls y x.t.toNat = y x.f.toNat + l
  | [], ls, y, i, x, l, h, _, _ => by simp at h
  | w :: ps, [], y, i, x, l, _, h, _ => by simp at h
  | w :: ps, m :: ls, y, 0, x, l, h1, h2, _ => by
    simp at h1 h2
    subst h1; subst h2
    rw [zOf, if_pos rfl]
  | w :: ps, m :: ls, y, i + 1, x, l, h1, h2, h3 => by
    rw [zOf, if_neg (fun e => h3 0 w rfl (by omega) e.symm)]
    exact zOf_at ps ls y i x l (by simpa using h1) (by simpa using h2) (fun k z hz hk => h3 (k + 1) z (by simpa using hz) (by omega))

theorem own_sol_all {p : Pl} {ps : List Pr} {ls : List Int} (h : LastsOk p ps ls) {y : Nat → Int} (hy : Sol (own p ps).bs y) : Sol (planFor p ps ls).bs (zOf ps ls y) := by
  obtain ⟨⟨hp, h12, h2, hpr⟩, hlen, hl⟩ := h
  have hpk : ∀ (i : Nat) (x : Pr), ps[i]? = some x → PrOk p.n x ∧ Apart ps i x ps.length := fun i x hx => hpr i x (List.getElem?_eq_some_iff.1 hx).1 hx
  have hat : ∀ (i : Nat) (x : Pr) (l : Int), ps[i]? = some x → ls[i]? = some l → zOf ps ls y x.t.toNat = y x.f.toNat + l := fun i x l hx hl' =>
    zOf_at ps ls y i x l hx hl' (fun k z hz hk e => by
      obtain ⟨⟨_, ⟨t0, _⟩, _⟩, hap⟩ := hpk i x hx
      obtain ⟨⟨_, ⟨t1, _⟩, _⟩, _⟩ := hpk k z hz
      have := (hap k z (List.getElem?_eq_some_iff.1 hz).1 hz (Ne.symm hk)).2
      omega)
  have hel : ∀ v : Int, 0 ≤ v → (∀ x ∈ ps, v ≠ x.t) → zOf ps ls y v.toNat = y v.toNat := fun v hv hx =>
    zOf_else ps ls y _ (fun x hm e => by
      obtain ⟨i, hi, rfl⟩ := List.getElem_of_mem hm
      obtain ⟨⟨_, ⟨t1, _⟩, _⟩, _⟩ := hpk i _ (List.getElem?_eq_getElem hi)
      exact hx _ hm (by omega))
  refine sol_append.2 ⟨fun b hb => ?_, fun b hb => ?_⟩
  · have hbo := bdOk_iff.1 ((planOk_iff.1 hp).2.2 b hb)
    have hown := (sol_own y).1 hy b hb
    have k1 : ∀ (i : Nat) (x : Pr) (l : Int), ps[i]? = some x → ls[i]? = some l → (fun v : Int => if v < 0 then y v.toNat else zOf ps ls y v.toNat) x.t = (fun v : Int => y v.toNat) x.f + l := by
      intro i x l hx hl'
      obtain ⟨⟨_, ⟨t1, _⟩, _⟩, _⟩ := hpk i x hx
      dsimp only
      rw [if_neg (by omega)]
      exact hat i x l hx hl'
    have k2 : ∀ v : Int, (∀ x ∈ ps, v ≠ x.t) → (fun v : Int => if v < 0 then y v.toNat else zOf ps ls y v.toNat) v = (fun v : Int => y v.toNat) v := by
      intro v hv
      dsimp only
      split
      · rfl
      · exact hel v (by omega) hv
    have key := own_abs' h2 hpr b ls hlen hl (fun v => y v.toNat) (fun v => if v < 0 then y v.toNat else zOf ps ls y v.toNat) k1 k2 hown
    rw [if_neg (by omega), if_neg (by omega)] at key
    exact key
  · obtain ⟨i, x, l, hx, hl', hb⟩ := forBs_mem ps ls b hb
    have e1 := hat i x l hx hl'
    obtain ⟨⟨⟨f0, _⟩, ⟨t1, _⟩, hne, _⟩, hap⟩ := hpk i x hx
    have e2 : zOf ps ls y x.f.toNat = y x.f.toNat := hel x.f f0 (fun z hz e => by
      obtain ⟨k, hk, rfl⟩ := List.getElem_of_mem hz
      by_cases hki : k = i
      · subst hki; rw [List.getElem?_eq_getElem hk] at hx; cases hx; exact hne e
      · obtain ⟨_, hap2⟩ := hpk k _ (List.getElem?_eq_getElem hk)
        exact (hap2 i x (List.getElem?_eq_some_iff.1 hx).1 hx hki).1 e.symm)
    simp only [pairOf, List.mem_cons, List.not_mem_nil, or_false] at hb
    rcases hb with rfl | rfl
    · dsimp only; omega
    · dsimp only; omega
/-- What is strong fits, whatever comes. -/
theorem strong_fits {p : Pl} {ps : List Pr} {ls : List Int} (h : LastsOk p ps ls) (hs : strong p ps = true) : fits (planFor p ps ls) = true := by
  obtain ⟨y, hy⟩ := (strong_sol h.1).1 hs
  exact (fits_iff (planFor_ok h)).2 ⟨_, own_sol_all h hy⟩
theorem lows_ok {p : Pl} {ps : List Pr} (hd : DealOk p ps) : LastsOk p ps (ps.map Pr.l) := by
  refine ⟨hd, by simp, fun i x l hi hx hl => ?_⟩
  rw [List.getElem?_map, hx] at hl
  cases hl
  have := (hd.2.2.2 i x (List.getElem?_eq_some_iff.1 hx).1 hx).1.2.2.2
  exact inB_iff.2 ⟨Int.le_refl _, this.2.1⟩
/-- Where each promise has one length, what fits is strong. -/
theorem fits_strong {p : Pl} {ps : List Pr} (hd : DealOk p ps) (he : ∀ x ∈ ps, x.l = x.h) (hf : fits (planFor p ps (ps.map Pr.l)) = true) : strong p ps = true := by
  obtain ⟨y, hy⟩ := (fits_iff (planFor_ok (lows_ok hd))).1 hf
  obtain ⟨h1, h2⟩ := sol_append.1 hy
  refine (strong_sol hd).2 ⟨y, (sol_own y).2 fun b hb => ?_⟩
  refine own_back (n := p.n) hd.2.2.1 hd.2.2.2 b he (fun v => y v.toNat) (fun x hx => ?_) (h1 b hb)
  obtain ⟨i, hi, rfl⟩ := List.getElem_of_mem hx
  have hg := List.getElem?_eq_getElem hi
  have hin := forBs_in ps (ps.map Pr.l) i _ _ hg (by rw [List.getElem?_map, hg]; rfl)
  have e1 := h2 _ (hin ⟨_, _, _⟩ (by rw [pairOf]; exact List.mem_cons_self ..))
  have e2 := h2 _ (hin ⟨_, _, _⟩ (by rw [pairOf]; exact List.mem_cons_of_mem _ (List.mem_cons_self ..)))
  dsimp only at e1 e2
  omega
/-- With a shorter longest length it is strong, too. -/
theorem strong_less {p : Pl} {qs : List Pr} {x : Pr} {h' : Int} (hd : DealOk p (qs ++ [x])) (hd' : DealOk p (qs ++ [⟨x.f, x.t, x.l, h'⟩])) (hh : h' ≤ x.h) (hs : strong p (qs ++ [x]) = true) : strong p (qs ++ [⟨x.f, x.t, x.l, h'⟩]) = true := by
  obtain ⟨y, hy⟩ := (strong_sol hd).1 hs
  refine (strong_sol hd').2 ⟨y, (sol_own y).2 fun b hb => ?_⟩
  obtain ⟨e1, e2, e3⟩ := own_less' (h' := h') hd.2.2.1 hh b
  have := (sol_own y).1 hy b hb
  rw [e1, e2]
  omega
end Go.Proofs.Ytdijfkpccbkdfaa
