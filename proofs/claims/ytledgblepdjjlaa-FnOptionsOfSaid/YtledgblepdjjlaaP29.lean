/-
  The laws of ways, plain: options are enough.
-/
import Derived.Test.YtledgblepdjjlaaP27
namespace Go.Proofs.Ytledgblepdjjlaa.Pp

theorem allB_nodup (cs : List (List Bd)) : ∀ m, (allB cs m).Nodup
  | 0 => by simp [allB]
  | m + 1 => by
    unfold allB
    have ih := allB_nodup cs m
    refine List.pairwise_flatMap.2 ⟨fun ks _ => ?_, ?_⟩
    · rw [List.pairwise_map]
      refine List.Pairwise.imp ?_ (List.nodup_range (n := (cs.getD m []).length))
      intro a b h e
      have := List.append_cancel_left e
      simp at this
      exact h (by omega)
    · refine List.Pairwise.imp ?_ ih
      intro a b h x hx y hy e
      rw [List.mem_map] at hx hy
      obtain ⟨i, _, rfl⟩ := hx
      obtain ⟨j, _, rfl⟩ := hy
      have := List.append_inj e (by
        have := congrArg List.length e
        simp at this; exact this)
      exact h this.1
theorem ways_nodup (p : Pl) (cs : List (List Bd)) : (ways p cs).Nodup := by
  cases hc : caseOk p cs
  · unfold ways; rw [hc]; simp
  · rw [ways_allB hc]; exact (allB_nodup cs cs.length).filter _
theorem picked_set : ∀ {cs : List (List Bd)} {ks : List Int} {ch : Nat} {l l' : List Bd} {k k' : Int}, cs[ch]? = some l → ks[ch]? = some k → pickAt l' k = pickAt l k' → picked (cs.set ch l') ks = picked cs (ks.set ch k')
  | [], ks, ch, l, l', k, k', h, _, _ => by simp at h
  | l0 :: cs, [], ch, l, l', k, k', _, h, _ => by simp at h
  | l0 :: cs, k0 :: ks, 0, l, l', k, k', h1, h2, h3 => by simp at h1 h2; subst h1; subst h2; simp [picked, h3]
  | l0 :: cs, k0 :: ks, ch + 1, l, l', k, k', h1, h2, h3 => by
    simp only [List.set_cons_succ, picked]
    rw [picked_set (l := l) (by simpa using h1) (by simpa using h2) h3]
section
variable {n : Int} {bs : List Bd} {cs : List (List Bd)} {ch : Nat} {l : List Bd} {L : List Int}
theorem opt_facts (hc : caseOk ⟨n, bs⟩ cs = true) (hl : cs[ch]? = some l) (hL : optionsOf ⟨n, bs⟩ cs (ch : Int) = L) :
    L.length ≤ l.length ∧ L.Nodup ∧ (∀ v, v ∈ L ↔ ∃ ks ∈ ways ⟨n, bs⟩ cs, ks.getD ch 0 = v) ∧ (∀ v ∈ L, 0 ≤ v ∧ v ≤ (l.length : Int) - 1) ∧ ∀ j, 1 ≤ j → j < L.length → L.getD (j - 1) 0 < L.getD j 0 := by
  have hcl := (List.getElem?_eq_some_iff.1 hl).1
  have hi : inB (ch : Int) 0 ((cs.length : Int) - 1) = true := inB_iff.2 ⟨by omega, by omega⟩
  have e := options_eq hc hi hl
  have hmem : ∀ v, v ∈ L ↔ ∃ ks ∈ ways ⟨n, bs⟩ cs, ks.getD ch 0 = v := by
    intro v
    rw [← hL]
    unfold optionsOf
    rw [hc, hi, Bool.and_self, if_pos rfl, List.mem_mergeSort, Int.toNat_natCast]
    exact optL_mem
  have hp : L.Pairwise (fun a b => a < b) := by
    rw [← hL, e]
    unfold outS
    rw [List.pairwise_map]
    refine List.Pairwise.imp ?_ (List.Pairwise.filter _ (List.pairwise_lt_range (n := l.length)))
    intro a b h; omega
  refine ⟨by rw [← hL, e]; exact outS_len _ _ _ _, hp.imp (fun h => by omega), hmem, fun v hv => ?_, fun j h1 h2 => ?_⟩
  · obtain ⟨ks, hks, rfl⟩ := (hmem v).1 hv
    obtain ⟨_, hk, _⟩ := ways_mem hks
    obtain ⟨a, b⟩ := picksOk_iff.1 hk
    have hk2 := List.getElem?_eq_getElem (show ch < ks.length by omega)
    have := b ch l _ hl hk2
    rw [List.getD_eq_getElem?_getD, hk2]
    exact this
  · have := List.pairwise_iff_getElem.1 hp (j - 1) j (by omega) h2 (by omega)
    rw [List.getD_eq_getElem?_getD, List.getD_eq_getElem?_getD, List.getElem?_eq_getElem h2, List.getElem?_eq_getElem (show j - 1 < L.length by omega)]
    exact this
/-- The places of the bounds, of those that are options. -/
def toOld (L : List Int) (ch : Nat) (ks : List Int) : List Int := ks.set ch (L.getD (ks.getD ch 0).toNat 0)
theorem opt_count (hc : caseOk ⟨n, bs⟩ cs = true) (hl : cs[ch]? = some l) (hL : optionsOf ⟨n, bs⟩ cs (ch : Int) = L) (h0 : 0 < L.length) :
    countW ⟨n, bs⟩ (cs.set ch (L.map (pickAt l))) = countW ⟨n, bs⟩ cs ∧ 0 < countW ⟨n, bs⟩ cs := by
  have hcl := (List.getElem?_eq_some_iff.1 hl).1
  obtain ⟨f1, f2, f3, f4, _⟩ := opt_facts hc hl hL
  obtain ⟨c1, c2, c3, c4⟩ := caseOk_iff.1 hc
  have hlok := listOk_iff.1 (c4 l (List.mem_of_getElem? hl))
  obtain ⟨cs', hcs'⟩ : ∃ cs', cs.set ch (L.map (pickAt l)) = cs' := ⟨_, rfl⟩
  have hlen' : cs'.length = cs.length := by rw [← hcs', List.length_set]
  have hsame : cs'[ch]? = some (L.map (pickAt l)) := by rw [← hcs', List.getElem?_set_self hcl]
  have hoth : ∀ i, i ≠ ch → cs'[i]? = cs[i]? := fun i hi => by rw [← hcs', List.getElem?_set_ne (fun e => hi e.symm)]
  have hc' : caseOk ⟨n, bs⟩ cs' = true := caseOk_iff.2 ⟨c1, c2, by omega, fun x hx => by
    rw [← hcs'] at hx
    rcases List.mem_or_eq_of_mem_set hx with h | rfl
    · exact c4 x h
    · refine listOk_iff.2 ⟨by rw [List.length_map]; omega, fun b hb => ?_⟩
      obtain ⟨v, hv, rfl⟩ := List.mem_map.1 hb
      exact hlok.2 _ (List.mem_of_getElem? (pickAt_get (f4 v hv)))⟩
  have hpk : ∀ k : Nat, k < L.length → pickAt (L.map (pickAt l)) (k : Int) = pickAt l (L.getD k 0) := by
    intro k hk
    conv => lhs; unfold pickAt
    rw [List.getD_eq_getElem?_getD, Int.toNat_natCast, List.getElem?_map, List.getElem?_eq_getElem hk, List.getD_eq_getElem?_getD, List.getElem?_eq_getElem hk]
    rfl
  have hin : ∀ ks, ks ∈ ways ⟨n, bs⟩ cs' → ∃ k : Nat, k < L.length ∧ ks.length = cs.length ∧ ks[ch]? = some (k : Int) ∧ toOld L ch ks = ks.set ch (L.getD k 0) ∧ toOld L ch ks ∈ ways ⟨n, bs⟩ cs := by
    intro ks hks
    obtain ⟨_, h2, h3⟩ := ways_mem hks
    obtain ⟨a1, a2⟩ := picksOk_iff.1 h2
    have hkc := List.getElem?_eq_getElem (show ch < ks.length by omega)
    have hb := a2 ch _ _ hsame hkc
    rw [List.length_map] at hb
    obtain ⟨k, hk⟩ : ∃ k : Nat, ks[ch]'(by omega) = (k : Int) := ⟨(ks[ch]'(by omega)).toNat, by omega⟩
    rw [hk] at hkc hb
    have hkl : k < L.length := by omega
    have et : toOld L ch ks = ks.set ch (L.getD k 0) := by
      unfold toOld
      rw [List.getD_eq_getElem?_getD (l := ks), hkc]
      rfl
    refine ⟨k, hkl, by omega, hkc, et, ?_⟩
    rw [et]
    have hLk : L.getD k 0 ∈ L := by rw [List.getD_eq_getElem?_getD, List.getElem?_eq_getElem hkl]; exact List.getElem_mem hkl
    refine ways_iff.2 ⟨hc, picksOk_iff.2 ⟨by rw [List.length_set]; omega, fun i l2 k2 hi hk2 => ?_⟩, ?_⟩
    · by_cases e : i = ch
      · subst e
        rw [hl] at hi; cases hi
        rw [List.getElem?_set_self (by omega)] at hk2; cases hk2
        exact f4 _ hLk
      · rw [List.getElem?_set_ne (fun h => e h.symm)] at hk2
        exact a2 i l2 k2 (by rw [hoth i e]; exact hi) hk2
    · unfold fitsW wayP at h3 ⊢
      rw [← picked_set hl hkc (hpk k hkl), hcs']
      exact h3
  have key : ((ways ⟨n, bs⟩ cs').map (toOld L ch)).Perm (ways ⟨n, bs⟩ cs) := by
    refine (List.perm_ext_iff_of_nodup ?_ (ways_nodup _ _)).2 fun xs => ?_
    · unfold List.Nodup
      rw [List.pairwise_map]
      refine List.Pairwise.imp_of_mem ?_ (ways_nodup ⟨n, bs⟩ cs')
      intro a b ha hb hne e
      obtain ⟨k, hk, hla, hka, ea, _⟩ := hin a ha
      obtain ⟨j, hj, hlb, hkb, eb, _⟩ := hin b hb
      rw [ea, eb] at e
      have e1 : L.getD k 0 = L.getD j 0 := by
        have := congrArg (fun z => z[ch]?) e
        (try simp only at this)
        rw [List.getElem?_set_self (by omega), List.getElem?_set_self (by omega)] at this
        exact Option.some.inj this
      have e2 : k = j := by
        rw [List.getD_eq_getElem?_getD, List.getElem?_eq_getElem hk, List.getD_eq_getElem?_getD, List.getElem?_eq_getElem hj] at e1
        exact (List.getElem_inj f2).1 e1
      subst e2
      refine hne (List.ext_getElem? fun i => ?_)
      by_cases ei : i = ch
      · subst ei; rw [hka, hkb]
      · have := congrArg (fun z => z[i]?) e
        (try simp only at this)
        rwa [List.getElem?_set_ne (fun h => ei h.symm), List.getElem?_set_ne (fun h => ei h.symm)] at this
    · constructor
      · intro h
        obtain ⟨ks, hks, rfl⟩ := List.mem_map.1 h
        obtain ⟨_, _, _, _, _, h5⟩ := hin ks hks
        exact h5
      · intro hx
        obtain ⟨_, h2, h3⟩ := ways_mem hx
        obtain ⟨a1, a2⟩ := picksOk_iff.1 h2
        have hkc := List.getElem?_eq_getElem (show ch < xs.length by omega)
        have hv : xs[ch]'(by omega) ∈ L := (f3 _).2 ⟨xs, hx, by rw [List.getD_eq_getElem?_getD, hkc]; rfl⟩
        obtain ⟨j, hj, ej⟩ := List.getElem_of_mem hv
        have eD : L.getD j 0 = xs[ch]'(by omega) := by rw [List.getD_eq_getElem?_getD, List.getElem?_eq_getElem hj]; exact ej
        have hback : (xs.set ch (j : Int)).set ch (L.getD j 0) = xs := by
          rw [List.set_set, eD, List.set_getElem_self]
        have hsc : (xs.set ch (j : Int))[ch]? = some (j : Int) := List.getElem?_set_self (by omega)
        refine List.mem_map.2 ⟨xs.set ch (j : Int), ways_iff.2 ⟨hc', picksOk_iff.2 ⟨by rw [List.length_set]; omega, fun i l2 k2 hi hk2 => ?_⟩, ?_⟩, ?_⟩
        · by_cases e : i = ch
          · subst e
            rw [hsame] at hi; cases hi
            rw [hsc] at hk2; cases hk2
            rw [List.length_map]; omega
          · rw [List.getElem?_set_ne (fun h => e h.symm)] at hk2
            exact a2 i l2 k2 (by rw [← hoth i e]; exact hi) hk2
        · unfold fitsW wayP at h3 ⊢
          rw [← hcs', picked_set hl hsc (hpk j hj), hback]
          exact h3
        · unfold toOld
          rw [List.getD_eq_getElem?_getD (l := xs.set ch (j : Int)), hsc]
          exact hback
  have hcnt := key.length_eq
  rw [List.length_map] at hcnt
  rw [hcs', countW_yes hc', countW_yes hc, hcnt]
  refine ⟨rfl, ?_⟩
  have hx : L.getD 0 0 ∈ L := by rw [List.getD_eq_getElem?_getD, List.getElem?_eq_getElem h0]; exact List.getElem_mem h0
  obtain ⟨ks, hks, _⟩ := (f3 _).1 hx
  have := List.length_pos_of_mem hks
  omega
theorem opt_none (hc : caseOk ⟨n, bs⟩ cs = true) (hl : cs[ch]? = some l) (hL : optionsOf ⟨n, bs⟩ cs (ch : Int) = []) : countW ⟨n, bs⟩ cs = 0 := by
  obtain ⟨_, _, f3, _⟩ := opt_facts hc hl hL
  rw [countW_yes hc]
  cases h : ways ⟨n, bs⟩ cs with
  | nil => rfl
  | cons x xs =>
    have := (f3 (x.getD ch 0)).2 ⟨x, by rw [h]; exact List.mem_cons_self .., rfl⟩
    simp at this
end
theorem options_no {p : Pl} {cs : List (List Bd)} {v : Int} (h : caseOk p cs = false ∨ ¬ (0 ≤ v ∧ v < cs.length)) : optionsOf p cs v = [] := by
  unfold optionsOf
  rw [if_neg]
  rw [Bool.and_eq_true, inB_iff]
  rintro ⟨h1, h2⟩
  rcases h with h | h
  · rw [h] at h1; cases h1
  · exact h ⟨by omega, by omega⟩
end Go.Proofs.Ytledgblepdjjlaa.Pp
