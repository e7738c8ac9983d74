/-
  The laws of ways, plain: the least span, the first way.
-/
import Derived.Test.YtledgblepdjjlaaP24
import Derived.Test.YtledgblepdjjlaaP2
namespace Go.Proofs.Ytledgblepdjjlaa.Pp

theorem span_fold (L : List Int → Int × Bool) : ∀ (xs : List (List Int)) (a : Int × Bool),
    (a.2 = true → (xs.foldl (fun a ks => spanAcc a (L ks).1) a).1 ≤ a.1) ∧ (∀ k ∈ xs, (xs.foldl (fun a ks => spanAcc a (L ks).1) a).1 ≤ (L k).1) ∧ (xs.foldl (fun a ks => spanAcc a (L ks).1) a = a ∨ ∃ k ∈ xs, (xs.foldl (fun a ks => spanAcc a (L ks).1) a).1 = (L k).1)
  | [], a => ⟨fun _ => Int.le_refl _, by simp, .inl rfl⟩
  | x :: xs, a => by
    obtain ⟨h1, h2, h3⟩ := span_fold L xs (spanAcc a (L x).1)
    have hs : (spanAcc a (L x).1).2 = true ∧ (spanAcc a (L x).1).1 ≤ (L x).1 ∧ (a.2 = true → (spanAcc a (L x).1).1 ≤ a.1) ∧ (spanAcc a (L x).1 = a ∨ (spanAcc a (L x).1).1 = (L x).1) := by
      unfold spanAcc
      split
      · rename_i h
        refine ⟨rfl, Int.le_refl _, fun ha => ?_, .inr rfl⟩
        rcases h with h | h
        · rw [ha] at h; cases h
        · exact Int.le_of_lt h
      · rename_i h
        have h0 : a.2 = true := by
          cases e : a.2
          · exact (h (.inl e)).elim
          · rfl
        exact ⟨h0, by
          have : ¬ (L x).1 < a.1 := fun e => h (.inr e)
          omega, fun _ => Int.le_refl _, .inl rfl⟩
    obtain ⟨s1, s2, s3, s4⟩ := hs
    simp only [List.foldl_cons]
    refine ⟨fun ha => Int.le_trans (h1 s1) (s3 ha), fun k hk => ?_, ?_⟩
    · rcases List.mem_cons.1 hk with rfl | hk
      · exact Int.le_trans (h1 s1) s2
      · exact h2 k hk
    · rcases h3 with h3 | ⟨k, hk, h3⟩
      · rcases s4 with s4 | s4
        · exact .inl (h3.trans s4)
        · exact .inr ⟨x, List.mem_cons_self .., by rw [h3]; exact s4⟩
      · exact .inr ⟨k, List.mem_cons_of_mem _ hk, h3⟩

theorem span_law {p : Pl} {cs : List (List Bd)} {f t q : Int} (h : leastSpan p cs f t = (q, true)) :
    ∃ ks m, firstW p cs = (ks, true) ∧ wayOf p cs ks = (wayP p cs ks, true) ∧ leastOf (wayP p cs ks) f t = (m, true) ∧ q ≤ m ∧ (f = t → q = 0) := by
  unfold leastSpan at h
  cases hw : ways p cs with
  | nil => rw [hw] at h; simp [leastW, spanW] at h
  | cons x xs =>
    have hx : x ∈ ways p cs := by rw [hw]; exact List.mem_cons_self ..
    obtain ⟨hc, hk, hf⟩ := ways_mem hx
    have hall : ∀ ks ∈ ways p cs, (leastOf (wayP p cs ks) f t).2 = true := by
      intro ks hks
      cases e : (leastOf (wayP p cs ks) f t).2
      · rw [leastW_bad hks e] at h; cases h
      · rfl
    rw [leastW_good hall] at h
    obtain ⟨_, h2, h3⟩ := span_fold (fun ks => leastOf (wayP p cs ks) f t) (ways p cs) (0, false)
    have he : (ways p cs).foldl (fun a ks => spanAcc a (leastOf (wayP p cs ks) f t).1) (0, false) = (q, true) := h
    rw [he] at h2 h3
    refine ⟨x, (leastOf (wayP p cs x) f t).1, ?_, ?_, ?_, h2 x hx, fun e => ?_⟩
    · unfold firstW; rw [hw]; rfl
    · unfold wayOf; rw [hc, hk]; rfl
    · exact Prod.ext rfl (hall x hx)
    · subst e
      rcases h3 with h3 | ⟨ks, hks, h3⟩
      · cases h3
      · have hfk := (ways_mem hks).2.2
        have hl := hall ks hks
        unfold leastOf mostOf at h3 hl
        dsimp only at h3 hl
        split at h3
        · rename_i hb
          simp only [Bool.and_eq_true, decide_eq_true_eq] at hb
          have hi := inB_iff.1 hb.1.1.2
          have hd := (fit_of hb.1.1.1).diag f.toNat (by unfold nn; omega)
          rw [hd] at h3
          omega
        · omega
theorem span_true (L : List Int → Int × Bool) : ∀ (xs : List (List Int)) (a : Int × Bool), a.2 = true → (xs.foldl (fun a ks => spanAcc a (L ks).1) a).2 = true
  | [], _, h => h
  | x :: xs, a, h => by
    simp only [List.foldl_cons]
    refine span_true L xs _ ?_
    unfold spanAcc
    split
    · rfl
    · exact h
theorem span_none {p : Pl} {cs : List (List Bd)} {f t q : Int} (h : leastSpan p cs f t = (q, false)) : q = 0 := by
  unfold leastSpan leastW at h
  split at h
  · cases hw : ways p cs with
    | nil => rw [hw] at h; simp [spanW] at h; exact h.symm
    | cons x xs =>
      rw [hw] at h
      have h1 := span_true (fun ks => leastOf (wayP p cs ks) f t) xs (spanAcc (0, false) (leastOf (wayP p cs x) f t).1) (by unfold spanAcc; rw [if_pos (.inl rfl)])
      have h2 : (spanW (fun ks => leastOf (wayP p cs ks) f t) (x :: xs)).2 = true := by unfold spanW; simpa only [List.foldl_cons] using h1
      rw [h] at h2
      cases h2
  · exact (Prod.mk.inj h).1.symm
end Go.Proofs.Ytledgblepdjjlaa.Pp
