/-
  slices.Delete of one bound, out of a row of the call's own.
-/
import Derived.Test.YtjlaljnffmncpaaL11a
import Derived.Test.YtjlaljnffmncpaaP8
namespace Go.Proofs.Ytjlaljnffmncpaa
set_option linter.unusedVariables false
set_option linter.unusedSimpArgs false
open Go.RowKit Pp

theorem zeroB (w : World) : (zeroValue 41).run Try.prog w = .ok (.agg #[.int .i64 0, .int .i64 0, .int .i64 0]) w := by kernel_rfl

theorem clear_one (w : World) (ty : TypeId) (g o c : Nat) (hc : ∀ j, j < 3 → (w.cell? ⟨g, o + j, none⟩).isSome = true) (hf : ∀ j, j < 3 → w.frozen? ⟨g, o + j, none⟩ = false) :
    (Builtin.clear_ #[23] ty #[.slice (some ⟨g, o, none⟩) 1 c]).run Try.prog w = .ok (.tuple #[]) (w.setCells g o [.int .i64 0, .int .i64 0, .int .i64 0]) := by
  have hst := run_storeCells_cells (P := Try.prog) g o [.int .i64 0, .int .i64 0, .int .i64 0] 0 w (by simpa using hc) (by simpa using hf) (by simp [Value.oneCell'])
  simp only [Nat.add_zero] at hst
  have hz : (Builtin.zeroCells (Value.agg #[.int .i64 0, .int .i64 0, .int .i64 0]).cells 1).toList = [.int .i64 0, .int .i64 0, .int .i64 0] := by simp [Builtin.zeroCells, Value.cells, Array.range, Array.ofFn]; rfl
  simp [Builtin.clear_, run_underlying Try.underlying23, zeroB, hz, hst]

set_option maxHeartbeats 2000000 in
set_option maxRecDepth 100000 in
theorem delete_c (base k : Nat) (A : Option Addr) (c : Nat) (bs : List Bd) (w : World) (hown : OwnB base w (.slice A bs.length c) bs) (hk : k < bs.length) (hl : bs.length ≤ 2000000) :
    Calls Try.prog 149 #[.slice A bs.length c, .int .i64 k, .int .i64 ((k : Int) + 1)] w fun e w' => e = .returned (.slice A (bs.length - 1) c) ∧ OwnB base w' (.slice A (del bs k).length c) (del bs k) ∧ w.grownBy w' (Value.slice A bs.length c).ownBlock := by
  obtain ⟨i0, hi0, hz0, hz1, hz2⟩ := info_parts infoB
  obtain ⟨A1, g, c1, hv, h1, h2, h3⟩ := own_form hown
  injection hv with e1 _ e3
  subst e1; subst e3
  obtain rfl := h1 (by omega)
  obtain ⟨f, hf, hx, hb, hnc, hcm⟩ := own_row hown
  clear h1 h2 h3
  obtain ⟨n, hn⟩ : ∃ n, bs.length = n := ⟨_, rfl⟩
  have hdl := del_length hk
  have hde := del_eq bs k
  unfold maxLen at hcm
  have hlt1 : (bdCs (bs.take k)).length = k * 3 := by rw [bdCs_length]; simp; omega
  obtain ⟨news, hnews⟩ : ∃ news, news = bdCs (bs.drop (k + 1)) := ⟨_, rfl⟩
  have hlen : news.length = (n - (k + 1)) * 3 := by rw [hnews, bdCs_length]; simp; omega
  have hsplit : bdCs bs = bdCs (bs.take (k + 1)) ++ news := by rw [hnews, ← bdCs_append, List.take_append_drop]
  have hlt2 : (bdCs (bs.take (k + 1))).length = (k + 1) * 3 := by rw [bdCs_length]; simp; omega
  have hget : ∀ t, t < (n - (k + 1)) * 3 → news[t]? = some (f ((k + 1) * 3 + t)) := fun t ht => by
    rw [← hx _ (by omega), hsplit, List.getElem?_append_right (by omega), hlt2]
    congr 1; omega
  have hnewsD : Hid (bdCs (del bs k) = bdCs (bs.take k) ++ news) := by unfold Hid; rw [hde, bdCs_append, hnews]
  have htake : ∀ j, j < k * 3 → (bdCs (bs.take k))[j]? = some (f j) := fun j hj => by
    rw [← hx j (by omega)]
    have : bdCs bs = bdCs (bs.take k) ++ bdCs (bs.drop k) := by rw [← bdCs_append, List.take_append_drop]
    rw [this, List.getElem?_append_left (by omega)]
  rw [hn] at hx hnc hk hl hdl ⊢
  obtain ⟨A, hA, hsrc⟩ : ∃ A : Addr, (if c = k + 1 then some (⟨g, 0, none⟩ : Addr) else some ⟨g, (k + 1) * 3, none⟩) = some A ∧ Hid (∀ t u, news[t]? = some u → w.drew.cell? (A.add t) = some u) := by
    by_cases h : c = k + 1
    · refine ⟨⟨g, 0, none⟩, by simp [h], fun t u hu => ?_⟩
      have h0 : news.length = 0 := by rw [hlen]; omega
      rw [List.length_eq_zero_iff.1 h0] at hu
      simp at hu
    · refine ⟨⟨g, (k + 1) * 3, none⟩, by simp [h], fun t u hu => ?_⟩
      have ht : t < (n - (k + 1)) * 3 := by
        have := (List.getElem?_eq_some_iff.1 hu).1
        rwa [hlen] at this
      rw [hget t ht] at hu
      rw [add_zero_off]
      exact (hf.cell (by omega)).trans hu
  have s1 : Hid (news.length = (n - (k + 1)) * 3) := hlen
  have s2 : Hid (∀ u ∈ news, u.oneCell' = true) := by unfold Hid; rw [hnews]; exact bdCs_one _
  have s3 : Hid (∀ t, t < news.length → (w.drew.cell? ⟨g, 0 + k * 3 + t, none⟩).isSome = true ∧ w.drew.frozen? ⟨g, 0 + k * 3 + t, none⟩ = false) := by
    intro t ht
    rw [hlen] at ht
    exact ⟨by show (w.cell? _).isSome = true; rw [hf.cell (by omega)]; rfl, hf.frozen _⟩
  obtain ⟨W1, hW1⟩ : ∃ W1, W1 = w.drew.setCells g (0 + k * 3) news := ⟨_, rfl⟩
  have hr1 : W1.rowIs g 41 (c * 3) (fun j => if k * 3 ≤ j ∧ j < k * 3 + news.length then news[j - k * 3]?.getD default else f j) := by
    rw [hW1, Nat.zero_add]; exact rowIs_setCells news (k * 3) w.drew f hf.drew
  have hg1 : w.grownBy W1 (some g) := by rw [hW1]; exact grown_cells _ _ _ ⟨rfl, rfl, rfl, Nat.le_refl _, fun _ _ _ => rfl⟩
  have hcl : ∀ ty, (Builtin.clear_ #[23] ty #[.slice (some ⟨g, (n - 1) * 3, none⟩) (n - (n - 1)) (c - (n - 1))]).run Try.prog W1 = .ok (.tuple #[]) (W1.setCells g ((n - 1) * 3) [.int .i64 0, .int .i64 0, .int .i64 0]) :=
    fun ty => by rw [show n - (n - 1) = 1 by omega]; exact clear_one W1 ty g _ _ (fun j hj => by rw [hr1.cell (by omega)]; rfl) (fun j _ => hr1.frozen _)
  have hr2 := rowIs_setCells [.int .i64 0, .int .i64 0, .int .i64 0] ((n - 1) * 3) W1 _ hr1
  have hg2 : w.grownBy (W1.setCells g ((n - 1) * 3) [.int .i64 0, .int .i64 0, .int .i64 0]) (some g) := grown_cells _ _ _ hg1
  have hfin : Hid (OwnB base (W1.setCells g ((n - 1) * 3) [.int .i64 0, .int .i64 0, .int .i64 0]) (.slice (some ⟨g, 0, none⟩) (del bs k).length c) (del bs k)) := by
    refine row_own hr2 (fun j hj => ?_) (by rw [bdCs_length]) hb (by omega) (by unfold maxLen; omega)
    rw [hdl] at hj
    rw [hnewsD.out, if_neg (by simp; omega)]
    by_cases hj1 : j < k * 3
    · rw [if_neg (by omega), List.getElem?_append_left (by omega), htake j hj1]
    · rw [if_pos (by omega), List.getElem?_append_right (by omega), hlt1, List.getElem?_eq_getElem (by omega)]; rfl
  have hW : Hid (W1 = w.drew.setCells g (0 + k * 3) news) := hW1
  have hG := hide hg2
  have hic : k ≤ c := by omega
  have hjc : k + 1 ≤ c := by omega
  have hne : ¬ (k : Int) = (k : Int) + 1 := by omega
  have i1 : (0 : Int) ≤ (k : Int) + 1 := by omega
  have i2 : (k : Int) + 1 ≤ (n : Int) := by omega
  have hn' : Hid (bs.length = n) := hn
  clear hn hW1 hr1 hr2 hg1 hg2 hget hnews hlen hsplit hlt1 hlt2 htake hx hf hown hnewsD hde hdl
  go_enter Try.func149, Try.ntmps149
  go_wp2_with fail
  go_region_law (refine step_append_room rfl (.tmp 22) (.tmp 25) 23 rfl 41 i0 3 Try.underlying23 hi0 hz1 g 0 k c (by simp [Act.eval, Act.put]) A (n - (k + 1)) (c - (k + 1)) news (by simp [Act.eval, Act.put]) s1.out hsrc.out s2.out (by omega) s3.out ?_; rw [← hW.out])
  have hcl2 : ((k + (n - (k + 1)) : Nat) : Int) = (n : Int) - 1 := by omega
  go_wp2
  go_ret
  exact ⟨by rw [show k + (n - (k + 1)) = n - 1 by omega]; rfl, hfin.out, hG.out⟩
end Go.Proofs.Ytjlaljnffmncpaa
