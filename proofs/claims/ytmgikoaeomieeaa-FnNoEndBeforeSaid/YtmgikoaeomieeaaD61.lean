/-
  The draws of the reference: a shuffled order.
-/
import Derived.Test.YtmgikoaeomieeaaR63
import Derived.Test.YtmgikoaeomieeaaI3
import Derived.Test.YtmgikoaeomieeaaL11a
import Derived.Deep.CutBlock
namespace Go.Proofs.Ytmgikoaeomieeaa
set_option linter.unusedVariables false
set_option linter.unusedSimpArgs false
open Go.RowKit Pp

theorem IntsR.takeK {w : World} {B b o : Nat} {A : Option Addr} {xs : List Int} (h : IntsR w B b o A xs) (k : Nat) (hk : k ≤ xs.length) : IntsR w B b o A (xs.take k) := by
  have hl : (xs.take k).length = k := by rw [List.length_take]; omega
  refine ⟨fun hx => h.addr (by omega), fun hx => h.lt (by omega), fun j hj => ?_⟩
  rw [h.cell j (by omega)]
  rw [List.getD_eq_getElem?_getD, List.getD_eq_getElem?_getD, List.getElem?_take, if_pos (by omega)]
theorem IntsR.dropK {w : World} {B b o : Nat} {A : Option Addr} {xs : List Int} (h : IntsR w B b o A xs) (k : Nat) : IntsR w B b (o + k) (some ⟨b, o + k, none⟩) (xs.drop k) := by
  have hl : (xs.drop k).length = xs.length - k := List.length_drop
  refine ⟨fun hx => rfl, fun hx => h.lt (by omega), fun j hj => ?_⟩
  rw [Nat.add_assoc, h.cell (k + j) (by omega)]
  rw [List.getD_eq_getElem?_getD, List.getD_eq_getElem?_getD, List.getElem?_drop]

set_option maxHeartbeats 4000000 in
set_option maxRecDepth 100000 in
theorem shuffle_c (g many : Nat) (K : Int) (w : World) (hK : 0 ≤ K ∧ K ≤ 1000000) (hm : many ≤ 20) (hR : RdO w g K) :
    Calls Try.prog 64 #[.pointer (some ⟨g, 0, none⟩), .int .i64 (many : Int)] w fun e w' =>
      ∃ A c xs, e = .returned (.slice A xs.length c) ∧ xs.length = many ∧ xs.length ≤ c ∧ OwnI w.heap.size w' (.slice A xs.length c) xs ∧ RdO w' g (K + 20) ∧ w.grownBy w' (some g) := by
  obtain ⟨hK0, hK1⟩ := hK
  have hg := hR.lt
  obtain ⟨i0, hi0, hz0, hz1, hz2⟩ := info_parts infoI
  have hQ0 : LQ w (w.alloc (.cells #[] 3)) g K (.slice (some ⟨w.heap.size, 0, none⟩) 0 0) [] := ⟨hR.alloc _, gr_new w _ _, hg, own_empty (at_new rfl) (Nat.le_refl _)⟩
  clear hR
  go_enter Try.func64, Try.ntmps64
  go_wp2_with fail
  generalize w.alloc (.cells #[] 3) = w1 at hQ0 ⊢
  go_loopg [5, 6] many (fun gh s5 s6 wr => ∃ (k b c : Nat) (xs : List Int), k ≤ many ∧ gh = many - k ∧ s6 = .int .i64 k ∧ s5 = .slice (some ⟨b, 0, none⟩) k c ∧ Hid (xs.length = k) ∧ LQ w wr g (K + (k : Int)) (.slice (some ⟨b, 0, none⟩) k c) xs)
  case atStart => exact ⟨0, w.heap.size, 0, [], Nat.zero_le _, rfl, rfl, rfl, rfl, hQ0.more (by simp)⟩
  case round =>
    clear hQ0
    obtain ⟨k, b, c, xs, hk, rfl, rfl, rfl, Hxl, hQ⟩ := hrel
    by_cases hlt : k < many
    · have hlt' : (k : Int) < (many : Int) := by omega
      have hgw := hQ.gl
      go_upto_region 6 with (go_at_call 44; go_fit (pick_c g _ ((k : Int) + 1) _ (by omega) (by omega) hQ.rd); rintro e w2 ⟨v, rfl, a1, a2, -, hR2, G2, -⟩; replace a2 := a2 (by omega))
      have hQ2 := hQ.pick hR2 G2
      obtain ⟨a, rfl⟩ := Int.eq_ofNat_of_zero_le a1
      have hak : a ≤ k := by omega
      clear hQ hR2 G2 a1
      have hown2 := hQ2.own
      have hbw : w.heap.size ≤ b ∧ b < w2.heap.size := hown2.lt b rfl
      obtain ⟨-, -, -, -, hkc, hcm⟩ := own_row (show w2.ownsRow w.heap.size 3 1 (.slice (some ⟨b, 0, none⟩) k c) k (xs.map (Value.int .i64)) by have := hown2; unfold OwnI at this; rw [Hxl.out] at this; exact this)
      unfold maxLen at hcm
      have hxa : (xs.take a).length = a := by rw [List.length_take, Hxl.out]; omega
      have hxd : (xs.drop a).length = k - a := by rw [List.length_drop, Hxl.out]
      have Hxa := hide hxa
      have Hxd := hide hxd
      clear hxa hxd
      have haz : (0 : Int) ≤ (a : Int) := by omega
      have hac : (a : Int) ≤ (c : Int) := by omega
      have hakz : (a : Int) ≤ (k : Int) := by omega
      have hcz : (c : Int) ≤ 9223372036854775807 := by omega
      have hE3 : LQ w (w2.alloc (.cells #[] 3)) g (K + (k : Int) + 1) (.slice (some ⟨w2.heap.size, 0, none⟩) 0 0) [] := ⟨hQ2.rd.alloc _, gr_alloc hQ2.gr _, hQ2.gl, own_empty (at_new rfl) hQ2.gr.size⟩
      have hX3 : OwnI w.heap.size (w2.alloc (.cells #[] 3)) (.slice (some ⟨b, 0, none⟩) k c) xs := hown2.alloc _
      have hN3 : NewsAt (w2.alloc (.cells #[] 3)) (some ⟨b, 0, none⟩) a ((xs.take a).map (Value.int .i64)) := by
        have h1 : OwnI w.heap.size (w2.alloc (.cells #[] 3)) (.slice (some ⟨b, 0, none⟩) xs.length c) xs := by rw [Hxl.out]; exact hX3
        obtain ⟨gb, hr⟩ := own_IntsR h1
        have := (hr.takeK a (by rw [Hxl.out]; exact hak)).news
        rw [Hxa.out] at this
        intro hm
        obtain ⟨ad, e, hc⟩ := this hm
        exact ⟨ad, e, hc⟩
      have hsz3 := hE3.gr.size
      go_upto_region 7 with (at_builtin; refine app_list _ rfl (.tmp 19) (.tmp 22) _ rfl w.heap.size 3 i0 _ 1 8 Try.underlying23 hi0 hz0 hz1 hz2 rfl (by omega) (.slice (some ⟨w2.heap.size, 0, none⟩) 0 0) 0 [] rfl hE3.own (some ⟨b, 0, none⟩) a c ((xs.take a).map (Value.int .i64)) rfl (by rw [List.length_map, Hxa.out]; omega) hN3 (ints_one _) (by omega) (by omega) hsz3 ?_; intro A4 c4 w4 hown4 hg4 hat4)
      simp only [Nat.zero_add, List.nil_append] at hown4 hat4 ⊢
      have hO4 : OwnI w.heap.size w4 (.slice A4 a c4) (xs.take a) := by unfold OwnI; rw [Hxa.out]; exact hown4
      have hQ4 := hE3.app hg4 hO4
      have hX4 : OwnI w.heap.size w4 (.slice (some ⟨b, 0, none⟩) k c) xs := hX3.kept hg4 (.inr (by simp [Value.ownBlock]; omega))
      have hlo4 : ∀ q, (Value.slice A4 a c4).ownBlock = some q → w2.heap.size ≤ q := fun q hq => by
        rcases hat4 with e | e <;> rw [e] at hq <;> simp [Value.ownBlock] at hq <;> omega
      have hs4 : w2.heap.size ≤ w4.heap.size := by have := hg4.size; simp at this; omega
      clear hE3 hX3 hN3 hg4 hown4 hat4 hsz3 hQ2 hown2
      have hQ5 := hQ4.below (show Below w4.heap.size w4 (w4.alloc (.cells #[.int .i64 (k : Int)] 3)) by go_grown)
      have hX5 : OwnI w.heap.size (w4.alloc (.cells #[.int .i64 (k : Int)] 3)) (.slice (some ⟨b, 0, none⟩) k c) xs := hX4.alloc _
      have hO5 : (w4.alloc (.cells #[.int .i64 (k : Int)] 3)).ownsRow w.heap.size 3 1 (.slice A4 a c4) a ((xs.take a).map (Value.int .i64)) := by have := hQ5.own; unfold OwnI at this; rw [Hxa.out] at this; exact this
      have hsz5 := hQ5.gr.size
      go_upto_region 8 with (at_builtin; refine app_list _ rfl (.tmp 24) (.tmp 26) _ rfl w.heap.size 3 i0 _ 1 8 Try.underlying23 hi0 hz0 hz1 hz2 rfl (by omega) (.slice A4 a c4) a ((xs.take a).map (Value.int .i64)) rfl hO5 _ 1 _ [.int .i64 (k : Int)] rfl rfl (NewsAt.block (cs := #[.int .i64 (k : Int)]) (at_new rfl)) (by simp [Value.oneCell']) (by omega) (by omega) hsz5 ?_; intro A6 c6 w6 hown6 hg6 hat6)
      have hyl : (xs.take a ++ [(k : Int)]).length = a + 1 := by rw [List.length_append, Hxa.out]; rfl
      have hO6 : OwnI w.heap.size w6 (.slice A6 (a + 1) c6) (xs.take a ++ [(k : Int)]) := by unfold OwnI; rw [hyl, List.map_append]; exact hown6
      have hQ6 := hQ5.app hg6 hO6
      have hX6 : OwnI w.heap.size w6 (.slice (some ⟨b, 0, none⟩) k c) xs := hX5.kept hg6 (.inr (fun e => by have := hlo4 b (by rw [← e]; rfl); omega))
      have hs6 : w2.heap.size ≤ w6.heap.size := by have := hg6.size; simp at this; omega
      have Hyl := hide hyl
      clear hQ4 hQ5 hX4 hX5 hO4 hO5 hg6 hown6 hat6 hsz5 hlo4 hyl
      obtain ⟨ys, hys⟩ : ∃ ys, xs.take a ++ [(k : Int)] = ys := ⟨_, rfl⟩
      rw [hys] at hO6 hQ6 Hyl
      clear hys
      have hO7 : w6.ownsRow w.heap.size 3 1 (.slice A6 (a + 1) c6) (a + 1) (ys.map (Value.int .i64)) := by have := hO6; unfold OwnI at this; rw [Hyl.out] at this; exact this
      have hsz6 := hQ6.gr.size
      obtain ⟨gb, hr⟩ := own_IntsR (show OwnI w.heap.size w6 (.slice (some ⟨b, 0, none⟩) xs.length c) xs by rw [Hxl.out]; exact hX6)
      by_cases hca : c = a
      · subst hca
        have hke : c = k := by omega
        subst hke
        clear hac
        go_upto_region 4 with (at_builtin; refine app_list _ rfl (.tmp 28) (.tmp 31) _ rfl w.heap.size 3 i0 _ 1 8 Try.underlying23 hi0 hz0 hz1 hz2 rfl (by omega) (.slice A6 (c + 1) c6) (c + 1) (ys.map (Value.int .i64)) rfl hO7 _ 0 _ [] rfl rfl (fun h => absurd h (by omega)) (by simp) (by omega) (by omega) hsz6 ?_; intro A8 c8 w8 hown8 hg8 hat8)
        simp only [Nat.add_zero, List.append_nil] at hown8 hat8 ⊢
        have hO8 : OwnI w.heap.size w8 (.slice A8 ys.length c8) ys := by unfold OwnI; rw [Hyl.out]; exact hown8
        have hQ8 := hQ6.app hg8 hO8
        obtain ⟨b8, hr8⟩ := own_IntsR hO8
        have hA8 := hr8.addr (by rw [Hyl.out]; omega)
        subst hA8
        rw [Hyl.out] at hQ8
        clear hQ6 hX6 hO6 hO7 hg8 hown8 hat8 hsz6 hO8 hr8 hr
        go_wp2_with fail
        go_roundg (many - (c + 1))
        case measure => go_light; omega
        case rel =>
          exact ⟨c + 1, b8, c8, ys, by omega, rfl, congrArg (Value.int .i64) (by omega), rfl, Hyl, hQ8.more (by omega)⟩
      · have hN7 : NewsAt w6 (some ⟨b, a, none⟩) (k - a) ((xs.drop a).map (Value.int .i64)) := by
          have := (hr.dropK a).news
          rw [Hxd.out] at this
          intro hm
          obtain ⟨ad, e, hc⟩ := this hm
          have e1 := hr.addr (by rw [Hxl.out]; omega)
          injection e1 with e1
          injection e1 with e1
          subst e1
          exact ⟨ad, by rw [← e, Nat.zero_add], hc⟩
        have hdl : ((xs.drop a).map (Value.int .i64)).length = (k - a) * 1 := by rw [List.length_map, Hxd.out, Nat.mul_one]
        clear hr
        go_upto_region 4 with (at_builtin; refine app_list _ rfl (.tmp 28) (.tmp 31) _ rfl w.heap.size 3 i0 _ 1 8 Try.underlying23 hi0 hz0 hz1 hz2 rfl (by omega) (.slice A6 (a + 1) c6) (a + 1) (ys.map (Value.int .i64)) rfl hO7 (some ⟨b, a, none⟩) (k - a) (c - a) ((xs.drop a).map (Value.int .i64)) rfl hdl hN7 (ints_one _) (by omega) (by omega) hsz6 ?_; intro A8 c8 w8 hown8 hg8 hat8)
        have hzl : (ys ++ xs.drop a).length = k + 1 := by rw [List.length_append, Hyl.out, Hxd.out]; omega
        have hka : a + 1 + (k - a) = k + 1 := by omega
        rw [hka] at hown8
        have hO8 : OwnI w.heap.size w8 (.slice A8 (ys ++ xs.drop a).length c8) (ys ++ xs.drop a) := by unfold OwnI; rw [hzl, List.map_append]; exact hown8
        have hQ8 := hQ6.app hg8 hO8
        obtain ⟨b8, hr8⟩ := own_IntsR hO8
        have hA8 := hr8.addr (by omega)
        subst hA8
        rw [hzl] at hQ8
        have Hzl := hide hzl
        have Hka := hide hka
        clear hQ6 hX6 hO6 hO7 hg8 hown8 hat8 hsz6 hO8 hr8 hN7 hdl hzl hka
        go_wp2_with fail
        go_roundg (many - (k + 1))
        case measure => go_light; omega
        case rel =>
          refine ⟨k + 1, b8, c8, ys ++ xs.drop a, by omega, rfl, congrArg (Value.int .i64) (by omega), ?_, Hzl, hQ8.more (by omega)⟩
          go_light
          rw [Hka.out]
    · have hke : k = many := by omega
      have hlt' : ¬ (k : Int) < (many : Int) := by omega
      have hown : OwnI w.heap.size wr (.slice (some ⟨b, 0, none⟩) xs.length c) xs := by rw [Hxl.out]; exact hQ.own
      obtain ⟨-, -, -, -, hcap, -⟩ := own_row hown
      have hR9 := hQ.rd.more (K' := K + 20) (by omega)
      have hG9 := hQ.gr
      have Hke : Hid (xs.length = many) := by unfold Hid; rw [Hxl.out, hke]
      have Hxk := Hxl
      clear hQ hke
      go_wp2_with fail
      go_ret
      exact ⟨some ⟨b, 0, none⟩, c, xs, by rw [Hxk.out]; rfl, Hke.out, hcap, hown, hR9, hG9⟩
end Go.Proofs.Ytmgikoaeomieeaa
