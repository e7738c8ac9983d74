/-
  The law of ExactLeastSpan: its walk.
-/
import Derived.Test.YtledgblepdjjlaaE50
import Derived.Test.YtledgblepdjjlaaL56
import Derived.Test.YtledgblepdjjlaaS56
namespace Go.Proofs.Ytledgblepdjjlaa
set_option linter.unusedVariables false
set_option linter.unusedSimpArgs false
open Go.RowKit Pp

set_option maxHeartbeats 8000000 in
set_option maxRecDepth 100000 in
theorem exactLeastSpan_c (n f t : Int) (bs : List Bd) (cs : List (List Bd)) (A A2 : Option Addr) (b o c b2 o2 c2 : Nat) (w : World) (hl : bs.length ≤ 9223372036854775807) (hl2 : cs.length ≤ 9223372036854775807) (hl3 : ∀ x ∈ cs, x.length ≤ 9223372036854775807) (hR : BdsR w w.heap.size b o A bs) (hC : ChR w w.heap.size b2 o2 A2 cs) :
    Calls Try.prog 10 #[.agg #[.int .i64 n, .slice A bs.length c, .slice A2 cs.length c2], .int .i64 f, .int .i64 t] w fun e w' => e = .returned (.bool true) ∧ Below w.heap.size w w' := by
  have hA := rc_new (n := n) (c := c) (c2 := c2) (t := 27) hR hC
  have hW : Below w.heap.size w (w.alloc (.cells #[.int .i64 n, .slice A bs.length c, .slice A2 cs.length c2] 27)) := by go_grown
  clear hR hC
  obtain ⟨R, hRq⟩ : ∃ R : Int, (if (1048576 : Int) - (bs.length : Int) < 0 then -1 else szV (1048576 - bs.length) cs) = R := ⟨_, rfl⟩
  have hcase := szCase_cases bs cs R hRq
  have H := hide hRq
  have H3l := hide hl3
  clear hRq hl3
  rcases hcase with h1 | ⟨h1, hn, hn2, hn3, _⟩
  · subst h1
    go_enter Try.func10, Try.ntmps10
    go_upto_region 1 with fail
    generalize w.alloc (.cells #[.int .i64 n, .slice A bs.length c, .slice A2 cs.length c2] 27) = W at hA hW ⊢
    have a0 := hA.c0
    have a1 := hA.c1
    have a2 := hA.c2
    go_wp2_with (go_at_call 15; go_fit (szCase_c 1048576 n A A2 b o c b2 o2 c2 _ bs cs _ (by omega) hl hl2 H3l.out (Nat.le_refl _) hA.rd hA.rc); rintro e w2 ⟨rfl, hb2⟩; rw [H.out])
    go_ret
    exact ⟨rfl, bthen hW hb2⟩
  · have h1' : ¬ R < 0 := by omega
    have H3 := hide hn3
    clear hn3
    obtain ⟨q, r, hq⟩ : ∃ q r, leastSpan ⟨n, bs⟩ cs f t = (q, r) := ⟨_, _, rfl⟩
    have Hq := hide hq
    clear hq
    go_enter Try.func10, Try.ntmps10
    go_upto_region 1 with fail
    generalize w.alloc (.cells #[.int .i64 n, .slice A bs.length c, .slice A2 cs.length c2] 27) = W at hA hW ⊢
    have a0 := hA.c0
    have a1 := hA.c1
    have a2 := hA.c2
    go_upto_region 5 with (go_at_call 15; go_fit (szCase_c 1048576 n A A2 b o c b2 o2 c2 _ bs cs _ (by omega) hl hl2 H3l.out (Nat.le_refl _) hA.rd hA.rc); rintro e w2 ⟨rfl, hb2⟩; rw [H.out]; replace hW := bthen hW hb2; replace hA := hA.below hb2; (try replace h5 := h5.below hb2); clear a0 a1 a2; have a0 := hA.c0; have a1 := hA.c1; have a2 := hA.c2)
    clear hl hl2
    go_upto_region 6 with (first
      | (go_at_call 17; go_fit (toCase_q n bs cs A A2 b o c b2 o2 c2 _ _ hn hn2 H3.out (Nat.le_refl _) hA.rd hA.rc); rintro e w3 ⟨A1, c1, g1, A3, c3, g3, F, rfl, hr1, own1, hr3, own3, hqf, hb3⟩; replace hW := bthen hW hb3; replace hA := hA.below hb3; (try replace h5 := h5.below hb3))
      | (go_at_call 48; go_fit (sLeastSpan_c n bs cs f t q r Hq.out A1 A3 g1 0 c1 g3 0 c3 _ _ hn hn2 H3.out (Nat.le_refl _) hr1 hr3); rintro e w4 ⟨rfl, hb4⟩; replace hW := bthen hW hb4; replace hA := hA.below hb4; (try replace h5 := h5.below hb4); clear a0 a1 a2; have a0 := hA.c0; have a1 := hA.c1; have a2 := hA.c2))
    clear hr1 own1 hr3 own3 hb3 hb4 hqf
    go_upto_region 7 with (go_at_call 17; go_fit (toCase_q n bs cs A A2 b o c b2 o2 c2 _ _ hn hn2 H3.out (Nat.le_refl _) hA.rd hA.rc); rintro e w5 ⟨A1, c1, g1, A3, c3, g3, F, rfl, hr1, own1, hr3, own3, hqf, hb5⟩; replace hW := bthen hW hb5; replace hA := hA.below hb5; (try replace h5 := h5.below hb5))
    have h5 := rc_new (n := n) (c := c1) (c2 := c3) (t := 37) hr1 hr3
    have hbn : Below w5.heap.size w5 (w5.alloc (.cells #[.int .i64 n, .slice A1 bs.length c1, .slice A3 cs.length c3] 37)) := by go_grown
    replace hW := bthen hW hbn
    replace hA := hA.below hbn
    generalize w5.alloc (.cells #[.int .i64 n, .slice A1 bs.length c1, .slice A3 cs.length c3] 37) = W5 at hA hW h5 ⊢
    generalize w5.heap.size = X5 at h5 ⊢
    clear a0 a1 a2 hr1 own1 hr3 own3 hb5 hbn hqf
    have e0 := h5.c0
    have e1 := h5.c1
    have e2 := h5.c2
    go_upto_region 10 with (go_at_call 47; go_fit (leastSpan_c n bs cs f t q r Hq.out A1 A3 g1 0 c1 g3 0 c3 _ _ hn hn2 H3.out (Nat.le_refl _) h5.rd h5.rc); rintro e w6 ⟨rfl, hb6⟩; replace hW := bthen hW hb6; replace hA := hA.below hb6; (try replace h5 := h5.below hb6))
    clear e0 e1 e2 hb6
    have hX0w := hA.ex
    have hX5w := h5.ex
    have a0 := hA.c0
    have a1 := hA.c1
    have a2 := hA.c2
    have e0 := h5.c0
    have e1 := h5.c1
    have e2 := h5.c2
    go_cut [47] (fun s wx => s = .bool false ∧ Below w.heap.size w wx)
    case first =>
      replace hW := hW.drew
      replace hA := hA.drew
      replace h5 := h5.drew
      go_region_held3 (fun w' => w'.cell? ⟨w.heap.size, 0, none⟩ = some (.int .i64 n) ∧ w'.cell? ⟨w.heap.size, 1, none⟩ = some (.slice A bs.length c) ∧ w'.cell? ⟨w.heap.size, 2, none⟩ = some (.slice A2 cs.length c2) ∧ w'.cell? ⟨X5, 0, none⟩ = some (.int .i64 n) ∧ w'.cell? ⟨X5, 1, none⟩ = some (.slice A1 bs.length c1) ∧ w'.cell? ⟨X5, 2, none⟩ = some (.slice A3 cs.length c3))
        (first
          | (go_split_ands; (repeat' apply And.intro) <;> assumption)
          | exact ⟨hA.c0, hA.c1, hA.c2, h5.c0, h5.c1, h5.c2⟩
          | (go_keep; done))
        (first
          | (go_at_call 17; go_fit (toCase_q n bs cs A A2 b o c b2 o2 c2 _ _ hn hn2 H3.out (Nat.le_refl _) hA.rd hA.rc); rintro e w8 ⟨A9, c9, g9, B9, d9, g8, F8, rfl, hr9, own9, hr8, own8, hqf8, hb8⟩; replace hW := bthen hW hb8; replace hA := hA.below hb8; (try replace h5 := h5.below hb8); clear a0 a1 a2 e0 e1 e2; have a0 := hA.c0; have a1 := hA.c1; have a2 := hA.c2; have e0 := h5.c0; have e1 := h5.c1; have e2 := h5.c2)
          | (go_at_call 21; go_fit (eqCase_yes n bs cs A1 A9 A3 B9 g1 0 c1 g9 0 c9 g3 0 c3 g8 0 d9 _ _ hn hn2 H3.out (Nat.le_refl _) h5.rd hr9 h5.rc hr8); rintro e w9 ⟨rfl, hb9⟩; replace hW := bthen hW hb9; replace hA := hA.below hb9; (try replace h5 := h5.below hb9); clear a0 a1 a2 e0 e1 e2; have a0 := hA.c0; have a1 := hA.c1; have a2 := hA.c2; have e0 := h5.c0; have e1 := h5.c1; have e2 := h5.c2))
      go_wp2_with fail
      go_meet
      case rel => exact ⟨rfl, hW⟩
    case rest =>
      clear hW hA h5 hX0w hX5w a0 a1 a2 e0 e1 e2
      obtain ⟨rfl, hW⟩ := hcut
      go_wp2_with fail
      go_ret
      exact ⟨rfl, hW⟩
end Go.Proofs.Ytledgblepdjjlaa
