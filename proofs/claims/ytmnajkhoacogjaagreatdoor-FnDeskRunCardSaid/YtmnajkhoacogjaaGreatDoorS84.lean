/-
 spec: l12Plan, PlanOf.
-/
import Derived.Test.YtmnajkhoacogjaaGreatDoorS80
import Derived.Test.YtmnajkhoacogjaaGreatDoorL88
namespace Go.Proofs.YtmnajkhoacogjaaGreatDoor
set_option linter.unusedVariables false
set_option linter.unusedSimpArgs false
open Go Go.RowKit Pp

theorem own_blk {w : World} {base g n : Nat} {e : TypeId} {size : Nat} {cs : Array Value} (h : w.heap[g]? = some (.cells cs e (0, 0))) (hb : base ≤ g) (hs : cs.size = n * size) (hn : n ≤ maxLen) : w.ownsRow base e size (.slice (some ⟨g, 0, none⟩) n n) n cs.toList :=
 ⟨by simpa using hs, .inr ⟨g, n, cs, rfl, hb, h, Nat.le_refl _, hn, hs, by rw [List.take_of_length_le]; simp [hs]⟩⟩
set_option maxHeartbeats 4000000 in
set_option maxRecDepth 100000 in
theorem l12Plan_q : ∀ (a : Tm) (A : Option Addr) (b o c bg en f : Nat) (w : World), a.fine → a.size ≤ 20 → f ≤ 2000 - 50 * a.size → bg ≤ 2000 → en ≤ 2000 → a.marks.length ≤ c → MkR w w.heap.size b o A a.marks →
  Calls Tryz.prog 100 #[.slice A a.marks.length c, .int .i64 (bg : Int), .int .i64 (en : Int), .int .i64 (f : Int)] w fun e w' => ∃ A1 c1, e = .returned (.tuple #[.slice A1 (tmB a bg en f).1.length c1, .int .i64 ((tmB a bg en f).2 : Int)]) ∧ OwnB w.heap.size w' (.slice A1 (tmB a bg en f).1.length c1) (tmB a bg en f).1 ∧ Below w.heap.size w w' := by
 intro a
 induction a with
 | step l h =>
   intro A b o c bg en f w hf hs hfl hbg hen hc hR
   have hR' : MkR w w.heap.size b o A ([] ++ [⟨0, l, h⟩]) := hR
   obtain ⟨rfl, hbl, d0, d1, d2⟩ := mk_end hR'
   simp only [List.length_nil, Nat.zero_mul, Nat.add_zero] at d0 d1 d2
   obtain ⟨h1, h2, h3⟩ := hf
   have hw : IntKind.i64.wrap (-l) = -l := IntWalk.i64_in _ (by omega)
   rw [show (Tm.step l h).marks.length = 0 + 1 from rfl]
   clear hR hR' hc
   have hal : Below w.heap.size w (w.alloc (.cells #[.int .i64 0, .int .i64 l, .int .i64 h] 139)) := by go_grown
   have hM := mb_new w ⟨0, l, h⟩ 139
   have hRa2 : (0 : Nat) = 0 := rfl
   go_enter Tryz.func100, Tryz.ntmps100
   go_upto_region 3 with fail
   generalize w.alloc (.cells #[.int .i64 0, .int .i64 l, .int .i64 h] 139) = W at hal hM hRa2 ⊢
   generalize w.heap.size = V at hM ⊢
   have v0 := hM.c0
   have v1 := hM.c1
   have v2 := hM.c2
   dsimp only at v0 v1 v2
   have hnew : (W.alloc (.cells #[.int .i64 (bg : Int), .int .i64 (en : Int), .int .i64 h, .int .i64 (en : Int), .int .i64 (bg : Int), .int .i64 (-l)] 97)).heap[W.heap.size]? = some (.cells #[.int .i64 (bg : Int), .int .i64 (en : Int), .int .i64 h, .int .i64 (en : Int), .int .i64 (bg : Int), .int .i64 (-l)] 97 (0, 0)) := at_new rfl
   have hown : OwnB w.heap.size (W.alloc (.cells #[.int .i64 (bg : Int), .int .i64 (en : Int), .int .i64 h, .int .i64 (en : Int), .int .i64 (bg : Int), .int .i64 (-l)] 97)) (.slice (some ⟨W.heap.size, 0, none⟩) 2 2) [⟨bg, en, h⟩, ⟨en, bg, -l⟩] := own_blk hnew hal.size rfl (by unfold maxLen; omega)
   have Ho := hide hown
   clear hown hnew
   go_wp2_with fail
   go_ret2
   exact ⟨_, _, rfl, Ho.out, bthen hal (by go_grown)⟩
 | wth a h ih0 =>
   intro A b o c bg en f w hf hs hfl hbg hen hc hR
   obtain ⟨i0, hi0, hz0, hz1, hz2⟩ := info_parts infoB
   obtain ⟨hf0, hh1, hh2⟩ := hf
   have hR' : MkR w w.heap.size b o A (a.marks ++ [⟨3, 0, h⟩]) := hR
   obtain ⟨rfl, hbl, d0, d1, d2⟩ := mk_end hR'
   have hRa := (mk_app hR').1
   have hml := a.marks_len
   obtain ⟨n, hn⟩ : ∃ n, a.marks.length = n := ⟨_, rfl⟩
   have hn20 : n ≤ 20 := by rw [← hn, hml]; simp only [Tm.size] at hs; omega
   have hlen : (Tm.wth a h).marks.length = n + 1 := by simp [Tm.marks, hn]
   rw [hlen] at hc ⊢
   rw [hn] at d0 d1 d2
   simp only [Tm.size] at hs hfl
   have hcall := fun wq hq => ih0 (some ⟨b, o, none⟩) b o c bg en f wq hf0 (by omega) (by omega) hbg hen (by omega) hq
   obtain ⟨N, hN⟩ : ∃ N, (tmB a bg en f).1 = N := ⟨_, rfl⟩
   obtain ⟨F, hF⟩ : ∃ F, (tmB a bg en f).2 = F := ⟨_, rfl⟩
   have hNl : N.length ≤ 2000 := by have := small_tm a; rw [← hN, tmB_len]; omega
   rw [hn, hN, hF] at hcall
   have HL : Hid ((tmB (.wth a h) bg en f).2 = F ∧ (tmB (.wth a h) bg en f).1 = N ++ [⟨bg, en, h⟩]) := ⟨hF, by simp only [tmB]; rw [hN]⟩
   have Hc := hide hcall
   rw [HL.out.1, HL.out.2]
   clear hR hR' hml hn hlen hcall ih0 hN hF
   have hal : Below w.heap.size w (w.alloc (.cells #[.int .i64 3, .int .i64 0, .int .i64 h] 139)) := by go_grown
   have hM := mb_new w ⟨3, 0, h⟩ 139
   have hRa2 := (hRa.below hal).more hal.size
   clear hRa
   go_enter Tryz.func100, Tryz.ntmps100
   go_upto_region 3 with fail
   generalize w.alloc (.cells #[.int .i64 3, .int .i64 0, .int .i64 h] 139) = W at hal hM hRa2 ⊢
   generalize w.heap.size = V at hM ⊢
   have v0 := hM.c0
   have v1 := hM.c1
   have v2 := hM.c2
   dsimp only at v0 v1 v2
   go_upto_region 7 with (go_at_call 100; refine (Hc.out _ hRa2).mono ?_; rintro e w2 ⟨A2, c2, rfl, own2, hb0⟩)
   have hM2 := hM.below hb0
   clear v0 v1 v2
   have v2 := hM2.c2
   dsimp only at v2
   have hal2 : Below w2.heap.size w2 (w2.alloc (.cells #[.int .i64 (bg : Int), .int .i64 (en : Int), .int .i64 h] 97)) := by go_grown
   have hnew : (w2.alloc (.cells #[.int .i64 (bg : Int), .int .i64 (en : Int), .int .i64 h] 97)).heap[w2.heap.size]? = some (.cells #[.int .i64 (bg : Int), .int .i64 (en : Int), .int .i64 h] 97 (0, 0)) := at_new rfl
   have own3 := own_below own2 hal2
   have hsz3 : W.heap.size ≤ (w2.alloc (.cells #[.int .i64 (bg : Int), .int .i64 (en : Int), .int .i64 h] 97)).heap.size := Nat.le_trans hb0.size hal2.size
   go_wp2_with (at_builtin; refine app_list _ rfl (.tmp 57) (.tmp 63) _ rfl W.heap.size 97 i0 _ 3 24 Tryz.underlying32 hi0 hz0 hz1 hz2 rfl (by omega) (.slice A2 N.length c2) N.length (bdCs N) rfl own3 (some ⟨w2.heap.size, 0, none⟩) 1 _ (bdCs [⟨bg, en, h⟩]) rfl rfl (bd_news hnew) (bdCs_one _) (by omega) (by omega) hsz3 ?_; intro A4 c4 w4 hown4 hg4 hat4)
   have hW4 : Below W.heap.size W w4 := below_app (bthen hb0 hal2) own3 hg4 (Nat.le_refl _) hsz3
   have hl2 : (N ++ [(⟨bg, en, h⟩ : Bd)]).length = N.length + 1 := by simp
   have Ho : Hid (OwnB w.heap.size w4 (.slice A4 (N ++ [(⟨bg, en, h⟩ : Bd)]).length c4) (N ++ [⟨bg, en, h⟩])) := by
    unfold Hid OwnB; rw [hl2, bdCs_append]; exact own_less hown4 hal.size
   have Hl2 := hide hl2
   clear hl2 hown4 hg4 hat4 own3 hnew
   go_ret2
   exact ⟨_, _, by rw [Hl2.out]; rfl, Ho.out, bthen hal hW4⟩
 | thn a a' ih0 ih1 =>
   intro A b o c bg en f w hf hs hfl hbg hen hc hR
   obtain ⟨i0, hi0, hz0, hz1, hz2⟩ := info_parts infoB
   obtain ⟨hf0, hf1⟩ := hf
   have hR' : MkR w w.heap.size b o A ((a.marks ++ a'.marks) ++ [⟨1, 0, 0⟩]) := hR
   obtain ⟨rfl, hbl, d0, d1, d2⟩ := mk_end hR'
   obtain ⟨hRa, hRb⟩ := mk_app (mk_app hR').1
   have hml := a.marks_len
   have hml' := a'.marks_len
   obtain ⟨n, hn⟩ : ∃ n, a.marks.length = n := ⟨_, rfl⟩
   obtain ⟨n', hn'⟩ : ∃ n, a'.marks.length = n := ⟨_, rfl⟩
   simp only [Tm.size] at hs hfl
   have hn20 : n + n' ≤ 20 := by rw [← hn, hml, ← hn', hml']; omega
   have hn1 : 1 ≤ n ∧ 1 ≤ n' := by rw [← hn, hml, ← hn', hml']; cases a <;> cases a' <;> simp [Tm.size]
   have hlen : (Tm.thn a a').marks.length = n + n' + 1 := by simp [Tm.marks, hn, hn']; omega
   rw [hlen] at hc ⊢
   rw [List.length_append, hn, hn'] at d0 d1 d2
   rw [hn] at hRb
   obtain ⟨N, hN⟩ : ∃ N, (tmB a bg f (f + 1)).1 = N := ⟨_, rfl⟩
   obtain ⟨F, hF⟩ : ∃ F, (tmB a bg f (f + 1)).2 = F := ⟨_, rfl⟩
   obtain ⟨N', hN'⟩ : ∃ N, (tmB a' f en F).1 = N := ⟨_, rfl⟩
   obtain ⟨F', hF'⟩ : ∃ F1, (tmB a' f en F).2 = F1 := ⟨_, rfl⟩
   have hFl : F ≤ f + 1 + 50 * a.size ∧ N.length ≤ 50 * a.size ∧ N'.length ≤ 50 * a'.size := by
    have h1 := small_tm a
    have h2 := small_tm a'
    rw [← hN, ← hF, ← hN', tmB_len, tmB_next, tmB_len]; omega
   have HL : Hid ((tmB (.thn a a') bg en f).2 = F' ∧ (tmB (.thn a a') bg en f).1 = N ++ N') := by
    refine ⟨?_, ?_⟩
    ·simp only [tmB]; rw [hF, hF']
    ·simp only [tmB]; rw [hN, hF, hN']
   have hcall := fun wq hq => ih0 (some ⟨b, o, none⟩) b o c bg f (f + 1) wq hf0 (by omega) (by omega) hbg (by omega) (by omega) hq
   rw [hn, hN, hF] at hcall
   have hcall1 := fun wq hq => ih1 (some ⟨b, o + n * 3, none⟩) b (o + n * 3) (c - n) f en F wq hf1 (by omega) (by omega) (by omega) hen (by omega) hq
   rw [hn', hN', hF'] at hcall1
   have hst := fun wq hq => l11Starts_c a' (Tm.thn a a').marks n (fun j x hx => by
    show ((a.marks ++ a'.marks) ++ [_])[n + j]? = some x
    rw [List.append_assoc, List.getElem?_append_right (by omega), hn, Nat.add_sub_cancel_left, List.getElem?_append_left (List.getElem?_eq_some_iff.1 hx).1]; exact hx) (by omega) (((n + n' : Nat) : Int) - 1) (by rw [← hml', hn']; omega) (some ⟨b, o, none⟩) b o c _ wq (Nat.le_refl _) hq (by rw [hlen]; omega)
   rw [hlen] at hst
   obtain ⟨hn1a, hn1b⟩ := hn1
   have Hst := hide hst
   have Hc := hide hcall
   have Hc1 := hide hcall1
   rw [HL.out.1, HL.out.2]
   obtain ⟨hFl0, hFl1, hFl2⟩ := hFl
   have hNt : N.length + N'.length ≤ 5000 := by omega
   have hal : Below w.heap.size w (w.alloc (.cells #[.int .i64 1, .int .i64 0, .int .i64 0] 139)) := by go_grown
   have hM := mb_new w ⟨1, 0, 0⟩ 139
   have hRa2 := (hRa.below hal).more hal.size
   have hRb2 := (hRb.below hal).more hal.size
   have hRt2 := (hR.below hal).more hal.size
   clear hR hR' hml hml' hn hn' hlen hcall hcall1 hst ih0 ih1 hRa hRb hN hF hN' hF' hFl0 hFl1 hFl2
   have hwf : IntKind.i64.wrap ((f : Int) + 1) = (f : Int) + 1 := IntWalk.i64_in _ (by omega)
   have ef : ((f + 1 : Nat) : Int) = (f : Int) + 1 := by omega
   rw [ef] at Hc
   go_enter Tryz.func100, Tryz.ntmps100
   go_upto_region 3 with fail
   generalize w.alloc (.cells #[.int .i64 1, .int .i64 0, .int .i64 0] 139) = W at hal hM hRa2 hRb2 hRt2 ⊢
   generalize w.heap.size = V at hM ⊢
   have v0 := hM.c0
   have v1 := hM.c1
   have v2 := hM.c2
   dsimp only at v0 v1 v2
   go_upto_region 15 with (go_at_call 117; refine (Hst.out _ hRt2).mono ?_; rintro e w9 ⟨rfl, rfl⟩)
   go_upto_region 16 with (go_at_call 100; refine (Hc.out _ hRa2).mono ?_; rintro e w2 ⟨A2, c2, rfl, own2, hb0⟩)
   have hRb3 := (CsR.below hRb2 hb0).more hb0.size
   go_upto_region 17 with (go_at_call 100; refine (Hc1.out _ hRb3).mono ?_; rintro e w3 ⟨A3, c3, rfl, own3, hb1⟩)
   have own4 := own_below own2 hb1
   obtain ⟨g3, hr3⟩ := OwnB.readsA own3
   have hsz3 := (bthen hb0 hb1).size
   go_wp2_with (at_builtin; refine app_list _ rfl (.tmp 100) (.tmp 101) _ rfl w9.heap.size 97 i0 _ 3 24 Tryz.underlying32 hi0 hz0 hz1 hz2 rfl (by omega) (.slice A2 N.length c2) N.length (bdCs N) rfl own4 A3 N'.length c3 (bdCs N') rfl (bdCs_length _) hr3.news (bdCs_one _) (by omega) (by omega) hsz3 ?_; intro A4 c4 w4 hown4 hg4 hat4)
   have hW4 : Below w9.heap.size w9 w4 := below_app (bthen hb0 hb1) own4 hg4 (Nat.le_refl _) hsz3
   have hl2 : (N ++ N').length = N.length + N'.length := by simp
   have Ho : Hid (OwnB w.heap.size w4 (.slice A4 (N ++ N').length c4) (N ++ N')) := by
    unfold Hid OwnB; rw [hl2, bdCs_append]; exact own_less hown4 hal.size
   have Hl2 := hide hl2
   clear hl2 hown4 hg4 hat4 own4 own3 hr3
   go_ret2
   exact ⟨_, _, by rw [Hl2.out]; rfl, Ho.out, bthen hal hW4⟩
 | bth a a' ih0 ih1 =>
   intro A b o c bg en f w hf hs hfl hbg hen hc hR
   obtain ⟨i0, hi0, hz0, hz1, hz2⟩ := info_parts infoB
   obtain ⟨hf0, hf1⟩ := hf
   have hR' : MkR w w.heap.size b o A ((a.marks ++ a'.marks) ++ [⟨2, 0, 0⟩]) := hR
   obtain ⟨rfl, hbl, d0, d1, d2⟩ := mk_end hR'
   obtain ⟨hRa, hRb⟩ := mk_app (mk_app hR').1
   have hml := a.marks_len
   have hml' := a'.marks_len
   obtain ⟨n, hn⟩ : ∃ n, a.marks.length = n := ⟨_, rfl⟩
   obtain ⟨n', hn'⟩ : ∃ n, a'.marks.length = n := ⟨_, rfl⟩
   simp only [Tm.size] at hs hfl
   have hn20 : n + n' ≤ 20 := by rw [← hn, hml, ← hn', hml']; omega
   have hn1 : 1 ≤ n ∧ 1 ≤ n' := by rw [← hn, hml, ← hn', hml']; cases a <;> cases a' <;> simp [Tm.size]
   have hlen : (Tm.bth a a').marks.length = n + n' + 1 := by simp [Tm.marks, hn, hn']; omega
   rw [hlen] at hc ⊢
   rw [List.length_append, hn, hn'] at d0 d1 d2
   rw [hn] at hRb
   obtain ⟨N, hN⟩ : ∃ N, (tmB a bg en f).1 = N := ⟨_, rfl⟩
   obtain ⟨F, hF⟩ : ∃ F, (tmB a bg en f).2 = F := ⟨_, rfl⟩
   obtain ⟨N', hN'⟩ : ∃ N, (tmB a' bg en F).1 = N := ⟨_, rfl⟩
   obtain ⟨F', hF'⟩ : ∃ F1, (tmB a' bg en F).2 = F1 := ⟨_, rfl⟩
   have hFl : F ≤ f + 1 + 50 * a.size ∧ N.length ≤ 50 * a.size ∧ N'.length ≤ 50 * a'.size := by
    have h1 := small_tm a
    have h2 := small_tm a'
    rw [← hN, ← hF, ← hN', tmB_len, tmB_next, tmB_len]; omega
   have HL : Hid ((tmB (.bth a a') bg en f).2 = F' ∧ (tmB (.bth a a') bg en f).1 = N ++ N') := by
    refine ⟨?_, ?_⟩
    ·simp only [tmB]; rw [hF, hF']
    ·simp only [tmB]; rw [hN, hF, hN']
   have hcall := fun wq hq => ih0 (some ⟨b, o, none⟩) b o c bg en f wq hf0 (by omega) (by omega) hbg (by omega) (by omega) hq
   rw [hn, hN, hF] at hcall
   have hcall1 := fun wq hq => ih1 (some ⟨b, o + n * 3, none⟩) b (o + n * 3) (c - n) bg en F wq hf1 (by omega) (by omega) (by omega) hen (by omega) hq
   rw [hn', hN', hF'] at hcall1
   have hst := fun wq hq => l11Starts_c a' (Tm.bth a a').marks n (fun j x hx => by
    show ((a.marks ++ a'.marks) ++ [_])[n + j]? = some x
    rw [List.append_assoc, List.getElem?_append_right (by omega), hn, Nat.add_sub_cancel_left, List.getElem?_append_left (List.getElem?_eq_some_iff.1 hx).1]; exact hx) (by omega) (((n + n' : Nat) : Int) - 1) (by rw [← hml', hn']; omega) (some ⟨b, o, none⟩) b o c _ wq (Nat.le_refl _) hq (by rw [hlen]; omega)
   rw [hlen] at hst
   obtain ⟨hn1a, hn1b⟩ := hn1
   have Hst := hide hst
   have Hc := hide hcall
   have Hc1 := hide hcall1
   rw [HL.out.1, HL.out.2]
   obtain ⟨hFl0, hFl1, hFl2⟩ := hFl
   have hNt : N.length + N'.length ≤ 5000 := by omega
   have hal : Below w.heap.size w (w.alloc (.cells #[.int .i64 2, .int .i64 0, .int .i64 0] 139)) := by go_grown
   have hM := mb_new w ⟨2, 0, 0⟩ 139
   have hRa2 := (hRa.below hal).more hal.size
   have hRb2 := (hRb.below hal).more hal.size
   have hRt2 := (hR.below hal).more hal.size
   clear hR hR' hml hml' hn hn' hlen hcall hcall1 hst ih0 ih1 hRa hRb hN hF hN' hF' hFl0 hFl1 hFl2
   go_enter Tryz.func100, Tryz.ntmps100
   go_upto_region 3 with fail
   generalize w.alloc (.cells #[.int .i64 2, .int .i64 0, .int .i64 0] 139) = W at hal hM hRa2 hRb2 hRt2 ⊢
   generalize w.heap.size = V at hM ⊢
   have v0 := hM.c0
   have v1 := hM.c1
   have v2 := hM.c2
   dsimp only at v0 v1 v2
   go_upto_region 15 with (go_at_call 117; refine (Hst.out _ hRt2).mono ?_; rintro e w9 ⟨rfl, rfl⟩)
   go_upto_region 16 with (go_at_call 100; refine (Hc.out _ hRa2).mono ?_; rintro e w2 ⟨A2, c2, rfl, own2, hb0⟩)
   have hRb3 := (CsR.below hRb2 hb0).more hb0.size
   go_upto_region 17 with (go_at_call 100; refine (Hc1.out _ hRb3).mono ?_; rintro e w3 ⟨A3, c3, rfl, own3, hb1⟩)
   have own4 := own_below own2 hb1
   obtain ⟨g3, hr3⟩ := OwnB.readsA own3
   have hsz3 := (bthen hb0 hb1).size
   go_wp2_with (at_builtin; refine app_list _ rfl (.tmp 100) (.tmp 101) _ rfl w9.heap.size 97 i0 _ 3 24 Tryz.underlying32 hi0 hz0 hz1 hz2 rfl (by omega) (.slice A2 N.length c2) N.length (bdCs N) rfl own4 A3 N'.length c3 (bdCs N') rfl (bdCs_length _) hr3.news (bdCs_one _) (by omega) (by omega) hsz3 ?_; intro A4 c4 w4 hown4 hg4 hat4)
   have hW4 : Below w9.heap.size w9 w4 := below_app (bthen hb0 hb1) own4 hg4 (Nat.le_refl _) hsz3
   have hl2 : (N ++ N').length = N.length + N'.length := by simp
   have Ho : Hid (OwnB w.heap.size w4 (.slice A4 (N ++ N').length c4) (N ++ N')) := by
    unfold Hid OwnB; rw [hl2, bdCs_append]; exact own_less hown4 hal.size
   have Hl2 := hide hl2
   clear hl2 hown4 hg4 hat4 own4 own3 hr3
   go_ret2
   exact ⟨_, _, by rw [Hl2.out]; rfl, Ho.out, bthen hal hW4⟩
namespace Pp
theorem planIs_no {t : List Mk} (h : termOf t = none) : planOf t = ⟨0, []⟩ ∧ planIs t = false := by unfold planOf planIs; rw [h]; exact ⟨rfl, rfl⟩
theorem planIs_some {t : List Mk} {a : Tm} (h : termOf t = some a) : planOf t = (if planOk (tmP a) then tmP a else ⟨0, []⟩) ∧ planIs t = planOk (tmP a) := by unfold planOf planIs; rw [h]; exact ⟨rfl, rfl⟩
end Pp
set_option maxHeartbeats 2000000 in
set_option maxRecDepth 100000 in
theorem sPlanOf_q (t : List Mk) (P : Pl) (r : Bool) (hPq : planOf t = P) (hr : planIs t = r) (A : Option Addr) (b o c B : Nat) (w : World) (hc : t.length ≤ c) (hB : B ≤ w.heap.size) (hR : MkR w B b o A t) (hn : t.length ≤ 2000000) :
  Calls Tryz.prog 70 #[.slice A t.length c] w fun e w' => ∃ A1 c1 g1, e = .returned (.tuple #[.agg #[.int .i64 P.n, .slice A1 P.bs.length c1], .bool r]) ∧ BdsR w' w'.heap.size g1 0 A1 P.bs ∧ OwnB w.heap.size w' (.slice A1 P.bs.length c1) P.bs ∧ Below w.heap.size w w' := by
 have hZ := zb_new (w0 := w) (W := w) (t := 34) (Nat.le_refl _)
 have hal : Below w.heap.size w (w.alloc (.cells #[.int .i64 0, .slice none 0 0] 34)) := by go_grown
 have hRw := (hR.more hB).below hal
 cases ht : termOf t with
 | none =>
   obtain ⟨e1, e2⟩ := planIs_no ht
   obtain rfl : P = ⟨0, []⟩ := by rw [← hPq, e1]
   obtain rfl : r = false := by rw [← hr, e2]
   have hk : termOk t = false := by unfold termOk; rw [ht]; rfl
   have Hk := hide hk
   clear ht hPq hr e1 e2 hk
   go_enter Tryz.func70, Tryz.ntmps70
   go_upto_region 1 with fail
   generalize w.alloc (.cells #[.int .i64 0, .slice none 0 0] 34) = W at hZ hal hRw ⊢
   have HYl := hide hZ.ex
   obtain ⟨Y, hY⟩ : ∃ Y, Y = w.heap.size := ⟨_, rfl⟩
   rw [← hY] at hZ HYl ⊢
   have HY := hide hY
   clear hY
   go_upto_region 2 with (go_at_call 98; go_fit (sTermOk_c t A b o c _ _ hal.size hRw hn); rintro e w2 ⟨rfl, hb⟩; rw [Hk.out]; replace hZ := hZ.below hb)
   have z0 := hZ.z0
   have z1 := hZ.z1
   have zf := hZ.zf
   obtain ⟨r0, r1, ho, hb9⟩ := hZ.fin (n := 0) (A := none) (c := 0) (bs := []) (bthen hal hb) (World.ownsRow_nil _ _ _ _) (by simp [Value.ownBlock])
   simp only [List.length_nil] at r0 r1 hb9
   go_wp2_with fail
   refine bodyPost_ret (v := .tuple #[.agg #[.int .i64 0, .slice none 0 0], .bool false]) (by simp [results, Tryz.results70, go_sem, r0, r1]) rfl ?_
   first | exact ⟨none, 0, 0, rfl, BdsR.nil _ _ _, ho, hb9⟩ | exact ⟨none, 0, rfl, ⟨0, BdsR.nil _ _ _⟩, ho, hb9⟩
 | some a =>
   obtain ⟨e1, e2⟩ := planIs_some ht
   obtain ⟨hf, hm, h11⟩ := term_back ht
   have hsz : a.size ≤ 11 := by rw [← Tm.marks_len, hm]; exact h11
   have hk : termOk t = true := by unfold termOk; rw [ht]; rfl
   have hth := small_tm a
   have hlen : (tmB a 0 1 2).1.length ≤ 2000 := by rw [tmB_len]; omega
   have hcall := fun wq hq => l12Plan_q a A b o c 0 1 2 wq hf (by omega) (by omega) (by omega) (by omega) (by rw [hm]; exact hc) hq
   obtain ⟨bs, hbs⟩ : ∃ bs, (tmB a 0 1 2).1 = bs := ⟨_, rfl⟩
   obtain ⟨N, hN⟩ : ∃ N, (tmB a 0 1 2).2 = N := ⟨_, rfl⟩
   have htm : tmP a = ⟨(N : Int), bs⟩ := by unfold tmP; rw [hN, hbs]
   rw [hm, hbs, hN] at hcall
   rw [htm] at e1 e2
   rw [hbs] at hlen
   have Hk := hide hk
   have Hc := hide hcall
   rw [hPq] at e1
   rw [hr] at e2
   have E1 := hide e1
   have E2 := hide e2.symm
   clear ht hPq hr e1 e2 hk hcall hbs hN htm hm
   go_enter Tryz.func70, Tryz.ntmps70
   go_upto_region 1 with fail
   generalize w.alloc (.cells #[.int .i64 0, .slice none 0 0] 34) = W at hZ hal hRw ⊢
   have HYl := hide hZ.ex
   obtain ⟨Y, hY⟩ : ∃ Y, Y = w.heap.size := ⟨_, rfl⟩
   rw [← hY] at hZ HYl ⊢
   have HY := hide hY
   clear hY
   go_upto_region 3 with (go_at_call 98; go_fit (sTermOk_c t A b o c _ _ hal.size hRw hn); rintro e w2 ⟨rfl, hb⟩; rw [Hk.out]; replace hZ := hZ.below hb)
   have hB2 := bthen hal hb
   go_upto_region 4 with (go_at_call 100; refine (Hc.out _ (((hR.more hB).below hB2).more hB2.size)).mono ?_; rintro e w4 ⟨A2, c2, rfl, own4, hb4⟩)
   replace hZ := hZ.below hb4
   have hB4 := bthen hB2 hb4
   have hal5 : Below w4.heap.size w4 (w4.alloc (.cells #[.int .i64 (N : Int), .slice A2 bs.length c2] 34)) := by go_grown
   obtain ⟨g4, hr4⟩ := OwnB.readsA own4
   have hO := po_new (t := 34) (n := (N : Int)) (c := c2) (Below.refl w4.heap.size w4) hr4
   replace hZ := hZ.below hal5
   have own5 := own_below own4 hal5
   go_upto_region 5 with fail
   have hB5 := bthen hB4 hal5
   have ne5 : (Value.slice A2 bs.length c2).ownBlock ≠ some Y := fun e => by
    have h1 := own4.lt Y e
    have h2 := hZ.ex
    have h3 := HY.out
    have h4 := hb.size
    have h5 := HYl.out
    omega
   have neX : (Value.slice A2 bs.length c2).ownBlock ≠ some w4.heap.size := fun e => by have h1 := own4.lt _ e; omega
   clear hr4 own4
   generalize w4.alloc (.cells #[.int .i64 (N : Int), .slice A2 bs.length c2] 34) = W5 at hO hZ own5 hB5 hal5 ⊢
   generalize w4.heap.size = X at hO neX ⊢
   have p0 := hO.c0
   have p1 := hO.c1
   have pex := hO.ex
   cases r
   ·obtain rfl : P = ⟨0, []⟩ := by have := E1.out; rw [E2.out] at this; simpa using this
    go_upto_region 6 with (go_at_call 36; go_fit (sPlanOk_c ⟨N, bs⟩ A2 g4 0 c2 _ W5 (Nat.le_trans hlen (by omega)) (Nat.le_refl _) hO.rd); rintro e w6 ⟨rfl, hb6⟩; rw [E2.out])
    replace hZ := hZ.below hb6
    have z0 := hZ.z0
    have z1 := hZ.z1
    have zf := hZ.zf
    obtain ⟨r0, r1, ho, hb9⟩ := hZ.fin (n := 0) (A := none) (c := 0) (bs := []) (bthen hB5 hb6) (World.ownsRow_nil _ _ _ _) (by simp [Value.ownBlock])
    simp only [List.length_nil] at r0 r1 hb9
    go_wp2_with fail
    refine bodyPost_ret (v := .tuple #[.agg #[.int .i64 0, .slice none 0 0], .bool false]) (by simp [results, Tryz.results70, go_sem, r0, r1]) rfl ?_
    first | exact ⟨none, 0, 0, rfl, BdsR.nil _ _ _, ho, hb9⟩ | exact ⟨none, 0, rfl, ⟨0, BdsR.nil _ _ _⟩, ho, hb9⟩
   ·obtain rfl : P = ⟨(N : Int), bs⟩ := by have := E1.out; rw [E2.out] at this; simpa using this
    go_upto_region 7 with (go_at_call 36; go_fit (sPlanOk_c ⟨N, bs⟩ A2 g4 0 c2 _ W5 (Nat.le_trans hlen (by omega)) (Nat.le_refl _) hO.rd); rintro e w6 ⟨rfl, hb6⟩; rw [E2.out])
    replace hZ := hZ.below hb6
    have z0 := hZ.z0
    have z1 := hZ.z1
    have zf := hZ.zf
    have q0 := ((bcell hb6).1 _ _ pex).trans p0
    have q1 := ((bcell hb6).1 _ _ pex).trans p1
    have own6 := own_below own5 hb6
    obtain ⟨r0, r1, ho, hb9⟩ := hZ.fin (n := (N : Int)) (A := A2) (c := c2) (bs := bs) (bthen hB5 hb6) (own_less own6 hB2.size) ne5
    have Ho := hide (And.intro ho hb9)
    clear ho hb9
    go_wp2_with fail
    refine bodyPost_ret (v := .tuple #[.agg #[.int .i64 N, .slice A2 bs.length c2], .bool true]) (by simp [results, Tryz.results70, go_sem, r0, r1]) rfl ?_
    obtain ⟨g9, hr9⟩ := OwnB.readsA Ho.out.1
    first | exact ⟨A2, c2, g9, rfl, hr9, Ho.out.1, Ho.out.2⟩ | exact ⟨A2, c2, rfl, ⟨g9, hr9⟩, Ho.out.1, Ho.out.2⟩
end Go.Proofs.YtmnajkhoacogjaaGreatDoor
