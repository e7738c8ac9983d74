/-
  The law of ExactStrongTimes: its walk.
-/
import Derived.Test.YtdijfkpccbkdfaaE5
import Derived.Test.YtdijfkpccbkdfaaS27
import Derived.Test.YtdijfkpccbkdfaaE3
namespace Go.Proofs.Ytdijfkpccbkdfaa
set_option linter.unusedVariables false
set_option linter.unusedSimpArgs false
open Go.RowKit Pp

theorem strongTimes_len (p : Pl) (ps : List Pr) (ls : List Int) : (strongTimes p ps ls).1.length ≤ 6 := by
  unfold strongTimes
  split
  · rw [setT_length]; exact timesFor_len _
  · exact Nat.zero_le _
theorem intsR_grown {W W' : World} {b o : Nat} {A : Option Addr} {xs : List Int} {row : Option Nat} (h : IntsR W W.heap.size b o A xs) (hg : W.grownBy W' row) (hb : 0 < xs.length → some b ≠ row) : IntsR W' W'.heap.size b o A xs :=
  ⟨h.addr, fun hx => Nat.lt_of_lt_of_le (h.lt hx) hg.size, fun j hj => hg.cell (h.cell j hj) (hb (by omega))⟩
theorem ownI_at' {W : World} {base b : Nat} {A : Option Addr} {c : Nat} {xs : List Int} (h : OwnI base W (.slice A xs.length c) xs) (hr : IntsR W W.heap.size b 0 A xs) (h0 : 0 < xs.length) : base ≤ b ∧ b < W.heap.size := by
  obtain rfl := hr.addr h0
  exact h.lt b rfl
set_option maxHeartbeats 8000000 in
set_option maxRecDepth 100000 in
theorem exactStrongTimes_c (n : Int) (bs : List Bd) (ps : List Pr) (ls : List Int) (A A2 Al : Option Addr) (b o c b2 o2 c2 bl ol cl : Nat) (w : World) (hl : bs.length ≤ 9223372036854775807) (hl2 : ps.length ≤ 9223372036854775807) (hl3 : ls.length ≤ 9223372036854775807) (hR : BdsR w w.heap.size b o A bs) (hP : CsR w w.heap.size b2 o2 A2 ps.length (prCs ps)) (hL0 : IntsR w w.heap.size bl ol Al ls) :
    Calls Try.prog 13 #[.agg #[.int .i64 n, .slice A bs.length c, .slice A2 ps.length c2], .slice Al ls.length cl] w fun e w' => e = .returned (.bool true) ∧ Below w.heap.size w w' := by
  by_cases h3 : (1048576 : Int) < (ls.length : Int)
  · go_enter Try.func13, Try.ntmps13
    go_wp2_with fail
    go_ret
    exact ⟨rfl, by go_grown⟩
  have hn3 : ls.length ≤ 2000000 := by omega
  have hA := rd_new (n := n) (c := c) (c2 := c2) (t := 47) hR hP
  have hW : Below w.heap.size w (w.alloc (.cells #[.int .i64 n, .slice A bs.length c, .slice A2 ps.length c2] 47)) := by go_grown
  have hR0 : 0 < bs.length → b < w.heap.size := hR.lt
  have hP0 : 0 < ps.length → b2 < w.heap.size := hP.lt
  clear hR hP
  obtain ⟨R, hRq⟩ : ∃ R : Int, (if (1048576 : Int) - (bs.length : Int) - (ps.length : Int) < 0 then -1 else (1048576 : Int) - (bs.length : Int) - (ps.length : Int)) = R := ⟨_, rfl⟩
  have hcase : R = -1 ∨ (0 ≤ R ∧ bs.length ≤ 2000000 ∧ ps.length ≤ 2000000) := by
    by_cases h : (1048576 : Int) - (bs.length : Int) - (ps.length : Int) < 0
    · rw [if_pos h] at hRq; exact .inl hRq.symm
    · rw [if_neg h] at hRq; exact .inr ⟨by omega, by omega, by omega⟩
  have H := hide hRq
  clear hRq
  rcases hcase with h1 | ⟨h1, hn, hn2⟩
  · subst h1
    go_enter Try.func13, Try.ntmps13
    go_wp2_with (go_at_call 24; go_fit (szDeal_c 1048576 n A A2 bs.length c ps.length c2 _ (by omega) hl hl2); rintro e w2 ⟨rfl, hb2⟩; rw [H.out])
    go_ret
    exact ⟨rfl, bthen hW hb2⟩
  · have h1' : ¬ R < 0 := by omega
    clear hl hl2
    obtain ⟨zs, r, hq⟩ : ∃ zs r, strongTimes ⟨n, bs⟩ ps ls = (zs, r) := ⟨_, _, rfl⟩
    have hql : zs.length ≤ 2000000 := by have := strongTimes_len ⟨n, bs⟩ ps ls; rw [hq] at this; dsimp only at this; omega
    have Hq := hide hq
    clear hq
    have hbA : 0 < bs.length → b < w.heap.size := hR0
    have hbA2 : 0 < ps.length → b2 < w.heap.size := hP0
    go_enter Try.func13, Try.ntmps13
    go_upto_region 1 with fail
    have hW0s : w.heap.size ≤ (w.alloc (.cells #[.int .i64 n, .slice A bs.length c, .slice A2 ps.length c2] 47)).heap.size := hW.size
    generalize w.alloc (.cells #[.int .i64 n, .slice A bs.length c, .slice A2 ps.length c2] 47) = W at hA hW hW0s ⊢
    have hX0 : w.heap.size ≤ w.heap.size := Nat.le_refl _
    have a0 := hA.c0
    have a1 := hA.c1
    have a2 := hA.c2
    go_upto_region 7 with (go_at_call 24; go_fit (szDeal_c 1048576 n A A2 bs.length c ps.length c2 _ (by omega) (by omega) (by omega)); rintro e w2 ⟨rfl, hb2⟩; rw [H.out]; replace hW := bthen hW hb2; replace hA := hA.below hb2; (try replace h4 := (h4.below hb2).more (Below.size hb2)); (try replace h5 := h5.below hb2); (try replace h6 := (h6.below hb2).more (Below.size hb2)); (try replace h9 := (h9.below hb2).more (Below.size hb2)); (try replace own5 := own_below own5 hb2); (try replace ownP := own_below ownP hb2); (try replace own6 := own_below own6 hb2); (try replace ownJ := own_below ownJ hb2); (try replace hJ := (hJ.below hb2).more (Below.size hb2)); clear a0 a1 a2; have a0 := hA.c0; have a1 := hA.c1; have a2 := hA.c2)
    go_upto_region 8 with (first
      | (go_at_call 25; go_fit (toDeal_q n bs ps A A2 b o c b2 o2 c2 _ _ hn hn2 (Nat.le_refl _) hA.rd hA.rp); rintro e w3 ⟨A1, c1, g1, A3, c3, g3, rfl, hr1, hown1, hr3, hown3, hb3⟩; replace hW := bthen hW hb3; replace hA := hA.below hb3; (try replace h4 := (h4.below hb3).more (Below.size hb3)); (try replace h5 := h5.below hb3); (try replace h6 := (h6.below hb3).more (Below.size hb3)); (try replace h9 := (h9.below hb3).more (Below.size hb3)); (try replace own5 := own_below own5 hb3); (try replace ownP := own_below ownP hb3); (try replace own6 := own_below own6 hb3); (try replace ownJ := own_below ownJ hb3); (try replace hJ := (hJ.below hb3).more (Below.size hb3)))
      | (go_at_call 26; go_fit (toIntS_q Al bl ol cl _ ls _ hn3 (Nat.le_refl _) ((hL0.below hW).more hW.size)); rintro e w31 ⟨A31, c31, g31, rfl, hJ31, ownJ31, hbj31⟩; replace hr1 := (hr1.below hbj31).more hbj31.size; replace hr3 := (hr3.below hbj31).more hbj31.size; replace hW := bthen hW hbj31; replace hA := hA.below hbj31; (try replace h4 := (h4.below hbj31).more (Below.size hbj31)); (try replace h5 := h5.below hbj31); (try replace h6 := (h6.below hbj31).more (Below.size hbj31)); (try replace h9 := (h9.below hbj31).more (Below.size hbj31)); (try replace own5 := own_below own5 hbj31); (try replace ownP := own_below ownP hbj31); (try replace own6 := own_below own6 hbj31); (try replace ownJ := own_below ownJ hbj31); (try replace hJ := (hJ.below hbj31).more (Below.size hbj31)))
      | (go_at_call 49; go_fit (sStrongTimes_q n bs ps ls zs r Hq.out A1 A3 A31 g1 0 c1 g3 0 c3 g31 0 c31 _ _ hn hn2 hn3 (Nat.le_refl _) hr1 hr3 hJ31); rintro e W4 ⟨A4, c4, rfl, hown4, hb4⟩; replace hW := bthen hW hb4; replace hA := hA.below hb4; (try replace h4 := (h4.below hb4).more (Below.size hb4)); (try replace h5 := h5.below hb4); (try replace h6 := (h6.below hb4).more (Below.size hb4)); (try replace h9 := (h9.below hb4).more (Below.size hb4)); (try replace own5 := own_below own5 hb4); (try replace ownP := own_below ownP hb4); (try replace own6 := own_below own6 hb4); (try replace ownJ := own_below ownJ hb4); (try replace hJ := (hJ.below hb4).more (Below.size hb4))))
    obtain ⟨g4, h4⟩ := own_IntsR hown4
    have hg4 : 0 < zs.length → g4 < W4.heap.size := h4.lt
    have hX0W4 : w.heap.size < W4.heap.size := hA.ex
    clear a0 a1 a2 hr1 hown1 hr3 hown3 hown4 hb2 hb3 hb4 hJ31 ownJ31 hbj31
    have a0 := hA.c0
    have a1 := hA.c1
    have a2 := hA.c2
    go_upto_region 9 with (go_at_call 25; go_fit (toDeal_q n bs ps A A2 b o c b2 o2 c2 _ _ hn hn2 (Nat.le_refl _) hA.rd hA.rp); rintro e w5 ⟨A5, c5, g5, B5, d5, k5, rfl, hr5, own5, hp5, ownP, hb5⟩; replace hW := bthen hW hb5; replace hA := hA.below hb5; (try replace h4 := (h4.below hb5).more (Below.size hb5)); (try replace h5 := h5.below hb5); (try replace h6 := (h6.below hb5).more (Below.size hb5)); (try replace h9 := (h9.below hb5).more (Below.size hb5)); (try replace own5 := own_below own5 hb5); (try replace ownP := own_below ownP hb5); (try replace own6 := own_below own6 hb5); (try replace ownJ := own_below ownJ hb5); (try replace hJ := (hJ.below hb5).more (Below.size hb5)))
    have h5 := rd_new (n := n) (c := c5) (c2 := d5) (t := 28) hr5 hp5
    have hbn : Below w5.heap.size w5 (w5.alloc (.cells #[.int .i64 n, .slice A5 bs.length c5, .slice B5 ps.length d5] 28)) := by go_grown
    replace hW := bthen hW hbn
    replace hA := hA.below hbn
    replace h4 := (h4.below hbn).more hbn.size
    have hq5 : ∀ k, (Value.slice A5 bs.length c5).ownBlock = some k → W4.heap.size ≤ k ∧ k < w5.heap.size := fun k hk => own5.lt k hk
    have hqP : ∀ k, (Value.slice B5 ps.length d5).ownBlock = some k → W4.heap.size ≤ k ∧ k < w5.heap.size := fun k hk => ownP.lt k hk
    replace own5 := own_below own5 hbn
    replace ownP := own_below ownP hbn
    have hs5 : w5.heap.size < (w5.alloc (.cells #[.int .i64 n, .slice A5 bs.length c5, .slice B5 ps.length d5] 28)).heap.size := by simp
    have hs45 : W4.heap.size ≤ w5.heap.size := hb5.size
    generalize w5.alloc (.cells #[.int .i64 n, .slice A5 bs.length c5, .slice B5 ps.length d5] 28) = W5 at hA hW h4 h5 own5 ownP hs5 ⊢
    generalize w5.heap.size = X5 at h5 hq5 hqP hs5 hs45 ⊢
    clear a0 a1 a2 hr5 hp5 hb5 hbn
    go_upto_region 10 with (go_at_call 26; go_fit (toIntS_q Al bl ol cl _ ls _ hn3 (Nat.le_refl _) ((hL0.below hW).more hW.size)); rintro e wj ⟨Aj, cj, gj, rfl, hJ, ownJ, hbjj⟩; replace hW := bthen hW hbjj; replace hA := hA.below hbjj; (try replace h4 := (h4.below hbjj).more (Below.size hbjj)); (try replace h5 := h5.below hbjj); (try replace h6 := (h6.below hbjj).more (Below.size hbjj)); (try replace h9 := (h9.below hbjj).more (Below.size hbjj)); (try replace own5 := own_below own5 hbjj); (try replace ownP := own_below ownP hbjj); (try replace own6 := own_below own6 hbjj); (try replace ownJ := own_below ownJ hbjj); (try replace hJ := (hJ.below hbjj).more (Below.size hbjj)))
    have hqJ : ∀ k, (Value.slice Aj ls.length cj).ownBlock = some k → W5.heap.size ≤ k ∧ k < wj.heap.size := fun k hk => ownJ.lt k hk
    have hsJ : W5.heap.size ≤ wj.heap.size := hbjj.size
    clear hbjj
    have a0 := h5.c0
    have a1 := h5.c1
    have a2 := h5.c2
    go_upto_region 11 with (go_at_call 48; go_fit (strongTimes_q n bs ps ls zs r Hq.out A5 B5 Aj g5 0 c5 k5 0 d5 gj 0 cj _ _ hn hn2 hn3 (Nat.le_refl _) h5.rd h5.rp hJ); rintro e W6 ⟨A6, c6, rfl, own6, hb6⟩; replace hW := bthen hW hb6; replace hA := hA.below hb6; (try replace h4 := (h4.below hb6).more (Below.size hb6)); (try replace h5 := h5.below hb6); (try replace h6 := (h6.below hb6).more (Below.size hb6)); (try replace h9 := (h9.below hb6).more (Below.size hb6)); (try replace own5 := own_below own5 hb6); (try replace ownP := own_below ownP hb6); (try replace own6 := own_below own6 hb6); (try replace ownJ := own_below ownJ hb6); (try replace hJ := (hJ.below hb6).more (Below.size hb6)))
    obtain ⟨g6, h6⟩ := own_IntsR own6
    have hq6 : ∀ k, (Value.slice A6 zs.length c6).ownBlock = some k → wj.heap.size ≤ k ∧ k < W6.heap.size := fun k hk => own6.lt k hk
    have hg6 : 0 < zs.length → wj.heap.size ≤ g6 := fun h => (ownI_at' own6 h6 h).1
    have hs56 : W5.heap.size ≤ W6.heap.size := Nat.le_trans hsJ hb6.size
    have hsj6 : wj.heap.size ≤ W6.heap.size := hb6.size
    clear a0 a1 a2 hb6
    go_upto_region 13 with (go_at_call 29; go_fit (eqIntS_yes zs A6 A4 g6 0 c6 g4 0 c4 _ _ hql (Nat.le_refl _) h6 h4); rintro e w7 ⟨rfl, hb7⟩; replace hW := bthen hW hb7; replace hA := hA.below hb7; (try replace h4 := (h4.below hb7).more (Below.size hb7)); (try replace h5 := h5.below hb7); (try replace h6 := (h6.below hb7).more (Below.size hb7)); (try replace h9 := (h9.below hb7).more (Below.size hb7)); (try replace own5 := own_below own5 hb7); (try replace ownP := own_below ownP hb7); (try replace own6 := own_below own6 hb7); (try replace ownJ := own_below ownJ hb7); (try replace hJ := (hJ.below hb7).more (Below.size hb7)))
    have hs67 : W6.heap.size ≤ w7.heap.size := hb7.size
    clear hb7
    have hX0w := hA.ex
    have hX5w := h5.ex
    have a0 := hA.c0
    have a1 := hA.c1
    have a2 := hA.c2
    have e0 := h5.c0
    have e1 := h5.c1
    have e2 := h5.c2
    go_cut [56] (fun s wx => s = .bool false ∧ Below w.heap.size w wx ∧ RD wx w.heap.size b o n A c bs b2 o2 A2 c2 ps ∧ IntsR wx wx.heap.size g4 0 A4 zs ∧ RD wx X5 g5 0 n A5 c5 bs k5 0 B5 d5 ps ∧ IntsR wx wx.heap.size g6 0 A6 zs ∧ OwnB W4.heap.size wx (.slice A5 bs.length c5) bs ∧ wx.ownsRow W4.heap.size 40 4 (.slice B5 ps.length d5) ps.length (prCs ps) ∧ OwnI wj.heap.size wx (.slice A6 zs.length c6) zs ∧ IntsR wx wx.heap.size gj 0 Aj ls ∧ OwnI W5.heap.size wx (.slice Aj ls.length cj) ls ∧ W6.heap.size ≤ wx.heap.size)
    case first =>
      replace hW := hW.drew
      replace hA := hA.drew
      replace h4 : IntsR w7.drew w7.drew.heap.size g4 0 A4 zs := h4.below (show Below w7.heap.size w7 w7.drew by go_grown)
      replace h5 := h5.drew
      replace h6 : IntsR w7.drew w7.drew.heap.size g6 0 A6 zs := h6.below (show Below w7.heap.size w7 w7.drew by go_grown)
      replace own5 := own_below own5 (show Below w7.heap.size w7 w7.drew by go_grown)
      replace own6 := own_below own6 (show Below w7.heap.size w7 w7.drew by go_grown)
      replace ownP := own_below ownP (show Below w7.heap.size w7 w7.drew by go_grown)
      replace ownJ := own_below ownJ (show Below w7.heap.size w7 w7.drew by go_grown)
      replace hJ : IntsR w7.drew w7.drew.heap.size gj 0 Aj ls := hJ.below (show Below w7.heap.size w7 w7.drew by go_grown)
      have hs7 : W6.heap.size ≤ w7.drew.heap.size := hs67
      go_region_held3 (fun w' => w'.cell? ⟨w.heap.size, 0, none⟩ = some (.int .i64 n) ∧ w'.cell? ⟨w.heap.size, 1, none⟩ = some (.slice A bs.length c) ∧ w'.cell? ⟨w.heap.size, 2, none⟩ = some (.slice A2 ps.length c2) ∧ w'.cell? ⟨X5, 0, none⟩ = some (.int .i64 n) ∧ w'.cell? ⟨X5, 1, none⟩ = some (.slice A5 bs.length c5) ∧ w'.cell? ⟨X5, 2, none⟩ = some (.slice B5 ps.length d5))
        (first
          | (go_split_ands; (repeat' apply And.intro) <;> assumption)
          | exact ⟨hA.c0, hA.c1, hA.c2, h5.c0, h5.c1, h5.c2⟩
          | (go_keep; done))
        (first
          | (go_at_call 25; go_fit (toDeal_q n bs ps A A2 b o c b2 o2 c2 _ _ hn hn2 (Nat.le_refl _) hA.rd hA.rp); rintro e w8 ⟨A9, c9, g9, B9, d9, k9, rfl, hr9, own9, hp9, ownP9, hb8⟩; replace hW := bthen hW hb8; replace hA := hA.below hb8; (try replace h4 := (h4.below hb8).more (Below.size hb8)); (try replace h5 := h5.below hb8); (try replace h6 := (h6.below hb8).more (Below.size hb8)); (try replace h9 := (h9.below hb8).more (Below.size hb8)); (try replace own5 := own_below own5 hb8); (try replace ownP := own_below ownP hb8); (try replace own6 := own_below own6 hb8); (try replace ownJ := own_below ownJ hb8); (try replace hJ := (hJ.below hb8).more (Below.size hb8)); have hs8 := Nat.le_trans hs7 hb8.size; clear a0 a1 a2 e0 e1 e2; have a0 := hA.c0; have a1 := hA.c1; have a2 := hA.c2; have e0 := h5.c0; have e1 := h5.c1; have e2 := h5.c2)
          | (go_at_call 28; go_fit (eqDeal_yes n bs ps A5 A9 B5 B9 g5 0 c5 g9 0 c9 k5 0 d5 k9 0 d9 _ _ hn hn2 (Nat.le_refl _) h5.rd hr9 h5.rp hp9); rintro e w9 ⟨rfl, hb9⟩; replace hW := bthen hW hb9; replace hA := hA.below hb9; (try replace h4 := (h4.below hb9).more (Below.size hb9)); (try replace h5 := h5.below hb9); (try replace h6 := (h6.below hb9).more (Below.size hb9)); (try replace h9 := (h9.below hb9).more (Below.size hb9)); (try replace own5 := own_below own5 hb9); (try replace ownP := own_below ownP hb9); (try replace own6 := own_below own6 hb9); (try replace ownJ := own_below ownJ hb9); (try replace hJ := (hJ.below hb9).more (Below.size hb9)); have hs9 := Nat.le_trans hs8 hb9.size; clear a0 a1 a2 e0 e1 e2; have a0 := hA.c0; have a1 := hA.c1; have a2 := hA.c2; have e0 := h5.c0; have e1 := h5.c1; have e2 := h5.c2))
      go_wp2_with fail
      go_meet
      case rel => exact ⟨rfl, hW, hA, h4, h5, h6, own5, ownP, own6, hJ, ownJ, hs9⟩
    case rest =>
      clear hW hA h4 h5 h6 own5 ownP own6 hJ ownJ hs67 hX0w hX5w a0 a1 a2 e0 e1 e2
      obtain ⟨rfl, hW, hA, h4, h5, h6, own5, ownP, own6, hJ, ownJ, hsc⟩ := hcut
      go_upto_region 17 with (first
        | (go_at_call 26; go_fit (toIntS_q Al bl ol cl _ ls _ hn3 (Nat.le_refl _) ((hL0.below hW).more hW.size)); rintro e wk ⟨Ak, ck, gk, rfl, hJk, ownJk, hbjk⟩; replace hW := bthen hW hbjk; replace hA := hA.below hbjk; (try replace h4 := (h4.below hbjk).more (Below.size hbjk)); (try replace h5 := h5.below hbjk); (try replace h6 := (h6.below hbjk).more (Below.size hbjk)); (try replace h9 := (h9.below hbjk).more (Below.size hbjk)); (try replace own5 := own_below own5 hbjk); (try replace ownP := own_below ownP hbjk); (try replace own6 := own_below own6 hbjk); (try replace ownJ := own_below ownJ hbjk); (try replace hJ := (hJ.below hbjk).more (Below.size hbjk)); replace hsc := Nat.le_trans hsc hbjk.size)
        | (go_at_call 29; go_fit (eqIntS_yes ls Aj Ak gj 0 cj gk 0 ck _ _ hn3 (Nat.le_refl _) hJ hJk); rintro e wb ⟨rfl, hbb⟩; replace hW := bthen hW hbb; replace hA := hA.below hbb; (try replace h4 := (h4.below hbb).more (Below.size hbb)); (try replace h5 := h5.below hbb); (try replace h6 := (h6.below hbb).more (Below.size hbb)); (try replace h9 := (h9.below hbb).more (Below.size hbb)); (try replace own5 := own_below own5 hbb); (try replace ownP := own_below ownP hbb); (try replace own6 := own_below own6 hbb); (try replace ownJ := own_below ownJ hbb); (try replace hJ := (hJ.below hbb).more (Below.size hbb)); replace hsc := Nat.le_trans hsc hbb.size))
      clear hJk ownJk hbjk hbb
      have e0 := h5.c0
      have e1 := h5.c1
      have e2 := h5.c2
      have hlm : ¬ (1 + 3 * (bs.length : Int) + 4 * (ps.length : Int) + (ls.length : Int)) < 0 := by omega
      have hlq : ¬ (1 + (zs.length : Int)) < 0 := by omega
      go_upto_region 19 with (go_at_call 30; go_fit (markDeal_c n 1 W4.heap.size A5 B5 c5 d5 bs ps _ (by omega) hn hn2 own5 ownP (by omega)); rintro e w9 ⟨rfl, w9a, hG, hGP⟩)
      replace hW := hW.grown hG hW.size (fun k hk => by have := hq5 k hk; omega)
      replace hA := hA.grown hG (fun e => by have := hq5 _ e.symm; omega) (fun h e => by have := hq5 _ e.symm; have := hbA h; omega) (fun h e => by have := hq5 _ e.symm; have := hbA2 h; omega)
      replace h4 := intsR_grown h4 hG (fun h e => by have := hq5 _ e.symm; have := hg4 h; omega)
      replace h6 := intsR_grown h6 hG (fun h e => by have := hq5 _ e.symm; have := hg6 h; omega)
      replace own6 : OwnI wj.heap.size w9a (.slice A6 zs.length c6) zs := own6.kept hG (by
        cases hk6 : (Value.slice A6 zs.length c6).ownBlock with
        | none => exact .inl rfl
        | some k6 =>
          refine .inr (fun e => ?_)
          have h1 := hq5 k6 e.symm
          have h2 := hq6 k6 hk6
          omega)
      replace hsc := Nat.le_trans hsc hG.size
      replace ownJ : OwnI W5.heap.size w9a (.slice Aj ls.length cj) ls := ownJ.kept hG (by
        cases hkJ : (Value.slice Aj ls.length cj).ownBlock with
        | none => exact .inl rfl
        | some kJ =>
          refine .inr (fun e => ?_)
          have h1 := hq5 kJ e.symm
          have h2 := hqJ kJ hkJ
          omega)
      replace hW := hW.grown hGP hW.size (fun k hk => by have := hqP k hk; omega)
      replace hA := hA.grown hGP (fun e => by have := hqP _ e.symm; omega) (fun h e => by have := hqP _ e.symm; have := hbA h; omega) (fun h e => by have := hqP _ e.symm; have := hbA2 h; omega)
      replace h4 := intsR_grown h4 hGP (fun h e => by have := hqP _ e.symm; have := hg4 h; omega)
      replace h6 := intsR_grown h6 hGP (fun h e => by have := hqP _ e.symm; have := hg6 h; omega)
      replace own6 : OwnI wj.heap.size w9 (.slice A6 zs.length c6) zs := own6.kept hGP (by
        cases hk6 : (Value.slice A6 zs.length c6).ownBlock with
        | none => exact .inl rfl
        | some k6 =>
          refine .inr (fun e => ?_)
          have h1 := hqP k6 e.symm
          have h2 := hq6 k6 hk6
          omega)
      replace hsc := Nat.le_trans hsc hGP.size
      replace ownJ : OwnI W5.heap.size w9 (.slice Aj ls.length cj) ls := ownJ.kept hGP (by
        cases hkJ : (Value.slice Aj ls.length cj).ownBlock with
        | none => exact .inl rfl
        | some kJ =>
          refine .inr (fun e => ?_)
          have h1 := hqP kJ e.symm
          have h2 := hqJ kJ hkJ
          omega)
      clear hJ
      go_upto_region 20 with (go_at_call 31; go_fit (markIntS_c (1 + 3 * bs.length + 4 * ps.length) W5.heap.size Aj cj ls _ (by omega) hn3 ownJ (by omega)); rintro e w9b ⟨rfl, ownJ', hGJ⟩)
      replace hW := hW.grown hGJ hW.size (fun k hk => by have := hqJ k hk; omega)
      replace hA := hA.grown hGJ (fun e => by have := hqJ _ e.symm; omega) (fun h e => by have := hqJ _ e.symm; have := hbA h; omega) (fun h e => by have := hqJ _ e.symm; have := hbA2 h; omega)
      replace h4 := intsR_grown h4 hGJ (fun h e => by have := hqJ _ e.symm; have := hg4 h; omega)
      replace h6 := intsR_grown h6 hGJ (fun h e => by have := hqJ _ e.symm; have := hg6 h; omega)
      replace own6 : OwnI wj.heap.size w9b (.slice A6 zs.length c6) zs := own6.kept hGJ (by
        cases hk6 : (Value.slice A6 zs.length c6).ownBlock with
        | none => exact .inl rfl
        | some k6 =>
          refine .inr (fun e => ?_)
          have h1 := hqJ k6 e.symm
          have h2 := hq6 k6 hk6
          omega)
      replace hsc := Nat.le_trans hsc hGJ.size
      clear ownJ ownJ'
      clear own5 ownP h5 e0 e1 e2
      go_upto_region 23 with (go_at_call 29; go_fit (eqIntS_yes zs A6 A4 g6 0 c6 g4 0 c4 _ _ hql (Nat.le_refl _) h6 h4); rintro e w10 ⟨rfl, hb10⟩; replace hW := bthen hW hb10; replace hA := hA.below hb10; (try replace h4 := (h4.below hb10).more (Below.size hb10)); (try replace h5 := h5.below hb10); (try replace h6 := (h6.below hb10).more (Below.size hb10)); (try replace h9 := (h9.below hb10).more (Below.size hb10)); (try replace own5 := own_below own5 hb10); (try replace ownP := own_below ownP hb10); (try replace own6 := own_below own6 hb10); (try replace ownJ := own_below ownJ hb10); (try replace hJ := (hJ.below hb10).more (Below.size hb10)))
      replace hsc := Nat.le_trans hsc hb10.size
      go_upto_region 24 with (go_at_call 31; go_fit (markIntS_c 1 wj.heap.size A6 c6 zs _ (by omega) hql own6 (by omega)); rintro e w11 ⟨rfl, own6', hG6⟩)
      replace hW := hW.grown hG6 hW.size (fun k hk => by have := hq6 k hk; omega)
      replace hA := hA.grown hG6 (fun e => by have := hq6 _ e.symm; omega) (fun h e => by have := hq6 _ e.symm; have := hbA h; omega) (fun h e => by have := hq6 _ e.symm; have := hbA2 h; omega)
      replace h4 := intsR_grown h4 hG6 (fun h e => by have := hq6 _ e.symm; have := hg4 h; omega)
      obtain ⟨gm, h9⟩ : ∃ gm, IntsR w11 w11.heap.size gm 0 A6 (markI 1 zs.length) := by
        have hml := markI_length 1 zs.length
        exact own_IntsR (c := c6) (base := wj.heap.size) (by rw [hml]; exact own6')
      clear own6 own6' h6 hG6 hq5 hqP hq6 hg6
      go_upto_region 30 with (go_at_call 52; go_fit (heldIntS_c 1 A6 gm 0 c6 zs.length _ _ (by omega) hql h9); rintro e w12 ⟨rfl, rfl⟩)
      have a0 := hA.c0
      have a1 := hA.c1
      have a2 := hA.c2
      go_upto_region 31 with (first
        | (go_at_call 25; go_fit (toDeal_q n bs ps A A2 b o c b2 o2 c2 _ _ hn hn2 (Nat.le_refl _) hA.rd hA.rp); rintro e w13 ⟨A7, c7, g7, B7, d7, k7, rfl, hr7, own7, hp7, ownP7, hb13⟩; replace hW := bthen hW hb13; replace hA := hA.below hb13; (try replace h4 := (h4.below hb13).more (Below.size hb13)); (try replace h5 := h5.below hb13); (try replace h6 := (h6.below hb13).more (Below.size hb13)); (try replace h9 := (h9.below hb13).more (Below.size hb13)); (try replace own5 := own_below own5 hb13); (try replace ownP := own_below ownP hb13); (try replace own6 := own_below own6 hb13); (try replace ownJ := own_below ownJ hb13); (try replace hJ := (hJ.below hb13).more (Below.size hb13)))
        | (go_at_call 26; go_fit (toIntS_q Al bl ol cl _ ls _ hn3 (Nat.le_refl _) ((hL0.below hW).more hW.size)); rintro e w71 ⟨A71, c71, g71, rfl, hJ71, ownJ71, hbj71⟩; replace hr7 := (hr7.below hbj71).more hbj71.size; replace hp7 := (hp7.below hbj71).more hbj71.size; replace hW := bthen hW hbj71; replace hA := hA.below hbj71; (try replace h4 := (h4.below hbj71).more (Below.size hbj71)); (try replace h5 := h5.below hbj71); (try replace h6 := (h6.below hbj71).more (Below.size hbj71)); (try replace h9 := (h9.below hbj71).more (Below.size hbj71)); (try replace own5 := own_below own5 hbj71); (try replace ownP := own_below ownP hbj71); (try replace own6 := own_below own6 hbj71); (try replace ownJ := own_below ownJ hbj71); (try replace hJ := (hJ.below hbj71).more (Below.size hbj71)))
        | (go_at_call 48; go_fit (strongTimes_q n bs ps ls zs r Hq.out A7 B7 A71 g7 0 c7 k7 0 d7 g71 0 c71 _ _ hn hn2 hn3 (Nat.le_refl _) hr7 hp7 hJ71); rintro e W14 ⟨A8, c8, rfl, own8, hb14⟩; replace hW := bthen hW hb14; replace hA := hA.below hb14; (try replace h4 := (h4.below hb14).more (Below.size hb14)); (try replace h5 := h5.below hb14); (try replace h6 := (h6.below hb14).more (Below.size hb14)); (try replace h9 := (h9.below hb14).more (Below.size hb14)); (try replace own5 := own_below own5 hb14); (try replace ownP := own_below ownP hb14); (try replace own6 := own_below own6 hb14); (try replace ownJ := own_below ownJ hb14); (try replace hJ := (hJ.below hb14).more (Below.size hb14))))
      obtain ⟨g8, h6⟩ := own_IntsR own8
      clear a0 a1 a2 hr7 own7 own8 hp7 ownP7 hb13 hb14 hA
      go_upto_region 34 with (go_at_call 29; go_fit (eqIntS_yes zs A8 A4 g8 0 c8 g4 0 c4 _ _ hql (Nat.le_refl _) h6 h4); rintro e w15 ⟨rfl, hb15⟩; replace hW := bthen hW hb15; replace h9 := (h9.below hb15).more hb15.size)
      clear hb15 h4 h6
      go_wp2_with (go_at_call 52; go_fit (heldIntS_c 1 A6 gm 0 c6 zs.length _ _ (by omega) hql h9); rintro e w16 ⟨rfl, rfl⟩)
      go_ret
      exact ⟨rfl, hW⟩
end Go.Proofs.Ytdijfkpccbkdfaa
