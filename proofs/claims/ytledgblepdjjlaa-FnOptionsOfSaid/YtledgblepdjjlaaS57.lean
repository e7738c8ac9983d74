/-
  spec.OptionsOf.
-/
import Derived.Test.YtledgblepdjjlaaS55
namespace Go.Proofs.Ytledgblepdjjlaa
set_option linter.unusedVariables false
set_option linter.unusedSimpArgs false
open Go.RowKit Pp

/-- No cell lies in an empty block. -/
theorem cell_empty {w : World} {g : Nat} {t : TypeId} {fr : Nat × Nat} {o : Nat} (h : w.heap[g]? = some (.cells #[] t fr)) : w.cell? ⟨g, o, none⟩ = none := by
  unfold World.cell?
  simp [h]
theorem IntsR.grE {w w' : World} {g B b o : Nat} {t : TypeId} {fr : Nat × Nat} {A : Option Addr} {xs : List Int} (h : IntsR w B b o A xs) (hE : w.heap[g]? = some (.cells #[] t fr)) (hg : w.grownBy w' (some g)) : IntsR w' B b o A xs :=
  ⟨h.addr, h.lt, fun j hj => hg.cell (h.cell j hj) (fun e => by
    have e2 := Option.some.inj e
    have h1 := h.cell j hj
    dsimp only at e2
    rw [e2, cell_empty hE] at h1; cases h1)⟩
theorem KsR.grE {w w' : World} {g B b o : Nat} {t : TypeId} {fr : Nat × Nat} {A : Option Addr} {xs : List (List Int)} (h : KsR w B b o A xs) (hE : w.heap[g]? = some (.cells #[] t fr)) (hg : w.grownBy w' (some g)) : KsR w' B b o A xs :=
  ⟨h.addr, h.lt, fun j l hl => by
    obtain ⟨A', b', o', c', h1, h2⟩ := h.row j l hl
    refine ⟨A', b', o', c', hg.cell h1 (fun e => ?_), h2.grE hE hg⟩
    have e2 := Option.some.inj e
    dsimp only at e2
    rw [e2, cell_empty hE] at h1; cases h1⟩
theorem grown_then {w w1 w2 : World} {g : Nat} {row : Option Nat} (h : w.grownBy w1 (some g)) (h2 : w1.grownBy w2 row) (hr : ∀ q, row = some q → q = g ∨ w.heap.size ≤ q) : w.grownBy w2 (some g) :=
  ⟨h2.os.trans h.os, h2.tape.trans h.tape, h2.output.trans h.output, Nat.le_trans h.size h2.size, fun k hk hne => (h2.block k (Nat.lt_of_lt_of_le hk h.size) (fun e => by
    rcases hr k e.symm with e2 | e2
    · exact hne (by rw [e2])
    · omega)).trans (h.block k hk hne)⟩
theorem grown_bel {w w1 w2 : World} {g : Nat} (h : w.grownBy w1 (some g)) (hb : Below w1.heap.size w1 w2) : w.grownBy w2 (some g) := grown_then h (bel_grown hb) (fun q e => by cases e)
theorem cc_grown {w0 W W' : World} {B X b o b2 o2 g : Nat} {n : Int} {A A2 : Option Addr} {c c2 : Nat} {bs : List Bd} {cs : List (List Bd)} (hB : B ≤ w0.heap.size) (hR : BdsR w0 B b o A bs) (hC : ChR w0 B b2 o2 A2 cs) (h : CC w0 W X b o n A c bs b2 o2 A2 c2 cs) (hg : W.grownBy W' (some g)) (hg0 : w0.heap.size ≤ g) (hX : X ≠ g) : CC w0 W' X b o n A c bs b2 o2 A2 c2 cs := by
  have hbel : Below w0.heap.size w0 W' := h.bel.grown hg h.bel.size (fun k e => by cases e; exact hg0)
  have ne : some X ≠ some g := fun e => hX (Option.some.inj e)
  exact ⟨hbel, h.lo, ⟨Nat.lt_of_lt_of_le h.r.ex hg.size, hg.cell h.r.c0 ne, hg.cell h.r.c1 ne, hg.cell h.r.c2 ne, (hR.below (hbel.mono hB)).more (Nat.le_trans hB hbel.size), (hC.below (hbel.mono hB)).more (Nat.le_trans hB hbel.size)⟩⟩
theorem someJ_snoc (ch : Nat) (F : List Int → Bool) (j : Int) (zs : List (List Int)) (ks : List Int) : someJ ch F j (zs ++ [ks]) = (someJ ch F j zs || (decide (ks.getD ch 0 = j) && F ks)) := by simp [someJ]

set_option maxHeartbeats 4000000 in
set_option maxRecDepth 100000 in
theorem sOptionsOf_q (n : Int) (bs : List Bd) (cs : List (List Bd)) (ch : Int) (q : List Int) (hq : optionsOf ⟨n, bs⟩ cs ch = q) (A A2 : Option Addr) (b o c b2 o2 c2 B : Nat) (w : World) (hn : bs.length ≤ 2000000) (hn2 : cs.length ≤ 2000000) (hn3 : ∀ l ∈ cs, l.length ≤ 2000000) (hB : B ≤ w.heap.size) (hR : BdsR w B b o A bs) (hC : ChR w B b2 o2 A2 cs) :
    Calls Try.prog 62 #[.agg #[.int .i64 n, .slice A bs.length c, .slice A2 cs.length c2], .int .i64 ch] w fun e w' => ∃ A1 c1 g1, e = .returned (.slice A1 q.length c1) ∧ IntsR w' w'.heap.size g1 0 A1 q ∧ Below w.heap.size w w' := by
  obtain ⟨i0, hi0, hz0, hz1, hz2⟩ := info_parts infoI
  have hD := (cc_new (n := n) (c := c) (c2 := c2) (t := 37) hB hR hC).alloc (.cells #[] 3)
  have hE0 : ((w.alloc (.cells #[.int .i64 n, .slice A bs.length c, .slice A2 cs.length c2] 37)).alloc (.cells #[] 3)).heap[w.heap.size + 1]? = some (.cells #[] 3 (0, 0)) := at_new (by simp)
  have hG : w.heap.size + 1 < ((w.alloc (.cells #[.int .i64 n, .slice A bs.length c, .slice A2 cs.length c2] 37)).alloc (.cells #[] 3)).heap.size := by simp
  have H3 := hide hn3
  have hwc : IntKind.i64.wrap ((cs.length : Int) - 1) = (cs.length : Int) - 1 := IntWalk.i64_in _ (by omega)
  clear hn3
  unfold optionsOf at hq
  cases hc : caseOk ⟨n, bs⟩ cs
  · rw [hc] at hq
    simp only [Bool.false_and, Bool.false_eq_true, if_false] at hq
    have H1 := hide hc
    clear hc
    go_enter Try.func62, Try.ntmps62
    go_upto_region 2 with fail
    generalize (w.alloc (.cells #[.int .i64 n, .slice A bs.length c, .slice A2 cs.length c2] 37)).alloc (.cells #[] 3) = W at hD hE0 hG ⊢
    obtain ⟨p0, p1, p2⟩ : _ ∧ _ ∧ _ := ⟨hD.r.c0, hD.r.c1, hD.r.c2⟩
    go_wp2_with (go_at_call 53; go_fit (sCaseOk_c n bs cs A A2 b o c b2 o2 c2 _ _ hn hn2 H3.out (Nat.le_refl _) hD.r.rd hD.r.rc); rintro e w2 ⟨rfl, hb⟩; rw [H1.out]; replace hE0 := (hb.block _ hG).trans hE0; have hGx := Nat.lt_of_lt_of_le hG hb.size; clear hG; have hG := hGx; clear hGx; replace hD := hD.below hb; clear p0 p1 p2; have p0 := hD.r.c0; have p1 := hD.r.c1; have p2 := hD.r.c2)
    go_ret
    subst hq
    exact ⟨some ⟨w.heap.size + 1, 0, none⟩, 0, 0, rfl, IntsR.nil _ _ _, hD.bel⟩
  cases hi : inB ch 0 ((cs.length : Int) - 1)
  · rw [hi] at hq
    simp only [Bool.and_false, Bool.false_eq_true, if_false] at hq
    have H1 := hide hc
    have Hi := hide hi
    clear hc hi
    go_enter Try.func62, Try.ntmps62
    go_upto_region 2 with fail
    generalize (w.alloc (.cells #[.int .i64 n, .slice A bs.length c, .slice A2 cs.length c2] 37)).alloc (.cells #[] 3) = W at hD hE0 hG ⊢
    obtain ⟨p0, p1, p2⟩ : _ ∧ _ ∧ _ := ⟨hD.r.c0, hD.r.c1, hD.r.c2⟩
    go_wp2_with (first | (go_at_call 53; go_fit (sCaseOk_c n bs cs A A2 b o c b2 o2 c2 _ _ hn hn2 H3.out (Nat.le_refl _) hD.r.rd hD.r.rc); rintro e w2 ⟨rfl, hb⟩; rw [H1.out]; replace hE0 := (hb.block _ hG).trans hE0; have hGx := Nat.lt_of_lt_of_le hG hb.size; clear hG; have hG := hGx; clear hGx; replace hD := hD.below hb; clear p0 p1 p2; have p0 := hD.r.c0; have p1 := hD.r.c1; have p2 := hD.r.c2) | (go_at_call 66; go_fit (l1In_c ch 0 ((cs.length : Int) - 1) _); rintro e w5 ⟨rfl, rfl⟩; rw [Hi.out]))
    go_ret
    subst hq
    exact ⟨some ⟨w.heap.size + 1, 0, none⟩, 0, 0, rfl, IntsR.nil _ _ _, hD.bel⟩
  have hi2 := inB_iff.1 hi
  obtain ⟨h, rfl⟩ : ∃ h : Nat, ch = (h : Int) := Int.eq_ofNat_of_zero_le hi2.1
  have hhl : h < cs.length := by omega
  have hhl' : (h : Int) < (cs.length : Int) := by omega
  have hxl := List.getElem?_eq_getElem hhl
  obtain ⟨h10, h12, h4, hlo⟩ := caseOk_iff.1 hc
  dsimp only at h12
  have hl3 : ∀ (i : Nat) (l : List Bd), cs[i]? = some l → l.length ≤ 3 := fun i l hi => (listOk_iff.1 (hlo l (List.mem_of_getElem? hi))).1.2
  have hq2 := options_eq hc hi hxl
  have hql : optionsOf ⟨n, bs⟩ cs (h : Int) = q := by unfold optionsOf; exact hq
  rw [hql] at hq2
  have hl33 := hl3 _ _ hxl
  obtain ⟨zs, hzs⟩ : ∃ zs, allB cs cs.length = zs := ⟨_, rfl⟩
  obtain ⟨F, hF⟩ : ∃ F, fitsW ⟨n, bs⟩ cs = F := ⟨_, rfl⟩
  rw [hzs, hF] at hq2
  generalize cs[h] = l at hxl hq2 hl33
  have hzl : zs.length ≤ 81 := by
    have h1 := allB_le (cs := cs) hl3 cs.length
    have h2 : (3 : Nat) ^ cs.length ≤ 3 ^ 4 := Nat.pow_le_pow_right (by omega) h4
    rw [← hzs]; omega
  have Hq : Hid (outS h F zs l.length = q) := hq2.symm
  have Hok : Hid (∀ ks ∈ zs, picksOk cs ks = true) := fun ks hk => allB_ok (by rw [hzs]; exact hk)
  have HFe : Hid (∀ ks, F ks = fits ⟨n, bs ++ picked cs ks⟩) := fun ks => by rw [← hF]; rfl
  have Hxl := hide hxl
  have H1 := hide hc
  have Hi := hide hi
  have Hzs := hide hzs
  have HL3 := hide hl3
  clear hc hi hzs hl3 hlo h10 hq hql hF hq2 hi2 hxl
  go_enter Try.func62, Try.ntmps62
  go_upto_region 2 with fail
  generalize (w.alloc (.cells #[.int .i64 n, .slice A bs.length c, .slice A2 cs.length c2] 37)).alloc (.cells #[] 3) = W at hD hE0 hG ⊢
  obtain ⟨p0, p1, p2⟩ : _ ∧ _ ∧ _ := ⟨hD.r.c0, hD.r.c1, hD.r.c2⟩
  go_upto_region 6 with (first
    | (go_at_call 53; go_fit (sCaseOk_c n bs cs A A2 b o c b2 o2 c2 _ _ hn hn2 H3.out (Nat.le_refl _) hD.r.rd hD.r.rc); rintro e w2 ⟨rfl, hb⟩; rw [H1.out]; replace hE0 := (hb.block _ hG).trans hE0; have hGx := Nat.lt_of_lt_of_le hG hb.size; clear hG; have hG := hGx; clear hGx; replace hD := hD.below hb; clear p0 p1 p2; have p0 := hD.r.c0; have p1 := hD.r.c1; have p2 := hD.r.c2)
    | (go_at_call 66; go_fit (l1In_c (h : Int) 0 ((cs.length : Int) - 1) _); rintro e w5 ⟨rfl, rfl⟩; rw [Hi.out])
    | (go_at_call 98; go_fit (l7All_q n bs cs h4 HL3.out A A2 b o c b2 o2 c2 _ _ (Nat.le_refl _) hD.r.rd hD.r.rc zs Hzs.out); rintro e w4 ⟨A6, c6, g6, rfl, hKs, hb⟩; replace hE0 := (hb.block _ hG).trans hE0; have hGx := Nat.lt_of_lt_of_le hG hb.size; clear hG; have hG := hGx; clear hGx; replace hD := hD.below hb; clear p0 p1 p2; have p0 := hD.r.c0; have p1 := hD.r.c1; have p2 := hD.r.c2))
  clear p0 p1 p2 hb
  go_loopg [7, 5] l.length (fun gh s7 s5 wr => ∃ (j : Nat) (out : List Int) (A5 : Option Addr) (c5 : Nat), j ≤ l.length ∧ gh = l.length - j ∧ s7 = .int .i64 j ∧ s5 = .slice A5 out.length c5 ∧ Hid (out = outS h F zs j) ∧ out.length ≤ j ∧ w4.grownBy wr (some (w.heap.size + 1)) ∧ OwnI (w.heap.size + 1) wr (.slice A5 out.length c5) out ∧ (∀ q, (Value.slice A5 out.length c5).ownBlock = some q → q = w.heap.size + 1 ∨ w4.heap.size ≤ q))
  case atStart => exact ⟨0, [], some ⟨w.heap.size + 1, 0, none⟩, 0, Nat.zero_le _, rfl, rfl, rfl, by simp [Hid, outS], by simp, World.grownBy.refl _ _, own_empty hE0 (Nat.le_refl _), fun q e => by cases e; exact .inl rfl⟩
  case round =>
    obtain ⟨j, out, A5, c5, hj, rfl, rfl, rfl, Hout, hol, hgr, hown, hob⟩ := hrel
    have hDr := cc_grown hB hR hC hD hgr (by omega) (by omega)
    have hKr := (hKs.grE hE0 hgr).more hgr.size
    have p2 := hDr.r.c2
    obtain rfl := hDr.r.rc.addr (by omega)
    obtain ⟨A8, b8, o8, c8, r8, hrd8⟩ := hDr.r.rc.row _ _ Hxl.out
    by_cases hjl : j < l.length
    · have hjl' : (j : Int) < (l.length : Int) := by omega
      go_upto_region 10 with fail
      obtain ⟨W0, hW0⟩ : ∃ W0, wr = W0 := ⟨_, rfl⟩
      rw [hW0] at hDr hKr hgr hown p2 r8 hrd8 ⊢
      clear hW0 wr
      go_loopg [9, 8] zs.length (fun gh s9 s8 wr => ∃ (k : Nat) (fl : Bool), k ≤ zs.length ∧ gh = zs.length - k ∧ s9 = .int .i64 k ∧ s8 = .bool fl ∧ Hid (fl = someJ h F (j : Int) (zs.take k)) ∧ CC w wr w.heap.size b o n A c bs b2 o2 (some ⟨b2, o2, none⟩) c2 cs ∧ KsR wr wr.heap.size g6 0 A6 zs ∧ Below W0.heap.size W0 wr)
      case atStart => exact ⟨0, false, Nat.zero_le _, rfl, rfl, rfl, by simp [Hid, someJ], hDr, hKr, Below.refl _ _⟩
      case round =>
        clear p2 r8 hrd8
        obtain ⟨k, fl, hk, rfl, rfl, rfl, Hfl, hD, hKs, hbW⟩ := hrel
        obtain ⟨p0, p1, p2⟩ : _ ∧ _ ∧ _ := ⟨hD.r.c0, hD.r.c1, hD.r.c2⟩
        by_cases hlt : k < zs.length
        · have hlt' : (k : Int) < (zs.length : Int) := by omega
          obtain rfl := hKs.addr (by omega)
          have hx := List.getElem?_eq_getElem hlt
          obtain ⟨A7, b7, o7, c7, r0, hrk⟩ := hKs.row _ _ hx
          simp only [Nat.zero_add] at r0
          have hpk := Hok.out _ (List.getElem_mem hlt)
          have HT : Hid (someJ h F (j : Int) (zs.take (k + 1)) = (fl || (decide (zs[k].getD h 0 = (j : Int)) && F zs[k]))) := by
            unfold Hid
            rw [List.take_succ_eq_append_getElem hlt, someJ_snoc, Hfl.out]
          generalize zs[k] = ks at hx r0 hrk hpk HT
          clear hx
          have hkl := (picksOk_iff.1 hpk).1
          have hlk : ks.length ≤ cs.length := by omega
          have hhk : (h : Int) < (ks.length : Int) := by omega
          obtain rfl := hrk.addr (by omega)
          have k0 := hrk.cell h (by omega)
          obtain ⟨v, hv⟩ : ∃ v, ks.getD h 0 = v := ⟨_, rfl⟩
          rw [hv] at k0 HT
          clear hv
          obtain ⟨rs, hrs⟩ : ∃ rs, bs ++ picked cs ks = rs := ⟨_, rfl⟩
          have hpl : rs.length ≤ 2000000 := by have := picked_length cs ks hlk; rw [← hrs, List.length_append]; omega
          have hfe := HFe.out ks
          rw [hrs] at hfe
          rw [hfe] at HT
          have Hpk := hide hpk
          have Hrs := hide hrs
          clear hrs hfe hpk hkl
          have hDl := hD.r.ex
          have hgl := hKs.lt (by omega)
          have hbl := hrk.lt (by omega)
          have hdr : Below wr.heap.size wr wr.drew := by go_grown
          have hd : ∀ m, Below wr.heap.size wr (wr.drewN m) := fun m => ⟨rfl, rfl, rfl, Nat.le_refl _, fun _ _ => rfl⟩
          cases fl
          · by_cases he : v = (j : Int)
            · have heb : (v == (j : Int)) = true := by simp [he]
              have HT2 : Hid (fits ⟨n, rs⟩ = someJ h F (j : Int) (zs.take (k + 1))) := by unfold Hid; rw [HT.out, decide_eq_true he]; simp
              clear he
              obtain ⟨fr, hfr⟩ : ∃ fr, fits ⟨n, rs⟩ = fr := ⟨_, rfl⟩
              have Hf := hide hfr
              rw [hfr] at HT2
              clear hfr
              go_upto_region 12 with fail
              go_region_held3 (fun w' => w'.cell? ⟨w.heap.size, 0, none⟩ = some (.int .i64 n) ∧ w'.cell? ⟨w.heap.size, 1, none⟩ = some (.slice A bs.length c) ∧ w'.cell? ⟨w.heap.size, 2, none⟩ = some (.slice (some ⟨b2, o2, none⟩) cs.length c2) ∧ w'.cell? ⟨g6, k, none⟩ = some (.slice (some ⟨b7, o7, none⟩) ks.length c7) ∧ w'.cell? ⟨b7, o7 + h, none⟩ = some (.int .i64 v))
                (first
                  | (go_split_ands; (repeat' apply And.intro) <;> assumption)
                  | (go_keep; done))
                (first
                  | (go_at_call 67; go_fit (l7Way_q n bs cs ks h12 h4 hlk H3.out (picksOk_iff.1 Hpk.out).2 rs Hrs.out A _ _ b o c b2 o2 c2 b7 o7 c7 _ wr.drew (Nat.le_refl _) (hD.drew.r.rd) (hD.drew.r.rc) ((hrk.below hdr).more hdr.size)); rintro e w5 ⟨A7, c9, g9, rfl, hr9, own9, hb7a⟩; have hb7 := bthen hdr hb7a; have q0 := ((bcell hb7).1 _ _ hDl).trans p0; have q1 := ((bcell hb7).1 _ _ hDl).trans p1; have q2 := ((bcell hb7).1 _ _ hDl).trans p2; have q3 := ((bcell hb7).1 _ _ hgl).trans r0; have q4 := ((bcell hb7).1 _ _ hbl).trans k0)
                  | (go_at_call 80; go_fit (sFitsOk_c ⟨n, rs⟩ A7 g9 0 c9 _ _ hpl (Nat.le_refl _) hr9); rintro e w6 ⟨rfl, hb8a⟩; rw [Hf.out]; have hb8 := bthen hb7 hb8a; have s0 := ((bcell hb8).1 _ _ hDl).trans p0; have s1 := ((bcell hb8).1 _ _ hDl).trans p1; have s2 := ((bcell hb8).1 _ _ hDl).trans p2; have s3 := ((bcell hb8).1 _ _ hgl).trans r0; have s4 := ((bcell hb8).1 _ _ hbl).trans k0))
              go_wp2_with fail
              go_roundg (zs.length - (k + 1))
              case measure => go_light; omega
              case rel => go_light; exact ⟨k + 1, fr, by omega, rfl, by go_num, rfl, HT2, hD.below hb8, (hKs.below hb8).more hb8.size, hbW.trans (hb8.mono hbW.size)⟩
            · have heb : (v == (j : Int)) = false := by simp [he]
              have HT2 : Hid (false = someJ h F (j : Int) (zs.take (k + 1))) := by unfold Hid; rw [HT.out, decide_eq_false he]; rfl
              clear he
              go_upto_region 12 with fail
              go_quiet (fail)
              go_wp2_with fail
              go_roundg (zs.length - (k + 1))
              case measure => go_light; omega
              case rel => go_light; exact ⟨k + 1, false, by omega, rfl, by go_num, rfl, HT2, hD.below (hd _), (hKs.below (hd _)).more (hd _).size, hbW.trans ((hd _).mono hbW.size)⟩
          · have HT2 : Hid (true = someJ h F (j : Int) (zs.take (k + 1))) := by unfold Hid; rw [HT.out]; rfl
            go_upto_region 12 with fail
            go_quiet (fail)
            go_wp2_with fail
            go_roundg (zs.length - (k + 1))
            case measure => go_light; omega
            case rel => go_light; exact ⟨k + 1, true, by omega, rfl, by go_num, rfl, HT2, hD.below (hd _), (hKs.below (hd _)).more (hd _).size, hbW.trans ((hd _).mono hbW.size)⟩
        · obtain rfl : k = zs.length := by omega
          have HS : Hid (someJ h F (j : Int) zs = fl) := by have h := Hfl.out; rw [List.take_length] at h; exact h.symm
          have hown2 := own_below hown hbW
          have hgr2 := grown_bel hgr hbW
          have hw4 := hD.bel.size
          cases fl
          · have HN : Hid (out = outS h F zs (j + 1)) := by unfold Hid; rw [outS_succ, HS.out]; exact Hout.out
            go_wp2_with fail
            go_roundg (l.length - (j + 1))
            case measure => go_light; omega
            case rel => go_light; exact ⟨j + 1, out, A5, c5, by omega, rfl, by go_num, rfl, HN, by omega, hgr2, hown2, hob⟩
          · have HN : Hid (out ++ [(j : Int)] = outS h F zs (j + 1)) := by unfold Hid; rw [outS_succ, HS.out, Hout.out]; rfl
            have hownA := hown2.alloc (.cells #[.int .i64 (j : Int)] 3)
            have hgrA := grown_bel hgr2 (show Below wr.heap.size wr (wr.alloc (.cells #[.int .i64 (j : Int)] 3)) by go_grown)
            have hsA : w.heap.size + 1 ≤ (wr.alloc (.cells #[.int .i64 (j : Int)] 3)).heap.size := by have := hD.r.ex; simp; omega
            have HlE : Hid ((out ++ [(j : Int)]).length = out.length + 1) := by simp [Hid]
            go_wp2_with (at_builtin; refine app_list _ rfl (.tmp 64) (.tmp 66) _ rfl (w.heap.size + 1) 3 i0 _ 1 8 Try.underlying28 hi0 hz0 hz1 hz2 rfl (by omega) (.slice A5 out.length c5) out.length (out.map (Value.int .i64)) rfl hownA _ 1 _ [.int .i64 (j : Int)] rfl rfl (NewsAt.block (cs := #[.int .i64 (j : Int)]) (at_new rfl)) (by simp [Value.oneCell']) (by omega) (by omega) hsA ?_; intro A9 c9 w9 hown9 hg9 hat9)
            have hgr9 := grown_then hgrA hg9 hob
            have hob9 : ∀ q, (Value.slice A9 (out.length + 1) c9).ownBlock = some q → q = w.heap.size + 1 ∨ w4.heap.size ≤ q := by
              intro q e
              rcases hat9 with h9 | h9
              · rw [h9] at e; exact hob q e
              · rw [h9] at e
                have e2 := Option.some.inj e
                have := hgrA.size
                exact .inr (by omega)
            have hown10 : OwnI (w.heap.size + 1) w9 (.slice A9 (out ++ [(j : Int)]).length c9) (out ++ [(j : Int)]) := by unfold OwnI; rw [HlE.out, List.map_append]; exact hown9
            clear hownA hgrA hsA hown9 hg9 hat9
            go_roundg (l.length - (j + 1))
            case measure => go_light; omega
            case rel => go_light; exact ⟨j + 1, out ++ [(j : Int)], A9, c9, by omega, rfl, by go_num, by rw [HlE.out], HN, by rw [HlE.out]; omega, hgr9, hown10, by rw [HlE.out]; exact hob9⟩
    · obtain rfl : j = l.length := by omega
      have HE : Hid (out = q) := by unfold Hid; rw [Hout.out, Hq.out]
      obtain ⟨g9, hr9⟩ := own_IntsR hown
      go_wp2_with fail
      go_ret
      have e := HE.out
      subst e
      exact ⟨A5, c5, g9, rfl, hr9, hDr.bel⟩
end Go.Proofs.Ytledgblepdjjlaa
